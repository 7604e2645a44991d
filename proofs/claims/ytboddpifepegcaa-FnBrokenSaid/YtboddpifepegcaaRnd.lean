/- Plain laws on rounding: a result of an operation on single words lies between any two words between which the exact result lies. No program in sight. -/
import Derived.Test.YtboddpifepegcaaFl
namespace Go.Proofs.Ytboddpifepegcaa
set_option maxRecDepth 20000
open Ieee

/-! ### Cutting to a whole number -/
theorem cut_bounds (n d K : Nat) (neg : Bool) : (n ≤ K * 2 ^ d → Toward.even.cut neg n d ≤ K) ∧ (K * 2 ^ d ≤ n → K ≤ Toward.even.cut neg n d) := by
  unfold Toward.cut
  simp only
  by_cases hd : d ≤ n.log2 + 2
  · rw [Nat.min_eq_left hd, Nat.shiftLeft_eq, Nat.one_mul]
    have hp : 0 < 2 ^ d := Nat.two_pow_pos _
    have hdm : 2 ^ d * (n / 2 ^ d) + n % 2 ^ d = n := Nat.div_add_mod n (2 ^ d)
    have hm := Nat.mod_lt n hp
    generalize n / 2 ^ d = low at *
    generalize n % 2 ^ d = rest at *
    generalize 2 ^ d = g at *
    generalize hmore : (decide (g < 2 * rest) || g == 2 * rest && low % 2 == 1) = more
    constructor
    · intro h
      by_cases hr : rest = 0
      · have : more = false := by rw [← hmore, hr]; simp; omega
        rw [this]
        have : g * low ≤ g * K := by rw [Nat.mul_comm g K]; omega
        have := Nat.le_of_mul_le_mul_left this hp
        simpa using this
      · have : g * low < g * K := by rw [Nat.mul_comm g K]; omega
        have := Nat.lt_of_mul_lt_mul_left this
        have hb : more.toNat ≤ 1 := by cases more <;> simp
        omega
    · intro h
      have : g * K < g * (low + 1) := by rw [Nat.mul_comm g K, Nat.mul_add]; omega
      have := Nat.lt_of_mul_lt_mul_left this
      omega
  · have hd' : n.log2 + 2 ≤ d := by omega
    rw [Nat.min_eq_right hd', Nat.shiftLeft_eq, Nat.one_mul]
    have hlt : n < 2 ^ (n.log2 + 1) := Nat.lt_log2_self
    have hg : 2 ^ (n.log2 + 2) = 2 * 2 ^ (n.log2 + 1) := by rw [Nat.pow_succ]; omega
    have e1 : n / 2 ^ (n.log2 + 2) = 0 := Nat.div_eq_of_lt (by omega)
    have e2 : n % 2 ^ (n.log2 + 2) = n := Nat.mod_eq_of_lt (by omega)
    rw [e1, e2]
    have e3 : (decide (2 ^ (n.log2 + 2) < 2 * n) || 2 ^ (n.log2 + 2) == 2 * n && 0 % 2 == 1) = false := by
      have : ¬ 2 ^ (n.log2 + 2) < 2 * n := by omega
      simp [this]
    rw [e3]
    constructor
    · intro _; simp
    · intro h
      have hge : 2 ^ (n.log2 + 2) ≤ 2 ^ d := Nat.pow_le_pow_right (by omega) hd'
      rcases Nat.eq_zero_or_pos K with h0 | h0
      · subst h0; simp
      · have : 2 ^ d ≤ K * 2 ^ d := Nat.le_mul_of_pos_left _ h0
        omega

/-! ### The magnitude of a rung, by binade -/
theorem magOf_uk (u k : Nat) (hk : k ≤ 16777216) (hu : 0 < u → 8388608 ≤ k) : magOf (u * 8388608 + k) = k * 2 ^ u := by
  unfold magOf
  rcases Nat.eq_zero_or_pos u with h0 | h0
  · subst h0
    simp only [Nat.zero_mul, Nat.zero_add, Nat.pow_zero, Nat.mul_one]
    by_cases h1 : k < 8388608
    · rw [if_pos h1]
    · rw [if_neg h1]
      by_cases h2 : k = 16777216
      · subst h2; decide
      · have e1 : k / 8388608 = 1 := by omega
        have e2 : k % 8388608 = k - 8388608 := by omega
        rw [e1, e2]; simp; omega
  · have hk2 := hu h0
    rw [if_neg (by omega)]
    by_cases h2 : k = 16777216
    · subst h2
      have e1 : (u * 8388608 + 16777216) % 8388608 = 0 := by omega
      have e2 : (u * 8388608 + 16777216) / 8388608 - 1 = u + 1 := by omega
      rw [e1, e2, Nat.pow_succ]; omega
    · have e1 : (u * 8388608 + k) % 8388608 = k - 8388608 := by omega
      have e2 : (u * 8388608 + k) / 8388608 - 1 = u := by omega
      rw [e1, e2, show 8388608 + (k - 8388608) = k by omega]

/-- Every rung is one of a binade. -/
theorem rung_uk (R : Nat) : ∃ e c, R = e * 8388608 + c ∧ c < 16777216 ∧ (0 < e → 8388608 ≤ c) := by
  by_cases h : R < 8388608
  · exact ⟨0, R, by omega, by omega, by omega⟩
  · exact ⟨R / 8388608 - 1, R % 8388608 + 8388608, by omega, by omega, by omega⟩

theorem magOf_le_iff {a b : Nat} : magOf a ≤ magOf b ↔ a ≤ b := by
  constructor
  · intro h
    rcases Nat.lt_or_ge b a with h' | h'
    · have := magOf_lt h'; omega
    · exact h'
  · intro h
    rcases Nat.lt_or_ge a b with h' | h'
    · exact Nat.le_of_lt (magOf_lt h')
    · have : a = b := by omega
      subst this; exact Nat.le_refl _

/-! ### The nearest word -/
/-- The rung that 'nearest' finds. -/
def rungOf (mag : Nat) (place : Int) : Nat :=
  if mag = 0 then 0 else
  min ((max (place + mag.log2 - 23) (-149) + 149).toNat * 8388608 + Toward.even.cut false (mag <<< (place - max (place + mag.log2 - 23) (-149)).toNat) (max (place + mag.log2 - 23) (-149) - place).toNat) 2139095040

theorem cut_neg (neg : Bool) (n d : Nat) : Toward.even.cut neg n d = Toward.even.cut false n d := rfl

theorem nearest_rung (neg : Bool) (mag : Nat) (place : Int) : single.nearest neg mag place = single.word neg (rungOf mag place) := by
  have e2 : single.binade = 8388608 := by decide
  have e3 : single.infRung = 2139095040 := by decide
  have e4 : single.leastPlace = -149 := by decide
  have e5 : single.fractionBits = 23 := rfl
  unfold Format.nearest rungOf
  by_cases h : mag = 0
  · rw [if_pos h, if_pos h]
  · rw [if_neg h, if_neg h]
    simp only [e2, e3, e4, e5, cut_neg neg]
    rw [show (max (place + (mag.log2 : Int) - ((23 : Nat) : Int)) (-149) - -149).toNat = (max (place + (mag.log2 : Int) - 23) (-149) + 149).toNat by omega]
    rfl

theorem rungOf_le (mag : Nat) (place : Int) : rungOf mag place ≤ 2139095040 := by
  unfold rungOf; split
  · omega
  · exact Nat.min_le_right _ _

theorem rungOf_bounds (mag : Nat) (place : Int) (R : Nat) (hR : R ≤ 2139095040) :
    (mag * 2 ^ (place + 149).toNat ≤ magOf R * 2 ^ (-149 - place).toNat → rungOf mag place ≤ R) ∧
    (magOf R * 2 ^ (-149 - place).toNat ≤ mag * 2 ^ (place + 149).toNat → R ≤ rungOf mag place) := by
  by_cases h0 : mag = 0
  · subst h0
    unfold rungOf
    rw [if_pos rfl]
    constructor
    · intro _; omega
    · intro h
      have hm : magOf R * 2 ^ (-149 - place).toNat = 0 := by simpa using h
      have hp : 0 < 2 ^ (-149 - place).toNat := Nat.two_pow_pos _
      have : magOf R = 0 := by
        rcases Nat.eq_zero_or_pos (magOf R) with h' | h'
        · exact h'
        · have := Nat.mul_pos h' hp; omega
      have := magOf_zero this
      omega
  · unfold rungOf
    rw [if_neg h0]
    have hl1 : 2 ^ mag.log2 ≤ mag := Nat.log2_self_le h0
    have hl2 : mag < 2 ^ (mag.log2 + 1) := Nat.lt_log2_self
    generalize hE : mag.log2 = E at *
    generalize hlast : max (place + (E : Int) - 23) (-149) = last at *
    generalize hn : mag <<< (place - last).toNat = n
    generalize hd : (last - place).toNat = d
    generalize hu : (last + 149).toNat = u
    generalize ha : (place + 149).toNat = a
    generalize hb : (-149 - place).toNat = b
    generalize hsh : (place - last).toNat = sh at hn
    rw [Nat.shiftLeft_eq] at hn
    have hrel : u + b + sh = a + d := by omega
    -- the number that is kept
    have hk1 : Toward.even.cut false n d ≤ 16777216 := by
      refine (cut_bounds n d 16777216 false).1 ?_
      have h1 : E + 1 + sh ≤ 24 + d := by omega
      have h2 : (2 : Nat) ^ (E + 1 + sh) ≤ 2 ^ (24 + d) := Nat.pow_le_pow_right (by omega) h1
      rw [Nat.pow_add 2 (E + 1), Nat.pow_add 2 24] at h2
      have h3 : n ≤ 2 ^ (E + 1) * 2 ^ sh := by rw [← hn]; exact Nat.mul_le_mul_right _ (Nat.le_of_lt hl2)
      calc n ≤ 2 ^ (E + 1) * 2 ^ sh := h3
        _ ≤ 2 ^ 24 * 2 ^ d := h2
        _ = 16777216 * 2 ^ d := rfl
    have hlow : 0 < u → 8388608 * 2 ^ d ≤ n := by
      intro hpos
      have h1 : E + sh = 23 + d := by omega
      have h2 : (2 : Nat) ^ (E + sh) = 2 ^ (23 + d) := by rw [h1]
      rw [Nat.pow_add, Nat.pow_add] at h2
      calc 8388608 * 2 ^ d = 2 ^ 23 * 2 ^ d := rfl
        _ = 2 ^ E * 2 ^ sh := h2.symm
        _ ≤ mag * 2 ^ sh := Nat.mul_le_mul_right _ hl1
        _ = n := hn
    have hk2 : 0 < u → 8388608 ≤ Toward.even.cut false n d := fun h => (cut_bounds n d 8388608 false).2 (hlow h)
    have hmag := magOf_uk u (Toward.even.cut false n d) hk1 hk2
    -- bounds that are multiples of the unit
    have up : ∀ K, mag * 2 ^ a ≤ K * 2 ^ u * 2 ^ b → Toward.even.cut false n d ≤ K := by
      intro K h
      refine (cut_bounds n d K false).1 ?_
      have hp : 0 < 2 ^ a := Nat.two_pow_pos _
      refine Nat.le_of_mul_le_mul_right ?_ hp
      calc n * 2 ^ a = mag * 2 ^ a * 2 ^ sh := by rw [← hn, Nat.mul_right_comm]
        _ ≤ K * 2 ^ u * 2 ^ b * 2 ^ sh := Nat.mul_le_mul_right _ h
        _ = K * 2 ^ (u + b + sh) := by rw [Nat.pow_add, Nat.pow_add]; simp only [Nat.mul_assoc]
        _ = K * 2 ^ d * 2 ^ a := by rw [hrel, Nat.pow_add, Nat.mul_assoc, Nat.mul_comm (2 ^ a)]
    have down : ∀ K, K * 2 ^ u * 2 ^ b ≤ mag * 2 ^ a → K ≤ Toward.even.cut false n d := by
      intro K h
      refine (cut_bounds n d K false).2 ?_
      have hp : 0 < 2 ^ a := Nat.two_pow_pos _
      refine Nat.le_of_mul_le_mul_right ?_ hp
      calc K * 2 ^ d * 2 ^ a = K * 2 ^ (u + b + sh) := by rw [hrel, Nat.pow_add, Nat.mul_assoc, Nat.mul_comm (2 ^ a)]
        _ = K * 2 ^ u * 2 ^ b * 2 ^ sh := by rw [Nat.pow_add, Nat.pow_add]; simp only [Nat.mul_assoc]
        _ ≤ mag * 2 ^ a * 2 ^ sh := Nat.mul_le_mul_right _ h
        _ = n * 2 ^ a := by rw [← hn, Nat.mul_right_comm]
    obtain ⟨e, c, rfl, hc, hce⟩ := rung_uk R
    have hM := magOf_uk e c (by omega) hce
    rw [hM]
    -- whether the bound is a multiple of the unit
    by_cases heu : u ≤ e
    · have hsplit : c * 2 ^ e = c * 2 ^ (e - u) * 2 ^ u := by rw [Nat.mul_assoc, ← Nat.pow_add]; congr 2; omega
      constructor
      · intro h
        have h1 := up (c * 2 ^ (e - u)) (by rw [← hsplit]; exact h)
        refine Nat.le_trans (Nat.min_le_left _ _) (magOf_le_iff.1 ?_)
        rw [hmag, hM, hsplit]
        exact Nat.mul_le_mul_right _ h1
      · intro h
        have h1 := down (c * 2 ^ (e - u)) (by rw [← hsplit]; exact h)
        refine Nat.le_min.2 ⟨magOf_le_iff.1 ?_, hR⟩
        rw [hmag, hM, hsplit]
        exact Nat.mul_le_mul_right _ h1
    · have hu0 : 0 < u := by omega
      have hlt : c * 2 ^ e < 8388608 * 2 ^ u := by
        have h1 : (2 : Nat) ^ (e + 1) ≤ 2 ^ u := Nat.pow_le_pow_right (by omega) (by omega)
        rw [Nat.pow_succ] at h1
        have h2 : c * 2 ^ e < 16777216 * 2 ^ e := Nat.mul_lt_mul_of_pos_right hc (Nat.two_pow_pos _)
        omega
      constructor
      · intro h
        exfalso
        have h1 : 8388608 * 2 ^ u * 2 ^ b ≤ mag * 2 ^ a := by
          have hp : 0 < 2 ^ sh := Nat.two_pow_pos _
          refine Nat.le_of_mul_le_mul_right ?_ hp
          calc 8388608 * 2 ^ u * 2 ^ b * 2 ^ sh = 8388608 * 2 ^ (u + b + sh) := by rw [Nat.pow_add, Nat.pow_add]; simp only [Nat.mul_assoc]
            _ = 8388608 * 2 ^ d * 2 ^ a := by rw [hrel, Nat.pow_add, Nat.mul_assoc, Nat.mul_comm (2 ^ a)]
            _ ≤ n * 2 ^ a := Nat.mul_le_mul_right _ (hlow hu0)
            _ = mag * 2 ^ a * 2 ^ sh := by rw [← hn, Nat.mul_right_comm]
        have h2 : c * 2 ^ e * 2 ^ b < 8388608 * 2 ^ u * 2 ^ b := Nat.mul_lt_mul_of_pos_right hlt (Nat.two_pow_pos _)
        omega
      · intro _
        refine Nat.le_min.2 ⟨magOf_le_iff.1 ?_, hR⟩
        rw [hmag, hM]
        have := Nat.mul_le_mul_right (2 ^ u) (hk2 hu0)
        omega

/-! ### Operations on single words -/
theorem word_rung (neg : Bool) {R : Nat} (hR : R ≤ 2139095040) : single.word neg R % 2147483648 = R ∧ (single.word neg R / 2147483648 % 2 = if neg then 1 else 0) ∧ single.word neg R < 4294967296 := by
  have e1 : single.signWeight = 2147483648 := by decide
  unfold Format.word
  rw [e1]
  cases neg <;> simp <;> omega
theorem fx_word (neg : Bool) {R : Nat} (hR : R ≤ 2139095040) : fx (single.word neg R) = if neg then -(magOf R : Int) else (magOf R : Int) := by
  obtain ⟨h1, h2, _⟩ := word_rung neg hR
  unfold fx
  rw [h1, h2]
  cases neg <;> simp

/-- Not more than infinite: a finite word or an infinity. -/
def isOrd (x : Nat) : Prop := x % 2147483648 ≤ 2139095040
theorem fx_abs {x : Nat} : fx x = (magOf (x % 2147483648) : Int) ∨ fx x = -(magOf (x % 2147483648) : Int) := by
  unfold fx; split
  · exact .inr rfl
  · exact .inl rfl

/-- A number, written: it lies between any two words between which the number lies. The number: 'V' in units of 2 ^ -(149 + b). -/
theorem write_between (neg : Bool) (mag : Nat) (place : Int) (b : Nat) (V : Int) (hp : place ≥ -149 - b) (hV : V = valAt (-149 - b) neg mag place) :
    let z := single.nearest neg mag place
    z < 4294967296 ∧ isOrd z ∧ (∀ t, isOrd t → V ≤ fx t * 2 ^ b → fx z ≤ fx t) ∧ (∀ t, isOrd t → fx t * 2 ^ b ≤ V → fx t ≤ fx z) := by
  simp only
  rw [nearest_rung]
  have hr := rungOf_le mag place
  obtain ⟨w1, w2, w3⟩ := word_rung neg hr
  -- the magnitude of V
  have hm : valAt (-149 - b) neg mag place = if neg then -((mag * 2 ^ (place + 149 + b).toNat : Nat) : Int) else ((mag * 2 ^ (place + 149 + b).toNat : Nat) : Int) := by
    unfold valAt signed
    rw [show place - (-149 - (b : Int)) = place + 149 + b by omega, Nat.shiftLeft_eq]
  generalize hA : (place + 149).toNat = a
  generalize hB : (-149 - place).toNat = c
  have hab : (place + 149 + b).toNat + c = a + b := by omega
  generalize hN : mag * 2 ^ (place + 149 + b).toNat = N at *
  have hNc : N * 2 ^ c = mag * 2 ^ a * 2 ^ b := by rw [← hN, Nat.mul_assoc, ← Nat.pow_add, hab, Nat.pow_add, Nat.mul_assoc]
  have hpc : 0 < 2 ^ c := Nat.two_pow_pos _
  have hpb : 0 < 2 ^ b := Nat.two_pow_pos _
  have up : ∀ R, R ≤ 2139095040 → N ≤ magOf R * 2 ^ b → rungOf mag place ≤ R := by
    intro R hR h
    refine (rungOf_bounds mag place R hR).1 ?_
    rw [hA, hB]
    refine Nat.le_of_mul_le_mul_right ?_ hpb
    calc mag * 2 ^ a * 2 ^ b = N * 2 ^ c := hNc.symm
      _ ≤ magOf R * 2 ^ b * 2 ^ c := Nat.mul_le_mul_right _ h
      _ = magOf R * 2 ^ c * 2 ^ b := Nat.mul_right_comm _ _ _
  have down : ∀ R, R ≤ 2139095040 → magOf R * 2 ^ b ≤ N → R ≤ rungOf mag place := by
    intro R hR h
    refine (rungOf_bounds mag place R hR).2 ?_
    rw [hA, hB]
    refine Nat.le_of_mul_le_mul_right ?_ hpb
    calc magOf R * 2 ^ c * 2 ^ b = magOf R * 2 ^ b * 2 ^ c := Nat.mul_right_comm _ _ _
      _ ≤ N * 2 ^ c := Nat.mul_le_mul_right _ h
      _ = mag * 2 ^ a * 2 ^ b := hNc
  have c1 : ∀ R, (N : Int) ≤ (magOf R : Int) * 2 ^ b ↔ N ≤ magOf R * 2 ^ b := fun R => by
    rw [show (magOf R : Int) * 2 ^ b = ((magOf R * 2 ^ b : Nat) : Int) by push_cast; rfl]; omega
  have c2 : ∀ R, (magOf R : Int) * 2 ^ b ≤ (N : Int) ↔ magOf R * 2 ^ b ≤ N := fun R => by
    rw [show (magOf R : Int) * 2 ^ b = ((magOf R * 2 ^ b : Nat) : Int) by push_cast; rfl]; omega
  have z0 : N = 0 → rungOf mag place = 0 := fun h => by
    have := up 0 (by omega) (by rw [h]; exact Nat.zero_le _)
    omega
  have nn : ∀ R, 0 ≤ (magOf R : Int) * 2 ^ b := fun R => Int.mul_nonneg (by omega) (Int.le_of_lt (Int.pow_pos (by omega)))
  refine ⟨w3, by unfold isOrd; rw [w1]; exact hr, fun t ht h => ?_, fun t ht h => ?_⟩
  · rw [fx_word neg hr]
    rw [hV, hm] at h
    have mt := magOf_le_iff (a := t % 2147483648) (b := rungOf mag place)
    have mt' := magOf_le_iff (a := rungOf mag place) (b := t % 2147483648)
    have hnt := nn (t % 2147483648)
    rcases fx_abs (x := t) with e | e <;> rw [e] at h ⊢
    · cases neg
      · simp only [Bool.false_eq_true, if_false] at h ⊢
        have := up _ ht ((c1 _).1 h)
        have := mt'.2 this
        omega
      · simp only [if_true] at h ⊢
        omega
    · rw [Int.neg_mul] at h
      cases neg
      · simp only [Bool.false_eq_true, if_false] at h ⊢
        have hN0 : N = 0 := by omega
        have ht0 : (magOf (t % 2147483648) : Int) * 2 ^ b = 0 := by omega
        have := z0 hN0
        rw [this]
        have : magOf (t % 2147483648) = 0 := by
          rcases Nat.eq_zero_or_pos (magOf (t % 2147483648)) with h' | h'
          · exact h'
          · have h1 := Nat.mul_pos h' hpb
            rw [show (magOf (t % 2147483648) : Int) * 2 ^ b = ((magOf (t % 2147483648) * 2 ^ b : Nat) : Int) by push_cast; rfl] at ht0
            omega
        have m0 : magOf 0 = 0 := rfl
        omega
      · simp only [if_true] at h ⊢
        have := down _ ht ((c2 _).1 (by omega))
        have := mt.2 this
        omega
  · rw [fx_word neg hr]
    rw [hV, hm] at h
    have mt := magOf_le_iff (a := t % 2147483648) (b := rungOf mag place)
    have mt' := magOf_le_iff (a := rungOf mag place) (b := t % 2147483648)
    have hnt := nn (t % 2147483648)
    rcases fx_abs (x := t) with e | e <;> rw [e] at h ⊢
    · cases neg
      · simp only [Bool.false_eq_true, if_false] at h ⊢
        have := down _ ht ((c2 _).1 h)
        have := mt.2 this
        omega
      · simp only [if_true] at h ⊢
        have hN0 : N = 0 := by omega
        have ht0 : (magOf (t % 2147483648) : Int) * 2 ^ b = 0 := by omega
        have := z0 hN0
        rw [this]
        have : magOf (t % 2147483648) = 0 := by
          rcases Nat.eq_zero_or_pos (magOf (t % 2147483648)) with h' | h'
          · exact h'
          · have h1 := Nat.mul_pos h' hpb
            rw [show (magOf (t % 2147483648) : Int) * 2 ^ b = ((magOf (t % 2147483648) * 2 ^ b : Nat) : Int) by push_cast; rfl] at ht0
            omega
        have m0 : magOf 0 = 0 := rfl
        omega
    · rw [Int.neg_mul] at h
      cases neg
      · simp only [Bool.false_eq_true, if_false] at h ⊢
        omega
      · simp only [if_true] at h ⊢
        have := up _ ht ((c1 _).1 (by omega))
        have := mt'.2 this
        omega

/-- What is known of a result z whose exact value is V in units of 2 ^ -(149 + b). -/
structure Near (z : Nat) (b : Nat) (V : Int) : Prop where
  word : z < 4294967296
  ord : isOrd z
  le : ∀ t, isOrd t → V ≤ fx t * 2 ^ b → fx z ≤ fx t
  ge : ∀ t, isOrd t → fx t * 2 ^ b ≤ V → fx t ≤ fx z

theorem signed_natAbs (T : Int) (s : Bool) (h : T ≠ 0 → s = decide (T < 0)) (k : Nat) : signed s T.natAbs k = T * 2 ^ k := by
  unfold signed
  rw [Nat.shiftLeft_eq]
  by_cases h0 : T = 0
  · subst h0; simp
  · rw [h h0]
    by_cases hn : T < 0
    · rw [if_pos (by simpa using hn)]
      push_cast
      rw [show (T.natAbs : Int) = -T by omega, Int.neg_mul, Int.neg_neg]
    · rw [if_neg (by simpa using hn)]
      push_cast
      rw [show (T.natAbs : Int) = T by omega]

theorem sum_near {s t : Bool} {m n : Nat} {i j : Int} (hi : -149 ≤ i) (hj : -149 ≤ j) :
    ∃ d, Datum.sum (.number s m i) (.number t n j) = some d ∧ Near (single.write d) 0 (valAt (-149) s m i + valAt (-149) t n j) := by
  have h1 := valAt_step (L := -149) (L' := min i j) (i := i) s m (by omega) (by omega)
  have h2 := valAt_step (L := -149) (L' := min i j) (i := j) t n (by omega) (by omega)
  refine ⟨_, rfl, ?_⟩
  have hv : valAt (-149) s m i + valAt (-149) t n j = (signed s m (i - min i j).toNat + signed t n (j - min i j).toNat) * 2 ^ (min i j - -149).toNat := by
    rw [h1, h2, Int.add_mul]; rfl
  generalize hT : signed s m (i - min i j).toNat + signed t n (j - min i j).toNat = T at *
  have hw := write_between (if T = 0 then s && t else decide (T < 0)) T.natAbs (min i j) 0 (valAt (-149) s m i + valAt (-149) t n j) (by omega) (by
    rw [hv]
    unfold valAt
    rw [show (-149 - ((0 : Nat) : Int)) = -149 by omega, signed_natAbs T _ (fun h => by rw [if_neg h])])
  obtain ⟨w1, w2, w3, w4⟩ := hw
  have hd : single.write (.number (if T = 0 then s && t else decide (T < 0)) T.natAbs (min i j)) = single.nearest (if T = 0 then s && t else decide (T < 0)) T.natAbs (min i j) := rfl
  show Near (single.write (.number (if T = 0 then s && t else decide (T < 0)) T.natAbs (min i j))) 0 _
  rw [hd]
  exact ⟨w1, w2, w3, w4⟩

def fadd (x y : Nat) : Nat := (single.add x y).getD 0
def fsub (x y : Nat) : Nat := (single.sub x y).getD 0
def fmul (x y : Nat) : Nat := (single.mul x y).getD 0
def fdiv (x y : Nat) : Nat := (single.div x y).getD 0

theorem add_fin {x y : Nat} (hx : isFin x = true) (hy : isFin y = true) : floatBits .add .f32 x y = some (fadd x y) ∧ Near (fadd x y) 0 (fx x + fx y) := by
  obtain ⟨s, m, i, hr, hi, hv⟩ := read_fin hx
  obtain ⟨t, n, j, hr', hj, hv'⟩ := read_fin hy
  obtain ⟨d, hd, hn⟩ := sum_near (s := s) (t := t) (m := m) (n := n) hi hj
  have e : single.add x y = some (single.write d) := by unfold Format.add; rw [hr, hr', hd]; rfl
  rw [hv, hv'] at hn
  have e2 : fadd x y = single.write d := by unfold fadd; rw [e]; rfl
  rw [e2]
  exact ⟨e, hn⟩

theorem sub_fin {x y : Nat} (hx : isFin x = true) (hy : isFin y = true) : floatBits .sub .f32 x y = some (fsub x y) ∧ Near (fsub x y) 0 (fx x - fx y) := by
  obtain ⟨s, m, i, hr, hi, hv⟩ := read_fin hx
  obtain ⟨t, n, j, hr', hj, hv'⟩ := read_fin hy
  obtain ⟨d, hd, hn⟩ := sum_near (s := s) (t := !t) (m := m) (n := n) hi hj
  have e : single.sub x y = some (single.write d) := by unfold Format.sub; rw [hr, hr']; show (Datum.sum _ (.number (!t) n j)).map _ = _; rw [hd]; rfl
  have hneg : valAt (-149) (!t) n j = -fx y := by
    rw [← hv']; unfold valAt signed; cases t <;> simp
  rw [hv, hneg] at hn
  have e2 : fsub x y = single.write d := by unfold fsub; rw [e]; rfl
  rw [e2, Int.sub_eq_add_neg]
  exact ⟨e, hn⟩

theorem mul_fin {x y : Nat} (hx : isFin x = true) (hy : isFin y = true) : floatBits .mul .f32 x y = some (fmul x y) ∧ Near (fmul x y) 149 (fx x * fx y) := by
  obtain ⟨s, m, i, hr, hi, hv⟩ := read_fin hx
  obtain ⟨t, n, j, hr', hj, hv'⟩ := read_fin hy
  have e : single.mul x y = some (single.nearest (s ^^ t) (m * n) (i + j)) := by unfold Format.mul; rw [hr, hr']; rfl
  have e2 : fmul x y = single.nearest (s ^^ t) (m * n) (i + j) := by unfold fmul; rw [e]; rfl
  refine ⟨by rw [e2]; exact e, ?_⟩
  rw [e2]
  obtain ⟨w1, w2, w3, w4⟩ := write_between (s ^^ t) (m * n) (i + j) 149 (fx x * fx y) (by omega) (by
    rw [← hv, ← hv']
    unfold valAt signed
    rw [show (-149 - ((149 : Nat) : Int)) = -298 by omega, show (i + j - -298).toNat = (i - -149).toNat + (j - -149).toNat by omega]
    simp only [Nat.shiftLeft_eq, Nat.pow_add]
    have hc : m * n * (2 ^ (i - -149).toNat * 2 ^ (j - -149).toNat) = m * 2 ^ (i - -149).toNat * (n * 2 ^ (j - -149).toNat) := by
      simp only [Nat.mul_assoc, Nat.mul_left_comm]
    rw [hc]
    generalize m * 2 ^ (i - -149).toNat = A
    generalize n * 2 ^ (j - -149).toNat = B
    cases s <;> cases t <;> simp [Int.neg_mul, Int.mul_neg])
  exact ⟨w1, w2, w3, w4⟩

/-! ### How great the results can be -/
theorem fx_pos {A : Nat} (hA : A < 2147483648) : fx A = (magOf A : Int) := by
  unfold fx
  rw [if_neg (by omega), Nat.mod_eq_of_lt hA]
theorem fx_flip {A : Nat} (hA : A < 2147483648) : fx (A + 2147483648) = -(magOf A : Int) := by
  unfold fx
  rw [if_pos (by omega), show (A + 2147483648) % 2147483648 = A by omega]

/-- x is a finite word, in size at most A (a finite word without a sign). -/
structure AbsLe (x A : Nat) : Prop where
  word : x < 4294967296
  fin : isFin x = true
  bnd : A < 2139095040
  le : fx x ≤ (magOf A : Int)
  ge : -(magOf A : Int) ≤ fx x

theorem AbsLe.of_near {z b A : Nat} {V : Int} (h : Near z b V) (hA : A < 2139095040) (h1 : V ≤ (magOf A : Int) * 2 ^ b) (h2 : -((magOf A : Int) * 2 ^ b) ≤ V) : AbsLe z A := by
  have k1 := h.le A (by unfold isOrd; omega) (by rw [fx_pos (A := A) (by omega)]; exact h1)
  have k2 := h.ge (A + 2147483648) (by unfold isOrd; omega) (by rw [fx_flip (A := A) (by omega), Int.neg_mul]; exact h2)
  rw [fx_pos (A := A) (by omega)] at k1
  rw [fx_flip (A := A) (by omega)] at k2
  refine ⟨h.word, ?_, hA, k1, k2⟩
  have hm : magOf (z % 2147483648) ≤ magOf A := by
    rcases fx_abs (x := z) with e | e <;> rw [e] at k1 k2 <;> omega
  have := magOf_le_iff.1 hm
  simp only [isFin, decide_eq_true_eq]
  omega

theorem isFin_of_lt {A : Nat} (hA : A < 2139095040) : isFin A = true := by
  simp only [isFin, decide_eq_true_eq]; omega

/-- The next word up from a rounded sum is no less than the sum itself. -/
theorem add_up {A B : Nat} (hA : A < 2139095040) (hB : B < 2139095040) (hC : fadd A B + 1 < 2139095040) : (magOf A : Int) + magOf B ≤ magOf (fadd A B + 1) := by
  have h := (add_fin (isFin_of_lt hA) (isFin_of_lt hB)).2
  rw [fx_pos (A := A) (by omega), fx_pos (A := B) (by omega)] at h
  rcases Int.lt_or_le (magOf (fadd A B + 1) : Int) ((magOf A : Int) + magOf B) with h' | h'
  · exfalso
    have := h.ge (fadd A B + 1) (by unfold isOrd; omega) (by rw [fx_pos (A := fadd A B + 1) (by omega)]; omega)
    rw [fx_pos (A := fadd A B + 1) (by omega), fx_pos (A := fadd A B) (by omega)] at this
    have := magOf_lt (a := fadd A B) (b := fadd A B + 1) (by omega)
    omega
  · exact h'

theorem AbsLe.add {x y A B : Nat} (hx : AbsLe x A) (hy : AbsLe y B) (hC : fadd A B + 1 < 2139095040) : AbsLe (fadd x y) (fadd A B + 1) := by
  have hu := add_up hx.bnd hy.bnd hC
  have := hx.le; have := hx.ge; have := hy.le; have := hy.ge
  exact .of_near (add_fin hx.fin hy.fin).2 hC (by omega) (by omega)
theorem AbsLe.sub {x y A B : Nat} (hx : AbsLe x A) (hy : AbsLe y B) (hC : fadd A B + 1 < 2139095040) : AbsLe (fsub x y) (fadd A B + 1) := by
  have hu := add_up hx.bnd hy.bnd hC
  have := hx.le; have := hx.ge; have := hy.le; have := hy.ge
  exact .of_near (sub_fin hx.fin hy.fin).2 hC (by omega) (by omega)

theorem AbsLe.mono {x A B : Nat} (h : AbsLe x A) (hAB : A ≤ B) (hB : B < 2139095040) : AbsLe x B := by
  have := magOf_le_iff.2 hAB
  have := h.le; have := h.ge
  exact ⟨h.word, h.fin, hB, by omega, by omega⟩

end Go.Proofs.Ytboddpifepegcaa
