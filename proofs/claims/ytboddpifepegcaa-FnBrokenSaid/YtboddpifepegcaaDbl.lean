/- The laws on rounding once more, for double words (XRnd.lean's text with the numbers of that format), and from double to single words. No program in sight. -/
import Derived.Test.YtboddpifepegcaaSum
namespace Go.Proofs.Ytboddpifepegcaa
set_option maxRecDepth 20000
open Ieee

/-! ### Double words -/
/-- The magnitude of a rung, in units of 2 ^ -1074. -/
def magD (r : Nat) : Nat := if r < 4503599627370496 then r else (4503599627370496 + r % 4503599627370496) * 2 ^ (r / 4503599627370496 - 1)
def isFinD (x : Nat) : Bool := decide (x % 9223372036854775808 < 9218868437227405312)
/-- What a finite word is worth, in units of 2 ^ -1074. -/
def dx (x : Nat) : Int := if x / 9223372036854775808 % 2 = 1 then -(magD (x % 9223372036854775808) : Int) else (magD (x % 9223372036854775808) : Int)

theorem read_finD {x : Nat} (h : isFinD x = true) : ∃ s m i, double.read x = .number s m i ∧ (-1074 : Int) ≤ i ∧ valAt (-1074) s m i = dx x := by
  have hf : x % 9223372036854775808 < 9218868437227405312 := by simpa [isFinD] using h
  have e1 : double.signWeight = 9223372036854775808 := by decide
  have e2 : double.binade = 4503599627370496 := by decide
  have e3 : double.infRung = 9218868437227405312 := by decide
  have e4 : double.leastPlace = -1074 := by decide
  unfold Format.read
  simp only [e1, e2, e3, e4]
  by_cases hs : x % 9223372036854775808 < 4503599627370496
  · rw [if_pos hs]
    refine ⟨_, _, _, rfl, by omega, ?_⟩
    simp only [valAt, signed, dx, magD, hs, if_true]
    by_cases hb : x / 9223372036854775808 % 2 = 1 <;> simp [hb]
  · rw [if_neg hs, if_pos hf]
    refine ⟨_, _, _, rfl, by omega, ?_⟩
    simp only [valAt, signed, dx, magD, hs, if_false]
    rw [show (-1074 + ((x % 9223372036854775808 / 4503599627370496 - 1 : Nat) : Int) - -1074).toNat = x % 9223372036854775808 / 4503599627370496 - 1 by omega]
    by_cases hb : x / 9223372036854775808 % 2 = 1 <;> simp [hb, Nat.shiftLeft_eq]

theorem magOf_ltD {a b : Nat} (h : a < b) : magD a < magD b := by
  have step : ∀ r, magD r < magD (r + 1) := by
    intro r
    unfold magD
    by_cases h1 : r + 1 < 4503599627370496
    · rw [if_pos (by omega), if_pos h1]; omega
    · rw [if_neg h1]
      by_cases h2 : r < 4503599627370496
      · rw [if_pos h2]
        have : r = 4503599627370495 := by omega
        subst this; decide
      · rw [if_neg h2]
        by_cases h3 : r % 4503599627370496 = 4503599627370495
        · have e1 : (r + 1) % 4503599627370496 = 0 := by omega
          have e2 : (r + 1) / 4503599627370496 - 1 = (r / 4503599627370496 - 1) + 1 := by omega
          rw [e1, e2, h3, Nat.pow_succ]
          have hp : 0 < 2 ^ (r / 4503599627370496 - 1) := Nat.two_pow_pos _
          omega
        · have e1 : (r + 1) % 4503599627370496 = r % 4503599627370496 + 1 := by omega
          have e2 : (r + 1) / 4503599627370496 = r / 4503599627370496 := by omega
          rw [e1, e2]
          exact Nat.mul_lt_mul_of_pos_right (by omega) (Nat.two_pow_pos _)
  induction b with
  | zero => omega
  | succ b ih =>
    rcases Nat.lt_or_ge a b with h' | h'
    · exact Nat.lt_trans (ih h') (step b)
    · have : a = b := by omega
      subst this; exact step a

theorem magOf_injD {a b : Nat} (h : magD a = magD b) : a = b := by
  rcases Nat.lt_trichotomy a b with h' | h' | h'
  · have := magOf_ltD h'; omega
  · exact h'
  · have := magOf_ltD h'; omega

theorem magOf_zeroD {r : Nat} (h : magD r = 0) : r = 0 := magOf_injD (a := r) (b := 0) (by rw [h]; rfl)

/-! ### The magnitude of a rung, by binade -/
theorem magOf_ukD (u k : Nat) (hk : k ≤ 9007199254740992) (hu : 0 < u → 4503599627370496 ≤ k) : magD (u * 4503599627370496 + k) = k * 2 ^ u := by
  unfold magD
  rcases Nat.eq_zero_or_pos u with h0 | h0
  · subst h0
    simp only [Nat.zero_mul, Nat.zero_add, Nat.pow_zero, Nat.mul_one]
    by_cases h1 : k < 4503599627370496
    · rw [if_pos h1]
    · rw [if_neg h1]
      by_cases h2 : k = 9007199254740992
      · subst h2; decide
      · have e1 : k / 4503599627370496 = 1 := by omega
        have e2 : k % 4503599627370496 = k - 4503599627370496 := by omega
        rw [e1, e2]; simp; omega
  · have hk2 := hu h0
    rw [if_neg (by omega)]
    by_cases h2 : k = 9007199254740992
    · subst h2
      have e1 : (u * 4503599627370496 + 9007199254740992) % 4503599627370496 = 0 := by omega
      have e2 : (u * 4503599627370496 + 9007199254740992) / 4503599627370496 - 1 = u + 1 := by omega
      rw [e1, e2, Nat.pow_succ]; omega
    · have e1 : (u * 4503599627370496 + k) % 4503599627370496 = k - 4503599627370496 := by omega
      have e2 : (u * 4503599627370496 + k) / 4503599627370496 - 1 = u := by omega
      rw [e1, e2, show 4503599627370496 + (k - 4503599627370496) = k by omega]

/-- Every rung is one of a binade. -/
theorem rung_ukD (R : Nat) : ∃ e c, R = e * 4503599627370496 + c ∧ c < 9007199254740992 ∧ (0 < e → 4503599627370496 ≤ c) := by
  by_cases h : R < 4503599627370496
  · exact ⟨0, R, by omega, by omega, by omega⟩
  · exact ⟨R / 4503599627370496 - 1, R % 4503599627370496 + 4503599627370496, by omega, by omega, by omega⟩

theorem magOf_le_iffD {a b : Nat} : magD a ≤ magD b ↔ a ≤ b := by
  constructor
  · intro h
    rcases Nat.lt_or_ge b a with h' | h'
    · have := magOf_ltD h'; omega
    · exact h'
  · intro h
    rcases Nat.lt_or_ge a b with h' | h'
    · exact Nat.le_of_lt (magOf_ltD h')
    · have : a = b := by omega
      subst this; exact Nat.le_refl _

/-! ### The nearest word -/
/-- The rung that 'nearest' finds. -/
def rungD (mag : Nat) (place : Int) : Nat :=
  if mag = 0 then 0 else
  min ((max (place + mag.log2 - 52) (-1074) + 1074).toNat * 4503599627370496 + Toward.even.cut false (mag <<< (place - max (place + mag.log2 - 52) (-1074)).toNat) (max (place + mag.log2 - 52) (-1074) - place).toNat) 9218868437227405312

theorem nearest_rungD (neg : Bool) (mag : Nat) (place : Int) : double.nearest neg mag place = double.word neg (rungD mag place) := by
  have e2 : double.binade = 4503599627370496 := by decide
  have e3 : double.infRung = 9218868437227405312 := by decide
  have e4 : double.leastPlace = -1074 := by decide
  have e5 : double.fractionBits = 52 := rfl
  unfold Format.nearest rungD
  by_cases h : mag = 0
  · rw [if_pos h, if_pos h]
  · rw [if_neg h, if_neg h]
    simp only [e2, e3, e4, e5, cut_neg neg]
    rw [show (max (place + (mag.log2 : Int) - ((52 : Nat) : Int)) (-1074) - -1074).toNat = (max (place + (mag.log2 : Int) - 52) (-1074) + 1074).toNat by omega]
    rfl

theorem rungOf_leD (mag : Nat) (place : Int) : rungD mag place ≤ 9218868437227405312 := by
  unfold rungD; split
  · omega
  · exact Nat.min_le_right _ _

theorem rungOf_boundsD (mag : Nat) (place : Int) (R : Nat) (hR : R ≤ 9218868437227405312) :
    (mag * 2 ^ (place + 1074).toNat ≤ magD R * 2 ^ (-1074 - place).toNat → rungD mag place ≤ R) ∧
    (magD R * 2 ^ (-1074 - place).toNat ≤ mag * 2 ^ (place + 1074).toNat → R ≤ rungD mag place) := by
  by_cases h0 : mag = 0
  · subst h0
    unfold rungD
    rw [if_pos rfl]
    constructor
    · intro _; omega
    · intro h
      have hm : magD R * 2 ^ (-1074 - place).toNat = 0 := by simpa using h
      have hp : 0 < 2 ^ (-1074 - place).toNat := Nat.two_pow_pos _
      have : magD R = 0 := by
        rcases Nat.eq_zero_or_pos (magD R) with h' | h'
        · exact h'
        · have := Nat.mul_pos h' hp; omega
      have := magOf_zeroD this
      omega
  · unfold rungD
    rw [if_neg h0]
    have hl1 : 2 ^ mag.log2 ≤ mag := Nat.log2_self_le h0
    have hl2 : mag < 2 ^ (mag.log2 + 1) := Nat.lt_log2_self
    generalize hE : mag.log2 = E at *
    generalize hlast : max (place + (E : Int) - 52) (-1074) = last at *
    generalize hn : mag <<< (place - last).toNat = n
    generalize hd : (last - place).toNat = d
    generalize hu : (last + 1074).toNat = u
    generalize ha : (place + 1074).toNat = a
    generalize hb : (-1074 - place).toNat = b
    generalize hsh : (place - last).toNat = sh at hn
    rw [Nat.shiftLeft_eq] at hn
    have hrel : u + b + sh = a + d := by omega
    -- the number that is kept
    have hk1 : Toward.even.cut false n d ≤ 9007199254740992 := by
      refine (cut_bounds n d 9007199254740992 false).1 ?_
      have h1 : E + 1 + sh ≤ 53 + d := by omega
      have h2 : (2 : Nat) ^ (E + 1 + sh) ≤ 2 ^ (53 + d) := Nat.pow_le_pow_right (by omega) h1
      rw [Nat.pow_add 2 (E + 1), Nat.pow_add 2 53] at h2
      have h3 : n ≤ 2 ^ (E + 1) * 2 ^ sh := by rw [← hn]; exact Nat.mul_le_mul_right _ (Nat.le_of_lt hl2)
      calc n ≤ 2 ^ (E + 1) * 2 ^ sh := h3
        _ ≤ 2 ^ 53 * 2 ^ d := h2
        _ = 9007199254740992 * 2 ^ d := rfl
    have hlow : 0 < u → 4503599627370496 * 2 ^ d ≤ n := by
      intro hpos
      have h1 : E + sh = 52 + d := by omega
      have h2 : (2 : Nat) ^ (E + sh) = 2 ^ (52 + d) := by rw [h1]
      rw [Nat.pow_add, Nat.pow_add] at h2
      calc 4503599627370496 * 2 ^ d = 2 ^ 52 * 2 ^ d := rfl
        _ = 2 ^ E * 2 ^ sh := h2.symm
        _ ≤ mag * 2 ^ sh := Nat.mul_le_mul_right _ hl1
        _ = n := hn
    have hk2 : 0 < u → 4503599627370496 ≤ Toward.even.cut false n d := fun h => (cut_bounds n d 4503599627370496 false).2 (hlow h)
    have hmag := magOf_ukD u (Toward.even.cut false n d) hk1 hk2
    -- bounds that are multiples of the unit
    have up : ∀ K, mag * 2 ^ a ≤ K * 2 ^ u * 2 ^ b → Toward.even.cut false n d ≤ K := by
      intro K h
      refine (cut_bounds n d K false).1 ?_
      have hp : 0 < 2 ^ a := Nat.two_pow_pos _
      refine Nat.le_of_mul_le_mul_right ?_ hp
      calc n * 2 ^ a = mag * 2 ^ a * 2 ^ sh := by rw [← hn, Nat.mul_right_comm]
        _ ≤ K * 2 ^ u * 2 ^ b * 2 ^ sh := Nat.mul_le_mul_right _ h
        _ = K * 2 ^ (u + b + sh) := by rw [Nat.pow_add, Nat.pow_add]; simp only [Nat.mul_assoc]
        _ = K * 2 ^ d * 2 ^ a := by rw [hrel, Nat.pow_add, Nat.mul_assoc, Nat.mul_comm (2 ^ a)]
    have down : ∀ K, K * 2 ^ u * 2 ^ b ≤ mag * 2 ^ a → K ≤ Toward.even.cut false n d := by
      intro K h
      refine (cut_bounds n d K false).2 ?_
      have hp : 0 < 2 ^ a := Nat.two_pow_pos _
      refine Nat.le_of_mul_le_mul_right ?_ hp
      calc K * 2 ^ d * 2 ^ a = K * 2 ^ (u + b + sh) := by rw [hrel, Nat.pow_add, Nat.mul_assoc, Nat.mul_comm (2 ^ a)]
        _ = K * 2 ^ u * 2 ^ b * 2 ^ sh := by rw [Nat.pow_add, Nat.pow_add]; simp only [Nat.mul_assoc]
        _ ≤ mag * 2 ^ a * 2 ^ sh := Nat.mul_le_mul_right _ h
        _ = n * 2 ^ a := by rw [← hn, Nat.mul_right_comm]
    obtain ⟨e, c, rfl, hc, hce⟩ := rung_ukD R
    have hM := magOf_ukD e c (by omega) hce
    rw [hM]
    -- whether the bound is a multiple of the unit
    by_cases heu : u ≤ e
    · have hsplit : c * 2 ^ e = c * 2 ^ (e - u) * 2 ^ u := by rw [Nat.mul_assoc, ← Nat.pow_add]; congr 2; omega
      constructor
      · intro h
        have h1 := up (c * 2 ^ (e - u)) (by rw [← hsplit]; exact h)
        refine Nat.le_trans (Nat.min_le_left _ _) (magOf_le_iffD.1 ?_)
        rw [hmag, hM, hsplit]
        exact Nat.mul_le_mul_right _ h1
      · intro h
        have h1 := down (c * 2 ^ (e - u)) (by rw [← hsplit]; exact h)
        refine Nat.le_min.2 ⟨magOf_le_iffD.1 ?_, hR⟩
        rw [hmag, hM, hsplit]
        exact Nat.mul_le_mul_right _ h1
    · have hu0 : 0 < u := by omega
      have hlt : c * 2 ^ e < 4503599627370496 * 2 ^ u := by
        have h1 : (2 : Nat) ^ (e + 1) ≤ 2 ^ u := Nat.pow_le_pow_right (by omega) (by omega)
        rw [Nat.pow_succ] at h1
        have h2 : c * 2 ^ e < 9007199254740992 * 2 ^ e := Nat.mul_lt_mul_of_pos_right hc (Nat.two_pow_pos _)
        omega
      constructor
      · intro h
        exfalso
        have h1 : 4503599627370496 * 2 ^ u * 2 ^ b ≤ mag * 2 ^ a := by
          have hp : 0 < 2 ^ sh := Nat.two_pow_pos _
          refine Nat.le_of_mul_le_mul_right ?_ hp
          calc 4503599627370496 * 2 ^ u * 2 ^ b * 2 ^ sh = 4503599627370496 * 2 ^ (u + b + sh) := by rw [Nat.pow_add, Nat.pow_add]; simp only [Nat.mul_assoc]
            _ = 4503599627370496 * 2 ^ d * 2 ^ a := by rw [hrel, Nat.pow_add, Nat.mul_assoc, Nat.mul_comm (2 ^ a)]
            _ ≤ n * 2 ^ a := Nat.mul_le_mul_right _ (hlow hu0)
            _ = mag * 2 ^ a * 2 ^ sh := by rw [← hn, Nat.mul_right_comm]
        have h2 : c * 2 ^ e * 2 ^ b < 4503599627370496 * 2 ^ u * 2 ^ b := Nat.mul_lt_mul_of_pos_right hlt (Nat.two_pow_pos _)
        omega
      · intro _
        refine Nat.le_min.2 ⟨magOf_le_iffD.1 ?_, hR⟩
        rw [hmag, hM]
        have := Nat.mul_le_mul_right (2 ^ u) (hk2 hu0)
        omega

/-! ### Operations on double words -/
theorem word_rungD (neg : Bool) {R : Nat} (hR : R ≤ 9218868437227405312) : double.word neg R % 9223372036854775808 = R ∧ (double.word neg R / 9223372036854775808 % 2 = if neg then 1 else 0) ∧ double.word neg R < 18446744073709551616 := by
  have e1 : double.signWeight = 9223372036854775808 := by decide
  unfold Format.word
  rw [e1]
  cases neg <;> simp <;> omega
theorem fx_wordD (neg : Bool) {R : Nat} (hR : R ≤ 9218868437227405312) : dx (double.word neg R) = if neg then -(magD R : Int) else (magD R : Int) := by
  obtain ⟨h1, h2, _⟩ := word_rungD neg hR
  unfold dx
  rw [h1, h2]
  cases neg <;> simp

/-- Not more than infinite: a finite word or an infinity. -/
def isOrdD (x : Nat) : Prop := x % 9223372036854775808 ≤ 9218868437227405312
theorem fx_absD {x : Nat} : dx x = (magD (x % 9223372036854775808) : Int) ∨ dx x = -(magD (x % 9223372036854775808) : Int) := by
  unfold dx; split
  · exact .inr rfl
  · exact .inl rfl

/-- A number, written: it lies between any two words between which the number lies. The number: 'V' in units of 2 ^ -(1074 + b). -/
theorem write_betweenD (neg : Bool) (mag : Nat) (place : Int) (b : Nat) (V : Int) (hp : place ≥ -1074 - b) (hV : V = valAt (-1074 - b) neg mag place) :
    let z := double.nearest neg mag place
    z < 18446744073709551616 ∧ isOrdD z ∧ (∀ t, isOrdD t → V ≤ dx t * 2 ^ b → dx z ≤ dx t) ∧ (∀ t, isOrdD t → dx t * 2 ^ b ≤ V → dx t ≤ dx z) := by
  simp only
  rw [nearest_rungD]
  have hr := rungOf_leD mag place
  obtain ⟨w1, w2, w3⟩ := word_rungD neg hr
  -- the magnitude of V
  have hm : valAt (-1074 - b) neg mag place = if neg then -((mag * 2 ^ (place + 1074 + b).toNat : Nat) : Int) else ((mag * 2 ^ (place + 1074 + b).toNat : Nat) : Int) := by
    unfold valAt signed
    rw [show place - (-1074 - (b : Int)) = place + 1074 + b by omega, Nat.shiftLeft_eq]
  generalize hA : (place + 1074).toNat = a
  generalize hB : (-1074 - place).toNat = c
  have hab : (place + 1074 + b).toNat + c = a + b := by omega
  generalize hN : mag * 2 ^ (place + 1074 + b).toNat = N at *
  have hNc : N * 2 ^ c = mag * 2 ^ a * 2 ^ b := by rw [← hN, Nat.mul_assoc, ← Nat.pow_add, hab, Nat.pow_add, Nat.mul_assoc]
  have hpc : 0 < 2 ^ c := Nat.two_pow_pos _
  have hpb : 0 < 2 ^ b := Nat.two_pow_pos _
  have up : ∀ R, R ≤ 9218868437227405312 → N ≤ magD R * 2 ^ b → rungD mag place ≤ R := by
    intro R hR h
    refine (rungOf_boundsD mag place R hR).1 ?_
    rw [hA, hB]
    refine Nat.le_of_mul_le_mul_right ?_ hpb
    calc mag * 2 ^ a * 2 ^ b = N * 2 ^ c := hNc.symm
      _ ≤ magD R * 2 ^ b * 2 ^ c := Nat.mul_le_mul_right _ h
      _ = magD R * 2 ^ c * 2 ^ b := Nat.mul_right_comm _ _ _
  have down : ∀ R, R ≤ 9218868437227405312 → magD R * 2 ^ b ≤ N → R ≤ rungD mag place := by
    intro R hR h
    refine (rungOf_boundsD mag place R hR).2 ?_
    rw [hA, hB]
    refine Nat.le_of_mul_le_mul_right ?_ hpb
    calc magD R * 2 ^ c * 2 ^ b = magD R * 2 ^ b * 2 ^ c := Nat.mul_right_comm _ _ _
      _ ≤ N * 2 ^ c := Nat.mul_le_mul_right _ h
      _ = mag * 2 ^ a * 2 ^ b := hNc
  have c1 : ∀ R, (N : Int) ≤ (magD R : Int) * 2 ^ b ↔ N ≤ magD R * 2 ^ b := fun R => by
    rw [show (magD R : Int) * 2 ^ b = ((magD R * 2 ^ b : Nat) : Int) by push_cast; rfl]; omega
  have c2 : ∀ R, (magD R : Int) * 2 ^ b ≤ (N : Int) ↔ magD R * 2 ^ b ≤ N := fun R => by
    rw [show (magD R : Int) * 2 ^ b = ((magD R * 2 ^ b : Nat) : Int) by push_cast; rfl]; omega
  have z0 : N = 0 → rungD mag place = 0 := fun h => by
    have := up 0 (by omega) (by rw [h]; exact Nat.zero_le _)
    omega
  have nn : ∀ R, 0 ≤ (magD R : Int) * 2 ^ b := fun R => Int.mul_nonneg (by omega) (Int.le_of_lt (Int.pow_pos (by omega)))
  refine ⟨w3, by unfold isOrdD; rw [w1]; exact hr, fun t ht h => ?_, fun t ht h => ?_⟩
  · rw [fx_wordD neg hr]
    rw [hV, hm] at h
    have mt := magOf_le_iffD (a := t % 9223372036854775808) (b := rungD mag place)
    have mt' := magOf_le_iffD (a := rungD mag place) (b := t % 9223372036854775808)
    have hnt := nn (t % 9223372036854775808)
    rcases fx_absD (x := t) with e | e <;> rw [e] at h ⊢
    · cases neg
      · simp only [Bool.false_eq_true, if_false] at h ⊢
        have := up _ ht ((c1 _).1 h)
        have := mt'.2 this
        omega
      · simp only [if_true] at h ⊢
        omega
    · rw [Int.neg_mul] at h
      cases neg
      · simp only [Bool.false_eq_true, if_false] at h ⊢
        have hN0 : N = 0 := by omega
        have ht0 : (magD (t % 9223372036854775808) : Int) * 2 ^ b = 0 := by omega
        have := z0 hN0
        rw [this]
        have : magD (t % 9223372036854775808) = 0 := by
          rcases Nat.eq_zero_or_pos (magD (t % 9223372036854775808)) with h' | h'
          · exact h'
          · have h1 := Nat.mul_pos h' hpb
            rw [show (magD (t % 9223372036854775808) : Int) * 2 ^ b = ((magD (t % 9223372036854775808) * 2 ^ b : Nat) : Int) by push_cast; rfl] at ht0
            omega
        have m0 : magD 0 = 0 := rfl
        omega
      · simp only [if_true] at h ⊢
        have := down _ ht ((c2 _).1 (by omega))
        have := mt.2 this
        omega
  · rw [fx_wordD neg hr]
    rw [hV, hm] at h
    have mt := magOf_le_iffD (a := t % 9223372036854775808) (b := rungD mag place)
    have mt' := magOf_le_iffD (a := rungD mag place) (b := t % 9223372036854775808)
    have hnt := nn (t % 9223372036854775808)
    rcases fx_absD (x := t) with e | e <;> rw [e] at h ⊢
    · cases neg
      · simp only [Bool.false_eq_true, if_false] at h ⊢
        have := down _ ht ((c2 _).1 h)
        have := mt.2 this
        omega
      · simp only [if_true] at h ⊢
        have hN0 : N = 0 := by omega
        have ht0 : (magD (t % 9223372036854775808) : Int) * 2 ^ b = 0 := by omega
        have := z0 hN0
        rw [this]
        have : magD (t % 9223372036854775808) = 0 := by
          rcases Nat.eq_zero_or_pos (magD (t % 9223372036854775808)) with h' | h'
          · exact h'
          · have h1 := Nat.mul_pos h' hpb
            rw [show (magD (t % 9223372036854775808) : Int) * 2 ^ b = ((magD (t % 9223372036854775808) * 2 ^ b : Nat) : Int) by push_cast; rfl] at ht0
            omega
        have m0 : magD 0 = 0 := rfl
        omega
    · rw [Int.neg_mul] at h
      cases neg
      · simp only [Bool.false_eq_true, if_false] at h ⊢
        omega
      · simp only [if_true] at h ⊢
        have := up _ ht ((c1 _).1 (by omega))
        have := mt'.2 this
        omega

/-- What is known of a result z whose exact value is V in units of 2 ^ -(1074 + b). -/
structure NearD (z : Nat) (b : Nat) (V : Int) : Prop where
  word : z < 18446744073709551616
  ord : isOrdD z
  le : ∀ t, isOrdD t → V ≤ dx t * 2 ^ b → dx z ≤ dx t
  ge : ∀ t, isOrdD t → dx t * 2 ^ b ≤ V → dx t ≤ dx z

theorem sum_nearD {s t : Bool} {m n : Nat} {i j : Int} (hi : -1074 ≤ i) (hj : -1074 ≤ j) :
    ∃ d, Datum.sum (.number s m i) (.number t n j) = some d ∧ NearD (double.write d) 0 (valAt (-1074) s m i + valAt (-1074) t n j) := by
  have h1 := valAt_step (L := -1074) (L' := min i j) (i := i) s m (by omega) (by omega)
  have h2 := valAt_step (L := -1074) (L' := min i j) (i := j) t n (by omega) (by omega)
  refine ⟨_, rfl, ?_⟩
  have hv : valAt (-1074) s m i + valAt (-1074) t n j = (signed s m (i - min i j).toNat + signed t n (j - min i j).toNat) * 2 ^ (min i j - -1074).toNat := by
    rw [h1, h2, Int.add_mul]; rfl
  generalize hT : signed s m (i - min i j).toNat + signed t n (j - min i j).toNat = T at *
  have hw := write_betweenD (if T = 0 then s && t else decide (T < 0)) T.natAbs (min i j) 0 (valAt (-1074) s m i + valAt (-1074) t n j) (by omega) (by
    rw [hv]
    unfold valAt
    rw [show (-1074 - ((0 : Nat) : Int)) = -1074 by omega, signed_natAbs T _ (fun h => by rw [if_neg h])])
  obtain ⟨w1, w2, w3, w4⟩ := hw
  have hd : double.write (.number (if T = 0 then s && t else decide (T < 0)) T.natAbs (min i j)) = double.nearest (if T = 0 then s && t else decide (T < 0)) T.natAbs (min i j) := rfl
  show NearD (double.write (.number (if T = 0 then s && t else decide (T < 0)) T.natAbs (min i j))) 0 _
  rw [hd]
  exact ⟨w1, w2, w3, w4⟩

def dadd (x y : Nat) : Nat := (double.add x y).getD 0
def dsub (x y : Nat) : Nat := (double.sub x y).getD 0
def dmul (x y : Nat) : Nat := (double.mul x y).getD 0
def ddiv (x y : Nat) : Nat := (double.div x y).getD 0

theorem add_finD {x y : Nat} (hx : isFinD x = true) (hy : isFinD y = true) : floatBits .add .f64 x y = some (dadd x y) ∧ NearD (dadd x y) 0 (dx x + dx y) := by
  obtain ⟨s, m, i, hr, hi, hv⟩ := read_finD hx
  obtain ⟨t, n, j, hr', hj, hv'⟩ := read_finD hy
  obtain ⟨d, hd, hn⟩ := sum_nearD (s := s) (t := t) (m := m) (n := n) hi hj
  have e : double.add x y = some (double.write d) := by unfold Format.add; rw [hr, hr', hd]; rfl
  rw [hv, hv'] at hn
  have e2 : dadd x y = double.write d := by unfold dadd; rw [e]; rfl
  rw [e2]
  exact ⟨e, hn⟩

theorem sub_finD {x y : Nat} (hx : isFinD x = true) (hy : isFinD y = true) : floatBits .sub .f64 x y = some (dsub x y) ∧ NearD (dsub x y) 0 (dx x - dx y) := by
  obtain ⟨s, m, i, hr, hi, hv⟩ := read_finD hx
  obtain ⟨t, n, j, hr', hj, hv'⟩ := read_finD hy
  obtain ⟨d, hd, hn⟩ := sum_nearD (s := s) (t := !t) (m := m) (n := n) hi hj
  have e : double.sub x y = some (double.write d) := by unfold Format.sub; rw [hr, hr']; show (Datum.sum _ (.number (!t) n j)).map _ = _; rw [hd]; rfl
  have hneg : valAt (-1074) (!t) n j = -dx y := by
    rw [← hv']; unfold valAt signed; cases t <;> simp
  rw [hv, hneg] at hn
  have e2 : dsub x y = double.write d := by unfold dsub; rw [e]; rfl
  rw [e2, Int.sub_eq_add_neg]
  exact ⟨e, hn⟩

theorem mul_finD {x y : Nat} (hx : isFinD x = true) (hy : isFinD y = true) : floatBits .mul .f64 x y = some (dmul x y) ∧ NearD (dmul x y) 1074 (dx x * dx y) := by
  obtain ⟨s, m, i, hr, hi, hv⟩ := read_finD hx
  obtain ⟨t, n, j, hr', hj, hv'⟩ := read_finD hy
  have e : double.mul x y = some (double.nearest (s ^^ t) (m * n) (i + j)) := by unfold Format.mul; rw [hr, hr']; rfl
  have e2 : dmul x y = double.nearest (s ^^ t) (m * n) (i + j) := by unfold dmul; rw [e]; rfl
  refine ⟨by rw [e2]; exact e, ?_⟩
  rw [e2]
  obtain ⟨w1, w2, w3, w4⟩ := write_betweenD (s ^^ t) (m * n) (i + j) 1074 (dx x * dx y) (by omega) (by
    rw [← hv, ← hv']
    unfold valAt signed
    rw [show (-1074 - ((1074 : Nat) : Int)) = -2148 by omega, show (i + j - -2148).toNat = (i - -1074).toNat + (j - -1074).toNat by omega]
    simp only [Nat.shiftLeft_eq, Nat.pow_add]
    have hc : m * n * (2 ^ (i - -1074).toNat * 2 ^ (j - -1074).toNat) = m * 2 ^ (i - -1074).toNat * (n * 2 ^ (j - -1074).toNat) := by
      simp only [Nat.mul_assoc, Nat.mul_left_comm]
    rw [hc]
    generalize m * 2 ^ (i - -1074).toNat = A
    generalize n * 2 ^ (j - -1074).toNat = B
    cases s <;> cases t <;> simp [Int.neg_mul, Int.mul_neg])
  exact ⟨w1, w2, w3, w4⟩

/-! ### How great the results can be -/
theorem fx_posD {A : Nat} (hA : A < 9223372036854775808) : dx A = (magD A : Int) := by
  unfold dx
  rw [if_neg (by omega), Nat.mod_eq_of_lt hA]
theorem fx_flipD {A : Nat} (hA : A < 9223372036854775808) : dx (A + 9223372036854775808) = -(magD A : Int) := by
  unfold dx
  rw [if_pos (by omega), show (A + 9223372036854775808) % 9223372036854775808 = A by omega]

/-- x is a finite word, in size at most A (a finite word without a sign). -/
structure AbsD (x A : Nat) : Prop where
  word : x < 18446744073709551616
  fin : isFinD x = true
  bnd : A < 9218868437227405312
  le : dx x ≤ (magD A : Int)
  ge : -(magD A : Int) ≤ dx x

theorem AbsD.of_near {z b A : Nat} {V : Int} (h : NearD z b V) (hA : A < 9218868437227405312) (h1 : V ≤ (magD A : Int) * 2 ^ b) (h2 : -((magD A : Int) * 2 ^ b) ≤ V) : AbsD z A := by
  have k1 := h.le A (by unfold isOrdD; omega) (by rw [fx_posD (A := A) (by omega)]; exact h1)
  have k2 := h.ge (A + 9223372036854775808) (by unfold isOrdD; omega) (by rw [fx_flipD (A := A) (by omega), Int.neg_mul]; exact h2)
  rw [fx_posD (A := A) (by omega)] at k1
  rw [fx_flipD (A := A) (by omega)] at k2
  refine ⟨h.word, ?_, hA, k1, k2⟩
  have hm : magD (z % 9223372036854775808) ≤ magD A := by
    rcases fx_absD (x := z) with e | e <;> rw [e] at k1 k2 <;> omega
  have := magOf_le_iffD.1 hm
  simp only [isFinD, decide_eq_true_eq]
  omega

theorem isFin_of_ltD {A : Nat} (hA : A < 9218868437227405312) : isFinD A = true := by
  simp only [isFinD, decide_eq_true_eq]; omega

/-- The next word up from a rounded sum is no less than the sum itself. -/
theorem add_upD {A B : Nat} (hA : A < 9218868437227405312) (hB : B < 9218868437227405312) (hC : dadd A B + 1 < 9218868437227405312) : (magD A : Int) + magD B ≤ magD (dadd A B + 1) := by
  have h := (add_finD (isFin_of_ltD hA) (isFin_of_ltD hB)).2
  rw [fx_posD (A := A) (by omega), fx_posD (A := B) (by omega)] at h
  rcases Int.lt_or_le (magD (dadd A B + 1) : Int) ((magD A : Int) + magD B) with h' | h'
  · exfalso
    have := h.ge (dadd A B + 1) (by unfold isOrdD; omega) (by rw [fx_posD (A := dadd A B + 1) (by omega)]; omega)
    rw [fx_posD (A := dadd A B + 1) (by omega), fx_posD (A := dadd A B) (by omega)] at this
    have := magOf_ltD (a := dadd A B) (b := dadd A B + 1) (by omega)
    omega
  · exact h'

theorem AbsD.add {x y A B : Nat} (hx : AbsD x A) (hy : AbsD y B) (hC : dadd A B + 1 < 9218868437227405312) : AbsD (dadd x y) (dadd A B + 1) := by
  have hu := add_upD hx.bnd hy.bnd hC
  have := hx.le; have := hx.ge; have := hy.le; have := hy.ge
  exact .of_near (add_finD hx.fin hy.fin).2 hC (by omega) (by omega)
theorem AbsD.sub {x y A B : Nat} (hx : AbsD x A) (hy : AbsD y B) (hC : dadd A B + 1 < 9218868437227405312) : AbsD (dsub x y) (dadd A B + 1) := by
  have hu := add_upD hx.bnd hy.bnd hC
  have := hx.le; have := hx.ge; have := hy.le; have := hy.ge
  exact .of_near (sub_finD hx.fin hy.fin).2 hC (by omega) (by omega)

theorem AbsD.mono {x A B : Nat} (h : AbsD x A) (hAB : A ≤ B) (hB : B < 9218868437227405312) : AbsD x B := by
  have := magOf_le_iffD.2 hAB
  have := h.le; have := h.ge
  exact ⟨h.word, h.fin, hB, by omega, by omega⟩


/-! ### From double to single -/
theorem finD_of_read {x : Nat} {s : Bool} {m : Nat} {i : Int} (h : double.read x = .number s m i) : isFinD x = true := by
  have e1 : double.signWeight = 9223372036854775808 := by decide
  have e2 : double.binade = 4503599627370496 := by decide
  have e3 : double.infRung = 9218868437227405312 := by decide
  unfold Format.read at h
  simp only [e1, e2, e3] at h
  simp only [isFinD, decide_eq_true_eq]
  by_cases h1 : x % 9223372036854775808 < 4503599627370496
  · omega
  · rw [if_neg h1] at h
    by_cases h2 : x % 9223372036854775808 < 9218868437227405312
    · exact h2
    · rw [if_neg h2] at h
      split at h <;> cases h

theorem toD_dx {x : Nat} (h : isFin x = true) : isFinD (toD x) = true ∧ dx (toD x) = fx x * 2 ^ 925 ∧ toD x < 18446744073709551616 := by
  obtain ⟨s, m, i, hr, hi, hv⟩ := toD_read h
  have hf := finD_of_read hr
  obtain ⟨s', m', i', hr', hi', hv'⟩ := read_finD hf
  rw [hr] at hr'
  injection hr' with h1 h2 h3
  subst h1 h2 h3
  refine ⟨hf, by rw [← hv', hv], ?_⟩
  have := double.write_lt (single.read x)
  exact this

/-- A double word that is so great in size becomes a finite single word. -/
def toS (d : Nat) : Nat := single.write (double.read d)
theorem toS_fin {d A : Nat} (h : isFinD d = true) (hA : A < 2139095040) (h1 : dx d ≤ (magOf A : Int) * 2 ^ 925) (h2 : -((magOf A : Int) * 2 ^ 925) ≤ dx d) :
    floatToFloatBits .f64 d .f32 = some (toS d) ∧ Near (toS d) 925 (dx d) ∧ AbsLe (toS d) A := by
  obtain ⟨s, m, i, hr, hi, hv⟩ := read_finD h
  have hw := write_between s m i 925 (dx d) (by omega) (by rw [← hv]; rfl)
  have e : toS d = single.nearest s m i := by unfold toS; rw [hr]; rfl
  have hn : Near (toS d) 925 (dx d) := by
    rw [e]; exact ⟨hw.1, hw.2.1, hw.2.2.1, hw.2.2.2⟩
  have ha := AbsLe.of_near hn hA h1 h2
  refine ⟨?_, hn, ha⟩
  unfold floatToFloatBits
  have hd : FloatKind.f64.decode d = .number s m i := hr
  rw [if_neg (by decide), hd]
  simp only
  have e2 : FloatKind.f32.encode (.number s m i) = toS d := by unfold toS; rw [hr]; rfl
  rw [e2]
  obtain ⟨s', m', i', hr', _⟩ := single_mag ha.fin
  have e3 : FloatKind.f32.decode (toS d) = .number s' m' i' := hr'
  rw [e3]
  rfl

/-! ### Sums in double words -/
theorem BW_mag : (magD 4697254411347427328 : Int) = (magOf PW : Int) * 2 ^ 925 := by decide +kernel
theorem toD_abs {x : Nat} (h : AbsLe x PW) : AbsD (toD x) 4697254411347427328 := by
  obtain ⟨h1, h2, h3⟩ := toD_dx h.fin
  have hm := BW_mag
  have hp : (0 : Int) ≤ 2 ^ 925 := Int.le_of_lt (Int.pow_pos (by omega))
  refine ⟨h3, h1, by omega, ?_, ?_⟩
  · rw [hm, h2]; exact Int.mul_le_mul_of_nonneg_right h.le hp
  · rw [hm, h2, ← Int.neg_mul]; exact Int.mul_le_mul_of_nonneg_right h.ge hp

def wideK (xs : List Nat) : Nat → Nat
  | 0 => 0
  | k + 1 => dadd (wideK xs k) (toD (fat xs k))
def wideOf (xs : List Nat) : Nat := toS (wideK xs xs.length)
def bw : Nat → Nat
  | 0 => 0
  | k + 1 => dadd (bw k) 4697254411347427328 + 1
theorem bw_ok : ∀ k, k ≤ 48 → bw k < 9218868437227405312 ∧ magD (bw k) ≤ magOf 1300234240 * 2 ^ 925 := by
  have h : ((List.range 49).all fun k => decide (bw k < 9218868437227405312 ∧ magD (bw k) ≤ magOf 1300234240 * 2 ^ 925)) = true := by decide +kernel
  intro k hk
  exact of_decide_eq_true (List.all_eq_true.1 h k (List.mem_range.2 (by omega)))
theorem absD_zero : AbsD 0 0 := ⟨by omega, by decide, by omega, by decide, by decide⟩
theorem wide_abs {xs : List Nat} (h : Plains xs) (hn : xs.length ≤ 48) : ∀ k, k ≤ xs.length → AbsD (wideK xs k) (bw k)
  | 0, _ => absD_zero
  | k + 1, hk => (wide_abs h hn k (by omega)).add (toD_abs (h.abs (by omega))) (bw_ok (k + 1) (by omega)).1
theorem pow_cast (a k : Nat) : ((a * 2 ^ k : Nat) : Int) = (a : Int) * 2 ^ k := by push_cast; rfl
theorem wide_fin {xs : List Nat} (h : Plains xs) (hn : xs.length ≤ 48) : floatToFloatBits .f64 (wideK xs xs.length) .f32 = some (wideOf xs) ∧ AbsLe (wideOf xs) 1300234240 := by
  have ha := wide_abs h hn xs.length (Nat.le_refl _)
  obtain ⟨b1, b2⟩ := bw_ok xs.length hn
  have e : ((magD (bw xs.length) : Nat) : Int) ≤ (magOf 1300234240 : Int) * 2 ^ 925 := by
    rw [← pow_cast (magOf 1300234240) 925]
    exact_mod_cast b2
  obtain ⟨k1, _, k3⟩ := toS_fin (A := 1300234240) ha.fin (by omega) (Int.le_trans ha.le e) (Int.le_trans (Int.neg_le_neg e) ha.ge)
  exact ⟨k1, k3⟩

end Go.Proofs.Ytboddpifepegcaa
