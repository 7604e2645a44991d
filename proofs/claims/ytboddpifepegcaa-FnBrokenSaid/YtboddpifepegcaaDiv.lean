/- Plain laws on quotients and products of single words: they lie between any two words between which the exact ones lie. No program in sight. -/
import Derived.Test.YtboddpifepegcaaSum
namespace Go.Proofs.Ytboddpifepegcaa
set_option maxRecDepth 20000
open Ieee

theorem cast_mul_pow (a k : Nat) : ((a * 2 ^ k : Nat) : Int) = (a : Int) * 2 ^ k := by push_cast; rfl

/-- A quotient, cut to many digits: nearest finds the rung that it would find for the quotient itself. -/
theorem quo_rung {m n : Nat} (hm : m < 16777216) (hn : n < 16777216) (h0 : m ≠ 0) (hn0 : n ≠ 0) (i j : Int) (hi : -149 ≤ i) (hj : -149 ≤ j)
    (more : Nat) (hmore : more = 25 + n.log2 - m.log2) (R : Nat) (hR : R ≤ 2139095040) :
    (m * 2 ^ (i + 149).toNat * 2 ^ 149 ≤ magOf R * (n * 2 ^ (j + 149).toNat) → rungOf (2 * ((m <<< more) / n) + ((m <<< more) % n != 0).toNat) (i - j - more - 1) ≤ R) ∧
    (magOf R * (n * 2 ^ (j + 149).toNat) ≤ m * 2 ^ (i + 149).toNat * 2 ^ 149 → R ≤ rungOf (2 * ((m <<< more) / n) + ((m <<< more) % n != 0).toNat) (i - j - more - 1)) := by
  have hnp : 0 < n := by omega
  have lm1 : 2 ^ m.log2 ≤ m := Nat.log2_self_le h0
  have ln1 : n < 2 ^ (n.log2 + 1) := Nat.lt_log2_self
  have lm2 : m.log2 < 24 := (Nat.log2_lt h0).2 hm
  rw [Nat.shiftLeft_eq]
  have hD : 16777216 * n ≤ m * 2 ^ more := by
    calc 16777216 * n ≤ 2 ^ 24 * 2 ^ (n.log2 + 1) := Nat.mul_le_mul_left _ (Nat.le_of_lt ln1)
      _ = 2 ^ (m.log2 + more) := by rw [← Nat.pow_add]; congr 1; omega
      _ = 2 ^ m.log2 * 2 ^ more := Nat.pow_add ..
      _ ≤ m * 2 ^ more := Nat.mul_le_mul_right _ lm1
  have hdm := Nat.div_add_mod (m * 2 ^ more) n
  have hml := Nat.mod_lt (m * 2 ^ more) hnp
  have hq : 16777216 ≤ m * 2 ^ more / n := (Nat.le_div_iff_mul_le hnp).2 hD
  generalize hDD : m * 2 ^ more = D at *
  generalize D / n = q at *
  generalize hs : (D % n != 0) = s
  have hs1 : s.toNat ≤ 1 := by cases s <;> simp
  have hsr : D % n ≠ 0 → s.toNat = 1 := by intro h; rw [← hs]; simp [h]
  have hsz : D % n = 0 → s.toNat = 0 := by intro h; rw [← hs]; simp [h]
  generalize D % n = r at *
  generalize s.toNat = st at *
  -- exponents
  generalize ha : (i - j - more - 1 + 149).toNat = a
  generalize hb : (-149 - (i - j - more - 1)).toNat = b
  generalize hI : (i + 149).toNat = I at *
  generalize hJ : (j + 149).toNat = J at *
  have hrel : I + 149 + b = J + more + 1 + a := by omega
  have hp : ∀ k : Nat, 0 < 2 ^ k := fun k => Nat.two_pow_pos k
  -- the quotient against 'X * 2 ^ b' units: m * 2^I * 2^149 ≤ M * n * 2^J  iff  D * 2^a * 2 ≤ M * 2^b * n
  have key : ∀ M, (m * 2 ^ I * 2 ^ 149 ≤ M * (n * 2 ^ J) ↔ D * 2 * 2 ^ a ≤ M * 2 ^ b * n) := by
    intro M
    have e1 : m * 2 ^ I * 2 ^ 149 * (2 ^ b * 2 ^ more) = D * 2 * 2 ^ a * (2 ^ J * 2 ^ more) := by
      rw [← hDD]
      have : m * 2 ^ I * 2 ^ 149 * (2 ^ b * 2 ^ more) = m * 2 ^ more * 2 ^ (I + 149 + b) := by rw [Nat.pow_add, Nat.pow_add]; simp only [Nat.mul_assoc, Nat.mul_comm, Nat.mul_left_comm]
      rw [this, hrel, Nat.pow_add, Nat.pow_add, Nat.pow_add]
      simp only [Nat.mul_assoc, Nat.mul_comm, Nat.mul_left_comm, Nat.pow_one]
    have e2 : M * (n * 2 ^ J) * (2 ^ b * 2 ^ more) = M * 2 ^ b * n * (2 ^ J * 2 ^ more) := by simp only [Nat.mul_assoc, Nat.mul_comm, Nat.mul_left_comm]
    have pa : 0 < 2 ^ b * 2 ^ more := Nat.mul_pos (hp _) (hp _)
    have pb : 0 < 2 ^ J * 2 ^ more := Nat.mul_pos (hp _) (hp _)
    constructor
    · intro h
      have := Nat.mul_le_mul_right (2 ^ b * 2 ^ more) h
      rw [e1, e2] at this
      exact Nat.le_of_mul_le_mul_right this pb
    · intro h
      have := Nat.mul_le_mul_right (2 ^ J * 2 ^ more) h
      rw [← e1, ← e2] at this
      exact Nat.le_of_mul_le_mul_right this pa
  have key' : ∀ M, (M * (n * 2 ^ J) ≤ m * 2 ^ I * 2 ^ 149 ↔ M * 2 ^ b * n ≤ D * 2 * 2 ^ a) := by
    intro M
    have e1 : m * 2 ^ I * 2 ^ 149 * (2 ^ b * 2 ^ more) = D * 2 * 2 ^ a * (2 ^ J * 2 ^ more) := by
      rw [← hDD]
      have : m * 2 ^ I * 2 ^ 149 * (2 ^ b * 2 ^ more) = m * 2 ^ more * 2 ^ (I + 149 + b) := by rw [Nat.pow_add, Nat.pow_add]; simp only [Nat.mul_assoc, Nat.mul_comm, Nat.mul_left_comm]
      rw [this, hrel, Nat.pow_add, Nat.pow_add, Nat.pow_add]
      simp only [Nat.mul_assoc, Nat.mul_comm, Nat.mul_left_comm, Nat.pow_one]
    have e2 : M * (n * 2 ^ J) * (2 ^ b * 2 ^ more) = M * 2 ^ b * n * (2 ^ J * 2 ^ more) := by simp only [Nat.mul_assoc, Nat.mul_comm, Nat.mul_left_comm]
    have pa : 0 < 2 ^ b * 2 ^ more := Nat.mul_pos (hp _) (hp _)
    have pb : 0 < 2 ^ J * 2 ^ more := Nat.mul_pos (hp _) (hp _)
    constructor
    · intro h
      have := Nat.mul_le_mul_right (2 ^ b * 2 ^ more) h
      rw [e1, e2] at this
      exact Nat.le_of_mul_le_mul_right this pb
    · intro h
      have := Nat.mul_le_mul_right (2 ^ J * 2 ^ more) h
      rw [← e1, ← e2] at this
      exact Nat.le_of_mul_le_mul_right this pa
  have rb := rungOf_bounds (2 * q + st) (i - j - more - 1) R hR
  rw [ha, hb] at rb
  -- the bound, in units of the last digit but one
  obtain ⟨e, c, hRe, hc, hce⟩ := rung_uk R
  have hM := magOf_uk e c (by omega) hce
  rw [← hRe] at hM
  by_cases hint : ∃ K, magOf R * 2 ^ b = K * 2 * 2 ^ a
  · obtain ⟨K, hK⟩ := hint
    have up : D ≤ K * n → 2 * q + st ≤ 2 * K := by
      intro h
      by_cases hr : r = 0
      · have := hsz hr
        have h1 : n * q ≤ n * K := by rw [Nat.mul_comm n K]; omega
        have := Nat.le_of_mul_le_mul_left h1 hnp
        omega
      · have := hsr hr
        have h1 : n * q < n * K := by rw [Nat.mul_comm n K]; omega
        have := Nat.lt_of_mul_lt_mul_left h1
        omega
    have down : K * n ≤ D → 2 * K ≤ 2 * q + st := by
      intro h
      have h1 : n * K < n * (q + 1) := by rw [Nat.mul_comm n K, Nat.mul_add]; omega
      have := Nat.lt_of_mul_lt_mul_left h1
      omega
    constructor
    · intro h
      have h1 := (key _).1 h
      rw [hK] at h1
      have h2 : D * (2 * 2 ^ a) ≤ K * n * (2 * 2 ^ a) := by
        calc D * (2 * 2 ^ a) = D * 2 * 2 ^ a := by rw [Nat.mul_assoc]
          _ ≤ K * 2 * 2 ^ a * n := h1
          _ = K * n * (2 * 2 ^ a) := by simp only [Nat.mul_assoc, Nat.mul_comm]
      have h3 := Nat.le_of_mul_le_mul_right h2 (Nat.mul_pos (by omega) (hp _))
      refine rb.1 ?_
      rw [hK]
      have := Nat.mul_le_mul_right (2 ^ a) (up h3)
      rwa [Nat.mul_comm 2 K] at this
    · intro h
      have h1 := (key' _).1 h
      rw [hK] at h1
      have h2 : K * n * (2 * 2 ^ a) ≤ D * (2 * 2 ^ a) := by
        calc K * n * (2 * 2 ^ a) = K * 2 * 2 ^ a * n := by simp only [Nat.mul_assoc, Nat.mul_comm]
          _ ≤ D * 2 * 2 ^ a := h1
          _ = D * (2 * 2 ^ a) := by rw [Nat.mul_assoc]
      have h3 := Nat.le_of_mul_le_mul_right h2 (Nat.mul_pos (by omega) (hp _))
      refine rb.2 ?_
      rw [hK]
      have := Nat.mul_le_mul_right (2 ^ a) (down h3)
      rwa [Nat.mul_comm 2 K] at this
  · -- the bound's last digit lies below: it is less than all of this
    have hlt : magOf R * 2 ^ b < 16777216 * 2 * 2 ^ a := by
      rw [hM]
      rcases Nat.lt_or_ge (e + b) (a + 1) with h | h
      · have h1 : (2 : Nat) ^ (e + b) ≤ 2 ^ a := Nat.pow_le_pow_right (by omega) (by omega)
        rw [Nat.pow_add] at h1
        have h2 : c * 2 ^ e * 2 ^ b ≤ c * 2 ^ a := by rw [Nat.mul_assoc]; exact Nat.mul_le_mul_left _ h1
        have h3 : c * 2 ^ a < 16777216 * 2 ^ a := Nat.mul_lt_mul_of_pos_right hc (hp _)
        have := hp a
        omega
      · exfalso
        apply hint
        refine ⟨c * 2 ^ (e + b - (a + 1)), ?_⟩
        rw [hM, Nat.mul_assoc, ← Nat.pow_add, Nat.mul_assoc, Nat.mul_assoc, show 2 * 2 ^ a = 2 ^ (a + 1) by rw [Nat.pow_succ]; omega, ← Nat.pow_add]
        congr 2; omega
    have hge : 16777216 * 2 * 2 ^ a ≤ (2 * q + st) * 2 ^ a := Nat.mul_le_mul_right _ (by omega)
    constructor
    · intro h
      exfalso
      have h1 := (key _).1 h
      have h2 : 16777216 * n * 2 * 2 ^ a ≤ D * 2 * 2 ^ a := Nat.mul_le_mul_right _ (Nat.mul_le_mul_right _ hD)
      have h3 : magOf R * 2 ^ b * n < 16777216 * 2 * 2 ^ a * n := Nat.mul_lt_mul_of_pos_right hlt hnp
      have e1 : 16777216 * n * 2 * 2 ^ a = 16777216 * 2 * 2 ^ a * n := by simp only [Nat.mul_comm, Nat.mul_left_comm]
      omega
    · intro _
      exact rb.2 (by omega)

/-- What is known of a quotient z of numbers that are worth X and Y. -/
structure NearQ (z : Nat) (X Y : Int) : Prop where
  word : z < 4294967296
  ord : isOrd z
  le : ∀ t, isOrd t → X * 2 ^ 149 ≤ fx t * Y → fx z ≤ fx t
  ge : ∀ t, isOrd t → fx t * Y ≤ X * 2 ^ 149 → fx t ≤ fx z

theorem div_fin {x y : Nat} (hx : isFin x = true) (hy : isFin y = true) (h0 : 0 < fx y) : floatBits .quo .f32 x y = some (fdiv x y) ∧ NearQ (fdiv x y) (fx x) (fx y) := by
  obtain ⟨s, m, i, hr, hm, hi, hi2, hv⟩ := single_mag hx
  obtain ⟨t, n, j, hr', hn, hj, hj2, hv'⟩ := single_mag hy
  have vx : fx x = if s then -((m * 2 ^ (i + 149).toNat : Nat) : Int) else ((m * 2 ^ (i + 149).toNat : Nat) : Int) := by
    rw [← hv]; unfold valAt signed; rw [show i - -149 = i + 149 by omega, Nat.shiftLeft_eq]
  have vy : fx y = if t then -((n * 2 ^ (j + 149).toNat : Nat) : Int) else ((n * 2 ^ (j + 149).toNat : Nat) : Int) := by
    rw [← hv']; unfold valAt signed; rw [show j - -149 = j + 149 by omega, Nat.shiftLeft_eq]
  have ht : t = false := by
    cases t
    · rfl
    · rw [vy] at h0; simp only [if_true] at h0; omega
  subst ht
  simp only [Bool.false_eq_true, if_false] at vy
  have hn0 : n ≠ 0 := by
    rintro rfl
    rw [vy] at h0; simp at h0
  have e : single.div x y = some (single.nearest s (2 * ((m <<< (25 + n.log2 - m.log2)) / n) + ((m <<< (25 + n.log2 - m.log2)) % n != 0).toNat) (i - j - (25 + n.log2 - m.log2 : Nat) - 1)) := by
    unfold Format.div
    rw [hr, hr']
    simp only [Datum.quotient, if_neg hn0, Option.map_some, Format.write, Bool.xor_false]
    rfl
  have e2 : fdiv x y = single.nearest s (2 * ((m <<< (25 + n.log2 - m.log2)) / n) + ((m <<< (25 + n.log2 - m.log2)) % n != 0).toNat) (i - j - (25 + n.log2 - m.log2 : Nat) - 1) := by unfold fdiv; rw [e]; rfl
  refine ⟨by rw [e2]; exact e, ?_⟩
  rw [e2, nearest_rung]
  by_cases hm0 : m = 0
  · subst hm0
    have hz : rungOf (2 * ((0 <<< (25 + n.log2 - Nat.log2 0)) / n) + ((0 <<< (25 + n.log2 - Nat.log2 0)) % n != 0).toNat) (i - j - (25 + n.log2 - Nat.log2 0 : Nat) - 1) = 0 := by
      simp [rungOf, Nat.shiftLeft_eq]
    rw [hz]
    obtain ⟨w1, w2, w3⟩ := word_rung s (R := 0) (by omega)
    have hX : fx x = 0 := by rw [vx]; cases s <;> simp
    have hzz : fx (single.word s 0) = 0 := by rw [fx_word s (by omega)]; cases s <;> rfl
    refine ⟨w3, by unfold isOrd; rw [w1]; omega, fun t _ h => ?_, fun t _ h => ?_⟩
    · rw [hX, Int.zero_mul] at h
      rw [hzz]
      rcases Int.lt_or_le (fx t) 0 with h' | h'
      · have := Int.mul_neg_of_neg_of_pos h' h0; omega
      · exact h'
    · rw [hX, Int.zero_mul] at h
      rw [hzz]
      rcases Int.lt_or_le 0 (fx t) with h' | h'
      · have := Int.mul_pos h' h0; omega
      · exact h'
  · generalize hmore : 25 + n.log2 - m.log2 = more
    have hq := fun R hR => quo_rung hm hn hm0 hn0 i j hi hj more hmore.symm R hR
    generalize hrg : rungOf (2 * (m <<< more / n) + (m <<< more % n != 0).toNat) (i - j - (more : Nat) - 1) = rg at *
    have hrl : rg ≤ 2139095040 := by rw [← hrg]; exact rungOf_le _ _
    obtain ⟨w1, w2, w3⟩ := word_rung s hrl
    have hA : 0 < m * 2 ^ (i + 149).toNat := Nat.mul_pos (by omega) (Nat.two_pow_pos _)
    have hB : 0 < n * 2 ^ (j + 149).toNat := Nat.mul_pos (by omega) (Nat.two_pow_pos _)
    generalize m * 2 ^ (i + 149).toNat = A at *
    generalize n * 2 ^ (j + 149).toNat = B at *
    have cst : (A : Int) * 2 ^ 149 = ((A * 2 ^ 149 : Nat) : Int) := (cast_mul_pow A 149).symm
    have cmb : ∀ R, (magOf R : Int) * (B : Int) = ((magOf R * B : Nat) : Int) := fun R => by push_cast; rfl
    have hAp : 0 < A * 2 ^ 149 := Nat.mul_pos hA (Nat.two_pow_pos _)
    refine ⟨w3, by unfold isOrd; rw [w1]; exact hrl, fun t hto h => ?_, fun t hto h => ?_⟩
    · rw [fx_word s hrl]
      rw [vx, vy] at h
      have q := hq _ hto
      have mt := magOf_le_iff (a := t % 2147483648) (b := rg)
      have mt' := magOf_le_iff (a := rg) (b := t % 2147483648)
      rcases fx_abs (x := t) with et | et <;> rw [et] at h ⊢
      · cases s
        · simp only [Bool.false_eq_true, if_false] at h ⊢
          rw [cst, cmb] at h
          have := mt'.2 (q.1 (by omega))
          omega
        · simp only [if_true] at h ⊢
          omega
      · rw [Int.neg_mul, cmb] at h
        cases s
        · simp only [Bool.false_eq_true, if_false] at h ⊢
          rw [cst] at h
          omega
        · simp only [if_true] at h ⊢
          rw [Int.neg_mul, cst] at h
          have := mt.2 (q.2 (by omega))
          omega
    · rw [fx_word s hrl]
      rw [vx, vy] at h
      have q := hq _ hto
      have mt := magOf_le_iff (a := t % 2147483648) (b := rg)
      have mt' := magOf_le_iff (a := rg) (b := t % 2147483648)
      rcases fx_abs (x := t) with et | et <;> rw [et] at h ⊢
      · rw [cmb] at h
        cases s
        · simp only [Bool.false_eq_true, if_false] at h ⊢
          rw [cst] at h
          have := mt.2 (q.2 (by omega))
          omega
        · simp only [if_true] at h ⊢
          rw [Int.neg_mul, cst] at h
          omega
      · rw [Int.neg_mul, cmb] at h
        cases s
        · simp only [Bool.false_eq_true, if_false] at h ⊢
          omega
        · simp only [if_true] at h ⊢
          rw [Int.neg_mul, cst] at h
          have := mt'.2 (q.1 (by omega))
          omega

theorem AbsLe.of_nearQ {z A : Nat} {X Y : Int} (h : NearQ z X Y) (hA : A < 2139095040) (h1 : X * 2 ^ 149 ≤ (magOf A : Int) * Y) (h2 : -((magOf A : Int) * Y) ≤ X * 2 ^ 149) : AbsLe z A := by
  have k1 := h.le A (by unfold isOrd; omega) (by rw [fx_pos (A := A) (by omega)]; exact h1)
  have k2 := h.ge (A + 2147483648) (by unfold isOrd; omega) (by rw [fx_flip (A := A) (by omega), Int.neg_mul]; exact h2)
  rw [fx_pos (A := A) (by omega)] at k1
  rw [fx_flip (A := A) (by omega)] at k2
  refine ⟨h.word, ?_, hA, k1, k2⟩
  have hm : magOf (z % 2147483648) ≤ magOf A := by
    rcases fx_abs (x := z) with e | e <;> rw [e] at k1 k2 <;> omega
  have := magOf_le_iff.1 hm
  simp only [isFin, decide_eq_true_eq]
  omega

/-- A product, in size at most C, if C is no less than the product of the bounds. -/
theorem AbsLe.mul {x y A B C : Nat} (hx : AbsLe x A) (hy : AbsLe y B) (hC : C < 2139095040) (hm : magOf A * magOf B ≤ magOf C * 2 ^ 149) : AbsLe (fmul x y) C := by
  have hN := (mul_fin hx.fin hy.fin).2
  have h1 := hx.le; have h2 := hx.ge; have h3 := hy.le; have h4 := hy.ge
  have hab : (fx x * fx y).natAbs ≤ magOf A * magOf B := by
    rw [Int.natAbs_mul]
    exact Nat.mul_le_mul (by omega) (by omega)
  have hcast : ((magOf C : Int) * 2 ^ 149) = ((magOf C * 2 ^ 149 : Nat) : Int) := (cast_mul_pow _ 149).symm
  exact .of_near hN hC (by rw [hcast]; omega) (by rw [hcast]; omega)

/-- A quotient by a number that is worth at least 1. -/
theorem AbsLe.div {x y A : Nat} (hx : AbsLe x A) (hy : isFin y = true) (h1 : (2 : Int) ^ 149 ≤ fx y) : AbsLe (fdiv x y) A := by
  have hp : (0 : Int) < 2 ^ 149 := Int.pow_pos (by omega)
  have h2 := hx.le; have h3 := hx.ge
  have hA : (0 : Int) ≤ magOf A := by omega
  have hmul : (magOf A : Int) * 2 ^ 149 ≤ (magOf A : Int) * fx y := Int.mul_le_mul_of_nonneg_left h1 hA
  have ha : fx x * 2 ^ 149 ≤ (magOf A : Int) * 2 ^ 149 := Int.mul_le_mul_of_nonneg_right h2 (Int.le_of_lt hp)
  have hb : -(magOf A : Int) * 2 ^ 149 ≤ fx x * 2 ^ 149 := Int.mul_le_mul_of_nonneg_right h3 (Int.le_of_lt hp)
  rw [Int.neg_mul] at hb
  exact .of_nearQ (div_fin hx.fin hy (by omega)).2 hx.bnd (by omega) (by omega)

end Go.Proofs.Ytboddpifepegcaa
