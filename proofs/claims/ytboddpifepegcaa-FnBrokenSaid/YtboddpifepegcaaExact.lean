/- Sums of whole numbers are exact: plain laws. -/
import Derived.Test.YtboddpifepegcaaSum
import Derived.Test.YtboddpifepegcaaDbl
namespace Go.Proofs.Ytboddpifepegcaa
set_option maxRecDepth 20000
open Ieee

/-- A word that holds a whole number. -/
structure IsI (x : Nat) (z : Int) : Prop where
  word : x < 4294967296
  fin : isFin x = true
  val : fx x = z * 2 ^ 149
theorem norm_shift {m : Nat} (h0 : 0 < m) (h : m ≤ 16777216) : ∃ s, s ≤ 23 ∧ 8388608 ≤ m * 2 ^ s ∧ m * 2 ^ s ≤ 16777216 := by
  have key : ∀ j, j ≤ 23 → m ≤ 2 ^ (24 - j) → (∃ s, s ≤ 23 ∧ 8388608 ≤ m * 2 ^ s ∧ m * 2 ^ s ≤ 16777216) ∨ m < 2 ^ (23 - j) := by
    intro j hj hm
    by_cases hc : 2 ^ (23 - j) ≤ m
    · left
      refine ⟨j, hj, ?_, ?_⟩
      · have := Nat.mul_le_mul_right (2 ^ j) hc
        rwa [← Nat.pow_add, show 23 - j + j = 23 by omega] at this
      · have := Nat.mul_le_mul_right (2 ^ j) hm
        rwa [← Nat.pow_add, show 24 - j + j = 24 by omega] at this
    · right; omega
  have go : ∀ j, j ≤ 24 → (∃ s, s ≤ 23 ∧ 8388608 ≤ m * 2 ^ s ∧ m * 2 ^ s ≤ 16777216) ∨ m ≤ 2 ^ (24 - j) := by
    intro j
    induction j with
    | zero => intro _; right; simpa using h
    | succ j ih =>
      intro hj
      rcases ih (by omega) with h1 | h1
      · exact .inl h1
      · rcases key j (by omega) h1 with h2 | h2
        · exact .inl h2
        · right; rw [show 24 - (j + 1) = 23 - j by omega]; omega
  rcases go 24 (Nat.le_refl _) with h1 | h1
  · exact h1
  · have : m = 1 := by simp at h1; omega
    exact ⟨23, by omega, by rw [this]; omega, by rw [this]; omega⟩
theorem rep_mag {m : Nat} (h : m ≤ 16777216) : ∃ R, R < 2139095040 ∧ magOf R = m * 2 ^ 149 := by
  by_cases h0 : m = 0
  · exact ⟨0, by omega, by rw [h0]; rfl⟩
  · obtain ⟨s, h1, h2, h3⟩ := norm_shift (by omega) h
    refine ⟨(149 - s) * 8388608 + m * 2 ^ s, by omega, ?_⟩
    rw [magOf_uk _ _ h3 (fun _ => h2), Nat.mul_assoc, ← Nat.pow_add, show s + (149 - s) = 149 by omega]
theorem isI_near {z : Nat} {V v : Int} (h : Near z 0 V) (hV : V = v * 2 ^ 149) (hv : -16777216 ≤ v ∧ v ≤ 16777216) : IsI z v := by
  obtain ⟨R, hR, hm⟩ := rep_mag (m := v.natAbs) (by omega)
  have c1 := fx_pos (A := R) (by omega)
  have c2 := fx_flip (A := R) (by omega)
  have hmI : (magOf R : Int) = (v.natAbs : Int) * 2 ^ 149 := by rw [hm]; exact pow_cast _ _
  have o1 : isOrd R := by unfold isOrd; omega
  have o2 : isOrd (R + 2147483648) := by unfold isOrd; omega
  have hp : (0 : Int) < 2 ^ 149 := Int.pow_pos (by omega)
  have key : (v < 0 ∧ V = -(magOf R : Int)) ∨ (0 ≤ v ∧ V = (magOf R : Int)) := by
    rw [hmI, hV]
    by_cases hn : v < 0
    · exact .inl ⟨hn, by rw [← Int.neg_mul, show -(v.natAbs : Int) = v by omega]⟩
    · exact .inr ⟨by omega, by rw [show (v.natAbs : Int) = v by omega]⟩
  have hle := h.le
  have hge := h.ge
  simp only [Int.pow_zero, Int.mul_one] at hle hge
  have a := AbsLe.of_near h hR (by rw [Int.pow_zero, Int.mul_one]; omega) (by rw [Int.pow_zero, Int.mul_one]; omega)
  refine ⟨h.word, a.fin, ?_⟩
  rw [← hV]
  rcases key with ⟨_, e⟩ | ⟨_, e⟩
  · have k1 := hle _ o2 (by rw [c2]; omega)
    have k2 := hge _ o2 (by rw [c2]; omega)
    omega
  · have k1 := hle _ o1 (by rw [c1]; omega)
    have k2 := hge _ o1 (by rw [c1]; omega)
    omega
theorem IsI.add {x y : Nat} {a b : Int} (hx : IsI x a) (hy : IsI y b) (h : -16777216 ≤ a + b ∧ a + b ≤ 16777216) : IsI (fadd x y) (a + b) :=
  isI_near (add_fin hx.fin hy.fin).2 (by rw [hx.val, hy.val, Int.add_mul]) h
theorem IsI.sub {x y : Nat} {a b : Int} (hx : IsI x a) (hy : IsI y b) (h : -16777216 ≤ a - b ∧ a - b ≤ 16777216) : IsI (fsub x y) (a - b) :=
  isI_near (sub_fin hx.fin hy.fin).2 (by rw [hx.val, hy.val, Int.sub_mul]) h
theorem isI_zero : IsI 0 0 := ⟨by omega, by decide, by decide⟩
/-- A list of words that hold whole numbers from -500 to 500. -/
structure Ints500 (xs : List Nat) (zs : List Int) : Prop where
  len : xs.length = zs.length
  at_ : ∀ k, k < xs.length → IsI (fat xs k) (iat zs k)
  bnd : ∀ k, k < xs.length → -500 ≤ iat zs k ∧ iat zs k ≤ 500
def sumK (zs : List Int) : Nat → Int
  | 0 => 0
  | k + 1 => sumK zs k + iat zs k
def sumI (zs : List Int) : Int := sumK zs zs.length
theorem sumK_bnd {zs : List Int} {n : Nat} (hb : ∀ k, k < n → -500 ≤ iat zs k ∧ iat zs k ≤ 500) : ∀ k, k ≤ n → -(500 * (k : Int)) ≤ sumK zs k ∧ sumK zs k ≤ 500 * (k : Int)
  | 0, _ => by simp [sumK]
  | k + 1, hk => by
    have ih := sumK_bnd hb k (by omega)
    have h := hb k (by omega)
    rw [sumK]; push_cast; omega
theorem left_I {xs : List Nat} {zs : List Int} (h : Ints500 xs zs) (hn : xs.length ≤ 48) : ∀ k, k ≤ xs.length → IsI (leftK xs k) (sumK zs k)
  | 0, _ => isI_zero
  | k + 1, hk => by
    have b := sumK_bnd h.bnd (k + 1) hk
    exact (left_I h hn k (by omega)).add (h.at_ k (by omega)) (by rw [show sumK zs k + iat zs k = sumK zs (k + 1) from rfl]; omega)
def sumR (zs : List Int) (n : Nat) : Nat → Int
  | 0 => 0
  | k + 1 => sumR zs n k + iat zs (n - 1 - k)
theorem sumR_add (zs : List Int) : ∀ n k, k ≤ n → sumK zs (n - k) + sumR zs n k = sumK zs n
  | n, 0, _ => by simp [sumR]
  | n, k + 1, hk => by
    have ih := sumR_add zs n k (by omega)
    rw [sumR]
    have e : n - k = n - (k + 1) + 1 := by omega
    rw [e, sumK, show n - (k + 1) = n - 1 - k by omega] at ih
    rw [show n - (k + 1) = n - 1 - k by omega]
    omega
theorem right_I {xs : List Nat} {zs : List Int} (h : Ints500 xs zs) (hn : xs.length ≤ 48) : ∀ k, k ≤ xs.length → IsI (rightK xs xs.length k) (sumR zs xs.length k)
  | 0, _ => isI_zero
  | k + 1, hk => by
    have e := sumR_add zs xs.length (k + 1) hk
    have b1 := sumK_bnd h.bnd xs.length (Nat.le_refl _)
    have b2 := sumK_bnd h.bnd (xs.length - (k + 1)) (by omega)
    exact (right_I h hn k (by omega)).add (h.at_ _ (by omega)) (by rw [show sumR zs xs.length k + iat zs (xs.length - 1 - k) = sumR zs xs.length (k + 1) from rfl]; omega)
theorem kept_I {xs : List Nat} {zs : List Int} (h : Ints500 xs zs) (hn : xs.length ≤ 48) : ∀ k, k ≤ xs.length → IsI (keptK xs k).1 (sumK zs k) ∧ IsI (keptK xs k).2 0
  | 0, _ => ⟨isI_zero, isI_zero⟩
  | k + 1, hk => by
    obtain ⟨h1, h2⟩ := kept_I h hn k (by omega)
    have b := sumK_bnd h.bnd (k + 1) hk
    have b0 := sumK_bnd h.bnd k (by omega)
    have bz := h.bnd k (by omega)
    have y := (h.at_ k (by omega)).sub h2 (by omega)
    rw [Int.sub_zero] at y
    have t := h1.add y (by rw [show sumK zs k + iat zs k = sumK zs (k + 1) from rfl]; omega)
    have u := t.sub h1 (by rw [show sumK zs k + iat zs k - sumK zs k = iat zs k by omega]; omega)
    rw [show sumK zs k + iat zs k - sumK zs k = iat zs k by omega] at u
    have v := u.sub y (by omega)
    rw [Int.sub_self] at v
    exact ⟨t, v⟩
theorem Ints500.take {xs : List Nat} {zs : List Int} (h : Ints500 xs zs) (q : Nat) : Ints500 (xs.take q) (zs.take q) :=
  ⟨by simp [h.len], fun k hk => by
    have hk2 : k < q ∧ k < xs.length := by simp at hk; omega
    have e : iat (zs.take q) k = iat zs k := by simp [iat, hk2.1]
    rw [fatS_take hk2.1, e]; exact h.at_ k hk2.2, fun k hk => by
    have hk2 : k < q ∧ k < xs.length := by simp at hk; omega
    have e : iat (zs.take q) k = iat zs k := by simp [iat, hk2.1]
    rw [e]; exact h.bnd k hk2.2⟩
theorem iat_drop (zs : List Int) (q k : Nat) : iat (zs.drop q) k = iat zs (q + k) := by simp [iat, List.getElem?_drop]
theorem Ints500.drop {xs : List Nat} {zs : List Int} (h : Ints500 xs zs) (q : Nat) : Ints500 (xs.drop q) (zs.drop q) :=
  ⟨by simp [h.len], fun k hk => by
    have hk2 : q + k < xs.length := by simp at hk; omega
    rw [fatS_drop, iat_drop]; exact h.at_ _ hk2, fun k hk => by
    have hk2 : q + k < xs.length := by simp at hk; omega
    rw [iat_drop]; exact h.bnd _ hk2⟩
theorem sumK_take (zs : List Int) (q : Nat) : ∀ k, k ≤ q → sumK (zs.take q) k = sumK zs k
  | 0, _ => rfl
  | k + 1, hk => by
    rw [sumK, sumK, sumK_take zs q k (by omega), show iat (zs.take q) k = iat zs k by simp [iat, show k < q by omega]]
theorem sumK_drop (zs : List Int) (q : Nat) : ∀ k, sumK zs q + sumK (zs.drop q) k = sumK zs (q + k)
  | 0 => by simp [sumK]
  | k + 1 => by
    rw [sumK, show q + (k + 1) = q + k + 1 by omega, sumK, iat_drop, ← sumK_drop zs q k]; omega
theorem pairs_I : ∀ (m : Nat) {xs : List Nat} {zs : List Int}, xs.length = m → Ints500 xs zs → m ≤ 48 → IsI (pairsOf xs) (sumI zs) := by
  intro m
  induction m using Nat.strongRecOn with
  | ind m ih =>
    intro xs zs hm h hn
    unfold pairsOf
    by_cases h0 : xs.length = 0
    · rw [if_pos h0]
      have : zs.length = 0 := by rw [← h.len]; exact h0
      unfold sumI; rw [this]; exact isI_zero
    · rw [if_neg h0]
      by_cases h1 : xs.length ≤ 1
      · rw [dif_pos h1]
        have e : zs.length = 1 := by rw [← h.len]; omega
        unfold sumI; rw [e, sumK, sumK, Int.zero_add]
        exact h.at_ 0 (by omega)
      · rw [dif_neg h1]
        have hl : (xs.take (xs.length / 2)).length = m / 2 := by simp; omega
        have hr : (xs.drop (xs.length / 2)).length = m - m / 2 := by simp; omega
        have a := ih (m / 2) (by omega) hl (h.take _) (by omega)
        have b := ih (m - m / 2) (by omega) hr (h.drop _) (by omega)
        have bb := sumK_bnd h.bnd xs.length (Nat.le_refl _)
        have e : sumI (zs.take (xs.length / 2)) + sumI (zs.drop (xs.length / 2)) = sumI zs := by
          unfold sumI
          rw [List.length_take, List.length_drop, ← h.len, sumK_take _ _ _ (by omega), Nat.min_eq_left (by omega), sumK_drop, show xs.length / 2 + (xs.length - xs.length / 2) = xs.length by omega]
        have := a.add b (by rw [e]; unfold sumI; rw [← h.len]; omega)
        rw [e] at this; exact this
end Go.Proofs.Ytboddpifepegcaa
