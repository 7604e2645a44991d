/- Whole numbers read from texts: both readings agree. -/
import Derived.Test.YtdcjoafagalejaaDoorNum
import Derived.Test.YtdcjoafagalejaaDoorWhole
namespace Go.Proofs.YtdcjoafagalejaaDoor
set_option maxRecDepth 20000
open Go.RowKit

theorem bat_app_lt {a b : List UInt8} {k : Nat} (h : k < a.length) : bat (a ++ b) k = bat a k := by
  unfold bat; rw [List.getD_eq_getElem?_getD, List.getD_eq_getElem?_getD, List.getElem?_append_left h]
theorem bat_app_end (a : List UInt8) (c : UInt8) : bat (a ++ [c]) a.length = c := by
  unfold bat; rw [List.getD_eq_getElem?_getD, List.getElem?_append_right (Nat.le_refl _)]; simp
theorem numK_app {a b : List UInt8} : ∀ {k : Nat}, k ≤ a.length → numK (a ++ b) k = numK a k
  | 0, _ => rfl
  | k + 1, h => by rw [numK, numK, numK_app (by omega), bat_app_lt (by omega)]
theorem digK_app {a b : List UInt8} : ∀ {k : Nat}, k ≤ a.length → digK (a ++ b) k = digK a k
  | 0, _ => rfl
  | k + 1, h => by rw [digK_succ, digK_succ, digK_app (by omega), bat_app_lt (by omega)]
theorem dig_byte {d : Nat} (h : d < 10) : (UInt8.ofNat (48 + d)).toNat = 48 + d := by
  rw [UInt8.toNat_ofNat']; omega
/-- What the digits of a number hold. -/
theorem dec_holds : ∀ n : Nat, digK (Lib.decDigits n) (Lib.decDigits n).length = true ∧ numK (Lib.decDigits n) (Lib.decDigits n).length = n ∧ 1 ≤ (Lib.decDigits n).length ∧ (1 ≤ n → (bat (Lib.decDigits n) 0).toNat ≠ 48) ∧ (n < 10 → (Lib.decDigits n).length = 1) := by
  intro n
  induction n using Nat.strongRecOn with
  | ind n ih =>
    by_cases h : n < 10
    · have hb := dig_byte h
      rw [Lib.decDigits_one h]
      refine ⟨?_, ?_, by simp, fun h1 => ?_, fun _ => rfl⟩
      · simp only [List.length_singleton, digK_succ]
        simp [digK, isDig, bat]; omega
      · simp [numK, bat]; omega
      · simp [bat]; omega
    · have i := ih (n / 10) (by omega)
      have hb := dig_byte (d := n % 10) (by omega)
      rw [decDigits_more h]
      refine ⟨?_, ?_, by simp, fun _ => ?_, fun h1 => absurd h1 h⟩
      · rw [List.length_append, List.length_singleton, digK_succ, digK_app (Nat.le_refl _), i.1, bat_app_end]
        simp [isDig]; omega
      · rw [List.length_append, List.length_singleton, numK, numK_app (Nat.le_refl _), i.2.1, bat_app_end, hb]; omega
      · rw [bat_app_lt (by omega)]; exact i.2.2.2.1 (by omega)
/-- The digits read are the digits of the number. -/
theorem take_dec {s : List UInt8} (h0 : (bat s 0).toNat ≠ 48) : ∀ k, k + 1 ≤ s.length → digK s (k + 1) = true → Lib.decDigits (numK s (k + 1)) = s.take (k + 1) ∧ 1 ≤ numK s (k + 1) := by
  intro k
  induction k with
  | zero =>
    intro hk hd
    rw [digK_succ, Bool.and_eq_true] at hd
    have h2 := hd.2
    simp only [isDig, Bool.and_eq_true, decide_eq_true_eq] at h2
    have e : numK s (0 + 1) = (bat s 0).toNat - 48 := by simp [numK]
    rw [e, Lib.decDigits_one (by omega)]
    refine ⟨?_, by omega⟩
    have e2 : 48 + ((bat s 0).toNat - 48) = (bat s 0).toNat := by omega
    rw [e2, UInt8.ofNat_toNat]
    match s, hk with
    | b :: r, _ => simp [bat]
  | succ k ih =>
    intro hk hd
    rw [digK_succ, Bool.and_eq_true] at hd
    have i := ih (by omega) hd.1
    have h2 := hd.2
    simp only [isDig, Bool.and_eq_true, decide_eq_true_eq] at h2
    have e : numK s (k + 1 + 1) = numK s (k + 1) * 10 + ((bat s (k + 1)).toNat - 48) := rfl
    rw [e]
    generalize numK s (k + 1) = m at *
    rw [decDigits_more (by omega)]
    refine ⟨?_, by omega⟩
    have e1 : (m * 10 + ((bat s (k + 1)).toNat - 48)) / 10 = m := by omega
    have e2 : 48 + (m * 10 + ((bat s (k + 1)).toNat - 48)) % 10 = (bat s (k + 1)).toNat := by omega
    rw [e1, e2, i.1, UInt8.ofNat_toNat, List.take_add_one (i := k + 1), List.getElem?_eq_getElem (by omega)]
    simp [bat, List.getD_eq_getElem?_getD, List.getElem?_eq_getElem (show k + 1 < s.length by omega)]
theorem numK_ge {s : List UInt8} (h0 : (bat s 0).toNat ≠ 48) : ∀ k, digK s (k + 1) = true → 10 ^ k ≤ numK s (k + 1) := by
  intro k
  induction k with
  | zero =>
    intro hd
    rw [digK_succ, Bool.and_eq_true] at hd
    have h2 := hd.2
    simp only [isDig, Bool.and_eq_true, decide_eq_true_eq] at h2
    have e : numK s (0 + 1) = (bat s 0).toNat - 48 := by simp [numK]
    rw [e]; omega
  | succ k ih =>
    intro hd
    rw [digK_succ, Bool.and_eq_true] at hd
    have i := ih hd.1
    have e : numK s (k + 1 + 1) = numK s (k + 1) * 10 + ((bat s (k + 1)).toNat - 48) := rfl
    rw [e, Nat.pow_succ]; omega
theorem numOf_dec {n : Nat} (h : n < 1000000000) : numOf (Lib.decDigits n) = some n := by
  have d := dec_holds n
  have hl : (Lib.decDigits n).length ≤ 9 := by
    by_cases hn : 1 ≤ n
    · have g := numK_ge (d.2.2.2.1 hn) ((Lib.decDigits n).length - 1) (by rw [show (Lib.decDigits n).length - 1 + 1 = (Lib.decDigits n).length by omega]; exact d.1)
      rw [show (Lib.decDigits n).length - 1 + 1 = (Lib.decDigits n).length by omega, d.2.1] at g
      apply Nat.le_of_not_lt; intro hc
      have : 10 ^ 9 ≤ 10 ^ ((Lib.decDigits n).length - 1) := Nat.pow_le_pow_right (by omega) (by omega)
      omega
    · rw [d.2.2.2.2 (by omega)]; omega
  unfold numOf
  rw [if_pos, d.2.1]
  rw [d.1, Bool.and_true]
  simp only [shapeN, Bool.and_eq_true, decide_eq_true_eq, Bool.not_eq_true', Bool.and_eq_false_iff, beq_eq_false_iff_ne, decide_eq_false_iff_not]
  refine ⟨d.2.2.1, hl, ?_⟩
  by_cases h1 : 1 ≤ n
  · exact .inl (d.2.2.2.1 h1)
  · exact .inr (by rw [d.2.2.2.2 (by omega)]; omega)
theorem numOf_some {s : List UInt8} {v : Nat} (h : numOf s = some v) : s = Lib.decDigits v := by
  unfold numOf at h; split at h
  · rename_i h2
    rw [Bool.and_eq_true] at h2
    have hv := Option.some.inj h
    obtain ⟨hs, hd⟩ := h2
    simp only [shapeN, Bool.and_eq_true, decide_eq_true_eq, Bool.not_eq_true', Bool.and_eq_false_iff, beq_eq_false_iff_ne, decide_eq_false_iff_not] at hs
    subst hv
    by_cases h48 : (bat s 0).toNat = 48
    · have h1 : s.length = 1 := by omega
      obtain ⟨b, rfl⟩ : ∃ b, s = [b] := by match s, h1 with | [b], _ => exact ⟨b, rfl⟩
      have hb : b = 48 := by apply UInt8.toNat_inj.mp; exact h48
      subst hb
      show [48] = Lib.decDigits 0
      rw [Lib.decDigits_one (by omega)]; rfl
    · have t := (take_dec h48 (s.length - 1) (by omega) (by rw [show s.length - 1 + 1 = s.length by omega]; exact hd)).1
      rw [show s.length - 1 + 1 = s.length by omega, List.take_length] at t
      exact t.symm
  · cases h
theorem numOf_iff (s : List UInt8) (v : Nat) : numOf s = some v ↔ v < 1000000000 ∧ s = Lib.decDigits v :=
  ⟨fun h => ⟨numOf_lt h, numOf_some h⟩, fun ⟨h, e⟩ => by rw [e]; exact numOf_dec h⟩
theorem dec_head (n : Nat) : 48 ≤ (bat (Lib.decDigits n) 0).toNat ∧ (bat (Lib.decDigits n) 0).toNat ≤ 57 := by
  have d := dec_holds n
  have h : ∀ (s : List UInt8) k, digK s k = true → 1 ≤ k → isDig (bat s 0) = true := fun s k hd hk => by
    simp only [digK, List.all_eq_true, List.mem_range] at hd
    exact hd 0 (by omega)
  have := h _ _ d.1 d.2.2.1
  simpa [isDig] using this
theorem bat_cons_zero (c : UInt8) (r : List UInt8) : bat (c :: r) 0 = c := rfl
theorem bat_cons_succ (c : UInt8) (r : List UInt8) (k : Nat) : bat (c :: r) (k + 1) = bat r k := by unfold bat; simp
theorem minusOf_iff (s : List UInt8) (v : Int) : minusOf s = some v ↔ (-1000000000 < v ∧ v < 1000000000) ∧ s = Lib.itoa v := by
  unfold minusOf
  split
  · rename_i h
    obtain ⟨c, r, rfl⟩ : ∃ c r, s = c :: r := by match s, h.1 with | c :: r, _ => exact ⟨c, r, rfl⟩
    have hc : c = 45 := by apply UInt8.toNat_inj.mp; exact h.2.1
    subst hc
    have h3 := h.2.2
    rw [bat_cons_succ] at h3
    rw [List.drop_succ_cons, List.drop_zero, Option.map_eq_some_iff]
    constructor
    · rintro ⟨u, hu, rfl⟩
      rw [numOf_iff] at hu
      obtain ⟨h4, rfl⟩ := hu
      have h5 : 1 ≤ u := by
        apply Nat.le_of_not_lt; intro hlt
        obtain rfl : u = 0 := by omega
        rw [Lib.decDigits_one (by omega)] at h3
        exact h3 rfl
      exact ⟨by omega, (Lib.itoa_neg u h5).symm⟩
    · rintro ⟨hb, he⟩
      have hv : v < 0 := by
        apply Int.lt_of_not_ge; intro hv
        obtain ⟨u, rfl⟩ := Int.eq_ofNat_of_zero_le hv
        rw [Lib.itoa_nonneg] at he
        have := dec_head u
        rw [← he, bat_cons_zero] at this
        simp at this
      obtain ⟨u, rfl⟩ : ∃ u : Nat, v = -(u : Int) := ⟨v.natAbs, by omega⟩
      rw [Lib.itoa_neg u (by omega)] at he
      exact ⟨u, (numOf_iff _ _).2 ⟨by omega, (List.cons.inj he).2⟩, rfl⟩
  · rename_i h
    rw [Option.map_eq_some_iff]
    constructor
    · rintro ⟨u, hu, rfl⟩
      rw [numOf_iff] at hu
      exact ⟨by simp only [Int.ofNat_eq_natCast]; omega, by rw [hu.2]; exact (Lib.itoa_nonneg u).symm⟩
    · rintro ⟨hb, he⟩
      by_cases hv : v < 0
      · exfalso; apply h
        obtain ⟨u, rfl⟩ : ∃ u : Nat, v = -(u : Int) := ⟨v.natAbs, by omega⟩
        have h1 : 1 ≤ u := by omega
        rw [Lib.itoa_neg u h1] at he
        have d := dec_holds u
        rw [he, bat_cons_zero, bat_cons_succ]
        exact ⟨by simp; omega, rfl, d.2.2.2.1 h1⟩
      · obtain ⟨u, rfl⟩ := Int.eq_ofNat_of_zero_le (Int.not_lt.mp hv)
        rw [Lib.itoa_nonneg] at he
        exact ⟨u, (numOf_iff _ _).2 ⟨by omega, he⟩, rfl⟩
end Go.Proofs.YtdcjoafagalejaaDoor
