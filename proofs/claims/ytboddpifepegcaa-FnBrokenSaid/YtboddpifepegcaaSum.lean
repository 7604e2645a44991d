/- Plain laws on sums of plain numbers: what is added in several orders, and that none of it is ever infinite or no number. No program in sight. -/
import Derived.Test.YtboddpifepegcaaRnd
import Derived.Test.YtboddpifepegcaaList
namespace Go.Proofs.Ytboddpifepegcaa
set_option maxRecDepth 20000
open Ieee

/-- The sum of the first k numbers, from the first one on. -/
def leftK (xs : List Nat) : Nat → Nat
  | 0 => 0
  | k + 1 => fadd (leftK xs k) (fat xs k)
def leftOf (xs : List Nat) : Nat := leftK xs xs.length
/-- The sum of the last k of n numbers, from the last one on. -/
def rightK (xs : List Nat) (n : Nat) : Nat → Nat
  | 0 => 0
  | k + 1 => fadd (rightK xs n k) (fat xs (n - 1 - k))
def rightOf (xs : List Nat) : Nat := rightK xs xs.length xs.length
/-- The sum of the first k numbers, and what is lost. -/
def keptK (xs : List Nat) : Nat → Nat × Nat
  | 0 => (0, 0)
  | k + 1 => (fadd (keptK xs k).1 (fsub (fat xs k) (keptK xs k).2), fsub (fsub (fadd (keptK xs k).1 (fsub (fat xs k) (keptK xs k).2)) (keptK xs k).1) (fsub (fat xs k) (keptK xs k).2))
def keptOf (xs : List Nat) : Nat := (keptK xs xs.length).1
def pairsOf (xs : List Nat) : Nat :=
  if xs.length = 0 then 0 else if h : xs.length ≤ 1 then fat xs 0 else fadd (pairsOf (xs.take (xs.length / 2))) (pairsOf (xs.drop (xs.length / 2)))
termination_by xs.length
decreasing_by
  · simp; omega
  · simp; omega

/-! ### Plain numbers -/
/-- 2 ^ 20 as a word. -/
def PW : Nat := 1233125376
theorem plain_abs {x : Nat} (hx : x < 4294967296) (h : isPlain x = true) : AbsLe x PW := by
  have hf : isFin x = true := by
    cases hf : isFin x
    · exfalso
      cases hi : isInf x
      · have := (order_self_nan hf hi 3380609024).1
        simp only [isPlain, fGe, Bool.and_eq_true, Bool.or_eq_true, beq_iff_eq] at h
        have h1 : single.order x 3380609024 = some .gt ∨ single.order x 3380609024 = some .eq := h.1
        rw [this] at h1
        rcases h1 with h1 | h1 <;> cases h1
      · have e1 : x % 2147483648 = 2139095040 := by simpa [isInf] using hi
        have c1 : x = 2139095040 ∨ x = 4286578688 := by omega
        rcases c1 with rfl | rfl
        · revert h; decide
        · revert h; decide
    · rfl
  simp only [isPlain, fGe, fLe, Bool.and_eq_true, Bool.or_eq_true, beq_iff_eq] at h
  obtain ⟨h1, h2⟩ := h
  have e1 : single.order x 3380609024 = some (compare (fx x) (fx 3380609024)) := order_fin hf (by decide)
  have e2 : single.order x 1233125376 = some (compare (fx x) (fx 1233125376)) := order_fin hf (by decide)
  have h1' : single.order x 3380609024 = some .gt ∨ single.order x 3380609024 = some .eq := h1
  have h2' : single.order x 1233125376 = some .lt ∨ single.order x 1233125376 = some .eq := h2
  rw [e1] at h1'
  rw [e2] at h2'
  simp only [Option.some.injEq, cmp_gt, cmp_eq, cmp_lt] at h1' h2'
  have f1 : fx 3380609024 = -(magOf PW : Int) := fx_flip (A := 1233125376) (by omega)
  have f2 : fx 1233125376 = (magOf PW : Int) := fx_pos (by omega)
  rw [f1] at h1'
  rw [f2] at h2'
  exact ⟨hx, hf, by decide, by omega, by omega⟩

/-! ### Bounds, by the same operations upon bounds -/
def up (A B : Nat) : Nat := fadd A B + 1
def bl : Nat → Nat
  | 0 => 0
  | k + 1 => up (bl k) PW
theorem bl_ok : ∀ k, k ≤ 48 → bl k < 2139095040 := by
  have h : ((List.range 49).all fun k => decide (bl k < 2139095040)) = true := by decide +kernel
  intro k hk
  have := List.all_eq_true.1 h k (List.mem_range.2 (by omega))
  simpa using this
def bk : Nat → Nat × Nat
  | 0 => (0, 0)
  | k + 1 => (up (bk k).1 (up PW (bk k).2), up (up (up (bk k).1 (up PW (bk k).2)) (bk k).1) (up PW (bk k).2))
theorem bk_ok : ∀ k, k ≤ 48 → (bk k).1 < 2139095040 ∧ (bk k).2 < 2139095040 ∧ up PW (bk k).2 < 2139095040 ∧ up (up (bk k).1 (up PW (bk k).2)) (bk k).1 < 2139095040 := by
  have h : ((List.range 49).all fun k => decide ((bk k).1 < 2139095040 ∧ (bk k).2 < 2139095040 ∧ up PW (bk k).2 < 2139095040 ∧ up (up (bk k).1 (up PW (bk k).2)) (bk k).1 < 2139095040)) = true := by decide +kernel
  intro k hk
  have := List.all_eq_true.1 h k (List.mem_range.2 (by omega))
  simpa using this

theorem abs_zero : AbsLe 0 0 := ⟨by omega, by decide, by omega, by decide, by decide⟩
/-- All numbers of a list are plain words. -/
def Plains (xs : List Nat) : Prop := ∀ k, k < xs.length → fat xs k < 4294967296 ∧ isPlain (fat xs k) = true
theorem Plains.abs {xs : List Nat} (h : Plains xs) {k : Nat} (hk : k < xs.length) : AbsLe (fat xs k) PW := plain_abs (h k hk).1 (h k hk).2

theorem left_abs {xs : List Nat} (h : Plains xs) (hn : xs.length ≤ 48) : ∀ k, k ≤ xs.length → AbsLe (leftK xs k) (bl k)
  | 0, _ => abs_zero
  | k + 1, hk => (left_abs h hn k (by omega)).add (h.abs (by omega)) (bl_ok (k + 1) (by omega))
theorem right_abs {xs : List Nat} (h : Plains xs) (hn : xs.length ≤ 48) : ∀ k, k ≤ xs.length → AbsLe (rightK xs xs.length k) (bl k)
  | 0, _ => abs_zero
  | k + 1, hk => (right_abs h hn k (by omega)).add (h.abs (by omega)) (bl_ok (k + 1) (by omega))
theorem kept_abs {xs : List Nat} (h : Plains xs) (hn : xs.length ≤ 48) : ∀ k, k ≤ xs.length → AbsLe (keptK xs k).1 (bk k).1 ∧ AbsLe (keptK xs k).2 (bk k).2
  | 0, _ => ⟨abs_zero, abs_zero⟩
  | k + 1, hk => by
    obtain ⟨h1, h2⟩ := kept_abs h hn k (by omega)
    obtain ⟨_, _, c3, c4⟩ := bk_ok k (by omega)
    obtain ⟨d1, d2, _, _⟩ := bk_ok (k + 1) (by omega)
    have y := (h.abs (k := k) (by omega)).sub h2 c3
    have t := h1.add y d1
    have g := t.sub h1 c4
    exact ⟨t, g.sub y d2⟩

theorem bl_mono {a b : Nat} (h : a ≤ b) (hb : b ≤ 48) : bl a ≤ bl b := by
  have hh : ((List.range 48).all fun k => decide (bl k ≤ bl (k + 1))) = true := by decide +kernel
  induction b with
  | zero => have : a = 0 := by omega
            subst this; exact Nat.le_refl _
  | succ b ih =>
    rcases Nat.lt_or_ge b a with h' | h'
    · have : a = b + 1 := by omega
      subst this; exact Nat.le_refl _
    · have h1 := ih h' (by omega)
      have h2 := of_decide_eq_true (List.all_eq_true.1 hh b (List.mem_range.2 (by omega)))
      omega
/-- Bounds of sums of halves. -/
def bp : Nat → Nat
  | 0 => PW
  | k + 1 => up (bp k) (bp k)
theorem bp_ok : ∀ k, k ≤ 48 → bp k < 2139095040 ∧ (∀ j, j ≤ k → bp j ≤ bp k) := by
  have h : ((List.range 49).all fun k => decide (bp k < 2139095040) && (List.range (k + 1)).all fun j => decide (bp j ≤ bp k)) = true := by decide +kernel
  intro k hk
  have := List.all_eq_true.1 h k (List.mem_range.2 (by omega))
  simp only [Bool.and_eq_true, decide_eq_true_eq] at this
  exact ⟨this.1, fun j hj => of_decide_eq_true (List.all_eq_true.1 this.2 j (List.mem_range.2 (by omega)))⟩
theorem fatS_take {xs : List Nat} {q k : Nat} (h : k < q) : fat (xs.take q) k = fat xs k := by simp [fat, h]
theorem fatS_drop {xs : List Nat} {q k : Nat} : fat (xs.drop q) k = fat xs (q + k) := by simp [fat, List.getElem?_drop]
theorem Plains.take {xs : List Nat} (h : Plains xs) (q : Nat) : Plains (xs.take q) := fun k hk => by
  simp at hk; rw [fatS_take (by omega)]; exact h k (by omega)
theorem Plains.drop {xs : List Nat} (h : Plains xs) (q : Nat) : Plains (xs.drop q) := fun k hk => by
  simp at hk; rw [fatS_drop]; exact h _ (by omega)
theorem pairs_abs : ∀ (m : Nat) {xs : List Nat}, xs.length = m → Plains xs → m ≤ 48 → AbsLe (pairsOf xs) (bp m) := by
  intro m
  induction m using Nat.strongRecOn with
  | ind m ih =>
    intro xs hl hp hm
    rw [pairsOf]
    by_cases h0 : xs.length = 0
    · rw [if_pos h0]
      exact abs_zero.mono (by omega) (bp_ok m hm).1
    · rw [if_neg h0]
      by_cases h1 : xs.length ≤ 1
      · rw [dif_pos h1]
        exact (hp.abs (by omega)).mono ((bp_ok m hm).2 0 (by omega)) (bp_ok m hm).1
      · rw [dif_neg h1]
        have a1 := ih (m / 2) (by omega) (xs := xs.take (xs.length / 2)) (by simp; omega) (hp.take _) (by omega)
        have a2 := ih (m - m / 2) (by omega) (xs := xs.drop (xs.length / 2)) (by simp; omega) (hp.drop _) (by omega)
        obtain ⟨c, rfl⟩ : ∃ c, m = c + 1 := ⟨m - 1, by omega⟩
        have b1 := bp_ok c (by omega)
        have d1 := a1.mono (b1.2 _ (by omega)) b1.1
        have d2 := a2.mono (b1.2 _ (by omega)) b1.1
        exact d1.add d2 (bp_ok (c + 1) hm).1

end Go.Proofs.Ytboddpifepegcaa
