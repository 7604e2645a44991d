/- Walks over plans and floors: arrays of 24 numbers by value. -/
import Derived.Test.YtpaoccnffmngfaaSmall
namespace Go.Proofs.Ytpaoccnffmngfaa
set_option maxRecDepth 20000
open Go.RowKit

/-- The first k of l, and zeros behind them. -/
def partI (l : List Int) (k : Nat) : List Int := l.take k ++ List.replicate (l.length - k) 0
def partF (l : List Nat) (k : Nat) : List Nat := l.take k ++ List.replicate (l.length - k) 0
theorem partI_length (l : List Int) (k : Nat) (hk : k ≤ l.length) : (partI l k).length = l.length := by simp [partI]; omega
theorem partF_length (l : List Nat) (k : Nat) (hk : k ≤ l.length) : (partF l k).length = l.length := by simp [partF]; omega
theorem partI_set (l : List Int) (k : Nat) (hk : k < l.length) : (i16s (partI l k)).setIfInBounds k (.int .i16 (iat l k)) = i16s (partI l (k + 1)) := by
  have e : (partI l k).set k (l.getD k 0) = partI l (k + 1) := by
    apply List.ext_getElem?
    intro i
    simp only [partI]
    rw [List.getElem?_set]
    have h1 : (l.take k).length = k := by simp; omega
    have h2 : (l.take (k + 1)).length = k + 1 := by simp; omega
    by_cases hi : k = i
    · subst hi
      rw [if_pos rfl, if_pos (by simp; omega), List.getElem?_append_left (by omega), List.getElem?_take, if_pos (by omega)]
      simp [hk]
    · rw [if_neg hi]
      by_cases hlt : i < k
      · rw [List.getElem?_append_left (by omega), List.getElem?_append_left (by omega), List.getElem?_take, List.getElem?_take, if_pos hlt, if_pos (by omega)]
      · rw [List.getElem?_append_right (by omega), List.getElem?_append_right (by omega), h1, h2, List.getElem?_replicate, List.getElem?_replicate]
        by_cases hb : i < l.length
        · rw [if_pos (by omega), if_pos (by omega)]
        · rw [if_neg (by omega), if_neg (by omega)]
  rw [← e]; simp [i16s, iat, List.map_set]
theorem partF_set (l : List Nat) (k : Nat) (hk : k < l.length) : (f32s (partF l k)).setIfInBounds k (.float .f32 (fat l k)) = f32s (partF l (k + 1)) := by
  have e : (partF l k).set k (l.getD k 0) = partF l (k + 1) := by
    apply List.ext_getElem?
    intro i
    simp only [partF]
    rw [List.getElem?_set]
    have h1 : (l.take k).length = k := by simp; omega
    have h2 : (l.take (k + 1)).length = k + 1 := by simp; omega
    by_cases hi : k = i
    · subst hi
      rw [if_pos rfl, if_pos (by simp; omega), List.getElem?_append_left (by omega), List.getElem?_take, if_pos (by omega)]
      simp [hk]
    · rw [if_neg hi]
      by_cases hlt : i < k
      · rw [List.getElem?_append_left (by omega), List.getElem?_append_left (by omega), List.getElem?_take, List.getElem?_take, if_pos hlt, if_pos (by omega)]
      · rw [List.getElem?_append_right (by omega), List.getElem?_append_right (by omega), h1, h2, List.getElem?_replicate, List.getElem?_replicate]
        by_cases hb : i < l.length
        · rw [if_pos (by omega), if_pos (by omega)]
        · rw [if_neg (by omega), if_neg (by omega)]
  rw [← e]; simp [f32s, fat, List.map_set]
theorem partI_all (l : List Int) : partI l l.length = l := by simp [partI]
theorem partF_all (l : List Nat) : partF l l.length = l := by simp [partF]

/-- All numbers are tilts. -/
def tilts (l : List Int) : Bool := l.all fun n => inB n (-64) 64
theorem tilts_yes {l : List Int} (h : ∀ j, j < l.length → inB (iat l j) (-64) 64 = true) : tilts l = true := by
  simp only [tilts, List.all_eq_true]
  intro x hx
  obtain ⟨i, hi⟩ := List.getElem?_of_mem hx
  have hlt : i < l.length := by
    rcases Nat.lt_or_ge i l.length with h' | h'
    · exact h'
    · rw [List.getElem?_eq_none h'] at hi; cases hi
  have := h i hlt
  simpa [iat, hi] using this
theorem tilts_no {l : List Int} {j : Nat} (hj : j < l.length) (h : inB (iat l j) (-64) 64 = false) : tilts l = false := by
  simp only [tilts, List.all_eq_false]
  exact ⟨iat l j, by simp [iat, hj], by simp [h]⟩
/-- The set of the first k numbers that are less than b. -/
def dark (l : List Nat) (b : Nat) : Nat → Int
  | 0 => 0
  | k + 1 => if fLt (fat l k) b then bits .or .u32 (dark l b k) (2 ^ k % 4294967296) else dark l b k
def darkN (l : List Nat) (b : Nat) : Int := if isPart b then dark l b 24 else 0
def darkC (b : Nat) : Int := if isPart b then 0 else 2
/-- How often neighbours differ among the first k + 1 numbers. -/
def chg (l : List Int) : Nat → Int
  | 0 => 0
  | k + 1 => if iat l (k + 1) != iat l k then chg l k + 1 else chg l k
theorem chg_bd (l : List Int) (k : Nat) : 0 ≤ chg l k ∧ chg l k ≤ k := by
  induction k with
  | zero => simp [chg]
  | succ k ih => simp only [chg]; split <;> omega
def chgN (l : List Int) : Int := if tilts l then chg l 23 else 0
def chgC (l : List Int) : Int := if tilts l then 0 else 1
/-- The first k numbers of both are the same. -/
def sameTo (l m : List Nat) (k : Nat) : Bool := (List.range k).all fun i => sameN (fat l i) (fat m i)
theorem sameTo_yes {l m : List Nat} {k : Nat} (h : ∀ j, j < k → sameN (fat l j) (fat m j) = true) : sameTo l m k = true := by
  simp only [sameTo, List.all_eq_true, List.mem_range]; exact h
theorem sameTo_no {l m : List Nat} {k j : Nat} (hj : j < k) (h : sameN (fat l j) (fat m j) = false) : sameTo l m k = false := by
  simp only [sameTo, List.all_eq_false, List.mem_range]; exact ⟨j, hj, by simp [h]⟩
end Go.Proofs.Ytpaoccnffmngfaa
