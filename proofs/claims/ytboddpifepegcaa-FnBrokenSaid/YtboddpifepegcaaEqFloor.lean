/- Walks of eqFloor. -/
import Derived.Test.YtboddpifepegcaaFloor
import Derived.Test.YtboddpifepegcaaEq
namespace Go.Proofs.Ytboddpifepegcaa
set_option maxRecDepth 20000
open Go.RowKit

theorem fin_set {F : List Nat} {k x : Nat} (hF : ∀ j, isFin (fat F j) = true) (hx : isFin x = true) : ∀ j, isFin (fat (F.set k x) j) = true := by
  intro j
  have h := hF j
  unfold fat at h ⊢
  rw [List.getD_eq_getElem?_getD] at h ⊢
  rw [List.getElem?_set]
  split
  · split
    · simpa using hx
    · exact (by decide : isFin 0 = true)
  · exact h
theorem fin_zFl : ∀ j, isFin (fat zFl j) = true := by
  intro j
  unfold fat zFl
  rw [List.getD_eq_getElem?_getD, List.getElem?_replicate]
  split <;> decide
theorem fin_flK {v : Nat → Nat} (hv : ∀ k, isFin (v k) = true) : ∀ k j, isFin (fat (flK v k) j) = true
  | 0 => fin_zFl
  | k + 1 => by rw [flK]; exact fin_set (fin_flK hv k) (hv k)
theorem fin_flL {B : Bld} (wf : WfB B) (h u : Int) : ∀ j, isFin (fat (flL B h u) j) = true := by
  unfold flL
  split
  · next hz =>
    obtain ⟨h1, h2⟩ := codeOf_zero hz
    have hB := OkB.of wf h1
    have hh : 1 ≤ h ∧ h ≤ 64 := by
      have : inB h 1 64 = true := by unfold flR at h2; simp only [Bool.and_eq_true] at h2; exact h2.1
      simpa [inB] using this
    refine fin_flK (fun k => ?_) _
    unfold flV
    split
    · exact (open_in (hungB_ok hB) hh.1 hh.2).fin
    · exact (open_in hB hh.1 hh.2).fin
  · exact fin_zFl
theorem flL_len (B : Bld) (h u : Int) : (flL B h u).length = 24 := by
  unfold flL; split
  · exact flK_len _ _
  · rfl
end Go.Proofs.Ytboddpifepegcaa
