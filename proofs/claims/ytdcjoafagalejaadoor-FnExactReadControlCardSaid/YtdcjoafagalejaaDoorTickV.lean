/- Walks of what looks whether controls, states and ticks are right. -/
import Derived.Test.YtdcjoafagalejaaDoorTick
namespace Go.Proofs.YtdcjoafagalejaaDoor
set_option maxRecDepth 20000
open Go.RowKit

theorem ways7 {a b c d e f g : Bool} : (a = false) ∨ (a = true ∧ b = false) ∨ (a = true ∧ b = true ∧ c = false) ∨ (a = true ∧ b = true ∧ c = true ∧ d = false) ∨ (a = true ∧ b = true ∧ c = true ∧ d = true ∧ e = false) ∨ (a = true ∧ b = true ∧ c = true ∧ d = true ∧ e = true ∧ f = false) ∨ (a = true ∧ b = true ∧ c = true ∧ d = true ∧ e = true ∧ f = true ∧ g = false) ∨ (a = true ∧ b = true ∧ c = true ∧ d = true ∧ e = true ∧ f = true ∧ g = true) := by
  cases a <;> cases b <;> cases c <;> cases d <;> cases e <;> cases f <;> cases g <;> simp
theorem ways3 {a b c : Bool} : (a = false) ∨ (a = true ∧ b = false) ∨ (a = true ∧ b = true ∧ c = false) ∨ (a = true ∧ b = true ∧ c = true) := by
  cases a <;> cases b <;> cases c <;> simp
theorem le_gt_no {X : Ctl} (wf : WfC X) (e1 : isPart X.lo = true) (e2 : isPart X.hi = true) (e4 : fLe X.lo X.hi = false) : (FloatKind.f32.format.order X.lo X.hi == some .gt) = true := by
  have h := fLe_gt (part_in wf.lo e1).fin (part_in wf.hi e2).fin
  rw [e4] at h
  show fGt X.lo X.hi = true
  cases hq : fGt X.lo X.hi
  · rw [hq] at h; simp at h
  · rfl
theorem le_gt_yes {X : Ctl} (wf : WfC X) (e1 : isPart X.lo = true) (e2 : isPart X.hi = true) (e4 : fLe X.lo X.hi = true) : (FloatKind.f32.format.order X.lo X.hi == some .gt) = false := by
  have h := fLe_gt (part_in wf.lo e1).fin (part_in wf.hi e2).fin
  rw [e4] at h
  show fGt X.lo X.hi = false
  cases hq : fGt X.lo X.hi
  · rfl
  · rw [hq] at h; simp at h
end Go.Proofs.YtdcjoafagalejaaDoor
