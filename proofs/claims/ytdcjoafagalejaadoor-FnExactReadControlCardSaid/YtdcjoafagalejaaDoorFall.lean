/- Walks of the light that falls on a window, and of what a blind blocks, leaves open and lets pass. -/
import Derived.Test.YtdcjoafagalejaaDoorShine
import Derived.Outline
namespace Go.Proofs.YtdcjoafagalejaaDoor
set_option maxRecDepth 20000
open Go.RowKit

/-- A cell that holds a number is read in a region, whatever its order. -/
theorem wpQuiet_load_cell {P : Program} {ops : Array Oper} {C : World → Prop} {Q : Act → Prop} {rest : List Oper} {o : Oper} {a : Act} (hgd : o.guard = none) (ty : TypeId) (x : Operand) (ho : o.op = .load ty x)
    (ad : Addr) (hx : a.eval x = .pointer (some ad)) (v : Value) (d : TypeDesc) (hg : ∀ w, C w → w.cell? ad = some v)
    (hu : P.underlying ty = some d) (hd : (match d with | .struct _ | .array _ _ => true | _ => false) = false)
    (h : wpQuiet P ops C Q rest (a.put o.dst v)) : wpQuiet P ops C Q (o :: rest) a :=
  wpQuiet_step fun K hK => by
    rw [if_pos (by simp [Region.wanted, hgd])]
    refine ⟨v, fun w hw => ?_, hK _ h⟩
    have hagg : (isAgg ty).run P w = .ok false w := by
      unfold isAgg
      rw [Sem.run_bind, run_underlying hu w]
      cases d <;> simp_all
    unfold Oper.quietAt execOp
    simp [ho, hx, Instr.loadAt, Instr.sureAddr, loadVar, hagg, hg w hw]
    exact ⟨rfl, rfl⟩
end Go.Proofs.YtdcjoafagalejaaDoor
