/- What is needed where a slice of numbers of 32 bits is made by appending. -/
import Derived.Test.YtboddpifepegcaaSumW
import Derived.RangeFuncBox
import Derived.OwnWalk
namespace Go.Proofs.Ytboddpifepegcaa
set_option maxRecDepth 20000
open Go.RowKit

theorem info_f32 : (Try.prog.info? 27).map (fun i => (i.zero, i.size, i.bytes)) = some (some (.float .f32 0), 1, 4) := by kernel_rfl
theorem append_below {w wr w1 : World} {o : Obj} {v : Value} {k : Nat} {l : List Value} {T : TypeId} (B : Below w.heap.size w wr) (O : wr.ownsRow w.heap.size T 1 v k l) (hg : (wr.alloc o).grownBy w1 v.ownBlock) : Below w.heap.size w w1 :=
  (B.alloc B.size _).grown hg (by have := B.size; simp; omega) (fun r e => (O.lt r e).1)
theorem one_at (w : World) (T : TypeId) (x : Value) : ∀ (j : Nat) (u : Value), [x][j]? = some u → (w.alloc (.cells #[x] T)).cell? ((⟨w.heap.size, 0, none⟩ : Addr).add j) = some u := by
  intro j u hj
  match j, hj with
  | 0, hj => simp at hj; subst hj; simp [Addr.add]
theorem one_cell (x : Nat) : ∀ u ∈ [Value.float .f32 x], u.oneCell' = true := by
  intro u hu; simp at hu; subst hu; rfl
theorem owns_empty (w : World) (T : TypeId) : (w.alloc (.cells #[] T)).ownsRow w.heap.size T 1 (.slice (some ⟨w.heap.size, 0, none⟩) 0 0) 0 [] :=
  World.ownsRow_made w #[] 0 (Nat.le_refl _) (by unfold maxLen; omega) rfl
end Go.Proofs.Ytboddpifepegcaa
