/- The judges' comparison of states. -/
import Derived.Test.YtmjmgfojdomhlaaTickW
namespace Go.Proofs.Ytmjmgfojdomhlaa
set_option maxRecDepth 20000
open Go.RowKit

theorem c_eqState (s : Sta) (w : World) :
    Calls Try.prog 19 #[.agg (stcells s), .agg (stcells s)] w fun e w' => e = .returned (.bool true) ∧ Below w.heap.size w w' := by
  obtain ⟨w2, hw2⟩ : ∃ w2, w2 = (w.alloc (.cells (stcells s) 39)).alloc (.cells (stcells s) 39) := ⟨_, rfl⟩
  have W2 := hid hw2
  have H0 : Hid (Below w.heap.size w w2) := hid (by rw [hw2]; exact ((Below.refl _ _).alloc (Nat.le_refl _) _).alloc (by simp) _)
  have HA : w2.heap[w.heap.size]? = some (.cells (stcells s) 39 (0, 0)) := by rw [hw2]; exact (blk_past _ _ _ (by simp)).trans (blk_at _ _ _ rfl)
  have HB : w2.heap[w.heap.size + 1]? = some (.cells (stcells s) 39 (0, 0)) := by rw [hw2]; exact blk_at _ _ _ (by simp)
  have a0 : w2.cell? ⟨w.heap.size, 0, none⟩ = some (.int .i16 s.ti) := cell_of_row _ _ 0 _ _ _ HA
  have a1 : w2.cell? ⟨w.heap.size, 1, none⟩ = some (.int .i8 s.wa) := cell_of_row _ _ 1 _ _ _ HA
  have a2 : w2.cell? ⟨w.heap.size, 2, none⟩ = some (.int .i8 s.so) := cell_of_row _ _ 2 _ _ _ HA
  have b0 : w2.cell? ⟨w.heap.size + 1, 0, none⟩ = some (.int .i16 s.ti) := cell_of_row _ _ 0 _ _ _ HB
  have b1 : w2.cell? ⟨w.heap.size + 1, 1, none⟩ = some (.int .i8 s.wa) := cell_of_row _ _ 1 _ _ _ HB
  have b2 : w2.cell? ⟨w.heap.size + 1, 2, none⟩ = some (.int .i8 s.so) := cell_of_row _ _ 2 _ _ _ HB
  clear hw2 HA HB
  go_enter Try.func19, Try.ntmps19
  go_wp2_with (rw [← W2.out])
  go_ret
  exact ⟨rfl, H0.out⟩
end Go.Proofs.Ytmjmgfojdomhlaa
