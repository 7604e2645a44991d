/- Walk of eqPlan. -/
import Derived.Test.YthnffhmefgfnkaaTiltsAt
namespace Go.Proofs.Ythnffhmefgfnkaa
set_option maxRecDepth 20000
open Go.RowKit

theorem c_eqPlan (p : List Int) (lp : p.length = 24) (w : World) :
    Calls Try.prog 29 #[.agg (i16s p), .agg (i16s p)] w fun e w' => e = .returned (.bool true) ∧ Below w.heap.size w w' := by
  have H0 : Hid (Below w.heap.size w ((w.alloc (.cells (i16s p) 47)).alloc (.cells (i16s p) 47))) := hid (((Below.refl _ _).alloc (Nat.le_refl _) _).alloc (by simp) _)
  have hb1 : ((w.alloc (.cells (i16s p) 47)).alloc (.cells (i16s p) 47)).heap[w.heap.size]? = some (.cells (i16s p) 47 (0, 0)) := (blk_past _ _ _ (by simp)).trans (blk_at _ _ _ rfl)
  have hb2 : ((w.alloc (.cells (i16s p) 47)).alloc (.cells (i16s p) 47)).heap[w.heap.size + 1]? = some (.cells (i16s p) 47 (0, 0)) := blk_at _ _ _ (by simp)
  have X1 := hid (PlnAt.of_block lp hb1)
  have X2 := hid (PlnAt.of_block lp hb2)
  clear hb1 hb2 lp
  go_enter Try.func29, Try.ntmps29
  go_wp2
  go_loopw [5] (fun i wr => ∃ k : Nat, k ≤ 24 ∧ i = .int .i64 k ∧ Below ((w.alloc (.cells (i16s p) 47)).alloc (.cells (i16s p) 47)).heap.size ((w.alloc (.cells (i16s p) 47)).alloc (.cells (i16s p) 47)) wr) (fun i _ => 24 - (intOf i).toNat)
  case atStart => exact ⟨0, by omega, rfl, Below.refl _ _⟩
  case round =>
    obtain ⟨k, hk, rfl, hbel⟩ := hrel
    have Hbel := hid hbel
    clear hbel
    by_cases hlt : k < 24
    · have h1 := cell_stays Hbel.out (X1.out k hlt)
      have h2 := cell_stays Hbel.out (X2.out k hlt)
      have h3 : (iat p k != iat p k) = false := by simp
      go_wp2_with fail
      refine wp_region_below (by kernel_rfl) (by kernel_rfl) ?_
      repeat (first | (refine wpQuiet_load_cell rfl 24 _ rfl ⟨w.heap.size, k, none⟩ rfl (.int .i16 (iat p k)) _ (fun wx hwx => cell_stays hwx.out h1) Try.underlying24 rfl ?_) | (refine wpQuiet_load_cell rfl 24 _ rfl ⟨w.heap.size + 1, k, none⟩ rfl (.int .i16 (iat p k)) _ (fun wx hwx => cell_stays hwx.out h2) Try.underlying24 rfl ?_) | (refine wpQuiet_step (fun K hK => ?_); go_simp; first | (refine hK _ ?_; clear hK K) | (refine ⟨_, fun _ _ => rfl, hK _ ?_⟩; clear hK K)))
      refine wpQuiet_nil ?_
      intro w2 h2b
      replace h2b := h2b.out
      go_wp2
      all_goals (refine ⟨⟨k + 1, by omega, by go_num, below_trans Hbel.out h2b Hbel.out.size⟩, by simp [intOf]; omega⟩)
    · obtain rfl : k = 24 := by omega
      go_wp2
      go_ret
      exact ⟨rfl, below_trans H0.out Hbel.out H0.out.size⟩
end Go.Proofs.Ythnffhmefgfnkaa
