/- Ways through a tick without a storm. -/
import Derived.Test.YtmjmgfojdomhlaaTickW
namespace Go.Proofs.Ytmjmgfojdomhlaa
set_option maxRecDepth 20000
open Go.RowKit
set_option maxHeartbeats 400000 in
theorem c_tick_bw (C : Ctl) (hC : OkC C) (B : Bld) (hB : OkB B) (s : Sta) (hs : OkS s) (t : Tck) (ht : OkT t) (c : Nat) (w : World) (hA : CtlAt w c C) (hg : fGt t.gu C.wi = false) (h1 : s.so = 0) (h2 : 0 < s.wa) :
    Calls Try.prog 146 #[.pointer (some ⟨c, 0, none⟩), .agg (bcells B), .agg (stcells s), .agg (tcells t)] w fun e w' => e = .returned (.tuple #[.agg (stcells (nextW C B s t)), .float .f32 (inW C B s t), .bool (upW C s t)]) ∧ Below w.heap.size w w' := by
  have b0 := hC.st
  have ES : stormW C s t = s.so := by unfold stormW; rw [if_neg (by simp [hg])]; rw [if_neg (by omega)]
  have EN0 : nextW C B s t = ⟨s.ti, s.wa - 1, s.so⟩ := by unfold nextW; rw [ES, if_neg (by omega), if_pos h2]
  have EN := hid EN0
  have EX := hid (show inW C B s t = lightW B s t by unfold inW; rw [ES, if_neg (by omega)])
  have EU := hid (show upW C s t = false by unfold upW; rw [ES]; exact decide_eq_false (by omega))
  clear ES EN0 b0
  have hwr1 : IntKind.i64.wrap s.ti = s.ti := by have := hs.ti; rw [IntWalk.i64_in] <;> omega
  have hwr2 : IntKind.i64.wrap t.he = t.he := by have := ht.he; rw [IntWalk.i64_in] <;> omega
  have CP := hid (fun w => c_pass (tiltB B s.ti) (hB.tilt hs.ti.1 hs.ti.2) t.he ht.he.1 ht.he.2 w)
  have CT := hid (fun w => c_tilted B s.ti hs.ti w)
  have ra := fun wx => run_mul (T := 22) ht.li.fin (pass_fin (hB.tilt hs.ti.1 hs.ti.2) ht.he.1 ht.he.2).all.fin wx
  have LX := hid (show lightW B s t = fmul t.li (passW (tiltB B s.ti) t.he) from rfl)
  generalize passW (tiltB B s.ti) t.he = pz at *
  generalize hxx : fmul t.li pz = x at *
  have XX := hid hxx
  have EX2 := hid (EX.out.trans LX.out)
  clear hxx
  have d0 : ¬ 0 < s.so := by omega
  have d9 : 0 < s.wa := by omega
  have H1 := hid h1
  clear h1
  have g0 := (show (FloatKind.f32.format.order t.gu C.wi == some .gt) = false from hg)
  have HZB := hid (size_blind B)
  have CL := hid hA.lt
  obtain ⟨w0, hw0⟩ : ∃ w0, w0 = ((((w.alloc (.cells (bcells B) 37)).alloc (.cells (stcells s) 39)).alloc (.cells (tcells t) 110)).alloc (.cells #[.int .i16 0, .int .i8 0, .int .i8 0] 39)) := ⟨_, rfl⟩
  have BL0 : Hid (Below w.heap.size w w0) := hid (by rw [hw0]; exact ((((Below.refl _ _).alloc (Nat.le_refl _) _).alloc (by simp) _).alloc (by simp; omega) _).alloc (by simp; omega) _)
  have HB0 : Hid (w0.heap[w.heap.size]? = some (.cells (bcells B) 37 (0, 0))) := hid (by rw [hw0]; exact (blk_past _ _ _ (by simp <;> omega)).trans ((blk_past _ _ _ (by simp <;> omega)).trans ((blk_past _ _ _ (by simp <;> omega)).trans (blk_at _ _ _ rfl))))
  have HS0 : Hid (w0.heap[w.heap.size + 1]? = some (.cells (stcells s) 39 (0, 0))) := hid (by rw [hw0]; exact (blk_past _ _ _ (by simp <;> omega)).trans ((blk_past _ _ _ (by simp <;> omega)).trans (blk_at _ _ _ (by simp))))
  have TA0 : Hid (TckAt w0 (w.heap.size + 1 + 1) 0 t) := hid (TckAt.of_block (T := 110) (by rw [hw0]; exact (blk_past _ _ _ (by simp <;> omega)).trans (blk_at _ _ _ (by simp))))
  have HR0 : Hid (w0.heap[w.heap.size + 1 + 1 + 1]? = some (.cells zSt 39 (0, 0))) := hid (by rw [hw0]; exact blk_at _ _ _ (by simp))
  have CA0 := hid (hA.below BL0.out)
  have W0 := hid hw0
  have HC := hid hC
  have HBB := hid hB
  have HSS := hid hs
  have HTT := hid ht
  have b1 := hC.st
  have b2 := hC.de
  have b3 := hC.ca
  have b4 := hs.ti
  have b5 := hs.wa
  have b6 := hs.so
  have b7 := ht.he
  clear hC hB hs ht hA hw0
  go_enter Try.func146, Try.ntmps146
  go_wp2_with fail
  rw [← W0.out]
  refine wp_region_below (by kernel_rfl) (by kernel_rfl) ?_
  repeat (first | (refine wpQuiet_load_cell rfl 22 _ rfl ⟨(w.heap.size + 1 + 1), 1, none⟩ rfl (.float .f32 t.gu) _ (fun wx hwx => (TA0.out.below hwx.out).gu) Try.underlying22 rfl ?_) | (refine wpQuiet_load_cell rfl 22 _ rfl ⟨c, 2, none⟩ rfl (.float .f32 C.wi) _ (fun wx hwx => (CA0.out.below hwx.out).wi) Try.underlying22 rfl ?_) | (refine wpQuiet_step (fun K hK => ?_); go_simp; first | (refine hK _ ?_; clear hK K) | (refine ⟨_, fun _ _ => rfl, hK _ ?_⟩; clear hK K)))
  refine wpQuiet_nil ?_
  intro w1 h1
  replace h1 := h1.out
  have HB1 := hid ((h1.block _ (block_lt HB0.out)).trans HB0.out)
  have HS1 := hid ((h1.block _ (block_lt HS0.out)).trans HS0.out)
  have HR1 := hid ((h1.block _ (block_lt HR0.out)).trans HR0.out)
  have CA1 := hid (CA0.out.below h1)
  have TA1 := hid (TA0.out.below h1)
  have BL1 := hid (below_trans BL0.out h1 BL0.out.size)
  clear h1
  have c0 := CA1.out.lo
  have c1 := CA1.out.hi
  have c2 := CA1.out.wi
  have c3 := CA1.out.st
  have c4 := CA1.out.de
  have c5 := CA1.out.ca
  have t0 := TA1.out.li
  have t1 := TA1.out.gu
  have t2 := TA1.out.he
  simp only [Nat.zero_add] at t1 t2
  have s0 := cell_of_row _ (w.heap.size + 1) 0 _ _ _ HS1.out
  have f0 := frozen_of_row w1 (w.heap.size + 1) 0 _ _ HS1.out
  have s1 := cell_of_row _ (w.heap.size + 1) 1 _ _ _ HS1.out
  have f1 := frozen_of_row w1 (w.heap.size + 1) 1 _ _ HS1.out
  have s2 := cell_of_row _ (w.heap.size + 1) 2 _ _ _ HS1.out
  have f2 := frozen_of_row w1 (w.heap.size + 1) 2 _ _ HS1.out
  simp only [stcells] at s0 s1 s2
  replace s0 : w1.cell? ⟨w.heap.size + 1, 0, none⟩ = some (.int .i16 s.ti) := s0
  replace s1 : w1.cell? ⟨w.heap.size + 1, 1, none⟩ = some (.int .i8 s.wa) := s1
  replace s2 : w1.cell? ⟨w.heap.size + 1, 2, none⟩ = some (.int .i8 s.so) := s2
  go_wp2_with fail
  clear c0 c1 c2 c3 c4 c5 t0 t1 t2 s0 s1 s2 f0 f1 f2
  clear d0
  refine wp_region_below (by kernel_rfl) (by kernel_rfl) ?_
  repeat (first | (refine wpQuiet_load_cell rfl 22 _ rfl ⟨(w.heap.size + 1 + 1), 0, none⟩ rfl (.float .f32 t.li) _ (fun wx hwx => (TA1.out.below hwx.out).li) Try.underlying22 rfl ?_) | (refine wpQuiet_load_row rfl 37 _ rfl (w.heap.size) rfl 37 (bcells B) (0, 0) _ (fun wx hwx => (hwx.out.block _ (block_lt HB1.out)).trans HB1.out) Try.underlying37 rfl HZB.out ?_) | (refine wpQuiet_load_cell rfl 26 _ rfl ⟨w.heap.size + 1, 0, none⟩ rfl (.int .i16 s.ti) _ (fun wx hwx => (cell_of_row _ (w.heap.size + 1) 0 _ _ _ ((hwx.out.block _ (block_lt HS1.out)).trans HS1.out))) Try.underlying26 rfl ?_) | (refine wpQuiet_load_cell rfl 23 _ rfl ⟨(w.heap.size + 1 + 1), 2, none⟩ rfl (.int .i8 t.he) _ (fun wx hwx => (TA1.out.below hwx.out).he) Try.underlying23 rfl ?_) | (refine wpQuiet_step (fun K hK => ?_); go_simp; first | (refine hK _ ?_; clear hK K) | (refine ⟨_, fun _ _ => rfl, hK _ ?_⟩; clear hK K) | (apply Exists.intro; refine ⟨fun wx hwx => ?_, hK _ ?_⟩; (first | (exact quiet_below hwx (CT.out _)) | (exact quiet_below hwx (CP.out _))); clear hK K)))
  refine wpQuiet_nil ?_
  intro w2 h2
  replace h2 := h2.out
  have HB2 := hid ((h2.block _ (block_lt HB1.out)).trans HB1.out)
  have HS2 := hid ((h2.block _ (block_lt HS1.out)).trans HS1.out)
  have HR2 := hid ((h2.block _ (block_lt HR1.out)).trans HR1.out)
  have CA2 := hid (CA1.out.below h2)
  have TA2 := hid (TA1.out.below h2)
  have BL2 := hid (below_trans BL1.out h2 BL1.out.size)
  clear h2
  have c0 := CA2.out.lo
  have c1 := CA2.out.hi
  have c2 := CA2.out.wi
  have c3 := CA2.out.st
  have c4 := CA2.out.de
  have c5 := CA2.out.ca
  have t0 := TA2.out.li
  have t1 := TA2.out.gu
  have t2 := TA2.out.he
  simp only [Nat.zero_add] at t1 t2
  have s0 := cell_of_row _ (w.heap.size + 1) 0 _ _ _ HS2.out
  have f0 := frozen_of_row w2 (w.heap.size + 1) 0 _ _ HS2.out
  have s1 := cell_of_row _ (w.heap.size + 1) 1 _ _ _ HS2.out
  have f1 := frozen_of_row w2 (w.heap.size + 1) 1 _ _ HS2.out
  have s2 := cell_of_row _ (w.heap.size + 1) 2 _ _ _ HS2.out
  have f2 := frozen_of_row w2 (w.heap.size + 1) 2 _ _ HS2.out
  simp only [stcells] at s0 s1 s2
  replace s0 : w2.cell? ⟨w.heap.size + 1, 0, none⟩ = some (.int .i16 s.ti) := s0
  replace s1 : w2.cell? ⟨w.heap.size + 1, 1, none⟩ = some (.int .i8 s.wa) := s1
  replace s2 : w2.cell? ⟨w.heap.size + 1, 2, none⟩ = some (.int .i8 s.so) := s2
  have r0 := (show w2.cell? ⟨w.heap.size + 1 + 1 + 1, 0, none⟩ = some (.int .i16 0) from cell_of_row _ (w.heap.size + 1 + 1 + 1) 0 _ _ _ HR2.out)
  have x0 := frozen_of_row w2 (w.heap.size + 1 + 1 + 1) 0 _ _ HR2.out
  have r1 := (show w2.cell? ⟨w.heap.size + 1 + 1 + 1, 1, none⟩ = some (.int .i8 0) from cell_of_row _ (w.heap.size + 1 + 1 + 1) 1 _ _ _ HR2.out)
  have x1 := frozen_of_row w2 (w.heap.size + 1 + 1 + 1) 1 _ _ HR2.out
  have r2 := (show w2.cell? ⟨w.heap.size + 1 + 1 + 1, 2, none⟩ = some (.int .i8 0) from cell_of_row _ (w.heap.size + 1 + 1 + 1) 2 _ _ _ HR2.out)
  have x2 := frozen_of_row w2 (w.heap.size + 1 + 1 + 1) 2 _ _ HR2.out
  go_wp2_with fail
  refine bodyPost_ret (v := .tuple #[.agg #[.int .i16 (s.ti), .int .i8 (s.wa - 1), .int .i8 (s.so)], .float .f32 x, .bool false]) (by simp [results, Try.results146, go_sem, *]) rfl ⟨?_, ((((BL2.out.setCell (by simp <;> omega) _).setCell (by simp <;> omega) _).setCell (by simp <;> omega) _).setCell (by simp <;> omega) _)⟩
  rw [EN.out, EX2.out, EU.out]; rfl
set_option maxHeartbeats 400000 in
theorem c_tick_bh1 (C : Ctl) (hC : OkC C) (B : Bld) (hB : OkB B) (s : Sta) (hs : OkS s) (t : Tck) (ht : OkT t) (c : Nat) (w : World) (hA : CtlAt w c C) (hg : fGt t.gu C.wi = false) (h1 : s.so = 0) (h2 : s.wa = 0) (h3 : fGt (lightW B s t) C.hi = true) (h4 : s.ti + C.st ≤ 64) :
    Calls Try.prog 146 #[.pointer (some ⟨c, 0, none⟩), .agg (bcells B), .agg (stcells s), .agg (tcells t)] w fun e w' => e = .returned (.tuple #[.agg (stcells (nextW C B s t)), .float .f32 (inW C B s t), .bool (upW C s t)]) ∧ Below w.heap.size w w' := by
  have b0 := hC.st
  have ES : stormW C s t = s.so := by unfold stormW; rw [if_neg (by simp [hg])]; rw [if_neg (by omega)]
  have ET : turnW C s (lightW B s t) = s.ti + C.st := by unfold turnW; rw [if_pos h3]; omega
  have ENE : ¬ s.ti + C.st = s.ti := by omega
  have EN0 : nextW C B s t = ⟨s.ti + C.st, C.de, s.so⟩ := by unfold nextW; rw [ES, if_neg (by omega), if_neg (by omega), ET, if_neg ENE]
  have hne : (s.ti + C.st != s.ti) = true := by rw [bne_iff_ne]; exact ENE
  have EN := hid EN0
  have EX := hid (show inW C B s t = lightW B s t by unfold inW; rw [ES, if_neg (by omega)])
  have EU := hid (show upW C s t = false by unfold upW; rw [ES]; exact decide_eq_false (by omega))
  clear ES EN0 b0 ET ENE
  have hwr1 : IntKind.i64.wrap s.ti = s.ti := by have := hs.ti; rw [IntWalk.i64_in] <;> omega
  have hwr2 : IntKind.i64.wrap t.he = t.he := by have := ht.he; rw [IntWalk.i64_in] <;> omega
  have CP := hid (fun w => c_pass (tiltB B s.ti) (hB.tilt hs.ti.1 hs.ti.2) t.he ht.he.1 ht.he.2 w)
  have CT := hid (fun w => c_tilted B s.ti hs.ti w)
  have ra := fun wx => run_mul (T := 22) ht.li.fin (pass_fin (hB.tilt hs.ti.1 hs.ti.2) ht.he.1 ht.he.2).all.fin wx
  have LX := hid (show lightW B s t = fmul t.li (passW (tiltB B s.ti) t.he) from rfl)
  rw [LX.out] at h3
  have g3 := (show (FloatKind.f32.format.order (fmul t.li (passW (tiltB B s.ti) t.he)) C.hi == some .gt) = true from h3)
  generalize passW (tiltB B s.ti) t.he = pz at *
  generalize hxx : fmul t.li pz = x at *
  have XX := hid hxx
  have EX2 := hid (EX.out.trans LX.out)
  clear hxx
  have d0 : ¬ 0 < s.so := by omega
  have d9 : ¬ 0 < s.wa := by omega
  have H1 := hid h1
  clear h1
  have H2 := hid h2
  clear h2
  have m1 : ¬ 64 < s.ti + C.st := by omega
  have g0 := (show (FloatKind.f32.format.order t.gu C.wi == some .gt) = false from hg)
  have HZB := hid (size_blind B)
  have CL := hid hA.lt
  obtain ⟨w0, hw0⟩ : ∃ w0, w0 = ((((w.alloc (.cells (bcells B) 37)).alloc (.cells (stcells s) 39)).alloc (.cells (tcells t) 110)).alloc (.cells #[.int .i16 0, .int .i8 0, .int .i8 0] 39)) := ⟨_, rfl⟩
  have BL0 : Hid (Below w.heap.size w w0) := hid (by rw [hw0]; exact ((((Below.refl _ _).alloc (Nat.le_refl _) _).alloc (by simp) _).alloc (by simp; omega) _).alloc (by simp; omega) _)
  have HB0 : Hid (w0.heap[w.heap.size]? = some (.cells (bcells B) 37 (0, 0))) := hid (by rw [hw0]; exact (blk_past _ _ _ (by simp <;> omega)).trans ((blk_past _ _ _ (by simp <;> omega)).trans ((blk_past _ _ _ (by simp <;> omega)).trans (blk_at _ _ _ rfl))))
  have HS0 : Hid (w0.heap[w.heap.size + 1]? = some (.cells (stcells s) 39 (0, 0))) := hid (by rw [hw0]; exact (blk_past _ _ _ (by simp <;> omega)).trans ((blk_past _ _ _ (by simp <;> omega)).trans (blk_at _ _ _ (by simp))))
  have TA0 : Hid (TckAt w0 (w.heap.size + 1 + 1) 0 t) := hid (TckAt.of_block (T := 110) (by rw [hw0]; exact (blk_past _ _ _ (by simp <;> omega)).trans (blk_at _ _ _ (by simp))))
  have HR0 : Hid (w0.heap[w.heap.size + 1 + 1 + 1]? = some (.cells zSt 39 (0, 0))) := hid (by rw [hw0]; exact blk_at _ _ _ (by simp))
  have CA0 := hid (hA.below BL0.out)
  have W0 := hid hw0
  have HC := hid hC
  have HBB := hid hB
  have HSS := hid hs
  have HTT := hid ht
  have b1 := hC.st
  have b2 := hC.de
  have b3 := hC.ca
  have b4 := hs.ti
  have b5 := hs.wa
  have b6 := hs.so
  have b7 := ht.he
  clear hC hB hs ht hA hw0
  go_enter Try.func146, Try.ntmps146
  go_wp2_with fail
  rw [← W0.out]
  refine wp_region_below (by kernel_rfl) (by kernel_rfl) ?_
  repeat (first | (refine wpQuiet_load_cell rfl 22 _ rfl ⟨(w.heap.size + 1 + 1), 1, none⟩ rfl (.float .f32 t.gu) _ (fun wx hwx => (TA0.out.below hwx.out).gu) Try.underlying22 rfl ?_) | (refine wpQuiet_load_cell rfl 22 _ rfl ⟨c, 2, none⟩ rfl (.float .f32 C.wi) _ (fun wx hwx => (CA0.out.below hwx.out).wi) Try.underlying22 rfl ?_) | (refine wpQuiet_step (fun K hK => ?_); go_simp; first | (refine hK _ ?_; clear hK K) | (refine ⟨_, fun _ _ => rfl, hK _ ?_⟩; clear hK K)))
  refine wpQuiet_nil ?_
  intro w1 h1
  replace h1 := h1.out
  have HB1 := hid ((h1.block _ (block_lt HB0.out)).trans HB0.out)
  have HS1 := hid ((h1.block _ (block_lt HS0.out)).trans HS0.out)
  have HR1 := hid ((h1.block _ (block_lt HR0.out)).trans HR0.out)
  have CA1 := hid (CA0.out.below h1)
  have TA1 := hid (TA0.out.below h1)
  have BL1 := hid (below_trans BL0.out h1 BL0.out.size)
  clear h1
  have c0 := CA1.out.lo
  have c1 := CA1.out.hi
  have c2 := CA1.out.wi
  have c3 := CA1.out.st
  have c4 := CA1.out.de
  have c5 := CA1.out.ca
  have t0 := TA1.out.li
  have t1 := TA1.out.gu
  have t2 := TA1.out.he
  simp only [Nat.zero_add] at t1 t2
  have s0 := cell_of_row _ (w.heap.size + 1) 0 _ _ _ HS1.out
  have f0 := frozen_of_row w1 (w.heap.size + 1) 0 _ _ HS1.out
  have s1 := cell_of_row _ (w.heap.size + 1) 1 _ _ _ HS1.out
  have f1 := frozen_of_row w1 (w.heap.size + 1) 1 _ _ HS1.out
  have s2 := cell_of_row _ (w.heap.size + 1) 2 _ _ _ HS1.out
  have f2 := frozen_of_row w1 (w.heap.size + 1) 2 _ _ HS1.out
  simp only [stcells] at s0 s1 s2
  replace s0 : w1.cell? ⟨w.heap.size + 1, 0, none⟩ = some (.int .i16 s.ti) := s0
  replace s1 : w1.cell? ⟨w.heap.size + 1, 1, none⟩ = some (.int .i8 s.wa) := s1
  replace s2 : w1.cell? ⟨w.heap.size + 1, 2, none⟩ = some (.int .i8 s.so) := s2
  go_wp2_with fail
  clear c0 c1 c2 c3 c4 c5 t0 t1 t2 s0 s1 s2 f0 f1 f2
  clear d0
  refine wp_region_below (by kernel_rfl) (by kernel_rfl) ?_
  repeat (first | (refine wpQuiet_load_cell rfl 22 _ rfl ⟨(w.heap.size + 1 + 1), 0, none⟩ rfl (.float .f32 t.li) _ (fun wx hwx => (TA1.out.below hwx.out).li) Try.underlying22 rfl ?_) | (refine wpQuiet_load_row rfl 37 _ rfl (w.heap.size) rfl 37 (bcells B) (0, 0) _ (fun wx hwx => (hwx.out.block _ (block_lt HB1.out)).trans HB1.out) Try.underlying37 rfl HZB.out ?_) | (refine wpQuiet_load_cell rfl 26 _ rfl ⟨w.heap.size + 1, 0, none⟩ rfl (.int .i16 s.ti) _ (fun wx hwx => (cell_of_row _ (w.heap.size + 1) 0 _ _ _ ((hwx.out.block _ (block_lt HS1.out)).trans HS1.out))) Try.underlying26 rfl ?_) | (refine wpQuiet_load_cell rfl 23 _ rfl ⟨(w.heap.size + 1 + 1), 2, none⟩ rfl (.int .i8 t.he) _ (fun wx hwx => (TA1.out.below hwx.out).he) Try.underlying23 rfl ?_) | (refine wpQuiet_step (fun K hK => ?_); go_simp; first | (refine hK _ ?_; clear hK K) | (refine ⟨_, fun _ _ => rfl, hK _ ?_⟩; clear hK K) | (apply Exists.intro; refine ⟨fun wx hwx => ?_, hK _ ?_⟩; (first | (exact quiet_below hwx (CT.out _)) | (exact quiet_below hwx (CP.out _))); clear hK K)))
  refine wpQuiet_nil ?_
  intro w2 h2
  replace h2 := h2.out
  have HB2 := hid ((h2.block _ (block_lt HB1.out)).trans HB1.out)
  have HS2 := hid ((h2.block _ (block_lt HS1.out)).trans HS1.out)
  have HR2 := hid ((h2.block _ (block_lt HR1.out)).trans HR1.out)
  have CA2 := hid (CA1.out.below h2)
  have TA2 := hid (TA1.out.below h2)
  have BL2 := hid (below_trans BL1.out h2 BL1.out.size)
  clear h2
  have c0 := CA2.out.lo
  have c1 := CA2.out.hi
  have c2 := CA2.out.wi
  have c3 := CA2.out.st
  have c4 := CA2.out.de
  have c5 := CA2.out.ca
  have t0 := TA2.out.li
  have t1 := TA2.out.gu
  have t2 := TA2.out.he
  simp only [Nat.zero_add] at t1 t2
  have s0 := cell_of_row _ (w.heap.size + 1) 0 _ _ _ HS2.out
  have f0 := frozen_of_row w2 (w.heap.size + 1) 0 _ _ HS2.out
  have s1 := cell_of_row _ (w.heap.size + 1) 1 _ _ _ HS2.out
  have f1 := frozen_of_row w2 (w.heap.size + 1) 1 _ _ HS2.out
  have s2 := cell_of_row _ (w.heap.size + 1) 2 _ _ _ HS2.out
  have f2 := frozen_of_row w2 (w.heap.size + 1) 2 _ _ HS2.out
  simp only [stcells] at s0 s1 s2
  replace s0 : w2.cell? ⟨w.heap.size + 1, 0, none⟩ = some (.int .i16 s.ti) := s0
  replace s1 : w2.cell? ⟨w.heap.size + 1, 1, none⟩ = some (.int .i8 s.wa) := s1
  replace s2 : w2.cell? ⟨w.heap.size + 1, 2, none⟩ = some (.int .i8 s.so) := s2
  have r0 := (show w2.cell? ⟨w.heap.size + 1 + 1 + 1, 0, none⟩ = some (.int .i16 0) from cell_of_row _ (w.heap.size + 1 + 1 + 1) 0 _ _ _ HR2.out)
  have x0 := frozen_of_row w2 (w.heap.size + 1 + 1 + 1) 0 _ _ HR2.out
  have r1 := (show w2.cell? ⟨w.heap.size + 1 + 1 + 1, 1, none⟩ = some (.int .i8 0) from cell_of_row _ (w.heap.size + 1 + 1 + 1) 1 _ _ _ HR2.out)
  have x1 := frozen_of_row w2 (w.heap.size + 1 + 1 + 1) 1 _ _ HR2.out
  have r2 := (show w2.cell? ⟨w.heap.size + 1 + 1 + 1, 2, none⟩ = some (.int .i8 0) from cell_of_row _ (w.heap.size + 1 + 1 + 1) 2 _ _ _ HR2.out)
  have x2 := frozen_of_row w2 (w.heap.size + 1 + 1 + 1) 2 _ _ HR2.out
  go_wp2_with fail
  go_region
  go_wp2_with fail
  refine bodyPost_ret (v := .tuple #[.agg #[.int .i16 (s.ti + C.st), .int .i8 (C.de), .int .i8 (s.so)], .float .f32 x, .bool false]) (by simp [results, Try.results146, go_sem, *]) rfl ⟨?_, (by repeat (first | exact (((((BL2.out.setCell (by simp <;> omega) _).setCell (by simp <;> omega) _).setCell (by simp <;> omega) _).setCell (by simp <;> omega) _).setCell (by simp <;> omega) _) | apply Below.drew))⟩
  rw [EN.out, EX2.out, EU.out]; rfl
set_option maxHeartbeats 400000 in
theorem c_tick_bh3 (C : Ctl) (hC : OkC C) (B : Bld) (hB : OkB B) (s : Sta) (hs : OkS s) (t : Tck) (ht : OkT t) (c : Nat) (w : World) (hA : CtlAt w c C) (hg : fGt t.gu C.wi = false) (h1 : s.so = 0) (h2 : s.wa = 0) (h3 : fGt (lightW B s t) C.hi = true) (h4 : s.ti < 64) (h6 : 64 < s.ti + C.st) :
    Calls Try.prog 146 #[.pointer (some ⟨c, 0, none⟩), .agg (bcells B), .agg (stcells s), .agg (tcells t)] w fun e w' => e = .returned (.tuple #[.agg (stcells (nextW C B s t)), .float .f32 (inW C B s t), .bool (upW C s t)]) ∧ Below w.heap.size w w' := by
  have b0 := hC.st
  have ES : stormW C s t = s.so := by unfold stormW; rw [if_neg (by simp [hg])]; rw [if_neg (by omega)]
  have ET : turnW C s (lightW B s t) = 64 := by unfold turnW; rw [if_pos h3]; omega
  have ENE : ¬ 64 = s.ti := by omega
  have EN0 : nextW C B s t = ⟨64, C.de, s.so⟩ := by unfold nextW; rw [ES, if_neg (by omega), if_neg (by omega), ET, if_neg ENE]
  have hne : (64 != s.ti) = true := by rw [bne_iff_ne]; exact ENE
  have EN := hid EN0
  have EX := hid (show inW C B s t = lightW B s t by unfold inW; rw [ES, if_neg (by omega)])
  have EU := hid (show upW C s t = false by unfold upW; rw [ES]; exact decide_eq_false (by omega))
  clear ES EN0 b0 ET ENE
  have hwr1 : IntKind.i64.wrap s.ti = s.ti := by have := hs.ti; rw [IntWalk.i64_in] <;> omega
  have hwr2 : IntKind.i64.wrap t.he = t.he := by have := ht.he; rw [IntWalk.i64_in] <;> omega
  have CP := hid (fun w => c_pass (tiltB B s.ti) (hB.tilt hs.ti.1 hs.ti.2) t.he ht.he.1 ht.he.2 w)
  have CT := hid (fun w => c_tilted B s.ti hs.ti w)
  have ra := fun wx => run_mul (T := 22) ht.li.fin (pass_fin (hB.tilt hs.ti.1 hs.ti.2) ht.he.1 ht.he.2).all.fin wx
  have LX := hid (show lightW B s t = fmul t.li (passW (tiltB B s.ti) t.he) from rfl)
  rw [LX.out] at h3
  have g3 := (show (FloatKind.f32.format.order (fmul t.li (passW (tiltB B s.ti) t.he)) C.hi == some .gt) = true from h3)
  generalize passW (tiltB B s.ti) t.he = pz at *
  generalize hxx : fmul t.li pz = x at *
  have XX := hid hxx
  have EX2 := hid (EX.out.trans LX.out)
  clear hxx
  have d0 : ¬ 0 < s.so := by omega
  have d9 : ¬ 0 < s.wa := by omega
  have H1 := hid h1
  clear h1
  have H2 := hid h2
  clear h2
  have g0 := (show (FloatKind.f32.format.order t.gu C.wi == some .gt) = false from hg)
  have HZB := hid (size_blind B)
  have CL := hid hA.lt
  obtain ⟨w0, hw0⟩ : ∃ w0, w0 = ((((w.alloc (.cells (bcells B) 37)).alloc (.cells (stcells s) 39)).alloc (.cells (tcells t) 110)).alloc (.cells #[.int .i16 0, .int .i8 0, .int .i8 0] 39)) := ⟨_, rfl⟩
  have BL0 : Hid (Below w.heap.size w w0) := hid (by rw [hw0]; exact ((((Below.refl _ _).alloc (Nat.le_refl _) _).alloc (by simp) _).alloc (by simp; omega) _).alloc (by simp; omega) _)
  have HB0 : Hid (w0.heap[w.heap.size]? = some (.cells (bcells B) 37 (0, 0))) := hid (by rw [hw0]; exact (blk_past _ _ _ (by simp <;> omega)).trans ((blk_past _ _ _ (by simp <;> omega)).trans ((blk_past _ _ _ (by simp <;> omega)).trans (blk_at _ _ _ rfl))))
  have HS0 : Hid (w0.heap[w.heap.size + 1]? = some (.cells (stcells s) 39 (0, 0))) := hid (by rw [hw0]; exact (blk_past _ _ _ (by simp <;> omega)).trans ((blk_past _ _ _ (by simp <;> omega)).trans (blk_at _ _ _ (by simp))))
  have TA0 : Hid (TckAt w0 (w.heap.size + 1 + 1) 0 t) := hid (TckAt.of_block (T := 110) (by rw [hw0]; exact (blk_past _ _ _ (by simp <;> omega)).trans (blk_at _ _ _ (by simp))))
  have HR0 : Hid (w0.heap[w.heap.size + 1 + 1 + 1]? = some (.cells zSt 39 (0, 0))) := hid (by rw [hw0]; exact blk_at _ _ _ (by simp))
  have CA0 := hid (hA.below BL0.out)
  have W0 := hid hw0
  have HC := hid hC
  have HBB := hid hB
  have HSS := hid hs
  have HTT := hid ht
  have b1 := hC.st
  have b2 := hC.de
  have b3 := hC.ca
  have b4 := hs.ti
  have b5 := hs.wa
  have b6 := hs.so
  have b7 := ht.he
  clear hC hB hs ht hA hw0
  go_enter Try.func146, Try.ntmps146
  go_wp2_with fail
  rw [← W0.out]
  refine wp_region_below (by kernel_rfl) (by kernel_rfl) ?_
  repeat (first | (refine wpQuiet_load_cell rfl 22 _ rfl ⟨(w.heap.size + 1 + 1), 1, none⟩ rfl (.float .f32 t.gu) _ (fun wx hwx => (TA0.out.below hwx.out).gu) Try.underlying22 rfl ?_) | (refine wpQuiet_load_cell rfl 22 _ rfl ⟨c, 2, none⟩ rfl (.float .f32 C.wi) _ (fun wx hwx => (CA0.out.below hwx.out).wi) Try.underlying22 rfl ?_) | (refine wpQuiet_step (fun K hK => ?_); go_simp; first | (refine hK _ ?_; clear hK K) | (refine ⟨_, fun _ _ => rfl, hK _ ?_⟩; clear hK K)))
  refine wpQuiet_nil ?_
  intro w1 h1
  replace h1 := h1.out
  have HB1 := hid ((h1.block _ (block_lt HB0.out)).trans HB0.out)
  have HS1 := hid ((h1.block _ (block_lt HS0.out)).trans HS0.out)
  have HR1 := hid ((h1.block _ (block_lt HR0.out)).trans HR0.out)
  have CA1 := hid (CA0.out.below h1)
  have TA1 := hid (TA0.out.below h1)
  have BL1 := hid (below_trans BL0.out h1 BL0.out.size)
  clear h1
  have c0 := CA1.out.lo
  have c1 := CA1.out.hi
  have c2 := CA1.out.wi
  have c3 := CA1.out.st
  have c4 := CA1.out.de
  have c5 := CA1.out.ca
  have t0 := TA1.out.li
  have t1 := TA1.out.gu
  have t2 := TA1.out.he
  simp only [Nat.zero_add] at t1 t2
  have s0 := cell_of_row _ (w.heap.size + 1) 0 _ _ _ HS1.out
  have f0 := frozen_of_row w1 (w.heap.size + 1) 0 _ _ HS1.out
  have s1 := cell_of_row _ (w.heap.size + 1) 1 _ _ _ HS1.out
  have f1 := frozen_of_row w1 (w.heap.size + 1) 1 _ _ HS1.out
  have s2 := cell_of_row _ (w.heap.size + 1) 2 _ _ _ HS1.out
  have f2 := frozen_of_row w1 (w.heap.size + 1) 2 _ _ HS1.out
  simp only [stcells] at s0 s1 s2
  replace s0 : w1.cell? ⟨w.heap.size + 1, 0, none⟩ = some (.int .i16 s.ti) := s0
  replace s1 : w1.cell? ⟨w.heap.size + 1, 1, none⟩ = some (.int .i8 s.wa) := s1
  replace s2 : w1.cell? ⟨w.heap.size + 1, 2, none⟩ = some (.int .i8 s.so) := s2
  go_wp2_with fail
  clear c0 c1 c2 c3 c4 c5 t0 t1 t2 s0 s1 s2 f0 f1 f2
  clear d0
  refine wp_region_below (by kernel_rfl) (by kernel_rfl) ?_
  repeat (first | (refine wpQuiet_load_cell rfl 22 _ rfl ⟨(w.heap.size + 1 + 1), 0, none⟩ rfl (.float .f32 t.li) _ (fun wx hwx => (TA1.out.below hwx.out).li) Try.underlying22 rfl ?_) | (refine wpQuiet_load_row rfl 37 _ rfl (w.heap.size) rfl 37 (bcells B) (0, 0) _ (fun wx hwx => (hwx.out.block _ (block_lt HB1.out)).trans HB1.out) Try.underlying37 rfl HZB.out ?_) | (refine wpQuiet_load_cell rfl 26 _ rfl ⟨w.heap.size + 1, 0, none⟩ rfl (.int .i16 s.ti) _ (fun wx hwx => (cell_of_row _ (w.heap.size + 1) 0 _ _ _ ((hwx.out.block _ (block_lt HS1.out)).trans HS1.out))) Try.underlying26 rfl ?_) | (refine wpQuiet_load_cell rfl 23 _ rfl ⟨(w.heap.size + 1 + 1), 2, none⟩ rfl (.int .i8 t.he) _ (fun wx hwx => (TA1.out.below hwx.out).he) Try.underlying23 rfl ?_) | (refine wpQuiet_step (fun K hK => ?_); go_simp; first | (refine hK _ ?_; clear hK K) | (refine ⟨_, fun _ _ => rfl, hK _ ?_⟩; clear hK K) | (apply Exists.intro; refine ⟨fun wx hwx => ?_, hK _ ?_⟩; (first | (exact quiet_below hwx (CT.out _)) | (exact quiet_below hwx (CP.out _))); clear hK K)))
  refine wpQuiet_nil ?_
  intro w2 h2
  replace h2 := h2.out
  have HB2 := hid ((h2.block _ (block_lt HB1.out)).trans HB1.out)
  have HS2 := hid ((h2.block _ (block_lt HS1.out)).trans HS1.out)
  have HR2 := hid ((h2.block _ (block_lt HR1.out)).trans HR1.out)
  have CA2 := hid (CA1.out.below h2)
  have TA2 := hid (TA1.out.below h2)
  have BL2 := hid (below_trans BL1.out h2 BL1.out.size)
  clear h2
  have c0 := CA2.out.lo
  have c1 := CA2.out.hi
  have c2 := CA2.out.wi
  have c3 := CA2.out.st
  have c4 := CA2.out.de
  have c5 := CA2.out.ca
  have t0 := TA2.out.li
  have t1 := TA2.out.gu
  have t2 := TA2.out.he
  simp only [Nat.zero_add] at t1 t2
  have s0 := cell_of_row _ (w.heap.size + 1) 0 _ _ _ HS2.out
  have f0 := frozen_of_row w2 (w.heap.size + 1) 0 _ _ HS2.out
  have s1 := cell_of_row _ (w.heap.size + 1) 1 _ _ _ HS2.out
  have f1 := frozen_of_row w2 (w.heap.size + 1) 1 _ _ HS2.out
  have s2 := cell_of_row _ (w.heap.size + 1) 2 _ _ _ HS2.out
  have f2 := frozen_of_row w2 (w.heap.size + 1) 2 _ _ HS2.out
  simp only [stcells] at s0 s1 s2
  replace s0 : w2.cell? ⟨w.heap.size + 1, 0, none⟩ = some (.int .i16 s.ti) := s0
  replace s1 : w2.cell? ⟨w.heap.size + 1, 1, none⟩ = some (.int .i8 s.wa) := s1
  replace s2 : w2.cell? ⟨w.heap.size + 1, 2, none⟩ = some (.int .i8 s.so) := s2
  have r0 := (show w2.cell? ⟨w.heap.size + 1 + 1 + 1, 0, none⟩ = some (.int .i16 0) from cell_of_row _ (w.heap.size + 1 + 1 + 1) 0 _ _ _ HR2.out)
  have x0 := frozen_of_row w2 (w.heap.size + 1 + 1 + 1) 0 _ _ HR2.out
  have r1 := (show w2.cell? ⟨w.heap.size + 1 + 1 + 1, 1, none⟩ = some (.int .i8 0) from cell_of_row _ (w.heap.size + 1 + 1 + 1) 1 _ _ _ HR2.out)
  have x1 := frozen_of_row w2 (w.heap.size + 1 + 1 + 1) 1 _ _ HR2.out
  have r2 := (show w2.cell? ⟨w.heap.size + 1 + 1 + 1, 2, none⟩ = some (.int .i8 0) from cell_of_row _ (w.heap.size + 1 + 1 + 1) 2 _ _ _ HR2.out)
  have x2 := frozen_of_row w2 (w.heap.size + 1 + 1 + 1) 2 _ _ HR2.out
  go_wp2_with fail
  go_region
  go_wp2_with fail
  refine bodyPost_ret (v := .tuple #[.agg #[.int .i16 (64), .int .i8 (C.de), .int .i8 (s.so)], .float .f32 x, .bool false]) (by simp [results, Try.results146, go_sem, *]) rfl ⟨?_, (by repeat (first | exact (((((BL2.out.setCell (by simp <;> omega) _).setCell (by simp <;> omega) _).setCell (by simp <;> omega) _).setCell (by simp <;> omega) _).setCell (by simp <;> omega) _) | apply Below.drew))⟩
  rw [EN.out, EX2.out, EU.out]; rfl
set_option maxHeartbeats 400000 in
theorem c_tick_bh2 (C : Ctl) (hC : OkC C) (B : Bld) (hB : OkB B) (s : Sta) (hs : OkS s) (t : Tck) (ht : OkT t) (c : Nat) (w : World) (hA : CtlAt w c C) (hg : fGt t.gu C.wi = false) (h1 : s.so = 0) (h2 : s.wa = 0) (h3 : fGt (lightW B s t) C.hi = true) (h4 : s.ti = 64) :
    Calls Try.prog 146 #[.pointer (some ⟨c, 0, none⟩), .agg (bcells B), .agg (stcells s), .agg (tcells t)] w fun e w' => e = .returned (.tuple #[.agg (stcells (nextW C B s t)), .float .f32 (inW C B s t), .bool (upW C s t)]) ∧ Below w.heap.size w w' := by
  have b0 := hC.st
  have ES : stormW C s t = s.so := by unfold stormW; rw [if_neg (by simp [hg])]; rw [if_neg (by omega)]
  have ET : turnW C s (lightW B s t) = 64 := by unfold turnW; rw [if_pos h3]; omega
  have ENE : 64 = s.ti := by omega
  have EN0 : nextW C B s t = ⟨64, s.wa, s.so⟩ := by unfold nextW; rw [ES, if_neg (by omega), if_neg (by omega), ET, if_pos ENE, ENE]
  have hne : (64 != s.ti) = false := by rw [bne_eq_false_iff_eq]; exact ENE
  have EN := hid EN0
  have EX := hid (show inW C B s t = lightW B s t by unfold inW; rw [ES, if_neg (by omega)])
  have EU := hid (show upW C s t = false by unfold upW; rw [ES]; exact decide_eq_false (by omega))
  clear ES EN0 b0 ET ENE
  have hwr1 : IntKind.i64.wrap s.ti = s.ti := by have := hs.ti; rw [IntWalk.i64_in] <;> omega
  have hwr2 : IntKind.i64.wrap t.he = t.he := by have := ht.he; rw [IntWalk.i64_in] <;> omega
  have CP := hid (fun w => c_pass (tiltB B s.ti) (hB.tilt hs.ti.1 hs.ti.2) t.he ht.he.1 ht.he.2 w)
  have CT := hid (fun w => c_tilted B s.ti hs.ti w)
  have ra := fun wx => run_mul (T := 22) ht.li.fin (pass_fin (hB.tilt hs.ti.1 hs.ti.2) ht.he.1 ht.he.2).all.fin wx
  have LX := hid (show lightW B s t = fmul t.li (passW (tiltB B s.ti) t.he) from rfl)
  rw [LX.out] at h3
  have g3 := (show (FloatKind.f32.format.order (fmul t.li (passW (tiltB B s.ti) t.he)) C.hi == some .gt) = true from h3)
  generalize passW (tiltB B s.ti) t.he = pz at *
  generalize hxx : fmul t.li pz = x at *
  have XX := hid hxx
  have EX2 := hid (EX.out.trans LX.out)
  clear hxx
  have d0 : ¬ 0 < s.so := by omega
  have d9 : ¬ 0 < s.wa := by omega
  have H1 := hid h1
  clear h1
  have H2 := hid h2
  clear h2
  have m1 : 64 < s.ti + C.st := by have := hC.st; omega
  have H4 := hid h4
  clear h4
  have g0 := (show (FloatKind.f32.format.order t.gu C.wi == some .gt) = false from hg)
  have HZB := hid (size_blind B)
  have CL := hid hA.lt
  obtain ⟨w0, hw0⟩ : ∃ w0, w0 = ((((w.alloc (.cells (bcells B) 37)).alloc (.cells (stcells s) 39)).alloc (.cells (tcells t) 110)).alloc (.cells #[.int .i16 0, .int .i8 0, .int .i8 0] 39)) := ⟨_, rfl⟩
  have BL0 : Hid (Below w.heap.size w w0) := hid (by rw [hw0]; exact ((((Below.refl _ _).alloc (Nat.le_refl _) _).alloc (by simp) _).alloc (by simp; omega) _).alloc (by simp; omega) _)
  have HB0 : Hid (w0.heap[w.heap.size]? = some (.cells (bcells B) 37 (0, 0))) := hid (by rw [hw0]; exact (blk_past _ _ _ (by simp <;> omega)).trans ((blk_past _ _ _ (by simp <;> omega)).trans ((blk_past _ _ _ (by simp <;> omega)).trans (blk_at _ _ _ rfl))))
  have HS0 : Hid (w0.heap[w.heap.size + 1]? = some (.cells (stcells s) 39 (0, 0))) := hid (by rw [hw0]; exact (blk_past _ _ _ (by simp <;> omega)).trans ((blk_past _ _ _ (by simp <;> omega)).trans (blk_at _ _ _ (by simp))))
  have TA0 : Hid (TckAt w0 (w.heap.size + 1 + 1) 0 t) := hid (TckAt.of_block (T := 110) (by rw [hw0]; exact (blk_past _ _ _ (by simp <;> omega)).trans (blk_at _ _ _ (by simp))))
  have HR0 : Hid (w0.heap[w.heap.size + 1 + 1 + 1]? = some (.cells zSt 39 (0, 0))) := hid (by rw [hw0]; exact blk_at _ _ _ (by simp))
  have CA0 := hid (hA.below BL0.out)
  have W0 := hid hw0
  have HC := hid hC
  have HBB := hid hB
  have HSS := hid hs
  have HTT := hid ht
  have b1 := hC.st
  have b2 := hC.de
  have b3 := hC.ca
  have b4 := hs.ti
  have b5 := hs.wa
  have b6 := hs.so
  have b7 := ht.he
  clear hC hB hs ht hA hw0
  go_enter Try.func146, Try.ntmps146
  go_wp2_with fail
  rw [← W0.out]
  refine wp_region_below (by kernel_rfl) (by kernel_rfl) ?_
  repeat (first | (refine wpQuiet_load_cell rfl 22 _ rfl ⟨(w.heap.size + 1 + 1), 1, none⟩ rfl (.float .f32 t.gu) _ (fun wx hwx => (TA0.out.below hwx.out).gu) Try.underlying22 rfl ?_) | (refine wpQuiet_load_cell rfl 22 _ rfl ⟨c, 2, none⟩ rfl (.float .f32 C.wi) _ (fun wx hwx => (CA0.out.below hwx.out).wi) Try.underlying22 rfl ?_) | (refine wpQuiet_step (fun K hK => ?_); go_simp; first | (refine hK _ ?_; clear hK K) | (refine ⟨_, fun _ _ => rfl, hK _ ?_⟩; clear hK K)))
  refine wpQuiet_nil ?_
  intro w1 h1
  replace h1 := h1.out
  have HB1 := hid ((h1.block _ (block_lt HB0.out)).trans HB0.out)
  have HS1 := hid ((h1.block _ (block_lt HS0.out)).trans HS0.out)
  have HR1 := hid ((h1.block _ (block_lt HR0.out)).trans HR0.out)
  have CA1 := hid (CA0.out.below h1)
  have TA1 := hid (TA0.out.below h1)
  have BL1 := hid (below_trans BL0.out h1 BL0.out.size)
  clear h1
  have c0 := CA1.out.lo
  have c1 := CA1.out.hi
  have c2 := CA1.out.wi
  have c3 := CA1.out.st
  have c4 := CA1.out.de
  have c5 := CA1.out.ca
  have t0 := TA1.out.li
  have t1 := TA1.out.gu
  have t2 := TA1.out.he
  simp only [Nat.zero_add] at t1 t2
  have s0 := cell_of_row _ (w.heap.size + 1) 0 _ _ _ HS1.out
  have f0 := frozen_of_row w1 (w.heap.size + 1) 0 _ _ HS1.out
  have s1 := cell_of_row _ (w.heap.size + 1) 1 _ _ _ HS1.out
  have f1 := frozen_of_row w1 (w.heap.size + 1) 1 _ _ HS1.out
  have s2 := cell_of_row _ (w.heap.size + 1) 2 _ _ _ HS1.out
  have f2 := frozen_of_row w1 (w.heap.size + 1) 2 _ _ HS1.out
  simp only [stcells] at s0 s1 s2
  replace s0 : w1.cell? ⟨w.heap.size + 1, 0, none⟩ = some (.int .i16 s.ti) := s0
  replace s1 : w1.cell? ⟨w.heap.size + 1, 1, none⟩ = some (.int .i8 s.wa) := s1
  replace s2 : w1.cell? ⟨w.heap.size + 1, 2, none⟩ = some (.int .i8 s.so) := s2
  go_wp2_with fail
  clear c0 c1 c2 c3 c4 c5 t0 t1 t2 s0 s1 s2 f0 f1 f2
  clear d0
  refine wp_region_below (by kernel_rfl) (by kernel_rfl) ?_
  repeat (first | (refine wpQuiet_load_cell rfl 22 _ rfl ⟨(w.heap.size + 1 + 1), 0, none⟩ rfl (.float .f32 t.li) _ (fun wx hwx => (TA1.out.below hwx.out).li) Try.underlying22 rfl ?_) | (refine wpQuiet_load_row rfl 37 _ rfl (w.heap.size) rfl 37 (bcells B) (0, 0) _ (fun wx hwx => (hwx.out.block _ (block_lt HB1.out)).trans HB1.out) Try.underlying37 rfl HZB.out ?_) | (refine wpQuiet_load_cell rfl 26 _ rfl ⟨w.heap.size + 1, 0, none⟩ rfl (.int .i16 s.ti) _ (fun wx hwx => (cell_of_row _ (w.heap.size + 1) 0 _ _ _ ((hwx.out.block _ (block_lt HS1.out)).trans HS1.out))) Try.underlying26 rfl ?_) | (refine wpQuiet_load_cell rfl 23 _ rfl ⟨(w.heap.size + 1 + 1), 2, none⟩ rfl (.int .i8 t.he) _ (fun wx hwx => (TA1.out.below hwx.out).he) Try.underlying23 rfl ?_) | (refine wpQuiet_step (fun K hK => ?_); go_simp; first | (refine hK _ ?_; clear hK K) | (refine ⟨_, fun _ _ => rfl, hK _ ?_⟩; clear hK K) | (apply Exists.intro; refine ⟨fun wx hwx => ?_, hK _ ?_⟩; (first | (exact quiet_below hwx (CT.out _)) | (exact quiet_below hwx (CP.out _))); clear hK K)))
  refine wpQuiet_nil ?_
  intro w2 h2
  replace h2 := h2.out
  have HB2 := hid ((h2.block _ (block_lt HB1.out)).trans HB1.out)
  have HS2 := hid ((h2.block _ (block_lt HS1.out)).trans HS1.out)
  have HR2 := hid ((h2.block _ (block_lt HR1.out)).trans HR1.out)
  have CA2 := hid (CA1.out.below h2)
  have TA2 := hid (TA1.out.below h2)
  have BL2 := hid (below_trans BL1.out h2 BL1.out.size)
  clear h2
  have c0 := CA2.out.lo
  have c1 := CA2.out.hi
  have c2 := CA2.out.wi
  have c3 := CA2.out.st
  have c4 := CA2.out.de
  have c5 := CA2.out.ca
  have t0 := TA2.out.li
  have t1 := TA2.out.gu
  have t2 := TA2.out.he
  simp only [Nat.zero_add] at t1 t2
  have s0 := cell_of_row _ (w.heap.size + 1) 0 _ _ _ HS2.out
  have f0 := frozen_of_row w2 (w.heap.size + 1) 0 _ _ HS2.out
  have s1 := cell_of_row _ (w.heap.size + 1) 1 _ _ _ HS2.out
  have f1 := frozen_of_row w2 (w.heap.size + 1) 1 _ _ HS2.out
  have s2 := cell_of_row _ (w.heap.size + 1) 2 _ _ _ HS2.out
  have f2 := frozen_of_row w2 (w.heap.size + 1) 2 _ _ HS2.out
  simp only [stcells] at s0 s1 s2
  replace s0 : w2.cell? ⟨w.heap.size + 1, 0, none⟩ = some (.int .i16 s.ti) := s0
  replace s1 : w2.cell? ⟨w.heap.size + 1, 1, none⟩ = some (.int .i8 s.wa) := s1
  replace s2 : w2.cell? ⟨w.heap.size + 1, 2, none⟩ = some (.int .i8 s.so) := s2
  have r0 := (show w2.cell? ⟨w.heap.size + 1 + 1 + 1, 0, none⟩ = some (.int .i16 0) from cell_of_row _ (w.heap.size + 1 + 1 + 1) 0 _ _ _ HR2.out)
  have x0 := frozen_of_row w2 (w.heap.size + 1 + 1 + 1) 0 _ _ HR2.out
  have r1 := (show w2.cell? ⟨w.heap.size + 1 + 1 + 1, 1, none⟩ = some (.int .i8 0) from cell_of_row _ (w.heap.size + 1 + 1 + 1) 1 _ _ _ HR2.out)
  have x1 := frozen_of_row w2 (w.heap.size + 1 + 1 + 1) 1 _ _ HR2.out
  have r2 := (show w2.cell? ⟨w.heap.size + 1 + 1 + 1, 2, none⟩ = some (.int .i8 0) from cell_of_row _ (w.heap.size + 1 + 1 + 1) 2 _ _ _ HR2.out)
  have x2 := frozen_of_row w2 (w.heap.size + 1 + 1 + 1) 2 _ _ HR2.out
  go_wp2_with fail
  go_region
  go_wp2_with fail
  refine bodyPost_ret (v := .tuple #[.agg #[.int .i16 (64), .int .i8 (s.wa), .int .i8 (s.so)], .float .f32 x, .bool false]) (by simp [results, Try.results146, go_sem, *]) rfl ⟨?_, (by repeat (first | exact ((((BL2.out.setCell (by simp <;> omega) _).setCell (by simp <;> omega) _).setCell (by simp <;> omega) _).setCell (by simp <;> omega) _) | apply Below.drew))⟩
  rw [EN.out, EX2.out, EU.out]; rfl
set_option maxHeartbeats 400000 in
theorem c_tick_bl1 (C : Ctl) (hC : OkC C) (B : Bld) (hB : OkB B) (s : Sta) (hs : OkS s) (t : Tck) (ht : OkT t) (c : Nat) (w : World) (hA : CtlAt w c C) (hg : fGt t.gu C.wi = false) (h1 : s.so = 0) (h2 : s.wa = 0) (h3 : fGt (lightW B s t) C.hi = false) (h4 : fLt (lightW B s t) C.lo = true) (h5 : -64 ≤ s.ti - C.st) :
    Calls Try.prog 146 #[.pointer (some ⟨c, 0, none⟩), .agg (bcells B), .agg (stcells s), .agg (tcells t)] w fun e w' => e = .returned (.tuple #[.agg (stcells (nextW C B s t)), .float .f32 (inW C B s t), .bool (upW C s t)]) ∧ Below w.heap.size w w' := by
  have b0 := hC.st
  have ES : stormW C s t = s.so := by unfold stormW; rw [if_neg (by simp [hg])]; rw [if_neg (by omega)]
  have ET : turnW C s (lightW B s t) = s.ti - C.st := by unfold turnW; rw [if_neg (by simp [h3]), if_pos h4]; omega
  have ENE : ¬ s.ti - C.st = s.ti := by omega
  have EN0 : nextW C B s t = ⟨s.ti - C.st, C.de, s.so⟩ := by unfold nextW; rw [ES, if_neg (by omega), if_neg (by omega), ET, if_neg ENE]
  have hne : (s.ti - C.st != s.ti) = true := by rw [bne_iff_ne]; exact ENE
  have EN := hid EN0
  have EX := hid (show inW C B s t = lightW B s t by unfold inW; rw [ES, if_neg (by omega)])
  have EU := hid (show upW C s t = false by unfold upW; rw [ES]; exact decide_eq_false (by omega))
  clear ES EN0 b0 ET ENE
  have hwr1 : IntKind.i64.wrap s.ti = s.ti := by have := hs.ti; rw [IntWalk.i64_in] <;> omega
  have hwr2 : IntKind.i64.wrap t.he = t.he := by have := ht.he; rw [IntWalk.i64_in] <;> omega
  have CP := hid (fun w => c_pass (tiltB B s.ti) (hB.tilt hs.ti.1 hs.ti.2) t.he ht.he.1 ht.he.2 w)
  have CT := hid (fun w => c_tilted B s.ti hs.ti w)
  have ra := fun wx => run_mul (T := 22) ht.li.fin (pass_fin (hB.tilt hs.ti.1 hs.ti.2) ht.he.1 ht.he.2).all.fin wx
  have LX := hid (show lightW B s t = fmul t.li (passW (tiltB B s.ti) t.he) from rfl)
  rw [LX.out] at h3
  have g3 := (show (FloatKind.f32.format.order (fmul t.li (passW (tiltB B s.ti) t.he)) C.hi == some .gt) = false from h3)
  rw [LX.out] at h4
  have g4 := (show (FloatKind.f32.format.order (fmul t.li (passW (tiltB B s.ti) t.he)) C.lo == some .lt) = true from h4)
  generalize passW (tiltB B s.ti) t.he = pz at *
  generalize hxx : fmul t.li pz = x at *
  have XX := hid hxx
  have EX2 := hid (EX.out.trans LX.out)
  clear hxx
  have d0 : ¬ 0 < s.so := by omega
  have d9 : ¬ 0 < s.wa := by omega
  have H1 := hid h1
  clear h1
  have H2 := hid h2
  clear h2
  have m1 : ¬ s.ti - C.st < -64 := by omega
  have g0 := (show (FloatKind.f32.format.order t.gu C.wi == some .gt) = false from hg)
  have HZB := hid (size_blind B)
  have CL := hid hA.lt
  obtain ⟨w0, hw0⟩ : ∃ w0, w0 = ((((w.alloc (.cells (bcells B) 37)).alloc (.cells (stcells s) 39)).alloc (.cells (tcells t) 110)).alloc (.cells #[.int .i16 0, .int .i8 0, .int .i8 0] 39)) := ⟨_, rfl⟩
  have BL0 : Hid (Below w.heap.size w w0) := hid (by rw [hw0]; exact ((((Below.refl _ _).alloc (Nat.le_refl _) _).alloc (by simp) _).alloc (by simp; omega) _).alloc (by simp; omega) _)
  have HB0 : Hid (w0.heap[w.heap.size]? = some (.cells (bcells B) 37 (0, 0))) := hid (by rw [hw0]; exact (blk_past _ _ _ (by simp <;> omega)).trans ((blk_past _ _ _ (by simp <;> omega)).trans ((blk_past _ _ _ (by simp <;> omega)).trans (blk_at _ _ _ rfl))))
  have HS0 : Hid (w0.heap[w.heap.size + 1]? = some (.cells (stcells s) 39 (0, 0))) := hid (by rw [hw0]; exact (blk_past _ _ _ (by simp <;> omega)).trans ((blk_past _ _ _ (by simp <;> omega)).trans (blk_at _ _ _ (by simp))))
  have TA0 : Hid (TckAt w0 (w.heap.size + 1 + 1) 0 t) := hid (TckAt.of_block (T := 110) (by rw [hw0]; exact (blk_past _ _ _ (by simp <;> omega)).trans (blk_at _ _ _ (by simp))))
  have HR0 : Hid (w0.heap[w.heap.size + 1 + 1 + 1]? = some (.cells zSt 39 (0, 0))) := hid (by rw [hw0]; exact blk_at _ _ _ (by simp))
  have CA0 := hid (hA.below BL0.out)
  have W0 := hid hw0
  have HC := hid hC
  have HBB := hid hB
  have HSS := hid hs
  have HTT := hid ht
  have b1 := hC.st
  have b2 := hC.de
  have b3 := hC.ca
  have b4 := hs.ti
  have b5 := hs.wa
  have b6 := hs.so
  have b7 := ht.he
  clear hC hB hs ht hA hw0
  go_enter Try.func146, Try.ntmps146
  go_wp2_with fail
  rw [← W0.out]
  refine wp_region_below (by kernel_rfl) (by kernel_rfl) ?_
  repeat (first | (refine wpQuiet_load_cell rfl 22 _ rfl ⟨(w.heap.size + 1 + 1), 1, none⟩ rfl (.float .f32 t.gu) _ (fun wx hwx => (TA0.out.below hwx.out).gu) Try.underlying22 rfl ?_) | (refine wpQuiet_load_cell rfl 22 _ rfl ⟨c, 2, none⟩ rfl (.float .f32 C.wi) _ (fun wx hwx => (CA0.out.below hwx.out).wi) Try.underlying22 rfl ?_) | (refine wpQuiet_step (fun K hK => ?_); go_simp; first | (refine hK _ ?_; clear hK K) | (refine ⟨_, fun _ _ => rfl, hK _ ?_⟩; clear hK K)))
  refine wpQuiet_nil ?_
  intro w1 h1
  replace h1 := h1.out
  have HB1 := hid ((h1.block _ (block_lt HB0.out)).trans HB0.out)
  have HS1 := hid ((h1.block _ (block_lt HS0.out)).trans HS0.out)
  have HR1 := hid ((h1.block _ (block_lt HR0.out)).trans HR0.out)
  have CA1 := hid (CA0.out.below h1)
  have TA1 := hid (TA0.out.below h1)
  have BL1 := hid (below_trans BL0.out h1 BL0.out.size)
  clear h1
  have c0 := CA1.out.lo
  have c1 := CA1.out.hi
  have c2 := CA1.out.wi
  have c3 := CA1.out.st
  have c4 := CA1.out.de
  have c5 := CA1.out.ca
  have t0 := TA1.out.li
  have t1 := TA1.out.gu
  have t2 := TA1.out.he
  simp only [Nat.zero_add] at t1 t2
  have s0 := cell_of_row _ (w.heap.size + 1) 0 _ _ _ HS1.out
  have f0 := frozen_of_row w1 (w.heap.size + 1) 0 _ _ HS1.out
  have s1 := cell_of_row _ (w.heap.size + 1) 1 _ _ _ HS1.out
  have f1 := frozen_of_row w1 (w.heap.size + 1) 1 _ _ HS1.out
  have s2 := cell_of_row _ (w.heap.size + 1) 2 _ _ _ HS1.out
  have f2 := frozen_of_row w1 (w.heap.size + 1) 2 _ _ HS1.out
  simp only [stcells] at s0 s1 s2
  replace s0 : w1.cell? ⟨w.heap.size + 1, 0, none⟩ = some (.int .i16 s.ti) := s0
  replace s1 : w1.cell? ⟨w.heap.size + 1, 1, none⟩ = some (.int .i8 s.wa) := s1
  replace s2 : w1.cell? ⟨w.heap.size + 1, 2, none⟩ = some (.int .i8 s.so) := s2
  go_wp2_with fail
  clear c0 c1 c2 c3 c4 c5 t0 t1 t2 s0 s1 s2 f0 f1 f2
  clear d0
  refine wp_region_below (by kernel_rfl) (by kernel_rfl) ?_
  repeat (first | (refine wpQuiet_load_cell rfl 22 _ rfl ⟨(w.heap.size + 1 + 1), 0, none⟩ rfl (.float .f32 t.li) _ (fun wx hwx => (TA1.out.below hwx.out).li) Try.underlying22 rfl ?_) | (refine wpQuiet_load_row rfl 37 _ rfl (w.heap.size) rfl 37 (bcells B) (0, 0) _ (fun wx hwx => (hwx.out.block _ (block_lt HB1.out)).trans HB1.out) Try.underlying37 rfl HZB.out ?_) | (refine wpQuiet_load_cell rfl 26 _ rfl ⟨w.heap.size + 1, 0, none⟩ rfl (.int .i16 s.ti) _ (fun wx hwx => (cell_of_row _ (w.heap.size + 1) 0 _ _ _ ((hwx.out.block _ (block_lt HS1.out)).trans HS1.out))) Try.underlying26 rfl ?_) | (refine wpQuiet_load_cell rfl 23 _ rfl ⟨(w.heap.size + 1 + 1), 2, none⟩ rfl (.int .i8 t.he) _ (fun wx hwx => (TA1.out.below hwx.out).he) Try.underlying23 rfl ?_) | (refine wpQuiet_step (fun K hK => ?_); go_simp; first | (refine hK _ ?_; clear hK K) | (refine ⟨_, fun _ _ => rfl, hK _ ?_⟩; clear hK K) | (apply Exists.intro; refine ⟨fun wx hwx => ?_, hK _ ?_⟩; (first | (exact quiet_below hwx (CT.out _)) | (exact quiet_below hwx (CP.out _))); clear hK K)))
  refine wpQuiet_nil ?_
  intro w2 h2
  replace h2 := h2.out
  have HB2 := hid ((h2.block _ (block_lt HB1.out)).trans HB1.out)
  have HS2 := hid ((h2.block _ (block_lt HS1.out)).trans HS1.out)
  have HR2 := hid ((h2.block _ (block_lt HR1.out)).trans HR1.out)
  have CA2 := hid (CA1.out.below h2)
  have TA2 := hid (TA1.out.below h2)
  have BL2 := hid (below_trans BL1.out h2 BL1.out.size)
  clear h2
  have c0 := CA2.out.lo
  have c1 := CA2.out.hi
  have c2 := CA2.out.wi
  have c3 := CA2.out.st
  have c4 := CA2.out.de
  have c5 := CA2.out.ca
  have t0 := TA2.out.li
  have t1 := TA2.out.gu
  have t2 := TA2.out.he
  simp only [Nat.zero_add] at t1 t2
  have s0 := cell_of_row _ (w.heap.size + 1) 0 _ _ _ HS2.out
  have f0 := frozen_of_row w2 (w.heap.size + 1) 0 _ _ HS2.out
  have s1 := cell_of_row _ (w.heap.size + 1) 1 _ _ _ HS2.out
  have f1 := frozen_of_row w2 (w.heap.size + 1) 1 _ _ HS2.out
  have s2 := cell_of_row _ (w.heap.size + 1) 2 _ _ _ HS2.out
  have f2 := frozen_of_row w2 (w.heap.size + 1) 2 _ _ HS2.out
  simp only [stcells] at s0 s1 s2
  replace s0 : w2.cell? ⟨w.heap.size + 1, 0, none⟩ = some (.int .i16 s.ti) := s0
  replace s1 : w2.cell? ⟨w.heap.size + 1, 1, none⟩ = some (.int .i8 s.wa) := s1
  replace s2 : w2.cell? ⟨w.heap.size + 1, 2, none⟩ = some (.int .i8 s.so) := s2
  have r0 := (show w2.cell? ⟨w.heap.size + 1 + 1 + 1, 0, none⟩ = some (.int .i16 0) from cell_of_row _ (w.heap.size + 1 + 1 + 1) 0 _ _ _ HR2.out)
  have x0 := frozen_of_row w2 (w.heap.size + 1 + 1 + 1) 0 _ _ HR2.out
  have r1 := (show w2.cell? ⟨w.heap.size + 1 + 1 + 1, 1, none⟩ = some (.int .i8 0) from cell_of_row _ (w.heap.size + 1 + 1 + 1) 1 _ _ _ HR2.out)
  have x1 := frozen_of_row w2 (w.heap.size + 1 + 1 + 1) 1 _ _ HR2.out
  have r2 := (show w2.cell? ⟨w.heap.size + 1 + 1 + 1, 2, none⟩ = some (.int .i8 0) from cell_of_row _ (w.heap.size + 1 + 1 + 1) 2 _ _ _ HR2.out)
  have x2 := frozen_of_row w2 (w.heap.size + 1 + 1 + 1) 2 _ _ HR2.out
  go_wp2_with fail
  go_region
  go_wp2_with fail
  refine bodyPost_ret (v := .tuple #[.agg #[.int .i16 (s.ti - C.st), .int .i8 (C.de), .int .i8 (s.so)], .float .f32 x, .bool false]) (by simp [results, Try.results146, go_sem, *]) rfl ⟨?_, (by repeat (first | exact (((((BL2.out.setCell (by simp <;> omega) _).setCell (by simp <;> omega) _).setCell (by simp <;> omega) _).setCell (by simp <;> omega) _).setCell (by simp <;> omega) _) | apply Below.drew))⟩
  rw [EN.out, EX2.out, EU.out]; rfl
set_option maxHeartbeats 400000 in
theorem c_tick_bl3 (C : Ctl) (hC : OkC C) (B : Bld) (hB : OkB B) (s : Sta) (hs : OkS s) (t : Tck) (ht : OkT t) (c : Nat) (w : World) (hA : CtlAt w c C) (hg : fGt t.gu C.wi = false) (h1 : s.so = 0) (h2 : s.wa = 0) (h3 : fGt (lightW B s t) C.hi = false) (h4 : fLt (lightW B s t) C.lo = true) (h5 : -64 < s.ti) (h6 : s.ti - C.st < -64) :
    Calls Try.prog 146 #[.pointer (some ⟨c, 0, none⟩), .agg (bcells B), .agg (stcells s), .agg (tcells t)] w fun e w' => e = .returned (.tuple #[.agg (stcells (nextW C B s t)), .float .f32 (inW C B s t), .bool (upW C s t)]) ∧ Below w.heap.size w w' := by
  have b0 := hC.st
  have ES : stormW C s t = s.so := by unfold stormW; rw [if_neg (by simp [hg])]; rw [if_neg (by omega)]
  have ET : turnW C s (lightW B s t) = -64 := by unfold turnW; rw [if_neg (by simp [h3]), if_pos h4]; omega
  have ENE : ¬ -64 = s.ti := by omega
  have EN0 : nextW C B s t = ⟨-64, C.de, s.so⟩ := by unfold nextW; rw [ES, if_neg (by omega), if_neg (by omega), ET, if_neg ENE]
  have hne : (-64 != s.ti) = true := by rw [bne_iff_ne]; exact ENE
  have EN := hid EN0
  have EX := hid (show inW C B s t = lightW B s t by unfold inW; rw [ES, if_neg (by omega)])
  have EU := hid (show upW C s t = false by unfold upW; rw [ES]; exact decide_eq_false (by omega))
  clear ES EN0 b0 ET ENE
  have hwr1 : IntKind.i64.wrap s.ti = s.ti := by have := hs.ti; rw [IntWalk.i64_in] <;> omega
  have hwr2 : IntKind.i64.wrap t.he = t.he := by have := ht.he; rw [IntWalk.i64_in] <;> omega
  have CP := hid (fun w => c_pass (tiltB B s.ti) (hB.tilt hs.ti.1 hs.ti.2) t.he ht.he.1 ht.he.2 w)
  have CT := hid (fun w => c_tilted B s.ti hs.ti w)
  have ra := fun wx => run_mul (T := 22) ht.li.fin (pass_fin (hB.tilt hs.ti.1 hs.ti.2) ht.he.1 ht.he.2).all.fin wx
  have LX := hid (show lightW B s t = fmul t.li (passW (tiltB B s.ti) t.he) from rfl)
  rw [LX.out] at h3
  have g3 := (show (FloatKind.f32.format.order (fmul t.li (passW (tiltB B s.ti) t.he)) C.hi == some .gt) = false from h3)
  rw [LX.out] at h4
  have g4 := (show (FloatKind.f32.format.order (fmul t.li (passW (tiltB B s.ti) t.he)) C.lo == some .lt) = true from h4)
  generalize passW (tiltB B s.ti) t.he = pz at *
  generalize hxx : fmul t.li pz = x at *
  have XX := hid hxx
  have EX2 := hid (EX.out.trans LX.out)
  clear hxx
  have d0 : ¬ 0 < s.so := by omega
  have d9 : ¬ 0 < s.wa := by omega
  have H1 := hid h1
  clear h1
  have H2 := hid h2
  clear h2
  have g0 := (show (FloatKind.f32.format.order t.gu C.wi == some .gt) = false from hg)
  have HZB := hid (size_blind B)
  have CL := hid hA.lt
  obtain ⟨w0, hw0⟩ : ∃ w0, w0 = ((((w.alloc (.cells (bcells B) 37)).alloc (.cells (stcells s) 39)).alloc (.cells (tcells t) 110)).alloc (.cells #[.int .i16 0, .int .i8 0, .int .i8 0] 39)) := ⟨_, rfl⟩
  have BL0 : Hid (Below w.heap.size w w0) := hid (by rw [hw0]; exact ((((Below.refl _ _).alloc (Nat.le_refl _) _).alloc (by simp) _).alloc (by simp; omega) _).alloc (by simp; omega) _)
  have HB0 : Hid (w0.heap[w.heap.size]? = some (.cells (bcells B) 37 (0, 0))) := hid (by rw [hw0]; exact (blk_past _ _ _ (by simp <;> omega)).trans ((blk_past _ _ _ (by simp <;> omega)).trans ((blk_past _ _ _ (by simp <;> omega)).trans (blk_at _ _ _ rfl))))
  have HS0 : Hid (w0.heap[w.heap.size + 1]? = some (.cells (stcells s) 39 (0, 0))) := hid (by rw [hw0]; exact (blk_past _ _ _ (by simp <;> omega)).trans ((blk_past _ _ _ (by simp <;> omega)).trans (blk_at _ _ _ (by simp))))
  have TA0 : Hid (TckAt w0 (w.heap.size + 1 + 1) 0 t) := hid (TckAt.of_block (T := 110) (by rw [hw0]; exact (blk_past _ _ _ (by simp <;> omega)).trans (blk_at _ _ _ (by simp))))
  have HR0 : Hid (w0.heap[w.heap.size + 1 + 1 + 1]? = some (.cells zSt 39 (0, 0))) := hid (by rw [hw0]; exact blk_at _ _ _ (by simp))
  have CA0 := hid (hA.below BL0.out)
  have W0 := hid hw0
  have HC := hid hC
  have HBB := hid hB
  have HSS := hid hs
  have HTT := hid ht
  have b1 := hC.st
  have b2 := hC.de
  have b3 := hC.ca
  have b4 := hs.ti
  have b5 := hs.wa
  have b6 := hs.so
  have b7 := ht.he
  clear hC hB hs ht hA hw0
  go_enter Try.func146, Try.ntmps146
  go_wp2_with fail
  rw [← W0.out]
  refine wp_region_below (by kernel_rfl) (by kernel_rfl) ?_
  repeat (first | (refine wpQuiet_load_cell rfl 22 _ rfl ⟨(w.heap.size + 1 + 1), 1, none⟩ rfl (.float .f32 t.gu) _ (fun wx hwx => (TA0.out.below hwx.out).gu) Try.underlying22 rfl ?_) | (refine wpQuiet_load_cell rfl 22 _ rfl ⟨c, 2, none⟩ rfl (.float .f32 C.wi) _ (fun wx hwx => (CA0.out.below hwx.out).wi) Try.underlying22 rfl ?_) | (refine wpQuiet_step (fun K hK => ?_); go_simp; first | (refine hK _ ?_; clear hK K) | (refine ⟨_, fun _ _ => rfl, hK _ ?_⟩; clear hK K)))
  refine wpQuiet_nil ?_
  intro w1 h1
  replace h1 := h1.out
  have HB1 := hid ((h1.block _ (block_lt HB0.out)).trans HB0.out)
  have HS1 := hid ((h1.block _ (block_lt HS0.out)).trans HS0.out)
  have HR1 := hid ((h1.block _ (block_lt HR0.out)).trans HR0.out)
  have CA1 := hid (CA0.out.below h1)
  have TA1 := hid (TA0.out.below h1)
  have BL1 := hid (below_trans BL0.out h1 BL0.out.size)
  clear h1
  have c0 := CA1.out.lo
  have c1 := CA1.out.hi
  have c2 := CA1.out.wi
  have c3 := CA1.out.st
  have c4 := CA1.out.de
  have c5 := CA1.out.ca
  have t0 := TA1.out.li
  have t1 := TA1.out.gu
  have t2 := TA1.out.he
  simp only [Nat.zero_add] at t1 t2
  have s0 := cell_of_row _ (w.heap.size + 1) 0 _ _ _ HS1.out
  have f0 := frozen_of_row w1 (w.heap.size + 1) 0 _ _ HS1.out
  have s1 := cell_of_row _ (w.heap.size + 1) 1 _ _ _ HS1.out
  have f1 := frozen_of_row w1 (w.heap.size + 1) 1 _ _ HS1.out
  have s2 := cell_of_row _ (w.heap.size + 1) 2 _ _ _ HS1.out
  have f2 := frozen_of_row w1 (w.heap.size + 1) 2 _ _ HS1.out
  simp only [stcells] at s0 s1 s2
  replace s0 : w1.cell? ⟨w.heap.size + 1, 0, none⟩ = some (.int .i16 s.ti) := s0
  replace s1 : w1.cell? ⟨w.heap.size + 1, 1, none⟩ = some (.int .i8 s.wa) := s1
  replace s2 : w1.cell? ⟨w.heap.size + 1, 2, none⟩ = some (.int .i8 s.so) := s2
  go_wp2_with fail
  clear c0 c1 c2 c3 c4 c5 t0 t1 t2 s0 s1 s2 f0 f1 f2
  clear d0
  refine wp_region_below (by kernel_rfl) (by kernel_rfl) ?_
  repeat (first | (refine wpQuiet_load_cell rfl 22 _ rfl ⟨(w.heap.size + 1 + 1), 0, none⟩ rfl (.float .f32 t.li) _ (fun wx hwx => (TA1.out.below hwx.out).li) Try.underlying22 rfl ?_) | (refine wpQuiet_load_row rfl 37 _ rfl (w.heap.size) rfl 37 (bcells B) (0, 0) _ (fun wx hwx => (hwx.out.block _ (block_lt HB1.out)).trans HB1.out) Try.underlying37 rfl HZB.out ?_) | (refine wpQuiet_load_cell rfl 26 _ rfl ⟨w.heap.size + 1, 0, none⟩ rfl (.int .i16 s.ti) _ (fun wx hwx => (cell_of_row _ (w.heap.size + 1) 0 _ _ _ ((hwx.out.block _ (block_lt HS1.out)).trans HS1.out))) Try.underlying26 rfl ?_) | (refine wpQuiet_load_cell rfl 23 _ rfl ⟨(w.heap.size + 1 + 1), 2, none⟩ rfl (.int .i8 t.he) _ (fun wx hwx => (TA1.out.below hwx.out).he) Try.underlying23 rfl ?_) | (refine wpQuiet_step (fun K hK => ?_); go_simp; first | (refine hK _ ?_; clear hK K) | (refine ⟨_, fun _ _ => rfl, hK _ ?_⟩; clear hK K) | (apply Exists.intro; refine ⟨fun wx hwx => ?_, hK _ ?_⟩; (first | (exact quiet_below hwx (CT.out _)) | (exact quiet_below hwx (CP.out _))); clear hK K)))
  refine wpQuiet_nil ?_
  intro w2 h2
  replace h2 := h2.out
  have HB2 := hid ((h2.block _ (block_lt HB1.out)).trans HB1.out)
  have HS2 := hid ((h2.block _ (block_lt HS1.out)).trans HS1.out)
  have HR2 := hid ((h2.block _ (block_lt HR1.out)).trans HR1.out)
  have CA2 := hid (CA1.out.below h2)
  have TA2 := hid (TA1.out.below h2)
  have BL2 := hid (below_trans BL1.out h2 BL1.out.size)
  clear h2
  have c0 := CA2.out.lo
  have c1 := CA2.out.hi
  have c2 := CA2.out.wi
  have c3 := CA2.out.st
  have c4 := CA2.out.de
  have c5 := CA2.out.ca
  have t0 := TA2.out.li
  have t1 := TA2.out.gu
  have t2 := TA2.out.he
  simp only [Nat.zero_add] at t1 t2
  have s0 := cell_of_row _ (w.heap.size + 1) 0 _ _ _ HS2.out
  have f0 := frozen_of_row w2 (w.heap.size + 1) 0 _ _ HS2.out
  have s1 := cell_of_row _ (w.heap.size + 1) 1 _ _ _ HS2.out
  have f1 := frozen_of_row w2 (w.heap.size + 1) 1 _ _ HS2.out
  have s2 := cell_of_row _ (w.heap.size + 1) 2 _ _ _ HS2.out
  have f2 := frozen_of_row w2 (w.heap.size + 1) 2 _ _ HS2.out
  simp only [stcells] at s0 s1 s2
  replace s0 : w2.cell? ⟨w.heap.size + 1, 0, none⟩ = some (.int .i16 s.ti) := s0
  replace s1 : w2.cell? ⟨w.heap.size + 1, 1, none⟩ = some (.int .i8 s.wa) := s1
  replace s2 : w2.cell? ⟨w.heap.size + 1, 2, none⟩ = some (.int .i8 s.so) := s2
  have r0 := (show w2.cell? ⟨w.heap.size + 1 + 1 + 1, 0, none⟩ = some (.int .i16 0) from cell_of_row _ (w.heap.size + 1 + 1 + 1) 0 _ _ _ HR2.out)
  have x0 := frozen_of_row w2 (w.heap.size + 1 + 1 + 1) 0 _ _ HR2.out
  have r1 := (show w2.cell? ⟨w.heap.size + 1 + 1 + 1, 1, none⟩ = some (.int .i8 0) from cell_of_row _ (w.heap.size + 1 + 1 + 1) 1 _ _ _ HR2.out)
  have x1 := frozen_of_row w2 (w.heap.size + 1 + 1 + 1) 1 _ _ HR2.out
  have r2 := (show w2.cell? ⟨w.heap.size + 1 + 1 + 1, 2, none⟩ = some (.int .i8 0) from cell_of_row _ (w.heap.size + 1 + 1 + 1) 2 _ _ _ HR2.out)
  have x2 := frozen_of_row w2 (w.heap.size + 1 + 1 + 1) 2 _ _ HR2.out
  go_wp2_with fail
  go_region
  go_wp2_with fail
  refine bodyPost_ret (v := .tuple #[.agg #[.int .i16 (-64), .int .i8 (C.de), .int .i8 (s.so)], .float .f32 x, .bool false]) (by simp [results, Try.results146, go_sem, *]) rfl ⟨?_, (by repeat (first | exact (((((BL2.out.setCell (by simp <;> omega) _).setCell (by simp <;> omega) _).setCell (by simp <;> omega) _).setCell (by simp <;> omega) _).setCell (by simp <;> omega) _) | apply Below.drew))⟩
  rw [EN.out, EX2.out, EU.out]; rfl
set_option maxHeartbeats 400000 in
theorem c_tick_bl2 (C : Ctl) (hC : OkC C) (B : Bld) (hB : OkB B) (s : Sta) (hs : OkS s) (t : Tck) (ht : OkT t) (c : Nat) (w : World) (hA : CtlAt w c C) (hg : fGt t.gu C.wi = false) (h1 : s.so = 0) (h2 : s.wa = 0) (h3 : fGt (lightW B s t) C.hi = false) (h4 : fLt (lightW B s t) C.lo = true) (h5 : s.ti = -64) :
    Calls Try.prog 146 #[.pointer (some ⟨c, 0, none⟩), .agg (bcells B), .agg (stcells s), .agg (tcells t)] w fun e w' => e = .returned (.tuple #[.agg (stcells (nextW C B s t)), .float .f32 (inW C B s t), .bool (upW C s t)]) ∧ Below w.heap.size w w' := by
  have b0 := hC.st
  have ES : stormW C s t = s.so := by unfold stormW; rw [if_neg (by simp [hg])]; rw [if_neg (by omega)]
  have ET : turnW C s (lightW B s t) = -64 := by unfold turnW; rw [if_neg (by simp [h3]), if_pos h4]; omega
  have ENE : -64 = s.ti := by omega
  have EN0 : nextW C B s t = ⟨-64, s.wa, s.so⟩ := by unfold nextW; rw [ES, if_neg (by omega), if_neg (by omega), ET, if_pos ENE, ENE]
  have hne : (-64 != s.ti) = false := by rw [bne_eq_false_iff_eq]; exact ENE
  have EN := hid EN0
  have EX := hid (show inW C B s t = lightW B s t by unfold inW; rw [ES, if_neg (by omega)])
  have EU := hid (show upW C s t = false by unfold upW; rw [ES]; exact decide_eq_false (by omega))
  clear ES EN0 b0 ET ENE
  have hwr1 : IntKind.i64.wrap s.ti = s.ti := by have := hs.ti; rw [IntWalk.i64_in] <;> omega
  have hwr2 : IntKind.i64.wrap t.he = t.he := by have := ht.he; rw [IntWalk.i64_in] <;> omega
  have CP := hid (fun w => c_pass (tiltB B s.ti) (hB.tilt hs.ti.1 hs.ti.2) t.he ht.he.1 ht.he.2 w)
  have CT := hid (fun w => c_tilted B s.ti hs.ti w)
  have ra := fun wx => run_mul (T := 22) ht.li.fin (pass_fin (hB.tilt hs.ti.1 hs.ti.2) ht.he.1 ht.he.2).all.fin wx
  have LX := hid (show lightW B s t = fmul t.li (passW (tiltB B s.ti) t.he) from rfl)
  rw [LX.out] at h3
  have g3 := (show (FloatKind.f32.format.order (fmul t.li (passW (tiltB B s.ti) t.he)) C.hi == some .gt) = false from h3)
  rw [LX.out] at h4
  have g4 := (show (FloatKind.f32.format.order (fmul t.li (passW (tiltB B s.ti) t.he)) C.lo == some .lt) = true from h4)
  generalize passW (tiltB B s.ti) t.he = pz at *
  generalize hxx : fmul t.li pz = x at *
  have XX := hid hxx
  have EX2 := hid (EX.out.trans LX.out)
  clear hxx
  have d0 : ¬ 0 < s.so := by omega
  have d9 : ¬ 0 < s.wa := by omega
  have H1 := hid h1
  clear h1
  have H2 := hid h2
  clear h2
  have m1 : s.ti - C.st < -64 := by have := hC.st; omega
  have H5 := hid h5
  clear h5
  have g0 := (show (FloatKind.f32.format.order t.gu C.wi == some .gt) = false from hg)
  have HZB := hid (size_blind B)
  have CL := hid hA.lt
  obtain ⟨w0, hw0⟩ : ∃ w0, w0 = ((((w.alloc (.cells (bcells B) 37)).alloc (.cells (stcells s) 39)).alloc (.cells (tcells t) 110)).alloc (.cells #[.int .i16 0, .int .i8 0, .int .i8 0] 39)) := ⟨_, rfl⟩
  have BL0 : Hid (Below w.heap.size w w0) := hid (by rw [hw0]; exact ((((Below.refl _ _).alloc (Nat.le_refl _) _).alloc (by simp) _).alloc (by simp; omega) _).alloc (by simp; omega) _)
  have HB0 : Hid (w0.heap[w.heap.size]? = some (.cells (bcells B) 37 (0, 0))) := hid (by rw [hw0]; exact (blk_past _ _ _ (by simp <;> omega)).trans ((blk_past _ _ _ (by simp <;> omega)).trans ((blk_past _ _ _ (by simp <;> omega)).trans (blk_at _ _ _ rfl))))
  have HS0 : Hid (w0.heap[w.heap.size + 1]? = some (.cells (stcells s) 39 (0, 0))) := hid (by rw [hw0]; exact (blk_past _ _ _ (by simp <;> omega)).trans ((blk_past _ _ _ (by simp <;> omega)).trans (blk_at _ _ _ (by simp))))
  have TA0 : Hid (TckAt w0 (w.heap.size + 1 + 1) 0 t) := hid (TckAt.of_block (T := 110) (by rw [hw0]; exact (blk_past _ _ _ (by simp <;> omega)).trans (blk_at _ _ _ (by simp))))
  have HR0 : Hid (w0.heap[w.heap.size + 1 + 1 + 1]? = some (.cells zSt 39 (0, 0))) := hid (by rw [hw0]; exact blk_at _ _ _ (by simp))
  have CA0 := hid (hA.below BL0.out)
  have W0 := hid hw0
  have HC := hid hC
  have HBB := hid hB
  have HSS := hid hs
  have HTT := hid ht
  have b1 := hC.st
  have b2 := hC.de
  have b3 := hC.ca
  have b4 := hs.ti
  have b5 := hs.wa
  have b6 := hs.so
  have b7 := ht.he
  clear hC hB hs ht hA hw0
  go_enter Try.func146, Try.ntmps146
  go_wp2_with fail
  rw [← W0.out]
  refine wp_region_below (by kernel_rfl) (by kernel_rfl) ?_
  repeat (first | (refine wpQuiet_load_cell rfl 22 _ rfl ⟨(w.heap.size + 1 + 1), 1, none⟩ rfl (.float .f32 t.gu) _ (fun wx hwx => (TA0.out.below hwx.out).gu) Try.underlying22 rfl ?_) | (refine wpQuiet_load_cell rfl 22 _ rfl ⟨c, 2, none⟩ rfl (.float .f32 C.wi) _ (fun wx hwx => (CA0.out.below hwx.out).wi) Try.underlying22 rfl ?_) | (refine wpQuiet_step (fun K hK => ?_); go_simp; first | (refine hK _ ?_; clear hK K) | (refine ⟨_, fun _ _ => rfl, hK _ ?_⟩; clear hK K)))
  refine wpQuiet_nil ?_
  intro w1 h1
  replace h1 := h1.out
  have HB1 := hid ((h1.block _ (block_lt HB0.out)).trans HB0.out)
  have HS1 := hid ((h1.block _ (block_lt HS0.out)).trans HS0.out)
  have HR1 := hid ((h1.block _ (block_lt HR0.out)).trans HR0.out)
  have CA1 := hid (CA0.out.below h1)
  have TA1 := hid (TA0.out.below h1)
  have BL1 := hid (below_trans BL0.out h1 BL0.out.size)
  clear h1
  have c0 := CA1.out.lo
  have c1 := CA1.out.hi
  have c2 := CA1.out.wi
  have c3 := CA1.out.st
  have c4 := CA1.out.de
  have c5 := CA1.out.ca
  have t0 := TA1.out.li
  have t1 := TA1.out.gu
  have t2 := TA1.out.he
  simp only [Nat.zero_add] at t1 t2
  have s0 := cell_of_row _ (w.heap.size + 1) 0 _ _ _ HS1.out
  have f0 := frozen_of_row w1 (w.heap.size + 1) 0 _ _ HS1.out
  have s1 := cell_of_row _ (w.heap.size + 1) 1 _ _ _ HS1.out
  have f1 := frozen_of_row w1 (w.heap.size + 1) 1 _ _ HS1.out
  have s2 := cell_of_row _ (w.heap.size + 1) 2 _ _ _ HS1.out
  have f2 := frozen_of_row w1 (w.heap.size + 1) 2 _ _ HS1.out
  simp only [stcells] at s0 s1 s2
  replace s0 : w1.cell? ⟨w.heap.size + 1, 0, none⟩ = some (.int .i16 s.ti) := s0
  replace s1 : w1.cell? ⟨w.heap.size + 1, 1, none⟩ = some (.int .i8 s.wa) := s1
  replace s2 : w1.cell? ⟨w.heap.size + 1, 2, none⟩ = some (.int .i8 s.so) := s2
  go_wp2_with fail
  clear c0 c1 c2 c3 c4 c5 t0 t1 t2 s0 s1 s2 f0 f1 f2
  clear d0
  refine wp_region_below (by kernel_rfl) (by kernel_rfl) ?_
  repeat (first | (refine wpQuiet_load_cell rfl 22 _ rfl ⟨(w.heap.size + 1 + 1), 0, none⟩ rfl (.float .f32 t.li) _ (fun wx hwx => (TA1.out.below hwx.out).li) Try.underlying22 rfl ?_) | (refine wpQuiet_load_row rfl 37 _ rfl (w.heap.size) rfl 37 (bcells B) (0, 0) _ (fun wx hwx => (hwx.out.block _ (block_lt HB1.out)).trans HB1.out) Try.underlying37 rfl HZB.out ?_) | (refine wpQuiet_load_cell rfl 26 _ rfl ⟨w.heap.size + 1, 0, none⟩ rfl (.int .i16 s.ti) _ (fun wx hwx => (cell_of_row _ (w.heap.size + 1) 0 _ _ _ ((hwx.out.block _ (block_lt HS1.out)).trans HS1.out))) Try.underlying26 rfl ?_) | (refine wpQuiet_load_cell rfl 23 _ rfl ⟨(w.heap.size + 1 + 1), 2, none⟩ rfl (.int .i8 t.he) _ (fun wx hwx => (TA1.out.below hwx.out).he) Try.underlying23 rfl ?_) | (refine wpQuiet_step (fun K hK => ?_); go_simp; first | (refine hK _ ?_; clear hK K) | (refine ⟨_, fun _ _ => rfl, hK _ ?_⟩; clear hK K) | (apply Exists.intro; refine ⟨fun wx hwx => ?_, hK _ ?_⟩; (first | (exact quiet_below hwx (CT.out _)) | (exact quiet_below hwx (CP.out _))); clear hK K)))
  refine wpQuiet_nil ?_
  intro w2 h2
  replace h2 := h2.out
  have HB2 := hid ((h2.block _ (block_lt HB1.out)).trans HB1.out)
  have HS2 := hid ((h2.block _ (block_lt HS1.out)).trans HS1.out)
  have HR2 := hid ((h2.block _ (block_lt HR1.out)).trans HR1.out)
  have CA2 := hid (CA1.out.below h2)
  have TA2 := hid (TA1.out.below h2)
  have BL2 := hid (below_trans BL1.out h2 BL1.out.size)
  clear h2
  have c0 := CA2.out.lo
  have c1 := CA2.out.hi
  have c2 := CA2.out.wi
  have c3 := CA2.out.st
  have c4 := CA2.out.de
  have c5 := CA2.out.ca
  have t0 := TA2.out.li
  have t1 := TA2.out.gu
  have t2 := TA2.out.he
  simp only [Nat.zero_add] at t1 t2
  have s0 := cell_of_row _ (w.heap.size + 1) 0 _ _ _ HS2.out
  have f0 := frozen_of_row w2 (w.heap.size + 1) 0 _ _ HS2.out
  have s1 := cell_of_row _ (w.heap.size + 1) 1 _ _ _ HS2.out
  have f1 := frozen_of_row w2 (w.heap.size + 1) 1 _ _ HS2.out
  have s2 := cell_of_row _ (w.heap.size + 1) 2 _ _ _ HS2.out
  have f2 := frozen_of_row w2 (w.heap.size + 1) 2 _ _ HS2.out
  simp only [stcells] at s0 s1 s2
  replace s0 : w2.cell? ⟨w.heap.size + 1, 0, none⟩ = some (.int .i16 s.ti) := s0
  replace s1 : w2.cell? ⟨w.heap.size + 1, 1, none⟩ = some (.int .i8 s.wa) := s1
  replace s2 : w2.cell? ⟨w.heap.size + 1, 2, none⟩ = some (.int .i8 s.so) := s2
  have r0 := (show w2.cell? ⟨w.heap.size + 1 + 1 + 1, 0, none⟩ = some (.int .i16 0) from cell_of_row _ (w.heap.size + 1 + 1 + 1) 0 _ _ _ HR2.out)
  have x0 := frozen_of_row w2 (w.heap.size + 1 + 1 + 1) 0 _ _ HR2.out
  have r1 := (show w2.cell? ⟨w.heap.size + 1 + 1 + 1, 1, none⟩ = some (.int .i8 0) from cell_of_row _ (w.heap.size + 1 + 1 + 1) 1 _ _ _ HR2.out)
  have x1 := frozen_of_row w2 (w.heap.size + 1 + 1 + 1) 1 _ _ HR2.out
  have r2 := (show w2.cell? ⟨w.heap.size + 1 + 1 + 1, 2, none⟩ = some (.int .i8 0) from cell_of_row _ (w.heap.size + 1 + 1 + 1) 2 _ _ _ HR2.out)
  have x2 := frozen_of_row w2 (w.heap.size + 1 + 1 + 1) 2 _ _ HR2.out
  go_wp2_with fail
  go_region
  go_wp2_with fail
  refine bodyPost_ret (v := .tuple #[.agg #[.int .i16 (-64), .int .i8 (s.wa), .int .i8 (s.so)], .float .f32 x, .bool false]) (by simp [results, Try.results146, go_sem, *]) rfl ⟨?_, (by repeat (first | exact ((((BL2.out.setCell (by simp <;> omega) _).setCell (by simp <;> omega) _).setCell (by simp <;> omega) _).setCell (by simp <;> omega) _) | apply Below.drew))⟩
  rw [EN.out, EX2.out, EU.out]; rfl
set_option maxHeartbeats 400000 in
theorem c_tick_bn (C : Ctl) (hC : OkC C) (B : Bld) (hB : OkB B) (s : Sta) (hs : OkS s) (t : Tck) (ht : OkT t) (c : Nat) (w : World) (hA : CtlAt w c C) (hg : fGt t.gu C.wi = false) (h1 : s.so = 0) (h2 : s.wa = 0) (h3 : fGt (lightW B s t) C.hi = false) (h4 : fLt (lightW B s t) C.lo = false) :
    Calls Try.prog 146 #[.pointer (some ⟨c, 0, none⟩), .agg (bcells B), .agg (stcells s), .agg (tcells t)] w fun e w' => e = .returned (.tuple #[.agg (stcells (nextW C B s t)), .float .f32 (inW C B s t), .bool (upW C s t)]) ∧ Below w.heap.size w w' := by
  have b0 := hC.st
  have ES : stormW C s t = s.so := by unfold stormW; rw [if_neg (by simp [hg])]; rw [if_neg (by omega)]
  have ET : turnW C s (lightW B s t) = s.ti := by unfold turnW; rw [if_neg (by simp [h3]), if_neg (by simp [h4])]
  have EN0 : nextW C B s t = ⟨s.ti, s.wa, s.so⟩ := by unfold nextW; rw [ES, if_neg (by omega), if_neg (by omega), ET, if_pos rfl]
  have EN := hid EN0
  have EX := hid (show inW C B s t = lightW B s t by unfold inW; rw [ES, if_neg (by omega)])
  have EU := hid (show upW C s t = false by unfold upW; rw [ES]; exact decide_eq_false (by omega))
  clear ES EN0 b0 ET
  have hwr1 : IntKind.i64.wrap s.ti = s.ti := by have := hs.ti; rw [IntWalk.i64_in] <;> omega
  have hwr2 : IntKind.i64.wrap t.he = t.he := by have := ht.he; rw [IntWalk.i64_in] <;> omega
  have CP := hid (fun w => c_pass (tiltB B s.ti) (hB.tilt hs.ti.1 hs.ti.2) t.he ht.he.1 ht.he.2 w)
  have CT := hid (fun w => c_tilted B s.ti hs.ti w)
  have ra := fun wx => run_mul (T := 22) ht.li.fin (pass_fin (hB.tilt hs.ti.1 hs.ti.2) ht.he.1 ht.he.2).all.fin wx
  have LX := hid (show lightW B s t = fmul t.li (passW (tiltB B s.ti) t.he) from rfl)
  rw [LX.out] at h3
  have g3 := (show (FloatKind.f32.format.order (fmul t.li (passW (tiltB B s.ti) t.he)) C.hi == some .gt) = false from h3)
  rw [LX.out] at h4
  have g4 := (show (FloatKind.f32.format.order (fmul t.li (passW (tiltB B s.ti) t.he)) C.lo == some .lt) = false from h4)
  generalize passW (tiltB B s.ti) t.he = pz at *
  generalize hxx : fmul t.li pz = x at *
  have XX := hid hxx
  have EX2 := hid (EX.out.trans LX.out)
  clear hxx
  have d0 : ¬ 0 < s.so := by omega
  have d9 : ¬ 0 < s.wa := by omega
  have H1 := hid h1
  clear h1
  have H2 := hid h2
  clear h2
  have g0 := (show (FloatKind.f32.format.order t.gu C.wi == some .gt) = false from hg)
  have HZB := hid (size_blind B)
  have CL := hid hA.lt
  obtain ⟨w0, hw0⟩ : ∃ w0, w0 = ((((w.alloc (.cells (bcells B) 37)).alloc (.cells (stcells s) 39)).alloc (.cells (tcells t) 110)).alloc (.cells #[.int .i16 0, .int .i8 0, .int .i8 0] 39)) := ⟨_, rfl⟩
  have BL0 : Hid (Below w.heap.size w w0) := hid (by rw [hw0]; exact ((((Below.refl _ _).alloc (Nat.le_refl _) _).alloc (by simp) _).alloc (by simp; omega) _).alloc (by simp; omega) _)
  have HB0 : Hid (w0.heap[w.heap.size]? = some (.cells (bcells B) 37 (0, 0))) := hid (by rw [hw0]; exact (blk_past _ _ _ (by simp <;> omega)).trans ((blk_past _ _ _ (by simp <;> omega)).trans ((blk_past _ _ _ (by simp <;> omega)).trans (blk_at _ _ _ rfl))))
  have HS0 : Hid (w0.heap[w.heap.size + 1]? = some (.cells (stcells s) 39 (0, 0))) := hid (by rw [hw0]; exact (blk_past _ _ _ (by simp <;> omega)).trans ((blk_past _ _ _ (by simp <;> omega)).trans (blk_at _ _ _ (by simp))))
  have TA0 : Hid (TckAt w0 (w.heap.size + 1 + 1) 0 t) := hid (TckAt.of_block (T := 110) (by rw [hw0]; exact (blk_past _ _ _ (by simp <;> omega)).trans (blk_at _ _ _ (by simp))))
  have HR0 : Hid (w0.heap[w.heap.size + 1 + 1 + 1]? = some (.cells zSt 39 (0, 0))) := hid (by rw [hw0]; exact blk_at _ _ _ (by simp))
  have CA0 := hid (hA.below BL0.out)
  have W0 := hid hw0
  have HC := hid hC
  have HBB := hid hB
  have HSS := hid hs
  have HTT := hid ht
  have b1 := hC.st
  have b2 := hC.de
  have b3 := hC.ca
  have b4 := hs.ti
  have b5 := hs.wa
  have b6 := hs.so
  have b7 := ht.he
  clear hC hB hs ht hA hw0
  go_enter Try.func146, Try.ntmps146
  go_wp2_with fail
  rw [← W0.out]
  refine wp_region_below (by kernel_rfl) (by kernel_rfl) ?_
  repeat (first | (refine wpQuiet_load_cell rfl 22 _ rfl ⟨(w.heap.size + 1 + 1), 1, none⟩ rfl (.float .f32 t.gu) _ (fun wx hwx => (TA0.out.below hwx.out).gu) Try.underlying22 rfl ?_) | (refine wpQuiet_load_cell rfl 22 _ rfl ⟨c, 2, none⟩ rfl (.float .f32 C.wi) _ (fun wx hwx => (CA0.out.below hwx.out).wi) Try.underlying22 rfl ?_) | (refine wpQuiet_step (fun K hK => ?_); go_simp; first | (refine hK _ ?_; clear hK K) | (refine ⟨_, fun _ _ => rfl, hK _ ?_⟩; clear hK K)))
  refine wpQuiet_nil ?_
  intro w1 h1
  replace h1 := h1.out
  have HB1 := hid ((h1.block _ (block_lt HB0.out)).trans HB0.out)
  have HS1 := hid ((h1.block _ (block_lt HS0.out)).trans HS0.out)
  have HR1 := hid ((h1.block _ (block_lt HR0.out)).trans HR0.out)
  have CA1 := hid (CA0.out.below h1)
  have TA1 := hid (TA0.out.below h1)
  have BL1 := hid (below_trans BL0.out h1 BL0.out.size)
  clear h1
  have c0 := CA1.out.lo
  have c1 := CA1.out.hi
  have c2 := CA1.out.wi
  have c3 := CA1.out.st
  have c4 := CA1.out.de
  have c5 := CA1.out.ca
  have t0 := TA1.out.li
  have t1 := TA1.out.gu
  have t2 := TA1.out.he
  simp only [Nat.zero_add] at t1 t2
  have s0 := cell_of_row _ (w.heap.size + 1) 0 _ _ _ HS1.out
  have f0 := frozen_of_row w1 (w.heap.size + 1) 0 _ _ HS1.out
  have s1 := cell_of_row _ (w.heap.size + 1) 1 _ _ _ HS1.out
  have f1 := frozen_of_row w1 (w.heap.size + 1) 1 _ _ HS1.out
  have s2 := cell_of_row _ (w.heap.size + 1) 2 _ _ _ HS1.out
  have f2 := frozen_of_row w1 (w.heap.size + 1) 2 _ _ HS1.out
  simp only [stcells] at s0 s1 s2
  replace s0 : w1.cell? ⟨w.heap.size + 1, 0, none⟩ = some (.int .i16 s.ti) := s0
  replace s1 : w1.cell? ⟨w.heap.size + 1, 1, none⟩ = some (.int .i8 s.wa) := s1
  replace s2 : w1.cell? ⟨w.heap.size + 1, 2, none⟩ = some (.int .i8 s.so) := s2
  go_wp2_with fail
  clear c0 c1 c2 c3 c4 c5 t0 t1 t2 s0 s1 s2 f0 f1 f2
  clear d0
  refine wp_region_below (by kernel_rfl) (by kernel_rfl) ?_
  repeat (first | (refine wpQuiet_load_cell rfl 22 _ rfl ⟨(w.heap.size + 1 + 1), 0, none⟩ rfl (.float .f32 t.li) _ (fun wx hwx => (TA1.out.below hwx.out).li) Try.underlying22 rfl ?_) | (refine wpQuiet_load_row rfl 37 _ rfl (w.heap.size) rfl 37 (bcells B) (0, 0) _ (fun wx hwx => (hwx.out.block _ (block_lt HB1.out)).trans HB1.out) Try.underlying37 rfl HZB.out ?_) | (refine wpQuiet_load_cell rfl 26 _ rfl ⟨w.heap.size + 1, 0, none⟩ rfl (.int .i16 s.ti) _ (fun wx hwx => (cell_of_row _ (w.heap.size + 1) 0 _ _ _ ((hwx.out.block _ (block_lt HS1.out)).trans HS1.out))) Try.underlying26 rfl ?_) | (refine wpQuiet_load_cell rfl 23 _ rfl ⟨(w.heap.size + 1 + 1), 2, none⟩ rfl (.int .i8 t.he) _ (fun wx hwx => (TA1.out.below hwx.out).he) Try.underlying23 rfl ?_) | (refine wpQuiet_step (fun K hK => ?_); go_simp; first | (refine hK _ ?_; clear hK K) | (refine ⟨_, fun _ _ => rfl, hK _ ?_⟩; clear hK K) | (apply Exists.intro; refine ⟨fun wx hwx => ?_, hK _ ?_⟩; (first | (exact quiet_below hwx (CT.out _)) | (exact quiet_below hwx (CP.out _))); clear hK K)))
  refine wpQuiet_nil ?_
  intro w2 h2
  replace h2 := h2.out
  have HB2 := hid ((h2.block _ (block_lt HB1.out)).trans HB1.out)
  have HS2 := hid ((h2.block _ (block_lt HS1.out)).trans HS1.out)
  have HR2 := hid ((h2.block _ (block_lt HR1.out)).trans HR1.out)
  have CA2 := hid (CA1.out.below h2)
  have TA2 := hid (TA1.out.below h2)
  have BL2 := hid (below_trans BL1.out h2 BL1.out.size)
  clear h2
  have c0 := CA2.out.lo
  have c1 := CA2.out.hi
  have c2 := CA2.out.wi
  have c3 := CA2.out.st
  have c4 := CA2.out.de
  have c5 := CA2.out.ca
  have t0 := TA2.out.li
  have t1 := TA2.out.gu
  have t2 := TA2.out.he
  simp only [Nat.zero_add] at t1 t2
  have s0 := cell_of_row _ (w.heap.size + 1) 0 _ _ _ HS2.out
  have f0 := frozen_of_row w2 (w.heap.size + 1) 0 _ _ HS2.out
  have s1 := cell_of_row _ (w.heap.size + 1) 1 _ _ _ HS2.out
  have f1 := frozen_of_row w2 (w.heap.size + 1) 1 _ _ HS2.out
  have s2 := cell_of_row _ (w.heap.size + 1) 2 _ _ _ HS2.out
  have f2 := frozen_of_row w2 (w.heap.size + 1) 2 _ _ HS2.out
  simp only [stcells] at s0 s1 s2
  replace s0 : w2.cell? ⟨w.heap.size + 1, 0, none⟩ = some (.int .i16 s.ti) := s0
  replace s1 : w2.cell? ⟨w.heap.size + 1, 1, none⟩ = some (.int .i8 s.wa) := s1
  replace s2 : w2.cell? ⟨w.heap.size + 1, 2, none⟩ = some (.int .i8 s.so) := s2
  have r0 := (show w2.cell? ⟨w.heap.size + 1 + 1 + 1, 0, none⟩ = some (.int .i16 0) from cell_of_row _ (w.heap.size + 1 + 1 + 1) 0 _ _ _ HR2.out)
  have x0 := frozen_of_row w2 (w.heap.size + 1 + 1 + 1) 0 _ _ HR2.out
  have r1 := (show w2.cell? ⟨w.heap.size + 1 + 1 + 1, 1, none⟩ = some (.int .i8 0) from cell_of_row _ (w.heap.size + 1 + 1 + 1) 1 _ _ _ HR2.out)
  have x1 := frozen_of_row w2 (w.heap.size + 1 + 1 + 1) 1 _ _ HR2.out
  have r2 := (show w2.cell? ⟨w.heap.size + 1 + 1 + 1, 2, none⟩ = some (.int .i8 0) from cell_of_row _ (w.heap.size + 1 + 1 + 1) 2 _ _ _ HR2.out)
  have x2 := frozen_of_row w2 (w.heap.size + 1 + 1 + 1) 2 _ _ HR2.out
  go_wp2_with fail
  refine bodyPost_ret (v := .tuple #[.agg #[.int .i16 (s.ti), .int .i8 (s.wa), .int .i8 (s.so)], .float .f32 x, .bool false]) (by simp [results, Try.results146, go_sem, *]) rfl ⟨?_, (((BL2.out.setCell (by simp <;> omega) _).setCell (by simp <;> omega) _).setCell (by simp <;> omega) _)⟩
  rw [EN.out, EX2.out, EU.out]; rfl
end Go.Proofs.Ytmjmgfojdomhlaa
