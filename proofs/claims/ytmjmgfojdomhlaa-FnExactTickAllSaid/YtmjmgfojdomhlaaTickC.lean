/- Ways through a tick without a storm. -/
import Derived.Test.YtmjmgfojdomhlaaTickW
namespace Go.Proofs.Ytmjmgfojdomhlaa
set_option maxRecDepth 20000
open Go.RowKit
set_option maxHeartbeats 400000 in
theorem c_once_aw (C : Ctl) (hC : OkC C) (B : Bld) (hB : OkB B) (s : Sta) (hs : OkS s) (t : Tck) (ht : OkT t) (c b o : Nat) (w : World) (hA : CtlAt w c C) (hT : TckAt w b o t) (hg : fGt t.gu C.wi = false) (h1 : s.so = 1) (h2 : 0 < s.wa) :
    Calls Try.prog 67 #[.pointer (some ⟨c, 0, none⟩), .agg (bcells B), .agg (stcells s), .pointer (some ⟨b, o, none⟩)] w fun e w' => e = .returned (.tuple #[.agg (stcells (nextW C B s t)), .float .f32 (inW C B s t)]) ∧ Below w.heap.size w w' := by
  have b0 := hC.st
  have ES : stormW C s t = s.so - 1 := by unfold stormW; rw [if_neg (by simp [hg])]; rw [if_pos (by omega)]
  have EN0 : nextW C B s t = ⟨s.ti, s.wa - 1, s.so - 1⟩ := by unfold nextW; rw [ES, if_neg (by omega), if_pos h2]
  have EN := hid EN0
  have EX := hid (show inW C B s t = lightW B s t by unfold inW; rw [ES, if_neg (by omega)])
  have EU := hid (show upW C s t = false by unfold upW; rw [ES]; exact decide_eq_false (by omega))
  clear ES EN0 b0
  have hwr1 : IntKind.i64.wrap s.ti = s.ti := by have := hs.ti; rw [IntWalk.i64_in] <;> omega
  have hwr2 : IntKind.i64.wrap t.he = t.he := by have := ht.he; rw [IntWalk.i64_in] <;> omega
  have CP := hid (fun w => fun b hA => c_l02Pass (tiltB B s.ti) (hB.tilt hs.ti.1 hs.ti.2) t.he ht.he.1 ht.he.2 b 0 w hA)
  have ra := fun wx => run_mul (T := 22) ht.li.fin (pass_fin (hB.tilt hs.ti.1 hs.ti.2) ht.he.1 ht.he.2).all.fin wx
  have LX := hid (show lightW B s t = fmul t.li (passW (tiltB B s.ti) t.he) from rfl)
  generalize passW (tiltB B s.ti) t.he = pz at *
  generalize hxx : fmul t.li pz = x at *
  have XX := hid hxx
  have EX2 := hid (EX.out.trans LX.out)
  clear hxx
  have d0 : 0 < s.so := by omega
  have d1 : ¬ 0 < s.so - 1 := by omega
  have d3 : ¬ 1 < s.so := by omega
  have d9 : 0 < s.wa := by omega
  have H1 := hid h1
  clear h1
  have g0 := (show (FloatKind.f32.format.order t.gu C.wi == some .gt) = false from hg)
  have HZB := hid (size_blind B)
  have CL := hid hA.lt
  have TL := hid hT.lt
  obtain ⟨w0, hw0⟩ : ∃ w0, w0 = (((w.alloc (.cells (bcells B) 37)).alloc (.cells (stcells s) 39)).alloc (.cells #[.int .i16 0, .int .i8 0, .int .i8 0] 39)) := ⟨_, rfl⟩
  have BL0 : Hid (Below w.heap.size w w0) := hid (by rw [hw0]; exact (((Below.refl _ _).alloc (Nat.le_refl _) _).alloc (by simp) _).alloc (by simp; omega) _)
  have HB0 : Hid (w0.heap[w.heap.size]? = some (.cells (bcells B) 37 (0, 0))) := hid (by rw [hw0]; exact (blk_past _ _ _ (by simp <;> omega)).trans ((blk_past _ _ _ (by simp <;> omega)).trans (blk_at _ _ _ rfl)))
  have HS0 : Hid (w0.heap[w.heap.size + 1]? = some (.cells (stcells s) 39 (0, 0))) := hid (by rw [hw0]; exact (blk_past _ _ _ (by simp <;> omega)).trans (blk_at _ _ _ (by simp)))
  have TA0 := hid (hT.below BL0.out)
  have HR0 : Hid (w0.heap[w.heap.size + 1 + 1]? = some (.cells zSt 39 (0, 0))) := hid (by rw [hw0]; exact blk_at _ _ _ (by simp))
  have CA0 := hid (hA.below BL0.out)
  have W0 := hid hw0
  have HC := hid hC
  have HBB := hid hB
  have HSS := hid hs
  have HTT := hid ht
  have b1 := hC.st
  have b2 := hC.de
  have b3 := hC.ca
  have b4 := hs.ti
  have b5 := hs.wa
  have b6 := hs.so
  have b7 := ht.he
  clear hC hB hs ht hA hw0 hT
  go_enter Try.func67, Try.ntmps67
  go_wp2_with fail
  rw [← W0.out]
  refine wp_region_below (by kernel_rfl) (by kernel_rfl) ?_
  repeat (first | (refine wpQuiet_load_cell rfl 22 _ rfl ⟨b, o + 1, none⟩ rfl (.float .f32 t.gu) _ (fun wx hwx => (TA0.out.below hwx.out).gu) Try.underlying22 rfl ?_) | (refine wpQuiet_load_cell rfl 22 _ rfl ⟨c, 2, none⟩ rfl (.float .f32 C.wi) _ (fun wx hwx => (CA0.out.below hwx.out).wi) Try.underlying22 rfl ?_) | (refine wpQuiet_step (fun K hK => ?_); go_simp; first | (refine hK _ ?_; clear hK K) | (refine ⟨_, fun _ _ => rfl, hK _ ?_⟩; clear hK K)))
  refine wpQuiet_nil ?_
  intro w1 h1
  replace h1 := h1.out
  have HB1 := hid ((h1.block _ (block_lt HB0.out)).trans HB0.out)
  have HS1 := hid ((h1.block _ (block_lt HS0.out)).trans HS0.out)
  have HR1 := hid ((h1.block _ (block_lt HR0.out)).trans HR0.out)
  have CA1 := hid (CA0.out.below h1)
  have TA1 := hid (TA0.out.below h1)
  have BL1 := hid (below_trans BL0.out h1 BL0.out.size)
  clear h1
  have c0 := CA1.out.lo
  have c1 := CA1.out.hi
  have c2 := CA1.out.wi
  have c3 := CA1.out.st
  have c4 := CA1.out.de
  have c5 := CA1.out.ca
  have t0 := TA1.out.li
  have t1 := TA1.out.gu
  have t2 := TA1.out.he
  have s0 := cell_of_row _ (w.heap.size + 1) 0 _ _ _ HS1.out
  have f0 := frozen_of_row w1 (w.heap.size + 1) 0 _ _ HS1.out
  have s1 := cell_of_row _ (w.heap.size + 1) 1 _ _ _ HS1.out
  have f1 := frozen_of_row w1 (w.heap.size + 1) 1 _ _ HS1.out
  have s2 := cell_of_row _ (w.heap.size + 1) 2 _ _ _ HS1.out
  have f2 := frozen_of_row w1 (w.heap.size + 1) 2 _ _ HS1.out
  simp only [stcells] at s0 s1 s2
  replace s0 : w1.cell? ⟨w.heap.size + 1, 0, none⟩ = some (.int .i16 s.ti) := s0
  replace s1 : w1.cell? ⟨w.heap.size + 1, 1, none⟩ = some (.int .i8 s.wa) := s1
  replace s2 : w1.cell? ⟨w.heap.size + 1, 2, none⟩ = some (.int .i8 s.so) := s2
  have q3 := (show w1.cell? ⟨w.heap.size, 3, none⟩ = some (.int .i16 B.ti) from cell_of_row _ (w.heap.size) 3 _ _ _ HB1.out)
  have qf := frozen_of_row w1 (w.heap.size) 3 _ _ HB1.out
  obtain ⟨w2, hw2⟩ : ∃ w2, w2 = w1.setCell ⟨w.heap.size + 1, 2, none⟩ (.int .i8 (s.so - 1)) := ⟨_, rfl⟩
  have HB2 := hid (show w2.heap[w.heap.size]? = _ from hw2 ▸ blk_set HB1.out (by omega) _)
  have HS2 := hid (hw2 ▸ st_set2 HS1.out (s.so - 1))
  have HR2 := hid (show w2.heap[w.heap.size + 1 + 1]? = _ from hw2 ▸ blk_set HR1.out (by omega) _)
  have CA2 := hid (show CtlAt w2 c C from hw2 ▸ ctl_set CA1.out (by have := CL.out; omega) _)
  have TA2 := hid (show TckAt w2 b o t from hw2 ▸ tck_set TA1.out (by have := TL.out; omega) _)
  have BL2 := hid (show Below w.heap.size w w2 from hw2 ▸ BL1.out.setCell (by simp) _)
  have W2 := hid hw2
  clear hw2
  obtain ⟨w3, hw3⟩ : ∃ w3, w3 = w2.setCell ⟨w.heap.size, 3, none⟩ (.int .i16 s.ti) := ⟨_, rfl⟩
  have HB3 : Hid (w3.heap[w.heap.size]? = some (.cells (bcells (tiltB B s.ti)) 37 (0, 0))) := hid (hw3 ▸ heap_setCell_same w2 (w.heap.size) 3 _ _ _ HB2.out)
  have HS3 := hid (show w3.heap[w.heap.size + 1]? = _ from hw3 ▸ blk_set HS2.out (by omega) _)
  have HR3 := hid (show w3.heap[w.heap.size + 1 + 1]? = _ from hw3 ▸ blk_set HR2.out (by omega) _)
  have CA3 := hid (show CtlAt w3 c C from hw3 ▸ ctl_set CA2.out (by have := CL.out; omega) _)
  have TA3 := hid (show TckAt w3 b o t from hw3 ▸ tck_set TA2.out (by have := TL.out; omega) _)
  have BL3 := hid (show Below w.heap.size w w3 from hw3 ▸ BL2.out.setCell (by simp) _)
  have W3 := hid hw3
  clear hw3
  go_wp2_with fail
  rw [← W2.out, ← W3.out]
  clear c0 c1 c2 c3 c4 c5 t0 t1 t2 s0 s1 s2 f0 f1 f2
  clear q3 qf d0 d1 d3
  refine wp_region_below (by kernel_rfl) (by kernel_rfl) ?_
  repeat (first | (refine wpQuiet_load_cell rfl 22 _ rfl ⟨b, o, none⟩ rfl (.float .f32 t.li) _ (fun wx hwx => (TA3.out.below hwx.out).li) Try.underlying22 rfl ?_) | (refine wpQuiet_load_cell rfl 23 _ rfl ⟨b, o + 2, none⟩ rfl (.int .i8 t.he) _ (fun wx hwx => (TA3.out.below hwx.out).he) Try.underlying23 rfl ?_) | (refine wpQuiet_step (fun K hK => ?_); go_simp; first | (refine hK _ ?_; clear hK K) | (refine ⟨_, fun _ _ => rfl, hK _ ?_⟩; clear hK K) | (apply Exists.intro; refine ⟨fun wx hwx => ?_, hK _ ?_⟩; (first | (exact quiet_below hwx (CP.out _ _ (BldAt.of_block ((hwx.out.block _ (block_lt HB3.out)).trans HB3.out))))); clear hK K)))
  refine wpQuiet_nil ?_
  intro w4 h4
  replace h4 := h4.out
  have HB4 := hid ((h4.block _ (block_lt HB3.out)).trans HB3.out)
  have HS4 := hid ((h4.block _ (block_lt HS3.out)).trans HS3.out)
  have HR4 := hid ((h4.block _ (block_lt HR3.out)).trans HR3.out)
  have CA4 := hid (CA3.out.below h4)
  have TA4 := hid (TA3.out.below h4)
  have BL4 := hid (below_trans BL3.out h4 BL3.out.size)
  clear h4
  have c0 := CA4.out.lo
  have c1 := CA4.out.hi
  have c2 := CA4.out.wi
  have c3 := CA4.out.st
  have c4 := CA4.out.de
  have c5 := CA4.out.ca
  have t0 := TA4.out.li
  have t1 := TA4.out.gu
  have t2 := TA4.out.he
  have s0 := cell_of_row _ (w.heap.size + 1) 0 _ _ _ HS4.out
  have f0 := frozen_of_row w4 (w.heap.size + 1) 0 _ _ HS4.out
  have s1 := cell_of_row _ (w.heap.size + 1) 1 _ _ _ HS4.out
  have f1 := frozen_of_row w4 (w.heap.size + 1) 1 _ _ HS4.out
  have s2 := cell_of_row _ (w.heap.size + 1) 2 _ _ _ HS4.out
  have f2 := frozen_of_row w4 (w.heap.size + 1) 2 _ _ HS4.out
  simp only [stcells] at s0 s1 s2
  replace s0 : w4.cell? ⟨w.heap.size + 1, 0, none⟩ = some (.int .i16 s.ti) := s0
  replace s1 : w4.cell? ⟨w.heap.size + 1, 1, none⟩ = some (.int .i8 s.wa) := s1
  replace s2 : w4.cell? ⟨w.heap.size + 1, 2, none⟩ = some (.int .i8 (s.so - 1)) := s2
  have r0 := (show w4.cell? ⟨w.heap.size + 1 + 1, 0, none⟩ = some (.int .i16 0) from cell_of_row _ (w.heap.size + 1 + 1) 0 _ _ _ HR4.out)
  have x0 := frozen_of_row w4 (w.heap.size + 1 + 1) 0 _ _ HR4.out
  have r1 := (show w4.cell? ⟨w.heap.size + 1 + 1, 1, none⟩ = some (.int .i8 0) from cell_of_row _ (w.heap.size + 1 + 1) 1 _ _ _ HR4.out)
  have x1 := frozen_of_row w4 (w.heap.size + 1 + 1) 1 _ _ HR4.out
  have r2 := (show w4.cell? ⟨w.heap.size + 1 + 1, 2, none⟩ = some (.int .i8 0) from cell_of_row _ (w.heap.size + 1 + 1) 2 _ _ _ HR4.out)
  have x2 := frozen_of_row w4 (w.heap.size + 1 + 1) 2 _ _ HR4.out
  go_wp2_with fail
  refine bodyPost_ret (v := .tuple #[.agg #[.int .i16 (s.ti), .int .i8 (s.wa - 1), .int .i8 (s.so - 1)], .float .f32 x]) (by simp [results, Try.results67, go_sem, *]) rfl ⟨?_, ((((BL4.out.setCell (by simp <;> omega) _).setCell (by simp <;> omega) _).setCell (by simp <;> omega) _).setCell (by simp <;> omega) _)⟩
  rw [EN.out, EX2.out]; rfl
set_option maxHeartbeats 400000 in
theorem c_once_ah1 (C : Ctl) (hC : OkC C) (B : Bld) (hB : OkB B) (s : Sta) (hs : OkS s) (t : Tck) (ht : OkT t) (c b o : Nat) (w : World) (hA : CtlAt w c C) (hT : TckAt w b o t) (hg : fGt t.gu C.wi = false) (h1 : s.so = 1) (h2 : s.wa = 0) (h3 : fGt (lightW B s t) C.hi = true) (h4 : s.ti + C.st ≤ 64) :
    Calls Try.prog 67 #[.pointer (some ⟨c, 0, none⟩), .agg (bcells B), .agg (stcells s), .pointer (some ⟨b, o, none⟩)] w fun e w' => e = .returned (.tuple #[.agg (stcells (nextW C B s t)), .float .f32 (inW C B s t)]) ∧ Below w.heap.size w w' := by
  have b0 := hC.st
  have ES : stormW C s t = s.so - 1 := by unfold stormW; rw [if_neg (by simp [hg])]; rw [if_pos (by omega)]
  have ET : turnW C s (lightW B s t) = s.ti + C.st := by unfold turnW; rw [if_pos h3]; omega
  have ENE : ¬ s.ti + C.st = s.ti := by omega
  have EN0 : nextW C B s t = ⟨s.ti + C.st, C.de, s.so - 1⟩ := by unfold nextW; rw [ES, if_neg (by omega), if_neg (by omega), ET, if_neg ENE]
  have CM := hid (fun w => show Calls Try.prog 139 #[.int .i64 64, .int .i64 (s.ti + C.st)] w fun e w' => e = .returned (.int .i64 (s.ti + C.st)) ∧ w = w' from by have := c_minT 64 (s.ti + C.st) w; rwa [show min 64 (s.ti + C.st) = s.ti + C.st by omega] at this)
  have hne : (s.ti + C.st != s.ti) = true := by rw [bne_iff_ne]; exact ENE
  have EN := hid EN0
  have EX := hid (show inW C B s t = lightW B s t by unfold inW; rw [ES, if_neg (by omega)])
  have EU := hid (show upW C s t = false by unfold upW; rw [ES]; exact decide_eq_false (by omega))
  clear ES EN0 b0 ET ENE
  have hwr1 : IntKind.i64.wrap s.ti = s.ti := by have := hs.ti; rw [IntWalk.i64_in] <;> omega
  have hwr2 : IntKind.i64.wrap t.he = t.he := by have := ht.he; rw [IntWalk.i64_in] <;> omega
  have CP := hid (fun w => fun b hA => c_l02Pass (tiltB B s.ti) (hB.tilt hs.ti.1 hs.ti.2) t.he ht.he.1 ht.he.2 b 0 w hA)
  have ra := fun wx => run_mul (T := 22) ht.li.fin (pass_fin (hB.tilt hs.ti.1 hs.ti.2) ht.he.1 ht.he.2).all.fin wx
  have LX := hid (show lightW B s t = fmul t.li (passW (tiltB B s.ti) t.he) from rfl)
  rw [LX.out] at h3
  have g3 := (show (FloatKind.f32.format.order (fmul t.li (passW (tiltB B s.ti) t.he)) C.hi == some .gt) = true from h3)
  generalize passW (tiltB B s.ti) t.he = pz at *
  generalize hxx : fmul t.li pz = x at *
  have XX := hid hxx
  have EX2 := hid (EX.out.trans LX.out)
  clear hxx
  have d0 : 0 < s.so := by omega
  have d1 : ¬ 0 < s.so - 1 := by omega
  have d3 : ¬ 1 < s.so := by omega
  have d9 : ¬ 0 < s.wa := by omega
  have H1 := hid h1
  clear h1
  have H2 := hid h2
  clear h2
  have m1 : ¬ 64 < s.ti + C.st := by omega
  have g0 := (show (FloatKind.f32.format.order t.gu C.wi == some .gt) = false from hg)
  have HZB := hid (size_blind B)
  have CL := hid hA.lt
  have TL := hid hT.lt
  obtain ⟨w0, hw0⟩ : ∃ w0, w0 = (((w.alloc (.cells (bcells B) 37)).alloc (.cells (stcells s) 39)).alloc (.cells #[.int .i16 0, .int .i8 0, .int .i8 0] 39)) := ⟨_, rfl⟩
  have BL0 : Hid (Below w.heap.size w w0) := hid (by rw [hw0]; exact (((Below.refl _ _).alloc (Nat.le_refl _) _).alloc (by simp) _).alloc (by simp; omega) _)
  have HB0 : Hid (w0.heap[w.heap.size]? = some (.cells (bcells B) 37 (0, 0))) := hid (by rw [hw0]; exact (blk_past _ _ _ (by simp <;> omega)).trans ((blk_past _ _ _ (by simp <;> omega)).trans (blk_at _ _ _ rfl)))
  have HS0 : Hid (w0.heap[w.heap.size + 1]? = some (.cells (stcells s) 39 (0, 0))) := hid (by rw [hw0]; exact (blk_past _ _ _ (by simp <;> omega)).trans (blk_at _ _ _ (by simp)))
  have TA0 := hid (hT.below BL0.out)
  have HR0 : Hid (w0.heap[w.heap.size + 1 + 1]? = some (.cells zSt 39 (0, 0))) := hid (by rw [hw0]; exact blk_at _ _ _ (by simp))
  have CA0 := hid (hA.below BL0.out)
  have W0 := hid hw0
  have HC := hid hC
  have HBB := hid hB
  have HSS := hid hs
  have HTT := hid ht
  have b1 := hC.st
  have b2 := hC.de
  have b3 := hC.ca
  have b4 := hs.ti
  have b5 := hs.wa
  have b6 := hs.so
  have b7 := ht.he
  clear hC hB hs ht hA hw0 hT
  go_enter Try.func67, Try.ntmps67
  go_wp2_with fail
  rw [← W0.out]
  refine wp_region_below (by kernel_rfl) (by kernel_rfl) ?_
  repeat (first | (refine wpQuiet_load_cell rfl 22 _ rfl ⟨b, o + 1, none⟩ rfl (.float .f32 t.gu) _ (fun wx hwx => (TA0.out.below hwx.out).gu) Try.underlying22 rfl ?_) | (refine wpQuiet_load_cell rfl 22 _ rfl ⟨c, 2, none⟩ rfl (.float .f32 C.wi) _ (fun wx hwx => (CA0.out.below hwx.out).wi) Try.underlying22 rfl ?_) | (refine wpQuiet_step (fun K hK => ?_); go_simp; first | (refine hK _ ?_; clear hK K) | (refine ⟨_, fun _ _ => rfl, hK _ ?_⟩; clear hK K)))
  refine wpQuiet_nil ?_
  intro w1 h1
  replace h1 := h1.out
  have HB1 := hid ((h1.block _ (block_lt HB0.out)).trans HB0.out)
  have HS1 := hid ((h1.block _ (block_lt HS0.out)).trans HS0.out)
  have HR1 := hid ((h1.block _ (block_lt HR0.out)).trans HR0.out)
  have CA1 := hid (CA0.out.below h1)
  have TA1 := hid (TA0.out.below h1)
  have BL1 := hid (below_trans BL0.out h1 BL0.out.size)
  clear h1
  have c0 := CA1.out.lo
  have c1 := CA1.out.hi
  have c2 := CA1.out.wi
  have c3 := CA1.out.st
  have c4 := CA1.out.de
  have c5 := CA1.out.ca
  have t0 := TA1.out.li
  have t1 := TA1.out.gu
  have t2 := TA1.out.he
  have s0 := cell_of_row _ (w.heap.size + 1) 0 _ _ _ HS1.out
  have f0 := frozen_of_row w1 (w.heap.size + 1) 0 _ _ HS1.out
  have s1 := cell_of_row _ (w.heap.size + 1) 1 _ _ _ HS1.out
  have f1 := frozen_of_row w1 (w.heap.size + 1) 1 _ _ HS1.out
  have s2 := cell_of_row _ (w.heap.size + 1) 2 _ _ _ HS1.out
  have f2 := frozen_of_row w1 (w.heap.size + 1) 2 _ _ HS1.out
  simp only [stcells] at s0 s1 s2
  replace s0 : w1.cell? ⟨w.heap.size + 1, 0, none⟩ = some (.int .i16 s.ti) := s0
  replace s1 : w1.cell? ⟨w.heap.size + 1, 1, none⟩ = some (.int .i8 s.wa) := s1
  replace s2 : w1.cell? ⟨w.heap.size + 1, 2, none⟩ = some (.int .i8 s.so) := s2
  have q3 := (show w1.cell? ⟨w.heap.size, 3, none⟩ = some (.int .i16 B.ti) from cell_of_row _ (w.heap.size) 3 _ _ _ HB1.out)
  have qf := frozen_of_row w1 (w.heap.size) 3 _ _ HB1.out
  obtain ⟨w2, hw2⟩ : ∃ w2, w2 = w1.setCell ⟨w.heap.size + 1, 2, none⟩ (.int .i8 (s.so - 1)) := ⟨_, rfl⟩
  have HB2 := hid (show w2.heap[w.heap.size]? = _ from hw2 ▸ blk_set HB1.out (by omega) _)
  have HS2 := hid (hw2 ▸ st_set2 HS1.out (s.so - 1))
  have HR2 := hid (show w2.heap[w.heap.size + 1 + 1]? = _ from hw2 ▸ blk_set HR1.out (by omega) _)
  have CA2 := hid (show CtlAt w2 c C from hw2 ▸ ctl_set CA1.out (by have := CL.out; omega) _)
  have TA2 := hid (show TckAt w2 b o t from hw2 ▸ tck_set TA1.out (by have := TL.out; omega) _)
  have BL2 := hid (show Below w.heap.size w w2 from hw2 ▸ BL1.out.setCell (by simp) _)
  have W2 := hid hw2
  clear hw2
  obtain ⟨w3, hw3⟩ : ∃ w3, w3 = w2.setCell ⟨w.heap.size, 3, none⟩ (.int .i16 s.ti) := ⟨_, rfl⟩
  have HB3 : Hid (w3.heap[w.heap.size]? = some (.cells (bcells (tiltB B s.ti)) 37 (0, 0))) := hid (hw3 ▸ heap_setCell_same w2 (w.heap.size) 3 _ _ _ HB2.out)
  have HS3 := hid (show w3.heap[w.heap.size + 1]? = _ from hw3 ▸ blk_set HS2.out (by omega) _)
  have HR3 := hid (show w3.heap[w.heap.size + 1 + 1]? = _ from hw3 ▸ blk_set HR2.out (by omega) _)
  have CA3 := hid (show CtlAt w3 c C from hw3 ▸ ctl_set CA2.out (by have := CL.out; omega) _)
  have TA3 := hid (show TckAt w3 b o t from hw3 ▸ tck_set TA2.out (by have := TL.out; omega) _)
  have BL3 := hid (show Below w.heap.size w w3 from hw3 ▸ BL2.out.setCell (by simp) _)
  have W3 := hid hw3
  clear hw3
  go_wp2_with fail
  rw [← W2.out, ← W3.out]
  clear c0 c1 c2 c3 c4 c5 t0 t1 t2 s0 s1 s2 f0 f1 f2
  clear q3 qf d0 d1 d3
  refine wp_region_below (by kernel_rfl) (by kernel_rfl) ?_
  repeat (first | (refine wpQuiet_load_cell rfl 22 _ rfl ⟨b, o, none⟩ rfl (.float .f32 t.li) _ (fun wx hwx => (TA3.out.below hwx.out).li) Try.underlying22 rfl ?_) | (refine wpQuiet_load_cell rfl 23 _ rfl ⟨b, o + 2, none⟩ rfl (.int .i8 t.he) _ (fun wx hwx => (TA3.out.below hwx.out).he) Try.underlying23 rfl ?_) | (refine wpQuiet_step (fun K hK => ?_); go_simp; first | (refine hK _ ?_; clear hK K) | (refine ⟨_, fun _ _ => rfl, hK _ ?_⟩; clear hK K) | (apply Exists.intro; refine ⟨fun wx hwx => ?_, hK _ ?_⟩; (first | (exact quiet_below hwx (CP.out _ _ (BldAt.of_block ((hwx.out.block _ (block_lt HB3.out)).trans HB3.out))))); clear hK K)))
  refine wpQuiet_nil ?_
  intro w4 h4
  replace h4 := h4.out
  have HB4 := hid ((h4.block _ (block_lt HB3.out)).trans HB3.out)
  have HS4 := hid ((h4.block _ (block_lt HS3.out)).trans HS3.out)
  have HR4 := hid ((h4.block _ (block_lt HR3.out)).trans HR3.out)
  have CA4 := hid (CA3.out.below h4)
  have TA4 := hid (TA3.out.below h4)
  have BL4 := hid (below_trans BL3.out h4 BL3.out.size)
  clear h4
  have c0 := CA4.out.lo
  have c1 := CA4.out.hi
  have c2 := CA4.out.wi
  have c3 := CA4.out.st
  have c4 := CA4.out.de
  have c5 := CA4.out.ca
  have t0 := TA4.out.li
  have t1 := TA4.out.gu
  have t2 := TA4.out.he
  have s0 := cell_of_row _ (w.heap.size + 1) 0 _ _ _ HS4.out
  have f0 := frozen_of_row w4 (w.heap.size + 1) 0 _ _ HS4.out
  have s1 := cell_of_row _ (w.heap.size + 1) 1 _ _ _ HS4.out
  have f1 := frozen_of_row w4 (w.heap.size + 1) 1 _ _ HS4.out
  have s2 := cell_of_row _ (w.heap.size + 1) 2 _ _ _ HS4.out
  have f2 := frozen_of_row w4 (w.heap.size + 1) 2 _ _ HS4.out
  simp only [stcells] at s0 s1 s2
  replace s0 : w4.cell? ⟨w.heap.size + 1, 0, none⟩ = some (.int .i16 s.ti) := s0
  replace s1 : w4.cell? ⟨w.heap.size + 1, 1, none⟩ = some (.int .i8 s.wa) := s1
  replace s2 : w4.cell? ⟨w.heap.size + 1, 2, none⟩ = some (.int .i8 (s.so - 1)) := s2
  have r0 := (show w4.cell? ⟨w.heap.size + 1 + 1, 0, none⟩ = some (.int .i16 0) from cell_of_row _ (w.heap.size + 1 + 1) 0 _ _ _ HR4.out)
  have x0 := frozen_of_row w4 (w.heap.size + 1 + 1) 0 _ _ HR4.out
  have r1 := (show w4.cell? ⟨w.heap.size + 1 + 1, 1, none⟩ = some (.int .i8 0) from cell_of_row _ (w.heap.size + 1 + 1) 1 _ _ _ HR4.out)
  have x1 := frozen_of_row w4 (w.heap.size + 1 + 1) 1 _ _ HR4.out
  have r2 := (show w4.cell? ⟨w.heap.size + 1 + 1, 2, none⟩ = some (.int .i8 0) from cell_of_row _ (w.heap.size + 1 + 1) 2 _ _ _ HR4.out)
  have x2 := frozen_of_row w4 (w.heap.size + 1 + 1) 2 _ _ HR4.out
  go_wp2_with (go_at_call 139; refine (CM.out _).mono ?_; rintro e w' ⟨rfl, rfl⟩)
  refine bodyPost_ret (v := .tuple #[.agg #[.int .i16 (s.ti + C.st), .int .i8 (C.de), .int .i8 (s.so - 1)], .float .f32 x]) (by simp [results, Try.results67, go_sem, *]) rfl ⟨?_, (((((BL4.out.setCell (by simp <;> omega) _).setCell (by simp <;> omega) _).setCell (by simp <;> omega) _).setCell (by simp <;> omega) _).setCell (by simp <;> omega) _)⟩
  rw [EN.out, EX2.out]; rfl
set_option maxHeartbeats 400000 in
theorem c_once_ah3 (C : Ctl) (hC : OkC C) (B : Bld) (hB : OkB B) (s : Sta) (hs : OkS s) (t : Tck) (ht : OkT t) (c b o : Nat) (w : World) (hA : CtlAt w c C) (hT : TckAt w b o t) (hg : fGt t.gu C.wi = false) (h1 : s.so = 1) (h2 : s.wa = 0) (h3 : fGt (lightW B s t) C.hi = true) (h4 : s.ti < 64) (h6 : 64 < s.ti + C.st) :
    Calls Try.prog 67 #[.pointer (some ⟨c, 0, none⟩), .agg (bcells B), .agg (stcells s), .pointer (some ⟨b, o, none⟩)] w fun e w' => e = .returned (.tuple #[.agg (stcells (nextW C B s t)), .float .f32 (inW C B s t)]) ∧ Below w.heap.size w w' := by
  have b0 := hC.st
  have ES : stormW C s t = s.so - 1 := by unfold stormW; rw [if_neg (by simp [hg])]; rw [if_pos (by omega)]
  have ET : turnW C s (lightW B s t) = 64 := by unfold turnW; rw [if_pos h3]; omega
  have ENE : ¬ 64 = s.ti := by omega
  have EN0 : nextW C B s t = ⟨64, C.de, s.so - 1⟩ := by unfold nextW; rw [ES, if_neg (by omega), if_neg (by omega), ET, if_neg ENE]
  have CM := hid (fun w => show Calls Try.prog 139 #[.int .i64 64, .int .i64 (s.ti + C.st)] w fun e w' => e = .returned (.int .i64 (64)) ∧ w = w' from by have := c_minT 64 (s.ti + C.st) w; rwa [show min 64 (s.ti + C.st) = 64 by omega] at this)
  have hne : (64 != s.ti) = true := by rw [bne_iff_ne]; exact ENE
  have EN := hid EN0
  have EX := hid (show inW C B s t = lightW B s t by unfold inW; rw [ES, if_neg (by omega)])
  have EU := hid (show upW C s t = false by unfold upW; rw [ES]; exact decide_eq_false (by omega))
  clear ES EN0 b0 ET ENE
  have hwr1 : IntKind.i64.wrap s.ti = s.ti := by have := hs.ti; rw [IntWalk.i64_in] <;> omega
  have hwr2 : IntKind.i64.wrap t.he = t.he := by have := ht.he; rw [IntWalk.i64_in] <;> omega
  have CP := hid (fun w => fun b hA => c_l02Pass (tiltB B s.ti) (hB.tilt hs.ti.1 hs.ti.2) t.he ht.he.1 ht.he.2 b 0 w hA)
  have ra := fun wx => run_mul (T := 22) ht.li.fin (pass_fin (hB.tilt hs.ti.1 hs.ti.2) ht.he.1 ht.he.2).all.fin wx
  have LX := hid (show lightW B s t = fmul t.li (passW (tiltB B s.ti) t.he) from rfl)
  rw [LX.out] at h3
  have g3 := (show (FloatKind.f32.format.order (fmul t.li (passW (tiltB B s.ti) t.he)) C.hi == some .gt) = true from h3)
  generalize passW (tiltB B s.ti) t.he = pz at *
  generalize hxx : fmul t.li pz = x at *
  have XX := hid hxx
  have EX2 := hid (EX.out.trans LX.out)
  clear hxx
  have d0 : 0 < s.so := by omega
  have d1 : ¬ 0 < s.so - 1 := by omega
  have d3 : ¬ 1 < s.so := by omega
  have d9 : ¬ 0 < s.wa := by omega
  have H1 := hid h1
  clear h1
  have H2 := hid h2
  clear h2
  have g0 := (show (FloatKind.f32.format.order t.gu C.wi == some .gt) = false from hg)
  have HZB := hid (size_blind B)
  have CL := hid hA.lt
  have TL := hid hT.lt
  obtain ⟨w0, hw0⟩ : ∃ w0, w0 = (((w.alloc (.cells (bcells B) 37)).alloc (.cells (stcells s) 39)).alloc (.cells #[.int .i16 0, .int .i8 0, .int .i8 0] 39)) := ⟨_, rfl⟩
  have BL0 : Hid (Below w.heap.size w w0) := hid (by rw [hw0]; exact (((Below.refl _ _).alloc (Nat.le_refl _) _).alloc (by simp) _).alloc (by simp; omega) _)
  have HB0 : Hid (w0.heap[w.heap.size]? = some (.cells (bcells B) 37 (0, 0))) := hid (by rw [hw0]; exact (blk_past _ _ _ (by simp <;> omega)).trans ((blk_past _ _ _ (by simp <;> omega)).trans (blk_at _ _ _ rfl)))
  have HS0 : Hid (w0.heap[w.heap.size + 1]? = some (.cells (stcells s) 39 (0, 0))) := hid (by rw [hw0]; exact (blk_past _ _ _ (by simp <;> omega)).trans (blk_at _ _ _ (by simp)))
  have TA0 := hid (hT.below BL0.out)
  have HR0 : Hid (w0.heap[w.heap.size + 1 + 1]? = some (.cells zSt 39 (0, 0))) := hid (by rw [hw0]; exact blk_at _ _ _ (by simp))
  have CA0 := hid (hA.below BL0.out)
  have W0 := hid hw0
  have HC := hid hC
  have HBB := hid hB
  have HSS := hid hs
  have HTT := hid ht
  have b1 := hC.st
  have b2 := hC.de
  have b3 := hC.ca
  have b4 := hs.ti
  have b5 := hs.wa
  have b6 := hs.so
  have b7 := ht.he
  clear hC hB hs ht hA hw0 hT
  go_enter Try.func67, Try.ntmps67
  go_wp2_with fail
  rw [← W0.out]
  refine wp_region_below (by kernel_rfl) (by kernel_rfl) ?_
  repeat (first | (refine wpQuiet_load_cell rfl 22 _ rfl ⟨b, o + 1, none⟩ rfl (.float .f32 t.gu) _ (fun wx hwx => (TA0.out.below hwx.out).gu) Try.underlying22 rfl ?_) | (refine wpQuiet_load_cell rfl 22 _ rfl ⟨c, 2, none⟩ rfl (.float .f32 C.wi) _ (fun wx hwx => (CA0.out.below hwx.out).wi) Try.underlying22 rfl ?_) | (refine wpQuiet_step (fun K hK => ?_); go_simp; first | (refine hK _ ?_; clear hK K) | (refine ⟨_, fun _ _ => rfl, hK _ ?_⟩; clear hK K)))
  refine wpQuiet_nil ?_
  intro w1 h1
  replace h1 := h1.out
  have HB1 := hid ((h1.block _ (block_lt HB0.out)).trans HB0.out)
  have HS1 := hid ((h1.block _ (block_lt HS0.out)).trans HS0.out)
  have HR1 := hid ((h1.block _ (block_lt HR0.out)).trans HR0.out)
  have CA1 := hid (CA0.out.below h1)
  have TA1 := hid (TA0.out.below h1)
  have BL1 := hid (below_trans BL0.out h1 BL0.out.size)
  clear h1
  have c0 := CA1.out.lo
  have c1 := CA1.out.hi
  have c2 := CA1.out.wi
  have c3 := CA1.out.st
  have c4 := CA1.out.de
  have c5 := CA1.out.ca
  have t0 := TA1.out.li
  have t1 := TA1.out.gu
  have t2 := TA1.out.he
  have s0 := cell_of_row _ (w.heap.size + 1) 0 _ _ _ HS1.out
  have f0 := frozen_of_row w1 (w.heap.size + 1) 0 _ _ HS1.out
  have s1 := cell_of_row _ (w.heap.size + 1) 1 _ _ _ HS1.out
  have f1 := frozen_of_row w1 (w.heap.size + 1) 1 _ _ HS1.out
  have s2 := cell_of_row _ (w.heap.size + 1) 2 _ _ _ HS1.out
  have f2 := frozen_of_row w1 (w.heap.size + 1) 2 _ _ HS1.out
  simp only [stcells] at s0 s1 s2
  replace s0 : w1.cell? ⟨w.heap.size + 1, 0, none⟩ = some (.int .i16 s.ti) := s0
  replace s1 : w1.cell? ⟨w.heap.size + 1, 1, none⟩ = some (.int .i8 s.wa) := s1
  replace s2 : w1.cell? ⟨w.heap.size + 1, 2, none⟩ = some (.int .i8 s.so) := s2
  have q3 := (show w1.cell? ⟨w.heap.size, 3, none⟩ = some (.int .i16 B.ti) from cell_of_row _ (w.heap.size) 3 _ _ _ HB1.out)
  have qf := frozen_of_row w1 (w.heap.size) 3 _ _ HB1.out
  obtain ⟨w2, hw2⟩ : ∃ w2, w2 = w1.setCell ⟨w.heap.size + 1, 2, none⟩ (.int .i8 (s.so - 1)) := ⟨_, rfl⟩
  have HB2 := hid (show w2.heap[w.heap.size]? = _ from hw2 ▸ blk_set HB1.out (by omega) _)
  have HS2 := hid (hw2 ▸ st_set2 HS1.out (s.so - 1))
  have HR2 := hid (show w2.heap[w.heap.size + 1 + 1]? = _ from hw2 ▸ blk_set HR1.out (by omega) _)
  have CA2 := hid (show CtlAt w2 c C from hw2 ▸ ctl_set CA1.out (by have := CL.out; omega) _)
  have TA2 := hid (show TckAt w2 b o t from hw2 ▸ tck_set TA1.out (by have := TL.out; omega) _)
  have BL2 := hid (show Below w.heap.size w w2 from hw2 ▸ BL1.out.setCell (by simp) _)
  have W2 := hid hw2
  clear hw2
  obtain ⟨w3, hw3⟩ : ∃ w3, w3 = w2.setCell ⟨w.heap.size, 3, none⟩ (.int .i16 s.ti) := ⟨_, rfl⟩
  have HB3 : Hid (w3.heap[w.heap.size]? = some (.cells (bcells (tiltB B s.ti)) 37 (0, 0))) := hid (hw3 ▸ heap_setCell_same w2 (w.heap.size) 3 _ _ _ HB2.out)
  have HS3 := hid (show w3.heap[w.heap.size + 1]? = _ from hw3 ▸ blk_set HS2.out (by omega) _)
  have HR3 := hid (show w3.heap[w.heap.size + 1 + 1]? = _ from hw3 ▸ blk_set HR2.out (by omega) _)
  have CA3 := hid (show CtlAt w3 c C from hw3 ▸ ctl_set CA2.out (by have := CL.out; omega) _)
  have TA3 := hid (show TckAt w3 b o t from hw3 ▸ tck_set TA2.out (by have := TL.out; omega) _)
  have BL3 := hid (show Below w.heap.size w w3 from hw3 ▸ BL2.out.setCell (by simp) _)
  have W3 := hid hw3
  clear hw3
  go_wp2_with fail
  rw [← W2.out, ← W3.out]
  clear c0 c1 c2 c3 c4 c5 t0 t1 t2 s0 s1 s2 f0 f1 f2
  clear q3 qf d0 d1 d3
  refine wp_region_below (by kernel_rfl) (by kernel_rfl) ?_
  repeat (first | (refine wpQuiet_load_cell rfl 22 _ rfl ⟨b, o, none⟩ rfl (.float .f32 t.li) _ (fun wx hwx => (TA3.out.below hwx.out).li) Try.underlying22 rfl ?_) | (refine wpQuiet_load_cell rfl 23 _ rfl ⟨b, o + 2, none⟩ rfl (.int .i8 t.he) _ (fun wx hwx => (TA3.out.below hwx.out).he) Try.underlying23 rfl ?_) | (refine wpQuiet_step (fun K hK => ?_); go_simp; first | (refine hK _ ?_; clear hK K) | (refine ⟨_, fun _ _ => rfl, hK _ ?_⟩; clear hK K) | (apply Exists.intro; refine ⟨fun wx hwx => ?_, hK _ ?_⟩; (first | (exact quiet_below hwx (CP.out _ _ (BldAt.of_block ((hwx.out.block _ (block_lt HB3.out)).trans HB3.out))))); clear hK K)))
  refine wpQuiet_nil ?_
  intro w4 h4
  replace h4 := h4.out
  have HB4 := hid ((h4.block _ (block_lt HB3.out)).trans HB3.out)
  have HS4 := hid ((h4.block _ (block_lt HS3.out)).trans HS3.out)
  have HR4 := hid ((h4.block _ (block_lt HR3.out)).trans HR3.out)
  have CA4 := hid (CA3.out.below h4)
  have TA4 := hid (TA3.out.below h4)
  have BL4 := hid (below_trans BL3.out h4 BL3.out.size)
  clear h4
  have c0 := CA4.out.lo
  have c1 := CA4.out.hi
  have c2 := CA4.out.wi
  have c3 := CA4.out.st
  have c4 := CA4.out.de
  have c5 := CA4.out.ca
  have t0 := TA4.out.li
  have t1 := TA4.out.gu
  have t2 := TA4.out.he
  have s0 := cell_of_row _ (w.heap.size + 1) 0 _ _ _ HS4.out
  have f0 := frozen_of_row w4 (w.heap.size + 1) 0 _ _ HS4.out
  have s1 := cell_of_row _ (w.heap.size + 1) 1 _ _ _ HS4.out
  have f1 := frozen_of_row w4 (w.heap.size + 1) 1 _ _ HS4.out
  have s2 := cell_of_row _ (w.heap.size + 1) 2 _ _ _ HS4.out
  have f2 := frozen_of_row w4 (w.heap.size + 1) 2 _ _ HS4.out
  simp only [stcells] at s0 s1 s2
  replace s0 : w4.cell? ⟨w.heap.size + 1, 0, none⟩ = some (.int .i16 s.ti) := s0
  replace s1 : w4.cell? ⟨w.heap.size + 1, 1, none⟩ = some (.int .i8 s.wa) := s1
  replace s2 : w4.cell? ⟨w.heap.size + 1, 2, none⟩ = some (.int .i8 (s.so - 1)) := s2
  have r0 := (show w4.cell? ⟨w.heap.size + 1 + 1, 0, none⟩ = some (.int .i16 0) from cell_of_row _ (w.heap.size + 1 + 1) 0 _ _ _ HR4.out)
  have x0 := frozen_of_row w4 (w.heap.size + 1 + 1) 0 _ _ HR4.out
  have r1 := (show w4.cell? ⟨w.heap.size + 1 + 1, 1, none⟩ = some (.int .i8 0) from cell_of_row _ (w.heap.size + 1 + 1) 1 _ _ _ HR4.out)
  have x1 := frozen_of_row w4 (w.heap.size + 1 + 1) 1 _ _ HR4.out
  have r2 := (show w4.cell? ⟨w.heap.size + 1 + 1, 2, none⟩ = some (.int .i8 0) from cell_of_row _ (w.heap.size + 1 + 1) 2 _ _ _ HR4.out)
  have x2 := frozen_of_row w4 (w.heap.size + 1 + 1) 2 _ _ HR4.out
  go_wp2_with (go_at_call 139; refine (CM.out _).mono ?_; rintro e w' ⟨rfl, rfl⟩)
  refine bodyPost_ret (v := .tuple #[.agg #[.int .i16 (64), .int .i8 (C.de), .int .i8 (s.so - 1)], .float .f32 x]) (by simp [results, Try.results67, go_sem, *]) rfl ⟨?_, (((((BL4.out.setCell (by simp <;> omega) _).setCell (by simp <;> omega) _).setCell (by simp <;> omega) _).setCell (by simp <;> omega) _).setCell (by simp <;> omega) _)⟩
  rw [EN.out, EX2.out]; rfl
set_option maxHeartbeats 400000 in
theorem c_once_ah2 (C : Ctl) (hC : OkC C) (B : Bld) (hB : OkB B) (s : Sta) (hs : OkS s) (t : Tck) (ht : OkT t) (c b o : Nat) (w : World) (hA : CtlAt w c C) (hT : TckAt w b o t) (hg : fGt t.gu C.wi = false) (h1 : s.so = 1) (h2 : s.wa = 0) (h3 : fGt (lightW B s t) C.hi = true) (h4 : s.ti = 64) :
    Calls Try.prog 67 #[.pointer (some ⟨c, 0, none⟩), .agg (bcells B), .agg (stcells s), .pointer (some ⟨b, o, none⟩)] w fun e w' => e = .returned (.tuple #[.agg (stcells (nextW C B s t)), .float .f32 (inW C B s t)]) ∧ Below w.heap.size w w' := by
  have b0 := hC.st
  have ES : stormW C s t = s.so - 1 := by unfold stormW; rw [if_neg (by simp [hg])]; rw [if_pos (by omega)]
  have ET : turnW C s (lightW B s t) = 64 := by unfold turnW; rw [if_pos h3]; omega
  have ENE : 64 = s.ti := by omega
  have EN0 : nextW C B s t = ⟨s.ti, s.wa, s.so - 1⟩ := by unfold nextW; rw [ES, if_neg (by omega), if_neg (by omega), ET, if_pos ENE]
  have CM := hid (fun w => show Calls Try.prog 139 #[.int .i64 64, .int .i64 (s.ti + C.st)] w fun e w' => e = .returned (.int .i64 (64)) ∧ w = w' from by have := c_minT 64 (s.ti + C.st) w; rwa [show min 64 (s.ti + C.st) = 64 by omega] at this)
  have hne : (64 != s.ti) = false := by rw [bne_eq_false_iff_eq]; exact ENE
  have EN := hid EN0
  have EX := hid (show inW C B s t = lightW B s t by unfold inW; rw [ES, if_neg (by omega)])
  have EU := hid (show upW C s t = false by unfold upW; rw [ES]; exact decide_eq_false (by omega))
  clear ES EN0 b0 ET ENE
  have hwr1 : IntKind.i64.wrap s.ti = s.ti := by have := hs.ti; rw [IntWalk.i64_in] <;> omega
  have hwr2 : IntKind.i64.wrap t.he = t.he := by have := ht.he; rw [IntWalk.i64_in] <;> omega
  have CP := hid (fun w => fun b hA => c_l02Pass (tiltB B s.ti) (hB.tilt hs.ti.1 hs.ti.2) t.he ht.he.1 ht.he.2 b 0 w hA)
  have ra := fun wx => run_mul (T := 22) ht.li.fin (pass_fin (hB.tilt hs.ti.1 hs.ti.2) ht.he.1 ht.he.2).all.fin wx
  have LX := hid (show lightW B s t = fmul t.li (passW (tiltB B s.ti) t.he) from rfl)
  rw [LX.out] at h3
  have g3 := (show (FloatKind.f32.format.order (fmul t.li (passW (tiltB B s.ti) t.he)) C.hi == some .gt) = true from h3)
  generalize passW (tiltB B s.ti) t.he = pz at *
  generalize hxx : fmul t.li pz = x at *
  have XX := hid hxx
  have EX2 := hid (EX.out.trans LX.out)
  clear hxx
  have d0 : 0 < s.so := by omega
  have d1 : ¬ 0 < s.so - 1 := by omega
  have d3 : ¬ 1 < s.so := by omega
  have d9 : ¬ 0 < s.wa := by omega
  have H1 := hid h1
  clear h1
  have H2 := hid h2
  clear h2
  have m1 : 64 < s.ti + C.st := by have := hC.st; omega
  have H4 := hid h4
  clear h4
  have g0 := (show (FloatKind.f32.format.order t.gu C.wi == some .gt) = false from hg)
  have HZB := hid (size_blind B)
  have CL := hid hA.lt
  have TL := hid hT.lt
  obtain ⟨w0, hw0⟩ : ∃ w0, w0 = (((w.alloc (.cells (bcells B) 37)).alloc (.cells (stcells s) 39)).alloc (.cells #[.int .i16 0, .int .i8 0, .int .i8 0] 39)) := ⟨_, rfl⟩
  have BL0 : Hid (Below w.heap.size w w0) := hid (by rw [hw0]; exact (((Below.refl _ _).alloc (Nat.le_refl _) _).alloc (by simp) _).alloc (by simp; omega) _)
  have HB0 : Hid (w0.heap[w.heap.size]? = some (.cells (bcells B) 37 (0, 0))) := hid (by rw [hw0]; exact (blk_past _ _ _ (by simp <;> omega)).trans ((blk_past _ _ _ (by simp <;> omega)).trans (blk_at _ _ _ rfl)))
  have HS0 : Hid (w0.heap[w.heap.size + 1]? = some (.cells (stcells s) 39 (0, 0))) := hid (by rw [hw0]; exact (blk_past _ _ _ (by simp <;> omega)).trans (blk_at _ _ _ (by simp)))
  have TA0 := hid (hT.below BL0.out)
  have HR0 : Hid (w0.heap[w.heap.size + 1 + 1]? = some (.cells zSt 39 (0, 0))) := hid (by rw [hw0]; exact blk_at _ _ _ (by simp))
  have CA0 := hid (hA.below BL0.out)
  have W0 := hid hw0
  have HC := hid hC
  have HBB := hid hB
  have HSS := hid hs
  have HTT := hid ht
  have b1 := hC.st
  have b2 := hC.de
  have b3 := hC.ca
  have b4 := hs.ti
  have b5 := hs.wa
  have b6 := hs.so
  have b7 := ht.he
  clear hC hB hs ht hA hw0 hT
  go_enter Try.func67, Try.ntmps67
  go_wp2_with fail
  rw [← W0.out]
  refine wp_region_below (by kernel_rfl) (by kernel_rfl) ?_
  repeat (first | (refine wpQuiet_load_cell rfl 22 _ rfl ⟨b, o + 1, none⟩ rfl (.float .f32 t.gu) _ (fun wx hwx => (TA0.out.below hwx.out).gu) Try.underlying22 rfl ?_) | (refine wpQuiet_load_cell rfl 22 _ rfl ⟨c, 2, none⟩ rfl (.float .f32 C.wi) _ (fun wx hwx => (CA0.out.below hwx.out).wi) Try.underlying22 rfl ?_) | (refine wpQuiet_step (fun K hK => ?_); go_simp; first | (refine hK _ ?_; clear hK K) | (refine ⟨_, fun _ _ => rfl, hK _ ?_⟩; clear hK K)))
  refine wpQuiet_nil ?_
  intro w1 h1
  replace h1 := h1.out
  have HB1 := hid ((h1.block _ (block_lt HB0.out)).trans HB0.out)
  have HS1 := hid ((h1.block _ (block_lt HS0.out)).trans HS0.out)
  have HR1 := hid ((h1.block _ (block_lt HR0.out)).trans HR0.out)
  have CA1 := hid (CA0.out.below h1)
  have TA1 := hid (TA0.out.below h1)
  have BL1 := hid (below_trans BL0.out h1 BL0.out.size)
  clear h1
  have c0 := CA1.out.lo
  have c1 := CA1.out.hi
  have c2 := CA1.out.wi
  have c3 := CA1.out.st
  have c4 := CA1.out.de
  have c5 := CA1.out.ca
  have t0 := TA1.out.li
  have t1 := TA1.out.gu
  have t2 := TA1.out.he
  have s0 := cell_of_row _ (w.heap.size + 1) 0 _ _ _ HS1.out
  have f0 := frozen_of_row w1 (w.heap.size + 1) 0 _ _ HS1.out
  have s1 := cell_of_row _ (w.heap.size + 1) 1 _ _ _ HS1.out
  have f1 := frozen_of_row w1 (w.heap.size + 1) 1 _ _ HS1.out
  have s2 := cell_of_row _ (w.heap.size + 1) 2 _ _ _ HS1.out
  have f2 := frozen_of_row w1 (w.heap.size + 1) 2 _ _ HS1.out
  simp only [stcells] at s0 s1 s2
  replace s0 : w1.cell? ⟨w.heap.size + 1, 0, none⟩ = some (.int .i16 s.ti) := s0
  replace s1 : w1.cell? ⟨w.heap.size + 1, 1, none⟩ = some (.int .i8 s.wa) := s1
  replace s2 : w1.cell? ⟨w.heap.size + 1, 2, none⟩ = some (.int .i8 s.so) := s2
  have q3 := (show w1.cell? ⟨w.heap.size, 3, none⟩ = some (.int .i16 B.ti) from cell_of_row _ (w.heap.size) 3 _ _ _ HB1.out)
  have qf := frozen_of_row w1 (w.heap.size) 3 _ _ HB1.out
  obtain ⟨w2, hw2⟩ : ∃ w2, w2 = w1.setCell ⟨w.heap.size + 1, 2, none⟩ (.int .i8 (s.so - 1)) := ⟨_, rfl⟩
  have HB2 := hid (show w2.heap[w.heap.size]? = _ from hw2 ▸ blk_set HB1.out (by omega) _)
  have HS2 := hid (hw2 ▸ st_set2 HS1.out (s.so - 1))
  have HR2 := hid (show w2.heap[w.heap.size + 1 + 1]? = _ from hw2 ▸ blk_set HR1.out (by omega) _)
  have CA2 := hid (show CtlAt w2 c C from hw2 ▸ ctl_set CA1.out (by have := CL.out; omega) _)
  have TA2 := hid (show TckAt w2 b o t from hw2 ▸ tck_set TA1.out (by have := TL.out; omega) _)
  have BL2 := hid (show Below w.heap.size w w2 from hw2 ▸ BL1.out.setCell (by simp) _)
  have W2 := hid hw2
  clear hw2
  obtain ⟨w3, hw3⟩ : ∃ w3, w3 = w2.setCell ⟨w.heap.size, 3, none⟩ (.int .i16 s.ti) := ⟨_, rfl⟩
  have HB3 : Hid (w3.heap[w.heap.size]? = some (.cells (bcells (tiltB B s.ti)) 37 (0, 0))) := hid (hw3 ▸ heap_setCell_same w2 (w.heap.size) 3 _ _ _ HB2.out)
  have HS3 := hid (show w3.heap[w.heap.size + 1]? = _ from hw3 ▸ blk_set HS2.out (by omega) _)
  have HR3 := hid (show w3.heap[w.heap.size + 1 + 1]? = _ from hw3 ▸ blk_set HR2.out (by omega) _)
  have CA3 := hid (show CtlAt w3 c C from hw3 ▸ ctl_set CA2.out (by have := CL.out; omega) _)
  have TA3 := hid (show TckAt w3 b o t from hw3 ▸ tck_set TA2.out (by have := TL.out; omega) _)
  have BL3 := hid (show Below w.heap.size w w3 from hw3 ▸ BL2.out.setCell (by simp) _)
  have W3 := hid hw3
  clear hw3
  go_wp2_with fail
  rw [← W2.out, ← W3.out]
  clear c0 c1 c2 c3 c4 c5 t0 t1 t2 s0 s1 s2 f0 f1 f2
  clear q3 qf d0 d1 d3
  refine wp_region_below (by kernel_rfl) (by kernel_rfl) ?_
  repeat (first | (refine wpQuiet_load_cell rfl 22 _ rfl ⟨b, o, none⟩ rfl (.float .f32 t.li) _ (fun wx hwx => (TA3.out.below hwx.out).li) Try.underlying22 rfl ?_) | (refine wpQuiet_load_cell rfl 23 _ rfl ⟨b, o + 2, none⟩ rfl (.int .i8 t.he) _ (fun wx hwx => (TA3.out.below hwx.out).he) Try.underlying23 rfl ?_) | (refine wpQuiet_step (fun K hK => ?_); go_simp; first | (refine hK _ ?_; clear hK K) | (refine ⟨_, fun _ _ => rfl, hK _ ?_⟩; clear hK K) | (apply Exists.intro; refine ⟨fun wx hwx => ?_, hK _ ?_⟩; (first | (exact quiet_below hwx (CP.out _ _ (BldAt.of_block ((hwx.out.block _ (block_lt HB3.out)).trans HB3.out))))); clear hK K)))
  refine wpQuiet_nil ?_
  intro w4 h4
  replace h4 := h4.out
  have HB4 := hid ((h4.block _ (block_lt HB3.out)).trans HB3.out)
  have HS4 := hid ((h4.block _ (block_lt HS3.out)).trans HS3.out)
  have HR4 := hid ((h4.block _ (block_lt HR3.out)).trans HR3.out)
  have CA4 := hid (CA3.out.below h4)
  have TA4 := hid (TA3.out.below h4)
  have BL4 := hid (below_trans BL3.out h4 BL3.out.size)
  clear h4
  have c0 := CA4.out.lo
  have c1 := CA4.out.hi
  have c2 := CA4.out.wi
  have c3 := CA4.out.st
  have c4 := CA4.out.de
  have c5 := CA4.out.ca
  have t0 := TA4.out.li
  have t1 := TA4.out.gu
  have t2 := TA4.out.he
  have s0 := cell_of_row _ (w.heap.size + 1) 0 _ _ _ HS4.out
  have f0 := frozen_of_row w4 (w.heap.size + 1) 0 _ _ HS4.out
  have s1 := cell_of_row _ (w.heap.size + 1) 1 _ _ _ HS4.out
  have f1 := frozen_of_row w4 (w.heap.size + 1) 1 _ _ HS4.out
  have s2 := cell_of_row _ (w.heap.size + 1) 2 _ _ _ HS4.out
  have f2 := frozen_of_row w4 (w.heap.size + 1) 2 _ _ HS4.out
  simp only [stcells] at s0 s1 s2
  replace s0 : w4.cell? ⟨w.heap.size + 1, 0, none⟩ = some (.int .i16 s.ti) := s0
  replace s1 : w4.cell? ⟨w.heap.size + 1, 1, none⟩ = some (.int .i8 s.wa) := s1
  replace s2 : w4.cell? ⟨w.heap.size + 1, 2, none⟩ = some (.int .i8 (s.so - 1)) := s2
  have r0 := (show w4.cell? ⟨w.heap.size + 1 + 1, 0, none⟩ = some (.int .i16 0) from cell_of_row _ (w.heap.size + 1 + 1) 0 _ _ _ HR4.out)
  have x0 := frozen_of_row w4 (w.heap.size + 1 + 1) 0 _ _ HR4.out
  have r1 := (show w4.cell? ⟨w.heap.size + 1 + 1, 1, none⟩ = some (.int .i8 0) from cell_of_row _ (w.heap.size + 1 + 1) 1 _ _ _ HR4.out)
  have x1 := frozen_of_row w4 (w.heap.size + 1 + 1) 1 _ _ HR4.out
  have r2 := (show w4.cell? ⟨w.heap.size + 1 + 1, 2, none⟩ = some (.int .i8 0) from cell_of_row _ (w.heap.size + 1 + 1) 2 _ _ _ HR4.out)
  have x2 := frozen_of_row w4 (w.heap.size + 1 + 1) 2 _ _ HR4.out
  go_wp2_with (go_at_call 139; refine (CM.out _).mono ?_; rintro e w' ⟨rfl, rfl⟩)
  refine bodyPost_ret (v := .tuple #[.agg #[.int .i16 (s.ti), .int .i8 (s.wa), .int .i8 (s.so - 1)], .float .f32 x]) (by simp [results, Try.results67, go_sem, *]) rfl ⟨?_, (((BL4.out.setCell (by simp <;> omega) _).setCell (by simp <;> omega) _).setCell (by simp <;> omega) _)⟩
  rw [EN.out, EX2.out]; rfl
set_option maxHeartbeats 400000 in
theorem c_once_al1 (C : Ctl) (hC : OkC C) (B : Bld) (hB : OkB B) (s : Sta) (hs : OkS s) (t : Tck) (ht : OkT t) (c b o : Nat) (w : World) (hA : CtlAt w c C) (hT : TckAt w b o t) (hg : fGt t.gu C.wi = false) (h1 : s.so = 1) (h2 : s.wa = 0) (h3 : fGt (lightW B s t) C.hi = false) (h4 : fLt (lightW B s t) C.lo = true) (h5 : -64 ≤ s.ti - C.st) :
    Calls Try.prog 67 #[.pointer (some ⟨c, 0, none⟩), .agg (bcells B), .agg (stcells s), .pointer (some ⟨b, o, none⟩)] w fun e w' => e = .returned (.tuple #[.agg (stcells (nextW C B s t)), .float .f32 (inW C B s t)]) ∧ Below w.heap.size w w' := by
  have b0 := hC.st
  have ES : stormW C s t = s.so - 1 := by unfold stormW; rw [if_neg (by simp [hg])]; rw [if_pos (by omega)]
  have ET : turnW C s (lightW B s t) = s.ti - C.st := by unfold turnW; rw [if_neg (by simp [h3]), if_pos h4]; omega
  have ENE : ¬ s.ti - C.st = s.ti := by omega
  have EN0 : nextW C B s t = ⟨s.ti - C.st, C.de, s.so - 1⟩ := by unfold nextW; rw [ES, if_neg (by omega), if_neg (by omega), ET, if_neg ENE]
  have CM := hid (fun w => show Calls Try.prog 140 #[.int .i64 (-64), .int .i64 (s.ti - C.st)] w fun e w' => e = .returned (.int .i64 (s.ti - C.st)) ∧ w = w' from by have := c_l00Max (-64) (s.ti - C.st) w; rwa [show max (-64) (s.ti - C.st) = s.ti - C.st by omega] at this)
  have hne : (s.ti - C.st != s.ti) = true := by rw [bne_iff_ne]; exact ENE
  have EN := hid EN0
  have EX := hid (show inW C B s t = lightW B s t by unfold inW; rw [ES, if_neg (by omega)])
  have EU := hid (show upW C s t = false by unfold upW; rw [ES]; exact decide_eq_false (by omega))
  clear ES EN0 b0 ET ENE
  have hwr1 : IntKind.i64.wrap s.ti = s.ti := by have := hs.ti; rw [IntWalk.i64_in] <;> omega
  have hwr2 : IntKind.i64.wrap t.he = t.he := by have := ht.he; rw [IntWalk.i64_in] <;> omega
  have CP := hid (fun w => fun b hA => c_l02Pass (tiltB B s.ti) (hB.tilt hs.ti.1 hs.ti.2) t.he ht.he.1 ht.he.2 b 0 w hA)
  have ra := fun wx => run_mul (T := 22) ht.li.fin (pass_fin (hB.tilt hs.ti.1 hs.ti.2) ht.he.1 ht.he.2).all.fin wx
  have LX := hid (show lightW B s t = fmul t.li (passW (tiltB B s.ti) t.he) from rfl)
  rw [LX.out] at h3
  have g3 := (show (FloatKind.f32.format.order (fmul t.li (passW (tiltB B s.ti) t.he)) C.hi == some .gt) = false from h3)
  rw [LX.out] at h4
  have g4 := (show (FloatKind.f32.format.order (fmul t.li (passW (tiltB B s.ti) t.he)) C.lo == some .lt) = true from h4)
  generalize passW (tiltB B s.ti) t.he = pz at *
  generalize hxx : fmul t.li pz = x at *
  have XX := hid hxx
  have EX2 := hid (EX.out.trans LX.out)
  clear hxx
  have d0 : 0 < s.so := by omega
  have d1 : ¬ 0 < s.so - 1 := by omega
  have d3 : ¬ 1 < s.so := by omega
  have d9 : ¬ 0 < s.wa := by omega
  have H1 := hid h1
  clear h1
  have H2 := hid h2
  clear h2
  have m1 : ¬ s.ti - C.st < -64 := by omega
  have g0 := (show (FloatKind.f32.format.order t.gu C.wi == some .gt) = false from hg)
  have HZB := hid (size_blind B)
  have CL := hid hA.lt
  have TL := hid hT.lt
  obtain ⟨w0, hw0⟩ : ∃ w0, w0 = (((w.alloc (.cells (bcells B) 37)).alloc (.cells (stcells s) 39)).alloc (.cells #[.int .i16 0, .int .i8 0, .int .i8 0] 39)) := ⟨_, rfl⟩
  have BL0 : Hid (Below w.heap.size w w0) := hid (by rw [hw0]; exact (((Below.refl _ _).alloc (Nat.le_refl _) _).alloc (by simp) _).alloc (by simp; omega) _)
  have HB0 : Hid (w0.heap[w.heap.size]? = some (.cells (bcells B) 37 (0, 0))) := hid (by rw [hw0]; exact (blk_past _ _ _ (by simp <;> omega)).trans ((blk_past _ _ _ (by simp <;> omega)).trans (blk_at _ _ _ rfl)))
  have HS0 : Hid (w0.heap[w.heap.size + 1]? = some (.cells (stcells s) 39 (0, 0))) := hid (by rw [hw0]; exact (blk_past _ _ _ (by simp <;> omega)).trans (blk_at _ _ _ (by simp)))
  have TA0 := hid (hT.below BL0.out)
  have HR0 : Hid (w0.heap[w.heap.size + 1 + 1]? = some (.cells zSt 39 (0, 0))) := hid (by rw [hw0]; exact blk_at _ _ _ (by simp))
  have CA0 := hid (hA.below BL0.out)
  have W0 := hid hw0
  have HC := hid hC
  have HBB := hid hB
  have HSS := hid hs
  have HTT := hid ht
  have b1 := hC.st
  have b2 := hC.de
  have b3 := hC.ca
  have b4 := hs.ti
  have b5 := hs.wa
  have b6 := hs.so
  have b7 := ht.he
  clear hC hB hs ht hA hw0 hT
  go_enter Try.func67, Try.ntmps67
  go_wp2_with fail
  rw [← W0.out]
  refine wp_region_below (by kernel_rfl) (by kernel_rfl) ?_
  repeat (first | (refine wpQuiet_load_cell rfl 22 _ rfl ⟨b, o + 1, none⟩ rfl (.float .f32 t.gu) _ (fun wx hwx => (TA0.out.below hwx.out).gu) Try.underlying22 rfl ?_) | (refine wpQuiet_load_cell rfl 22 _ rfl ⟨c, 2, none⟩ rfl (.float .f32 C.wi) _ (fun wx hwx => (CA0.out.below hwx.out).wi) Try.underlying22 rfl ?_) | (refine wpQuiet_step (fun K hK => ?_); go_simp; first | (refine hK _ ?_; clear hK K) | (refine ⟨_, fun _ _ => rfl, hK _ ?_⟩; clear hK K)))
  refine wpQuiet_nil ?_
  intro w1 h1
  replace h1 := h1.out
  have HB1 := hid ((h1.block _ (block_lt HB0.out)).trans HB0.out)
  have HS1 := hid ((h1.block _ (block_lt HS0.out)).trans HS0.out)
  have HR1 := hid ((h1.block _ (block_lt HR0.out)).trans HR0.out)
  have CA1 := hid (CA0.out.below h1)
  have TA1 := hid (TA0.out.below h1)
  have BL1 := hid (below_trans BL0.out h1 BL0.out.size)
  clear h1
  have c0 := CA1.out.lo
  have c1 := CA1.out.hi
  have c2 := CA1.out.wi
  have c3 := CA1.out.st
  have c4 := CA1.out.de
  have c5 := CA1.out.ca
  have t0 := TA1.out.li
  have t1 := TA1.out.gu
  have t2 := TA1.out.he
  have s0 := cell_of_row _ (w.heap.size + 1) 0 _ _ _ HS1.out
  have f0 := frozen_of_row w1 (w.heap.size + 1) 0 _ _ HS1.out
  have s1 := cell_of_row _ (w.heap.size + 1) 1 _ _ _ HS1.out
  have f1 := frozen_of_row w1 (w.heap.size + 1) 1 _ _ HS1.out
  have s2 := cell_of_row _ (w.heap.size + 1) 2 _ _ _ HS1.out
  have f2 := frozen_of_row w1 (w.heap.size + 1) 2 _ _ HS1.out
  simp only [stcells] at s0 s1 s2
  replace s0 : w1.cell? ⟨w.heap.size + 1, 0, none⟩ = some (.int .i16 s.ti) := s0
  replace s1 : w1.cell? ⟨w.heap.size + 1, 1, none⟩ = some (.int .i8 s.wa) := s1
  replace s2 : w1.cell? ⟨w.heap.size + 1, 2, none⟩ = some (.int .i8 s.so) := s2
  have q3 := (show w1.cell? ⟨w.heap.size, 3, none⟩ = some (.int .i16 B.ti) from cell_of_row _ (w.heap.size) 3 _ _ _ HB1.out)
  have qf := frozen_of_row w1 (w.heap.size) 3 _ _ HB1.out
  obtain ⟨w2, hw2⟩ : ∃ w2, w2 = w1.setCell ⟨w.heap.size + 1, 2, none⟩ (.int .i8 (s.so - 1)) := ⟨_, rfl⟩
  have HB2 := hid (show w2.heap[w.heap.size]? = _ from hw2 ▸ blk_set HB1.out (by omega) _)
  have HS2 := hid (hw2 ▸ st_set2 HS1.out (s.so - 1))
  have HR2 := hid (show w2.heap[w.heap.size + 1 + 1]? = _ from hw2 ▸ blk_set HR1.out (by omega) _)
  have CA2 := hid (show CtlAt w2 c C from hw2 ▸ ctl_set CA1.out (by have := CL.out; omega) _)
  have TA2 := hid (show TckAt w2 b o t from hw2 ▸ tck_set TA1.out (by have := TL.out; omega) _)
  have BL2 := hid (show Below w.heap.size w w2 from hw2 ▸ BL1.out.setCell (by simp) _)
  have W2 := hid hw2
  clear hw2
  obtain ⟨w3, hw3⟩ : ∃ w3, w3 = w2.setCell ⟨w.heap.size, 3, none⟩ (.int .i16 s.ti) := ⟨_, rfl⟩
  have HB3 : Hid (w3.heap[w.heap.size]? = some (.cells (bcells (tiltB B s.ti)) 37 (0, 0))) := hid (hw3 ▸ heap_setCell_same w2 (w.heap.size) 3 _ _ _ HB2.out)
  have HS3 := hid (show w3.heap[w.heap.size + 1]? = _ from hw3 ▸ blk_set HS2.out (by omega) _)
  have HR3 := hid (show w3.heap[w.heap.size + 1 + 1]? = _ from hw3 ▸ blk_set HR2.out (by omega) _)
  have CA3 := hid (show CtlAt w3 c C from hw3 ▸ ctl_set CA2.out (by have := CL.out; omega) _)
  have TA3 := hid (show TckAt w3 b o t from hw3 ▸ tck_set TA2.out (by have := TL.out; omega) _)
  have BL3 := hid (show Below w.heap.size w w3 from hw3 ▸ BL2.out.setCell (by simp) _)
  have W3 := hid hw3
  clear hw3
  go_wp2_with fail
  rw [← W2.out, ← W3.out]
  clear c0 c1 c2 c3 c4 c5 t0 t1 t2 s0 s1 s2 f0 f1 f2
  clear q3 qf d0 d1 d3
  refine wp_region_below (by kernel_rfl) (by kernel_rfl) ?_
  repeat (first | (refine wpQuiet_load_cell rfl 22 _ rfl ⟨b, o, none⟩ rfl (.float .f32 t.li) _ (fun wx hwx => (TA3.out.below hwx.out).li) Try.underlying22 rfl ?_) | (refine wpQuiet_load_cell rfl 23 _ rfl ⟨b, o + 2, none⟩ rfl (.int .i8 t.he) _ (fun wx hwx => (TA3.out.below hwx.out).he) Try.underlying23 rfl ?_) | (refine wpQuiet_step (fun K hK => ?_); go_simp; first | (refine hK _ ?_; clear hK K) | (refine ⟨_, fun _ _ => rfl, hK _ ?_⟩; clear hK K) | (apply Exists.intro; refine ⟨fun wx hwx => ?_, hK _ ?_⟩; (first | (exact quiet_below hwx (CP.out _ _ (BldAt.of_block ((hwx.out.block _ (block_lt HB3.out)).trans HB3.out))))); clear hK K)))
  refine wpQuiet_nil ?_
  intro w4 h4
  replace h4 := h4.out
  have HB4 := hid ((h4.block _ (block_lt HB3.out)).trans HB3.out)
  have HS4 := hid ((h4.block _ (block_lt HS3.out)).trans HS3.out)
  have HR4 := hid ((h4.block _ (block_lt HR3.out)).trans HR3.out)
  have CA4 := hid (CA3.out.below h4)
  have TA4 := hid (TA3.out.below h4)
  have BL4 := hid (below_trans BL3.out h4 BL3.out.size)
  clear h4
  have c0 := CA4.out.lo
  have c1 := CA4.out.hi
  have c2 := CA4.out.wi
  have c3 := CA4.out.st
  have c4 := CA4.out.de
  have c5 := CA4.out.ca
  have t0 := TA4.out.li
  have t1 := TA4.out.gu
  have t2 := TA4.out.he
  have s0 := cell_of_row _ (w.heap.size + 1) 0 _ _ _ HS4.out
  have f0 := frozen_of_row w4 (w.heap.size + 1) 0 _ _ HS4.out
  have s1 := cell_of_row _ (w.heap.size + 1) 1 _ _ _ HS4.out
  have f1 := frozen_of_row w4 (w.heap.size + 1) 1 _ _ HS4.out
  have s2 := cell_of_row _ (w.heap.size + 1) 2 _ _ _ HS4.out
  have f2 := frozen_of_row w4 (w.heap.size + 1) 2 _ _ HS4.out
  simp only [stcells] at s0 s1 s2
  replace s0 : w4.cell? ⟨w.heap.size + 1, 0, none⟩ = some (.int .i16 s.ti) := s0
  replace s1 : w4.cell? ⟨w.heap.size + 1, 1, none⟩ = some (.int .i8 s.wa) := s1
  replace s2 : w4.cell? ⟨w.heap.size + 1, 2, none⟩ = some (.int .i8 (s.so - 1)) := s2
  have r0 := (show w4.cell? ⟨w.heap.size + 1 + 1, 0, none⟩ = some (.int .i16 0) from cell_of_row _ (w.heap.size + 1 + 1) 0 _ _ _ HR4.out)
  have x0 := frozen_of_row w4 (w.heap.size + 1 + 1) 0 _ _ HR4.out
  have r1 := (show w4.cell? ⟨w.heap.size + 1 + 1, 1, none⟩ = some (.int .i8 0) from cell_of_row _ (w.heap.size + 1 + 1) 1 _ _ _ HR4.out)
  have x1 := frozen_of_row w4 (w.heap.size + 1 + 1) 1 _ _ HR4.out
  have r2 := (show w4.cell? ⟨w.heap.size + 1 + 1, 2, none⟩ = some (.int .i8 0) from cell_of_row _ (w.heap.size + 1 + 1) 2 _ _ _ HR4.out)
  have x2 := frozen_of_row w4 (w.heap.size + 1 + 1) 2 _ _ HR4.out
  go_wp2_with (go_at_call 140; refine (CM.out _).mono ?_; rintro e w' ⟨rfl, rfl⟩)
  refine bodyPost_ret (v := .tuple #[.agg #[.int .i16 (s.ti - C.st), .int .i8 (C.de), .int .i8 (s.so - 1)], .float .f32 x]) (by simp [results, Try.results67, go_sem, *]) rfl ⟨?_, (((((BL4.out.setCell (by simp <;> omega) _).setCell (by simp <;> omega) _).setCell (by simp <;> omega) _).setCell (by simp <;> omega) _).setCell (by simp <;> omega) _)⟩
  rw [EN.out, EX2.out]; rfl
set_option maxHeartbeats 400000 in
theorem c_once_al3 (C : Ctl) (hC : OkC C) (B : Bld) (hB : OkB B) (s : Sta) (hs : OkS s) (t : Tck) (ht : OkT t) (c b o : Nat) (w : World) (hA : CtlAt w c C) (hT : TckAt w b o t) (hg : fGt t.gu C.wi = false) (h1 : s.so = 1) (h2 : s.wa = 0) (h3 : fGt (lightW B s t) C.hi = false) (h4 : fLt (lightW B s t) C.lo = true) (h5 : -64 < s.ti) (h6 : s.ti - C.st < -64) :
    Calls Try.prog 67 #[.pointer (some ⟨c, 0, none⟩), .agg (bcells B), .agg (stcells s), .pointer (some ⟨b, o, none⟩)] w fun e w' => e = .returned (.tuple #[.agg (stcells (nextW C B s t)), .float .f32 (inW C B s t)]) ∧ Below w.heap.size w w' := by
  have b0 := hC.st
  have ES : stormW C s t = s.so - 1 := by unfold stormW; rw [if_neg (by simp [hg])]; rw [if_pos (by omega)]
  have ET : turnW C s (lightW B s t) = -64 := by unfold turnW; rw [if_neg (by simp [h3]), if_pos h4]; omega
  have ENE : ¬ -64 = s.ti := by omega
  have EN0 : nextW C B s t = ⟨-64, C.de, s.so - 1⟩ := by unfold nextW; rw [ES, if_neg (by omega), if_neg (by omega), ET, if_neg ENE]
  have CM := hid (fun w => show Calls Try.prog 140 #[.int .i64 (-64), .int .i64 (s.ti - C.st)] w fun e w' => e = .returned (.int .i64 (-64)) ∧ w = w' from by have := c_l00Max (-64) (s.ti - C.st) w; rwa [show max (-64) (s.ti - C.st) = -64 by omega] at this)
  have hne : (-64 != s.ti) = true := by rw [bne_iff_ne]; exact ENE
  have EN := hid EN0
  have EX := hid (show inW C B s t = lightW B s t by unfold inW; rw [ES, if_neg (by omega)])
  have EU := hid (show upW C s t = false by unfold upW; rw [ES]; exact decide_eq_false (by omega))
  clear ES EN0 b0 ET ENE
  have hwr1 : IntKind.i64.wrap s.ti = s.ti := by have := hs.ti; rw [IntWalk.i64_in] <;> omega
  have hwr2 : IntKind.i64.wrap t.he = t.he := by have := ht.he; rw [IntWalk.i64_in] <;> omega
  have CP := hid (fun w => fun b hA => c_l02Pass (tiltB B s.ti) (hB.tilt hs.ti.1 hs.ti.2) t.he ht.he.1 ht.he.2 b 0 w hA)
  have ra := fun wx => run_mul (T := 22) ht.li.fin (pass_fin (hB.tilt hs.ti.1 hs.ti.2) ht.he.1 ht.he.2).all.fin wx
  have LX := hid (show lightW B s t = fmul t.li (passW (tiltB B s.ti) t.he) from rfl)
  rw [LX.out] at h3
  have g3 := (show (FloatKind.f32.format.order (fmul t.li (passW (tiltB B s.ti) t.he)) C.hi == some .gt) = false from h3)
  rw [LX.out] at h4
  have g4 := (show (FloatKind.f32.format.order (fmul t.li (passW (tiltB B s.ti) t.he)) C.lo == some .lt) = true from h4)
  generalize passW (tiltB B s.ti) t.he = pz at *
  generalize hxx : fmul t.li pz = x at *
  have XX := hid hxx
  have EX2 := hid (EX.out.trans LX.out)
  clear hxx
  have d0 : 0 < s.so := by omega
  have d1 : ¬ 0 < s.so - 1 := by omega
  have d3 : ¬ 1 < s.so := by omega
  have d9 : ¬ 0 < s.wa := by omega
  have H1 := hid h1
  clear h1
  have H2 := hid h2
  clear h2
  have g0 := (show (FloatKind.f32.format.order t.gu C.wi == some .gt) = false from hg)
  have HZB := hid (size_blind B)
  have CL := hid hA.lt
  have TL := hid hT.lt
  obtain ⟨w0, hw0⟩ : ∃ w0, w0 = (((w.alloc (.cells (bcells B) 37)).alloc (.cells (stcells s) 39)).alloc (.cells #[.int .i16 0, .int .i8 0, .int .i8 0] 39)) := ⟨_, rfl⟩
  have BL0 : Hid (Below w.heap.size w w0) := hid (by rw [hw0]; exact (((Below.refl _ _).alloc (Nat.le_refl _) _).alloc (by simp) _).alloc (by simp; omega) _)
  have HB0 : Hid (w0.heap[w.heap.size]? = some (.cells (bcells B) 37 (0, 0))) := hid (by rw [hw0]; exact (blk_past _ _ _ (by simp <;> omega)).trans ((blk_past _ _ _ (by simp <;> omega)).trans (blk_at _ _ _ rfl)))
  have HS0 : Hid (w0.heap[w.heap.size + 1]? = some (.cells (stcells s) 39 (0, 0))) := hid (by rw [hw0]; exact (blk_past _ _ _ (by simp <;> omega)).trans (blk_at _ _ _ (by simp)))
  have TA0 := hid (hT.below BL0.out)
  have HR0 : Hid (w0.heap[w.heap.size + 1 + 1]? = some (.cells zSt 39 (0, 0))) := hid (by rw [hw0]; exact blk_at _ _ _ (by simp))
  have CA0 := hid (hA.below BL0.out)
  have W0 := hid hw0
  have HC := hid hC
  have HBB := hid hB
  have HSS := hid hs
  have HTT := hid ht
  have b1 := hC.st
  have b2 := hC.de
  have b3 := hC.ca
  have b4 := hs.ti
  have b5 := hs.wa
  have b6 := hs.so
  have b7 := ht.he
  clear hC hB hs ht hA hw0 hT
  go_enter Try.func67, Try.ntmps67
  go_wp2_with fail
  rw [← W0.out]
  refine wp_region_below (by kernel_rfl) (by kernel_rfl) ?_
  repeat (first | (refine wpQuiet_load_cell rfl 22 _ rfl ⟨b, o + 1, none⟩ rfl (.float .f32 t.gu) _ (fun wx hwx => (TA0.out.below hwx.out).gu) Try.underlying22 rfl ?_) | (refine wpQuiet_load_cell rfl 22 _ rfl ⟨c, 2, none⟩ rfl (.float .f32 C.wi) _ (fun wx hwx => (CA0.out.below hwx.out).wi) Try.underlying22 rfl ?_) | (refine wpQuiet_step (fun K hK => ?_); go_simp; first | (refine hK _ ?_; clear hK K) | (refine ⟨_, fun _ _ => rfl, hK _ ?_⟩; clear hK K)))
  refine wpQuiet_nil ?_
  intro w1 h1
  replace h1 := h1.out
  have HB1 := hid ((h1.block _ (block_lt HB0.out)).trans HB0.out)
  have HS1 := hid ((h1.block _ (block_lt HS0.out)).trans HS0.out)
  have HR1 := hid ((h1.block _ (block_lt HR0.out)).trans HR0.out)
  have CA1 := hid (CA0.out.below h1)
  have TA1 := hid (TA0.out.below h1)
  have BL1 := hid (below_trans BL0.out h1 BL0.out.size)
  clear h1
  have c0 := CA1.out.lo
  have c1 := CA1.out.hi
  have c2 := CA1.out.wi
  have c3 := CA1.out.st
  have c4 := CA1.out.de
  have c5 := CA1.out.ca
  have t0 := TA1.out.li
  have t1 := TA1.out.gu
  have t2 := TA1.out.he
  have s0 := cell_of_row _ (w.heap.size + 1) 0 _ _ _ HS1.out
  have f0 := frozen_of_row w1 (w.heap.size + 1) 0 _ _ HS1.out
  have s1 := cell_of_row _ (w.heap.size + 1) 1 _ _ _ HS1.out
  have f1 := frozen_of_row w1 (w.heap.size + 1) 1 _ _ HS1.out
  have s2 := cell_of_row _ (w.heap.size + 1) 2 _ _ _ HS1.out
  have f2 := frozen_of_row w1 (w.heap.size + 1) 2 _ _ HS1.out
  simp only [stcells] at s0 s1 s2
  replace s0 : w1.cell? ⟨w.heap.size + 1, 0, none⟩ = some (.int .i16 s.ti) := s0
  replace s1 : w1.cell? ⟨w.heap.size + 1, 1, none⟩ = some (.int .i8 s.wa) := s1
  replace s2 : w1.cell? ⟨w.heap.size + 1, 2, none⟩ = some (.int .i8 s.so) := s2
  have q3 := (show w1.cell? ⟨w.heap.size, 3, none⟩ = some (.int .i16 B.ti) from cell_of_row _ (w.heap.size) 3 _ _ _ HB1.out)
  have qf := frozen_of_row w1 (w.heap.size) 3 _ _ HB1.out
  obtain ⟨w2, hw2⟩ : ∃ w2, w2 = w1.setCell ⟨w.heap.size + 1, 2, none⟩ (.int .i8 (s.so - 1)) := ⟨_, rfl⟩
  have HB2 := hid (show w2.heap[w.heap.size]? = _ from hw2 ▸ blk_set HB1.out (by omega) _)
  have HS2 := hid (hw2 ▸ st_set2 HS1.out (s.so - 1))
  have HR2 := hid (show w2.heap[w.heap.size + 1 + 1]? = _ from hw2 ▸ blk_set HR1.out (by omega) _)
  have CA2 := hid (show CtlAt w2 c C from hw2 ▸ ctl_set CA1.out (by have := CL.out; omega) _)
  have TA2 := hid (show TckAt w2 b o t from hw2 ▸ tck_set TA1.out (by have := TL.out; omega) _)
  have BL2 := hid (show Below w.heap.size w w2 from hw2 ▸ BL1.out.setCell (by simp) _)
  have W2 := hid hw2
  clear hw2
  obtain ⟨w3, hw3⟩ : ∃ w3, w3 = w2.setCell ⟨w.heap.size, 3, none⟩ (.int .i16 s.ti) := ⟨_, rfl⟩
  have HB3 : Hid (w3.heap[w.heap.size]? = some (.cells (bcells (tiltB B s.ti)) 37 (0, 0))) := hid (hw3 ▸ heap_setCell_same w2 (w.heap.size) 3 _ _ _ HB2.out)
  have HS3 := hid (show w3.heap[w.heap.size + 1]? = _ from hw3 ▸ blk_set HS2.out (by omega) _)
  have HR3 := hid (show w3.heap[w.heap.size + 1 + 1]? = _ from hw3 ▸ blk_set HR2.out (by omega) _)
  have CA3 := hid (show CtlAt w3 c C from hw3 ▸ ctl_set CA2.out (by have := CL.out; omega) _)
  have TA3 := hid (show TckAt w3 b o t from hw3 ▸ tck_set TA2.out (by have := TL.out; omega) _)
  have BL3 := hid (show Below w.heap.size w w3 from hw3 ▸ BL2.out.setCell (by simp) _)
  have W3 := hid hw3
  clear hw3
  go_wp2_with fail
  rw [← W2.out, ← W3.out]
  clear c0 c1 c2 c3 c4 c5 t0 t1 t2 s0 s1 s2 f0 f1 f2
  clear q3 qf d0 d1 d3
  refine wp_region_below (by kernel_rfl) (by kernel_rfl) ?_
  repeat (first | (refine wpQuiet_load_cell rfl 22 _ rfl ⟨b, o, none⟩ rfl (.float .f32 t.li) _ (fun wx hwx => (TA3.out.below hwx.out).li) Try.underlying22 rfl ?_) | (refine wpQuiet_load_cell rfl 23 _ rfl ⟨b, o + 2, none⟩ rfl (.int .i8 t.he) _ (fun wx hwx => (TA3.out.below hwx.out).he) Try.underlying23 rfl ?_) | (refine wpQuiet_step (fun K hK => ?_); go_simp; first | (refine hK _ ?_; clear hK K) | (refine ⟨_, fun _ _ => rfl, hK _ ?_⟩; clear hK K) | (apply Exists.intro; refine ⟨fun wx hwx => ?_, hK _ ?_⟩; (first | (exact quiet_below hwx (CP.out _ _ (BldAt.of_block ((hwx.out.block _ (block_lt HB3.out)).trans HB3.out))))); clear hK K)))
  refine wpQuiet_nil ?_
  intro w4 h4
  replace h4 := h4.out
  have HB4 := hid ((h4.block _ (block_lt HB3.out)).trans HB3.out)
  have HS4 := hid ((h4.block _ (block_lt HS3.out)).trans HS3.out)
  have HR4 := hid ((h4.block _ (block_lt HR3.out)).trans HR3.out)
  have CA4 := hid (CA3.out.below h4)
  have TA4 := hid (TA3.out.below h4)
  have BL4 := hid (below_trans BL3.out h4 BL3.out.size)
  clear h4
  have c0 := CA4.out.lo
  have c1 := CA4.out.hi
  have c2 := CA4.out.wi
  have c3 := CA4.out.st
  have c4 := CA4.out.de
  have c5 := CA4.out.ca
  have t0 := TA4.out.li
  have t1 := TA4.out.gu
  have t2 := TA4.out.he
  have s0 := cell_of_row _ (w.heap.size + 1) 0 _ _ _ HS4.out
  have f0 := frozen_of_row w4 (w.heap.size + 1) 0 _ _ HS4.out
  have s1 := cell_of_row _ (w.heap.size + 1) 1 _ _ _ HS4.out
  have f1 := frozen_of_row w4 (w.heap.size + 1) 1 _ _ HS4.out
  have s2 := cell_of_row _ (w.heap.size + 1) 2 _ _ _ HS4.out
  have f2 := frozen_of_row w4 (w.heap.size + 1) 2 _ _ HS4.out
  simp only [stcells] at s0 s1 s2
  replace s0 : w4.cell? ⟨w.heap.size + 1, 0, none⟩ = some (.int .i16 s.ti) := s0
  replace s1 : w4.cell? ⟨w.heap.size + 1, 1, none⟩ = some (.int .i8 s.wa) := s1
  replace s2 : w4.cell? ⟨w.heap.size + 1, 2, none⟩ = some (.int .i8 (s.so - 1)) := s2
  have r0 := (show w4.cell? ⟨w.heap.size + 1 + 1, 0, none⟩ = some (.int .i16 0) from cell_of_row _ (w.heap.size + 1 + 1) 0 _ _ _ HR4.out)
  have x0 := frozen_of_row w4 (w.heap.size + 1 + 1) 0 _ _ HR4.out
  have r1 := (show w4.cell? ⟨w.heap.size + 1 + 1, 1, none⟩ = some (.int .i8 0) from cell_of_row _ (w.heap.size + 1 + 1) 1 _ _ _ HR4.out)
  have x1 := frozen_of_row w4 (w.heap.size + 1 + 1) 1 _ _ HR4.out
  have r2 := (show w4.cell? ⟨w.heap.size + 1 + 1, 2, none⟩ = some (.int .i8 0) from cell_of_row _ (w.heap.size + 1 + 1) 2 _ _ _ HR4.out)
  have x2 := frozen_of_row w4 (w.heap.size + 1 + 1) 2 _ _ HR4.out
  go_wp2_with (go_at_call 140; refine (CM.out _).mono ?_; rintro e w' ⟨rfl, rfl⟩)
  refine bodyPost_ret (v := .tuple #[.agg #[.int .i16 (-64), .int .i8 (C.de), .int .i8 (s.so - 1)], .float .f32 x]) (by simp [results, Try.results67, go_sem, *]) rfl ⟨?_, (((((BL4.out.setCell (by simp <;> omega) _).setCell (by simp <;> omega) _).setCell (by simp <;> omega) _).setCell (by simp <;> omega) _).setCell (by simp <;> omega) _)⟩
  rw [EN.out, EX2.out]; rfl
set_option maxHeartbeats 400000 in
theorem c_once_al2 (C : Ctl) (hC : OkC C) (B : Bld) (hB : OkB B) (s : Sta) (hs : OkS s) (t : Tck) (ht : OkT t) (c b o : Nat) (w : World) (hA : CtlAt w c C) (hT : TckAt w b o t) (hg : fGt t.gu C.wi = false) (h1 : s.so = 1) (h2 : s.wa = 0) (h3 : fGt (lightW B s t) C.hi = false) (h4 : fLt (lightW B s t) C.lo = true) (h5 : s.ti = -64) :
    Calls Try.prog 67 #[.pointer (some ⟨c, 0, none⟩), .agg (bcells B), .agg (stcells s), .pointer (some ⟨b, o, none⟩)] w fun e w' => e = .returned (.tuple #[.agg (stcells (nextW C B s t)), .float .f32 (inW C B s t)]) ∧ Below w.heap.size w w' := by
  have b0 := hC.st
  have ES : stormW C s t = s.so - 1 := by unfold stormW; rw [if_neg (by simp [hg])]; rw [if_pos (by omega)]
  have ET : turnW C s (lightW B s t) = -64 := by unfold turnW; rw [if_neg (by simp [h3]), if_pos h4]; omega
  have ENE : -64 = s.ti := by omega
  have EN0 : nextW C B s t = ⟨s.ti, s.wa, s.so - 1⟩ := by unfold nextW; rw [ES, if_neg (by omega), if_neg (by omega), ET, if_pos ENE]
  have CM := hid (fun w => show Calls Try.prog 140 #[.int .i64 (-64), .int .i64 (s.ti - C.st)] w fun e w' => e = .returned (.int .i64 (-64)) ∧ w = w' from by have := c_l00Max (-64) (s.ti - C.st) w; rwa [show max (-64) (s.ti - C.st) = -64 by omega] at this)
  have hne : (-64 != s.ti) = false := by rw [bne_eq_false_iff_eq]; exact ENE
  have EN := hid EN0
  have EX := hid (show inW C B s t = lightW B s t by unfold inW; rw [ES, if_neg (by omega)])
  have EU := hid (show upW C s t = false by unfold upW; rw [ES]; exact decide_eq_false (by omega))
  clear ES EN0 b0 ET ENE
  have hwr1 : IntKind.i64.wrap s.ti = s.ti := by have := hs.ti; rw [IntWalk.i64_in] <;> omega
  have hwr2 : IntKind.i64.wrap t.he = t.he := by have := ht.he; rw [IntWalk.i64_in] <;> omega
  have CP := hid (fun w => fun b hA => c_l02Pass (tiltB B s.ti) (hB.tilt hs.ti.1 hs.ti.2) t.he ht.he.1 ht.he.2 b 0 w hA)
  have ra := fun wx => run_mul (T := 22) ht.li.fin (pass_fin (hB.tilt hs.ti.1 hs.ti.2) ht.he.1 ht.he.2).all.fin wx
  have LX := hid (show lightW B s t = fmul t.li (passW (tiltB B s.ti) t.he) from rfl)
  rw [LX.out] at h3
  have g3 := (show (FloatKind.f32.format.order (fmul t.li (passW (tiltB B s.ti) t.he)) C.hi == some .gt) = false from h3)
  rw [LX.out] at h4
  have g4 := (show (FloatKind.f32.format.order (fmul t.li (passW (tiltB B s.ti) t.he)) C.lo == some .lt) = true from h4)
  generalize passW (tiltB B s.ti) t.he = pz at *
  generalize hxx : fmul t.li pz = x at *
  have XX := hid hxx
  have EX2 := hid (EX.out.trans LX.out)
  clear hxx
  have d0 : 0 < s.so := by omega
  have d1 : ¬ 0 < s.so - 1 := by omega
  have d3 : ¬ 1 < s.so := by omega
  have d9 : ¬ 0 < s.wa := by omega
  have H1 := hid h1
  clear h1
  have H2 := hid h2
  clear h2
  have m1 : s.ti - C.st < -64 := by have := hC.st; omega
  have H5 := hid h5
  clear h5
  have g0 := (show (FloatKind.f32.format.order t.gu C.wi == some .gt) = false from hg)
  have HZB := hid (size_blind B)
  have CL := hid hA.lt
  have TL := hid hT.lt
  obtain ⟨w0, hw0⟩ : ∃ w0, w0 = (((w.alloc (.cells (bcells B) 37)).alloc (.cells (stcells s) 39)).alloc (.cells #[.int .i16 0, .int .i8 0, .int .i8 0] 39)) := ⟨_, rfl⟩
  have BL0 : Hid (Below w.heap.size w w0) := hid (by rw [hw0]; exact (((Below.refl _ _).alloc (Nat.le_refl _) _).alloc (by simp) _).alloc (by simp; omega) _)
  have HB0 : Hid (w0.heap[w.heap.size]? = some (.cells (bcells B) 37 (0, 0))) := hid (by rw [hw0]; exact (blk_past _ _ _ (by simp <;> omega)).trans ((blk_past _ _ _ (by simp <;> omega)).trans (blk_at _ _ _ rfl)))
  have HS0 : Hid (w0.heap[w.heap.size + 1]? = some (.cells (stcells s) 39 (0, 0))) := hid (by rw [hw0]; exact (blk_past _ _ _ (by simp <;> omega)).trans (blk_at _ _ _ (by simp)))
  have TA0 := hid (hT.below BL0.out)
  have HR0 : Hid (w0.heap[w.heap.size + 1 + 1]? = some (.cells zSt 39 (0, 0))) := hid (by rw [hw0]; exact blk_at _ _ _ (by simp))
  have CA0 := hid (hA.below BL0.out)
  have W0 := hid hw0
  have HC := hid hC
  have HBB := hid hB
  have HSS := hid hs
  have HTT := hid ht
  have b1 := hC.st
  have b2 := hC.de
  have b3 := hC.ca
  have b4 := hs.ti
  have b5 := hs.wa
  have b6 := hs.so
  have b7 := ht.he
  clear hC hB hs ht hA hw0 hT
  go_enter Try.func67, Try.ntmps67
  go_wp2_with fail
  rw [← W0.out]
  refine wp_region_below (by kernel_rfl) (by kernel_rfl) ?_
  repeat (first | (refine wpQuiet_load_cell rfl 22 _ rfl ⟨b, o + 1, none⟩ rfl (.float .f32 t.gu) _ (fun wx hwx => (TA0.out.below hwx.out).gu) Try.underlying22 rfl ?_) | (refine wpQuiet_load_cell rfl 22 _ rfl ⟨c, 2, none⟩ rfl (.float .f32 C.wi) _ (fun wx hwx => (CA0.out.below hwx.out).wi) Try.underlying22 rfl ?_) | (refine wpQuiet_step (fun K hK => ?_); go_simp; first | (refine hK _ ?_; clear hK K) | (refine ⟨_, fun _ _ => rfl, hK _ ?_⟩; clear hK K)))
  refine wpQuiet_nil ?_
  intro w1 h1
  replace h1 := h1.out
  have HB1 := hid ((h1.block _ (block_lt HB0.out)).trans HB0.out)
  have HS1 := hid ((h1.block _ (block_lt HS0.out)).trans HS0.out)
  have HR1 := hid ((h1.block _ (block_lt HR0.out)).trans HR0.out)
  have CA1 := hid (CA0.out.below h1)
  have TA1 := hid (TA0.out.below h1)
  have BL1 := hid (below_trans BL0.out h1 BL0.out.size)
  clear h1
  have c0 := CA1.out.lo
  have c1 := CA1.out.hi
  have c2 := CA1.out.wi
  have c3 := CA1.out.st
  have c4 := CA1.out.de
  have c5 := CA1.out.ca
  have t0 := TA1.out.li
  have t1 := TA1.out.gu
  have t2 := TA1.out.he
  have s0 := cell_of_row _ (w.heap.size + 1) 0 _ _ _ HS1.out
  have f0 := frozen_of_row w1 (w.heap.size + 1) 0 _ _ HS1.out
  have s1 := cell_of_row _ (w.heap.size + 1) 1 _ _ _ HS1.out
  have f1 := frozen_of_row w1 (w.heap.size + 1) 1 _ _ HS1.out
  have s2 := cell_of_row _ (w.heap.size + 1) 2 _ _ _ HS1.out
  have f2 := frozen_of_row w1 (w.heap.size + 1) 2 _ _ HS1.out
  simp only [stcells] at s0 s1 s2
  replace s0 : w1.cell? ⟨w.heap.size + 1, 0, none⟩ = some (.int .i16 s.ti) := s0
  replace s1 : w1.cell? ⟨w.heap.size + 1, 1, none⟩ = some (.int .i8 s.wa) := s1
  replace s2 : w1.cell? ⟨w.heap.size + 1, 2, none⟩ = some (.int .i8 s.so) := s2
  have q3 := (show w1.cell? ⟨w.heap.size, 3, none⟩ = some (.int .i16 B.ti) from cell_of_row _ (w.heap.size) 3 _ _ _ HB1.out)
  have qf := frozen_of_row w1 (w.heap.size) 3 _ _ HB1.out
  obtain ⟨w2, hw2⟩ : ∃ w2, w2 = w1.setCell ⟨w.heap.size + 1, 2, none⟩ (.int .i8 (s.so - 1)) := ⟨_, rfl⟩
  have HB2 := hid (show w2.heap[w.heap.size]? = _ from hw2 ▸ blk_set HB1.out (by omega) _)
  have HS2 := hid (hw2 ▸ st_set2 HS1.out (s.so - 1))
  have HR2 := hid (show w2.heap[w.heap.size + 1 + 1]? = _ from hw2 ▸ blk_set HR1.out (by omega) _)
  have CA2 := hid (show CtlAt w2 c C from hw2 ▸ ctl_set CA1.out (by have := CL.out; omega) _)
  have TA2 := hid (show TckAt w2 b o t from hw2 ▸ tck_set TA1.out (by have := TL.out; omega) _)
  have BL2 := hid (show Below w.heap.size w w2 from hw2 ▸ BL1.out.setCell (by simp) _)
  have W2 := hid hw2
  clear hw2
  obtain ⟨w3, hw3⟩ : ∃ w3, w3 = w2.setCell ⟨w.heap.size, 3, none⟩ (.int .i16 s.ti) := ⟨_, rfl⟩
  have HB3 : Hid (w3.heap[w.heap.size]? = some (.cells (bcells (tiltB B s.ti)) 37 (0, 0))) := hid (hw3 ▸ heap_setCell_same w2 (w.heap.size) 3 _ _ _ HB2.out)
  have HS3 := hid (show w3.heap[w.heap.size + 1]? = _ from hw3 ▸ blk_set HS2.out (by omega) _)
  have HR3 := hid (show w3.heap[w.heap.size + 1 + 1]? = _ from hw3 ▸ blk_set HR2.out (by omega) _)
  have CA3 := hid (show CtlAt w3 c C from hw3 ▸ ctl_set CA2.out (by have := CL.out; omega) _)
  have TA3 := hid (show TckAt w3 b o t from hw3 ▸ tck_set TA2.out (by have := TL.out; omega) _)
  have BL3 := hid (show Below w.heap.size w w3 from hw3 ▸ BL2.out.setCell (by simp) _)
  have W3 := hid hw3
  clear hw3
  go_wp2_with fail
  rw [← W2.out, ← W3.out]
  clear c0 c1 c2 c3 c4 c5 t0 t1 t2 s0 s1 s2 f0 f1 f2
  clear q3 qf d0 d1 d3
  refine wp_region_below (by kernel_rfl) (by kernel_rfl) ?_
  repeat (first | (refine wpQuiet_load_cell rfl 22 _ rfl ⟨b, o, none⟩ rfl (.float .f32 t.li) _ (fun wx hwx => (TA3.out.below hwx.out).li) Try.underlying22 rfl ?_) | (refine wpQuiet_load_cell rfl 23 _ rfl ⟨b, o + 2, none⟩ rfl (.int .i8 t.he) _ (fun wx hwx => (TA3.out.below hwx.out).he) Try.underlying23 rfl ?_) | (refine wpQuiet_step (fun K hK => ?_); go_simp; first | (refine hK _ ?_; clear hK K) | (refine ⟨_, fun _ _ => rfl, hK _ ?_⟩; clear hK K) | (apply Exists.intro; refine ⟨fun wx hwx => ?_, hK _ ?_⟩; (first | (exact quiet_below hwx (CP.out _ _ (BldAt.of_block ((hwx.out.block _ (block_lt HB3.out)).trans HB3.out))))); clear hK K)))
  refine wpQuiet_nil ?_
  intro w4 h4
  replace h4 := h4.out
  have HB4 := hid ((h4.block _ (block_lt HB3.out)).trans HB3.out)
  have HS4 := hid ((h4.block _ (block_lt HS3.out)).trans HS3.out)
  have HR4 := hid ((h4.block _ (block_lt HR3.out)).trans HR3.out)
  have CA4 := hid (CA3.out.below h4)
  have TA4 := hid (TA3.out.below h4)
  have BL4 := hid (below_trans BL3.out h4 BL3.out.size)
  clear h4
  have c0 := CA4.out.lo
  have c1 := CA4.out.hi
  have c2 := CA4.out.wi
  have c3 := CA4.out.st
  have c4 := CA4.out.de
  have c5 := CA4.out.ca
  have t0 := TA4.out.li
  have t1 := TA4.out.gu
  have t2 := TA4.out.he
  have s0 := cell_of_row _ (w.heap.size + 1) 0 _ _ _ HS4.out
  have f0 := frozen_of_row w4 (w.heap.size + 1) 0 _ _ HS4.out
  have s1 := cell_of_row _ (w.heap.size + 1) 1 _ _ _ HS4.out
  have f1 := frozen_of_row w4 (w.heap.size + 1) 1 _ _ HS4.out
  have s2 := cell_of_row _ (w.heap.size + 1) 2 _ _ _ HS4.out
  have f2 := frozen_of_row w4 (w.heap.size + 1) 2 _ _ HS4.out
  simp only [stcells] at s0 s1 s2
  replace s0 : w4.cell? ⟨w.heap.size + 1, 0, none⟩ = some (.int .i16 s.ti) := s0
  replace s1 : w4.cell? ⟨w.heap.size + 1, 1, none⟩ = some (.int .i8 s.wa) := s1
  replace s2 : w4.cell? ⟨w.heap.size + 1, 2, none⟩ = some (.int .i8 (s.so - 1)) := s2
  have r0 := (show w4.cell? ⟨w.heap.size + 1 + 1, 0, none⟩ = some (.int .i16 0) from cell_of_row _ (w.heap.size + 1 + 1) 0 _ _ _ HR4.out)
  have x0 := frozen_of_row w4 (w.heap.size + 1 + 1) 0 _ _ HR4.out
  have r1 := (show w4.cell? ⟨w.heap.size + 1 + 1, 1, none⟩ = some (.int .i8 0) from cell_of_row _ (w.heap.size + 1 + 1) 1 _ _ _ HR4.out)
  have x1 := frozen_of_row w4 (w.heap.size + 1 + 1) 1 _ _ HR4.out
  have r2 := (show w4.cell? ⟨w.heap.size + 1 + 1, 2, none⟩ = some (.int .i8 0) from cell_of_row _ (w.heap.size + 1 + 1) 2 _ _ _ HR4.out)
  have x2 := frozen_of_row w4 (w.heap.size + 1 + 1) 2 _ _ HR4.out
  go_wp2_with (go_at_call 140; refine (CM.out _).mono ?_; rintro e w' ⟨rfl, rfl⟩)
  refine bodyPost_ret (v := .tuple #[.agg #[.int .i16 (s.ti), .int .i8 (s.wa), .int .i8 (s.so - 1)], .float .f32 x]) (by simp [results, Try.results67, go_sem, *]) rfl ⟨?_, (((BL4.out.setCell (by simp <;> omega) _).setCell (by simp <;> omega) _).setCell (by simp <;> omega) _)⟩
  rw [EN.out, EX2.out]; rfl
set_option maxHeartbeats 400000 in
theorem c_once_an (C : Ctl) (hC : OkC C) (B : Bld) (hB : OkB B) (s : Sta) (hs : OkS s) (t : Tck) (ht : OkT t) (c b o : Nat) (w : World) (hA : CtlAt w c C) (hT : TckAt w b o t) (hg : fGt t.gu C.wi = false) (h1 : s.so = 1) (h2 : s.wa = 0) (h3 : fGt (lightW B s t) C.hi = false) (h4 : fLt (lightW B s t) C.lo = false) :
    Calls Try.prog 67 #[.pointer (some ⟨c, 0, none⟩), .agg (bcells B), .agg (stcells s), .pointer (some ⟨b, o, none⟩)] w fun e w' => e = .returned (.tuple #[.agg (stcells (nextW C B s t)), .float .f32 (inW C B s t)]) ∧ Below w.heap.size w w' := by
  have b0 := hC.st
  have ES : stormW C s t = s.so - 1 := by unfold stormW; rw [if_neg (by simp [hg])]; rw [if_pos (by omega)]
  have ET : turnW C s (lightW B s t) = s.ti := by unfold turnW; rw [if_neg (by simp [h3]), if_neg (by simp [h4])]
  have EN0 : nextW C B s t = ⟨s.ti, s.wa, s.so - 1⟩ := by unfold nextW; rw [ES, if_neg (by omega), if_neg (by omega), ET, if_pos rfl]
  have EN := hid EN0
  have EX := hid (show inW C B s t = lightW B s t by unfold inW; rw [ES, if_neg (by omega)])
  have EU := hid (show upW C s t = false by unfold upW; rw [ES]; exact decide_eq_false (by omega))
  clear ES EN0 b0 ET
  have hwr1 : IntKind.i64.wrap s.ti = s.ti := by have := hs.ti; rw [IntWalk.i64_in] <;> omega
  have hwr2 : IntKind.i64.wrap t.he = t.he := by have := ht.he; rw [IntWalk.i64_in] <;> omega
  have CP := hid (fun w => fun b hA => c_l02Pass (tiltB B s.ti) (hB.tilt hs.ti.1 hs.ti.2) t.he ht.he.1 ht.he.2 b 0 w hA)
  have ra := fun wx => run_mul (T := 22) ht.li.fin (pass_fin (hB.tilt hs.ti.1 hs.ti.2) ht.he.1 ht.he.2).all.fin wx
  have LX := hid (show lightW B s t = fmul t.li (passW (tiltB B s.ti) t.he) from rfl)
  rw [LX.out] at h3
  have g3 := (show (FloatKind.f32.format.order (fmul t.li (passW (tiltB B s.ti) t.he)) C.hi == some .gt) = false from h3)
  rw [LX.out] at h4
  have g4 := (show (FloatKind.f32.format.order (fmul t.li (passW (tiltB B s.ti) t.he)) C.lo == some .lt) = false from h4)
  generalize passW (tiltB B s.ti) t.he = pz at *
  generalize hxx : fmul t.li pz = x at *
  have XX := hid hxx
  have EX2 := hid (EX.out.trans LX.out)
  clear hxx
  have d0 : 0 < s.so := by omega
  have d1 : ¬ 0 < s.so - 1 := by omega
  have d3 : ¬ 1 < s.so := by omega
  have d9 : ¬ 0 < s.wa := by omega
  have H1 := hid h1
  clear h1
  have H2 := hid h2
  clear h2
  have g0 := (show (FloatKind.f32.format.order t.gu C.wi == some .gt) = false from hg)
  have HZB := hid (size_blind B)
  have CL := hid hA.lt
  have TL := hid hT.lt
  obtain ⟨w0, hw0⟩ : ∃ w0, w0 = (((w.alloc (.cells (bcells B) 37)).alloc (.cells (stcells s) 39)).alloc (.cells #[.int .i16 0, .int .i8 0, .int .i8 0] 39)) := ⟨_, rfl⟩
  have BL0 : Hid (Below w.heap.size w w0) := hid (by rw [hw0]; exact (((Below.refl _ _).alloc (Nat.le_refl _) _).alloc (by simp) _).alloc (by simp; omega) _)
  have HB0 : Hid (w0.heap[w.heap.size]? = some (.cells (bcells B) 37 (0, 0))) := hid (by rw [hw0]; exact (blk_past _ _ _ (by simp <;> omega)).trans ((blk_past _ _ _ (by simp <;> omega)).trans (blk_at _ _ _ rfl)))
  have HS0 : Hid (w0.heap[w.heap.size + 1]? = some (.cells (stcells s) 39 (0, 0))) := hid (by rw [hw0]; exact (blk_past _ _ _ (by simp <;> omega)).trans (blk_at _ _ _ (by simp)))
  have TA0 := hid (hT.below BL0.out)
  have HR0 : Hid (w0.heap[w.heap.size + 1 + 1]? = some (.cells zSt 39 (0, 0))) := hid (by rw [hw0]; exact blk_at _ _ _ (by simp))
  have CA0 := hid (hA.below BL0.out)
  have W0 := hid hw0
  have HC := hid hC
  have HBB := hid hB
  have HSS := hid hs
  have HTT := hid ht
  have b1 := hC.st
  have b2 := hC.de
  have b3 := hC.ca
  have b4 := hs.ti
  have b5 := hs.wa
  have b6 := hs.so
  have b7 := ht.he
  clear hC hB hs ht hA hw0 hT
  go_enter Try.func67, Try.ntmps67
  go_wp2_with fail
  rw [← W0.out]
  refine wp_region_below (by kernel_rfl) (by kernel_rfl) ?_
  repeat (first | (refine wpQuiet_load_cell rfl 22 _ rfl ⟨b, o + 1, none⟩ rfl (.float .f32 t.gu) _ (fun wx hwx => (TA0.out.below hwx.out).gu) Try.underlying22 rfl ?_) | (refine wpQuiet_load_cell rfl 22 _ rfl ⟨c, 2, none⟩ rfl (.float .f32 C.wi) _ (fun wx hwx => (CA0.out.below hwx.out).wi) Try.underlying22 rfl ?_) | (refine wpQuiet_step (fun K hK => ?_); go_simp; first | (refine hK _ ?_; clear hK K) | (refine ⟨_, fun _ _ => rfl, hK _ ?_⟩; clear hK K)))
  refine wpQuiet_nil ?_
  intro w1 h1
  replace h1 := h1.out
  have HB1 := hid ((h1.block _ (block_lt HB0.out)).trans HB0.out)
  have HS1 := hid ((h1.block _ (block_lt HS0.out)).trans HS0.out)
  have HR1 := hid ((h1.block _ (block_lt HR0.out)).trans HR0.out)
  have CA1 := hid (CA0.out.below h1)
  have TA1 := hid (TA0.out.below h1)
  have BL1 := hid (below_trans BL0.out h1 BL0.out.size)
  clear h1
  have c0 := CA1.out.lo
  have c1 := CA1.out.hi
  have c2 := CA1.out.wi
  have c3 := CA1.out.st
  have c4 := CA1.out.de
  have c5 := CA1.out.ca
  have t0 := TA1.out.li
  have t1 := TA1.out.gu
  have t2 := TA1.out.he
  have s0 := cell_of_row _ (w.heap.size + 1) 0 _ _ _ HS1.out
  have f0 := frozen_of_row w1 (w.heap.size + 1) 0 _ _ HS1.out
  have s1 := cell_of_row _ (w.heap.size + 1) 1 _ _ _ HS1.out
  have f1 := frozen_of_row w1 (w.heap.size + 1) 1 _ _ HS1.out
  have s2 := cell_of_row _ (w.heap.size + 1) 2 _ _ _ HS1.out
  have f2 := frozen_of_row w1 (w.heap.size + 1) 2 _ _ HS1.out
  simp only [stcells] at s0 s1 s2
  replace s0 : w1.cell? ⟨w.heap.size + 1, 0, none⟩ = some (.int .i16 s.ti) := s0
  replace s1 : w1.cell? ⟨w.heap.size + 1, 1, none⟩ = some (.int .i8 s.wa) := s1
  replace s2 : w1.cell? ⟨w.heap.size + 1, 2, none⟩ = some (.int .i8 s.so) := s2
  have q3 := (show w1.cell? ⟨w.heap.size, 3, none⟩ = some (.int .i16 B.ti) from cell_of_row _ (w.heap.size) 3 _ _ _ HB1.out)
  have qf := frozen_of_row w1 (w.heap.size) 3 _ _ HB1.out
  obtain ⟨w2, hw2⟩ : ∃ w2, w2 = w1.setCell ⟨w.heap.size + 1, 2, none⟩ (.int .i8 (s.so - 1)) := ⟨_, rfl⟩
  have HB2 := hid (show w2.heap[w.heap.size]? = _ from hw2 ▸ blk_set HB1.out (by omega) _)
  have HS2 := hid (hw2 ▸ st_set2 HS1.out (s.so - 1))
  have HR2 := hid (show w2.heap[w.heap.size + 1 + 1]? = _ from hw2 ▸ blk_set HR1.out (by omega) _)
  have CA2 := hid (show CtlAt w2 c C from hw2 ▸ ctl_set CA1.out (by have := CL.out; omega) _)
  have TA2 := hid (show TckAt w2 b o t from hw2 ▸ tck_set TA1.out (by have := TL.out; omega) _)
  have BL2 := hid (show Below w.heap.size w w2 from hw2 ▸ BL1.out.setCell (by simp) _)
  have W2 := hid hw2
  clear hw2
  obtain ⟨w3, hw3⟩ : ∃ w3, w3 = w2.setCell ⟨w.heap.size, 3, none⟩ (.int .i16 s.ti) := ⟨_, rfl⟩
  have HB3 : Hid (w3.heap[w.heap.size]? = some (.cells (bcells (tiltB B s.ti)) 37 (0, 0))) := hid (hw3 ▸ heap_setCell_same w2 (w.heap.size) 3 _ _ _ HB2.out)
  have HS3 := hid (show w3.heap[w.heap.size + 1]? = _ from hw3 ▸ blk_set HS2.out (by omega) _)
  have HR3 := hid (show w3.heap[w.heap.size + 1 + 1]? = _ from hw3 ▸ blk_set HR2.out (by omega) _)
  have CA3 := hid (show CtlAt w3 c C from hw3 ▸ ctl_set CA2.out (by have := CL.out; omega) _)
  have TA3 := hid (show TckAt w3 b o t from hw3 ▸ tck_set TA2.out (by have := TL.out; omega) _)
  have BL3 := hid (show Below w.heap.size w w3 from hw3 ▸ BL2.out.setCell (by simp) _)
  have W3 := hid hw3
  clear hw3
  go_wp2_with fail
  rw [← W2.out, ← W3.out]
  clear c0 c1 c2 c3 c4 c5 t0 t1 t2 s0 s1 s2 f0 f1 f2
  clear q3 qf d0 d1 d3
  refine wp_region_below (by kernel_rfl) (by kernel_rfl) ?_
  repeat (first | (refine wpQuiet_load_cell rfl 22 _ rfl ⟨b, o, none⟩ rfl (.float .f32 t.li) _ (fun wx hwx => (TA3.out.below hwx.out).li) Try.underlying22 rfl ?_) | (refine wpQuiet_load_cell rfl 23 _ rfl ⟨b, o + 2, none⟩ rfl (.int .i8 t.he) _ (fun wx hwx => (TA3.out.below hwx.out).he) Try.underlying23 rfl ?_) | (refine wpQuiet_step (fun K hK => ?_); go_simp; first | (refine hK _ ?_; clear hK K) | (refine ⟨_, fun _ _ => rfl, hK _ ?_⟩; clear hK K) | (apply Exists.intro; refine ⟨fun wx hwx => ?_, hK _ ?_⟩; (first | (exact quiet_below hwx (CP.out _ _ (BldAt.of_block ((hwx.out.block _ (block_lt HB3.out)).trans HB3.out))))); clear hK K)))
  refine wpQuiet_nil ?_
  intro w4 h4
  replace h4 := h4.out
  have HB4 := hid ((h4.block _ (block_lt HB3.out)).trans HB3.out)
  have HS4 := hid ((h4.block _ (block_lt HS3.out)).trans HS3.out)
  have HR4 := hid ((h4.block _ (block_lt HR3.out)).trans HR3.out)
  have CA4 := hid (CA3.out.below h4)
  have TA4 := hid (TA3.out.below h4)
  have BL4 := hid (below_trans BL3.out h4 BL3.out.size)
  clear h4
  have c0 := CA4.out.lo
  have c1 := CA4.out.hi
  have c2 := CA4.out.wi
  have c3 := CA4.out.st
  have c4 := CA4.out.de
  have c5 := CA4.out.ca
  have t0 := TA4.out.li
  have t1 := TA4.out.gu
  have t2 := TA4.out.he
  have s0 := cell_of_row _ (w.heap.size + 1) 0 _ _ _ HS4.out
  have f0 := frozen_of_row w4 (w.heap.size + 1) 0 _ _ HS4.out
  have s1 := cell_of_row _ (w.heap.size + 1) 1 _ _ _ HS4.out
  have f1 := frozen_of_row w4 (w.heap.size + 1) 1 _ _ HS4.out
  have s2 := cell_of_row _ (w.heap.size + 1) 2 _ _ _ HS4.out
  have f2 := frozen_of_row w4 (w.heap.size + 1) 2 _ _ HS4.out
  simp only [stcells] at s0 s1 s2
  replace s0 : w4.cell? ⟨w.heap.size + 1, 0, none⟩ = some (.int .i16 s.ti) := s0
  replace s1 : w4.cell? ⟨w.heap.size + 1, 1, none⟩ = some (.int .i8 s.wa) := s1
  replace s2 : w4.cell? ⟨w.heap.size + 1, 2, none⟩ = some (.int .i8 (s.so - 1)) := s2
  have r0 := (show w4.cell? ⟨w.heap.size + 1 + 1, 0, none⟩ = some (.int .i16 0) from cell_of_row _ (w.heap.size + 1 + 1) 0 _ _ _ HR4.out)
  have x0 := frozen_of_row w4 (w.heap.size + 1 + 1) 0 _ _ HR4.out
  have r1 := (show w4.cell? ⟨w.heap.size + 1 + 1, 1, none⟩ = some (.int .i8 0) from cell_of_row _ (w.heap.size + 1 + 1) 1 _ _ _ HR4.out)
  have x1 := frozen_of_row w4 (w.heap.size + 1 + 1) 1 _ _ HR4.out
  have r2 := (show w4.cell? ⟨w.heap.size + 1 + 1, 2, none⟩ = some (.int .i8 0) from cell_of_row _ (w.heap.size + 1 + 1) 2 _ _ _ HR4.out)
  have x2 := frozen_of_row w4 (w.heap.size + 1 + 1) 2 _ _ HR4.out
  go_wp2_with fail
  refine bodyPost_ret (v := .tuple #[.agg #[.int .i16 (s.ti), .int .i8 (s.wa), .int .i8 (s.so - 1)], .float .f32 x]) (by simp [results, Try.results67, go_sem, *]) rfl ⟨?_, (((BL4.out.setCell (by simp <;> omega) _).setCell (by simp <;> omega) _).setCell (by simp <;> omega) _)⟩
  rw [EN.out, EX2.out]; rfl
end Go.Proofs.Ytmjmgfojdomhlaa
