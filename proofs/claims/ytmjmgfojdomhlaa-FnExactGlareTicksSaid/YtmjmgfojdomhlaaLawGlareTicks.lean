/- FnExactGlareTicks returns true for all arguments: for each control, blind, state, each slice of ticks and each bound the program's GlareTicks and the reference's return the same, the program leaves its arguments as they were, and what it returns shares memory neither with them nor with what another call returns. No condition. -/
import Derived.Test.YtmjmgfojdomhlaaGlar
import Derived.Test.YtmjmgfojdomhlaaMarks
import Derived.Test.YtmjmgfojdomhlaaTail
import Derived.Test.YtmjmgfojdomhlaaLift
namespace Go.Proofs.Ytmjmgfojdomhlaa.lawGlareTicks
set_option maxRecDepth 20000
open Go.ChangeShapes Go.WideShapes Go.ChangeAt Go.RowKit Go.Proofs.Ytmjmgfojdomhlaa

theorem box_kept {w w2 : World} {b : Nat} {C : Array Value} {T : TypeId} {r : Option Nat} (h : w.heap[b]? = some (.cells C T (0, 0))) (hg : w.grownBy w2 r) (hne : r ≠ some b) : w2.heap[b]? = some (.cells C T (0, 0)) := (hg.block b (block_lt h) (fun e => hne e.symm)).trans h
theorem gtL_len (C : Ctl) (B : Bld) (s : Sta) (T : Nat → Tck) (n d : Nat) : (gtL C B s T n d).length ≤ 100 := by
  unfold gtL; split
  · next h =>
    have z : tkC C B s T n = 0 := by
      unfold gtC at h; split at h
      · assumption
      · exact h
    obtain ⟨_, _, _, _, z5⟩ := tkC_zero z
    have := glareK_len (glG (inK C B s T) d) n
    omega
  · simp
set_option maxHeartbeats 4000000 in
theorem walk (a0 : Ctl) (a1 : Bld) (a2 : Sta) (a3 : Option Addr) (n3 c3 : Nat) (P3 : Nat → Tck) (a4 : Nat) (w : World) (b0 : WfC a0) (b1 : WfB a1) (b2 : WfS a2) (o3 : TcksOk P3 n3) (r3 : RwsAny w a3 n3 3 (tcs P3)) (x4 : a4 < 4294967296) :
    Calls Try.prog 5 #[.agg (ccells a0), .agg (bcells a1), .agg (stcells a2), .slice a3 n3 c3, .float .f32 a4] w fun e w' => e = .returned (.bool true) ∧ Below w.heap.size w w' := by
  have hs0 : (Try.prog.info? 25).map (·.size) = some (ccells a0).size := by kernel_rfl
  have hs1 : (Try.prog.info? 28).map (·.size) = some (bcells a1).size := by kernel_rfl
  have hs2 : (Try.prog.info? 30).map (·.size) = some (stcells a2).size := by kernel_rfl
  have hB0 : (((w.alloc (.cells (ccells a0) 25)).alloc (.cells (bcells a1) 28)).alloc (.cells (stcells a2) 30)).heap[w.heap.size]? = some (.cells (ccells a0) 25 (0, 0)) := (blk_past _ _ _ (by simp; omega)).trans ((blk_past _ _ _ (by simp)).trans (blk_at _ _ _ rfl))
  have hB1 : (((w.alloc (.cells (ccells a0) 25)).alloc (.cells (bcells a1) 28)).alloc (.cells (stcells a2) 30)).heap[w.heap.size + 1]? = some (.cells (bcells a1) 28 (0, 0)) := (blk_past _ _ _ (by simp)).trans (blk_at _ _ _ (by simp))
  have hB2 : (((w.alloc (.cells (ccells a0) 25)).alloc (.cells (bcells a1) 28)).alloc (.cells (stcells a2) 30)).heap[w.heap.size + 1 + 1]? = some (.cells (stcells a2) 30 (0, 0)) := blk_at _ _ _ (by simp)
  have h0 : Below w.heap.size w (((w.alloc (.cells (ccells a0) 25)).alloc (.cells (bcells a1) 28)).alloc (.cells (stcells a2) 30)) := ((((Below.refl _ _).alloc (Nat.le_refl _) _).alloc (by simp) _).alloc (by simp; omega) _)
  have B0 := hid b0
  have B1 := hid b1
  have B2 := hid b2
  have O3 := hid o3
  have R3 := hid r3
  have X4 := hid x4
  have HS0 := hid hs0
  have HS1 := hid hs1
  have HS2 := hid hs2
  have HB0 := hid hB0
  have HB1 := hid hB1
  have HB2 := hid hB2
  have H0 := hid h0
  clear b0 b1 b2 o3 r3 x4 hs0 hs1 hs2 hB0 hB1 hB2 h0
  have HL := hid (show (gtL a0 a1 a2 P3 n3 a4).length ≤ 100 from gtL_len _ _ _ _ _ _)
  by_cases hn3 : n3 ≤ 1048576
  case neg =>
    have hm := R3.out.small
    go_enter Try.func5, Try.ntmps5
    go_wp2_with fail
    refine (c_szTickS_no _ _ _ hn3 hm _).mono ?_
    rintro e w' ⟨rfl, rfl⟩
    go_wp2
    go_ret
    exact ⟨rfl, H0.out⟩
  have X3 := hid (R3.out.rws hn3)
  have HN3 := hid hn3
  clear R3
  go_enter Try.func5, Try.ntmps5
  go_wp2_with fail
  refine (c_szTickS _ _ _ hn3 _).mono ?_
  rintro e w' ⟨rfl, rfl⟩
  have hl3 : (0 : Int) ≤ 1048576 - (n3 : Int) := by omega
  go_wp2_with fail
  refine wp_region_held (S := fun wx => wx.heap[w.heap.size]? = some (.cells (ccells a0) 25 (0, 0)) ∧ wx.heap[w.heap.size + 1]? = some (.cells (bcells a1) 28 (0, 0)) ∧ wx.heap[w.heap.size + 1 + 1]? = some (.cells (stcells a2) 30 (0, 0))) (by kernel_rfl) ?_
  refine genWorld (p := wpAnyH _ _ _ _ _ _ _ _) (w0 := ((((w.alloc (.cells (ccells a0) 25)).alloc (.cells (bcells a1) 28)).alloc (.cells (stcells a2) 30))).drew) (fun w1 hw1 => ?_)
  have h1 : Below ((((w.alloc (.cells (ccells a0) 25)).alloc (.cells (bcells a1) 28)).alloc (.cells (stcells a2) 30))).heap.size ((((w.alloc (.cells (ccells a0) 25)).alloc (.cells (bcells a1) 28)).alloc (.cells (stcells a2) 30))) w1 := hw1 ▸ (Below.refl _ _).drew
  clear hw1
  have E_1 := hid (below_trans H0.out h1 H0.out.size)
  have HB0_1 := hid ((h1.block (w.heap.size) (block_lt HB0.out)).trans HB0.out)
  have HB1_1 := hid ((h1.block (w.heap.size + 1) (block_lt HB1.out)).trans HB1.out)
  have HB2_1 := hid ((h1.block (w.heap.size + 1 + 1) (block_lt HB2.out)).trans HB2.out)
  clear h1
  refine wpAnyH_take (i := 0) (fuel := 14) rfl (by kernel_rfl) (by kernel_rfl) (by kernel_rfl) (fun c a w h => h) (yldRow rfl 25 _ rfl (w.heap.size) rfl 25 (ccells a0) (0, 0) _ (fun wx h => h.1) Try.underlying25 rfl HS0.out) ⟨HB0_1.out, HB1_1.out, HB2_1.out⟩ ?_
  refine wpAnyH_take (i := 2) (fuel := 13) rfl (by kernel_rfl) (by kernel_rfl) (by kernel_rfl) (fun c a w h => h) (yldRow rfl 28 _ rfl (w.heap.size + 1) rfl 28 (bcells a1) (0, 0) _ (fun wx h => h.2.1) Try.underlying28 rfl HS1.out) ⟨HB0_1.out, HB1_1.out, HB2_1.out⟩ ?_
  refine wpAnyH_take (i := 4) (fuel := 12) rfl (by kernel_rfl) (by kernel_rfl) (by kernel_rfl) (fun c a w h => h) (yldRow rfl 30 _ rfl (w.heap.size + 1 + 1) rfl 30 (stcells a2) (0, 0) _ (fun wx h => h.2.2) Try.underlying30 rfl HS2.out) ⟨HB0_1.out, HB1_1.out, HB2_1.out⟩ ?_
  refine wpAnyH_take (i := 6) (fuel := 11) rfl (by kernel_rfl) (by kernel_rfl) (by kernel_rfl) (fun c a w h => h) (yldMove rfl _ rfl) ⟨HB0_1.out, HB1_1.out, HB2_1.out⟩ ?_
  refine wpAnyH_take (i := 8) (fuel := 10) rfl (by kernel_rfl) (by kernel_rfl) (by kernel_rfl) (fun c a w h => h) (yldMove rfl _ rfl) ⟨HB0_1.out, HB1_1.out, HB2_1.out⟩ ?_
  refine wpAnyH_all (rs := [1]) (fuel := 9) (by kernel_rfl) (by simp) ?_
  intro i hi
  obtain rfl : i = 1 := by simpa using hi
  clear hi
  refine wpOpPlain rfl rfl ?_
  go_simp
  go_at_call 11
  refine (c_toControl a0 _).mono ?_
  rintro e w2 ⟨rfl, h2⟩
  have E_2 := hid (below_trans E_1.out h2 E_1.out.size)
  have HB0_2 := hid ((h2.block (w.heap.size) (block_lt HB0_1.out)).trans HB0_1.out)
  have HB1_2 := hid ((h2.block (w.heap.size + 1) (block_lt HB1_1.out)).trans HB1_1.out)
  have HB2_2 := hid ((h2.block (w.heap.size + 1 + 1) (block_lt HB2_1.out)).trans HB2_1.out)
  clear h2
  refine ⟨⟨HB0_2.out, HB1_2.out, HB2_2.out⟩, ?_⟩
  refine wpAnyH_all (rs := [3]) (fuel := 8) (by kernel_rfl) (by simp) ?_
  intro i hi
  obtain rfl : i = 3 := by simpa using hi
  clear hi
  refine wpOpPlain rfl rfl ?_
  go_simp
  go_at_call 12
  refine (c_toBlind a1 _).mono ?_
  rintro e w3 ⟨rfl, h3⟩
  have E_3 := hid (below_trans E_2.out h3 E_2.out.size)
  have HB0_3 := hid ((h3.block (w.heap.size) (block_lt HB0_2.out)).trans HB0_2.out)
  have HB1_3 := hid ((h3.block (w.heap.size + 1) (block_lt HB1_2.out)).trans HB1_2.out)
  have HB2_3 := hid ((h3.block (w.heap.size + 1 + 1) (block_lt HB2_2.out)).trans HB2_2.out)
  clear h3
  refine ⟨⟨HB0_3.out, HB1_3.out, HB2_3.out⟩, ?_⟩
  refine wpAnyH_all (rs := [5]) (fuel := 7) (by kernel_rfl) (by simp) ?_
  intro i hi
  obtain rfl : i = 5 := by simpa using hi
  clear hi
  refine wpOpPlain rfl rfl ?_
  go_simp
  go_at_call 13
  refine (c_toState a2 _).mono ?_
  rintro e w4 ⟨rfl, h4⟩
  have E_4 := hid (below_trans E_3.out h4 E_3.out.size)
  have HB0_4 := hid ((h4.block (w.heap.size) (block_lt HB0_3.out)).trans HB0_3.out)
  have HB1_4 := hid ((h4.block (w.heap.size + 1) (block_lt HB1_3.out)).trans HB1_3.out)
  have HB2_4 := hid ((h4.block (w.heap.size + 1 + 1) (block_lt HB2_3.out)).trans HB2_3.out)
  clear h4
  refine ⟨⟨HB0_4.out, HB1_4.out, HB2_4.out⟩, ?_⟩
  refine wpAnyH_all (rs := [7]) (fuel := 6) (by kernel_rfl) (by simp) ?_
  intro i hi
  obtain rfl : i = 7 := by simpa using hi
  clear hi
  refine wpOpPlain rfl rfl ?_
  go_simp
  go_at_call 14
  refine (c_toTickS a3 n3 c3 P3 _ O3.out (X3.out.below E_4.out)).mono ?_
  rintro e w5 ⟨b5, rfl, o5, l5, h5⟩
  have L5E := hid (show w.heap.size ≤ b5 from Nat.le_trans E_4.out.size l5)
  have Y5_0 := hid (show w.heap.size < b5 from Nat.lt_of_lt_of_le (block_lt HB0_4.out) l5)
  have Y5_1 := hid (show w.heap.size + 1 < b5 from Nat.lt_of_lt_of_le (block_lt HB1_4.out) l5)
  have Y5_2 := hid (show w.heap.size + 1 + 1 < b5 from Nat.lt_of_lt_of_le (block_lt HB2_4.out) l5)
  have E_5 := hid (below_trans E_4.out h5 E_4.out.size)
  have HB0_5 := hid ((h5.block (w.heap.size) (block_lt HB0_4.out)).trans HB0_4.out)
  have HB1_5 := hid ((h5.block (w.heap.size + 1) (block_lt HB1_4.out)).trans HB1_4.out)
  have HB2_5 := hid ((h5.block (w.heap.size + 1 + 1) (block_lt HB2_4.out)).trans HB2_4.out)
  have S_5 := hid o5
  clear o5 l5 h5
  refine ⟨⟨HB0_5.out, HB1_5.out, HB2_5.out⟩, ?_⟩
  refine wpAnyH_all (rs := [9]) (fuel := 5) (by kernel_rfl) (by simp) ?_
  intro i hi
  obtain rfl : i = 9 := by simpa using hi
  clear hi
  refine wpOpPlain rfl rfl ?_
  go_simp
  go_at_call 24
  refine (c_specGlareTicks a0 B0.out a1 B1.out a2 B2.out _ n3 _ P3 a4 _ O3.out (S_5.out.rws HN3.out)).mono ?_
  rintro e w6 ⟨⟨u, rfl, ur⟩, h6⟩
  have E_6 := hid (below_trans E_5.out h6 E_5.out.size)
  have S_6 := hid (S_5.out.below h6)
  have HB0_6 := hid ((h6.block (w.heap.size) (block_lt HB0_5.out)).trans HB0_5.out)
  have HB1_6 := hid ((h6.block (w.heap.size + 1) (block_lt HB1_5.out)).trans HB1_5.out)
  have HB2_6 := hid ((h6.block (w.heap.size + 1 + 1) (block_lt HB2_5.out)).trans HB2_5.out)
  have U := hid (GotI.reads ur (by have := HL.out; omega))
  clear ur h6
  refine ⟨⟨HB0_6.out, HB1_6.out, HB2_6.out⟩, ?_⟩
  refine wpAnyH_take (i := 10) (fuel := 4) rfl (by kernel_rfl) (by kernel_rfl) (by kernel_rfl) (fun c a w h => h) (yldMove rfl _ rfl) ⟨HB0_6.out, HB1_6.out, HB2_6.out⟩ ?_
  refine wpAnyH_take (i := 11) (fuel := 3) rfl (by kernel_rfl) (by kernel_rfl) (by kernel_rfl) (fun c a w h => h) (yldExtract rfl _ 0 rfl _ rfl _ rfl) ⟨HB0_6.out, HB1_6.out, HB2_6.out⟩ ?_
  refine wpAnyH_take (i := 12) (fuel := 2) rfl (by kernel_rfl) (by kernel_rfl) (by kernel_rfl) (fun c a w h => h) (yldExtract rfl _ 1 rfl _ rfl _ rfl) ⟨HB0_6.out, HB1_6.out, HB2_6.out⟩ ?_
  refine wpAnyH_take (i := 13) (fuel := 1) rfl (by kernel_rfl) (by kernel_rfl) (by kernel_rfl) (fun c a w h => h) (yldAssign rfl _ rfl) ⟨HB0_6.out, HB1_6.out, HB2_6.out⟩ ?_
  refine wpAnyH_take (i := 14) (fuel := 0) rfl (by kernel_rfl) (by kernel_rfl) (by kernel_rfl) (fun c a w h => h) (yldAssign rfl _ rfl) ⟨HB0_6.out, HB1_6.out, HB2_6.out⟩ ?_
  refine wpAnyH_done (by kernel_rfl) ?_ 0
  simp only [Exit.then]
  go_wp2_with (first | (refine wpList_load_row rfl 25 _ rfl (w.heap.size) rfl 25 (ccells a0) (0, 0) _ HB0_6.out Try.underlying25 rfl HS0.out ?_) | (refine wpList_load_row rfl 28 _ rfl (w.heap.size + 1) rfl 28 (bcells a1) (0, 0) _ HB1_6.out Try.underlying28 rfl HS1.out ?_) | (refine wpList_load_row rfl 30 _ rfl (w.heap.size + 1 + 1) rfl 30 (stcells a2) (0, 0) _ HB2_6.out Try.underlying30 rfl HS2.out ?_))
  refine (c_toTickS a3 n3 c3 P3 _ O3.out (X3.out.below E_6.out)).mono ?_
  rintro e w7 ⟨b7, rfl, o7, l7, h7⟩
  have L7E := hid (show w.heap.size ≤ b7 from Nat.le_trans E_6.out.size l7)
  have L7T := hid (show w6.heap.size ≤ b7 from l7)
  have Y7_0 := hid (show w.heap.size < b7 from Nat.lt_of_lt_of_le (block_lt HB0_6.out) l7)
  have Y7_1 := hid (show w.heap.size + 1 < b7 from Nat.lt_of_lt_of_le (block_lt HB1_6.out) l7)
  have Y7_2 := hid (show w.heap.size + 1 + 1 < b7 from Nat.lt_of_lt_of_le (block_lt HB2_6.out) l7)
  have E_7 := hid (below_trans E_6.out h7 E_6.out.size)
  have T_7 := hid h7
  have HB0_7 := hid ((h7.block (w.heap.size) (block_lt HB0_6.out)).trans HB0_6.out)
  have HB1_7 := hid ((h7.block (w.heap.size + 1) (block_lt HB1_6.out)).trans HB1_6.out)
  have HB2_7 := hid ((h7.block (w.heap.size + 1 + 1) (block_lt HB2_6.out)).trans HB2_6.out)
  have P_7 := hid o7
  clear o7 l7 h7
  go_wp2_with fail
  refine wp_region_held (S := fun wx => wx.heap[w.heap.size]? = some (.cells (ccells a0) 25 (0, 0)) ∧ wx.heap[w.heap.size + 1]? = some (.cells (bcells a1) 28 (0, 0)) ∧ wx.heap[w.heap.size + 1 + 1]? = some (.cells (stcells a2) 30 (0, 0))) (by kernel_rfl) ?_
  refine genWorld (p := wpAnyH _ _ _ _ _ _ _ _) (w0 := (w7).drew) (fun w8 hw8 => ?_)
  have h8 : Below (w7).heap.size (w7) w8 := hw8 ▸ (Below.refl _ _).drew
  clear hw8
  have E_8 := hid (below_trans E_7.out h8 E_7.out.size)
  have T_8 := hid (below_trans T_7.out h8 T_7.out.size)
  have P_8 := hid (P_7.out.below h8)
  have HB0_8 := hid ((h8.block (w.heap.size) (block_lt HB0_7.out)).trans HB0_7.out)
  have HB1_8 := hid ((h8.block (w.heap.size + 1) (block_lt HB1_7.out)).trans HB1_7.out)
  have HB2_8 := hid ((h8.block (w.heap.size + 1 + 1) (block_lt HB2_7.out)).trans HB2_7.out)
  clear h8
  refine wpAnyH_take (i := 0) (fuel := 13) rfl (by kernel_rfl) (by kernel_rfl) (by kernel_rfl) (fun c a w h => h) (yldRow rfl 25 _ rfl (w.heap.size) rfl 25 (ccells a0) (0, 0) _ (fun wx h => h.1) Try.underlying25 rfl HS0.out) ⟨HB0_8.out, HB1_8.out, HB2_8.out⟩ ?_
  refine wpAnyH_take (i := 2) (fuel := 12) rfl (by kernel_rfl) (by kernel_rfl) (by kernel_rfl) (fun c a w h => h) (yldRow rfl 28 _ rfl (w.heap.size + 1) rfl 28 (bcells a1) (0, 0) _ (fun wx h => h.2.1) Try.underlying28 rfl HS1.out) ⟨HB0_8.out, HB1_8.out, HB2_8.out⟩ ?_
  refine wpAnyH_take (i := 4) (fuel := 11) rfl (by kernel_rfl) (by kernel_rfl) (by kernel_rfl) (fun c a w h => h) (yldRow rfl 30 _ rfl (w.heap.size + 1 + 1) rfl 30 (stcells a2) (0, 0) _ (fun wx h => h.2.2) Try.underlying30 rfl HS2.out) ⟨HB0_8.out, HB1_8.out, HB2_8.out⟩ ?_
  refine wpAnyH_take (i := 6) (fuel := 10) rfl (by kernel_rfl) (by kernel_rfl) (by kernel_rfl) (fun c a w h => h) (yldMove rfl _ rfl) ⟨HB0_8.out, HB1_8.out, HB2_8.out⟩ ?_
  refine wpAnyH_take (i := 7) (fuel := 9) rfl (by kernel_rfl) (by kernel_rfl) (by kernel_rfl) (fun c a w h => h) (yldMove rfl _ rfl) ⟨HB0_8.out, HB1_8.out, HB2_8.out⟩ ?_
  refine wpAnyH_all (rs := [1]) (fuel := 8) (by kernel_rfl) (by simp) ?_
  intro i hi
  obtain rfl : i = 1 := by simpa using hi
  clear hi
  refine wpOpPlain rfl rfl ?_
  go_simp
  go_at_call 11
  refine (c_toControl a0 _).mono ?_
  rintro e w9 ⟨rfl, h9⟩
  have E_9 := hid (below_trans E_8.out h9 E_8.out.size)
  have T_9 := hid (below_trans T_8.out h9 T_8.out.size)
  have P_9 := hid (P_8.out.below h9)
  have HB0_9 := hid ((h9.block (w.heap.size) (block_lt HB0_8.out)).trans HB0_8.out)
  have HB1_9 := hid ((h9.block (w.heap.size + 1) (block_lt HB1_8.out)).trans HB1_8.out)
  have HB2_9 := hid ((h9.block (w.heap.size + 1 + 1) (block_lt HB2_8.out)).trans HB2_8.out)
  clear h9
  refine ⟨⟨HB0_9.out, HB1_9.out, HB2_9.out⟩, ?_⟩
  refine wpAnyH_all (rs := [3]) (fuel := 7) (by kernel_rfl) (by simp) ?_
  intro i hi
  obtain rfl : i = 3 := by simpa using hi
  clear hi
  refine wpOpPlain rfl rfl ?_
  go_simp
  go_at_call 12
  refine (c_toBlind a1 _).mono ?_
  rintro e w10 ⟨rfl, h10⟩
  have E_10 := hid (below_trans E_9.out h10 E_9.out.size)
  have T_10 := hid (below_trans T_9.out h10 T_9.out.size)
  have P_10 := hid (P_9.out.below h10)
  have HB0_10 := hid ((h10.block (w.heap.size) (block_lt HB0_9.out)).trans HB0_9.out)
  have HB1_10 := hid ((h10.block (w.heap.size + 1) (block_lt HB1_9.out)).trans HB1_9.out)
  have HB2_10 := hid ((h10.block (w.heap.size + 1 + 1) (block_lt HB2_9.out)).trans HB2_9.out)
  clear h10
  refine ⟨⟨HB0_10.out, HB1_10.out, HB2_10.out⟩, ?_⟩
  refine wpAnyH_all (rs := [5]) (fuel := 6) (by kernel_rfl) (by simp) ?_
  intro i hi
  obtain rfl : i = 5 := by simpa using hi
  clear hi
  refine wpOpPlain rfl rfl ?_
  go_simp
  go_at_call 13
  refine (c_toState a2 _).mono ?_
  rintro e w11 ⟨rfl, h11⟩
  have E_11 := hid (below_trans E_10.out h11 E_10.out.size)
  have T_11 := hid (below_trans T_10.out h11 T_10.out.size)
  have P_11 := hid (P_10.out.below h11)
  have HB0_11 := hid ((h11.block (w.heap.size) (block_lt HB0_10.out)).trans HB0_10.out)
  have HB1_11 := hid ((h11.block (w.heap.size + 1) (block_lt HB1_10.out)).trans HB1_10.out)
  have HB2_11 := hid ((h11.block (w.heap.size + 1 + 1) (block_lt HB2_10.out)).trans HB2_10.out)
  clear h11
  refine ⟨⟨HB0_11.out, HB1_11.out, HB2_11.out⟩, ?_⟩
  refine wpAnyH_all (rs := [8]) (fuel := 5) (by kernel_rfl) (by simp) ?_
  intro i hi
  obtain rfl : i = 8 := by simpa using hi
  clear hi
  refine wpOpPlain rfl rfl ?_
  go_simp
  go_at_call 25
  have LGE := hid (show w.heap.size ≤ w11.heap.size from E_11.out.size)
  have LGT := hid (show w6.heap.size ≤ w11.heap.size from T_11.out.size)
  have Z0 := hid (show w.heap.size < w11.heap.size from block_lt HB0_11.out)
  have Z1 := hid (show w.heap.size + 1 < w11.heap.size from block_lt HB1_11.out)
  have Z2 := hid (show w.heap.size + 1 + 1 < w11.heap.size from block_lt HB2_11.out)
  have ZZP := hid (show b7 < w11.heap.size from P_11.out.lt)
  refine (c_implGlareTicks a0 B0.out a1 B1.out a2 B2.out _ n3 _ P3 a4 _ O3.out (P_11.out.rws HN3.out)).mono ?_
  rintro e w12 ⟨⟨v, rfl, vr⟩, h12⟩
  have E_12 := hid (below_trans E_11.out h12 E_11.out.size)
  have T_12 := hid (below_trans T_11.out h12 T_11.out.size)
  have P_12 := hid (P_11.out.below h12)
  have HB0_12 := hid ((h12.block (w.heap.size) (block_lt HB0_11.out)).trans HB0_11.out)
  have HB1_12 := hid ((h12.block (w.heap.size + 1) (block_lt HB1_11.out)).trans HB1_11.out)
  have HB2_12 := hid ((h12.block (w.heap.size + 1 + 1) (block_lt HB2_11.out)).trans HB2_11.out)
  have G12 := hid (GotI.owns vr (by have := HL.out; omega))
  clear vr h12
  refine ⟨⟨HB0_12.out, HB1_12.out, HB2_12.out⟩, ?_⟩
  refine wpAnyH_take (i := 9) (fuel := 4) rfl (by kernel_rfl) (by kernel_rfl) (by kernel_rfl) (fun c a w h => h) (yldMove rfl _ rfl) ⟨HB0_12.out, HB1_12.out, HB2_12.out⟩ ?_
  refine wpAnyH_take (i := 10) (fuel := 3) rfl (by kernel_rfl) (by kernel_rfl) (by kernel_rfl) (fun c a w h => h) (yldExtract rfl _ 0 rfl _ rfl _ rfl) ⟨HB0_12.out, HB1_12.out, HB2_12.out⟩ ?_
  refine wpAnyH_take (i := 11) (fuel := 2) rfl (by kernel_rfl) (by kernel_rfl) (by kernel_rfl) (fun c a w h => h) (yldExtract rfl _ 1 rfl _ rfl _ rfl) ⟨HB0_12.out, HB1_12.out, HB2_12.out⟩ ?_
  refine wpAnyH_take (i := 12) (fuel := 1) rfl (by kernel_rfl) (by kernel_rfl) (by kernel_rfl) (fun c a w h => h) (yldAssign rfl _ rfl) ⟨HB0_12.out, HB1_12.out, HB2_12.out⟩ ?_
  refine wpAnyH_take (i := 13) (fuel := 0) rfl (by kernel_rfl) (by kernel_rfl) (by kernel_rfl) (fun c a w h => h) (yldAssign rfl _ rfl) ⟨HB0_12.out, HB1_12.out, HB2_12.out⟩ ?_
  refine wpAnyH_done (by kernel_rfl) ?_ 0
  simp only [Exit.then]
  go_wp2_with (first | (refine wpList_load_row rfl 25 _ rfl (w.heap.size) rfl 25 (ccells a0) (0, 0) _ HB0_12.out Try.underlying25 rfl HS0.out ?_) | (refine wpList_load_row rfl 28 _ rfl (w.heap.size + 1) rfl 28 (bcells a1) (0, 0) _ HB1_12.out Try.underlying28 rfl HS1.out ?_) | (refine wpList_load_row rfl 30 _ rfl (w.heap.size + 1 + 1) rfl 30 (stcells a2) (0, 0) _ HB2_12.out Try.underlying30 rfl HS2.out ?_))
  refine (c_eqInt64S _ _ (gtL a0 a1 a2 P3 n3 a4) _ (GotI.reads (lo := w11.heap.size) G12.out.1 (by have := HL.out; omega)) (U.out.below T_12.out)).mono ?_
  rintro e w13 ⟨rfl, h13⟩
  have E_13 := hid (below_trans E_12.out h13 E_12.out.size)
  have T_13 := hid (below_trans T_12.out h13 T_12.out.size)
  have P_13 := hid (P_12.out.below h13)
  have G_13 := hid (G12.out.below h13)
  have HB0_13 := hid ((h13.block (w.heap.size) (block_lt HB0_12.out)).trans HB0_12.out)
  have HB1_13 := hid ((h13.block (w.heap.size + 1) (block_lt HB1_12.out)).trans HB1_12.out)
  have HB2_13 := hid ((h13.block (w.heap.size + 1 + 1) (block_lt HB2_12.out)).trans HB2_12.out)
  clear h13
  go_wp2_with (first | (refine wpList_load_row rfl 25 _ rfl (w.heap.size) rfl 25 (ccells a0) (0, 0) _ HB0_13.out Try.underlying25 rfl HS0.out ?_) | (refine wpList_load_row rfl 28 _ rfl (w.heap.size + 1) rfl 28 (bcells a1) (0, 0) _ HB1_13.out Try.underlying28 rfl HS1.out ?_) | (refine wpList_load_row rfl 30 _ rfl (w.heap.size + 1 + 1) rfl 30 (stcells a2) (0, 0) _ HB2_13.out Try.underlying30 rfl HS2.out ?_))
  refine (c_toTickS a3 n3 c3 P3 _ O3.out (X3.out.below E_13.out)).mono ?_
  rintro e w14 ⟨b14, rfl, o14, l14, h14⟩
  have L14E := hid (show w.heap.size ≤ b14 from Nat.le_trans E_13.out.size l14)
  have L14T := hid (show w6.heap.size ≤ b14 from Nat.le_trans T_13.out.size l14)
  have Y14_0 := hid (show w.heap.size < b14 from Nat.lt_of_lt_of_le (block_lt HB0_13.out) l14)
  have Y14_1 := hid (show w.heap.size + 1 < b14 from Nat.lt_of_lt_of_le (block_lt HB1_13.out) l14)
  have Y14_2 := hid (show w.heap.size + 1 + 1 < b14 from Nat.lt_of_lt_of_le (block_lt HB2_13.out) l14)
  have E_14 := hid (below_trans E_13.out h14 E_13.out.size)
  have T_14 := hid (below_trans T_13.out h14 T_13.out.size)
  have P_14 := hid (P_13.out.below h14)
  have G_14 := hid (G_13.out.below h14)
  have HB0_14 := hid ((h14.block (w.heap.size) (block_lt HB0_13.out)).trans HB0_13.out)
  have HB1_14 := hid ((h14.block (w.heap.size + 1) (block_lt HB1_13.out)).trans HB1_13.out)
  have HB2_14 := hid ((h14.block (w.heap.size + 1 + 1) (block_lt HB2_13.out)).trans HB2_13.out)
  have Q_14 := hid o14
  clear o14 l14 h14
  go_wp2_with (first | (refine wpList_load_row rfl 25 _ rfl (w.heap.size) rfl 25 (ccells a0) (0, 0) _ HB0_14.out Try.underlying25 rfl HS0.out ?_) | (refine wpList_load_row rfl 28 _ rfl (w.heap.size + 1) rfl 28 (bcells a1) (0, 0) _ HB1_14.out Try.underlying28 rfl HS1.out ?_) | (refine wpList_load_row rfl 30 _ rfl (w.heap.size + 1 + 1) rfl 30 (stcells a2) (0, 0) _ HB2_14.out Try.underlying30 rfl HS2.out ?_))
  refine (c_eqTickS _ _ n3 _ _ P3 _ O3.out (P_14.out.rws HN3.out) (Q_14.out.rws HN3.out)).mono ?_
  rintro e w15 ⟨rfl, h15⟩
  have E_15 := hid (below_trans E_14.out h15 E_14.out.size)
  have T_15 := hid (below_trans T_14.out h15 T_14.out.size)
  have P_15 := hid (P_14.out.below h15)
  have Q_15 := hid (Q_14.out.below h15)
  have G_15 := hid (G_14.out.below h15)
  have HB0_15 := hid ((h15.block (w.heap.size) (block_lt HB0_14.out)).trans HB0_14.out)
  have HB1_15 := hid ((h15.block (w.heap.size + 1) (block_lt HB1_14.out)).trans HB1_14.out)
  have HB2_15 := hid ((h15.block (w.heap.size + 1 + 1) (block_lt HB2_14.out)).trans HB2_14.out)
  clear h15
  go_wp2_with (first | (refine wpList_load_row rfl 25 _ rfl (w.heap.size) rfl 25 (ccells a0) (0, 0) _ HB0_15.out Try.underlying25 rfl HS0.out ?_) | (refine wpList_load_row rfl 28 _ rfl (w.heap.size + 1) rfl 28 (bcells a1) (0, 0) _ HB1_15.out Try.underlying28 rfl HS1.out ?_) | (refine wpList_load_row rfl 30 _ rfl (w.heap.size + 1 + 1) rfl 30 (stcells a2) (0, 0) _ HB2_15.out Try.underlying30 rfl HS2.out ?_))
  refine (c_markTickS b7 n3 1 (tcs P3) _ (PartR.zero P_15.out) HN3.out (by omega)).mono ?_
  rintro e w16 ⟨rfl, -, h16⟩
  have E_16 := hid (E_15.out.grown h16 E_15.out.size (fun _ e => by cases e; exact L7E.out))
  have T_16 := hid (T_15.out.grown h16 T_15.out.size (fun _ e => by cases e; exact L7T.out))
  have HB0_16 := hid (box_kept HB0_15.out h16 (fun e => by cases e; exact Nat.lt_irrefl _ Y7_0.out))
  have HB1_16 := hid (box_kept HB1_15.out h16 (fun e => by cases e; exact Nat.lt_irrefl _ Y7_1.out))
  have HB2_16 := hid (box_kept HB2_15.out h16 (fun e => by cases e; exact Nat.lt_irrefl _ Y7_2.out))
  have G_16 := hid (G_15.out.kept h16 (fun _ e => by cases e; exact ZZP.out))
  clear h16
  have hk1 : (0 : Int) ≤ ((1 + n3 * 3 : Nat) : Int) := by omega
  go_wp2_with (first | (refine wpList_load_row rfl 25 _ rfl (w.heap.size) rfl 25 (ccells a0) (0, 0) _ HB0_16.out Try.underlying25 rfl HS0.out ?_) | (refine wpList_load_row rfl 28 _ rfl (w.heap.size + 1) rfl 28 (bcells a1) (0, 0) _ HB1_16.out Try.underlying28 rfl HS1.out ?_) | (refine wpList_load_row rfl 30 _ rfl (w.heap.size + 1 + 1) rfl 30 (stcells a2) (0, 0) _ HB2_16.out Try.underlying30 rfl HS2.out ?_))
  refine (c_eqInt64S _ _ (gtL a0 a1 a2 P3 n3 a4) _ (GotI.reads (lo := w11.heap.size) G_16.out.1 (by have := HL.out; omega)) (U.out.below T_16.out)).mono ?_
  rintro e w17 ⟨rfl, h17⟩
  have E_17 := hid (below_trans E_16.out h17 E_16.out.size)
  have T_17 := hid (below_trans T_16.out h17 T_16.out.size)
  have G_17 := hid (G_16.out.below h17)
  have HB0_17 := hid ((h17.block (w.heap.size) (block_lt HB0_16.out)).trans HB0_16.out)
  have HB1_17 := hid ((h17.block (w.heap.size + 1) (block_lt HB1_16.out)).trans HB1_16.out)
  have HB2_17 := hid ((h17.block (w.heap.size + 1 + 1) (block_lt HB2_16.out)).trans HB2_16.out)
  clear h17
  go_wp2_with (first | (refine wpList_load_row rfl 25 _ rfl (w.heap.size) rfl 25 (ccells a0) (0, 0) _ HB0_17.out Try.underlying25 rfl HS0.out ?_) | (refine wpList_load_row rfl 28 _ rfl (w.heap.size + 1) rfl 28 (bcells a1) (0, 0) _ HB1_17.out Try.underlying28 rfl HS1.out ?_) | (refine wpList_load_row rfl 30 _ rfl (w.heap.size + 1 + 1) rfl 30 (stcells a2) (0, 0) _ HB2_17.out Try.underlying30 rfl HS2.out ?_))
  refine (c_markInt64S _ _ _ (gtL a0 a1 a2 P3 n3 a4).length 1 _ G_17.out (by omega) _ rfl).mono ?_
  rintro e w18 ⟨rfl, mk18, h18⟩
  have E_18 := hid (E_17.out.grown h18 E_17.out.size (fun r e => Nat.le_trans LGE.out (G_17.out.1.lt r e).1))
  have T_18 := hid (T_17.out.grown h18 T_17.out.size (fun r e => Nat.le_trans LGT.out (G_17.out.1.lt r e).1))
  have HB0_18 := hid (box_kept HB0_17.out h18 (fun e => by have e1 := (G_17.out.1.lt _ e).1; have e2 := Z0.out; omega))
  have HB1_18 := hid (box_kept HB1_17.out h18 (fun e => by have e1 := (G_17.out.1.lt _ e).1; have e2 := Z1.out; omega))
  have HB2_18 := hid (box_kept HB2_17.out h18 (fun e => by have e1 := (G_17.out.1.lt _ e).1; have e2 := Z2.out; omega))
  have HD := hid (Held.of mk18 G_17.out.len)
  clear mk18 h18
  have hl := HL.out
  go_wp2_with (first | (refine wpList_load_row rfl 25 _ rfl (w.heap.size) rfl 25 (ccells a0) (0, 0) _ HB0_18.out Try.underlying25 rfl HS0.out ?_) | (refine wpList_load_row rfl 28 _ rfl (w.heap.size + 1) rfl 28 (bcells a1) (0, 0) _ HB1_18.out Try.underlying28 rfl HS1.out ?_) | (refine wpList_load_row rfl 30 _ rfl (w.heap.size + 1 + 1) rfl 30 (stcells a2) (0, 0) _ HB2_18.out Try.underlying30 rfl HS2.out ?_))
  refine (c_heldInt64S _ _ (gtL a0 a1 a2 P3 n3 a4).length 1 HD.out (by omega) _ rfl).mono ?_
  rintro e w19 ⟨rfl, h19⟩
  have E_19 := hid (below_trans E_18.out h19 E_18.out.size)
  have T_19 := hid (below_trans T_18.out h19 T_18.out.size)
  have M_19 := hid h19
  have HB0_19 := hid ((h19.block (w.heap.size) (block_lt HB0_18.out)).trans HB0_18.out)
  have HB1_19 := hid ((h19.block (w.heap.size + 1) (block_lt HB1_18.out)).trans HB1_18.out)
  have HB2_19 := hid ((h19.block (w.heap.size + 1 + 1) (block_lt HB2_18.out)).trans HB2_18.out)
  clear h19
  go_wp2_with fail
  refine wp_region_held (S := fun wx => wx.heap[w.heap.size]? = some (.cells (ccells a0) 25 (0, 0)) ∧ wx.heap[w.heap.size + 1]? = some (.cells (bcells a1) 28 (0, 0)) ∧ wx.heap[w.heap.size + 1 + 1]? = some (.cells (stcells a2) 30 (0, 0))) (by kernel_rfl) ?_
  refine genWorld (p := wpAnyH _ _ _ _ _ _ _ _) (w0 := (w19).drew) (fun w20 hw20 => ?_)
  have h20 : Below (w19).heap.size (w19) w20 := hw20 ▸ (Below.refl _ _).drew
  clear hw20
  have E_20 := hid (below_trans E_19.out h20 E_19.out.size)
  have T_20 := hid (below_trans T_19.out h20 T_19.out.size)
  have M_20 := hid (below_trans M_19.out h20 M_19.out.size)
  have HB0_20 := hid ((h20.block (w.heap.size) (block_lt HB0_19.out)).trans HB0_19.out)
  have HB1_20 := hid ((h20.block (w.heap.size + 1) (block_lt HB1_19.out)).trans HB1_19.out)
  have HB2_20 := hid ((h20.block (w.heap.size + 1 + 1) (block_lt HB2_19.out)).trans HB2_19.out)
  clear h20
  refine wpAnyH_take (i := 0) (fuel := 14) rfl (by kernel_rfl) (by kernel_rfl) (by kernel_rfl) (fun c a w h => h) (yldRow rfl 25 _ rfl (w.heap.size) rfl 25 (ccells a0) (0, 0) _ (fun wx h => h.1) Try.underlying25 rfl HS0.out) ⟨HB0_20.out, HB1_20.out, HB2_20.out⟩ ?_
  refine wpAnyH_take (i := 2) (fuel := 13) rfl (by kernel_rfl) (by kernel_rfl) (by kernel_rfl) (fun c a w h => h) (yldRow rfl 28 _ rfl (w.heap.size + 1) rfl 28 (bcells a1) (0, 0) _ (fun wx h => h.2.1) Try.underlying28 rfl HS1.out) ⟨HB0_20.out, HB1_20.out, HB2_20.out⟩ ?_
  refine wpAnyH_take (i := 4) (fuel := 12) rfl (by kernel_rfl) (by kernel_rfl) (by kernel_rfl) (fun c a w h => h) (yldRow rfl 30 _ rfl (w.heap.size + 1 + 1) rfl 30 (stcells a2) (0, 0) _ (fun wx h => h.2.2) Try.underlying30 rfl HS2.out) ⟨HB0_20.out, HB1_20.out, HB2_20.out⟩ ?_
  refine wpAnyH_take (i := 6) (fuel := 11) rfl (by kernel_rfl) (by kernel_rfl) (by kernel_rfl) (fun c a w h => h) (yldMove rfl _ rfl) ⟨HB0_20.out, HB1_20.out, HB2_20.out⟩ ?_
  refine wpAnyH_take (i := 8) (fuel := 10) rfl (by kernel_rfl) (by kernel_rfl) (by kernel_rfl) (fun c a w h => h) (yldMove rfl _ rfl) ⟨HB0_20.out, HB1_20.out, HB2_20.out⟩ ?_
  refine wpAnyH_all (rs := [1]) (fuel := 9) (by kernel_rfl) (by simp) ?_
  intro i hi
  obtain rfl : i = 1 := by simpa using hi
  clear hi
  refine wpOpPlain rfl rfl ?_
  go_simp
  go_at_call 11
  refine (c_toControl a0 _).mono ?_
  rintro e w21 ⟨rfl, h21⟩
  have E_21 := hid (below_trans E_20.out h21 E_20.out.size)
  have T_21 := hid (below_trans T_20.out h21 T_20.out.size)
  have M_21 := hid (below_trans M_20.out h21 M_20.out.size)
  have HB0_21 := hid ((h21.block (w.heap.size) (block_lt HB0_20.out)).trans HB0_20.out)
  have HB1_21 := hid ((h21.block (w.heap.size + 1) (block_lt HB1_20.out)).trans HB1_20.out)
  have HB2_21 := hid ((h21.block (w.heap.size + 1 + 1) (block_lt HB2_20.out)).trans HB2_20.out)
  clear h21
  refine ⟨⟨HB0_21.out, HB1_21.out, HB2_21.out⟩, ?_⟩
  refine wpAnyH_all (rs := [3]) (fuel := 8) (by kernel_rfl) (by simp) ?_
  intro i hi
  obtain rfl : i = 3 := by simpa using hi
  clear hi
  refine wpOpPlain rfl rfl ?_
  go_simp
  go_at_call 12
  refine (c_toBlind a1 _).mono ?_
  rintro e w22 ⟨rfl, h22⟩
  have E_22 := hid (below_trans E_21.out h22 E_21.out.size)
  have T_22 := hid (below_trans T_21.out h22 T_21.out.size)
  have M_22 := hid (below_trans M_21.out h22 M_21.out.size)
  have HB0_22 := hid ((h22.block (w.heap.size) (block_lt HB0_21.out)).trans HB0_21.out)
  have HB1_22 := hid ((h22.block (w.heap.size + 1) (block_lt HB1_21.out)).trans HB1_21.out)
  have HB2_22 := hid ((h22.block (w.heap.size + 1 + 1) (block_lt HB2_21.out)).trans HB2_21.out)
  clear h22
  refine ⟨⟨HB0_22.out, HB1_22.out, HB2_22.out⟩, ?_⟩
  refine wpAnyH_all (rs := [5]) (fuel := 7) (by kernel_rfl) (by simp) ?_
  intro i hi
  obtain rfl : i = 5 := by simpa using hi
  clear hi
  refine wpOpPlain rfl rfl ?_
  go_simp
  go_at_call 13
  refine (c_toState a2 _).mono ?_
  rintro e w23 ⟨rfl, h23⟩
  have E_23 := hid (below_trans E_22.out h23 E_22.out.size)
  have T_23 := hid (below_trans T_22.out h23 T_22.out.size)
  have M_23 := hid (below_trans M_22.out h23 M_22.out.size)
  have HB0_23 := hid ((h23.block (w.heap.size) (block_lt HB0_22.out)).trans HB0_22.out)
  have HB1_23 := hid ((h23.block (w.heap.size + 1) (block_lt HB1_22.out)).trans HB1_22.out)
  have HB2_23 := hid ((h23.block (w.heap.size + 1 + 1) (block_lt HB2_22.out)).trans HB2_22.out)
  clear h23
  refine ⟨⟨HB0_23.out, HB1_23.out, HB2_23.out⟩, ?_⟩
  refine wpAnyH_all (rs := [7]) (fuel := 6) (by kernel_rfl) (by simp) ?_
  intro i hi
  obtain rfl : i = 7 := by simpa using hi
  clear hi
  refine wpOpPlain rfl rfl ?_
  go_simp
  go_at_call 14
  refine (c_toTickS a3 n3 c3 P3 _ O3.out (X3.out.below E_23.out)).mono ?_
  rintro e w24 ⟨b24, rfl, o24, l24, h24⟩
  have L24E := hid (show w.heap.size ≤ b24 from Nat.le_trans E_23.out.size l24)
  have L24T := hid (show w6.heap.size ≤ b24 from Nat.le_trans T_23.out.size l24)
  have L24M := hid (show w18.heap.size ≤ b24 from Nat.le_trans M_23.out.size l24)
  have Y24_0 := hid (show w.heap.size < b24 from Nat.lt_of_lt_of_le (block_lt HB0_23.out) l24)
  have Y24_1 := hid (show w.heap.size + 1 < b24 from Nat.lt_of_lt_of_le (block_lt HB1_23.out) l24)
  have Y24_2 := hid (show w.heap.size + 1 + 1 < b24 from Nat.lt_of_lt_of_le (block_lt HB2_23.out) l24)
  have E_24 := hid (below_trans E_23.out h24 E_23.out.size)
  have T_24 := hid (below_trans T_23.out h24 T_23.out.size)
  have M_24 := hid (below_trans M_23.out h24 M_23.out.size)
  have HB0_24 := hid ((h24.block (w.heap.size) (block_lt HB0_23.out)).trans HB0_23.out)
  have HB1_24 := hid ((h24.block (w.heap.size + 1) (block_lt HB1_23.out)).trans HB1_23.out)
  have HB2_24 := hid ((h24.block (w.heap.size + 1 + 1) (block_lt HB2_23.out)).trans HB2_23.out)
  have R_24 := hid o24
  clear o24 l24 h24
  refine ⟨⟨HB0_24.out, HB1_24.out, HB2_24.out⟩, ?_⟩
  refine wpAnyH_all (rs := [9]) (fuel := 5) (by kernel_rfl) (by simp) ?_
  intro i hi
  obtain rfl : i = 9 := by simpa using hi
  clear hi
  refine wpOpPlain rfl rfl ?_
  go_simp
  go_at_call 25
  refine (c_implGlareTicks a0 B0.out a1 B1.out a2 B2.out _ n3 _ P3 a4 _ O3.out (R_24.out.rws HN3.out)).mono ?_
  rintro e w25 ⟨⟨v2, rfl, vr⟩, h25⟩
  have E_25 := hid (below_trans E_24.out h25 E_24.out.size)
  have T_25 := hid (below_trans T_24.out h25 T_24.out.size)
  have M_25 := hid (below_trans M_24.out h25 M_24.out.size)
  have R_25 := hid (R_24.out.below h25)
  have HB0_25 := hid ((h25.block (w.heap.size) (block_lt HB0_24.out)).trans HB0_24.out)
  have HB1_25 := hid ((h25.block (w.heap.size + 1) (block_lt HB1_24.out)).trans HB1_24.out)
  have HB2_25 := hid ((h25.block (w.heap.size + 1 + 1) (block_lt HB2_24.out)).trans HB2_24.out)
  have G25 := hid (GotI.owns vr (by have := HL.out; omega))
  clear vr h25
  refine ⟨⟨HB0_25.out, HB1_25.out, HB2_25.out⟩, ?_⟩
  refine wpAnyH_take (i := 10) (fuel := 4) rfl (by kernel_rfl) (by kernel_rfl) (by kernel_rfl) (fun c a w h => h) (yldMove rfl _ rfl) ⟨HB0_25.out, HB1_25.out, HB2_25.out⟩ ?_
  refine wpAnyH_take (i := 11) (fuel := 3) rfl (by kernel_rfl) (by kernel_rfl) (by kernel_rfl) (fun c a w h => h) (yldExtract rfl _ 0 rfl _ rfl _ rfl) ⟨HB0_25.out, HB1_25.out, HB2_25.out⟩ ?_
  refine wpAnyH_take (i := 12) (fuel := 2) rfl (by kernel_rfl) (by kernel_rfl) (by kernel_rfl) (fun c a w h => h) (yldExtract rfl _ 1 rfl _ rfl _ rfl) ⟨HB0_25.out, HB1_25.out, HB2_25.out⟩ ?_
  refine wpAnyH_take (i := 13) (fuel := 1) rfl (by kernel_rfl) (by kernel_rfl) (by kernel_rfl) (fun c a w h => h) (yldAssign rfl _ rfl) ⟨HB0_25.out, HB1_25.out, HB2_25.out⟩ ?_
  refine wpAnyH_take (i := 14) (fuel := 0) rfl (by kernel_rfl) (by kernel_rfl) (by kernel_rfl) (fun c a w h => h) (yldAssign rfl _ rfl) ⟨HB0_25.out, HB1_25.out, HB2_25.out⟩ ?_
  refine wpAnyH_done (by kernel_rfl) ?_ 0
  simp only [Exit.then]
  go_wp2_with (first | (refine wpList_load_row rfl 25 _ rfl (w.heap.size) rfl 25 (ccells a0) (0, 0) _ HB0_25.out Try.underlying25 rfl HS0.out ?_) | (refine wpList_load_row rfl 28 _ rfl (w.heap.size + 1) rfl 28 (bcells a1) (0, 0) _ HB1_25.out Try.underlying28 rfl HS1.out ?_) | (refine wpList_load_row rfl 30 _ rfl (w.heap.size + 1 + 1) rfl 30 (stcells a2) (0, 0) _ HB2_25.out Try.underlying30 rfl HS2.out ?_))
  refine (c_eqInt64S _ _ (gtL a0 a1 a2 P3 n3 a4) _ (GotI.reads (lo := w24.heap.size) G25.out.1 (by have := HL.out; omega)) (U.out.below T_25.out)).mono ?_
  rintro e w26 ⟨rfl, h26⟩
  have E_26 := hid (below_trans E_25.out h26 E_25.out.size)
  have T_26 := hid (below_trans T_25.out h26 T_25.out.size)
  have M_26 := hid (below_trans M_25.out h26 M_25.out.size)
  have G_26 := hid (G25.out.below h26)
  have HB0_26 := hid ((h26.block (w.heap.size) (block_lt HB0_25.out)).trans HB0_25.out)
  have HB1_26 := hid ((h26.block (w.heap.size + 1) (block_lt HB1_25.out)).trans HB1_25.out)
  have HB2_26 := hid ((h26.block (w.heap.size + 1 + 1) (block_lt HB2_25.out)).trans HB2_25.out)
  clear h26
  go_wp2_with (first | (refine wpList_load_row rfl 25 _ rfl (w.heap.size) rfl 25 (ccells a0) (0, 0) _ HB0_26.out Try.underlying25 rfl HS0.out ?_) | (refine wpList_load_row rfl 28 _ rfl (w.heap.size + 1) rfl 28 (bcells a1) (0, 0) _ HB1_26.out Try.underlying28 rfl HS1.out ?_) | (refine wpList_load_row rfl 30 _ rfl (w.heap.size + 1 + 1) rfl 30 (stcells a2) (0, 0) _ HB2_26.out Try.underlying30 rfl HS2.out ?_))
  refine (c_heldInt64S _ _ (gtL a0 a1 a2 P3 n3 a4).length 1 (HD.out.below M_26.out) (by omega) _ rfl).mono ?_
  rintro e w27 ⟨rfl, h27⟩
  have E_27 := hid (below_trans E_26.out h27 E_26.out.size)
  have T_27 := hid (below_trans T_26.out h27 T_26.out.size)
  have M_27 := hid (below_trans M_26.out h27 M_26.out.size)
  have HB0_27 := hid ((h27.block (w.heap.size) (block_lt HB0_26.out)).trans HB0_26.out)
  have HB1_27 := hid ((h27.block (w.heap.size + 1) (block_lt HB1_26.out)).trans HB1_26.out)
  have HB2_27 := hid ((h27.block (w.heap.size + 1 + 1) (block_lt HB2_26.out)).trans HB2_26.out)
  clear h27
  go_wp2
  go_ret
  exact ⟨rfl, E_27.out⟩

set_option maxRecDepth 100000 in
theorem lifted (os : Os) (started : os.Started) (H : Type) (enc : TypeId × Value → H) :
    ReturnsInHanded {} Try.checked os 5 .any (Rows.fnExactGlareTicksSpec.pre6 enc Try.prog Try.f5 Rows.fnExactGlareTicksRow.domain false) (Rows.fnExactGlareTicksSpec.post enc Try.prog Try.f5 false true false false) := by
  refine returnsInHanded_of_change (C := Try.checked) own started (by kernel_rfl) Try.func5
    (ChangeSpec.witness6 (enc := enc) (C := Try.checked) false ⟨#[], #[.agg #[.float .f32 0, .float .f32 0, .float .f32 0, .int .i8 0, .int .i8 0, .int .i8 0], .agg #[.int .i8 0, .float .f32 0, .float .f32 0, .int .i16 0, .float .f32 0], .agg #[.int .i16 0, .int .i8 0, .int .i8 0], .slice none 0 0, .float .f32 0], []⟩ 8 (by kernel_rfl) (by kernel_rfl) (by kernel_rfl) (by kernel_rfl)) ?_
  intro W base args ds gs before hval0 hW hcnd _
  have hval : ∀ (j : Nat) t v, Try.f5.params[j]? = some t → args[j]? = some v → Value.okWide Try.prog W .any base t v := hval0
  have hW' := hW
  obtain ⟨p, q, hA0, hV, rfl, hfz, hnd⟩ := hW
  have hA : DataW.TrodAll enc Try.prog W 0 (fun _ => true) true Try.f5.params.toList args.toList ds p := hA0
  rw [Try.params5] at hA hval
  obtain ⟨v0, vs0, d0, ds0, p0, q0, hargs, rfl, rfl, h0, r0⟩ := trodAll_cons hA
  obtain ⟨v1, vs1, d1, ds1, p1, q1, rfl, rfl, rfl, h1, r1⟩ := trodAll_cons r0
  obtain ⟨v2, vs2, d2, ds2, p2, q2, rfl, rfl, rfl, h2, r2⟩ := trodAll_cons r1
  obtain ⟨v3, vs3, d3, ds3, p3, q3, rfl, rfl, rfl, h3, r3⟩ := trodAll_cons r2
  obtain ⟨v4, vs4, d4, ds4, p4, q4, rfl, rfl, rfl, h4, r4⟩ := trodAll_cons r3
  obtain ⟨rfl, rfl, rfl⟩ := trodAll_nil r4
  obtain rfl : args = #[v0, v1, v2, v3, v4] := by cases args; simp_all
  obtain ⟨rfl, rfl⟩ := trodVars_none hV
  have k0 := h0
  have lt0 : ∀ x ∈ p0, x.block < W.heap.size := by obtain ⟨m, hm⟩ := k0; exact DataW.trod_lt m _ _ _ hm
  have k1 := h1
  have lt1 : ∀ x ∈ p1, x.block < W.heap.size := by obtain ⟨m, hm⟩ := k1; exact DataW.trod_lt m _ _ _ hm
  have k2 := h2
  have lt2 : ∀ x ∈ p2, x.block < W.heap.size := by obtain ⟨m, hm⟩ := k2; exact DataW.trod_lt m _ _ _ hm
  have k3 := h3
  have lt3 : ∀ x ∈ p3, x.block < W.heap.size := by obtain ⟨m, hm⟩ := k3; exact DataW.trod_lt m _ _ _ hm
  have k4 := h4
  have lt4 : ∀ x ∈ p4, x.block < W.heap.size := by obtain ⟨m, hm⟩ := k4; exact DataW.trod_lt m _ _ _ hm
  obtain ⟨c0, rfl, fa0⟩ := open_cells (a := [.f .f32, .f .f32, .f .f32, .i .i8, .i .i8, .i .i8]) 3 (by kernel_rfl) (by kernel_rfl) (hval 0 25 v0 rfl rfl) h0
  obtain ⟨a0, rfl, wa0⟩ := fits_control fa0
  obtain ⟨c1, rfl, fa1⟩ := open_cells (a := [.i .i8, .f .f32, .f .f32, .i .i16, .f .f32]) 3 (by kernel_rfl) (by kernel_rfl) (hval 1 28 v1 rfl rfl) h1
  obtain ⟨a1, rfl, wa1⟩ := fits_blind fa1
  obtain ⟨c2, rfl, fa2⟩ := open_cells (a := [.i .i16, .i .i8, .i .i8]) 3 (by kernel_rfl) (by kernel_rfl) (hval 2 30 v2 rfl rfl) h2
  obtain ⟨a2, rfl, wa2⟩ := fits_state fa2
  obtain ⟨a3, n3, c3, rows3, rfl, rr3⟩ := open_rows (ks := [.f .f32, .f .f32, .i .i8]) 4 Try.underlying31 (by kernel_rfl) (by decide) (by kernel_rfl) (hval 3 31 v3 rfl rfl) h3
  obtain ⟨P3, ok3, r3x⟩ := ticks_of_rows rr3
  obtain ⟨a4, rfl, _, _, wa4⟩ := open_float Try.underlying22 (hval 4 22 v4 rfl rfl) h4
  clear hA0 hval0
  refine (walk a0 a1 a2 a3 n3 c3 P3 a4 W wa0 wa1 wa2 ok3 r3x (wf_f32 wa4)).mono fun e W' ⟨he, bel⟩ => ?_
  subst he
  exact ⟨_, rfl, _, _, _, [], _, [], hW', trodAll_mk1 (shut_bool Try.underlying4 _), (trodAll_cons_mk (Below.trod laidOut (by kernel_rfl) (of_decide_eq_true (by kernel_rfl)) k0 bel lt0) (trodAll_cons_mk (Below.trod laidOut (by kernel_rfl) (of_decide_eq_true (by kernel_rfl)) k1 bel lt1) (trodAll_cons_mk (Below.trod laidOut (by kernel_rfl) (of_decide_eq_true (by kernel_rfl)) k2 bel lt2) (trodAll_cons_mk (Below.trod laidOut (by kernel_rfl) (of_decide_eq_true (by kernel_rfl)) k3 bel lt3) (trodAll_cons_mk (Below.trod laidOut (by kernel_rfl) (of_decide_eq_true (by kernel_rfl)) k4 bel lt4) trodAll_mk0))))), rfl, bel.frame _, fun h => by cases h⟩

theorem proved : Rows.FnExactGlareTicksSaid :=
  OpenClaim.holds_of_wide 5 Try.f5 rfl rfl rfl rfl rfl rfl rfl ⟨rfl, rfl, rfl, rfl, rfl⟩ rfl rfl rfl rfl rfl (by kernel_rfl) Try.func5 (by kernel_rfl)
    (of_decide_eq_true (by kernel_rfl)) (by unfold Func.isWrapper; first | (rw [if_pos (by decide +kernel)]; kernel_rfl) | (rw [if_neg (by decide +kernel)]; exact ⟨rfl, rfl⟩))
    (fun os started H enc _ => lifted os started H enc)
#print axioms proved
end Go.Proofs.Ytmjmgfojdomhlaa.lawGlareTicks
