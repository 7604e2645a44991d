/- FnExactRaisedIn returns true for all arguments: for each control, blind, state, each slice of ticks the program's RaisedIn and the reference's return the same, and the program leaves its arguments as they were. No condition. -/
import Derived.Test.YtmjmgfojdomhlaaRais
import Derived.Test.YtmjmgfojdomhlaaMarks
import Derived.Test.YtmjmgfojdomhlaaTail
import Derived.Test.YtmjmgfojdomhlaaLift
namespace Go.Proofs.Ytmjmgfojdomhlaa.lawRaisedIn
set_option maxRecDepth 20000
open Go.ChangeShapes Go.WideShapes Go.ChangeAt Go.RowKit Go.Proofs.Ytmjmgfojdomhlaa

theorem box_kept {w w2 : World} {b : Nat} {C : Array Value} {T : TypeId} {r : Option Nat} (h : w.heap[b]? = some (.cells C T (0, 0))) (hg : w.grownBy w2 r) (hne : r ≠ some b) : w2.heap[b]? = some (.cells C T (0, 0)) := (hg.block b (block_lt h) (fun e => hne e.symm)).trans h
set_option maxHeartbeats 4000000 in
theorem walk (a0 : Ctl) (a1 : Bld) (a2 : Sta) (a3 : Option Addr) (n3 c3 : Nat) (P3 : Nat → Tck) (w : World) (b0 : WfC a0) (b1 : WfB a1) (b2 : WfS a2) (o3 : TcksOk P3 n3) (r3 : RwsAny w a3 n3 3 (tcs P3)) :
    Calls Try.prog 3 #[.agg (ccells a0), .agg (bcells a1), .agg (stcells a2), .slice a3 n3 c3] w fun e w' => e = .returned (.bool true) ∧ Below w.heap.size w w' := by
  have hs0 : (Try.prog.info? 25).map (·.size) = some (ccells a0).size := by kernel_rfl
  have hs1 : (Try.prog.info? 28).map (·.size) = some (bcells a1).size := by kernel_rfl
  have hs2 : (Try.prog.info? 30).map (·.size) = some (stcells a2).size := by kernel_rfl
  have hB0 : (((w.alloc (.cells (ccells a0) 25)).alloc (.cells (bcells a1) 28)).alloc (.cells (stcells a2) 30)).heap[w.heap.size]? = some (.cells (ccells a0) 25 (0, 0)) := (blk_past _ _ _ (by simp; omega)).trans ((blk_past _ _ _ (by simp)).trans (blk_at _ _ _ rfl))
  have hB1 : (((w.alloc (.cells (ccells a0) 25)).alloc (.cells (bcells a1) 28)).alloc (.cells (stcells a2) 30)).heap[w.heap.size + 1]? = some (.cells (bcells a1) 28 (0, 0)) := (blk_past _ _ _ (by simp)).trans (blk_at _ _ _ (by simp))
  have hB2 : (((w.alloc (.cells (ccells a0) 25)).alloc (.cells (bcells a1) 28)).alloc (.cells (stcells a2) 30)).heap[w.heap.size + 1 + 1]? = some (.cells (stcells a2) 30 (0, 0)) := blk_at _ _ _ (by simp)
  have h0 : Below w.heap.size w (((w.alloc (.cells (ccells a0) 25)).alloc (.cells (bcells a1) 28)).alloc (.cells (stcells a2) 30)) := ((((Below.refl _ _).alloc (Nat.le_refl _) _).alloc (by simp) _).alloc (by simp; omega) _)
  have B0 := hid b0
  have B1 := hid b1
  have B2 := hid b2
  have O3 := hid o3
  have R3 := hid r3
  have HS0 := hid hs0
  have HS1 := hid hs1
  have HS2 := hid hs2
  have HB0 := hid hB0
  have HB1 := hid hB1
  have HB2 := hid hB2
  have H0 := hid h0
  clear b0 b1 b2 o3 r3 hs0 hs1 hs2 hB0 hB1 hB2 h0
  by_cases hn3 : n3 ≤ 1048576
  case neg =>
    have hm := R3.out.small
    go_enter Try.func3, Try.ntmps3
    go_wp2_with fail
    refine (c_szTickS_no _ _ _ hn3 hm _).mono ?_
    rintro e w' ⟨rfl, rfl⟩
    go_wp2
    go_ret
    exact ⟨rfl, H0.out⟩
  have X3 := hid (R3.out.rws hn3)
  have HN3 := hid hn3
  clear R3
  go_enter Try.func3, Try.ntmps3
  go_wp2_with fail
  refine (c_szTickS _ _ _ hn3 _).mono ?_
  rintro e w' ⟨rfl, rfl⟩
  have hl3 : (0 : Int) ≤ 1048576 - (n3 : Int) := by omega
  go_wp2_with fail
  refine wp_region_held (S := fun wx => wx.heap[w.heap.size]? = some (.cells (ccells a0) 25 (0, 0)) ∧ wx.heap[w.heap.size + 1]? = some (.cells (bcells a1) 28 (0, 0)) ∧ wx.heap[w.heap.size + 1 + 1]? = some (.cells (stcells a2) 30 (0, 0))) (by kernel_rfl) ?_
  refine genWorld (p := wpAnyH _ _ _ _ _ _ _ _) (w0 := ((((w.alloc (.cells (ccells a0) 25)).alloc (.cells (bcells a1) 28)).alloc (.cells (stcells a2) 30))).drew) (fun w1 hw1 => ?_)
  have h1 : Below ((((w.alloc (.cells (ccells a0) 25)).alloc (.cells (bcells a1) 28)).alloc (.cells (stcells a2) 30))).heap.size ((((w.alloc (.cells (ccells a0) 25)).alloc (.cells (bcells a1) 28)).alloc (.cells (stcells a2) 30))) w1 := hw1 ▸ (Below.refl _ _).drew
  clear hw1
  have E_1 := hid (below_trans H0.out h1 H0.out.size)
  have HB0_1 := hid ((h1.block (w.heap.size) (block_lt HB0.out)).trans HB0.out)
  have HB1_1 := hid ((h1.block (w.heap.size + 1) (block_lt HB1.out)).trans HB1.out)
  have HB2_1 := hid ((h1.block (w.heap.size + 1 + 1) (block_lt HB2.out)).trans HB2.out)
  clear h1
  refine wpAnyH_take (i := 0) (fuel := 13) rfl (by kernel_rfl) (by kernel_rfl) (by kernel_rfl) (fun c a w h => h) (yldRow rfl 25 _ rfl (w.heap.size) rfl 25 (ccells a0) (0, 0) _ (fun wx h => h.1) Try.underlying25 rfl HS0.out) ⟨HB0_1.out, HB1_1.out, HB2_1.out⟩ ?_
  refine wpAnyH_take (i := 2) (fuel := 12) rfl (by kernel_rfl) (by kernel_rfl) (by kernel_rfl) (fun c a w h => h) (yldRow rfl 28 _ rfl (w.heap.size + 1) rfl 28 (bcells a1) (0, 0) _ (fun wx h => h.2.1) Try.underlying28 rfl HS1.out) ⟨HB0_1.out, HB1_1.out, HB2_1.out⟩ ?_
  refine wpAnyH_take (i := 4) (fuel := 11) rfl (by kernel_rfl) (by kernel_rfl) (by kernel_rfl) (fun c a w h => h) (yldRow rfl 30 _ rfl (w.heap.size + 1 + 1) rfl 30 (stcells a2) (0, 0) _ (fun wx h => h.2.2) Try.underlying30 rfl HS2.out) ⟨HB0_1.out, HB1_1.out, HB2_1.out⟩ ?_
  refine wpAnyH_take (i := 6) (fuel := 10) rfl (by kernel_rfl) (by kernel_rfl) (by kernel_rfl) (fun c a w h => h) (yldMove rfl _ rfl) ⟨HB0_1.out, HB1_1.out, HB2_1.out⟩ ?_
  refine wpAnyH_all (rs := [1]) (fuel := 9) (by kernel_rfl) (by simp) ?_
  intro i hi
  obtain rfl : i = 1 := by simpa using hi
  clear hi
  refine wpOpPlain rfl rfl ?_
  go_simp
  go_at_call 11
  refine (c_toControl a0 _).mono ?_
  rintro e w2 ⟨rfl, h2⟩
  have E_2 := hid (below_trans E_1.out h2 E_1.out.size)
  have HB0_2 := hid ((h2.block (w.heap.size) (block_lt HB0_1.out)).trans HB0_1.out)
  have HB1_2 := hid ((h2.block (w.heap.size + 1) (block_lt HB1_1.out)).trans HB1_1.out)
  have HB2_2 := hid ((h2.block (w.heap.size + 1 + 1) (block_lt HB2_1.out)).trans HB2_1.out)
  clear h2
  refine ⟨⟨HB0_2.out, HB1_2.out, HB2_2.out⟩, ?_⟩
  refine wpAnyH_all (rs := [3]) (fuel := 8) (by kernel_rfl) (by simp) ?_
  intro i hi
  obtain rfl : i = 3 := by simpa using hi
  clear hi
  refine wpOpPlain rfl rfl ?_
  go_simp
  go_at_call 12
  refine (c_toBlind a1 _).mono ?_
  rintro e w3 ⟨rfl, h3⟩
  have E_3 := hid (below_trans E_2.out h3 E_2.out.size)
  have HB0_3 := hid ((h3.block (w.heap.size) (block_lt HB0_2.out)).trans HB0_2.out)
  have HB1_3 := hid ((h3.block (w.heap.size + 1) (block_lt HB1_2.out)).trans HB1_2.out)
  have HB2_3 := hid ((h3.block (w.heap.size + 1 + 1) (block_lt HB2_2.out)).trans HB2_2.out)
  clear h3
  refine ⟨⟨HB0_3.out, HB1_3.out, HB2_3.out⟩, ?_⟩
  refine wpAnyH_all (rs := [5]) (fuel := 7) (by kernel_rfl) (by simp) ?_
  intro i hi
  obtain rfl : i = 5 := by simpa using hi
  clear hi
  refine wpOpPlain rfl rfl ?_
  go_simp
  go_at_call 13
  refine (c_toState a2 _).mono ?_
  rintro e w4 ⟨rfl, h4⟩
  have E_4 := hid (below_trans E_3.out h4 E_3.out.size)
  have HB0_4 := hid ((h4.block (w.heap.size) (block_lt HB0_3.out)).trans HB0_3.out)
  have HB1_4 := hid ((h4.block (w.heap.size + 1) (block_lt HB1_3.out)).trans HB1_3.out)
  have HB2_4 := hid ((h4.block (w.heap.size + 1 + 1) (block_lt HB2_3.out)).trans HB2_3.out)
  clear h4
  refine ⟨⟨HB0_4.out, HB1_4.out, HB2_4.out⟩, ?_⟩
  refine wpAnyH_all (rs := [7]) (fuel := 6) (by kernel_rfl) (by simp) ?_
  intro i hi
  obtain rfl : i = 7 := by simpa using hi
  clear hi
  refine wpOpPlain rfl rfl ?_
  go_simp
  go_at_call 14
  refine (c_toTickS a3 n3 c3 P3 _ O3.out (X3.out.below E_4.out)).mono ?_
  rintro e w5 ⟨b5, rfl, o5, l5, h5⟩
  have L5E := hid (show w.heap.size ≤ b5 from Nat.le_trans E_4.out.size l5)
  have Y5_0 := hid (show w.heap.size < b5 from Nat.lt_of_lt_of_le (block_lt HB0_4.out) l5)
  have Y5_1 := hid (show w.heap.size + 1 < b5 from Nat.lt_of_lt_of_le (block_lt HB1_4.out) l5)
  have Y5_2 := hid (show w.heap.size + 1 + 1 < b5 from Nat.lt_of_lt_of_le (block_lt HB2_4.out) l5)
  have E_5 := hid (below_trans E_4.out h5 E_4.out.size)
  have HB0_5 := hid ((h5.block (w.heap.size) (block_lt HB0_4.out)).trans HB0_4.out)
  have HB1_5 := hid ((h5.block (w.heap.size + 1) (block_lt HB1_4.out)).trans HB1_4.out)
  have HB2_5 := hid ((h5.block (w.heap.size + 1 + 1) (block_lt HB2_4.out)).trans HB2_4.out)
  have S_5 := hid o5
  clear o5 l5 h5
  refine ⟨⟨HB0_5.out, HB1_5.out, HB2_5.out⟩, ?_⟩
  refine wpAnyH_all (rs := [8]) (fuel := 5) (by kernel_rfl) (by simp) ?_
  intro i hi
  obtain rfl : i = 8 := by simpa using hi
  clear hi
  refine wpOpPlain rfl rfl ?_
  go_simp
  go_at_call 10
  refine (c_specRaisedIn a0 B0.out a1 B1.out a2 B2.out _ n3 _ P3 _ O3.out (S_5.out.rws HN3.out)).mono ?_
  rintro e w6 ⟨rfl, h6⟩
  have E_6 := hid (below_trans E_5.out h6 E_5.out.size)
  have S_6 := hid (S_5.out.below h6)
  have HB0_6 := hid ((h6.block (w.heap.size) (block_lt HB0_5.out)).trans HB0_5.out)
  have HB1_6 := hid ((h6.block (w.heap.size + 1) (block_lt HB1_5.out)).trans HB1_5.out)
  have HB2_6 := hid ((h6.block (w.heap.size + 1 + 1) (block_lt HB2_5.out)).trans HB2_5.out)
  clear h6
  refine ⟨⟨HB0_6.out, HB1_6.out, HB2_6.out⟩, ?_⟩
  refine wpAnyH_take (i := 9) (fuel := 4) rfl (by kernel_rfl) (by kernel_rfl) (by kernel_rfl) (fun c a w h => h) (yldMove rfl _ rfl) ⟨HB0_6.out, HB1_6.out, HB2_6.out⟩ ?_
  refine wpAnyH_take (i := 10) (fuel := 3) rfl (by kernel_rfl) (by kernel_rfl) (by kernel_rfl) (fun c a w h => h) (yldExtract rfl _ 0 rfl _ rfl _ rfl) ⟨HB0_6.out, HB1_6.out, HB2_6.out⟩ ?_
  refine wpAnyH_take (i := 11) (fuel := 2) rfl (by kernel_rfl) (by kernel_rfl) (by kernel_rfl) (fun c a w h => h) (yldExtract rfl _ 1 rfl _ rfl _ rfl) ⟨HB0_6.out, HB1_6.out, HB2_6.out⟩ ?_
  refine wpAnyH_take (i := 12) (fuel := 1) rfl (by kernel_rfl) (by kernel_rfl) (by kernel_rfl) (fun c a w h => h) (yldAssign rfl _ rfl) ⟨HB0_6.out, HB1_6.out, HB2_6.out⟩ ?_
  refine wpAnyH_take (i := 13) (fuel := 0) rfl (by kernel_rfl) (by kernel_rfl) (by kernel_rfl) (fun c a w h => h) (yldAssign rfl _ rfl) ⟨HB0_6.out, HB1_6.out, HB2_6.out⟩ ?_
  refine wpAnyH_done (by kernel_rfl) ?_ 0
  simp only [Exit.then]
  go_wp2_with (first | (refine wpList_load_row rfl 25 _ rfl (w.heap.size) rfl 25 (ccells a0) (0, 0) _ HB0_6.out Try.underlying25 rfl HS0.out ?_) | (refine wpList_load_row rfl 28 _ rfl (w.heap.size + 1) rfl 28 (bcells a1) (0, 0) _ HB1_6.out Try.underlying28 rfl HS1.out ?_) | (refine wpList_load_row rfl 30 _ rfl (w.heap.size + 1 + 1) rfl 30 (stcells a2) (0, 0) _ HB2_6.out Try.underlying30 rfl HS2.out ?_))
  refine (c_toTickS a3 n3 c3 P3 _ O3.out (X3.out.below E_6.out)).mono ?_
  rintro e w7 ⟨b7, rfl, o7, l7, h7⟩
  have L7E := hid (show w.heap.size ≤ b7 from Nat.le_trans E_6.out.size l7)
  have Y7_0 := hid (show w.heap.size < b7 from Nat.lt_of_lt_of_le (block_lt HB0_6.out) l7)
  have Y7_1 := hid (show w.heap.size + 1 < b7 from Nat.lt_of_lt_of_le (block_lt HB1_6.out) l7)
  have Y7_2 := hid (show w.heap.size + 1 + 1 < b7 from Nat.lt_of_lt_of_le (block_lt HB2_6.out) l7)
  have E_7 := hid (below_trans E_6.out h7 E_6.out.size)
  have HB0_7 := hid ((h7.block (w.heap.size) (block_lt HB0_6.out)).trans HB0_6.out)
  have HB1_7 := hid ((h7.block (w.heap.size + 1) (block_lt HB1_6.out)).trans HB1_6.out)
  have HB2_7 := hid ((h7.block (w.heap.size + 1 + 1) (block_lt HB2_6.out)).trans HB2_6.out)
  have P_7 := hid o7
  clear o7 l7 h7
  go_wp2_with fail
  refine wp_region_held (S := fun wx => wx.heap[w.heap.size]? = some (.cells (ccells a0) 25 (0, 0)) ∧ wx.heap[w.heap.size + 1]? = some (.cells (bcells a1) 28 (0, 0)) ∧ wx.heap[w.heap.size + 1 + 1]? = some (.cells (stcells a2) 30 (0, 0))) (by kernel_rfl) ?_
  refine genWorld (p := wpAnyH _ _ _ _ _ _ _ _) (w0 := (w7).drew) (fun w8 hw8 => ?_)
  have h8 : Below (w7).heap.size (w7) w8 := hw8 ▸ (Below.refl _ _).drew
  clear hw8
  have E_8 := hid (below_trans E_7.out h8 E_7.out.size)
  have P_8 := hid (P_7.out.below h8)
  have HB0_8 := hid ((h8.block (w.heap.size) (block_lt HB0_7.out)).trans HB0_7.out)
  have HB1_8 := hid ((h8.block (w.heap.size + 1) (block_lt HB1_7.out)).trans HB1_7.out)
  have HB2_8 := hid ((h8.block (w.heap.size + 1 + 1) (block_lt HB2_7.out)).trans HB2_7.out)
  clear h8
  refine wpAnyH_take (i := 0) (fuel := 12) rfl (by kernel_rfl) (by kernel_rfl) (by kernel_rfl) (fun c a w h => h) (yldRow rfl 25 _ rfl (w.heap.size) rfl 25 (ccells a0) (0, 0) _ (fun wx h => h.1) Try.underlying25 rfl HS0.out) ⟨HB0_8.out, HB1_8.out, HB2_8.out⟩ ?_
  refine wpAnyH_take (i := 2) (fuel := 11) rfl (by kernel_rfl) (by kernel_rfl) (by kernel_rfl) (fun c a w h => h) (yldRow rfl 28 _ rfl (w.heap.size + 1) rfl 28 (bcells a1) (0, 0) _ (fun wx h => h.2.1) Try.underlying28 rfl HS1.out) ⟨HB0_8.out, HB1_8.out, HB2_8.out⟩ ?_
  refine wpAnyH_take (i := 4) (fuel := 10) rfl (by kernel_rfl) (by kernel_rfl) (by kernel_rfl) (fun c a w h => h) (yldRow rfl 30 _ rfl (w.heap.size + 1 + 1) rfl 30 (stcells a2) (0, 0) _ (fun wx h => h.2.2) Try.underlying30 rfl HS2.out) ⟨HB0_8.out, HB1_8.out, HB2_8.out⟩ ?_
  refine wpAnyH_take (i := 6) (fuel := 9) rfl (by kernel_rfl) (by kernel_rfl) (by kernel_rfl) (fun c a w h => h) (yldMove rfl _ rfl) ⟨HB0_8.out, HB1_8.out, HB2_8.out⟩ ?_
  refine wpAnyH_all (rs := [1]) (fuel := 8) (by kernel_rfl) (by simp) ?_
  intro i hi
  obtain rfl : i = 1 := by simpa using hi
  clear hi
  refine wpOpPlain rfl rfl ?_
  go_simp
  go_at_call 11
  refine (c_toControl a0 _).mono ?_
  rintro e w9 ⟨rfl, h9⟩
  have E_9 := hid (below_trans E_8.out h9 E_8.out.size)
  have P_9 := hid (P_8.out.below h9)
  have HB0_9 := hid ((h9.block (w.heap.size) (block_lt HB0_8.out)).trans HB0_8.out)
  have HB1_9 := hid ((h9.block (w.heap.size + 1) (block_lt HB1_8.out)).trans HB1_8.out)
  have HB2_9 := hid ((h9.block (w.heap.size + 1 + 1) (block_lt HB2_8.out)).trans HB2_8.out)
  clear h9
  refine ⟨⟨HB0_9.out, HB1_9.out, HB2_9.out⟩, ?_⟩
  refine wpAnyH_all (rs := [3]) (fuel := 7) (by kernel_rfl) (by simp) ?_
  intro i hi
  obtain rfl : i = 3 := by simpa using hi
  clear hi
  refine wpOpPlain rfl rfl ?_
  go_simp
  go_at_call 12
  refine (c_toBlind a1 _).mono ?_
  rintro e w10 ⟨rfl, h10⟩
  have E_10 := hid (below_trans E_9.out h10 E_9.out.size)
  have P_10 := hid (P_9.out.below h10)
  have HB0_10 := hid ((h10.block (w.heap.size) (block_lt HB0_9.out)).trans HB0_9.out)
  have HB1_10 := hid ((h10.block (w.heap.size + 1) (block_lt HB1_9.out)).trans HB1_9.out)
  have HB2_10 := hid ((h10.block (w.heap.size + 1 + 1) (block_lt HB2_9.out)).trans HB2_9.out)
  clear h10
  refine ⟨⟨HB0_10.out, HB1_10.out, HB2_10.out⟩, ?_⟩
  refine wpAnyH_all (rs := [5]) (fuel := 6) (by kernel_rfl) (by simp) ?_
  intro i hi
  obtain rfl : i = 5 := by simpa using hi
  clear hi
  refine wpOpPlain rfl rfl ?_
  go_simp
  go_at_call 13
  refine (c_toState a2 _).mono ?_
  rintro e w11 ⟨rfl, h11⟩
  have E_11 := hid (below_trans E_10.out h11 E_10.out.size)
  have P_11 := hid (P_10.out.below h11)
  have HB0_11 := hid ((h11.block (w.heap.size) (block_lt HB0_10.out)).trans HB0_10.out)
  have HB1_11 := hid ((h11.block (w.heap.size + 1) (block_lt HB1_10.out)).trans HB1_10.out)
  have HB2_11 := hid ((h11.block (w.heap.size + 1 + 1) (block_lt HB2_10.out)).trans HB2_10.out)
  clear h11
  refine ⟨⟨HB0_11.out, HB1_11.out, HB2_11.out⟩, ?_⟩
  refine wpAnyH_all (rs := [7]) (fuel := 5) (by kernel_rfl) (by simp) ?_
  intro i hi
  obtain rfl : i = 7 := by simpa using hi
  clear hi
  refine wpOpPlain rfl rfl ?_
  go_simp
  go_at_call 15
  refine (c_implRaisedIn a0 B0.out a1 B1.out a2 B2.out _ n3 _ P3 _ O3.out (P_11.out.rws HN3.out)).mono ?_
  rintro e w12 ⟨rfl, h12⟩
  have E_12 := hid (below_trans E_11.out h12 E_11.out.size)
  have P_12 := hid (P_11.out.below h12)
  have HB0_12 := hid ((h12.block (w.heap.size) (block_lt HB0_11.out)).trans HB0_11.out)
  have HB1_12 := hid ((h12.block (w.heap.size + 1) (block_lt HB1_11.out)).trans HB1_11.out)
  have HB2_12 := hid ((h12.block (w.heap.size + 1 + 1) (block_lt HB2_11.out)).trans HB2_11.out)
  clear h12
  refine ⟨⟨HB0_12.out, HB1_12.out, HB2_12.out⟩, ?_⟩
  refine wpAnyH_take (i := 8) (fuel := 4) rfl (by kernel_rfl) (by kernel_rfl) (by kernel_rfl) (fun c a w h => h) (yldMove rfl _ rfl) ⟨HB0_12.out, HB1_12.out, HB2_12.out⟩ ?_
  refine wpAnyH_take (i := 9) (fuel := 3) rfl (by kernel_rfl) (by kernel_rfl) (by kernel_rfl) (fun c a w h => h) (yldExtract rfl _ 0 rfl _ rfl _ rfl) ⟨HB0_12.out, HB1_12.out, HB2_12.out⟩ ?_
  refine wpAnyH_take (i := 10) (fuel := 2) rfl (by kernel_rfl) (by kernel_rfl) (by kernel_rfl) (fun c a w h => h) (yldExtract rfl _ 1 rfl _ rfl _ rfl) ⟨HB0_12.out, HB1_12.out, HB2_12.out⟩ ?_
  refine wpAnyH_take (i := 11) (fuel := 1) rfl (by kernel_rfl) (by kernel_rfl) (by kernel_rfl) (fun c a w h => h) (yldAssign rfl _ rfl) ⟨HB0_12.out, HB1_12.out, HB2_12.out⟩ ?_
  refine wpAnyH_take (i := 12) (fuel := 0) rfl (by kernel_rfl) (by kernel_rfl) (by kernel_rfl) (fun c a w h => h) (yldAssign rfl _ rfl) ⟨HB0_12.out, HB1_12.out, HB2_12.out⟩ ?_
  refine wpAnyH_done (by kernel_rfl) ?_ 0
  simp only [Exit.then]
  go_wp2_with (first | (refine wpList_load_row rfl 25 _ rfl (w.heap.size) rfl 25 (ccells a0) (0, 0) _ HB0_12.out Try.underlying25 rfl HS0.out ?_) | (refine wpList_load_row rfl 28 _ rfl (w.heap.size + 1) rfl 28 (bcells a1) (0, 0) _ HB1_12.out Try.underlying28 rfl HS1.out ?_) | (refine wpList_load_row rfl 30 _ rfl (w.heap.size + 1 + 1) rfl 30 (stcells a2) (0, 0) _ HB2_12.out Try.underlying30 rfl HS2.out ?_))
  refine (c_toTickS a3 n3 c3 P3 _ O3.out (X3.out.below E_12.out)).mono ?_
  rintro e w13 ⟨b13, rfl, o13, l13, h13⟩
  have L13E := hid (show w.heap.size ≤ b13 from Nat.le_trans E_12.out.size l13)
  have Y13_0 := hid (show w.heap.size < b13 from Nat.lt_of_lt_of_le (block_lt HB0_12.out) l13)
  have Y13_1 := hid (show w.heap.size + 1 < b13 from Nat.lt_of_lt_of_le (block_lt HB1_12.out) l13)
  have Y13_2 := hid (show w.heap.size + 1 + 1 < b13 from Nat.lt_of_lt_of_le (block_lt HB2_12.out) l13)
  have E_13 := hid (below_trans E_12.out h13 E_12.out.size)
  have P_13 := hid (P_12.out.below h13)
  have HB0_13 := hid ((h13.block (w.heap.size) (block_lt HB0_12.out)).trans HB0_12.out)
  have HB1_13 := hid ((h13.block (w.heap.size + 1) (block_lt HB1_12.out)).trans HB1_12.out)
  have HB2_13 := hid ((h13.block (w.heap.size + 1 + 1) (block_lt HB2_12.out)).trans HB2_12.out)
  have Q_13 := hid o13
  clear o13 l13 h13
  go_wp2_with (first | (refine wpList_load_row rfl 25 _ rfl (w.heap.size) rfl 25 (ccells a0) (0, 0) _ HB0_13.out Try.underlying25 rfl HS0.out ?_) | (refine wpList_load_row rfl 28 _ rfl (w.heap.size + 1) rfl 28 (bcells a1) (0, 0) _ HB1_13.out Try.underlying28 rfl HS1.out ?_) | (refine wpList_load_row rfl 30 _ rfl (w.heap.size + 1 + 1) rfl 30 (stcells a2) (0, 0) _ HB2_13.out Try.underlying30 rfl HS2.out ?_))
  refine (c_eqTickS _ _ n3 _ _ P3 _ O3.out (P_13.out.rws HN3.out) (Q_13.out.rws HN3.out)).mono ?_
  rintro e w14 ⟨rfl, h14⟩
  have E_14 := hid (below_trans E_13.out h14 E_13.out.size)
  have P_14 := hid (P_13.out.below h14)
  have Q_14 := hid (Q_13.out.below h14)
  have HB0_14 := hid ((h14.block (w.heap.size) (block_lt HB0_13.out)).trans HB0_13.out)
  have HB1_14 := hid ((h14.block (w.heap.size + 1) (block_lt HB1_13.out)).trans HB1_13.out)
  have HB2_14 := hid ((h14.block (w.heap.size + 1 + 1) (block_lt HB2_13.out)).trans HB2_13.out)
  clear h14
  go_wp2
  go_ret
  exact ⟨rfl, E_14.out⟩

set_option maxRecDepth 100000 in
theorem lifted (os : Os) (started : os.Started) (H : Type) (enc : TypeId × Value → H) :
    ReturnsInHanded {} Try.checked os 3 .any (Rows.fnExactRaisedInSpec.pre6 enc Try.prog Try.f3 Rows.fnExactRaisedInRow.domain false) (Rows.fnExactRaisedInSpec.post enc Try.prog Try.f3 false true false false) := by
  refine returnsInHanded_of_change (C := Try.checked) own started (by kernel_rfl) Try.func3
    (ChangeSpec.witness6 (enc := enc) (C := Try.checked) false ⟨#[], #[.agg #[.float .f32 0, .float .f32 0, .float .f32 0, .int .i8 0, .int .i8 0, .int .i8 0], .agg #[.int .i8 0, .float .f32 0, .float .f32 0, .int .i16 0, .float .f32 0], .agg #[.int .i16 0, .int .i8 0, .int .i8 0], .slice none 0 0], []⟩ 8 (by kernel_rfl) (by kernel_rfl) (by kernel_rfl) (by kernel_rfl)) ?_
  intro W base args ds gs before hval0 hW hcnd _
  have hval : ∀ (j : Nat) t v, Try.f3.params[j]? = some t → args[j]? = some v → Value.okWide Try.prog W .any base t v := hval0
  have hW' := hW
  obtain ⟨p, q, hA0, hV, rfl, hfz, hnd⟩ := hW
  have hA : DataW.TrodAll enc Try.prog W 0 (fun _ => true) true Try.f3.params.toList args.toList ds p := hA0
  rw [Try.params3] at hA hval
  obtain ⟨v0, vs0, d0, ds0, p0, q0, hargs, rfl, rfl, h0, r0⟩ := trodAll_cons hA
  obtain ⟨v1, vs1, d1, ds1, p1, q1, rfl, rfl, rfl, h1, r1⟩ := trodAll_cons r0
  obtain ⟨v2, vs2, d2, ds2, p2, q2, rfl, rfl, rfl, h2, r2⟩ := trodAll_cons r1
  obtain ⟨v3, vs3, d3, ds3, p3, q3, rfl, rfl, rfl, h3, r3⟩ := trodAll_cons r2
  obtain ⟨rfl, rfl, rfl⟩ := trodAll_nil r3
  obtain rfl : args = #[v0, v1, v2, v3] := by cases args; simp_all
  obtain ⟨rfl, rfl⟩ := trodVars_none hV
  have k0 := h0
  have lt0 : ∀ x ∈ p0, x.block < W.heap.size := by obtain ⟨m, hm⟩ := k0; exact DataW.trod_lt m _ _ _ hm
  have k1 := h1
  have lt1 : ∀ x ∈ p1, x.block < W.heap.size := by obtain ⟨m, hm⟩ := k1; exact DataW.trod_lt m _ _ _ hm
  have k2 := h2
  have lt2 : ∀ x ∈ p2, x.block < W.heap.size := by obtain ⟨m, hm⟩ := k2; exact DataW.trod_lt m _ _ _ hm
  have k3 := h3
  have lt3 : ∀ x ∈ p3, x.block < W.heap.size := by obtain ⟨m, hm⟩ := k3; exact DataW.trod_lt m _ _ _ hm
  obtain ⟨c0, rfl, fa0⟩ := open_cells (a := [.f .f32, .f .f32, .f .f32, .i .i8, .i .i8, .i .i8]) 3 (by kernel_rfl) (by kernel_rfl) (hval 0 25 v0 rfl rfl) h0
  obtain ⟨a0, rfl, wa0⟩ := fits_control fa0
  obtain ⟨c1, rfl, fa1⟩ := open_cells (a := [.i .i8, .f .f32, .f .f32, .i .i16, .f .f32]) 3 (by kernel_rfl) (by kernel_rfl) (hval 1 28 v1 rfl rfl) h1
  obtain ⟨a1, rfl, wa1⟩ := fits_blind fa1
  obtain ⟨c2, rfl, fa2⟩ := open_cells (a := [.i .i16, .i .i8, .i .i8]) 3 (by kernel_rfl) (by kernel_rfl) (hval 2 30 v2 rfl rfl) h2
  obtain ⟨a2, rfl, wa2⟩ := fits_state fa2
  obtain ⟨a3, n3, c3, rows3, rfl, rr3⟩ := open_rows (ks := [.f .f32, .f .f32, .i .i8]) 4 Try.underlying31 (by kernel_rfl) (by decide) (by kernel_rfl) (hval 3 31 v3 rfl rfl) h3
  obtain ⟨P3, ok3, r3x⟩ := ticks_of_rows rr3
  clear hA0 hval0
  refine (walk a0 a1 a2 a3 n3 c3 P3 W wa0 wa1 wa2 ok3 r3x).mono fun e W' ⟨he, bel⟩ => ?_
  subst he
  exact ⟨_, rfl, _, _, _, [], _, [], hW', trodAll_mk1 (shut_bool Try.underlying4 _), (trodAll_cons_mk (Below.trod laidOut (by kernel_rfl) (of_decide_eq_true (by kernel_rfl)) k0 bel lt0) (trodAll_cons_mk (Below.trod laidOut (by kernel_rfl) (of_decide_eq_true (by kernel_rfl)) k1 bel lt1) (trodAll_cons_mk (Below.trod laidOut (by kernel_rfl) (of_decide_eq_true (by kernel_rfl)) k2 bel lt2) (trodAll_cons_mk (Below.trod laidOut (by kernel_rfl) (of_decide_eq_true (by kernel_rfl)) k3 bel lt3) trodAll_mk0)))), rfl, bel.frame _, fun h => by cases h⟩

theorem proved : Rows.FnExactRaisedInSaid :=
  OpenClaim.holds_of_wide 3 Try.f3 rfl rfl rfl rfl rfl rfl rfl ⟨rfl, rfl, rfl, rfl, rfl⟩ rfl rfl rfl rfl rfl (by kernel_rfl) Try.func3 (by kernel_rfl)
    (of_decide_eq_true (by kernel_rfl)) (by unfold Func.isWrapper; first | (rw [if_pos (by decide +kernel)]; kernel_rfl) | (rw [if_neg (by decide +kernel)]; exact ⟨rfl, rfl⟩))
    (fun os started H enc _ => lifted os started H enc)
#print axioms proved
end Go.Proofs.Ytmjmgfojdomhlaa.lawRaisedIn
