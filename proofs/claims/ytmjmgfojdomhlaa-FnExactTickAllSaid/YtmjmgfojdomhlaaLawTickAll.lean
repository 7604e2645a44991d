/- FnExactTickAll returns true for all arguments: for each control, blind, state and each slice of ticks the program's TickAll and the reference's return the same, the program leaves its arguments as they were, and what it returns shares memory neither with them nor with what another call returns. No condition. -/
import Derived.Test.YtmjmgfojdomhlaaTalm
import Derived.Test.YtmjmgfojdomhlaaMarks
import Derived.Test.YtmjmgfojdomhlaaTail
import Derived.Test.YtmjmgfojdomhlaaLift
import Derived.Deep.DeepCutAuto
namespace Go.Proofs.Ytmjmgfojdomhlaa.lawTickAll
set_option maxRecDepth 20000
open Go.ChangeShapes Go.WideShapes Go.ChangeAt Go.RowKit Go.Proofs.Ytmjmgfojdomhlaa

theorem box_kept {w w2 : World} {b : Nat} {C : Array Value} {T : TypeId} {r : Option Nat} (h : w.heap[b]? = some (.cells C T (0, 0))) (hg : w.grownBy w2 r) (hne : r ≠ some b) : w2.heap[b]? = some (.cells C T (0, 0)) := (hg.block b (block_lt h) (fun e => hne e.symm)).trans h
theorem name_world {B : Nat} {w wx : World} (_ : Below B w wx) : ∃ wz, wz = wx := ⟨_, rfl⟩
theorem takeL {P : Program} {ops : Array Oper} {Q : Exit → Act → World → Prop} {md : Region.Mode} {S : World → Prop} {i : Nat} {d : Option Nat} {op : Op} {ty : TypeId} {pos : String} {after : Array Edge} {g : Option (Nat × Bool)} {v : Value} {fuel : Nat} {listed : Array Bool} {a : Act} {w : World}
    (hi : ops[i]? = some ⟨d, op, ty, pos, after, g⟩) (hs : Region.noSelect ops = true) (hf : Region.free md ops listed i = true) (hr : (Region.ready md ops listed).contains i = true)
    (hQ : ∀ c a w, Q (.panic c) (a.put d v) w → Q (.panic c) a w) (hy : YieldsIf P ops S ⟨d, op, ty, pos, after, g⟩ v a) (hS : S w)
    (h : wpAnyH P md ops Q S fuel (listed.setIfInBounds i true) (a.put d v) w) : wpAnyH P md ops Q S (fuel + 1) listed a w := wpAnyH_take hi hs hf hr hQ hy hS h
theorem plainL {P : Program} {ops : Array Oper} {Q : Exit → Act → World → Prop} {i : Nat} {d : Option Nat} {op : Op} {ty : TypeId} {pos : String} {after : Array Edge} {K : Act → World → Prop} {a : Act} {w : World}
    (hi : ops[i]? = some ⟨d, op, ty, pos, after, none⟩) (h : (⟨d, op, ty, pos, after, none⟩ : Oper).wp P a w K Q) : wpOp P ops Q i K a w := wpOpPlain hi rfl h
set_option maxHeartbeats 16000000 in
theorem walk (a0 : Ctl) (a1 : Bld) (a2 : Sta) (a3 : Option Addr) (n3 c3 : Nat) (P3 : Nat → Tck) (w : World) (b0 : WfC a0) (b1 : WfB a1) (b2 : WfS a2) (o3 : TcksOk P3 n3) (r3 : RwsAny w a3 n3 3 (tcs P3)) :
    Calls Try.prog 4 #[.agg (ccells a0), .agg (bcells a1), .agg (stcells a2), .slice a3 n3 c3] w fun e w' => e = .returned (.bool true) ∧ Below w.heap.size w w' := by
  have hs0 : (Try.prog.info? 25).map (·.size) = some (ccells a0).size := by kernel_rfl
  have hs1 : (Try.prog.info? 28).map (·.size) = some (bcells a1).size := by kernel_rfl
  have hs2 : (Try.prog.info? 30).map (·.size) = some (stcells a2).size := by kernel_rfl
  have hB0 : (((w.alloc (.cells (ccells a0) 25)).alloc (.cells (bcells a1) 28)).alloc (.cells (stcells a2) 30)).heap[w.heap.size]? = some (.cells (ccells a0) 25 (0, 0)) := (blk_past _ _ _ (by simp; omega)).trans ((blk_past _ _ _ (by simp)).trans (blk_at _ _ _ rfl))
  have hB1 : (((w.alloc (.cells (ccells a0) 25)).alloc (.cells (bcells a1) 28)).alloc (.cells (stcells a2) 30)).heap[w.heap.size + 1]? = some (.cells (bcells a1) 28 (0, 0)) := (blk_past _ _ _ (by simp)).trans (blk_at _ _ _ (by simp))
  have hB2 : (((w.alloc (.cells (ccells a0) 25)).alloc (.cells (bcells a1) 28)).alloc (.cells (stcells a2) 30)).heap[w.heap.size + 1 + 1]? = some (.cells (stcells a2) 30 (0, 0)) := blk_at _ _ _ (by simp)
  have h0 : Below w.heap.size w (((w.alloc (.cells (ccells a0) 25)).alloc (.cells (bcells a1) 28)).alloc (.cells (stcells a2) 30)) := ((((Below.refl _ _).alloc (Nat.le_refl _) _).alloc (by simp) _).alloc (by simp; omega) _)
  have B0 := hid b0
  have B1 := hid b1
  have B2 := hid b2
  have O3 := hid o3
  have R3 := hid r3
  have HS0 := hid hs0
  have HS1 := hid hs1
  have HS2 := hid hs2
  have HB0 := hid hB0
  have HB1 := hid hB1
  have HB2 := hid hB2
  have H0 := hid h0
  clear b0 b1 b2 o3 r3 hs0 hs1 hs2 hB0 hB1 hB2 h0
  have HL := hid (show (taL a0 a1 a2 P3 n3).length ≤ 100 from taL_len _ _ _ _ _)
  have HW := hid (taL_word (T := P3) (n := n3) B0.out B1.out a2 O3.out)
  have HS9 := hid (size_st2 (taS a0 a1 a2 P3 n3))
  have HFE : Hid (zSt.size = (stcells (taS a0 a1 a2 P3 n3)).size) := hid rfl
  by_cases hn3 : n3 ≤ 1048576
  case neg =>
    have hm := R3.out.small
    go_enter Try.func4, Try.ntmps4
    go_wp2_with fail
    refine (c_szTickS_no _ _ _ hn3 hm _).mono ?_
    rintro e w' ⟨rfl, rfl⟩
    go_wp2
    go_ret
    exact ⟨rfl, H0.out⟩
  have X3 := hid (R3.out.rws hn3)
  have HN3 := hid hn3
  clear R3
  go_enter Try.func4, Try.ntmps4
  go_wp2_with fail
  refine (c_szTickS _ _ _ hn3 _).mono ?_
  rintro e w' ⟨rfl, rfl⟩
  have hl3 : (0 : Int) ≤ 1048576 - (n3 : Int) := by omega
  have XR := hid (X3.out.below H0.out)
  go_upto_region 5 with fail
  go_cut [10, 11, 12] (fun s1 s2 s3 wx => ∃ (g : Nat) (v : Value), s1 = .pointer (some ⟨g, 0, none⟩) ∧ s2 = v ∧ s3 = .int .i64 (tkC a0 a1 a2 P3 n3) ∧ (((w.alloc (.cells (ccells a0) 25)).alloc (.cells (bcells a1) 28)).alloc (.cells (stcells a2) 30)).heap.size ≤ g ∧ wx.heap[g]? = some (.cells (stcells (taS a0 a1 a2 P3 n3)) 39 (0, 0)) ∧ GotF wx (((w.alloc (.cells (ccells a0) 25)).alloc (.cells (bcells a1) 28)).alloc (.cells (stcells a2) 30)).heap.size v (taL a0 a1 a2 P3 n3) ∧ Below (((w.alloc (.cells (ccells a0) 25)).alloc (.cells (bcells a1) 28)).alloc (.cells (stcells a2) 30)).heap.size (((w.alloc (.cells (ccells a0) 25)).alloc (.cells (bcells a1) 28)).alloc (.cells (stcells a2) 30)) wx)
  case first =>
    refine wp_region_held (S := fun wx => wx.heap[w.heap.size]? = some (.cells (ccells a0) 25 (0, 0)) ∧ wx.heap[w.heap.size + 1]? = some (.cells (bcells a1) 28 (0, 0)) ∧ wx.heap[w.heap.size + 1 + 1]? = some (.cells (stcells a2) 30 (0, 0))) (by kernel_rfl) ?_
    refine genWorld (p := wpAnyH _ _ _ _ _ _ _ _) (w0 := ((((w.alloc (.cells (ccells a0) 25)).alloc (.cells (bcells a1) 28)).alloc (.cells (stcells a2) 30))).drew) (fun w1 hw1 => ?_)
    have h1 : Below ((((w.alloc (.cells (ccells a0) 25)).alloc (.cells (bcells a1) 28)).alloc (.cells (stcells a2) 30))).heap.size ((((w.alloc (.cells (ccells a0) 25)).alloc (.cells (bcells a1) 28)).alloc (.cells (stcells a2) 30))) w1 := hw1 ▸ (Below.refl _ _).drew
    clear hw1
    have R_1 := hid h1
    have HB0_1 := hid ((h1.block (w.heap.size) (block_lt HB0.out)).trans HB0.out)
    have HB1_1 := hid ((h1.block (w.heap.size + 1) (block_lt HB1.out)).trans HB1.out)
    have HB2_1 := hid ((h1.block (w.heap.size + 1 + 1) (block_lt HB2.out)).trans HB2.out)
    clear h1
    refine takeL (i := 0) (fuel := 16) rfl (by kernel_rfl) (by kernel_rfl) (by kernel_rfl) (fun c a w h => h) (yldRow rfl 25 _ rfl (w.heap.size) rfl 25 (ccells a0) (0, 0) _ (fun wx h => h.1) Try.underlying25 rfl HS0.out) ⟨HB0_1.out, HB1_1.out, HB2_1.out⟩ ?_
    try simp only [Act.put, List.setIfInBounds_toArray, List.set_cons_zero, List.set_cons_succ]
    refine takeL (i := 2) (fuel := 15) rfl (by kernel_rfl) (by kernel_rfl) (by kernel_rfl) (fun c a w h => h) (yldRow rfl 28 _ rfl (w.heap.size + 1) rfl 28 (bcells a1) (0, 0) _ (fun wx h => h.2.1) Try.underlying28 rfl HS1.out) ⟨HB0_1.out, HB1_1.out, HB2_1.out⟩ ?_
    try simp only [Act.put, List.setIfInBounds_toArray, List.set_cons_zero, List.set_cons_succ]
    refine takeL (i := 4) (fuel := 14) rfl (by kernel_rfl) (by kernel_rfl) (by kernel_rfl) (fun c a w h => h) (yldRow rfl 30 _ rfl (w.heap.size + 1 + 1) rfl 30 (stcells a2) (0, 0) _ (fun wx h => h.2.2) Try.underlying30 rfl HS2.out) ⟨HB0_1.out, HB1_1.out, HB2_1.out⟩ ?_
    try simp only [Act.put, List.setIfInBounds_toArray, List.set_cons_zero, List.set_cons_succ]
    refine takeL (i := 6) (fuel := 13) rfl (by kernel_rfl) (by kernel_rfl) (by kernel_rfl) (fun c a w h => h) (yldMove rfl _ rfl) ⟨HB0_1.out, HB1_1.out, HB2_1.out⟩ ?_
    try simp only [Act.put, List.setIfInBounds_toArray, List.set_cons_zero, List.set_cons_succ]
    refine wpAnyH_all (rs := [1, 13]) (fuel := 12) (by kernel_rfl) (by simp) ?_
    intro i hi
    rcases (show i = 1 ∨ i = 13 from by simpa using hi) with rfl | rfl
    · clear hi
      refine plainL rfl ?_
      go_simp
      go_at_call 11
      refine (c_toControl a0 _).mono ?_
      rintro e w2 ⟨rfl, h2⟩
      have R_2 := hid (below_trans R_1.out h2 R_1.out.size)
      have HB0_2 := hid ((h2.block (w.heap.size) (block_lt HB0_1.out)).trans HB0_1.out)
      have HB1_2 := hid ((h2.block (w.heap.size + 1) (block_lt HB1_1.out)).trans HB1_1.out)
      have HB2_2 := hid ((h2.block (w.heap.size + 1 + 1) (block_lt HB2_1.out)).trans HB2_1.out)
      clear h2
      refine ⟨⟨HB0_2.out, HB1_2.out, HB2_2.out⟩, ?_⟩
      refine wpAnyH_all (rs := [3, 13]) (fuel := 11) (by kernel_rfl) (by simp) ?_
      intro i hi
      rcases (show i = 3 ∨ i = 13 from by simpa using hi) with rfl | rfl
      · clear hi
        refine plainL rfl ?_
        go_simp
        go_at_call 12
        refine (c_toBlind a1 _).mono ?_
        rintro e w3 ⟨rfl, h3⟩
        have R_3 := hid (below_trans R_2.out h3 R_2.out.size)
        have HB0_3 := hid ((h3.block (w.heap.size) (block_lt HB0_2.out)).trans HB0_2.out)
        have HB1_3 := hid ((h3.block (w.heap.size + 1) (block_lt HB1_2.out)).trans HB1_2.out)
        have HB2_3 := hid ((h3.block (w.heap.size + 1 + 1) (block_lt HB2_2.out)).trans HB2_2.out)
        clear h3
        refine ⟨⟨HB0_3.out, HB1_3.out, HB2_3.out⟩, ?_⟩
        refine wpAnyH_all (rs := [5, 13]) (fuel := 10) (by kernel_rfl) (by simp) ?_
        intro i hi
        rcases (show i = 5 ∨ i = 13 from by simpa using hi) with rfl | rfl
        · clear hi
          refine plainL rfl ?_
          go_simp
          go_at_call 13
          refine (c_toState a2 _).mono ?_
          rintro e w4 ⟨rfl, h4⟩
          have R_4 := hid (below_trans R_3.out h4 R_3.out.size)
          have HB0_4 := hid ((h4.block (w.heap.size) (block_lt HB0_3.out)).trans HB0_3.out)
          have HB1_4 := hid ((h4.block (w.heap.size + 1) (block_lt HB1_3.out)).trans HB1_3.out)
          have HB2_4 := hid ((h4.block (w.heap.size + 1 + 1) (block_lt HB2_3.out)).trans HB2_3.out)
          clear h4
          refine ⟨⟨HB0_4.out, HB1_4.out, HB2_4.out⟩, ?_⟩
          refine wpAnyH_all (rs := [7, 13]) (fuel := 9) (by kernel_rfl) (by simp) ?_
          intro i hi
          rcases (show i = 7 ∨ i = 13 from by simpa using hi) with rfl | rfl
          · clear hi
            refine plainL rfl ?_
            go_simp
            go_at_call 14
            refine (c_toTickS a3 n3 c3 P3 _ O3.out (XR.out.below R_4.out)).mono ?_
            rintro e w5 ⟨b5, rfl, o5, l5, h5⟩
            have L5R := hid (show (((w.alloc (.cells (ccells a0) 25)).alloc (.cells (bcells a1) 28)).alloc (.cells (stcells a2) 30)).heap.size ≤ b5 from Nat.le_trans R_4.out.size l5)
            have Y5_0 := hid (show w.heap.size < b5 from Nat.lt_of_lt_of_le (block_lt HB0_4.out) l5)
            have Y5_1 := hid (show w.heap.size + 1 < b5 from Nat.lt_of_lt_of_le (block_lt HB1_4.out) l5)
            have Y5_2 := hid (show w.heap.size + 1 + 1 < b5 from Nat.lt_of_lt_of_le (block_lt HB2_4.out) l5)
            have R_5 := hid (below_trans R_4.out h5 R_4.out.size)
            have HB0_5 := hid ((h5.block (w.heap.size) (block_lt HB0_4.out)).trans HB0_4.out)
            have HB1_5 := hid ((h5.block (w.heap.size + 1) (block_lt HB1_4.out)).trans HB1_4.out)
            have HB2_5 := hid ((h5.block (w.heap.size + 1 + 1) (block_lt HB2_4.out)).trans HB2_4.out)
            have S_5 := hid o5
            clear o5 l5 h5
            refine ⟨⟨HB0_5.out, HB1_5.out, HB2_5.out⟩, ?_⟩
            refine wpAnyH_all (rs := [8, 13]) (fuel := 8) (by kernel_rfl) (by simp) ?_
            intro i hi
            rcases (show i = 8 ∨ i = 13 from by simpa using hi) with rfl | rfl
            · clear hi
              refine plainL rfl ?_
              go_simp
              go_at_call 17
              refine (c_specTickAll a0 B0.out a1 B1.out a2 B2.out _ n3 _ P3 _ O3.out (S_5.out.rws HN3.out)).mono ?_
              rintro e w6 ⟨⟨u, rfl, ur⟩, h6⟩
              have R_6 := hid (below_trans R_5.out h6 R_5.out.size)
              have S_6 := hid (S_5.out.below h6)
              have HB0_6 := hid ((h6.block (w.heap.size) (block_lt HB0_5.out)).trans HB0_5.out)
              have HB1_6 := hid ((h6.block (w.heap.size + 1) (block_lt HB1_5.out)).trans HB1_5.out)
              have HB2_6 := hid ((h6.block (w.heap.size + 1 + 1) (block_lt HB2_5.out)).trans HB2_5.out)
              have GG6 := hid (GotF.owns2 (show GotF w6 (((w.alloc (.cells (ccells a0) 25)).alloc (.cells (bcells a1) 28)).alloc (.cells (stcells a2) 30)).heap.size u (taL a0 a1 a2 P3 n3) from own_from ur R_5.out.size) (by have := HL.out; omega))
              clear ur h6
              refine ⟨⟨HB0_6.out, HB1_6.out, HB2_6.out⟩, ?_⟩
              refine takeL (i := 9) (fuel := 7) rfl (by kernel_rfl) (by kernel_rfl) (by kernel_rfl) (fun c a w h => h) (yldMove rfl _ rfl) ⟨HB0_6.out, HB1_6.out, HB2_6.out⟩ ?_
              try simp only [Act.put, List.setIfInBounds_toArray, List.set_cons_zero, List.set_cons_succ]
              refine takeL (i := 10) (fuel := 6) rfl (by kernel_rfl) (by kernel_rfl) (by kernel_rfl) (fun c a w h => h) (yldExtract rfl _ 0 rfl _ rfl _ rfl) ⟨HB0_6.out, HB1_6.out, HB2_6.out⟩ ?_
              try simp only [Act.put, List.setIfInBounds_toArray, List.set_cons_zero, List.set_cons_succ]
              refine takeL (i := 11) (fuel := 5) rfl (by kernel_rfl) (by kernel_rfl) (by kernel_rfl) (fun c a w h => h) (yldExtract rfl _ 1 rfl _ rfl _ rfl) ⟨HB0_6.out, HB1_6.out, HB2_6.out⟩ ?_
              try simp only [Act.put, List.setIfInBounds_toArray, List.set_cons_zero, List.set_cons_succ]
              refine takeL (i := 12) (fuel := 4) rfl (by kernel_rfl) (by kernel_rfl) (by kernel_rfl) (fun c a w h => h) (yldExtract rfl _ 2 rfl _ rfl _ rfl) ⟨HB0_6.out, HB1_6.out, HB2_6.out⟩ ?_
              try simp only [Act.put, List.setIfInBounds_toArray, List.set_cons_zero, List.set_cons_succ]
              refine wpAnyH_all (rs := [13]) (fuel := 3) (by kernel_rfl) (by simp) ?_
              intro i hi
              obtain rfl : i = 13 := by simpa using hi
              clear hi
              refine plainL rfl ?_
              go_simp
              have HA7 := hid (heap_alloc_new w6 (.cells zSt 39))
              have D7 := hid ((Below.refl w6.heap.size w6).alloc (Nat.le_refl _) (.cells zSt 39))
              have GB0 := hid (show w.heap.size < w6.heap.size from block_lt HB0_6.out)
              have GB1 := hid (show w.heap.size + 1 < w6.heap.size from block_lt HB1_6.out)
              have GB2 := hid (show w.heap.size + 1 + 1 < w6.heap.size from block_lt HB2_6.out)
              have GR := hid (show (((w.alloc (.cells (ccells a0) 25)).alloc (.cells (bcells a1) 28)).alloc (.cells (stcells a2) 30)).heap.size ≤ w6.heap.size from R_6.out.size)
              refine ⟨⟨(D7.out.block _ (block_lt HB0_6.out)).trans HB0_6.out, (D7.out.block _ (block_lt HB1_6.out)).trans HB1_6.out, (D7.out.block _ (block_lt HB2_6.out)).trans HB2_6.out⟩, ?_⟩
              refine genWorld (p := wpAnyH _ _ _ _ _ _ _ _) (w0 := (w6.alloc (.cells zSt 39))) (fun w7 hw7 => ?_)
              have h7 : Below w6.heap.size w6 w7 := by rw [hw7]; exact D7.out
              have HN107 := hid (show w7.heap[w6.heap.size]? = some (.cells zSt 39 (0, 0)) by rw [hw7]; exact HA7.out)
              clear hw7 HA7 D7
              have R_7 := hid (below_trans R_6.out h7 R_6.out.size)
              have S_7 := hid (S_6.out.below h7)
              have G_7 := hid (GG6.out.below h7)
              have HB0_7 := hid ((h7.block (w.heap.size) (block_lt HB0_6.out)).trans HB0_6.out)
              have HB1_7 := hid ((h7.block (w.heap.size + 1) (block_lt HB1_6.out)).trans HB1_6.out)
              have HB2_7 := hid ((h7.block (w.heap.size + 1 + 1) (block_lt HB2_6.out)).trans HB2_6.out)
              clear h7
              refine wpAnyH_all (rs := [14]) (fuel := 2) (by kernel_rfl) (by simp) ?_
              intro i hi
              obtain rfl : i = 14 := by simpa using hi
              clear hi
              refine plainL rfl ?_
              refine wp_store_row 39 _ _ rfl (w6.heap.size) (stcells (taS a0 a1 a2 P3 n3)) (by kernel_rfl) (by kernel_rfl) 39 zSt HN107.out HS9.out HFE.out (stcells_one _) ?_
              refine ⟨⟨(setRow_other w7 (w6.heap.size) (w.heap.size) (stcells (taS a0 a1 a2 P3 n3)) (by have := GB0.out; omega)).trans HB0_7.out, (setRow_other w7 (w6.heap.size) (w.heap.size + 1) (stcells (taS a0 a1 a2 P3 n3)) (by have := GB1.out; omega)).trans HB1_7.out, (setRow_other w7 (w6.heap.size) (w.heap.size + 1 + 1) (stcells (taS a0 a1 a2 P3 n3)) (by have := GB2.out; omega)).trans HB2_7.out⟩, ?_⟩
              refine genWorld (p := wpAnyH _ _ _ _ _ _ _ _) (w0 := w7.setRow (w6.heap.size) (stcells (taS a0 a1 a2 P3 n3))) (fun w8 hw8 => ?_)
              have HB0_8 := hid (show w8.heap[w.heap.size]? = some (.cells (ccells a0) 25 (0, 0)) by rw [hw8]; exact (setRow_other w7 (w6.heap.size) (w.heap.size) (stcells (taS a0 a1 a2 P3 n3)) (by have := GB0.out; omega)).trans HB0_7.out)
              have HB1_8 := hid (show w8.heap[w.heap.size + 1]? = some (.cells (bcells a1) 28 (0, 0)) by rw [hw8]; exact (setRow_other w7 (w6.heap.size) (w.heap.size + 1) (stcells (taS a0 a1 a2 P3 n3)) (by have := GB1.out; omega)).trans HB1_7.out)
              have HB2_8 := hid (show w8.heap[w.heap.size + 1 + 1]? = some (.cells (stcells a2) 30 (0, 0)) by rw [hw8]; exact (setRow_other w7 (w6.heap.size) (w.heap.size + 1 + 1) (stcells (taS a0 a1 a2 P3 n3)) (by have := GB2.out; omega)).trans HB2_7.out)
              have R_8 := hid (show Below (((w.alloc (.cells (ccells a0) 25)).alloc (.cells (bcells a1) 28)).alloc (.cells (stcells a2) 30)).heap.size (((w.alloc (.cells (ccells a0) 25)).alloc (.cells (bcells a1) 28)).alloc (.cells (stcells a2) 30)) w8 by rw [hw8]; exact below_setRow R_7.out GR.out (stcells (taS a0 a1 a2 P3 n3)))
              have QN := hid (show w8.heap[w6.heap.size]? = some (.cells (stcells (taS a0 a1 a2 P3 n3)) 39 (0, 0)) by rw [hw8]; exact blk_row_same w7 (w6.heap.size) zSt (stcells (taS a0 a1 a2 P3 n3)) _ _ HN107.out)
              have GN := hid (show GotF w8 (((w.alloc (.cells (ccells a0) 25)).alloc (.cells (bcells a1) 28)).alloc (.cells (stcells a2) 30)).heap.size _ (taL a0 a1 a2 P3 n3) by rw [hw8]; exact own_setRow (T := 22) G_7.out.1 HN107.out (by decide))
              clear hw8
              refine takeL (i := 15) (fuel := 1) rfl (by kernel_rfl) (by kernel_rfl) (by kernel_rfl) (fun c a w h => h) (yldAssign rfl _ rfl) ⟨HB0_8.out, HB1_8.out, HB2_8.out⟩ ?_
              try simp only [Act.put, List.setIfInBounds_toArray, List.set_cons_zero, List.set_cons_succ]
              refine takeL (i := 16) (fuel := 0) rfl (by kernel_rfl) (by kernel_rfl) (by kernel_rfl) (fun c a w h => h) (yldAssign rfl _ rfl) ⟨HB0_8.out, HB1_8.out, HB2_8.out⟩ ?_
              try simp only [Act.put, List.setIfInBounds_toArray, List.set_cons_zero, List.set_cons_succ]
              refine wpAnyH_done (by kernel_rfl) ?_ 0
              simp only [Exit.then]
              go_wp2_with fail
              go_meet
              exact ⟨_, _, rfl, rfl, rfl, GR.out, QN.out, GN.out, R_8.out⟩
            · clear hi
              refine plainL rfl ?_
              go_simp
              have HA6 := hid (heap_alloc_new w5 (.cells zSt 39))
              have D6 := hid ((Below.refl w5.heap.size w5).alloc (Nat.le_refl _) (.cells zSt 39))
              have GB0 := hid (show w.heap.size < w5.heap.size from block_lt HB0_5.out)
              have GB1 := hid (show w.heap.size + 1 < w5.heap.size from block_lt HB1_5.out)
              have GB2 := hid (show w.heap.size + 1 + 1 < w5.heap.size from block_lt HB2_5.out)
              have GR := hid (show (((w.alloc (.cells (ccells a0) 25)).alloc (.cells (bcells a1) 28)).alloc (.cells (stcells a2) 30)).heap.size ≤ w5.heap.size from R_5.out.size)
              refine ⟨⟨(D6.out.block _ (block_lt HB0_5.out)).trans HB0_5.out, (D6.out.block _ (block_lt HB1_5.out)).trans HB1_5.out, (D6.out.block _ (block_lt HB2_5.out)).trans HB2_5.out⟩, ?_⟩
              refine genWorld (p := wpAnyH _ _ _ _ _ _ _ _) (w0 := (w5.alloc (.cells zSt 39))) (fun w6 hw6 => ?_)
              have h6 : Below w5.heap.size w5 w6 := by rw [hw6]; exact D6.out
              have HN106 := hid (show w6.heap[w5.heap.size]? = some (.cells zSt 39 (0, 0)) by rw [hw6]; exact HA6.out)
              clear hw6 HA6 D6
              have R_6 := hid (below_trans R_5.out h6 R_5.out.size)
              have S_6 := hid (S_5.out.below h6)
              have HB0_6 := hid ((h6.block (w.heap.size) (block_lt HB0_5.out)).trans HB0_5.out)
              have HB1_6 := hid ((h6.block (w.heap.size + 1) (block_lt HB1_5.out)).trans HB1_5.out)
              have HB2_6 := hid ((h6.block (w.heap.size + 1 + 1) (block_lt HB2_5.out)).trans HB2_5.out)
              clear h6
              refine wpAnyH_all (rs := [8]) (fuel := 7) (by kernel_rfl) (by simp) ?_
              intro i hi
              obtain rfl : i = 8 := by simpa using hi
              clear hi
              refine plainL rfl ?_
              go_simp
              go_at_call 17
              refine (c_specTickAll a0 B0.out a1 B1.out a2 B2.out _ n3 _ P3 _ O3.out (S_6.out.rws HN3.out)).mono ?_
              rintro e w7 ⟨⟨u, rfl, ur⟩, h7⟩
              have R_7 := hid (below_trans R_6.out h7 R_6.out.size)
              have S_7 := hid (S_6.out.below h7)
              have HB0_7 := hid ((h7.block (w.heap.size) (block_lt HB0_6.out)).trans HB0_6.out)
              have HB1_7 := hid ((h7.block (w.heap.size + 1) (block_lt HB1_6.out)).trans HB1_6.out)
              have HB2_7 := hid ((h7.block (w.heap.size + 1 + 1) (block_lt HB2_6.out)).trans HB2_6.out)
              have HB7_7 := hid ((h7.block (w5.heap.size) (block_lt HN106.out)).trans HN106.out)
              have GG7 := hid (GotF.owns2 (show GotF w7 (((w.alloc (.cells (ccells a0) 25)).alloc (.cells (bcells a1) 28)).alloc (.cells (stcells a2) 30)).heap.size u (taL a0 a1 a2 P3 n3) from own_from ur R_6.out.size) (by have := HL.out; omega))
              clear ur h7
              refine ⟨⟨HB0_7.out, HB1_7.out, HB2_7.out⟩, ?_⟩
              refine takeL (i := 9) (fuel := 6) rfl (by kernel_rfl) (by kernel_rfl) (by kernel_rfl) (fun c a w h => h) (yldMove rfl _ rfl) ⟨HB0_7.out, HB1_7.out, HB2_7.out⟩ ?_
              try simp only [Act.put, List.setIfInBounds_toArray, List.set_cons_zero, List.set_cons_succ]
              refine takeL (i := 10) (fuel := 5) rfl (by kernel_rfl) (by kernel_rfl) (by kernel_rfl) (fun c a w h => h) (yldExtract rfl _ 0 rfl _ rfl _ rfl) ⟨HB0_7.out, HB1_7.out, HB2_7.out⟩ ?_
              try simp only [Act.put, List.setIfInBounds_toArray, List.set_cons_zero, List.set_cons_succ]
              refine takeL (i := 11) (fuel := 4) rfl (by kernel_rfl) (by kernel_rfl) (by kernel_rfl) (fun c a w h => h) (yldExtract rfl _ 1 rfl _ rfl _ rfl) ⟨HB0_7.out, HB1_7.out, HB2_7.out⟩ ?_
              try simp only [Act.put, List.setIfInBounds_toArray, List.set_cons_zero, List.set_cons_succ]
              refine takeL (i := 12) (fuel := 3) rfl (by kernel_rfl) (by kernel_rfl) (by kernel_rfl) (fun c a w h => h) (yldExtract rfl _ 2 rfl _ rfl _ rfl) ⟨HB0_7.out, HB1_7.out, HB2_7.out⟩ ?_
              try simp only [Act.put, List.setIfInBounds_toArray, List.set_cons_zero, List.set_cons_succ]
              refine wpAnyH_all (rs := [14]) (fuel := 2) (by kernel_rfl) (by simp) ?_
              intro i hi
              obtain rfl : i = 14 := by simpa using hi
              clear hi
              refine plainL rfl ?_
              refine wp_store_row 39 _ _ rfl (w5.heap.size) (stcells (taS a0 a1 a2 P3 n3)) (by kernel_rfl) (by kernel_rfl) 39 zSt HB7_7.out HS9.out HFE.out (stcells_one _) ?_
              refine ⟨⟨(setRow_other w7 (w5.heap.size) (w.heap.size) (stcells (taS a0 a1 a2 P3 n3)) (by have := GB0.out; omega)).trans HB0_7.out, (setRow_other w7 (w5.heap.size) (w.heap.size + 1) (stcells (taS a0 a1 a2 P3 n3)) (by have := GB1.out; omega)).trans HB1_7.out, (setRow_other w7 (w5.heap.size) (w.heap.size + 1 + 1) (stcells (taS a0 a1 a2 P3 n3)) (by have := GB2.out; omega)).trans HB2_7.out⟩, ?_⟩
              refine genWorld (p := wpAnyH _ _ _ _ _ _ _ _) (w0 := w7.setRow (w5.heap.size) (stcells (taS a0 a1 a2 P3 n3))) (fun w8 hw8 => ?_)
              have HB0_8 := hid (show w8.heap[w.heap.size]? = some (.cells (ccells a0) 25 (0, 0)) by rw [hw8]; exact (setRow_other w7 (w5.heap.size) (w.heap.size) (stcells (taS a0 a1 a2 P3 n3)) (by have := GB0.out; omega)).trans HB0_7.out)
              have HB1_8 := hid (show w8.heap[w.heap.size + 1]? = some (.cells (bcells a1) 28 (0, 0)) by rw [hw8]; exact (setRow_other w7 (w5.heap.size) (w.heap.size + 1) (stcells (taS a0 a1 a2 P3 n3)) (by have := GB1.out; omega)).trans HB1_7.out)
              have HB2_8 := hid (show w8.heap[w.heap.size + 1 + 1]? = some (.cells (stcells a2) 30 (0, 0)) by rw [hw8]; exact (setRow_other w7 (w5.heap.size) (w.heap.size + 1 + 1) (stcells (taS a0 a1 a2 P3 n3)) (by have := GB2.out; omega)).trans HB2_7.out)
              have R_8 := hid (show Below (((w.alloc (.cells (ccells a0) 25)).alloc (.cells (bcells a1) 28)).alloc (.cells (stcells a2) 30)).heap.size (((w.alloc (.cells (ccells a0) 25)).alloc (.cells (bcells a1) 28)).alloc (.cells (stcells a2) 30)) w8 by rw [hw8]; exact below_setRow R_7.out GR.out (stcells (taS a0 a1 a2 P3 n3)))
              have QN := hid (show w8.heap[w5.heap.size]? = some (.cells (stcells (taS a0 a1 a2 P3 n3)) 39 (0, 0)) by rw [hw8]; exact blk_row_same w7 (w5.heap.size) zSt (stcells (taS a0 a1 a2 P3 n3)) _ _ HB7_7.out)
              have GN := hid (show GotF w8 (((w.alloc (.cells (ccells a0) 25)).alloc (.cells (bcells a1) 28)).alloc (.cells (stcells a2) 30)).heap.size _ (taL a0 a1 a2 P3 n3) by rw [hw8]; exact own_setRow (T := 22) GG7.out.1 HB7_7.out (by decide))
              clear hw8
              refine takeL (i := 15) (fuel := 1) rfl (by kernel_rfl) (by kernel_rfl) (by kernel_rfl) (fun c a w h => h) (yldAssign rfl _ rfl) ⟨HB0_8.out, HB1_8.out, HB2_8.out⟩ ?_
              try simp only [Act.put, List.setIfInBounds_toArray, List.set_cons_zero, List.set_cons_succ]
              refine takeL (i := 16) (fuel := 0) rfl (by kernel_rfl) (by kernel_rfl) (by kernel_rfl) (fun c a w h => h) (yldAssign rfl _ rfl) ⟨HB0_8.out, HB1_8.out, HB2_8.out⟩ ?_
              try simp only [Act.put, List.setIfInBounds_toArray, List.set_cons_zero, List.set_cons_succ]
              refine wpAnyH_done (by kernel_rfl) ?_ 0
              simp only [Exit.then]
              go_wp2_with fail
              go_meet
              exact ⟨_, _, rfl, rfl, rfl, GR.out, QN.out, GN.out, R_8.out⟩
          · clear hi
            refine plainL rfl ?_
            go_simp
            have HA5 := hid (heap_alloc_new w4 (.cells zSt 39))
            have D5 := hid ((Below.refl w4.heap.size w4).alloc (Nat.le_refl _) (.cells zSt 39))
            have GB0 := hid (show w.heap.size < w4.heap.size from block_lt HB0_4.out)
            have GB1 := hid (show w.heap.size + 1 < w4.heap.size from block_lt HB1_4.out)
            have GB2 := hid (show w.heap.size + 1 + 1 < w4.heap.size from block_lt HB2_4.out)
            have GR := hid (show (((w.alloc (.cells (ccells a0) 25)).alloc (.cells (bcells a1) 28)).alloc (.cells (stcells a2) 30)).heap.size ≤ w4.heap.size from R_4.out.size)
            refine ⟨⟨(D5.out.block _ (block_lt HB0_4.out)).trans HB0_4.out, (D5.out.block _ (block_lt HB1_4.out)).trans HB1_4.out, (D5.out.block _ (block_lt HB2_4.out)).trans HB2_4.out⟩, ?_⟩
            refine genWorld (p := wpAnyH _ _ _ _ _ _ _ _) (w0 := (w4.alloc (.cells zSt 39))) (fun w5 hw5 => ?_)
            have h5 : Below w4.heap.size w4 w5 := by rw [hw5]; exact D5.out
            have HN105 := hid (show w5.heap[w4.heap.size]? = some (.cells zSt 39 (0, 0)) by rw [hw5]; exact HA5.out)
            clear hw5 HA5 D5
            have R_5 := hid (below_trans R_4.out h5 R_4.out.size)
            have HB0_5 := hid ((h5.block (w.heap.size) (block_lt HB0_4.out)).trans HB0_4.out)
            have HB1_5 := hid ((h5.block (w.heap.size + 1) (block_lt HB1_4.out)).trans HB1_4.out)
            have HB2_5 := hid ((h5.block (w.heap.size + 1 + 1) (block_lt HB2_4.out)).trans HB2_4.out)
            clear h5
            refine wpAnyH_all (rs := [7]) (fuel := 8) (by kernel_rfl) (by simp) ?_
            intro i hi
            obtain rfl : i = 7 := by simpa using hi
            clear hi
            refine plainL rfl ?_
            go_simp
            go_at_call 14
            refine (c_toTickS a3 n3 c3 P3 _ O3.out (XR.out.below R_5.out)).mono ?_
            rintro e w6 ⟨b6, rfl, o6, l6, h6⟩
            have L6R := hid (show (((w.alloc (.cells (ccells a0) 25)).alloc (.cells (bcells a1) 28)).alloc (.cells (stcells a2) 30)).heap.size ≤ b6 from Nat.le_trans R_5.out.size l6)
            have Y6_0 := hid (show w.heap.size < b6 from Nat.lt_of_lt_of_le (block_lt HB0_5.out) l6)
            have Y6_1 := hid (show w.heap.size + 1 < b6 from Nat.lt_of_lt_of_le (block_lt HB1_5.out) l6)
            have Y6_2 := hid (show w.heap.size + 1 + 1 < b6 from Nat.lt_of_lt_of_le (block_lt HB2_5.out) l6)
            have Y6_7 := hid (show w4.heap.size < b6 from Nat.lt_of_lt_of_le (block_lt HN105.out) l6)
            have R_6 := hid (below_trans R_5.out h6 R_5.out.size)
            have HB0_6 := hid ((h6.block (w.heap.size) (block_lt HB0_5.out)).trans HB0_5.out)
            have HB1_6 := hid ((h6.block (w.heap.size + 1) (block_lt HB1_5.out)).trans HB1_5.out)
            have HB2_6 := hid ((h6.block (w.heap.size + 1 + 1) (block_lt HB2_5.out)).trans HB2_5.out)
            have HB7_6 := hid ((h6.block (w4.heap.size) (block_lt HN105.out)).trans HN105.out)
            have S_6 := hid o6
            clear o6 l6 h6
            refine ⟨⟨HB0_6.out, HB1_6.out, HB2_6.out⟩, ?_⟩
            refine wpAnyH_all (rs := [8]) (fuel := 7) (by kernel_rfl) (by simp) ?_
            intro i hi
            obtain rfl : i = 8 := by simpa using hi
            clear hi
            refine plainL rfl ?_
            go_simp
            go_at_call 17
            refine (c_specTickAll a0 B0.out a1 B1.out a2 B2.out _ n3 _ P3 _ O3.out (S_6.out.rws HN3.out)).mono ?_
            rintro e w7 ⟨⟨u, rfl, ur⟩, h7⟩
            have R_7 := hid (below_trans R_6.out h7 R_6.out.size)
            have S_7 := hid (S_6.out.below h7)
            have HB0_7 := hid ((h7.block (w.heap.size) (block_lt HB0_6.out)).trans HB0_6.out)
            have HB1_7 := hid ((h7.block (w.heap.size + 1) (block_lt HB1_6.out)).trans HB1_6.out)
            have HB2_7 := hid ((h7.block (w.heap.size + 1 + 1) (block_lt HB2_6.out)).trans HB2_6.out)
            have HB7_7 := hid ((h7.block (w4.heap.size) (block_lt HB7_6.out)).trans HB7_6.out)
            have GG7 := hid (GotF.owns2 (show GotF w7 (((w.alloc (.cells (ccells a0) 25)).alloc (.cells (bcells a1) 28)).alloc (.cells (stcells a2) 30)).heap.size u (taL a0 a1 a2 P3 n3) from own_from ur R_6.out.size) (by have := HL.out; omega))
            clear ur h7
            refine ⟨⟨HB0_7.out, HB1_7.out, HB2_7.out⟩, ?_⟩
            refine takeL (i := 9) (fuel := 6) rfl (by kernel_rfl) (by kernel_rfl) (by kernel_rfl) (fun c a w h => h) (yldMove rfl _ rfl) ⟨HB0_7.out, HB1_7.out, HB2_7.out⟩ ?_
            try simp only [Act.put, List.setIfInBounds_toArray, List.set_cons_zero, List.set_cons_succ]
            refine takeL (i := 10) (fuel := 5) rfl (by kernel_rfl) (by kernel_rfl) (by kernel_rfl) (fun c a w h => h) (yldExtract rfl _ 0 rfl _ rfl _ rfl) ⟨HB0_7.out, HB1_7.out, HB2_7.out⟩ ?_
            try simp only [Act.put, List.setIfInBounds_toArray, List.set_cons_zero, List.set_cons_succ]
            refine takeL (i := 11) (fuel := 4) rfl (by kernel_rfl) (by kernel_rfl) (by kernel_rfl) (fun c a w h => h) (yldExtract rfl _ 1 rfl _ rfl _ rfl) ⟨HB0_7.out, HB1_7.out, HB2_7.out⟩ ?_
            try simp only [Act.put, List.setIfInBounds_toArray, List.set_cons_zero, List.set_cons_succ]
            refine takeL (i := 12) (fuel := 3) rfl (by kernel_rfl) (by kernel_rfl) (by kernel_rfl) (fun c a w h => h) (yldExtract rfl _ 2 rfl _ rfl _ rfl) ⟨HB0_7.out, HB1_7.out, HB2_7.out⟩ ?_
            try simp only [Act.put, List.setIfInBounds_toArray, List.set_cons_zero, List.set_cons_succ]
            refine wpAnyH_all (rs := [14]) (fuel := 2) (by kernel_rfl) (by simp) ?_
            intro i hi
            obtain rfl : i = 14 := by simpa using hi
            clear hi
            refine plainL rfl ?_
            refine wp_store_row 39 _ _ rfl (w4.heap.size) (stcells (taS a0 a1 a2 P3 n3)) (by kernel_rfl) (by kernel_rfl) 39 zSt HB7_7.out HS9.out HFE.out (stcells_one _) ?_
            refine ⟨⟨(setRow_other w7 (w4.heap.size) (w.heap.size) (stcells (taS a0 a1 a2 P3 n3)) (by have := GB0.out; omega)).trans HB0_7.out, (setRow_other w7 (w4.heap.size) (w.heap.size + 1) (stcells (taS a0 a1 a2 P3 n3)) (by have := GB1.out; omega)).trans HB1_7.out, (setRow_other w7 (w4.heap.size) (w.heap.size + 1 + 1) (stcells (taS a0 a1 a2 P3 n3)) (by have := GB2.out; omega)).trans HB2_7.out⟩, ?_⟩
            refine genWorld (p := wpAnyH _ _ _ _ _ _ _ _) (w0 := w7.setRow (w4.heap.size) (stcells (taS a0 a1 a2 P3 n3))) (fun w8 hw8 => ?_)
            have HB0_8 := hid (show w8.heap[w.heap.size]? = some (.cells (ccells a0) 25 (0, 0)) by rw [hw8]; exact (setRow_other w7 (w4.heap.size) (w.heap.size) (stcells (taS a0 a1 a2 P3 n3)) (by have := GB0.out; omega)).trans HB0_7.out)
            have HB1_8 := hid (show w8.heap[w.heap.size + 1]? = some (.cells (bcells a1) 28 (0, 0)) by rw [hw8]; exact (setRow_other w7 (w4.heap.size) (w.heap.size + 1) (stcells (taS a0 a1 a2 P3 n3)) (by have := GB1.out; omega)).trans HB1_7.out)
            have HB2_8 := hid (show w8.heap[w.heap.size + 1 + 1]? = some (.cells (stcells a2) 30 (0, 0)) by rw [hw8]; exact (setRow_other w7 (w4.heap.size) (w.heap.size + 1 + 1) (stcells (taS a0 a1 a2 P3 n3)) (by have := GB2.out; omega)).trans HB2_7.out)
            have R_8 := hid (show Below (((w.alloc (.cells (ccells a0) 25)).alloc (.cells (bcells a1) 28)).alloc (.cells (stcells a2) 30)).heap.size (((w.alloc (.cells (ccells a0) 25)).alloc (.cells (bcells a1) 28)).alloc (.cells (stcells a2) 30)) w8 by rw [hw8]; exact below_setRow R_7.out GR.out (stcells (taS a0 a1 a2 P3 n3)))
            have QN := hid (show w8.heap[w4.heap.size]? = some (.cells (stcells (taS a0 a1 a2 P3 n3)) 39 (0, 0)) by rw [hw8]; exact blk_row_same w7 (w4.heap.size) zSt (stcells (taS a0 a1 a2 P3 n3)) _ _ HB7_7.out)
            have GN := hid (show GotF w8 (((w.alloc (.cells (ccells a0) 25)).alloc (.cells (bcells a1) 28)).alloc (.cells (stcells a2) 30)).heap.size _ (taL a0 a1 a2 P3 n3) by rw [hw8]; exact own_setRow (T := 22) GG7.out.1 HB7_7.out (by decide))
            clear hw8
            refine takeL (i := 15) (fuel := 1) rfl (by kernel_rfl) (by kernel_rfl) (by kernel_rfl) (fun c a w h => h) (yldAssign rfl _ rfl) ⟨HB0_8.out, HB1_8.out, HB2_8.out⟩ ?_
            try simp only [Act.put, List.setIfInBounds_toArray, List.set_cons_zero, List.set_cons_succ]
            refine takeL (i := 16) (fuel := 0) rfl (by kernel_rfl) (by kernel_rfl) (by kernel_rfl) (fun c a w h => h) (yldAssign rfl _ rfl) ⟨HB0_8.out, HB1_8.out, HB2_8.out⟩ ?_
            try simp only [Act.put, List.setIfInBounds_toArray, List.set_cons_zero, List.set_cons_succ]
            refine wpAnyH_done (by kernel_rfl) ?_ 0
            simp only [Exit.then]
            go_wp2_with fail
            go_meet
            exact ⟨_, _, rfl, rfl, rfl, GR.out, QN.out, GN.out, R_8.out⟩
        · clear hi
          refine plainL rfl ?_
          go_simp
          have HA4 := hid (heap_alloc_new w3 (.cells zSt 39))
          have D4 := hid ((Below.refl w3.heap.size w3).alloc (Nat.le_refl _) (.cells zSt 39))
          have GB0 := hid (show w.heap.size < w3.heap.size from block_lt HB0_3.out)
          have GB1 := hid (show w.heap.size + 1 < w3.heap.size from block_lt HB1_3.out)
          have GB2 := hid (show w.heap.size + 1 + 1 < w3.heap.size from block_lt HB2_3.out)
          have GR := hid (show (((w.alloc (.cells (ccells a0) 25)).alloc (.cells (bcells a1) 28)).alloc (.cells (stcells a2) 30)).heap.size ≤ w3.heap.size from R_3.out.size)
          refine ⟨⟨(D4.out.block _ (block_lt HB0_3.out)).trans HB0_3.out, (D4.out.block _ (block_lt HB1_3.out)).trans HB1_3.out, (D4.out.block _ (block_lt HB2_3.out)).trans HB2_3.out⟩, ?_⟩
          refine genWorld (p := wpAnyH _ _ _ _ _ _ _ _) (w0 := (w3.alloc (.cells zSt 39))) (fun w4 hw4 => ?_)
          have h4 : Below w3.heap.size w3 w4 := by rw [hw4]; exact D4.out
          have HN104 := hid (show w4.heap[w3.heap.size]? = some (.cells zSt 39 (0, 0)) by rw [hw4]; exact HA4.out)
          clear hw4 HA4 D4
          have R_4 := hid (below_trans R_3.out h4 R_3.out.size)
          have HB0_4 := hid ((h4.block (w.heap.size) (block_lt HB0_3.out)).trans HB0_3.out)
          have HB1_4 := hid ((h4.block (w.heap.size + 1) (block_lt HB1_3.out)).trans HB1_3.out)
          have HB2_4 := hid ((h4.block (w.heap.size + 1 + 1) (block_lt HB2_3.out)).trans HB2_3.out)
          clear h4
          refine wpAnyH_all (rs := [5]) (fuel := 9) (by kernel_rfl) (by simp) ?_
          intro i hi
          obtain rfl : i = 5 := by simpa using hi
          clear hi
          refine plainL rfl ?_
          go_simp
          go_at_call 13
          refine (c_toState a2 _).mono ?_
          rintro e w5 ⟨rfl, h5⟩
          have R_5 := hid (below_trans R_4.out h5 R_4.out.size)
          have HB0_5 := hid ((h5.block (w.heap.size) (block_lt HB0_4.out)).trans HB0_4.out)
          have HB1_5 := hid ((h5.block (w.heap.size + 1) (block_lt HB1_4.out)).trans HB1_4.out)
          have HB2_5 := hid ((h5.block (w.heap.size + 1 + 1) (block_lt HB2_4.out)).trans HB2_4.out)
          have HB7_5 := hid ((h5.block (w3.heap.size) (block_lt HN104.out)).trans HN104.out)
          clear h5
          refine ⟨⟨HB0_5.out, HB1_5.out, HB2_5.out⟩, ?_⟩
          refine wpAnyH_all (rs := [7]) (fuel := 8) (by kernel_rfl) (by simp) ?_
          intro i hi
          obtain rfl : i = 7 := by simpa using hi
          clear hi
          refine plainL rfl ?_
          go_simp
          go_at_call 14
          refine (c_toTickS a3 n3 c3 P3 _ O3.out (XR.out.below R_5.out)).mono ?_
          rintro e w6 ⟨b6, rfl, o6, l6, h6⟩
          have L6R := hid (show (((w.alloc (.cells (ccells a0) 25)).alloc (.cells (bcells a1) 28)).alloc (.cells (stcells a2) 30)).heap.size ≤ b6 from Nat.le_trans R_5.out.size l6)
          have Y6_0 := hid (show w.heap.size < b6 from Nat.lt_of_lt_of_le (block_lt HB0_5.out) l6)
          have Y6_1 := hid (show w.heap.size + 1 < b6 from Nat.lt_of_lt_of_le (block_lt HB1_5.out) l6)
          have Y6_2 := hid (show w.heap.size + 1 + 1 < b6 from Nat.lt_of_lt_of_le (block_lt HB2_5.out) l6)
          have Y6_7 := hid (show w3.heap.size < b6 from Nat.lt_of_lt_of_le (block_lt HB7_5.out) l6)
          have R_6 := hid (below_trans R_5.out h6 R_5.out.size)
          have HB0_6 := hid ((h6.block (w.heap.size) (block_lt HB0_5.out)).trans HB0_5.out)
          have HB1_6 := hid ((h6.block (w.heap.size + 1) (block_lt HB1_5.out)).trans HB1_5.out)
          have HB2_6 := hid ((h6.block (w.heap.size + 1 + 1) (block_lt HB2_5.out)).trans HB2_5.out)
          have HB7_6 := hid ((h6.block (w3.heap.size) (block_lt HB7_5.out)).trans HB7_5.out)
          have S_6 := hid o6
          clear o6 l6 h6
          refine ⟨⟨HB0_6.out, HB1_6.out, HB2_6.out⟩, ?_⟩
          refine wpAnyH_all (rs := [8]) (fuel := 7) (by kernel_rfl) (by simp) ?_
          intro i hi
          obtain rfl : i = 8 := by simpa using hi
          clear hi
          refine plainL rfl ?_
          go_simp
          go_at_call 17
          refine (c_specTickAll a0 B0.out a1 B1.out a2 B2.out _ n3 _ P3 _ O3.out (S_6.out.rws HN3.out)).mono ?_
          rintro e w7 ⟨⟨u, rfl, ur⟩, h7⟩
          have R_7 := hid (below_trans R_6.out h7 R_6.out.size)
          have S_7 := hid (S_6.out.below h7)
          have HB0_7 := hid ((h7.block (w.heap.size) (block_lt HB0_6.out)).trans HB0_6.out)
          have HB1_7 := hid ((h7.block (w.heap.size + 1) (block_lt HB1_6.out)).trans HB1_6.out)
          have HB2_7 := hid ((h7.block (w.heap.size + 1 + 1) (block_lt HB2_6.out)).trans HB2_6.out)
          have HB7_7 := hid ((h7.block (w3.heap.size) (block_lt HB7_6.out)).trans HB7_6.out)
          have GG7 := hid (GotF.owns2 (show GotF w7 (((w.alloc (.cells (ccells a0) 25)).alloc (.cells (bcells a1) 28)).alloc (.cells (stcells a2) 30)).heap.size u (taL a0 a1 a2 P3 n3) from own_from ur R_6.out.size) (by have := HL.out; omega))
          clear ur h7
          refine ⟨⟨HB0_7.out, HB1_7.out, HB2_7.out⟩, ?_⟩
          refine takeL (i := 9) (fuel := 6) rfl (by kernel_rfl) (by kernel_rfl) (by kernel_rfl) (fun c a w h => h) (yldMove rfl _ rfl) ⟨HB0_7.out, HB1_7.out, HB2_7.out⟩ ?_
          try simp only [Act.put, List.setIfInBounds_toArray, List.set_cons_zero, List.set_cons_succ]
          refine takeL (i := 10) (fuel := 5) rfl (by kernel_rfl) (by kernel_rfl) (by kernel_rfl) (fun c a w h => h) (yldExtract rfl _ 0 rfl _ rfl _ rfl) ⟨HB0_7.out, HB1_7.out, HB2_7.out⟩ ?_
          try simp only [Act.put, List.setIfInBounds_toArray, List.set_cons_zero, List.set_cons_succ]
          refine takeL (i := 11) (fuel := 4) rfl (by kernel_rfl) (by kernel_rfl) (by kernel_rfl) (fun c a w h => h) (yldExtract rfl _ 1 rfl _ rfl _ rfl) ⟨HB0_7.out, HB1_7.out, HB2_7.out⟩ ?_
          try simp only [Act.put, List.setIfInBounds_toArray, List.set_cons_zero, List.set_cons_succ]
          refine takeL (i := 12) (fuel := 3) rfl (by kernel_rfl) (by kernel_rfl) (by kernel_rfl) (fun c a w h => h) (yldExtract rfl _ 2 rfl _ rfl _ rfl) ⟨HB0_7.out, HB1_7.out, HB2_7.out⟩ ?_
          try simp only [Act.put, List.setIfInBounds_toArray, List.set_cons_zero, List.set_cons_succ]
          refine wpAnyH_all (rs := [14]) (fuel := 2) (by kernel_rfl) (by simp) ?_
          intro i hi
          obtain rfl : i = 14 := by simpa using hi
          clear hi
          refine plainL rfl ?_
          refine wp_store_row 39 _ _ rfl (w3.heap.size) (stcells (taS a0 a1 a2 P3 n3)) (by kernel_rfl) (by kernel_rfl) 39 zSt HB7_7.out HS9.out HFE.out (stcells_one _) ?_
          refine ⟨⟨(setRow_other w7 (w3.heap.size) (w.heap.size) (stcells (taS a0 a1 a2 P3 n3)) (by have := GB0.out; omega)).trans HB0_7.out, (setRow_other w7 (w3.heap.size) (w.heap.size + 1) (stcells (taS a0 a1 a2 P3 n3)) (by have := GB1.out; omega)).trans HB1_7.out, (setRow_other w7 (w3.heap.size) (w.heap.size + 1 + 1) (stcells (taS a0 a1 a2 P3 n3)) (by have := GB2.out; omega)).trans HB2_7.out⟩, ?_⟩
          refine genWorld (p := wpAnyH _ _ _ _ _ _ _ _) (w0 := w7.setRow (w3.heap.size) (stcells (taS a0 a1 a2 P3 n3))) (fun w8 hw8 => ?_)
          have HB0_8 := hid (show w8.heap[w.heap.size]? = some (.cells (ccells a0) 25 (0, 0)) by rw [hw8]; exact (setRow_other w7 (w3.heap.size) (w.heap.size) (stcells (taS a0 a1 a2 P3 n3)) (by have := GB0.out; omega)).trans HB0_7.out)
          have HB1_8 := hid (show w8.heap[w.heap.size + 1]? = some (.cells (bcells a1) 28 (0, 0)) by rw [hw8]; exact (setRow_other w7 (w3.heap.size) (w.heap.size + 1) (stcells (taS a0 a1 a2 P3 n3)) (by have := GB1.out; omega)).trans HB1_7.out)
          have HB2_8 := hid (show w8.heap[w.heap.size + 1 + 1]? = some (.cells (stcells a2) 30 (0, 0)) by rw [hw8]; exact (setRow_other w7 (w3.heap.size) (w.heap.size + 1 + 1) (stcells (taS a0 a1 a2 P3 n3)) (by have := GB2.out; omega)).trans HB2_7.out)
          have R_8 := hid (show Below (((w.alloc (.cells (ccells a0) 25)).alloc (.cells (bcells a1) 28)).alloc (.cells (stcells a2) 30)).heap.size (((w.alloc (.cells (ccells a0) 25)).alloc (.cells (bcells a1) 28)).alloc (.cells (stcells a2) 30)) w8 by rw [hw8]; exact below_setRow R_7.out GR.out (stcells (taS a0 a1 a2 P3 n3)))
          have QN := hid (show w8.heap[w3.heap.size]? = some (.cells (stcells (taS a0 a1 a2 P3 n3)) 39 (0, 0)) by rw [hw8]; exact blk_row_same w7 (w3.heap.size) zSt (stcells (taS a0 a1 a2 P3 n3)) _ _ HB7_7.out)
          have GN := hid (show GotF w8 (((w.alloc (.cells (ccells a0) 25)).alloc (.cells (bcells a1) 28)).alloc (.cells (stcells a2) 30)).heap.size _ (taL a0 a1 a2 P3 n3) by rw [hw8]; exact own_setRow (T := 22) GG7.out.1 HB7_7.out (by decide))
          clear hw8
          refine takeL (i := 15) (fuel := 1) rfl (by kernel_rfl) (by kernel_rfl) (by kernel_rfl) (fun c a w h => h) (yldAssign rfl _ rfl) ⟨HB0_8.out, HB1_8.out, HB2_8.out⟩ ?_
          try simp only [Act.put, List.setIfInBounds_toArray, List.set_cons_zero, List.set_cons_succ]
          refine takeL (i := 16) (fuel := 0) rfl (by kernel_rfl) (by kernel_rfl) (by kernel_rfl) (fun c a w h => h) (yldAssign rfl _ rfl) ⟨HB0_8.out, HB1_8.out, HB2_8.out⟩ ?_
          try simp only [Act.put, List.setIfInBounds_toArray, List.set_cons_zero, List.set_cons_succ]
          refine wpAnyH_done (by kernel_rfl) ?_ 0
          simp only [Exit.then]
          go_wp2_with fail
          go_meet
          exact ⟨_, _, rfl, rfl, rfl, GR.out, QN.out, GN.out, R_8.out⟩
      · clear hi
        refine plainL rfl ?_
        go_simp
        have HA3 := hid (heap_alloc_new w2 (.cells zSt 39))
        have D3 := hid ((Below.refl w2.heap.size w2).alloc (Nat.le_refl _) (.cells zSt 39))
        have GB0 := hid (show w.heap.size < w2.heap.size from block_lt HB0_2.out)
        have GB1 := hid (show w.heap.size + 1 < w2.heap.size from block_lt HB1_2.out)
        have GB2 := hid (show w.heap.size + 1 + 1 < w2.heap.size from block_lt HB2_2.out)
        have GR := hid (show (((w.alloc (.cells (ccells a0) 25)).alloc (.cells (bcells a1) 28)).alloc (.cells (stcells a2) 30)).heap.size ≤ w2.heap.size from R_2.out.size)
        refine ⟨⟨(D3.out.block _ (block_lt HB0_2.out)).trans HB0_2.out, (D3.out.block _ (block_lt HB1_2.out)).trans HB1_2.out, (D3.out.block _ (block_lt HB2_2.out)).trans HB2_2.out⟩, ?_⟩
        refine genWorld (p := wpAnyH _ _ _ _ _ _ _ _) (w0 := (w2.alloc (.cells zSt 39))) (fun w3 hw3 => ?_)
        have h3 : Below w2.heap.size w2 w3 := by rw [hw3]; exact D3.out
        have HN103 := hid (show w3.heap[w2.heap.size]? = some (.cells zSt 39 (0, 0)) by rw [hw3]; exact HA3.out)
        clear hw3 HA3 D3
        have R_3 := hid (below_trans R_2.out h3 R_2.out.size)
        have HB0_3 := hid ((h3.block (w.heap.size) (block_lt HB0_2.out)).trans HB0_2.out)
        have HB1_3 := hid ((h3.block (w.heap.size + 1) (block_lt HB1_2.out)).trans HB1_2.out)
        have HB2_3 := hid ((h3.block (w.heap.size + 1 + 1) (block_lt HB2_2.out)).trans HB2_2.out)
        clear h3
        refine wpAnyH_all (rs := [3]) (fuel := 10) (by kernel_rfl) (by simp) ?_
        intro i hi
        obtain rfl : i = 3 := by simpa using hi
        clear hi
        refine plainL rfl ?_
        go_simp
        go_at_call 12
        refine (c_toBlind a1 _).mono ?_
        rintro e w4 ⟨rfl, h4⟩
        have R_4 := hid (below_trans R_3.out h4 R_3.out.size)
        have HB0_4 := hid ((h4.block (w.heap.size) (block_lt HB0_3.out)).trans HB0_3.out)
        have HB1_4 := hid ((h4.block (w.heap.size + 1) (block_lt HB1_3.out)).trans HB1_3.out)
        have HB2_4 := hid ((h4.block (w.heap.size + 1 + 1) (block_lt HB2_3.out)).trans HB2_3.out)
        have HB7_4 := hid ((h4.block (w2.heap.size) (block_lt HN103.out)).trans HN103.out)
        clear h4
        refine ⟨⟨HB0_4.out, HB1_4.out, HB2_4.out⟩, ?_⟩
        refine wpAnyH_all (rs := [5]) (fuel := 9) (by kernel_rfl) (by simp) ?_
        intro i hi
        obtain rfl : i = 5 := by simpa using hi
        clear hi
        refine plainL rfl ?_
        go_simp
        go_at_call 13
        refine (c_toState a2 _).mono ?_
        rintro e w5 ⟨rfl, h5⟩
        have R_5 := hid (below_trans R_4.out h5 R_4.out.size)
        have HB0_5 := hid ((h5.block (w.heap.size) (block_lt HB0_4.out)).trans HB0_4.out)
        have HB1_5 := hid ((h5.block (w.heap.size + 1) (block_lt HB1_4.out)).trans HB1_4.out)
        have HB2_5 := hid ((h5.block (w.heap.size + 1 + 1) (block_lt HB2_4.out)).trans HB2_4.out)
        have HB7_5 := hid ((h5.block (w2.heap.size) (block_lt HB7_4.out)).trans HB7_4.out)
        clear h5
        refine ⟨⟨HB0_5.out, HB1_5.out, HB2_5.out⟩, ?_⟩
        refine wpAnyH_all (rs := [7]) (fuel := 8) (by kernel_rfl) (by simp) ?_
        intro i hi
        obtain rfl : i = 7 := by simpa using hi
        clear hi
        refine plainL rfl ?_
        go_simp
        go_at_call 14
        refine (c_toTickS a3 n3 c3 P3 _ O3.out (XR.out.below R_5.out)).mono ?_
        rintro e w6 ⟨b6, rfl, o6, l6, h6⟩
        have L6R := hid (show (((w.alloc (.cells (ccells a0) 25)).alloc (.cells (bcells a1) 28)).alloc (.cells (stcells a2) 30)).heap.size ≤ b6 from Nat.le_trans R_5.out.size l6)
        have Y6_0 := hid (show w.heap.size < b6 from Nat.lt_of_lt_of_le (block_lt HB0_5.out) l6)
        have Y6_1 := hid (show w.heap.size + 1 < b6 from Nat.lt_of_lt_of_le (block_lt HB1_5.out) l6)
        have Y6_2 := hid (show w.heap.size + 1 + 1 < b6 from Nat.lt_of_lt_of_le (block_lt HB2_5.out) l6)
        have Y6_7 := hid (show w2.heap.size < b6 from Nat.lt_of_lt_of_le (block_lt HB7_5.out) l6)
        have R_6 := hid (below_trans R_5.out h6 R_5.out.size)
        have HB0_6 := hid ((h6.block (w.heap.size) (block_lt HB0_5.out)).trans HB0_5.out)
        have HB1_6 := hid ((h6.block (w.heap.size + 1) (block_lt HB1_5.out)).trans HB1_5.out)
        have HB2_6 := hid ((h6.block (w.heap.size + 1 + 1) (block_lt HB2_5.out)).trans HB2_5.out)
        have HB7_6 := hid ((h6.block (w2.heap.size) (block_lt HB7_5.out)).trans HB7_5.out)
        have S_6 := hid o6
        clear o6 l6 h6
        refine ⟨⟨HB0_6.out, HB1_6.out, HB2_6.out⟩, ?_⟩
        refine wpAnyH_all (rs := [8]) (fuel := 7) (by kernel_rfl) (by simp) ?_
        intro i hi
        obtain rfl : i = 8 := by simpa using hi
        clear hi
        refine plainL rfl ?_
        go_simp
        go_at_call 17
        refine (c_specTickAll a0 B0.out a1 B1.out a2 B2.out _ n3 _ P3 _ O3.out (S_6.out.rws HN3.out)).mono ?_
        rintro e w7 ⟨⟨u, rfl, ur⟩, h7⟩
        have R_7 := hid (below_trans R_6.out h7 R_6.out.size)
        have S_7 := hid (S_6.out.below h7)
        have HB0_7 := hid ((h7.block (w.heap.size) (block_lt HB0_6.out)).trans HB0_6.out)
        have HB1_7 := hid ((h7.block (w.heap.size + 1) (block_lt HB1_6.out)).trans HB1_6.out)
        have HB2_7 := hid ((h7.block (w.heap.size + 1 + 1) (block_lt HB2_6.out)).trans HB2_6.out)
        have HB7_7 := hid ((h7.block (w2.heap.size) (block_lt HB7_6.out)).trans HB7_6.out)
        have GG7 := hid (GotF.owns2 (show GotF w7 (((w.alloc (.cells (ccells a0) 25)).alloc (.cells (bcells a1) 28)).alloc (.cells (stcells a2) 30)).heap.size u (taL a0 a1 a2 P3 n3) from own_from ur R_6.out.size) (by have := HL.out; omega))
        clear ur h7
        refine ⟨⟨HB0_7.out, HB1_7.out, HB2_7.out⟩, ?_⟩
        refine takeL (i := 9) (fuel := 6) rfl (by kernel_rfl) (by kernel_rfl) (by kernel_rfl) (fun c a w h => h) (yldMove rfl _ rfl) ⟨HB0_7.out, HB1_7.out, HB2_7.out⟩ ?_
        try simp only [Act.put, List.setIfInBounds_toArray, List.set_cons_zero, List.set_cons_succ]
        refine takeL (i := 10) (fuel := 5) rfl (by kernel_rfl) (by kernel_rfl) (by kernel_rfl) (fun c a w h => h) (yldExtract rfl _ 0 rfl _ rfl _ rfl) ⟨HB0_7.out, HB1_7.out, HB2_7.out⟩ ?_
        try simp only [Act.put, List.setIfInBounds_toArray, List.set_cons_zero, List.set_cons_succ]
        refine takeL (i := 11) (fuel := 4) rfl (by kernel_rfl) (by kernel_rfl) (by kernel_rfl) (fun c a w h => h) (yldExtract rfl _ 1 rfl _ rfl _ rfl) ⟨HB0_7.out, HB1_7.out, HB2_7.out⟩ ?_
        try simp only [Act.put, List.setIfInBounds_toArray, List.set_cons_zero, List.set_cons_succ]
        refine takeL (i := 12) (fuel := 3) rfl (by kernel_rfl) (by kernel_rfl) (by kernel_rfl) (fun c a w h => h) (yldExtract rfl _ 2 rfl _ rfl _ rfl) ⟨HB0_7.out, HB1_7.out, HB2_7.out⟩ ?_
        try simp only [Act.put, List.setIfInBounds_toArray, List.set_cons_zero, List.set_cons_succ]
        refine wpAnyH_all (rs := [14]) (fuel := 2) (by kernel_rfl) (by simp) ?_
        intro i hi
        obtain rfl : i = 14 := by simpa using hi
        clear hi
        refine plainL rfl ?_
        refine wp_store_row 39 _ _ rfl (w2.heap.size) (stcells (taS a0 a1 a2 P3 n3)) (by kernel_rfl) (by kernel_rfl) 39 zSt HB7_7.out HS9.out HFE.out (stcells_one _) ?_
        refine ⟨⟨(setRow_other w7 (w2.heap.size) (w.heap.size) (stcells (taS a0 a1 a2 P3 n3)) (by have := GB0.out; omega)).trans HB0_7.out, (setRow_other w7 (w2.heap.size) (w.heap.size + 1) (stcells (taS a0 a1 a2 P3 n3)) (by have := GB1.out; omega)).trans HB1_7.out, (setRow_other w7 (w2.heap.size) (w.heap.size + 1 + 1) (stcells (taS a0 a1 a2 P3 n3)) (by have := GB2.out; omega)).trans HB2_7.out⟩, ?_⟩
        refine genWorld (p := wpAnyH _ _ _ _ _ _ _ _) (w0 := w7.setRow (w2.heap.size) (stcells (taS a0 a1 a2 P3 n3))) (fun w8 hw8 => ?_)
        have HB0_8 := hid (show w8.heap[w.heap.size]? = some (.cells (ccells a0) 25 (0, 0)) by rw [hw8]; exact (setRow_other w7 (w2.heap.size) (w.heap.size) (stcells (taS a0 a1 a2 P3 n3)) (by have := GB0.out; omega)).trans HB0_7.out)
        have HB1_8 := hid (show w8.heap[w.heap.size + 1]? = some (.cells (bcells a1) 28 (0, 0)) by rw [hw8]; exact (setRow_other w7 (w2.heap.size) (w.heap.size + 1) (stcells (taS a0 a1 a2 P3 n3)) (by have := GB1.out; omega)).trans HB1_7.out)
        have HB2_8 := hid (show w8.heap[w.heap.size + 1 + 1]? = some (.cells (stcells a2) 30 (0, 0)) by rw [hw8]; exact (setRow_other w7 (w2.heap.size) (w.heap.size + 1 + 1) (stcells (taS a0 a1 a2 P3 n3)) (by have := GB2.out; omega)).trans HB2_7.out)
        have R_8 := hid (show Below (((w.alloc (.cells (ccells a0) 25)).alloc (.cells (bcells a1) 28)).alloc (.cells (stcells a2) 30)).heap.size (((w.alloc (.cells (ccells a0) 25)).alloc (.cells (bcells a1) 28)).alloc (.cells (stcells a2) 30)) w8 by rw [hw8]; exact below_setRow R_7.out GR.out (stcells (taS a0 a1 a2 P3 n3)))
        have QN := hid (show w8.heap[w2.heap.size]? = some (.cells (stcells (taS a0 a1 a2 P3 n3)) 39 (0, 0)) by rw [hw8]; exact blk_row_same w7 (w2.heap.size) zSt (stcells (taS a0 a1 a2 P3 n3)) _ _ HB7_7.out)
        have GN := hid (show GotF w8 (((w.alloc (.cells (ccells a0) 25)).alloc (.cells (bcells a1) 28)).alloc (.cells (stcells a2) 30)).heap.size _ (taL a0 a1 a2 P3 n3) by rw [hw8]; exact own_setRow (T := 22) GG7.out.1 HB7_7.out (by decide))
        clear hw8
        refine takeL (i := 15) (fuel := 1) rfl (by kernel_rfl) (by kernel_rfl) (by kernel_rfl) (fun c a w h => h) (yldAssign rfl _ rfl) ⟨HB0_8.out, HB1_8.out, HB2_8.out⟩ ?_
        try simp only [Act.put, List.setIfInBounds_toArray, List.set_cons_zero, List.set_cons_succ]
        refine takeL (i := 16) (fuel := 0) rfl (by kernel_rfl) (by kernel_rfl) (by kernel_rfl) (fun c a w h => h) (yldAssign rfl _ rfl) ⟨HB0_8.out, HB1_8.out, HB2_8.out⟩ ?_
        try simp only [Act.put, List.setIfInBounds_toArray, List.set_cons_zero, List.set_cons_succ]
        refine wpAnyH_done (by kernel_rfl) ?_ 0
        simp only [Exit.then]
        go_wp2_with fail
        go_meet
        exact ⟨_, _, rfl, rfl, rfl, GR.out, QN.out, GN.out, R_8.out⟩
    · clear hi
      refine plainL rfl ?_
      go_simp
      have HA2 := hid (heap_alloc_new w1 (.cells zSt 39))
      have D2 := hid ((Below.refl w1.heap.size w1).alloc (Nat.le_refl _) (.cells zSt 39))
      have GB0 := hid (show w.heap.size < w1.heap.size from block_lt HB0_1.out)
      have GB1 := hid (show w.heap.size + 1 < w1.heap.size from block_lt HB1_1.out)
      have GB2 := hid (show w.heap.size + 1 + 1 < w1.heap.size from block_lt HB2_1.out)
      have GR := hid (show (((w.alloc (.cells (ccells a0) 25)).alloc (.cells (bcells a1) 28)).alloc (.cells (stcells a2) 30)).heap.size ≤ w1.heap.size from R_1.out.size)
      refine ⟨⟨(D2.out.block _ (block_lt HB0_1.out)).trans HB0_1.out, (D2.out.block _ (block_lt HB1_1.out)).trans HB1_1.out, (D2.out.block _ (block_lt HB2_1.out)).trans HB2_1.out⟩, ?_⟩
      refine genWorld (p := wpAnyH _ _ _ _ _ _ _ _) (w0 := (w1.alloc (.cells zSt 39))) (fun w2 hw2 => ?_)
      have h2 : Below w1.heap.size w1 w2 := by rw [hw2]; exact D2.out
      have HN102 := hid (show w2.heap[w1.heap.size]? = some (.cells zSt 39 (0, 0)) by rw [hw2]; exact HA2.out)
      clear hw2 HA2 D2
      have R_2 := hid (below_trans R_1.out h2 R_1.out.size)
      have HB0_2 := hid ((h2.block (w.heap.size) (block_lt HB0_1.out)).trans HB0_1.out)
      have HB1_2 := hid ((h2.block (w.heap.size + 1) (block_lt HB1_1.out)).trans HB1_1.out)
      have HB2_2 := hid ((h2.block (w.heap.size + 1 + 1) (block_lt HB2_1.out)).trans HB2_1.out)
      clear h2
      refine wpAnyH_all (rs := [1]) (fuel := 11) (by kernel_rfl) (by simp) ?_
      intro i hi
      obtain rfl : i = 1 := by simpa using hi
      clear hi
      refine plainL rfl ?_
      go_simp
      go_at_call 11
      refine (c_toControl a0 _).mono ?_
      rintro e w3 ⟨rfl, h3⟩
      have R_3 := hid (below_trans R_2.out h3 R_2.out.size)
      have HB0_3 := hid ((h3.block (w.heap.size) (block_lt HB0_2.out)).trans HB0_2.out)
      have HB1_3 := hid ((h3.block (w.heap.size + 1) (block_lt HB1_2.out)).trans HB1_2.out)
      have HB2_3 := hid ((h3.block (w.heap.size + 1 + 1) (block_lt HB2_2.out)).trans HB2_2.out)
      have HB7_3 := hid ((h3.block (w1.heap.size) (block_lt HN102.out)).trans HN102.out)
      clear h3
      refine ⟨⟨HB0_3.out, HB1_3.out, HB2_3.out⟩, ?_⟩
      refine wpAnyH_all (rs := [3]) (fuel := 10) (by kernel_rfl) (by simp) ?_
      intro i hi
      obtain rfl : i = 3 := by simpa using hi
      clear hi
      refine plainL rfl ?_
      go_simp
      go_at_call 12
      refine (c_toBlind a1 _).mono ?_
      rintro e w4 ⟨rfl, h4⟩
      have R_4 := hid (below_trans R_3.out h4 R_3.out.size)
      have HB0_4 := hid ((h4.block (w.heap.size) (block_lt HB0_3.out)).trans HB0_3.out)
      have HB1_4 := hid ((h4.block (w.heap.size + 1) (block_lt HB1_3.out)).trans HB1_3.out)
      have HB2_4 := hid ((h4.block (w.heap.size + 1 + 1) (block_lt HB2_3.out)).trans HB2_3.out)
      have HB7_4 := hid ((h4.block (w1.heap.size) (block_lt HB7_3.out)).trans HB7_3.out)
      clear h4
      refine ⟨⟨HB0_4.out, HB1_4.out, HB2_4.out⟩, ?_⟩
      refine wpAnyH_all (rs := [5]) (fuel := 9) (by kernel_rfl) (by simp) ?_
      intro i hi
      obtain rfl : i = 5 := by simpa using hi
      clear hi
      refine plainL rfl ?_
      go_simp
      go_at_call 13
      refine (c_toState a2 _).mono ?_
      rintro e w5 ⟨rfl, h5⟩
      have R_5 := hid (below_trans R_4.out h5 R_4.out.size)
      have HB0_5 := hid ((h5.block (w.heap.size) (block_lt HB0_4.out)).trans HB0_4.out)
      have HB1_5 := hid ((h5.block (w.heap.size + 1) (block_lt HB1_4.out)).trans HB1_4.out)
      have HB2_5 := hid ((h5.block (w.heap.size + 1 + 1) (block_lt HB2_4.out)).trans HB2_4.out)
      have HB7_5 := hid ((h5.block (w1.heap.size) (block_lt HB7_4.out)).trans HB7_4.out)
      clear h5
      refine ⟨⟨HB0_5.out, HB1_5.out, HB2_5.out⟩, ?_⟩
      refine wpAnyH_all (rs := [7]) (fuel := 8) (by kernel_rfl) (by simp) ?_
      intro i hi
      obtain rfl : i = 7 := by simpa using hi
      clear hi
      refine plainL rfl ?_
      go_simp
      go_at_call 14
      refine (c_toTickS a3 n3 c3 P3 _ O3.out (XR.out.below R_5.out)).mono ?_
      rintro e w6 ⟨b6, rfl, o6, l6, h6⟩
      have L6R := hid (show (((w.alloc (.cells (ccells a0) 25)).alloc (.cells (bcells a1) 28)).alloc (.cells (stcells a2) 30)).heap.size ≤ b6 from Nat.le_trans R_5.out.size l6)
      have Y6_0 := hid (show w.heap.size < b6 from Nat.lt_of_lt_of_le (block_lt HB0_5.out) l6)
      have Y6_1 := hid (show w.heap.size + 1 < b6 from Nat.lt_of_lt_of_le (block_lt HB1_5.out) l6)
      have Y6_2 := hid (show w.heap.size + 1 + 1 < b6 from Nat.lt_of_lt_of_le (block_lt HB2_5.out) l6)
      have Y6_7 := hid (show w1.heap.size < b6 from Nat.lt_of_lt_of_le (block_lt HB7_5.out) l6)
      have R_6 := hid (below_trans R_5.out h6 R_5.out.size)
      have HB0_6 := hid ((h6.block (w.heap.size) (block_lt HB0_5.out)).trans HB0_5.out)
      have HB1_6 := hid ((h6.block (w.heap.size + 1) (block_lt HB1_5.out)).trans HB1_5.out)
      have HB2_6 := hid ((h6.block (w.heap.size + 1 + 1) (block_lt HB2_5.out)).trans HB2_5.out)
      have HB7_6 := hid ((h6.block (w1.heap.size) (block_lt HB7_5.out)).trans HB7_5.out)
      have S_6 := hid o6
      clear o6 l6 h6
      refine ⟨⟨HB0_6.out, HB1_6.out, HB2_6.out⟩, ?_⟩
      refine wpAnyH_all (rs := [8]) (fuel := 7) (by kernel_rfl) (by simp) ?_
      intro i hi
      obtain rfl : i = 8 := by simpa using hi
      clear hi
      refine plainL rfl ?_
      go_simp
      go_at_call 17
      refine (c_specTickAll a0 B0.out a1 B1.out a2 B2.out _ n3 _ P3 _ O3.out (S_6.out.rws HN3.out)).mono ?_
      rintro e w7 ⟨⟨u, rfl, ur⟩, h7⟩
      have R_7 := hid (below_trans R_6.out h7 R_6.out.size)
      have S_7 := hid (S_6.out.below h7)
      have HB0_7 := hid ((h7.block (w.heap.size) (block_lt HB0_6.out)).trans HB0_6.out)
      have HB1_7 := hid ((h7.block (w.heap.size + 1) (block_lt HB1_6.out)).trans HB1_6.out)
      have HB2_7 := hid ((h7.block (w.heap.size + 1 + 1) (block_lt HB2_6.out)).trans HB2_6.out)
      have HB7_7 := hid ((h7.block (w1.heap.size) (block_lt HB7_6.out)).trans HB7_6.out)
      have GG7 := hid (GotF.owns2 (show GotF w7 (((w.alloc (.cells (ccells a0) 25)).alloc (.cells (bcells a1) 28)).alloc (.cells (stcells a2) 30)).heap.size u (taL a0 a1 a2 P3 n3) from own_from ur R_6.out.size) (by have := HL.out; omega))
      clear ur h7
      refine ⟨⟨HB0_7.out, HB1_7.out, HB2_7.out⟩, ?_⟩
      refine takeL (i := 9) (fuel := 6) rfl (by kernel_rfl) (by kernel_rfl) (by kernel_rfl) (fun c a w h => h) (yldMove rfl _ rfl) ⟨HB0_7.out, HB1_7.out, HB2_7.out⟩ ?_
      try simp only [Act.put, List.setIfInBounds_toArray, List.set_cons_zero, List.set_cons_succ]
      refine takeL (i := 10) (fuel := 5) rfl (by kernel_rfl) (by kernel_rfl) (by kernel_rfl) (fun c a w h => h) (yldExtract rfl _ 0 rfl _ rfl _ rfl) ⟨HB0_7.out, HB1_7.out, HB2_7.out⟩ ?_
      try simp only [Act.put, List.setIfInBounds_toArray, List.set_cons_zero, List.set_cons_succ]
      refine takeL (i := 11) (fuel := 4) rfl (by kernel_rfl) (by kernel_rfl) (by kernel_rfl) (fun c a w h => h) (yldExtract rfl _ 1 rfl _ rfl _ rfl) ⟨HB0_7.out, HB1_7.out, HB2_7.out⟩ ?_
      try simp only [Act.put, List.setIfInBounds_toArray, List.set_cons_zero, List.set_cons_succ]
      refine takeL (i := 12) (fuel := 3) rfl (by kernel_rfl) (by kernel_rfl) (by kernel_rfl) (fun c a w h => h) (yldExtract rfl _ 2 rfl _ rfl _ rfl) ⟨HB0_7.out, HB1_7.out, HB2_7.out⟩ ?_
      try simp only [Act.put, List.setIfInBounds_toArray, List.set_cons_zero, List.set_cons_succ]
      refine wpAnyH_all (rs := [14]) (fuel := 2) (by kernel_rfl) (by simp) ?_
      intro i hi
      obtain rfl : i = 14 := by simpa using hi
      clear hi
      refine plainL rfl ?_
      refine wp_store_row 39 _ _ rfl (w1.heap.size) (stcells (taS a0 a1 a2 P3 n3)) (by kernel_rfl) (by kernel_rfl) 39 zSt HB7_7.out HS9.out HFE.out (stcells_one _) ?_
      refine ⟨⟨(setRow_other w7 (w1.heap.size) (w.heap.size) (stcells (taS a0 a1 a2 P3 n3)) (by have := GB0.out; omega)).trans HB0_7.out, (setRow_other w7 (w1.heap.size) (w.heap.size + 1) (stcells (taS a0 a1 a2 P3 n3)) (by have := GB1.out; omega)).trans HB1_7.out, (setRow_other w7 (w1.heap.size) (w.heap.size + 1 + 1) (stcells (taS a0 a1 a2 P3 n3)) (by have := GB2.out; omega)).trans HB2_7.out⟩, ?_⟩
      refine genWorld (p := wpAnyH _ _ _ _ _ _ _ _) (w0 := w7.setRow (w1.heap.size) (stcells (taS a0 a1 a2 P3 n3))) (fun w8 hw8 => ?_)
      have HB0_8 := hid (show w8.heap[w.heap.size]? = some (.cells (ccells a0) 25 (0, 0)) by rw [hw8]; exact (setRow_other w7 (w1.heap.size) (w.heap.size) (stcells (taS a0 a1 a2 P3 n3)) (by have := GB0.out; omega)).trans HB0_7.out)
      have HB1_8 := hid (show w8.heap[w.heap.size + 1]? = some (.cells (bcells a1) 28 (0, 0)) by rw [hw8]; exact (setRow_other w7 (w1.heap.size) (w.heap.size + 1) (stcells (taS a0 a1 a2 P3 n3)) (by have := GB1.out; omega)).trans HB1_7.out)
      have HB2_8 := hid (show w8.heap[w.heap.size + 1 + 1]? = some (.cells (stcells a2) 30 (0, 0)) by rw [hw8]; exact (setRow_other w7 (w1.heap.size) (w.heap.size + 1 + 1) (stcells (taS a0 a1 a2 P3 n3)) (by have := GB2.out; omega)).trans HB2_7.out)
      have R_8 := hid (show Below (((w.alloc (.cells (ccells a0) 25)).alloc (.cells (bcells a1) 28)).alloc (.cells (stcells a2) 30)).heap.size (((w.alloc (.cells (ccells a0) 25)).alloc (.cells (bcells a1) 28)).alloc (.cells (stcells a2) 30)) w8 by rw [hw8]; exact below_setRow R_7.out GR.out (stcells (taS a0 a1 a2 P3 n3)))
      have QN := hid (show w8.heap[w1.heap.size]? = some (.cells (stcells (taS a0 a1 a2 P3 n3)) 39 (0, 0)) by rw [hw8]; exact blk_row_same w7 (w1.heap.size) zSt (stcells (taS a0 a1 a2 P3 n3)) _ _ HB7_7.out)
      have GN := hid (show GotF w8 (((w.alloc (.cells (ccells a0) 25)).alloc (.cells (bcells a1) 28)).alloc (.cells (stcells a2) 30)).heap.size _ (taL a0 a1 a2 P3 n3) by rw [hw8]; exact own_setRow (T := 22) GG7.out.1 HB7_7.out (by decide))
      clear hw8
      refine takeL (i := 15) (fuel := 1) rfl (by kernel_rfl) (by kernel_rfl) (by kernel_rfl) (fun c a w h => h) (yldAssign rfl _ rfl) ⟨HB0_8.out, HB1_8.out, HB2_8.out⟩ ?_
      try simp only [Act.put, List.setIfInBounds_toArray, List.set_cons_zero, List.set_cons_succ]
      refine takeL (i := 16) (fuel := 0) rfl (by kernel_rfl) (by kernel_rfl) (by kernel_rfl) (fun c a w h => h) (yldAssign rfl _ rfl) ⟨HB0_8.out, HB1_8.out, HB2_8.out⟩ ?_
      try simp only [Act.put, List.setIfInBounds_toArray, List.set_cons_zero, List.set_cons_succ]
      refine wpAnyH_done (by kernel_rfl) ?_ 0
      simp only [Exit.then]
      go_wp2_with fail
      go_meet
      exact ⟨_, _, rfl, rfl, rfl, GR.out, QN.out, GN.out, R_8.out⟩
  case rest =>
    obtain ⟨g41, v41, rfl, rfl, rfl, hlt, hbox, hgot, hbel⟩ := hcut
    obtain ⟨w41, hw41⟩ := name_world hbel
    subst hw41
    have E_41 := hid (below_trans H0.out hbel H0.out.size)
    have HB0_41 := hid ((hbel.block (w.heap.size) (block_lt HB0.out)).trans HB0.out)
    have HB1_41 := hid ((hbel.block (w.heap.size + 1) (block_lt HB1.out)).trans HB1.out)
    have HB2_41 := hid ((hbel.block (w.heap.size + 1 + 1) (block_lt HB2.out)).trans HB2.out)
    have LQ41 := hid hlt
    have HB41 := hid hbox
    have GG41 := hid (GotF.owns2 hgot (by have := HL.out; omega))
    clear hlt hbox hgot hbel
    have U := hid (GotF.reads2 GG41.out.1 (by have := HL.out; omega) HW.out)
    go_wp2_with (first | (refine wpList_load_row rfl 25 _ rfl (w.heap.size) rfl 25 (ccells a0) (0, 0) _ HB0_41.out Try.underlying25 rfl HS0.out ?_) | (refine wpList_load_row rfl 28 _ rfl (w.heap.size + 1) rfl 28 (bcells a1) (0, 0) _ HB1_41.out Try.underlying28 rfl HS1.out ?_) | (refine wpList_load_row rfl 30 _ rfl (w.heap.size + 1 + 1) rfl 30 (stcells a2) (0, 0) _ HB2_41.out Try.underlying30 rfl HS2.out ?_))
    refine (c_toTickS a3 n3 c3 P3 _ O3.out (X3.out.below E_41.out)).mono ?_
    rintro e w42 ⟨b42, rfl, o42, l42, h42⟩
    have L42E := hid (show w.heap.size ≤ b42 from Nat.le_trans E_41.out.size l42)
    have L42T := hid (show w41.heap.size ≤ b42 from l42)
    have Y42_0 := hid (show w.heap.size < b42 from Nat.lt_of_lt_of_le (block_lt HB0_41.out) l42)
    have Y42_1 := hid (show w.heap.size + 1 < b42 from Nat.lt_of_lt_of_le (block_lt HB1_41.out) l42)
    have Y42_2 := hid (show w.heap.size + 1 + 1 < b42 from Nat.lt_of_lt_of_le (block_lt HB2_41.out) l42)
    have Y42_9 := hid (show g41 < b42 from Nat.lt_of_lt_of_le (block_lt HB41.out) l42)
    have E_42 := hid (below_trans E_41.out h42 E_41.out.size)
    have T_42 := hid h42
    have HB0_42 := hid ((h42.block (w.heap.size) (block_lt HB0_41.out)).trans HB0_41.out)
    have HB1_42 := hid ((h42.block (w.heap.size + 1) (block_lt HB1_41.out)).trans HB1_41.out)
    have HB2_42 := hid ((h42.block (w.heap.size + 1 + 1) (block_lt HB2_41.out)).trans HB2_41.out)
    have HB9_42 := hid ((h42.block (g41) (block_lt HB41.out)).trans HB41.out)
    have P_42 := hid o42
    clear o42 l42 h42
    have LGE := hid (show w.heap.size ≤ w42.heap.size from E_42.out.size)
    have LGT := hid (show w41.heap.size ≤ w42.heap.size from T_42.out.size)
    have Z0 := hid (show w.heap.size < w42.heap.size from block_lt HB0_42.out)
    have Z1 := hid (show w.heap.size + 1 < w42.heap.size from block_lt HB1_42.out)
    have Z2 := hid (show w.heap.size + 1 + 1 < w42.heap.size from block_lt HB2_42.out)
    have Z9 := hid (show g41 < w42.heap.size from block_lt HB9_42.out)
    have ZZP := hid (show b42 < w42.heap.size from P_42.out.lt)
    go_upto_region 7 with fail
    go_cut [14, 15, 16] (fun s1 s2 s3 wx => ∃ (g : Nat) (v : Value), s1 = .pointer (some ⟨g, 0, none⟩) ∧ s2 = v ∧ s3 = .int .i64 (tkC a0 a1 a2 P3 n3) ∧ w42.heap.size ≤ g ∧ wx.heap[g]? = some (.cells (stcells (taS a0 a1 a2 P3 n3)) 39 (0, 0)) ∧ GotF wx w42.heap.size v (taL a0 a1 a2 P3 n3) ∧ Below w42.heap.size w42 wx)
    case first =>
      refine wp_region_held (S := fun wx => wx.heap[w.heap.size]? = some (.cells (ccells a0) 25 (0, 0)) ∧ wx.heap[w.heap.size + 1]? = some (.cells (bcells a1) 28 (0, 0)) ∧ wx.heap[w.heap.size + 1 + 1]? = some (.cells (stcells a2) 30 (0, 0))) (by kernel_rfl) ?_
      refine genWorld (p := wpAnyH _ _ _ _ _ _ _ _) (w0 := (w42).drew) (fun w43 hw43 => ?_)
      have h43 : Below (w42).heap.size (w42) w43 := hw43 ▸ (Below.refl _ _).drew
      clear hw43
      have R_43 := hid h43
      have P_43 := hid (P_42.out.below h43)
      have HB0_43 := hid ((h43.block (w.heap.size) (block_lt HB0_42.out)).trans HB0_42.out)
      have HB1_43 := hid ((h43.block (w.heap.size + 1) (block_lt HB1_42.out)).trans HB1_42.out)
      have HB2_43 := hid ((h43.block (w.heap.size + 1 + 1) (block_lt HB2_42.out)).trans HB2_42.out)
      clear h43
      refine takeL (i := 0) (fuel := 15) rfl (by kernel_rfl) (by kernel_rfl) (by kernel_rfl) (fun c a w h => h) (yldRow rfl 25 _ rfl (w.heap.size) rfl 25 (ccells a0) (0, 0) _ (fun wx h => h.1) Try.underlying25 rfl HS0.out) ⟨HB0_43.out, HB1_43.out, HB2_43.out⟩ ?_
      try simp only [Act.put, List.setIfInBounds_toArray, List.set_cons_zero, List.set_cons_succ]
      refine takeL (i := 2) (fuel := 14) rfl (by kernel_rfl) (by kernel_rfl) (by kernel_rfl) (fun c a w h => h) (yldRow rfl 28 _ rfl (w.heap.size + 1) rfl 28 (bcells a1) (0, 0) _ (fun wx h => h.2.1) Try.underlying28 rfl HS1.out) ⟨HB0_43.out, HB1_43.out, HB2_43.out⟩ ?_
      try simp only [Act.put, List.setIfInBounds_toArray, List.set_cons_zero, List.set_cons_succ]
      refine takeL (i := 4) (fuel := 13) rfl (by kernel_rfl) (by kernel_rfl) (by kernel_rfl) (fun c a w h => h) (yldRow rfl 30 _ rfl (w.heap.size + 1 + 1) rfl 30 (stcells a2) (0, 0) _ (fun wx h => h.2.2) Try.underlying30 rfl HS2.out) ⟨HB0_43.out, HB1_43.out, HB2_43.out⟩ ?_
      try simp only [Act.put, List.setIfInBounds_toArray, List.set_cons_zero, List.set_cons_succ]
      refine takeL (i := 6) (fuel := 12) rfl (by kernel_rfl) (by kernel_rfl) (by kernel_rfl) (fun c a w h => h) (yldMove rfl _ rfl) ⟨HB0_43.out, HB1_43.out, HB2_43.out⟩ ?_
      try simp only [Act.put, List.setIfInBounds_toArray, List.set_cons_zero, List.set_cons_succ]
      refine wpAnyH_all (rs := [1, 12]) (fuel := 11) (by kernel_rfl) (by simp) ?_
      intro i hi
      rcases (show i = 1 ∨ i = 12 from by simpa using hi) with rfl | rfl
      · clear hi
        refine plainL rfl ?_
        go_simp
        go_at_call 11
        refine (c_toControl a0 _).mono ?_
        rintro e w44 ⟨rfl, h44⟩
        have R_44 := hid (below_trans R_43.out h44 R_43.out.size)
        have P_44 := hid (P_43.out.below h44)
        have HB0_44 := hid ((h44.block (w.heap.size) (block_lt HB0_43.out)).trans HB0_43.out)
        have HB1_44 := hid ((h44.block (w.heap.size + 1) (block_lt HB1_43.out)).trans HB1_43.out)
        have HB2_44 := hid ((h44.block (w.heap.size + 1 + 1) (block_lt HB2_43.out)).trans HB2_43.out)
        clear h44
        refine ⟨⟨HB0_44.out, HB1_44.out, HB2_44.out⟩, ?_⟩
        refine wpAnyH_all (rs := [3, 12]) (fuel := 10) (by kernel_rfl) (by simp) ?_
        intro i hi
        rcases (show i = 3 ∨ i = 12 from by simpa using hi) with rfl | rfl
        · clear hi
          refine plainL rfl ?_
          go_simp
          go_at_call 12
          refine (c_toBlind a1 _).mono ?_
          rintro e w45 ⟨rfl, h45⟩
          have R_45 := hid (below_trans R_44.out h45 R_44.out.size)
          have P_45 := hid (P_44.out.below h45)
          have HB0_45 := hid ((h45.block (w.heap.size) (block_lt HB0_44.out)).trans HB0_44.out)
          have HB1_45 := hid ((h45.block (w.heap.size + 1) (block_lt HB1_44.out)).trans HB1_44.out)
          have HB2_45 := hid ((h45.block (w.heap.size + 1 + 1) (block_lt HB2_44.out)).trans HB2_44.out)
          clear h45
          refine ⟨⟨HB0_45.out, HB1_45.out, HB2_45.out⟩, ?_⟩
          refine wpAnyH_all (rs := [5, 12]) (fuel := 9) (by kernel_rfl) (by simp) ?_
          intro i hi
          rcases (show i = 5 ∨ i = 12 from by simpa using hi) with rfl | rfl
          · clear hi
            refine plainL rfl ?_
            go_simp
            go_at_call 13
            refine (c_toState a2 _).mono ?_
            rintro e w46 ⟨rfl, h46⟩
            have R_46 := hid (below_trans R_45.out h46 R_45.out.size)
            have P_46 := hid (P_45.out.below h46)
            have HB0_46 := hid ((h46.block (w.heap.size) (block_lt HB0_45.out)).trans HB0_45.out)
            have HB1_46 := hid ((h46.block (w.heap.size + 1) (block_lt HB1_45.out)).trans HB1_45.out)
            have HB2_46 := hid ((h46.block (w.heap.size + 1 + 1) (block_lt HB2_45.out)).trans HB2_45.out)
            clear h46
            refine ⟨⟨HB0_46.out, HB1_46.out, HB2_46.out⟩, ?_⟩
            refine wpAnyH_all (rs := [7, 12]) (fuel := 8) (by kernel_rfl) (by simp) ?_
            intro i hi
            rcases (show i = 7 ∨ i = 12 from by simpa using hi) with rfl | rfl
            · clear hi
              refine plainL rfl ?_
              go_simp
              go_at_call 18
              refine (c_implTickAll a0 B0.out a1 B1.out a2 B2.out _ n3 _ P3 _ O3.out (P_46.out.rws HN3.out)).mono ?_
              rintro e w47 ⟨⟨u, rfl, ur⟩, h47⟩
              have R_47 := hid (below_trans R_46.out h47 R_46.out.size)
              have P_47 := hid (P_46.out.below h47)
              have HB0_47 := hid ((h47.block (w.heap.size) (block_lt HB0_46.out)).trans HB0_46.out)
              have HB1_47 := hid ((h47.block (w.heap.size + 1) (block_lt HB1_46.out)).trans HB1_46.out)
              have HB2_47 := hid ((h47.block (w.heap.size + 1 + 1) (block_lt HB2_46.out)).trans HB2_46.out)
              have GG47 := hid (GotF.owns2 (show GotF w47 w42.heap.size u (taL a0 a1 a2 P3 n3) from own_from ur R_46.out.size) (by have := HL.out; omega))
              clear ur h47
              refine ⟨⟨HB0_47.out, HB1_47.out, HB2_47.out⟩, ?_⟩
              refine takeL (i := 8) (fuel := 7) rfl (by kernel_rfl) (by kernel_rfl) (by kernel_rfl) (fun c a w h => h) (yldMove rfl _ rfl) ⟨HB0_47.out, HB1_47.out, HB2_47.out⟩ ?_
              try simp only [Act.put, List.setIfInBounds_toArray, List.set_cons_zero, List.set_cons_succ]
              refine takeL (i := 9) (fuel := 6) rfl (by kernel_rfl) (by kernel_rfl) (by kernel_rfl) (fun c a w h => h) (yldExtract rfl _ 0 rfl _ rfl _ rfl) ⟨HB0_47.out, HB1_47.out, HB2_47.out⟩ ?_
              try simp only [Act.put, List.setIfInBounds_toArray, List.set_cons_zero, List.set_cons_succ]
              refine takeL (i := 10) (fuel := 5) rfl (by kernel_rfl) (by kernel_rfl) (by kernel_rfl) (fun c a w h => h) (yldExtract rfl _ 1 rfl _ rfl _ rfl) ⟨HB0_47.out, HB1_47.out, HB2_47.out⟩ ?_
              try simp only [Act.put, List.setIfInBounds_toArray, List.set_cons_zero, List.set_cons_succ]
              refine takeL (i := 11) (fuel := 4) rfl (by kernel_rfl) (by kernel_rfl) (by kernel_rfl) (fun c a w h => h) (yldExtract rfl _ 2 rfl _ rfl _ rfl) ⟨HB0_47.out, HB1_47.out, HB2_47.out⟩ ?_
              try simp only [Act.put, List.setIfInBounds_toArray, List.set_cons_zero, List.set_cons_succ]
              refine wpAnyH_all (rs := [12]) (fuel := 3) (by kernel_rfl) (by simp) ?_
              intro i hi
              obtain rfl : i = 12 := by simpa using hi
              clear hi
              refine plainL rfl ?_
              go_simp
              have HA48 := hid (heap_alloc_new w47 (.cells zSt 39))
              have D48 := hid ((Below.refl w47.heap.size w47).alloc (Nat.le_refl _) (.cells zSt 39))
              have GB0 := hid (show w.heap.size < w47.heap.size from block_lt HB0_47.out)
              have GB1 := hid (show w.heap.size + 1 < w47.heap.size from block_lt HB1_47.out)
              have GB2 := hid (show w.heap.size + 1 + 1 < w47.heap.size from block_lt HB2_47.out)
              have GR := hid (show w42.heap.size ≤ w47.heap.size from R_47.out.size)
              refine ⟨⟨(D48.out.block _ (block_lt HB0_47.out)).trans HB0_47.out, (D48.out.block _ (block_lt HB1_47.out)).trans HB1_47.out, (D48.out.block _ (block_lt HB2_47.out)).trans HB2_47.out⟩, ?_⟩
              refine genWorld (p := wpAnyH _ _ _ _ _ _ _ _) (w0 := (w47.alloc (.cells zSt 39))) (fun w48 hw48 => ?_)
              have h48 : Below w47.heap.size w47 w48 := by rw [hw48]; exact D48.out
              have HN148 := hid (show w48.heap[w47.heap.size]? = some (.cells zSt 39 (0, 0)) by rw [hw48]; exact HA48.out)
              clear hw48 HA48 D48
              have R_48 := hid (below_trans R_47.out h48 R_47.out.size)
              have P_48 := hid (P_47.out.below h48)
              have G_48 := hid (GG47.out.below h48)
              have HB0_48 := hid ((h48.block (w.heap.size) (block_lt HB0_47.out)).trans HB0_47.out)
              have HB1_48 := hid ((h48.block (w.heap.size + 1) (block_lt HB1_47.out)).trans HB1_47.out)
              have HB2_48 := hid ((h48.block (w.heap.size + 1 + 1) (block_lt HB2_47.out)).trans HB2_47.out)
              clear h48
              refine wpAnyH_all (rs := [13]) (fuel := 2) (by kernel_rfl) (by simp) ?_
              intro i hi
              obtain rfl : i = 13 := by simpa using hi
              clear hi
              refine plainL rfl ?_
              refine wp_store_row 39 _ _ rfl (w47.heap.size) (stcells (taS a0 a1 a2 P3 n3)) (by kernel_rfl) (by kernel_rfl) 39 zSt HN148.out HS9.out HFE.out (stcells_one _) ?_
              refine ⟨⟨(setRow_other w48 (w47.heap.size) (w.heap.size) (stcells (taS a0 a1 a2 P3 n3)) (by have := GB0.out; omega)).trans HB0_48.out, (setRow_other w48 (w47.heap.size) (w.heap.size + 1) (stcells (taS a0 a1 a2 P3 n3)) (by have := GB1.out; omega)).trans HB1_48.out, (setRow_other w48 (w47.heap.size) (w.heap.size + 1 + 1) (stcells (taS a0 a1 a2 P3 n3)) (by have := GB2.out; omega)).trans HB2_48.out⟩, ?_⟩
              refine genWorld (p := wpAnyH _ _ _ _ _ _ _ _) (w0 := w48.setRow (w47.heap.size) (stcells (taS a0 a1 a2 P3 n3))) (fun w49 hw49 => ?_)
              have HB0_49 := hid (show w49.heap[w.heap.size]? = some (.cells (ccells a0) 25 (0, 0)) by rw [hw49]; exact (setRow_other w48 (w47.heap.size) (w.heap.size) (stcells (taS a0 a1 a2 P3 n3)) (by have := GB0.out; omega)).trans HB0_48.out)
              have HB1_49 := hid (show w49.heap[w.heap.size + 1]? = some (.cells (bcells a1) 28 (0, 0)) by rw [hw49]; exact (setRow_other w48 (w47.heap.size) (w.heap.size + 1) (stcells (taS a0 a1 a2 P3 n3)) (by have := GB1.out; omega)).trans HB1_48.out)
              have HB2_49 := hid (show w49.heap[w.heap.size + 1 + 1]? = some (.cells (stcells a2) 30 (0, 0)) by rw [hw49]; exact (setRow_other w48 (w47.heap.size) (w.heap.size + 1 + 1) (stcells (taS a0 a1 a2 P3 n3)) (by have := GB2.out; omega)).trans HB2_48.out)
              have R_49 := hid (show Below w42.heap.size w42 w49 by rw [hw49]; exact below_setRow R_48.out GR.out (stcells (taS a0 a1 a2 P3 n3)))
              have QN := hid (show w49.heap[w47.heap.size]? = some (.cells (stcells (taS a0 a1 a2 P3 n3)) 39 (0, 0)) by rw [hw49]; exact blk_row_same w48 (w47.heap.size) zSt (stcells (taS a0 a1 a2 P3 n3)) _ _ HN148.out)
              have GN := hid (show GotF w49 w42.heap.size _ (taL a0 a1 a2 P3 n3) by rw [hw49]; exact own_setRow (T := 22) G_48.out.1 HN148.out (by decide))
              clear hw49
              refine takeL (i := 14) (fuel := 1) rfl (by kernel_rfl) (by kernel_rfl) (by kernel_rfl) (fun c a w h => h) (yldAssign rfl _ rfl) ⟨HB0_49.out, HB1_49.out, HB2_49.out⟩ ?_
              try simp only [Act.put, List.setIfInBounds_toArray, List.set_cons_zero, List.set_cons_succ]
              refine takeL (i := 15) (fuel := 0) rfl (by kernel_rfl) (by kernel_rfl) (by kernel_rfl) (fun c a w h => h) (yldAssign rfl _ rfl) ⟨HB0_49.out, HB1_49.out, HB2_49.out⟩ ?_
              try simp only [Act.put, List.setIfInBounds_toArray, List.set_cons_zero, List.set_cons_succ]
              refine wpAnyH_done (by kernel_rfl) ?_ 0
              simp only [Exit.then]
              go_wp2_with fail
              go_meet
              exact ⟨_, _, rfl, rfl, rfl, GR.out, QN.out, GN.out, R_49.out⟩
            · clear hi
              refine plainL rfl ?_
              go_simp
              have HA47 := hid (heap_alloc_new w46 (.cells zSt 39))
              have D47 := hid ((Below.refl w46.heap.size w46).alloc (Nat.le_refl _) (.cells zSt 39))
              have GB0 := hid (show w.heap.size < w46.heap.size from block_lt HB0_46.out)
              have GB1 := hid (show w.heap.size + 1 < w46.heap.size from block_lt HB1_46.out)
              have GB2 := hid (show w.heap.size + 1 + 1 < w46.heap.size from block_lt HB2_46.out)
              have GR := hid (show w42.heap.size ≤ w46.heap.size from R_46.out.size)
              refine ⟨⟨(D47.out.block _ (block_lt HB0_46.out)).trans HB0_46.out, (D47.out.block _ (block_lt HB1_46.out)).trans HB1_46.out, (D47.out.block _ (block_lt HB2_46.out)).trans HB2_46.out⟩, ?_⟩
              refine genWorld (p := wpAnyH _ _ _ _ _ _ _ _) (w0 := (w46.alloc (.cells zSt 39))) (fun w47 hw47 => ?_)
              have h47 : Below w46.heap.size w46 w47 := by rw [hw47]; exact D47.out
              have HN147 := hid (show w47.heap[w46.heap.size]? = some (.cells zSt 39 (0, 0)) by rw [hw47]; exact HA47.out)
              clear hw47 HA47 D47
              have R_47 := hid (below_trans R_46.out h47 R_46.out.size)
              have P_47 := hid (P_46.out.below h47)
              have HB0_47 := hid ((h47.block (w.heap.size) (block_lt HB0_46.out)).trans HB0_46.out)
              have HB1_47 := hid ((h47.block (w.heap.size + 1) (block_lt HB1_46.out)).trans HB1_46.out)
              have HB2_47 := hid ((h47.block (w.heap.size + 1 + 1) (block_lt HB2_46.out)).trans HB2_46.out)
              clear h47
              refine wpAnyH_all (rs := [7]) (fuel := 7) (by kernel_rfl) (by simp) ?_
              intro i hi
              obtain rfl : i = 7 := by simpa using hi
              clear hi
              refine plainL rfl ?_
              go_simp
              go_at_call 18
              refine (c_implTickAll a0 B0.out a1 B1.out a2 B2.out _ n3 _ P3 _ O3.out (P_47.out.rws HN3.out)).mono ?_
              rintro e w48 ⟨⟨u, rfl, ur⟩, h48⟩
              have R_48 := hid (below_trans R_47.out h48 R_47.out.size)
              have P_48 := hid (P_47.out.below h48)
              have HB0_48 := hid ((h48.block (w.heap.size) (block_lt HB0_47.out)).trans HB0_47.out)
              have HB1_48 := hid ((h48.block (w.heap.size + 1) (block_lt HB1_47.out)).trans HB1_47.out)
              have HB2_48 := hid ((h48.block (w.heap.size + 1 + 1) (block_lt HB2_47.out)).trans HB2_47.out)
              have HB7_48 := hid ((h48.block (w46.heap.size) (block_lt HN147.out)).trans HN147.out)
              have GG48 := hid (GotF.owns2 (show GotF w48 w42.heap.size u (taL a0 a1 a2 P3 n3) from own_from ur R_47.out.size) (by have := HL.out; omega))
              clear ur h48
              refine ⟨⟨HB0_48.out, HB1_48.out, HB2_48.out⟩, ?_⟩
              refine takeL (i := 8) (fuel := 6) rfl (by kernel_rfl) (by kernel_rfl) (by kernel_rfl) (fun c a w h => h) (yldMove rfl _ rfl) ⟨HB0_48.out, HB1_48.out, HB2_48.out⟩ ?_
              try simp only [Act.put, List.setIfInBounds_toArray, List.set_cons_zero, List.set_cons_succ]
              refine takeL (i := 9) (fuel := 5) rfl (by kernel_rfl) (by kernel_rfl) (by kernel_rfl) (fun c a w h => h) (yldExtract rfl _ 0 rfl _ rfl _ rfl) ⟨HB0_48.out, HB1_48.out, HB2_48.out⟩ ?_
              try simp only [Act.put, List.setIfInBounds_toArray, List.set_cons_zero, List.set_cons_succ]
              refine takeL (i := 10) (fuel := 4) rfl (by kernel_rfl) (by kernel_rfl) (by kernel_rfl) (fun c a w h => h) (yldExtract rfl _ 1 rfl _ rfl _ rfl) ⟨HB0_48.out, HB1_48.out, HB2_48.out⟩ ?_
              try simp only [Act.put, List.setIfInBounds_toArray, List.set_cons_zero, List.set_cons_succ]
              refine takeL (i := 11) (fuel := 3) rfl (by kernel_rfl) (by kernel_rfl) (by kernel_rfl) (fun c a w h => h) (yldExtract rfl _ 2 rfl _ rfl _ rfl) ⟨HB0_48.out, HB1_48.out, HB2_48.out⟩ ?_
              try simp only [Act.put, List.setIfInBounds_toArray, List.set_cons_zero, List.set_cons_succ]
              refine wpAnyH_all (rs := [13]) (fuel := 2) (by kernel_rfl) (by simp) ?_
              intro i hi
              obtain rfl : i = 13 := by simpa using hi
              clear hi
              refine plainL rfl ?_
              refine wp_store_row 39 _ _ rfl (w46.heap.size) (stcells (taS a0 a1 a2 P3 n3)) (by kernel_rfl) (by kernel_rfl) 39 zSt HB7_48.out HS9.out HFE.out (stcells_one _) ?_
              refine ⟨⟨(setRow_other w48 (w46.heap.size) (w.heap.size) (stcells (taS a0 a1 a2 P3 n3)) (by have := GB0.out; omega)).trans HB0_48.out, (setRow_other w48 (w46.heap.size) (w.heap.size + 1) (stcells (taS a0 a1 a2 P3 n3)) (by have := GB1.out; omega)).trans HB1_48.out, (setRow_other w48 (w46.heap.size) (w.heap.size + 1 + 1) (stcells (taS a0 a1 a2 P3 n3)) (by have := GB2.out; omega)).trans HB2_48.out⟩, ?_⟩
              refine genWorld (p := wpAnyH _ _ _ _ _ _ _ _) (w0 := w48.setRow (w46.heap.size) (stcells (taS a0 a1 a2 P3 n3))) (fun w49 hw49 => ?_)
              have HB0_49 := hid (show w49.heap[w.heap.size]? = some (.cells (ccells a0) 25 (0, 0)) by rw [hw49]; exact (setRow_other w48 (w46.heap.size) (w.heap.size) (stcells (taS a0 a1 a2 P3 n3)) (by have := GB0.out; omega)).trans HB0_48.out)
              have HB1_49 := hid (show w49.heap[w.heap.size + 1]? = some (.cells (bcells a1) 28 (0, 0)) by rw [hw49]; exact (setRow_other w48 (w46.heap.size) (w.heap.size + 1) (stcells (taS a0 a1 a2 P3 n3)) (by have := GB1.out; omega)).trans HB1_48.out)
              have HB2_49 := hid (show w49.heap[w.heap.size + 1 + 1]? = some (.cells (stcells a2) 30 (0, 0)) by rw [hw49]; exact (setRow_other w48 (w46.heap.size) (w.heap.size + 1 + 1) (stcells (taS a0 a1 a2 P3 n3)) (by have := GB2.out; omega)).trans HB2_48.out)
              have R_49 := hid (show Below w42.heap.size w42 w49 by rw [hw49]; exact below_setRow R_48.out GR.out (stcells (taS a0 a1 a2 P3 n3)))
              have QN := hid (show w49.heap[w46.heap.size]? = some (.cells (stcells (taS a0 a1 a2 P3 n3)) 39 (0, 0)) by rw [hw49]; exact blk_row_same w48 (w46.heap.size) zSt (stcells (taS a0 a1 a2 P3 n3)) _ _ HB7_48.out)
              have GN := hid (show GotF w49 w42.heap.size _ (taL a0 a1 a2 P3 n3) by rw [hw49]; exact own_setRow (T := 22) GG48.out.1 HB7_48.out (by decide))
              clear hw49
              refine takeL (i := 14) (fuel := 1) rfl (by kernel_rfl) (by kernel_rfl) (by kernel_rfl) (fun c a w h => h) (yldAssign rfl _ rfl) ⟨HB0_49.out, HB1_49.out, HB2_49.out⟩ ?_
              try simp only [Act.put, List.setIfInBounds_toArray, List.set_cons_zero, List.set_cons_succ]
              refine takeL (i := 15) (fuel := 0) rfl (by kernel_rfl) (by kernel_rfl) (by kernel_rfl) (fun c a w h => h) (yldAssign rfl _ rfl) ⟨HB0_49.out, HB1_49.out, HB2_49.out⟩ ?_
              try simp only [Act.put, List.setIfInBounds_toArray, List.set_cons_zero, List.set_cons_succ]
              refine wpAnyH_done (by kernel_rfl) ?_ 0
              simp only [Exit.then]
              go_wp2_with fail
              go_meet
              exact ⟨_, _, rfl, rfl, rfl, GR.out, QN.out, GN.out, R_49.out⟩
          · clear hi
            refine plainL rfl ?_
            go_simp
            have HA46 := hid (heap_alloc_new w45 (.cells zSt 39))
            have D46 := hid ((Below.refl w45.heap.size w45).alloc (Nat.le_refl _) (.cells zSt 39))
            have GB0 := hid (show w.heap.size < w45.heap.size from block_lt HB0_45.out)
            have GB1 := hid (show w.heap.size + 1 < w45.heap.size from block_lt HB1_45.out)
            have GB2 := hid (show w.heap.size + 1 + 1 < w45.heap.size from block_lt HB2_45.out)
            have GR := hid (show w42.heap.size ≤ w45.heap.size from R_45.out.size)
            refine ⟨⟨(D46.out.block _ (block_lt HB0_45.out)).trans HB0_45.out, (D46.out.block _ (block_lt HB1_45.out)).trans HB1_45.out, (D46.out.block _ (block_lt HB2_45.out)).trans HB2_45.out⟩, ?_⟩
            refine genWorld (p := wpAnyH _ _ _ _ _ _ _ _) (w0 := (w45.alloc (.cells zSt 39))) (fun w46 hw46 => ?_)
            have h46 : Below w45.heap.size w45 w46 := by rw [hw46]; exact D46.out
            have HN146 := hid (show w46.heap[w45.heap.size]? = some (.cells zSt 39 (0, 0)) by rw [hw46]; exact HA46.out)
            clear hw46 HA46 D46
            have R_46 := hid (below_trans R_45.out h46 R_45.out.size)
            have P_46 := hid (P_45.out.below h46)
            have HB0_46 := hid ((h46.block (w.heap.size) (block_lt HB0_45.out)).trans HB0_45.out)
            have HB1_46 := hid ((h46.block (w.heap.size + 1) (block_lt HB1_45.out)).trans HB1_45.out)
            have HB2_46 := hid ((h46.block (w.heap.size + 1 + 1) (block_lt HB2_45.out)).trans HB2_45.out)
            clear h46
            refine wpAnyH_all (rs := [5]) (fuel := 8) (by kernel_rfl) (by simp) ?_
            intro i hi
            obtain rfl : i = 5 := by simpa using hi
            clear hi
            refine plainL rfl ?_
            go_simp
            go_at_call 13
            refine (c_toState a2 _).mono ?_
            rintro e w47 ⟨rfl, h47⟩
            have R_47 := hid (below_trans R_46.out h47 R_46.out.size)
            have P_47 := hid (P_46.out.below h47)
            have HB0_47 := hid ((h47.block (w.heap.size) (block_lt HB0_46.out)).trans HB0_46.out)
            have HB1_47 := hid ((h47.block (w.heap.size + 1) (block_lt HB1_46.out)).trans HB1_46.out)
            have HB2_47 := hid ((h47.block (w.heap.size + 1 + 1) (block_lt HB2_46.out)).trans HB2_46.out)
            have HB7_47 := hid ((h47.block (w45.heap.size) (block_lt HN146.out)).trans HN146.out)
            clear h47
            refine ⟨⟨HB0_47.out, HB1_47.out, HB2_47.out⟩, ?_⟩
            refine wpAnyH_all (rs := [7]) (fuel := 7) (by kernel_rfl) (by simp) ?_
            intro i hi
            obtain rfl : i = 7 := by simpa using hi
            clear hi
            refine plainL rfl ?_
            go_simp
            go_at_call 18
            refine (c_implTickAll a0 B0.out a1 B1.out a2 B2.out _ n3 _ P3 _ O3.out (P_47.out.rws HN3.out)).mono ?_
            rintro e w48 ⟨⟨u, rfl, ur⟩, h48⟩
            have R_48 := hid (below_trans R_47.out h48 R_47.out.size)
            have P_48 := hid (P_47.out.below h48)
            have HB0_48 := hid ((h48.block (w.heap.size) (block_lt HB0_47.out)).trans HB0_47.out)
            have HB1_48 := hid ((h48.block (w.heap.size + 1) (block_lt HB1_47.out)).trans HB1_47.out)
            have HB2_48 := hid ((h48.block (w.heap.size + 1 + 1) (block_lt HB2_47.out)).trans HB2_47.out)
            have HB7_48 := hid ((h48.block (w45.heap.size) (block_lt HB7_47.out)).trans HB7_47.out)
            have GG48 := hid (GotF.owns2 (show GotF w48 w42.heap.size u (taL a0 a1 a2 P3 n3) from own_from ur R_47.out.size) (by have := HL.out; omega))
            clear ur h48
            refine ⟨⟨HB0_48.out, HB1_48.out, HB2_48.out⟩, ?_⟩
            refine takeL (i := 8) (fuel := 6) rfl (by kernel_rfl) (by kernel_rfl) (by kernel_rfl) (fun c a w h => h) (yldMove rfl _ rfl) ⟨HB0_48.out, HB1_48.out, HB2_48.out⟩ ?_
            try simp only [Act.put, List.setIfInBounds_toArray, List.set_cons_zero, List.set_cons_succ]
            refine takeL (i := 9) (fuel := 5) rfl (by kernel_rfl) (by kernel_rfl) (by kernel_rfl) (fun c a w h => h) (yldExtract rfl _ 0 rfl _ rfl _ rfl) ⟨HB0_48.out, HB1_48.out, HB2_48.out⟩ ?_
            try simp only [Act.put, List.setIfInBounds_toArray, List.set_cons_zero, List.set_cons_succ]
            refine takeL (i := 10) (fuel := 4) rfl (by kernel_rfl) (by kernel_rfl) (by kernel_rfl) (fun c a w h => h) (yldExtract rfl _ 1 rfl _ rfl _ rfl) ⟨HB0_48.out, HB1_48.out, HB2_48.out⟩ ?_
            try simp only [Act.put, List.setIfInBounds_toArray, List.set_cons_zero, List.set_cons_succ]
            refine takeL (i := 11) (fuel := 3) rfl (by kernel_rfl) (by kernel_rfl) (by kernel_rfl) (fun c a w h => h) (yldExtract rfl _ 2 rfl _ rfl _ rfl) ⟨HB0_48.out, HB1_48.out, HB2_48.out⟩ ?_
            try simp only [Act.put, List.setIfInBounds_toArray, List.set_cons_zero, List.set_cons_succ]
            refine wpAnyH_all (rs := [13]) (fuel := 2) (by kernel_rfl) (by simp) ?_
            intro i hi
            obtain rfl : i = 13 := by simpa using hi
            clear hi
            refine plainL rfl ?_
            refine wp_store_row 39 _ _ rfl (w45.heap.size) (stcells (taS a0 a1 a2 P3 n3)) (by kernel_rfl) (by kernel_rfl) 39 zSt HB7_48.out HS9.out HFE.out (stcells_one _) ?_
            refine ⟨⟨(setRow_other w48 (w45.heap.size) (w.heap.size) (stcells (taS a0 a1 a2 P3 n3)) (by have := GB0.out; omega)).trans HB0_48.out, (setRow_other w48 (w45.heap.size) (w.heap.size + 1) (stcells (taS a0 a1 a2 P3 n3)) (by have := GB1.out; omega)).trans HB1_48.out, (setRow_other w48 (w45.heap.size) (w.heap.size + 1 + 1) (stcells (taS a0 a1 a2 P3 n3)) (by have := GB2.out; omega)).trans HB2_48.out⟩, ?_⟩
            refine genWorld (p := wpAnyH _ _ _ _ _ _ _ _) (w0 := w48.setRow (w45.heap.size) (stcells (taS a0 a1 a2 P3 n3))) (fun w49 hw49 => ?_)
            have HB0_49 := hid (show w49.heap[w.heap.size]? = some (.cells (ccells a0) 25 (0, 0)) by rw [hw49]; exact (setRow_other w48 (w45.heap.size) (w.heap.size) (stcells (taS a0 a1 a2 P3 n3)) (by have := GB0.out; omega)).trans HB0_48.out)
            have HB1_49 := hid (show w49.heap[w.heap.size + 1]? = some (.cells (bcells a1) 28 (0, 0)) by rw [hw49]; exact (setRow_other w48 (w45.heap.size) (w.heap.size + 1) (stcells (taS a0 a1 a2 P3 n3)) (by have := GB1.out; omega)).trans HB1_48.out)
            have HB2_49 := hid (show w49.heap[w.heap.size + 1 + 1]? = some (.cells (stcells a2) 30 (0, 0)) by rw [hw49]; exact (setRow_other w48 (w45.heap.size) (w.heap.size + 1 + 1) (stcells (taS a0 a1 a2 P3 n3)) (by have := GB2.out; omega)).trans HB2_48.out)
            have R_49 := hid (show Below w42.heap.size w42 w49 by rw [hw49]; exact below_setRow R_48.out GR.out (stcells (taS a0 a1 a2 P3 n3)))
            have QN := hid (show w49.heap[w45.heap.size]? = some (.cells (stcells (taS a0 a1 a2 P3 n3)) 39 (0, 0)) by rw [hw49]; exact blk_row_same w48 (w45.heap.size) zSt (stcells (taS a0 a1 a2 P3 n3)) _ _ HB7_48.out)
            have GN := hid (show GotF w49 w42.heap.size _ (taL a0 a1 a2 P3 n3) by rw [hw49]; exact own_setRow (T := 22) GG48.out.1 HB7_48.out (by decide))
            clear hw49
            refine takeL (i := 14) (fuel := 1) rfl (by kernel_rfl) (by kernel_rfl) (by kernel_rfl) (fun c a w h => h) (yldAssign rfl _ rfl) ⟨HB0_49.out, HB1_49.out, HB2_49.out⟩ ?_
            try simp only [Act.put, List.setIfInBounds_toArray, List.set_cons_zero, List.set_cons_succ]
            refine takeL (i := 15) (fuel := 0) rfl (by kernel_rfl) (by kernel_rfl) (by kernel_rfl) (fun c a w h => h) (yldAssign rfl _ rfl) ⟨HB0_49.out, HB1_49.out, HB2_49.out⟩ ?_
            try simp only [Act.put, List.setIfInBounds_toArray, List.set_cons_zero, List.set_cons_succ]
            refine wpAnyH_done (by kernel_rfl) ?_ 0
            simp only [Exit.then]
            go_wp2_with fail
            go_meet
            exact ⟨_, _, rfl, rfl, rfl, GR.out, QN.out, GN.out, R_49.out⟩
        · clear hi
          refine plainL rfl ?_
          go_simp
          have HA45 := hid (heap_alloc_new w44 (.cells zSt 39))
          have D45 := hid ((Below.refl w44.heap.size w44).alloc (Nat.le_refl _) (.cells zSt 39))
          have GB0 := hid (show w.heap.size < w44.heap.size from block_lt HB0_44.out)
          have GB1 := hid (show w.heap.size + 1 < w44.heap.size from block_lt HB1_44.out)
          have GB2 := hid (show w.heap.size + 1 + 1 < w44.heap.size from block_lt HB2_44.out)
          have GR := hid (show w42.heap.size ≤ w44.heap.size from R_44.out.size)
          refine ⟨⟨(D45.out.block _ (block_lt HB0_44.out)).trans HB0_44.out, (D45.out.block _ (block_lt HB1_44.out)).trans HB1_44.out, (D45.out.block _ (block_lt HB2_44.out)).trans HB2_44.out⟩, ?_⟩
          refine genWorld (p := wpAnyH _ _ _ _ _ _ _ _) (w0 := (w44.alloc (.cells zSt 39))) (fun w45 hw45 => ?_)
          have h45 : Below w44.heap.size w44 w45 := by rw [hw45]; exact D45.out
          have HN145 := hid (show w45.heap[w44.heap.size]? = some (.cells zSt 39 (0, 0)) by rw [hw45]; exact HA45.out)
          clear hw45 HA45 D45
          have R_45 := hid (below_trans R_44.out h45 R_44.out.size)
          have P_45 := hid (P_44.out.below h45)
          have HB0_45 := hid ((h45.block (w.heap.size) (block_lt HB0_44.out)).trans HB0_44.out)
          have HB1_45 := hid ((h45.block (w.heap.size + 1) (block_lt HB1_44.out)).trans HB1_44.out)
          have HB2_45 := hid ((h45.block (w.heap.size + 1 + 1) (block_lt HB2_44.out)).trans HB2_44.out)
          clear h45
          refine wpAnyH_all (rs := [3]) (fuel := 9) (by kernel_rfl) (by simp) ?_
          intro i hi
          obtain rfl : i = 3 := by simpa using hi
          clear hi
          refine plainL rfl ?_
          go_simp
          go_at_call 12
          refine (c_toBlind a1 _).mono ?_
          rintro e w46 ⟨rfl, h46⟩
          have R_46 := hid (below_trans R_45.out h46 R_45.out.size)
          have P_46 := hid (P_45.out.below h46)
          have HB0_46 := hid ((h46.block (w.heap.size) (block_lt HB0_45.out)).trans HB0_45.out)
          have HB1_46 := hid ((h46.block (w.heap.size + 1) (block_lt HB1_45.out)).trans HB1_45.out)
          have HB2_46 := hid ((h46.block (w.heap.size + 1 + 1) (block_lt HB2_45.out)).trans HB2_45.out)
          have HB7_46 := hid ((h46.block (w44.heap.size) (block_lt HN145.out)).trans HN145.out)
          clear h46
          refine ⟨⟨HB0_46.out, HB1_46.out, HB2_46.out⟩, ?_⟩
          refine wpAnyH_all (rs := [5]) (fuel := 8) (by kernel_rfl) (by simp) ?_
          intro i hi
          obtain rfl : i = 5 := by simpa using hi
          clear hi
          refine plainL rfl ?_
          go_simp
          go_at_call 13
          refine (c_toState a2 _).mono ?_
          rintro e w47 ⟨rfl, h47⟩
          have R_47 := hid (below_trans R_46.out h47 R_46.out.size)
          have P_47 := hid (P_46.out.below h47)
          have HB0_47 := hid ((h47.block (w.heap.size) (block_lt HB0_46.out)).trans HB0_46.out)
          have HB1_47 := hid ((h47.block (w.heap.size + 1) (block_lt HB1_46.out)).trans HB1_46.out)
          have HB2_47 := hid ((h47.block (w.heap.size + 1 + 1) (block_lt HB2_46.out)).trans HB2_46.out)
          have HB7_47 := hid ((h47.block (w44.heap.size) (block_lt HB7_46.out)).trans HB7_46.out)
          clear h47
          refine ⟨⟨HB0_47.out, HB1_47.out, HB2_47.out⟩, ?_⟩
          refine wpAnyH_all (rs := [7]) (fuel := 7) (by kernel_rfl) (by simp) ?_
          intro i hi
          obtain rfl : i = 7 := by simpa using hi
          clear hi
          refine plainL rfl ?_
          go_simp
          go_at_call 18
          refine (c_implTickAll a0 B0.out a1 B1.out a2 B2.out _ n3 _ P3 _ O3.out (P_47.out.rws HN3.out)).mono ?_
          rintro e w48 ⟨⟨u, rfl, ur⟩, h48⟩
          have R_48 := hid (below_trans R_47.out h48 R_47.out.size)
          have P_48 := hid (P_47.out.below h48)
          have HB0_48 := hid ((h48.block (w.heap.size) (block_lt HB0_47.out)).trans HB0_47.out)
          have HB1_48 := hid ((h48.block (w.heap.size + 1) (block_lt HB1_47.out)).trans HB1_47.out)
          have HB2_48 := hid ((h48.block (w.heap.size + 1 + 1) (block_lt HB2_47.out)).trans HB2_47.out)
          have HB7_48 := hid ((h48.block (w44.heap.size) (block_lt HB7_47.out)).trans HB7_47.out)
          have GG48 := hid (GotF.owns2 (show GotF w48 w42.heap.size u (taL a0 a1 a2 P3 n3) from own_from ur R_47.out.size) (by have := HL.out; omega))
          clear ur h48
          refine ⟨⟨HB0_48.out, HB1_48.out, HB2_48.out⟩, ?_⟩
          refine takeL (i := 8) (fuel := 6) rfl (by kernel_rfl) (by kernel_rfl) (by kernel_rfl) (fun c a w h => h) (yldMove rfl _ rfl) ⟨HB0_48.out, HB1_48.out, HB2_48.out⟩ ?_
          try simp only [Act.put, List.setIfInBounds_toArray, List.set_cons_zero, List.set_cons_succ]
          refine takeL (i := 9) (fuel := 5) rfl (by kernel_rfl) (by kernel_rfl) (by kernel_rfl) (fun c a w h => h) (yldExtract rfl _ 0 rfl _ rfl _ rfl) ⟨HB0_48.out, HB1_48.out, HB2_48.out⟩ ?_
          try simp only [Act.put, List.setIfInBounds_toArray, List.set_cons_zero, List.set_cons_succ]
          refine takeL (i := 10) (fuel := 4) rfl (by kernel_rfl) (by kernel_rfl) (by kernel_rfl) (fun c a w h => h) (yldExtract rfl _ 1 rfl _ rfl _ rfl) ⟨HB0_48.out, HB1_48.out, HB2_48.out⟩ ?_
          try simp only [Act.put, List.setIfInBounds_toArray, List.set_cons_zero, List.set_cons_succ]
          refine takeL (i := 11) (fuel := 3) rfl (by kernel_rfl) (by kernel_rfl) (by kernel_rfl) (fun c a w h => h) (yldExtract rfl _ 2 rfl _ rfl _ rfl) ⟨HB0_48.out, HB1_48.out, HB2_48.out⟩ ?_
          try simp only [Act.put, List.setIfInBounds_toArray, List.set_cons_zero, List.set_cons_succ]
          refine wpAnyH_all (rs := [13]) (fuel := 2) (by kernel_rfl) (by simp) ?_
          intro i hi
          obtain rfl : i = 13 := by simpa using hi
          clear hi
          refine plainL rfl ?_
          refine wp_store_row 39 _ _ rfl (w44.heap.size) (stcells (taS a0 a1 a2 P3 n3)) (by kernel_rfl) (by kernel_rfl) 39 zSt HB7_48.out HS9.out HFE.out (stcells_one _) ?_
          refine ⟨⟨(setRow_other w48 (w44.heap.size) (w.heap.size) (stcells (taS a0 a1 a2 P3 n3)) (by have := GB0.out; omega)).trans HB0_48.out, (setRow_other w48 (w44.heap.size) (w.heap.size + 1) (stcells (taS a0 a1 a2 P3 n3)) (by have := GB1.out; omega)).trans HB1_48.out, (setRow_other w48 (w44.heap.size) (w.heap.size + 1 + 1) (stcells (taS a0 a1 a2 P3 n3)) (by have := GB2.out; omega)).trans HB2_48.out⟩, ?_⟩
          refine genWorld (p := wpAnyH _ _ _ _ _ _ _ _) (w0 := w48.setRow (w44.heap.size) (stcells (taS a0 a1 a2 P3 n3))) (fun w49 hw49 => ?_)
          have HB0_49 := hid (show w49.heap[w.heap.size]? = some (.cells (ccells a0) 25 (0, 0)) by rw [hw49]; exact (setRow_other w48 (w44.heap.size) (w.heap.size) (stcells (taS a0 a1 a2 P3 n3)) (by have := GB0.out; omega)).trans HB0_48.out)
          have HB1_49 := hid (show w49.heap[w.heap.size + 1]? = some (.cells (bcells a1) 28 (0, 0)) by rw [hw49]; exact (setRow_other w48 (w44.heap.size) (w.heap.size + 1) (stcells (taS a0 a1 a2 P3 n3)) (by have := GB1.out; omega)).trans HB1_48.out)
          have HB2_49 := hid (show w49.heap[w.heap.size + 1 + 1]? = some (.cells (stcells a2) 30 (0, 0)) by rw [hw49]; exact (setRow_other w48 (w44.heap.size) (w.heap.size + 1 + 1) (stcells (taS a0 a1 a2 P3 n3)) (by have := GB2.out; omega)).trans HB2_48.out)
          have R_49 := hid (show Below w42.heap.size w42 w49 by rw [hw49]; exact below_setRow R_48.out GR.out (stcells (taS a0 a1 a2 P3 n3)))
          have QN := hid (show w49.heap[w44.heap.size]? = some (.cells (stcells (taS a0 a1 a2 P3 n3)) 39 (0, 0)) by rw [hw49]; exact blk_row_same w48 (w44.heap.size) zSt (stcells (taS a0 a1 a2 P3 n3)) _ _ HB7_48.out)
          have GN := hid (show GotF w49 w42.heap.size _ (taL a0 a1 a2 P3 n3) by rw [hw49]; exact own_setRow (T := 22) GG48.out.1 HB7_48.out (by decide))
          clear hw49
          refine takeL (i := 14) (fuel := 1) rfl (by kernel_rfl) (by kernel_rfl) (by kernel_rfl) (fun c a w h => h) (yldAssign rfl _ rfl) ⟨HB0_49.out, HB1_49.out, HB2_49.out⟩ ?_
          try simp only [Act.put, List.setIfInBounds_toArray, List.set_cons_zero, List.set_cons_succ]
          refine takeL (i := 15) (fuel := 0) rfl (by kernel_rfl) (by kernel_rfl) (by kernel_rfl) (fun c a w h => h) (yldAssign rfl _ rfl) ⟨HB0_49.out, HB1_49.out, HB2_49.out⟩ ?_
          try simp only [Act.put, List.setIfInBounds_toArray, List.set_cons_zero, List.set_cons_succ]
          refine wpAnyH_done (by kernel_rfl) ?_ 0
          simp only [Exit.then]
          go_wp2_with fail
          go_meet
          exact ⟨_, _, rfl, rfl, rfl, GR.out, QN.out, GN.out, R_49.out⟩
      · clear hi
        refine plainL rfl ?_
        go_simp
        have HA44 := hid (heap_alloc_new w43 (.cells zSt 39))
        have D44 := hid ((Below.refl w43.heap.size w43).alloc (Nat.le_refl _) (.cells zSt 39))
        have GB0 := hid (show w.heap.size < w43.heap.size from block_lt HB0_43.out)
        have GB1 := hid (show w.heap.size + 1 < w43.heap.size from block_lt HB1_43.out)
        have GB2 := hid (show w.heap.size + 1 + 1 < w43.heap.size from block_lt HB2_43.out)
        have GR := hid (show w42.heap.size ≤ w43.heap.size from R_43.out.size)
        refine ⟨⟨(D44.out.block _ (block_lt HB0_43.out)).trans HB0_43.out, (D44.out.block _ (block_lt HB1_43.out)).trans HB1_43.out, (D44.out.block _ (block_lt HB2_43.out)).trans HB2_43.out⟩, ?_⟩
        refine genWorld (p := wpAnyH _ _ _ _ _ _ _ _) (w0 := (w43.alloc (.cells zSt 39))) (fun w44 hw44 => ?_)
        have h44 : Below w43.heap.size w43 w44 := by rw [hw44]; exact D44.out
        have HN144 := hid (show w44.heap[w43.heap.size]? = some (.cells zSt 39 (0, 0)) by rw [hw44]; exact HA44.out)
        clear hw44 HA44 D44
        have R_44 := hid (below_trans R_43.out h44 R_43.out.size)
        have P_44 := hid (P_43.out.below h44)
        have HB0_44 := hid ((h44.block (w.heap.size) (block_lt HB0_43.out)).trans HB0_43.out)
        have HB1_44 := hid ((h44.block (w.heap.size + 1) (block_lt HB1_43.out)).trans HB1_43.out)
        have HB2_44 := hid ((h44.block (w.heap.size + 1 + 1) (block_lt HB2_43.out)).trans HB2_43.out)
        clear h44
        refine wpAnyH_all (rs := [1]) (fuel := 10) (by kernel_rfl) (by simp) ?_
        intro i hi
        obtain rfl : i = 1 := by simpa using hi
        clear hi
        refine plainL rfl ?_
        go_simp
        go_at_call 11
        refine (c_toControl a0 _).mono ?_
        rintro e w45 ⟨rfl, h45⟩
        have R_45 := hid (below_trans R_44.out h45 R_44.out.size)
        have P_45 := hid (P_44.out.below h45)
        have HB0_45 := hid ((h45.block (w.heap.size) (block_lt HB0_44.out)).trans HB0_44.out)
        have HB1_45 := hid ((h45.block (w.heap.size + 1) (block_lt HB1_44.out)).trans HB1_44.out)
        have HB2_45 := hid ((h45.block (w.heap.size + 1 + 1) (block_lt HB2_44.out)).trans HB2_44.out)
        have HB7_45 := hid ((h45.block (w43.heap.size) (block_lt HN144.out)).trans HN144.out)
        clear h45
        refine ⟨⟨HB0_45.out, HB1_45.out, HB2_45.out⟩, ?_⟩
        refine wpAnyH_all (rs := [3]) (fuel := 9) (by kernel_rfl) (by simp) ?_
        intro i hi
        obtain rfl : i = 3 := by simpa using hi
        clear hi
        refine plainL rfl ?_
        go_simp
        go_at_call 12
        refine (c_toBlind a1 _).mono ?_
        rintro e w46 ⟨rfl, h46⟩
        have R_46 := hid (below_trans R_45.out h46 R_45.out.size)
        have P_46 := hid (P_45.out.below h46)
        have HB0_46 := hid ((h46.block (w.heap.size) (block_lt HB0_45.out)).trans HB0_45.out)
        have HB1_46 := hid ((h46.block (w.heap.size + 1) (block_lt HB1_45.out)).trans HB1_45.out)
        have HB2_46 := hid ((h46.block (w.heap.size + 1 + 1) (block_lt HB2_45.out)).trans HB2_45.out)
        have HB7_46 := hid ((h46.block (w43.heap.size) (block_lt HB7_45.out)).trans HB7_45.out)
        clear h46
        refine ⟨⟨HB0_46.out, HB1_46.out, HB2_46.out⟩, ?_⟩
        refine wpAnyH_all (rs := [5]) (fuel := 8) (by kernel_rfl) (by simp) ?_
        intro i hi
        obtain rfl : i = 5 := by simpa using hi
        clear hi
        refine plainL rfl ?_
        go_simp
        go_at_call 13
        refine (c_toState a2 _).mono ?_
        rintro e w47 ⟨rfl, h47⟩
        have R_47 := hid (below_trans R_46.out h47 R_46.out.size)
        have P_47 := hid (P_46.out.below h47)
        have HB0_47 := hid ((h47.block (w.heap.size) (block_lt HB0_46.out)).trans HB0_46.out)
        have HB1_47 := hid ((h47.block (w.heap.size + 1) (block_lt HB1_46.out)).trans HB1_46.out)
        have HB2_47 := hid ((h47.block (w.heap.size + 1 + 1) (block_lt HB2_46.out)).trans HB2_46.out)
        have HB7_47 := hid ((h47.block (w43.heap.size) (block_lt HB7_46.out)).trans HB7_46.out)
        clear h47
        refine ⟨⟨HB0_47.out, HB1_47.out, HB2_47.out⟩, ?_⟩
        refine wpAnyH_all (rs := [7]) (fuel := 7) (by kernel_rfl) (by simp) ?_
        intro i hi
        obtain rfl : i = 7 := by simpa using hi
        clear hi
        refine plainL rfl ?_
        go_simp
        go_at_call 18
        refine (c_implTickAll a0 B0.out a1 B1.out a2 B2.out _ n3 _ P3 _ O3.out (P_47.out.rws HN3.out)).mono ?_
        rintro e w48 ⟨⟨u, rfl, ur⟩, h48⟩
        have R_48 := hid (below_trans R_47.out h48 R_47.out.size)
        have P_48 := hid (P_47.out.below h48)
        have HB0_48 := hid ((h48.block (w.heap.size) (block_lt HB0_47.out)).trans HB0_47.out)
        have HB1_48 := hid ((h48.block (w.heap.size + 1) (block_lt HB1_47.out)).trans HB1_47.out)
        have HB2_48 := hid ((h48.block (w.heap.size + 1 + 1) (block_lt HB2_47.out)).trans HB2_47.out)
        have HB7_48 := hid ((h48.block (w43.heap.size) (block_lt HB7_47.out)).trans HB7_47.out)
        have GG48 := hid (GotF.owns2 (show GotF w48 w42.heap.size u (taL a0 a1 a2 P3 n3) from own_from ur R_47.out.size) (by have := HL.out; omega))
        clear ur h48
        refine ⟨⟨HB0_48.out, HB1_48.out, HB2_48.out⟩, ?_⟩
        refine takeL (i := 8) (fuel := 6) rfl (by kernel_rfl) (by kernel_rfl) (by kernel_rfl) (fun c a w h => h) (yldMove rfl _ rfl) ⟨HB0_48.out, HB1_48.out, HB2_48.out⟩ ?_
        try simp only [Act.put, List.setIfInBounds_toArray, List.set_cons_zero, List.set_cons_succ]
        refine takeL (i := 9) (fuel := 5) rfl (by kernel_rfl) (by kernel_rfl) (by kernel_rfl) (fun c a w h => h) (yldExtract rfl _ 0 rfl _ rfl _ rfl) ⟨HB0_48.out, HB1_48.out, HB2_48.out⟩ ?_
        try simp only [Act.put, List.setIfInBounds_toArray, List.set_cons_zero, List.set_cons_succ]
        refine takeL (i := 10) (fuel := 4) rfl (by kernel_rfl) (by kernel_rfl) (by kernel_rfl) (fun c a w h => h) (yldExtract rfl _ 1 rfl _ rfl _ rfl) ⟨HB0_48.out, HB1_48.out, HB2_48.out⟩ ?_
        try simp only [Act.put, List.setIfInBounds_toArray, List.set_cons_zero, List.set_cons_succ]
        refine takeL (i := 11) (fuel := 3) rfl (by kernel_rfl) (by kernel_rfl) (by kernel_rfl) (fun c a w h => h) (yldExtract rfl _ 2 rfl _ rfl _ rfl) ⟨HB0_48.out, HB1_48.out, HB2_48.out⟩ ?_
        try simp only [Act.put, List.setIfInBounds_toArray, List.set_cons_zero, List.set_cons_succ]
        refine wpAnyH_all (rs := [13]) (fuel := 2) (by kernel_rfl) (by simp) ?_
        intro i hi
        obtain rfl : i = 13 := by simpa using hi
        clear hi
        refine plainL rfl ?_
        refine wp_store_row 39 _ _ rfl (w43.heap.size) (stcells (taS a0 a1 a2 P3 n3)) (by kernel_rfl) (by kernel_rfl) 39 zSt HB7_48.out HS9.out HFE.out (stcells_one _) ?_
        refine ⟨⟨(setRow_other w48 (w43.heap.size) (w.heap.size) (stcells (taS a0 a1 a2 P3 n3)) (by have := GB0.out; omega)).trans HB0_48.out, (setRow_other w48 (w43.heap.size) (w.heap.size + 1) (stcells (taS a0 a1 a2 P3 n3)) (by have := GB1.out; omega)).trans HB1_48.out, (setRow_other w48 (w43.heap.size) (w.heap.size + 1 + 1) (stcells (taS a0 a1 a2 P3 n3)) (by have := GB2.out; omega)).trans HB2_48.out⟩, ?_⟩
        refine genWorld (p := wpAnyH _ _ _ _ _ _ _ _) (w0 := w48.setRow (w43.heap.size) (stcells (taS a0 a1 a2 P3 n3))) (fun w49 hw49 => ?_)
        have HB0_49 := hid (show w49.heap[w.heap.size]? = some (.cells (ccells a0) 25 (0, 0)) by rw [hw49]; exact (setRow_other w48 (w43.heap.size) (w.heap.size) (stcells (taS a0 a1 a2 P3 n3)) (by have := GB0.out; omega)).trans HB0_48.out)
        have HB1_49 := hid (show w49.heap[w.heap.size + 1]? = some (.cells (bcells a1) 28 (0, 0)) by rw [hw49]; exact (setRow_other w48 (w43.heap.size) (w.heap.size + 1) (stcells (taS a0 a1 a2 P3 n3)) (by have := GB1.out; omega)).trans HB1_48.out)
        have HB2_49 := hid (show w49.heap[w.heap.size + 1 + 1]? = some (.cells (stcells a2) 30 (0, 0)) by rw [hw49]; exact (setRow_other w48 (w43.heap.size) (w.heap.size + 1 + 1) (stcells (taS a0 a1 a2 P3 n3)) (by have := GB2.out; omega)).trans HB2_48.out)
        have R_49 := hid (show Below w42.heap.size w42 w49 by rw [hw49]; exact below_setRow R_48.out GR.out (stcells (taS a0 a1 a2 P3 n3)))
        have QN := hid (show w49.heap[w43.heap.size]? = some (.cells (stcells (taS a0 a1 a2 P3 n3)) 39 (0, 0)) by rw [hw49]; exact blk_row_same w48 (w43.heap.size) zSt (stcells (taS a0 a1 a2 P3 n3)) _ _ HB7_48.out)
        have GN := hid (show GotF w49 w42.heap.size _ (taL a0 a1 a2 P3 n3) by rw [hw49]; exact own_setRow (T := 22) GG48.out.1 HB7_48.out (by decide))
        clear hw49
        refine takeL (i := 14) (fuel := 1) rfl (by kernel_rfl) (by kernel_rfl) (by kernel_rfl) (fun c a w h => h) (yldAssign rfl _ rfl) ⟨HB0_49.out, HB1_49.out, HB2_49.out⟩ ?_
        try simp only [Act.put, List.setIfInBounds_toArray, List.set_cons_zero, List.set_cons_succ]
        refine takeL (i := 15) (fuel := 0) rfl (by kernel_rfl) (by kernel_rfl) (by kernel_rfl) (fun c a w h => h) (yldAssign rfl _ rfl) ⟨HB0_49.out, HB1_49.out, HB2_49.out⟩ ?_
        try simp only [Act.put, List.setIfInBounds_toArray, List.set_cons_zero, List.set_cons_succ]
        refine wpAnyH_done (by kernel_rfl) ?_ 0
        simp only [Exit.then]
        go_wp2_with fail
        go_meet
        exact ⟨_, _, rfl, rfl, rfl, GR.out, QN.out, GN.out, R_49.out⟩
    case rest =>
      obtain ⟨g83, v83, rfl, rfl, rfl, hlt, hbox, hgot, hbel⟩ := hcut
      obtain ⟨w83, hw83⟩ := name_world hbel
      subst hw83
      have E_83 := hid (below_trans E_42.out hbel E_42.out.size)
      have T_83 := hid (below_trans T_42.out hbel T_42.out.size)
      have P_83 := hid (P_42.out.below hbel)
      have HB0_83 := hid ((hbel.block (w.heap.size) (block_lt HB0_42.out)).trans HB0_42.out)
      have HB1_83 := hid ((hbel.block (w.heap.size + 1) (block_lt HB1_42.out)).trans HB1_42.out)
      have HB2_83 := hid ((hbel.block (w.heap.size + 1 + 1) (block_lt HB2_42.out)).trans HB2_42.out)
      have HB9_83 := hid ((hbel.block (g41) (block_lt HB9_42.out)).trans HB9_42.out)
      have LQ83 := hid hlt
      have HB83 := hid hbox
      have GG83 := hid (GotF.owns2 hgot (by have := HL.out; omega))
      clear hlt hbox hgot hbel
      have Y10 := hid (show b42 < g83 from Nat.lt_of_lt_of_le ZZP.out LQ83.out)
      have ep0 : w83.cell? ⟨g83, 0, none⟩ = some (.int .i16 (taS a0 a1 a2 P3 n3).ti) := cell_of_row _ _ 0 _ _ _ HB83.out
      have ep1 : w83.cell? ⟨g83, 1, none⟩ = some (.int .i8 (taS a0 a1 a2 P3 n3).wa) := cell_of_row _ _ 1 _ _ _ HB83.out
      have ep2 : w83.cell? ⟨g83, 2, none⟩ = some (.int .i8 (taS a0 a1 a2 P3 n3).so) := cell_of_row _ _ 2 _ _ _ HB83.out
      have eq0 : w83.cell? ⟨g41, 0, none⟩ = some (.int .i16 (taS a0 a1 a2 P3 n3).ti) := cell_of_row _ _ 0 _ _ _ HB9_83.out
      have eq1 : w83.cell? ⟨g41, 1, none⟩ = some (.int .i8 (taS a0 a1 a2 P3 n3).wa) := cell_of_row _ _ 1 _ _ _ HB9_83.out
      have eq2 : w83.cell? ⟨g41, 2, none⟩ = some (.int .i8 (taS a0 a1 a2 P3 n3).so) := cell_of_row _ _ 2 _ _ _ HB9_83.out
      go_wp2_with (first | (refine wpList_load_row rfl 25 _ rfl (w.heap.size) rfl 25 (ccells a0) (0, 0) _ HB0_83.out Try.underlying25 rfl HS0.out ?_) | (refine wpList_load_row rfl 28 _ rfl (w.heap.size + 1) rfl 28 (bcells a1) (0, 0) _ HB1_83.out Try.underlying28 rfl HS1.out ?_) | (refine wpList_load_row rfl 30 _ rfl (w.heap.size + 1 + 1) rfl 30 (stcells a2) (0, 0) _ HB2_83.out Try.underlying30 rfl HS2.out ?_))
      refine (c_eqState (taS a0 a1 a2 P3 n3) _).mono ?_
      rintro e w84 ⟨rfl, h84⟩
      have E_84 := hid (below_trans E_83.out h84 E_83.out.size)
      have T_84 := hid (below_trans T_83.out h84 T_83.out.size)
      have P_84 := hid (P_83.out.below h84)
      have G_84 := hid (GG83.out.below h84)
      have HB0_84 := hid ((h84.block (w.heap.size) (block_lt HB0_83.out)).trans HB0_83.out)
      have HB1_84 := hid ((h84.block (w.heap.size + 1) (block_lt HB1_83.out)).trans HB1_83.out)
      have HB2_84 := hid ((h84.block (w.heap.size + 1 + 1) (block_lt HB2_83.out)).trans HB2_83.out)
      have HB9_84 := hid ((h84.block (g41) (block_lt HB9_83.out)).trans HB9_83.out)
      have HB10_84 := hid ((h84.block (g83) (block_lt HB83.out)).trans HB83.out)
      clear h84
      clear ep0 ep1 ep2 eq0 eq1 eq2
      go_wp2_with (first | (refine wpList_load_row rfl 25 _ rfl (w.heap.size) rfl 25 (ccells a0) (0, 0) _ HB0_84.out Try.underlying25 rfl HS0.out ?_) | (refine wpList_load_row rfl 28 _ rfl (w.heap.size + 1) rfl 28 (bcells a1) (0, 0) _ HB1_84.out Try.underlying28 rfl HS1.out ?_) | (refine wpList_load_row rfl 30 _ rfl (w.heap.size + 1 + 1) rfl 30 (stcells a2) (0, 0) _ HB2_84.out Try.underlying30 rfl HS2.out ?_))
      refine (c_eqF _ _ (taL a0 a1 a2 P3 n3) _ (GotF.reads2 (lo := w42.heap.size) G_84.out.1 (by have := HL.out; omega) HW.out) (U.out.below T_84.out)).mono ?_
      rintro e w85 ⟨rfl, h85⟩
      have E_85 := hid (below_trans E_84.out h85 E_84.out.size)
      have T_85 := hid (below_trans T_84.out h85 T_84.out.size)
      have P_85 := hid (P_84.out.below h85)
      have G_85 := hid (G_84.out.below h85)
      have HB0_85 := hid ((h85.block (w.heap.size) (block_lt HB0_84.out)).trans HB0_84.out)
      have HB1_85 := hid ((h85.block (w.heap.size + 1) (block_lt HB1_84.out)).trans HB1_84.out)
      have HB2_85 := hid ((h85.block (w.heap.size + 1 + 1) (block_lt HB2_84.out)).trans HB2_84.out)
      have HB9_85 := hid ((h85.block (g41) (block_lt HB9_84.out)).trans HB9_84.out)
      have HB10_85 := hid ((h85.block (g83) (block_lt HB10_84.out)).trans HB10_84.out)
      clear h85
      go_wp2_with (first | (refine wpList_load_row rfl 25 _ rfl (w.heap.size) rfl 25 (ccells a0) (0, 0) _ HB0_85.out Try.underlying25 rfl HS0.out ?_) | (refine wpList_load_row rfl 28 _ rfl (w.heap.size + 1) rfl 28 (bcells a1) (0, 0) _ HB1_85.out Try.underlying28 rfl HS1.out ?_) | (refine wpList_load_row rfl 30 _ rfl (w.heap.size + 1 + 1) rfl 30 (stcells a2) (0, 0) _ HB2_85.out Try.underlying30 rfl HS2.out ?_))
      refine (c_toTickS a3 n3 c3 P3 _ O3.out (X3.out.below E_85.out)).mono ?_
      rintro e w86 ⟨b86, rfl, o86, l86, h86⟩
      have L86E := hid (show w.heap.size ≤ b86 from Nat.le_trans E_85.out.size l86)
      have L86T := hid (show w41.heap.size ≤ b86 from Nat.le_trans T_85.out.size l86)
      have Y86_0 := hid (show w.heap.size < b86 from Nat.lt_of_lt_of_le (block_lt HB0_85.out) l86)
      have Y86_1 := hid (show w.heap.size + 1 < b86 from Nat.lt_of_lt_of_le (block_lt HB1_85.out) l86)
      have Y86_2 := hid (show w.heap.size + 1 + 1 < b86 from Nat.lt_of_lt_of_le (block_lt HB2_85.out) l86)
      have Y86_9 := hid (show g41 < b86 from Nat.lt_of_lt_of_le (block_lt HB9_85.out) l86)
      have Y86_10 := hid (show g83 < b86 from Nat.lt_of_lt_of_le (block_lt HB10_85.out) l86)
      have E_86 := hid (below_trans E_85.out h86 E_85.out.size)
      have T_86 := hid (below_trans T_85.out h86 T_85.out.size)
      have P_86 := hid (P_85.out.below h86)
      have G_86 := hid (G_85.out.below h86)
      have HB0_86 := hid ((h86.block (w.heap.size) (block_lt HB0_85.out)).trans HB0_85.out)
      have HB1_86 := hid ((h86.block (w.heap.size + 1) (block_lt HB1_85.out)).trans HB1_85.out)
      have HB2_86 := hid ((h86.block (w.heap.size + 1 + 1) (block_lt HB2_85.out)).trans HB2_85.out)
      have HB9_86 := hid ((h86.block (g41) (block_lt HB9_85.out)).trans HB9_85.out)
      have HB10_86 := hid ((h86.block (g83) (block_lt HB10_85.out)).trans HB10_85.out)
      have Q_86 := hid o86
      clear o86 l86 h86
      go_wp2_with (first | (refine wpList_load_row rfl 25 _ rfl (w.heap.size) rfl 25 (ccells a0) (0, 0) _ HB0_86.out Try.underlying25 rfl HS0.out ?_) | (refine wpList_load_row rfl 28 _ rfl (w.heap.size + 1) rfl 28 (bcells a1) (0, 0) _ HB1_86.out Try.underlying28 rfl HS1.out ?_) | (refine wpList_load_row rfl 30 _ rfl (w.heap.size + 1 + 1) rfl 30 (stcells a2) (0, 0) _ HB2_86.out Try.underlying30 rfl HS2.out ?_))
      refine (c_eqTickS _ _ n3 _ _ P3 _ O3.out (P_86.out.rws HN3.out) (Q_86.out.rws HN3.out)).mono ?_
      rintro e w87 ⟨rfl, h87⟩
      have E_87 := hid (below_trans E_86.out h87 E_86.out.size)
      have T_87 := hid (below_trans T_86.out h87 T_86.out.size)
      have P_87 := hid (P_86.out.below h87)
      have Q_87 := hid (Q_86.out.below h87)
      have G_87 := hid (G_86.out.below h87)
      have HB0_87 := hid ((h87.block (w.heap.size) (block_lt HB0_86.out)).trans HB0_86.out)
      have HB1_87 := hid ((h87.block (w.heap.size + 1) (block_lt HB1_86.out)).trans HB1_86.out)
      have HB2_87 := hid ((h87.block (w.heap.size + 1 + 1) (block_lt HB2_86.out)).trans HB2_86.out)
      have HB9_87 := hid ((h87.block (g41) (block_lt HB9_86.out)).trans HB9_86.out)
      have HB10_87 := hid ((h87.block (g83) (block_lt HB10_86.out)).trans HB10_86.out)
      clear h87
      go_wp2_with (first | (refine wpList_load_row rfl 25 _ rfl (w.heap.size) rfl 25 (ccells a0) (0, 0) _ HB0_87.out Try.underlying25 rfl HS0.out ?_) | (refine wpList_load_row rfl 28 _ rfl (w.heap.size + 1) rfl 28 (bcells a1) (0, 0) _ HB1_87.out Try.underlying28 rfl HS1.out ?_) | (refine wpList_load_row rfl 30 _ rfl (w.heap.size + 1 + 1) rfl 30 (stcells a2) (0, 0) _ HB2_87.out Try.underlying30 rfl HS2.out ?_))
      refine (c_markTickS b42 n3 1 (tcs P3) _ (PartR.zero P_87.out) HN3.out (by omega)).mono ?_
      rintro e w88 ⟨rfl, -, h88⟩
      have E_88 := hid (E_87.out.grown h88 E_87.out.size (fun _ e => by cases e; exact L42E.out))
      have T_88 := hid (T_87.out.grown h88 T_87.out.size (fun _ e => by cases e; exact L42T.out))
      have HB0_88 := hid (box_kept HB0_87.out h88 (fun e => by cases e; exact Nat.lt_irrefl _ Y42_0.out))
      have HB1_88 := hid (box_kept HB1_87.out h88 (fun e => by cases e; exact Nat.lt_irrefl _ Y42_1.out))
      have HB2_88 := hid (box_kept HB2_87.out h88 (fun e => by cases e; exact Nat.lt_irrefl _ Y42_2.out))
      have HB9_88 := hid (box_kept HB9_87.out h88 (fun e => by cases e; exact Nat.lt_irrefl _ Y42_9.out))
      have HB10_88 := hid (box_kept HB10_87.out h88 (fun e => by cases e; exact Nat.lt_irrefl _ Y10.out))
      have G_88 := hid (G_87.out.kept h88 (fun _ e => by cases e; exact ZZP.out))
      clear h88
      have hk1 : (0 : Int) ≤ ((1 + n3 * 3 : Nat) : Int) := by omega
      have ep0 : w88.cell? ⟨g83, 0, none⟩ = some (.int .i16 (taS a0 a1 a2 P3 n3).ti) := cell_of_row _ _ 0 _ _ _ HB10_88.out
      have ep1 : w88.cell? ⟨g83, 1, none⟩ = some (.int .i8 (taS a0 a1 a2 P3 n3).wa) := cell_of_row _ _ 1 _ _ _ HB10_88.out
      have ep2 : w88.cell? ⟨g83, 2, none⟩ = some (.int .i8 (taS a0 a1 a2 P3 n3).so) := cell_of_row _ _ 2 _ _ _ HB10_88.out
      have eq0 : w88.cell? ⟨g41, 0, none⟩ = some (.int .i16 (taS a0 a1 a2 P3 n3).ti) := cell_of_row _ _ 0 _ _ _ HB9_88.out
      have eq1 : w88.cell? ⟨g41, 1, none⟩ = some (.int .i8 (taS a0 a1 a2 P3 n3).wa) := cell_of_row _ _ 1 _ _ _ HB9_88.out
      have eq2 : w88.cell? ⟨g41, 2, none⟩ = some (.int .i8 (taS a0 a1 a2 P3 n3).so) := cell_of_row _ _ 2 _ _ _ HB9_88.out
      go_wp2_with (first | (refine wpList_load_row rfl 25 _ rfl (w.heap.size) rfl 25 (ccells a0) (0, 0) _ HB0_88.out Try.underlying25 rfl HS0.out ?_) | (refine wpList_load_row rfl 28 _ rfl (w.heap.size + 1) rfl 28 (bcells a1) (0, 0) _ HB1_88.out Try.underlying28 rfl HS1.out ?_) | (refine wpList_load_row rfl 30 _ rfl (w.heap.size + 1 + 1) rfl 30 (stcells a2) (0, 0) _ HB2_88.out Try.underlying30 rfl HS2.out ?_))
      refine (c_eqState (taS a0 a1 a2 P3 n3) _).mono ?_
      rintro e w89 ⟨rfl, h89⟩
      have E_89 := hid (below_trans E_88.out h89 E_88.out.size)
      have T_89 := hid (below_trans T_88.out h89 T_88.out.size)
      have G_89 := hid (G_88.out.below h89)
      have HB0_89 := hid ((h89.block (w.heap.size) (block_lt HB0_88.out)).trans HB0_88.out)
      have HB1_89 := hid ((h89.block (w.heap.size + 1) (block_lt HB1_88.out)).trans HB1_88.out)
      have HB2_89 := hid ((h89.block (w.heap.size + 1 + 1) (block_lt HB2_88.out)).trans HB2_88.out)
      have HB9_89 := hid ((h89.block (g41) (block_lt HB9_88.out)).trans HB9_88.out)
      have HB10_89 := hid ((h89.block (g83) (block_lt HB10_88.out)).trans HB10_88.out)
      clear h89
      clear ep0 ep1 ep2 eq0 eq1 eq2
      go_wp2_with (first | (refine wpList_load_row rfl 25 _ rfl (w.heap.size) rfl 25 (ccells a0) (0, 0) _ HB0_89.out Try.underlying25 rfl HS0.out ?_) | (refine wpList_load_row rfl 28 _ rfl (w.heap.size + 1) rfl 28 (bcells a1) (0, 0) _ HB1_89.out Try.underlying28 rfl HS1.out ?_) | (refine wpList_load_row rfl 30 _ rfl (w.heap.size + 1 + 1) rfl 30 (stcells a2) (0, 0) _ HB2_89.out Try.underlying30 rfl HS2.out ?_))
      refine (c_eqF _ _ (taL a0 a1 a2 P3 n3) _ (GotF.reads2 (lo := w42.heap.size) G_89.out.1 (by have := HL.out; omega) HW.out) (U.out.below T_89.out)).mono ?_
      rintro e w90 ⟨rfl, h90⟩
      have E_90 := hid (below_trans E_89.out h90 E_89.out.size)
      have T_90 := hid (below_trans T_89.out h90 T_89.out.size)
      have G_90 := hid (G_89.out.below h90)
      have HB0_90 := hid ((h90.block (w.heap.size) (block_lt HB0_89.out)).trans HB0_89.out)
      have HB1_90 := hid ((h90.block (w.heap.size + 1) (block_lt HB1_89.out)).trans HB1_89.out)
      have HB2_90 := hid ((h90.block (w.heap.size + 1 + 1) (block_lt HB2_89.out)).trans HB2_89.out)
      have HB9_90 := hid ((h90.block (g41) (block_lt HB9_89.out)).trans HB9_89.out)
      have HB10_90 := hid ((h90.block (g83) (block_lt HB10_89.out)).trans HB10_89.out)
      clear h90
      go_wp2_with (first | (refine wpList_load_row rfl 25 _ rfl (w.heap.size) rfl 25 (ccells a0) (0, 0) _ HB0_90.out Try.underlying25 rfl HS0.out ?_) | (refine wpList_load_row rfl 28 _ rfl (w.heap.size + 1) rfl 28 (bcells a1) (0, 0) _ HB1_90.out Try.underlying28 rfl HS1.out ?_) | (refine wpList_load_row rfl 30 _ rfl (w.heap.size + 1 + 1) rfl 30 (stcells a2) (0, 0) _ HB2_90.out Try.underlying30 rfl HS2.out ?_))
      refine (c_markFloat32S _ _ _ (taL a0 a1 a2 P3 n3).length 1 _ G_90.out (by omega) _ rfl).mono ?_
      rintro e w91 ⟨rfl, mk91, h91⟩
      have E_91 := hid (E_90.out.grown h91 E_90.out.size (fun r e => Nat.le_trans LGE.out (G_90.out.1.lt r e).1))
      have T_91 := hid (T_90.out.grown h91 T_90.out.size (fun r e => Nat.le_trans LGT.out (G_90.out.1.lt r e).1))
      have HB0_91 := hid (row_kept HB0_90.out G_90.out.1 h91 (by decide))
      have HB1_91 := hid (row_kept HB1_90.out G_90.out.1 h91 (by decide))
      have HB2_91 := hid (row_kept HB2_90.out G_90.out.1 h91 (by decide))
      have HB9_91 := hid (row_kept HB9_90.out G_90.out.1 h91 (by decide))
      have HB10_91 := hid (row_kept HB10_90.out G_90.out.1 h91 (by decide))
      have HD := hid (Held.of mk91 G_90.out.len)
      clear mk91 h91
      have hl := HL.out
      go_wp2_with (first | (refine wpList_load_row rfl 25 _ rfl (w.heap.size) rfl 25 (ccells a0) (0, 0) _ HB0_91.out Try.underlying25 rfl HS0.out ?_) | (refine wpList_load_row rfl 28 _ rfl (w.heap.size + 1) rfl 28 (bcells a1) (0, 0) _ HB1_91.out Try.underlying28 rfl HS1.out ?_) | (refine wpList_load_row rfl 30 _ rfl (w.heap.size + 1 + 1) rfl 30 (stcells a2) (0, 0) _ HB2_91.out Try.underlying30 rfl HS2.out ?_))
      refine (c_heldFloat32S2 _ _ (taL a0 a1 a2 P3 n3).length 1 HD.out (by omega) _ rfl).mono ?_
      rintro e w92 ⟨rfl, h92⟩
      have E_92 := hid (below_trans E_91.out h92 E_91.out.size)
      have T_92 := hid (below_trans T_91.out h92 T_91.out.size)
      have M_92 := hid h92
      have HB0_92 := hid ((h92.block (w.heap.size) (block_lt HB0_91.out)).trans HB0_91.out)
      have HB1_92 := hid ((h92.block (w.heap.size + 1) (block_lt HB1_91.out)).trans HB1_91.out)
      have HB2_92 := hid ((h92.block (w.heap.size + 1 + 1) (block_lt HB2_91.out)).trans HB2_91.out)
      have HB9_92 := hid ((h92.block (g41) (block_lt HB9_91.out)).trans HB9_91.out)
      have HB10_92 := hid ((h92.block (g83) (block_lt HB10_91.out)).trans HB10_91.out)
      clear h92
      clear XR
      have XR := hid (X3.out.below E_92.out)
      go_upto_region 24 with fail
      go_cut [20, 21, 22] (fun s1 s2 s3 wx => ∃ (g : Nat) (v : Value), s1 = .pointer (some ⟨g, 0, none⟩) ∧ s2 = v ∧ s3 = .int .i64 (tkC a0 a1 a2 P3 n3) ∧ w92.heap.size ≤ g ∧ wx.heap[g]? = some (.cells (stcells (taS a0 a1 a2 P3 n3)) 39 (0, 0)) ∧ GotF wx w92.heap.size v (taL a0 a1 a2 P3 n3) ∧ Below w92.heap.size w92 wx)
      case first =>
        refine wp_region_held (S := fun wx => wx.heap[w.heap.size]? = some (.cells (ccells a0) 25 (0, 0)) ∧ wx.heap[w.heap.size + 1]? = some (.cells (bcells a1) 28 (0, 0)) ∧ wx.heap[w.heap.size + 1 + 1]? = some (.cells (stcells a2) 30 (0, 0))) (by kernel_rfl) ?_
        refine genWorld (p := wpAnyH _ _ _ _ _ _ _ _) (w0 := (w92).drew) (fun w93 hw93 => ?_)
        have h93 : Below (w92).heap.size (w92) w93 := hw93 ▸ (Below.refl _ _).drew
        clear hw93
        have R_93 := hid h93
        have HB0_93 := hid ((h93.block (w.heap.size) (block_lt HB0_92.out)).trans HB0_92.out)
        have HB1_93 := hid ((h93.block (w.heap.size + 1) (block_lt HB1_92.out)).trans HB1_92.out)
        have HB2_93 := hid ((h93.block (w.heap.size + 1 + 1) (block_lt HB2_92.out)).trans HB2_92.out)
        clear h93
        refine takeL (i := 0) (fuel := 16) rfl (by kernel_rfl) (by kernel_rfl) (by kernel_rfl) (fun c a w h => h) (yldRow rfl 25 _ rfl (w.heap.size) rfl 25 (ccells a0) (0, 0) _ (fun wx h => h.1) Try.underlying25 rfl HS0.out) ⟨HB0_93.out, HB1_93.out, HB2_93.out⟩ ?_
        try simp only [Act.put, List.setIfInBounds_toArray, List.set_cons_zero, List.set_cons_succ]
        refine takeL (i := 2) (fuel := 15) rfl (by kernel_rfl) (by kernel_rfl) (by kernel_rfl) (fun c a w h => h) (yldRow rfl 28 _ rfl (w.heap.size + 1) rfl 28 (bcells a1) (0, 0) _ (fun wx h => h.2.1) Try.underlying28 rfl HS1.out) ⟨HB0_93.out, HB1_93.out, HB2_93.out⟩ ?_
        try simp only [Act.put, List.setIfInBounds_toArray, List.set_cons_zero, List.set_cons_succ]
        refine takeL (i := 4) (fuel := 14) rfl (by kernel_rfl) (by kernel_rfl) (by kernel_rfl) (fun c a w h => h) (yldRow rfl 30 _ rfl (w.heap.size + 1 + 1) rfl 30 (stcells a2) (0, 0) _ (fun wx h => h.2.2) Try.underlying30 rfl HS2.out) ⟨HB0_93.out, HB1_93.out, HB2_93.out⟩ ?_
        try simp only [Act.put, List.setIfInBounds_toArray, List.set_cons_zero, List.set_cons_succ]
        refine takeL (i := 6) (fuel := 13) rfl (by kernel_rfl) (by kernel_rfl) (by kernel_rfl) (fun c a w h => h) (yldMove rfl _ rfl) ⟨HB0_93.out, HB1_93.out, HB2_93.out⟩ ?_
        try simp only [Act.put, List.setIfInBounds_toArray, List.set_cons_zero, List.set_cons_succ]
        refine wpAnyH_all (rs := [1, 13]) (fuel := 12) (by kernel_rfl) (by simp) ?_
        intro i hi
        rcases (show i = 1 ∨ i = 13 from by simpa using hi) with rfl | rfl
        · clear hi
          refine plainL rfl ?_
          go_simp
          go_at_call 11
          refine (c_toControl a0 _).mono ?_
          rintro e w94 ⟨rfl, h94⟩
          have R_94 := hid (below_trans R_93.out h94 R_93.out.size)
          have HB0_94 := hid ((h94.block (w.heap.size) (block_lt HB0_93.out)).trans HB0_93.out)
          have HB1_94 := hid ((h94.block (w.heap.size + 1) (block_lt HB1_93.out)).trans HB1_93.out)
          have HB2_94 := hid ((h94.block (w.heap.size + 1 + 1) (block_lt HB2_93.out)).trans HB2_93.out)
          clear h94
          refine ⟨⟨HB0_94.out, HB1_94.out, HB2_94.out⟩, ?_⟩
          refine wpAnyH_all (rs := [3, 13]) (fuel := 11) (by kernel_rfl) (by simp) ?_
          intro i hi
          rcases (show i = 3 ∨ i = 13 from by simpa using hi) with rfl | rfl
          · clear hi
            refine plainL rfl ?_
            go_simp
            go_at_call 12
            refine (c_toBlind a1 _).mono ?_
            rintro e w95 ⟨rfl, h95⟩
            have R_95 := hid (below_trans R_94.out h95 R_94.out.size)
            have HB0_95 := hid ((h95.block (w.heap.size) (block_lt HB0_94.out)).trans HB0_94.out)
            have HB1_95 := hid ((h95.block (w.heap.size + 1) (block_lt HB1_94.out)).trans HB1_94.out)
            have HB2_95 := hid ((h95.block (w.heap.size + 1 + 1) (block_lt HB2_94.out)).trans HB2_94.out)
            clear h95
            refine ⟨⟨HB0_95.out, HB1_95.out, HB2_95.out⟩, ?_⟩
            refine wpAnyH_all (rs := [5, 13]) (fuel := 10) (by kernel_rfl) (by simp) ?_
            intro i hi
            rcases (show i = 5 ∨ i = 13 from by simpa using hi) with rfl | rfl
            · clear hi
              refine plainL rfl ?_
              go_simp
              go_at_call 13
              refine (c_toState a2 _).mono ?_
              rintro e w96 ⟨rfl, h96⟩
              have R_96 := hid (below_trans R_95.out h96 R_95.out.size)
              have HB0_96 := hid ((h96.block (w.heap.size) (block_lt HB0_95.out)).trans HB0_95.out)
              have HB1_96 := hid ((h96.block (w.heap.size + 1) (block_lt HB1_95.out)).trans HB1_95.out)
              have HB2_96 := hid ((h96.block (w.heap.size + 1 + 1) (block_lt HB2_95.out)).trans HB2_95.out)
              clear h96
              refine ⟨⟨HB0_96.out, HB1_96.out, HB2_96.out⟩, ?_⟩
              refine wpAnyH_all (rs := [7, 13]) (fuel := 9) (by kernel_rfl) (by simp) ?_
              intro i hi
              rcases (show i = 7 ∨ i = 13 from by simpa using hi) with rfl | rfl
              · clear hi
                refine plainL rfl ?_
                go_simp
                go_at_call 14
                refine (c_toTickS a3 n3 c3 P3 _ O3.out (XR.out.below R_96.out)).mono ?_
                rintro e w97 ⟨b97, rfl, o97, l97, h97⟩
                have L97R := hid (show w92.heap.size ≤ b97 from Nat.le_trans R_96.out.size l97)
                have Y97_0 := hid (show w.heap.size < b97 from Nat.lt_of_lt_of_le (block_lt HB0_96.out) l97)
                have Y97_1 := hid (show w.heap.size + 1 < b97 from Nat.lt_of_lt_of_le (block_lt HB1_96.out) l97)
                have Y97_2 := hid (show w.heap.size + 1 + 1 < b97 from Nat.lt_of_lt_of_le (block_lt HB2_96.out) l97)
                have R_97 := hid (below_trans R_96.out h97 R_96.out.size)
                have HB0_97 := hid ((h97.block (w.heap.size) (block_lt HB0_96.out)).trans HB0_96.out)
                have HB1_97 := hid ((h97.block (w.heap.size + 1) (block_lt HB1_96.out)).trans HB1_96.out)
                have HB2_97 := hid ((h97.block (w.heap.size + 1 + 1) (block_lt HB2_96.out)).trans HB2_96.out)
                have V_97 := hid o97
                clear o97 l97 h97
                refine ⟨⟨HB0_97.out, HB1_97.out, HB2_97.out⟩, ?_⟩
                refine wpAnyH_all (rs := [8, 13]) (fuel := 8) (by kernel_rfl) (by simp) ?_
                intro i hi
                rcases (show i = 8 ∨ i = 13 from by simpa using hi) with rfl | rfl
                · clear hi
                  refine plainL rfl ?_
                  go_simp
                  go_at_call 18
                  refine (c_implTickAll a0 B0.out a1 B1.out a2 B2.out _ n3 _ P3 _ O3.out (V_97.out.rws HN3.out)).mono ?_
                  rintro e w98 ⟨⟨u, rfl, ur⟩, h98⟩
                  have R_98 := hid (below_trans R_97.out h98 R_97.out.size)
                  have V_98 := hid (V_97.out.below h98)
                  have HB0_98 := hid ((h98.block (w.heap.size) (block_lt HB0_97.out)).trans HB0_97.out)
                  have HB1_98 := hid ((h98.block (w.heap.size + 1) (block_lt HB1_97.out)).trans HB1_97.out)
                  have HB2_98 := hid ((h98.block (w.heap.size + 1 + 1) (block_lt HB2_97.out)).trans HB2_97.out)
                  have GG98 := hid (GotF.owns2 (show GotF w98 w92.heap.size u (taL a0 a1 a2 P3 n3) from own_from ur R_97.out.size) (by have := HL.out; omega))
                  clear ur h98
                  refine ⟨⟨HB0_98.out, HB1_98.out, HB2_98.out⟩, ?_⟩
                  refine takeL (i := 9) (fuel := 7) rfl (by kernel_rfl) (by kernel_rfl) (by kernel_rfl) (fun c a w h => h) (yldMove rfl _ rfl) ⟨HB0_98.out, HB1_98.out, HB2_98.out⟩ ?_
                  try simp only [Act.put, List.setIfInBounds_toArray, List.set_cons_zero, List.set_cons_succ]
                  refine takeL (i := 10) (fuel := 6) rfl (by kernel_rfl) (by kernel_rfl) (by kernel_rfl) (fun c a w h => h) (yldExtract rfl _ 0 rfl _ rfl _ rfl) ⟨HB0_98.out, HB1_98.out, HB2_98.out⟩ ?_
                  try simp only [Act.put, List.setIfInBounds_toArray, List.set_cons_zero, List.set_cons_succ]
                  refine takeL (i := 11) (fuel := 5) rfl (by kernel_rfl) (by kernel_rfl) (by kernel_rfl) (fun c a w h => h) (yldExtract rfl _ 1 rfl _ rfl _ rfl) ⟨HB0_98.out, HB1_98.out, HB2_98.out⟩ ?_
                  try simp only [Act.put, List.setIfInBounds_toArray, List.set_cons_zero, List.set_cons_succ]
                  refine takeL (i := 12) (fuel := 4) rfl (by kernel_rfl) (by kernel_rfl) (by kernel_rfl) (fun c a w h => h) (yldExtract rfl _ 2 rfl _ rfl _ rfl) ⟨HB0_98.out, HB1_98.out, HB2_98.out⟩ ?_
                  try simp only [Act.put, List.setIfInBounds_toArray, List.set_cons_zero, List.set_cons_succ]
                  refine wpAnyH_all (rs := [13]) (fuel := 3) (by kernel_rfl) (by simp) ?_
                  intro i hi
                  obtain rfl : i = 13 := by simpa using hi
                  clear hi
                  refine plainL rfl ?_
                  go_simp
                  have HA99 := hid (heap_alloc_new w98 (.cells zSt 39))
                  have D99 := hid ((Below.refl w98.heap.size w98).alloc (Nat.le_refl _) (.cells zSt 39))
                  have GB0 := hid (show w.heap.size < w98.heap.size from block_lt HB0_98.out)
                  have GB1 := hid (show w.heap.size + 1 < w98.heap.size from block_lt HB1_98.out)
                  have GB2 := hid (show w.heap.size + 1 + 1 < w98.heap.size from block_lt HB2_98.out)
                  have GR := hid (show w92.heap.size ≤ w98.heap.size from R_98.out.size)
                  refine ⟨⟨(D99.out.block _ (block_lt HB0_98.out)).trans HB0_98.out, (D99.out.block _ (block_lt HB1_98.out)).trans HB1_98.out, (D99.out.block _ (block_lt HB2_98.out)).trans HB2_98.out⟩, ?_⟩
                  refine genWorld (p := wpAnyH _ _ _ _ _ _ _ _) (w0 := (w98.alloc (.cells zSt 39))) (fun w99 hw99 => ?_)
                  have h99 : Below w98.heap.size w98 w99 := by rw [hw99]; exact D99.out
                  have HN199 := hid (show w99.heap[w98.heap.size]? = some (.cells zSt 39 (0, 0)) by rw [hw99]; exact HA99.out)
                  clear hw99 HA99 D99
                  have R_99 := hid (below_trans R_98.out h99 R_98.out.size)
                  have V_99 := hid (V_98.out.below h99)
                  have G_99 := hid (GG98.out.below h99)
                  have HB0_99 := hid ((h99.block (w.heap.size) (block_lt HB0_98.out)).trans HB0_98.out)
                  have HB1_99 := hid ((h99.block (w.heap.size + 1) (block_lt HB1_98.out)).trans HB1_98.out)
                  have HB2_99 := hid ((h99.block (w.heap.size + 1 + 1) (block_lt HB2_98.out)).trans HB2_98.out)
                  clear h99
                  refine wpAnyH_all (rs := [14]) (fuel := 2) (by kernel_rfl) (by simp) ?_
                  intro i hi
                  obtain rfl : i = 14 := by simpa using hi
                  clear hi
                  refine plainL rfl ?_
                  refine wp_store_row 39 _ _ rfl (w98.heap.size) (stcells (taS a0 a1 a2 P3 n3)) (by kernel_rfl) (by kernel_rfl) 39 zSt HN199.out HS9.out HFE.out (stcells_one _) ?_
                  refine ⟨⟨(setRow_other w99 (w98.heap.size) (w.heap.size) (stcells (taS a0 a1 a2 P3 n3)) (by have := GB0.out; omega)).trans HB0_99.out, (setRow_other w99 (w98.heap.size) (w.heap.size + 1) (stcells (taS a0 a1 a2 P3 n3)) (by have := GB1.out; omega)).trans HB1_99.out, (setRow_other w99 (w98.heap.size) (w.heap.size + 1 + 1) (stcells (taS a0 a1 a2 P3 n3)) (by have := GB2.out; omega)).trans HB2_99.out⟩, ?_⟩
                  refine genWorld (p := wpAnyH _ _ _ _ _ _ _ _) (w0 := w99.setRow (w98.heap.size) (stcells (taS a0 a1 a2 P3 n3))) (fun w100 hw100 => ?_)
                  have HB0_100 := hid (show w100.heap[w.heap.size]? = some (.cells (ccells a0) 25 (0, 0)) by rw [hw100]; exact (setRow_other w99 (w98.heap.size) (w.heap.size) (stcells (taS a0 a1 a2 P3 n3)) (by have := GB0.out; omega)).trans HB0_99.out)
                  have HB1_100 := hid (show w100.heap[w.heap.size + 1]? = some (.cells (bcells a1) 28 (0, 0)) by rw [hw100]; exact (setRow_other w99 (w98.heap.size) (w.heap.size + 1) (stcells (taS a0 a1 a2 P3 n3)) (by have := GB1.out; omega)).trans HB1_99.out)
                  have HB2_100 := hid (show w100.heap[w.heap.size + 1 + 1]? = some (.cells (stcells a2) 30 (0, 0)) by rw [hw100]; exact (setRow_other w99 (w98.heap.size) (w.heap.size + 1 + 1) (stcells (taS a0 a1 a2 P3 n3)) (by have := GB2.out; omega)).trans HB2_99.out)
                  have R_100 := hid (show Below w92.heap.size w92 w100 by rw [hw100]; exact below_setRow R_99.out GR.out (stcells (taS a0 a1 a2 P3 n3)))
                  have QN := hid (show w100.heap[w98.heap.size]? = some (.cells (stcells (taS a0 a1 a2 P3 n3)) 39 (0, 0)) by rw [hw100]; exact blk_row_same w99 (w98.heap.size) zSt (stcells (taS a0 a1 a2 P3 n3)) _ _ HN199.out)
                  have GN := hid (show GotF w100 w92.heap.size _ (taL a0 a1 a2 P3 n3) by rw [hw100]; exact own_setRow (T := 22) G_99.out.1 HN199.out (by decide))
                  clear hw100
                  refine takeL (i := 15) (fuel := 1) rfl (by kernel_rfl) (by kernel_rfl) (by kernel_rfl) (fun c a w h => h) (yldAssign rfl _ rfl) ⟨HB0_100.out, HB1_100.out, HB2_100.out⟩ ?_
                  try simp only [Act.put, List.setIfInBounds_toArray, List.set_cons_zero, List.set_cons_succ]
                  refine takeL (i := 16) (fuel := 0) rfl (by kernel_rfl) (by kernel_rfl) (by kernel_rfl) (fun c a w h => h) (yldAssign rfl _ rfl) ⟨HB0_100.out, HB1_100.out, HB2_100.out⟩ ?_
                  try simp only [Act.put, List.setIfInBounds_toArray, List.set_cons_zero, List.set_cons_succ]
                  refine wpAnyH_done (by kernel_rfl) ?_ 0
                  simp only [Exit.then]
                  go_wp2_with fail
                  go_meet
                  exact ⟨_, _, rfl, rfl, rfl, GR.out, QN.out, GN.out, R_100.out⟩
                · clear hi
                  refine plainL rfl ?_
                  go_simp
                  have HA98 := hid (heap_alloc_new w97 (.cells zSt 39))
                  have D98 := hid ((Below.refl w97.heap.size w97).alloc (Nat.le_refl _) (.cells zSt 39))
                  have GB0 := hid (show w.heap.size < w97.heap.size from block_lt HB0_97.out)
                  have GB1 := hid (show w.heap.size + 1 < w97.heap.size from block_lt HB1_97.out)
                  have GB2 := hid (show w.heap.size + 1 + 1 < w97.heap.size from block_lt HB2_97.out)
                  have GR := hid (show w92.heap.size ≤ w97.heap.size from R_97.out.size)
                  refine ⟨⟨(D98.out.block _ (block_lt HB0_97.out)).trans HB0_97.out, (D98.out.block _ (block_lt HB1_97.out)).trans HB1_97.out, (D98.out.block _ (block_lt HB2_97.out)).trans HB2_97.out⟩, ?_⟩
                  refine genWorld (p := wpAnyH _ _ _ _ _ _ _ _) (w0 := (w97.alloc (.cells zSt 39))) (fun w98 hw98 => ?_)
                  have h98 : Below w97.heap.size w97 w98 := by rw [hw98]; exact D98.out
                  have HN198 := hid (show w98.heap[w97.heap.size]? = some (.cells zSt 39 (0, 0)) by rw [hw98]; exact HA98.out)
                  clear hw98 HA98 D98
                  have R_98 := hid (below_trans R_97.out h98 R_97.out.size)
                  have V_98 := hid (V_97.out.below h98)
                  have HB0_98 := hid ((h98.block (w.heap.size) (block_lt HB0_97.out)).trans HB0_97.out)
                  have HB1_98 := hid ((h98.block (w.heap.size + 1) (block_lt HB1_97.out)).trans HB1_97.out)
                  have HB2_98 := hid ((h98.block (w.heap.size + 1 + 1) (block_lt HB2_97.out)).trans HB2_97.out)
                  clear h98
                  refine wpAnyH_all (rs := [8]) (fuel := 7) (by kernel_rfl) (by simp) ?_
                  intro i hi
                  obtain rfl : i = 8 := by simpa using hi
                  clear hi
                  refine plainL rfl ?_
                  go_simp
                  go_at_call 18
                  refine (c_implTickAll a0 B0.out a1 B1.out a2 B2.out _ n3 _ P3 _ O3.out (V_98.out.rws HN3.out)).mono ?_
                  rintro e w99 ⟨⟨u, rfl, ur⟩, h99⟩
                  have R_99 := hid (below_trans R_98.out h99 R_98.out.size)
                  have V_99 := hid (V_98.out.below h99)
                  have HB0_99 := hid ((h99.block (w.heap.size) (block_lt HB0_98.out)).trans HB0_98.out)
                  have HB1_99 := hid ((h99.block (w.heap.size + 1) (block_lt HB1_98.out)).trans HB1_98.out)
                  have HB2_99 := hid ((h99.block (w.heap.size + 1 + 1) (block_lt HB2_98.out)).trans HB2_98.out)
                  have HB7_99 := hid ((h99.block (w97.heap.size) (block_lt HN198.out)).trans HN198.out)
                  have GG99 := hid (GotF.owns2 (show GotF w99 w92.heap.size u (taL a0 a1 a2 P3 n3) from own_from ur R_98.out.size) (by have := HL.out; omega))
                  clear ur h99
                  refine ⟨⟨HB0_99.out, HB1_99.out, HB2_99.out⟩, ?_⟩
                  refine takeL (i := 9) (fuel := 6) rfl (by kernel_rfl) (by kernel_rfl) (by kernel_rfl) (fun c a w h => h) (yldMove rfl _ rfl) ⟨HB0_99.out, HB1_99.out, HB2_99.out⟩ ?_
                  try simp only [Act.put, List.setIfInBounds_toArray, List.set_cons_zero, List.set_cons_succ]
                  refine takeL (i := 10) (fuel := 5) rfl (by kernel_rfl) (by kernel_rfl) (by kernel_rfl) (fun c a w h => h) (yldExtract rfl _ 0 rfl _ rfl _ rfl) ⟨HB0_99.out, HB1_99.out, HB2_99.out⟩ ?_
                  try simp only [Act.put, List.setIfInBounds_toArray, List.set_cons_zero, List.set_cons_succ]
                  refine takeL (i := 11) (fuel := 4) rfl (by kernel_rfl) (by kernel_rfl) (by kernel_rfl) (fun c a w h => h) (yldExtract rfl _ 1 rfl _ rfl _ rfl) ⟨HB0_99.out, HB1_99.out, HB2_99.out⟩ ?_
                  try simp only [Act.put, List.setIfInBounds_toArray, List.set_cons_zero, List.set_cons_succ]
                  refine takeL (i := 12) (fuel := 3) rfl (by kernel_rfl) (by kernel_rfl) (by kernel_rfl) (fun c a w h => h) (yldExtract rfl _ 2 rfl _ rfl _ rfl) ⟨HB0_99.out, HB1_99.out, HB2_99.out⟩ ?_
                  try simp only [Act.put, List.setIfInBounds_toArray, List.set_cons_zero, List.set_cons_succ]
                  refine wpAnyH_all (rs := [14]) (fuel := 2) (by kernel_rfl) (by simp) ?_
                  intro i hi
                  obtain rfl : i = 14 := by simpa using hi
                  clear hi
                  refine plainL rfl ?_
                  refine wp_store_row 39 _ _ rfl (w97.heap.size) (stcells (taS a0 a1 a2 P3 n3)) (by kernel_rfl) (by kernel_rfl) 39 zSt HB7_99.out HS9.out HFE.out (stcells_one _) ?_
                  refine ⟨⟨(setRow_other w99 (w97.heap.size) (w.heap.size) (stcells (taS a0 a1 a2 P3 n3)) (by have := GB0.out; omega)).trans HB0_99.out, (setRow_other w99 (w97.heap.size) (w.heap.size + 1) (stcells (taS a0 a1 a2 P3 n3)) (by have := GB1.out; omega)).trans HB1_99.out, (setRow_other w99 (w97.heap.size) (w.heap.size + 1 + 1) (stcells (taS a0 a1 a2 P3 n3)) (by have := GB2.out; omega)).trans HB2_99.out⟩, ?_⟩
                  refine genWorld (p := wpAnyH _ _ _ _ _ _ _ _) (w0 := w99.setRow (w97.heap.size) (stcells (taS a0 a1 a2 P3 n3))) (fun w100 hw100 => ?_)
                  have HB0_100 := hid (show w100.heap[w.heap.size]? = some (.cells (ccells a0) 25 (0, 0)) by rw [hw100]; exact (setRow_other w99 (w97.heap.size) (w.heap.size) (stcells (taS a0 a1 a2 P3 n3)) (by have := GB0.out; omega)).trans HB0_99.out)
                  have HB1_100 := hid (show w100.heap[w.heap.size + 1]? = some (.cells (bcells a1) 28 (0, 0)) by rw [hw100]; exact (setRow_other w99 (w97.heap.size) (w.heap.size + 1) (stcells (taS a0 a1 a2 P3 n3)) (by have := GB1.out; omega)).trans HB1_99.out)
                  have HB2_100 := hid (show w100.heap[w.heap.size + 1 + 1]? = some (.cells (stcells a2) 30 (0, 0)) by rw [hw100]; exact (setRow_other w99 (w97.heap.size) (w.heap.size + 1 + 1) (stcells (taS a0 a1 a2 P3 n3)) (by have := GB2.out; omega)).trans HB2_99.out)
                  have R_100 := hid (show Below w92.heap.size w92 w100 by rw [hw100]; exact below_setRow R_99.out GR.out (stcells (taS a0 a1 a2 P3 n3)))
                  have QN := hid (show w100.heap[w97.heap.size]? = some (.cells (stcells (taS a0 a1 a2 P3 n3)) 39 (0, 0)) by rw [hw100]; exact blk_row_same w99 (w97.heap.size) zSt (stcells (taS a0 a1 a2 P3 n3)) _ _ HB7_99.out)
                  have GN := hid (show GotF w100 w92.heap.size _ (taL a0 a1 a2 P3 n3) by rw [hw100]; exact own_setRow (T := 22) GG99.out.1 HB7_99.out (by decide))
                  clear hw100
                  refine takeL (i := 15) (fuel := 1) rfl (by kernel_rfl) (by kernel_rfl) (by kernel_rfl) (fun c a w h => h) (yldAssign rfl _ rfl) ⟨HB0_100.out, HB1_100.out, HB2_100.out⟩ ?_
                  try simp only [Act.put, List.setIfInBounds_toArray, List.set_cons_zero, List.set_cons_succ]
                  refine takeL (i := 16) (fuel := 0) rfl (by kernel_rfl) (by kernel_rfl) (by kernel_rfl) (fun c a w h => h) (yldAssign rfl _ rfl) ⟨HB0_100.out, HB1_100.out, HB2_100.out⟩ ?_
                  try simp only [Act.put, List.setIfInBounds_toArray, List.set_cons_zero, List.set_cons_succ]
                  refine wpAnyH_done (by kernel_rfl) ?_ 0
                  simp only [Exit.then]
                  go_wp2_with fail
                  go_meet
                  exact ⟨_, _, rfl, rfl, rfl, GR.out, QN.out, GN.out, R_100.out⟩
              · clear hi
                refine plainL rfl ?_
                go_simp
                have HA97 := hid (heap_alloc_new w96 (.cells zSt 39))
                have D97 := hid ((Below.refl w96.heap.size w96).alloc (Nat.le_refl _) (.cells zSt 39))
                have GB0 := hid (show w.heap.size < w96.heap.size from block_lt HB0_96.out)
                have GB1 := hid (show w.heap.size + 1 < w96.heap.size from block_lt HB1_96.out)
                have GB2 := hid (show w.heap.size + 1 + 1 < w96.heap.size from block_lt HB2_96.out)
                have GR := hid (show w92.heap.size ≤ w96.heap.size from R_96.out.size)
                refine ⟨⟨(D97.out.block _ (block_lt HB0_96.out)).trans HB0_96.out, (D97.out.block _ (block_lt HB1_96.out)).trans HB1_96.out, (D97.out.block _ (block_lt HB2_96.out)).trans HB2_96.out⟩, ?_⟩
                refine genWorld (p := wpAnyH _ _ _ _ _ _ _ _) (w0 := (w96.alloc (.cells zSt 39))) (fun w97 hw97 => ?_)
                have h97 : Below w96.heap.size w96 w97 := by rw [hw97]; exact D97.out
                have HN197 := hid (show w97.heap[w96.heap.size]? = some (.cells zSt 39 (0, 0)) by rw [hw97]; exact HA97.out)
                clear hw97 HA97 D97
                have R_97 := hid (below_trans R_96.out h97 R_96.out.size)
                have HB0_97 := hid ((h97.block (w.heap.size) (block_lt HB0_96.out)).trans HB0_96.out)
                have HB1_97 := hid ((h97.block (w.heap.size + 1) (block_lt HB1_96.out)).trans HB1_96.out)
                have HB2_97 := hid ((h97.block (w.heap.size + 1 + 1) (block_lt HB2_96.out)).trans HB2_96.out)
                clear h97
                refine wpAnyH_all (rs := [7]) (fuel := 8) (by kernel_rfl) (by simp) ?_
                intro i hi
                obtain rfl : i = 7 := by simpa using hi
                clear hi
                refine plainL rfl ?_
                go_simp
                go_at_call 14
                refine (c_toTickS a3 n3 c3 P3 _ O3.out (XR.out.below R_97.out)).mono ?_
                rintro e w98 ⟨b98, rfl, o98, l98, h98⟩
                have L98R := hid (show w92.heap.size ≤ b98 from Nat.le_trans R_97.out.size l98)
                have Y98_0 := hid (show w.heap.size < b98 from Nat.lt_of_lt_of_le (block_lt HB0_97.out) l98)
                have Y98_1 := hid (show w.heap.size + 1 < b98 from Nat.lt_of_lt_of_le (block_lt HB1_97.out) l98)
                have Y98_2 := hid (show w.heap.size + 1 + 1 < b98 from Nat.lt_of_lt_of_le (block_lt HB2_97.out) l98)
                have Y98_7 := hid (show w96.heap.size < b98 from Nat.lt_of_lt_of_le (block_lt HN197.out) l98)
                have R_98 := hid (below_trans R_97.out h98 R_97.out.size)
                have HB0_98 := hid ((h98.block (w.heap.size) (block_lt HB0_97.out)).trans HB0_97.out)
                have HB1_98 := hid ((h98.block (w.heap.size + 1) (block_lt HB1_97.out)).trans HB1_97.out)
                have HB2_98 := hid ((h98.block (w.heap.size + 1 + 1) (block_lt HB2_97.out)).trans HB2_97.out)
                have HB7_98 := hid ((h98.block (w96.heap.size) (block_lt HN197.out)).trans HN197.out)
                have V_98 := hid o98
                clear o98 l98 h98
                refine ⟨⟨HB0_98.out, HB1_98.out, HB2_98.out⟩, ?_⟩
                refine wpAnyH_all (rs := [8]) (fuel := 7) (by kernel_rfl) (by simp) ?_
                intro i hi
                obtain rfl : i = 8 := by simpa using hi
                clear hi
                refine plainL rfl ?_
                go_simp
                go_at_call 18
                refine (c_implTickAll a0 B0.out a1 B1.out a2 B2.out _ n3 _ P3 _ O3.out (V_98.out.rws HN3.out)).mono ?_
                rintro e w99 ⟨⟨u, rfl, ur⟩, h99⟩
                have R_99 := hid (below_trans R_98.out h99 R_98.out.size)
                have V_99 := hid (V_98.out.below h99)
                have HB0_99 := hid ((h99.block (w.heap.size) (block_lt HB0_98.out)).trans HB0_98.out)
                have HB1_99 := hid ((h99.block (w.heap.size + 1) (block_lt HB1_98.out)).trans HB1_98.out)
                have HB2_99 := hid ((h99.block (w.heap.size + 1 + 1) (block_lt HB2_98.out)).trans HB2_98.out)
                have HB7_99 := hid ((h99.block (w96.heap.size) (block_lt HB7_98.out)).trans HB7_98.out)
                have GG99 := hid (GotF.owns2 (show GotF w99 w92.heap.size u (taL a0 a1 a2 P3 n3) from own_from ur R_98.out.size) (by have := HL.out; omega))
                clear ur h99
                refine ⟨⟨HB0_99.out, HB1_99.out, HB2_99.out⟩, ?_⟩
                refine takeL (i := 9) (fuel := 6) rfl (by kernel_rfl) (by kernel_rfl) (by kernel_rfl) (fun c a w h => h) (yldMove rfl _ rfl) ⟨HB0_99.out, HB1_99.out, HB2_99.out⟩ ?_
                try simp only [Act.put, List.setIfInBounds_toArray, List.set_cons_zero, List.set_cons_succ]
                refine takeL (i := 10) (fuel := 5) rfl (by kernel_rfl) (by kernel_rfl) (by kernel_rfl) (fun c a w h => h) (yldExtract rfl _ 0 rfl _ rfl _ rfl) ⟨HB0_99.out, HB1_99.out, HB2_99.out⟩ ?_
                try simp only [Act.put, List.setIfInBounds_toArray, List.set_cons_zero, List.set_cons_succ]
                refine takeL (i := 11) (fuel := 4) rfl (by kernel_rfl) (by kernel_rfl) (by kernel_rfl) (fun c a w h => h) (yldExtract rfl _ 1 rfl _ rfl _ rfl) ⟨HB0_99.out, HB1_99.out, HB2_99.out⟩ ?_
                try simp only [Act.put, List.setIfInBounds_toArray, List.set_cons_zero, List.set_cons_succ]
                refine takeL (i := 12) (fuel := 3) rfl (by kernel_rfl) (by kernel_rfl) (by kernel_rfl) (fun c a w h => h) (yldExtract rfl _ 2 rfl _ rfl _ rfl) ⟨HB0_99.out, HB1_99.out, HB2_99.out⟩ ?_
                try simp only [Act.put, List.setIfInBounds_toArray, List.set_cons_zero, List.set_cons_succ]
                refine wpAnyH_all (rs := [14]) (fuel := 2) (by kernel_rfl) (by simp) ?_
                intro i hi
                obtain rfl : i = 14 := by simpa using hi
                clear hi
                refine plainL rfl ?_
                refine wp_store_row 39 _ _ rfl (w96.heap.size) (stcells (taS a0 a1 a2 P3 n3)) (by kernel_rfl) (by kernel_rfl) 39 zSt HB7_99.out HS9.out HFE.out (stcells_one _) ?_
                refine ⟨⟨(setRow_other w99 (w96.heap.size) (w.heap.size) (stcells (taS a0 a1 a2 P3 n3)) (by have := GB0.out; omega)).trans HB0_99.out, (setRow_other w99 (w96.heap.size) (w.heap.size + 1) (stcells (taS a0 a1 a2 P3 n3)) (by have := GB1.out; omega)).trans HB1_99.out, (setRow_other w99 (w96.heap.size) (w.heap.size + 1 + 1) (stcells (taS a0 a1 a2 P3 n3)) (by have := GB2.out; omega)).trans HB2_99.out⟩, ?_⟩
                refine genWorld (p := wpAnyH _ _ _ _ _ _ _ _) (w0 := w99.setRow (w96.heap.size) (stcells (taS a0 a1 a2 P3 n3))) (fun w100 hw100 => ?_)
                have HB0_100 := hid (show w100.heap[w.heap.size]? = some (.cells (ccells a0) 25 (0, 0)) by rw [hw100]; exact (setRow_other w99 (w96.heap.size) (w.heap.size) (stcells (taS a0 a1 a2 P3 n3)) (by have := GB0.out; omega)).trans HB0_99.out)
                have HB1_100 := hid (show w100.heap[w.heap.size + 1]? = some (.cells (bcells a1) 28 (0, 0)) by rw [hw100]; exact (setRow_other w99 (w96.heap.size) (w.heap.size + 1) (stcells (taS a0 a1 a2 P3 n3)) (by have := GB1.out; omega)).trans HB1_99.out)
                have HB2_100 := hid (show w100.heap[w.heap.size + 1 + 1]? = some (.cells (stcells a2) 30 (0, 0)) by rw [hw100]; exact (setRow_other w99 (w96.heap.size) (w.heap.size + 1 + 1) (stcells (taS a0 a1 a2 P3 n3)) (by have := GB2.out; omega)).trans HB2_99.out)
                have R_100 := hid (show Below w92.heap.size w92 w100 by rw [hw100]; exact below_setRow R_99.out GR.out (stcells (taS a0 a1 a2 P3 n3)))
                have QN := hid (show w100.heap[w96.heap.size]? = some (.cells (stcells (taS a0 a1 a2 P3 n3)) 39 (0, 0)) by rw [hw100]; exact blk_row_same w99 (w96.heap.size) zSt (stcells (taS a0 a1 a2 P3 n3)) _ _ HB7_99.out)
                have GN := hid (show GotF w100 w92.heap.size _ (taL a0 a1 a2 P3 n3) by rw [hw100]; exact own_setRow (T := 22) GG99.out.1 HB7_99.out (by decide))
                clear hw100
                refine takeL (i := 15) (fuel := 1) rfl (by kernel_rfl) (by kernel_rfl) (by kernel_rfl) (fun c a w h => h) (yldAssign rfl _ rfl) ⟨HB0_100.out, HB1_100.out, HB2_100.out⟩ ?_
                try simp only [Act.put, List.setIfInBounds_toArray, List.set_cons_zero, List.set_cons_succ]
                refine takeL (i := 16) (fuel := 0) rfl (by kernel_rfl) (by kernel_rfl) (by kernel_rfl) (fun c a w h => h) (yldAssign rfl _ rfl) ⟨HB0_100.out, HB1_100.out, HB2_100.out⟩ ?_
                try simp only [Act.put, List.setIfInBounds_toArray, List.set_cons_zero, List.set_cons_succ]
                refine wpAnyH_done (by kernel_rfl) ?_ 0
                simp only [Exit.then]
                go_wp2_with fail
                go_meet
                exact ⟨_, _, rfl, rfl, rfl, GR.out, QN.out, GN.out, R_100.out⟩
            · clear hi
              refine plainL rfl ?_
              go_simp
              have HA96 := hid (heap_alloc_new w95 (.cells zSt 39))
              have D96 := hid ((Below.refl w95.heap.size w95).alloc (Nat.le_refl _) (.cells zSt 39))
              have GB0 := hid (show w.heap.size < w95.heap.size from block_lt HB0_95.out)
              have GB1 := hid (show w.heap.size + 1 < w95.heap.size from block_lt HB1_95.out)
              have GB2 := hid (show w.heap.size + 1 + 1 < w95.heap.size from block_lt HB2_95.out)
              have GR := hid (show w92.heap.size ≤ w95.heap.size from R_95.out.size)
              refine ⟨⟨(D96.out.block _ (block_lt HB0_95.out)).trans HB0_95.out, (D96.out.block _ (block_lt HB1_95.out)).trans HB1_95.out, (D96.out.block _ (block_lt HB2_95.out)).trans HB2_95.out⟩, ?_⟩
              refine genWorld (p := wpAnyH _ _ _ _ _ _ _ _) (w0 := (w95.alloc (.cells zSt 39))) (fun w96 hw96 => ?_)
              have h96 : Below w95.heap.size w95 w96 := by rw [hw96]; exact D96.out
              have HN196 := hid (show w96.heap[w95.heap.size]? = some (.cells zSt 39 (0, 0)) by rw [hw96]; exact HA96.out)
              clear hw96 HA96 D96
              have R_96 := hid (below_trans R_95.out h96 R_95.out.size)
              have HB0_96 := hid ((h96.block (w.heap.size) (block_lt HB0_95.out)).trans HB0_95.out)
              have HB1_96 := hid ((h96.block (w.heap.size + 1) (block_lt HB1_95.out)).trans HB1_95.out)
              have HB2_96 := hid ((h96.block (w.heap.size + 1 + 1) (block_lt HB2_95.out)).trans HB2_95.out)
              clear h96
              refine wpAnyH_all (rs := [5]) (fuel := 9) (by kernel_rfl) (by simp) ?_
              intro i hi
              obtain rfl : i = 5 := by simpa using hi
              clear hi
              refine plainL rfl ?_
              go_simp
              go_at_call 13
              refine (c_toState a2 _).mono ?_
              rintro e w97 ⟨rfl, h97⟩
              have R_97 := hid (below_trans R_96.out h97 R_96.out.size)
              have HB0_97 := hid ((h97.block (w.heap.size) (block_lt HB0_96.out)).trans HB0_96.out)
              have HB1_97 := hid ((h97.block (w.heap.size + 1) (block_lt HB1_96.out)).trans HB1_96.out)
              have HB2_97 := hid ((h97.block (w.heap.size + 1 + 1) (block_lt HB2_96.out)).trans HB2_96.out)
              have HB7_97 := hid ((h97.block (w95.heap.size) (block_lt HN196.out)).trans HN196.out)
              clear h97
              refine ⟨⟨HB0_97.out, HB1_97.out, HB2_97.out⟩, ?_⟩
              refine wpAnyH_all (rs := [7]) (fuel := 8) (by kernel_rfl) (by simp) ?_
              intro i hi
              obtain rfl : i = 7 := by simpa using hi
              clear hi
              refine plainL rfl ?_
              go_simp
              go_at_call 14
              refine (c_toTickS a3 n3 c3 P3 _ O3.out (XR.out.below R_97.out)).mono ?_
              rintro e w98 ⟨b98, rfl, o98, l98, h98⟩
              have L98R := hid (show w92.heap.size ≤ b98 from Nat.le_trans R_97.out.size l98)
              have Y98_0 := hid (show w.heap.size < b98 from Nat.lt_of_lt_of_le (block_lt HB0_97.out) l98)
              have Y98_1 := hid (show w.heap.size + 1 < b98 from Nat.lt_of_lt_of_le (block_lt HB1_97.out) l98)
              have Y98_2 := hid (show w.heap.size + 1 + 1 < b98 from Nat.lt_of_lt_of_le (block_lt HB2_97.out) l98)
              have Y98_7 := hid (show w95.heap.size < b98 from Nat.lt_of_lt_of_le (block_lt HB7_97.out) l98)
              have R_98 := hid (below_trans R_97.out h98 R_97.out.size)
              have HB0_98 := hid ((h98.block (w.heap.size) (block_lt HB0_97.out)).trans HB0_97.out)
              have HB1_98 := hid ((h98.block (w.heap.size + 1) (block_lt HB1_97.out)).trans HB1_97.out)
              have HB2_98 := hid ((h98.block (w.heap.size + 1 + 1) (block_lt HB2_97.out)).trans HB2_97.out)
              have HB7_98 := hid ((h98.block (w95.heap.size) (block_lt HB7_97.out)).trans HB7_97.out)
              have V_98 := hid o98
              clear o98 l98 h98
              refine ⟨⟨HB0_98.out, HB1_98.out, HB2_98.out⟩, ?_⟩
              refine wpAnyH_all (rs := [8]) (fuel := 7) (by kernel_rfl) (by simp) ?_
              intro i hi
              obtain rfl : i = 8 := by simpa using hi
              clear hi
              refine plainL rfl ?_
              go_simp
              go_at_call 18
              refine (c_implTickAll a0 B0.out a1 B1.out a2 B2.out _ n3 _ P3 _ O3.out (V_98.out.rws HN3.out)).mono ?_
              rintro e w99 ⟨⟨u, rfl, ur⟩, h99⟩
              have R_99 := hid (below_trans R_98.out h99 R_98.out.size)
              have V_99 := hid (V_98.out.below h99)
              have HB0_99 := hid ((h99.block (w.heap.size) (block_lt HB0_98.out)).trans HB0_98.out)
              have HB1_99 := hid ((h99.block (w.heap.size + 1) (block_lt HB1_98.out)).trans HB1_98.out)
              have HB2_99 := hid ((h99.block (w.heap.size + 1 + 1) (block_lt HB2_98.out)).trans HB2_98.out)
              have HB7_99 := hid ((h99.block (w95.heap.size) (block_lt HB7_98.out)).trans HB7_98.out)
              have GG99 := hid (GotF.owns2 (show GotF w99 w92.heap.size u (taL a0 a1 a2 P3 n3) from own_from ur R_98.out.size) (by have := HL.out; omega))
              clear ur h99
              refine ⟨⟨HB0_99.out, HB1_99.out, HB2_99.out⟩, ?_⟩
              refine takeL (i := 9) (fuel := 6) rfl (by kernel_rfl) (by kernel_rfl) (by kernel_rfl) (fun c a w h => h) (yldMove rfl _ rfl) ⟨HB0_99.out, HB1_99.out, HB2_99.out⟩ ?_
              try simp only [Act.put, List.setIfInBounds_toArray, List.set_cons_zero, List.set_cons_succ]
              refine takeL (i := 10) (fuel := 5) rfl (by kernel_rfl) (by kernel_rfl) (by kernel_rfl) (fun c a w h => h) (yldExtract rfl _ 0 rfl _ rfl _ rfl) ⟨HB0_99.out, HB1_99.out, HB2_99.out⟩ ?_
              try simp only [Act.put, List.setIfInBounds_toArray, List.set_cons_zero, List.set_cons_succ]
              refine takeL (i := 11) (fuel := 4) rfl (by kernel_rfl) (by kernel_rfl) (by kernel_rfl) (fun c a w h => h) (yldExtract rfl _ 1 rfl _ rfl _ rfl) ⟨HB0_99.out, HB1_99.out, HB2_99.out⟩ ?_
              try simp only [Act.put, List.setIfInBounds_toArray, List.set_cons_zero, List.set_cons_succ]
              refine takeL (i := 12) (fuel := 3) rfl (by kernel_rfl) (by kernel_rfl) (by kernel_rfl) (fun c a w h => h) (yldExtract rfl _ 2 rfl _ rfl _ rfl) ⟨HB0_99.out, HB1_99.out, HB2_99.out⟩ ?_
              try simp only [Act.put, List.setIfInBounds_toArray, List.set_cons_zero, List.set_cons_succ]
              refine wpAnyH_all (rs := [14]) (fuel := 2) (by kernel_rfl) (by simp) ?_
              intro i hi
              obtain rfl : i = 14 := by simpa using hi
              clear hi
              refine plainL rfl ?_
              refine wp_store_row 39 _ _ rfl (w95.heap.size) (stcells (taS a0 a1 a2 P3 n3)) (by kernel_rfl) (by kernel_rfl) 39 zSt HB7_99.out HS9.out HFE.out (stcells_one _) ?_
              refine ⟨⟨(setRow_other w99 (w95.heap.size) (w.heap.size) (stcells (taS a0 a1 a2 P3 n3)) (by have := GB0.out; omega)).trans HB0_99.out, (setRow_other w99 (w95.heap.size) (w.heap.size + 1) (stcells (taS a0 a1 a2 P3 n3)) (by have := GB1.out; omega)).trans HB1_99.out, (setRow_other w99 (w95.heap.size) (w.heap.size + 1 + 1) (stcells (taS a0 a1 a2 P3 n3)) (by have := GB2.out; omega)).trans HB2_99.out⟩, ?_⟩
              refine genWorld (p := wpAnyH _ _ _ _ _ _ _ _) (w0 := w99.setRow (w95.heap.size) (stcells (taS a0 a1 a2 P3 n3))) (fun w100 hw100 => ?_)
              have HB0_100 := hid (show w100.heap[w.heap.size]? = some (.cells (ccells a0) 25 (0, 0)) by rw [hw100]; exact (setRow_other w99 (w95.heap.size) (w.heap.size) (stcells (taS a0 a1 a2 P3 n3)) (by have := GB0.out; omega)).trans HB0_99.out)
              have HB1_100 := hid (show w100.heap[w.heap.size + 1]? = some (.cells (bcells a1) 28 (0, 0)) by rw [hw100]; exact (setRow_other w99 (w95.heap.size) (w.heap.size + 1) (stcells (taS a0 a1 a2 P3 n3)) (by have := GB1.out; omega)).trans HB1_99.out)
              have HB2_100 := hid (show w100.heap[w.heap.size + 1 + 1]? = some (.cells (stcells a2) 30 (0, 0)) by rw [hw100]; exact (setRow_other w99 (w95.heap.size) (w.heap.size + 1 + 1) (stcells (taS a0 a1 a2 P3 n3)) (by have := GB2.out; omega)).trans HB2_99.out)
              have R_100 := hid (show Below w92.heap.size w92 w100 by rw [hw100]; exact below_setRow R_99.out GR.out (stcells (taS a0 a1 a2 P3 n3)))
              have QN := hid (show w100.heap[w95.heap.size]? = some (.cells (stcells (taS a0 a1 a2 P3 n3)) 39 (0, 0)) by rw [hw100]; exact blk_row_same w99 (w95.heap.size) zSt (stcells (taS a0 a1 a2 P3 n3)) _ _ HB7_99.out)
              have GN := hid (show GotF w100 w92.heap.size _ (taL a0 a1 a2 P3 n3) by rw [hw100]; exact own_setRow (T := 22) GG99.out.1 HB7_99.out (by decide))
              clear hw100
              refine takeL (i := 15) (fuel := 1) rfl (by kernel_rfl) (by kernel_rfl) (by kernel_rfl) (fun c a w h => h) (yldAssign rfl _ rfl) ⟨HB0_100.out, HB1_100.out, HB2_100.out⟩ ?_
              try simp only [Act.put, List.setIfInBounds_toArray, List.set_cons_zero, List.set_cons_succ]
              refine takeL (i := 16) (fuel := 0) rfl (by kernel_rfl) (by kernel_rfl) (by kernel_rfl) (fun c a w h => h) (yldAssign rfl _ rfl) ⟨HB0_100.out, HB1_100.out, HB2_100.out⟩ ?_
              try simp only [Act.put, List.setIfInBounds_toArray, List.set_cons_zero, List.set_cons_succ]
              refine wpAnyH_done (by kernel_rfl) ?_ 0
              simp only [Exit.then]
              go_wp2_with fail
              go_meet
              exact ⟨_, _, rfl, rfl, rfl, GR.out, QN.out, GN.out, R_100.out⟩
          · clear hi
            refine plainL rfl ?_
            go_simp
            have HA95 := hid (heap_alloc_new w94 (.cells zSt 39))
            have D95 := hid ((Below.refl w94.heap.size w94).alloc (Nat.le_refl _) (.cells zSt 39))
            have GB0 := hid (show w.heap.size < w94.heap.size from block_lt HB0_94.out)
            have GB1 := hid (show w.heap.size + 1 < w94.heap.size from block_lt HB1_94.out)
            have GB2 := hid (show w.heap.size + 1 + 1 < w94.heap.size from block_lt HB2_94.out)
            have GR := hid (show w92.heap.size ≤ w94.heap.size from R_94.out.size)
            refine ⟨⟨(D95.out.block _ (block_lt HB0_94.out)).trans HB0_94.out, (D95.out.block _ (block_lt HB1_94.out)).trans HB1_94.out, (D95.out.block _ (block_lt HB2_94.out)).trans HB2_94.out⟩, ?_⟩
            refine genWorld (p := wpAnyH _ _ _ _ _ _ _ _) (w0 := (w94.alloc (.cells zSt 39))) (fun w95 hw95 => ?_)
            have h95 : Below w94.heap.size w94 w95 := by rw [hw95]; exact D95.out
            have HN195 := hid (show w95.heap[w94.heap.size]? = some (.cells zSt 39 (0, 0)) by rw [hw95]; exact HA95.out)
            clear hw95 HA95 D95
            have R_95 := hid (below_trans R_94.out h95 R_94.out.size)
            have HB0_95 := hid ((h95.block (w.heap.size) (block_lt HB0_94.out)).trans HB0_94.out)
            have HB1_95 := hid ((h95.block (w.heap.size + 1) (block_lt HB1_94.out)).trans HB1_94.out)
            have HB2_95 := hid ((h95.block (w.heap.size + 1 + 1) (block_lt HB2_94.out)).trans HB2_94.out)
            clear h95
            refine wpAnyH_all (rs := [3]) (fuel := 10) (by kernel_rfl) (by simp) ?_
            intro i hi
            obtain rfl : i = 3 := by simpa using hi
            clear hi
            refine plainL rfl ?_
            go_simp
            go_at_call 12
            refine (c_toBlind a1 _).mono ?_
            rintro e w96 ⟨rfl, h96⟩
            have R_96 := hid (below_trans R_95.out h96 R_95.out.size)
            have HB0_96 := hid ((h96.block (w.heap.size) (block_lt HB0_95.out)).trans HB0_95.out)
            have HB1_96 := hid ((h96.block (w.heap.size + 1) (block_lt HB1_95.out)).trans HB1_95.out)
            have HB2_96 := hid ((h96.block (w.heap.size + 1 + 1) (block_lt HB2_95.out)).trans HB2_95.out)
            have HB7_96 := hid ((h96.block (w94.heap.size) (block_lt HN195.out)).trans HN195.out)
            clear h96
            refine ⟨⟨HB0_96.out, HB1_96.out, HB2_96.out⟩, ?_⟩
            refine wpAnyH_all (rs := [5]) (fuel := 9) (by kernel_rfl) (by simp) ?_
            intro i hi
            obtain rfl : i = 5 := by simpa using hi
            clear hi
            refine plainL rfl ?_
            go_simp
            go_at_call 13
            refine (c_toState a2 _).mono ?_
            rintro e w97 ⟨rfl, h97⟩
            have R_97 := hid (below_trans R_96.out h97 R_96.out.size)
            have HB0_97 := hid ((h97.block (w.heap.size) (block_lt HB0_96.out)).trans HB0_96.out)
            have HB1_97 := hid ((h97.block (w.heap.size + 1) (block_lt HB1_96.out)).trans HB1_96.out)
            have HB2_97 := hid ((h97.block (w.heap.size + 1 + 1) (block_lt HB2_96.out)).trans HB2_96.out)
            have HB7_97 := hid ((h97.block (w94.heap.size) (block_lt HB7_96.out)).trans HB7_96.out)
            clear h97
            refine ⟨⟨HB0_97.out, HB1_97.out, HB2_97.out⟩, ?_⟩
            refine wpAnyH_all (rs := [7]) (fuel := 8) (by kernel_rfl) (by simp) ?_
            intro i hi
            obtain rfl : i = 7 := by simpa using hi
            clear hi
            refine plainL rfl ?_
            go_simp
            go_at_call 14
            refine (c_toTickS a3 n3 c3 P3 _ O3.out (XR.out.below R_97.out)).mono ?_
            rintro e w98 ⟨b98, rfl, o98, l98, h98⟩
            have L98R := hid (show w92.heap.size ≤ b98 from Nat.le_trans R_97.out.size l98)
            have Y98_0 := hid (show w.heap.size < b98 from Nat.lt_of_lt_of_le (block_lt HB0_97.out) l98)
            have Y98_1 := hid (show w.heap.size + 1 < b98 from Nat.lt_of_lt_of_le (block_lt HB1_97.out) l98)
            have Y98_2 := hid (show w.heap.size + 1 + 1 < b98 from Nat.lt_of_lt_of_le (block_lt HB2_97.out) l98)
            have Y98_7 := hid (show w94.heap.size < b98 from Nat.lt_of_lt_of_le (block_lt HB7_97.out) l98)
            have R_98 := hid (below_trans R_97.out h98 R_97.out.size)
            have HB0_98 := hid ((h98.block (w.heap.size) (block_lt HB0_97.out)).trans HB0_97.out)
            have HB1_98 := hid ((h98.block (w.heap.size + 1) (block_lt HB1_97.out)).trans HB1_97.out)
            have HB2_98 := hid ((h98.block (w.heap.size + 1 + 1) (block_lt HB2_97.out)).trans HB2_97.out)
            have HB7_98 := hid ((h98.block (w94.heap.size) (block_lt HB7_97.out)).trans HB7_97.out)
            have V_98 := hid o98
            clear o98 l98 h98
            refine ⟨⟨HB0_98.out, HB1_98.out, HB2_98.out⟩, ?_⟩
            refine wpAnyH_all (rs := [8]) (fuel := 7) (by kernel_rfl) (by simp) ?_
            intro i hi
            obtain rfl : i = 8 := by simpa using hi
            clear hi
            refine plainL rfl ?_
            go_simp
            go_at_call 18
            refine (c_implTickAll a0 B0.out a1 B1.out a2 B2.out _ n3 _ P3 _ O3.out (V_98.out.rws HN3.out)).mono ?_
            rintro e w99 ⟨⟨u, rfl, ur⟩, h99⟩
            have R_99 := hid (below_trans R_98.out h99 R_98.out.size)
            have V_99 := hid (V_98.out.below h99)
            have HB0_99 := hid ((h99.block (w.heap.size) (block_lt HB0_98.out)).trans HB0_98.out)
            have HB1_99 := hid ((h99.block (w.heap.size + 1) (block_lt HB1_98.out)).trans HB1_98.out)
            have HB2_99 := hid ((h99.block (w.heap.size + 1 + 1) (block_lt HB2_98.out)).trans HB2_98.out)
            have HB7_99 := hid ((h99.block (w94.heap.size) (block_lt HB7_98.out)).trans HB7_98.out)
            have GG99 := hid (GotF.owns2 (show GotF w99 w92.heap.size u (taL a0 a1 a2 P3 n3) from own_from ur R_98.out.size) (by have := HL.out; omega))
            clear ur h99
            refine ⟨⟨HB0_99.out, HB1_99.out, HB2_99.out⟩, ?_⟩
            refine takeL (i := 9) (fuel := 6) rfl (by kernel_rfl) (by kernel_rfl) (by kernel_rfl) (fun c a w h => h) (yldMove rfl _ rfl) ⟨HB0_99.out, HB1_99.out, HB2_99.out⟩ ?_
            try simp only [Act.put, List.setIfInBounds_toArray, List.set_cons_zero, List.set_cons_succ]
            refine takeL (i := 10) (fuel := 5) rfl (by kernel_rfl) (by kernel_rfl) (by kernel_rfl) (fun c a w h => h) (yldExtract rfl _ 0 rfl _ rfl _ rfl) ⟨HB0_99.out, HB1_99.out, HB2_99.out⟩ ?_
            try simp only [Act.put, List.setIfInBounds_toArray, List.set_cons_zero, List.set_cons_succ]
            refine takeL (i := 11) (fuel := 4) rfl (by kernel_rfl) (by kernel_rfl) (by kernel_rfl) (fun c a w h => h) (yldExtract rfl _ 1 rfl _ rfl _ rfl) ⟨HB0_99.out, HB1_99.out, HB2_99.out⟩ ?_
            try simp only [Act.put, List.setIfInBounds_toArray, List.set_cons_zero, List.set_cons_succ]
            refine takeL (i := 12) (fuel := 3) rfl (by kernel_rfl) (by kernel_rfl) (by kernel_rfl) (fun c a w h => h) (yldExtract rfl _ 2 rfl _ rfl _ rfl) ⟨HB0_99.out, HB1_99.out, HB2_99.out⟩ ?_
            try simp only [Act.put, List.setIfInBounds_toArray, List.set_cons_zero, List.set_cons_succ]
            refine wpAnyH_all (rs := [14]) (fuel := 2) (by kernel_rfl) (by simp) ?_
            intro i hi
            obtain rfl : i = 14 := by simpa using hi
            clear hi
            refine plainL rfl ?_
            refine wp_store_row 39 _ _ rfl (w94.heap.size) (stcells (taS a0 a1 a2 P3 n3)) (by kernel_rfl) (by kernel_rfl) 39 zSt HB7_99.out HS9.out HFE.out (stcells_one _) ?_
            refine ⟨⟨(setRow_other w99 (w94.heap.size) (w.heap.size) (stcells (taS a0 a1 a2 P3 n3)) (by have := GB0.out; omega)).trans HB0_99.out, (setRow_other w99 (w94.heap.size) (w.heap.size + 1) (stcells (taS a0 a1 a2 P3 n3)) (by have := GB1.out; omega)).trans HB1_99.out, (setRow_other w99 (w94.heap.size) (w.heap.size + 1 + 1) (stcells (taS a0 a1 a2 P3 n3)) (by have := GB2.out; omega)).trans HB2_99.out⟩, ?_⟩
            refine genWorld (p := wpAnyH _ _ _ _ _ _ _ _) (w0 := w99.setRow (w94.heap.size) (stcells (taS a0 a1 a2 P3 n3))) (fun w100 hw100 => ?_)
            have HB0_100 := hid (show w100.heap[w.heap.size]? = some (.cells (ccells a0) 25 (0, 0)) by rw [hw100]; exact (setRow_other w99 (w94.heap.size) (w.heap.size) (stcells (taS a0 a1 a2 P3 n3)) (by have := GB0.out; omega)).trans HB0_99.out)
            have HB1_100 := hid (show w100.heap[w.heap.size + 1]? = some (.cells (bcells a1) 28 (0, 0)) by rw [hw100]; exact (setRow_other w99 (w94.heap.size) (w.heap.size + 1) (stcells (taS a0 a1 a2 P3 n3)) (by have := GB1.out; omega)).trans HB1_99.out)
            have HB2_100 := hid (show w100.heap[w.heap.size + 1 + 1]? = some (.cells (stcells a2) 30 (0, 0)) by rw [hw100]; exact (setRow_other w99 (w94.heap.size) (w.heap.size + 1 + 1) (stcells (taS a0 a1 a2 P3 n3)) (by have := GB2.out; omega)).trans HB2_99.out)
            have R_100 := hid (show Below w92.heap.size w92 w100 by rw [hw100]; exact below_setRow R_99.out GR.out (stcells (taS a0 a1 a2 P3 n3)))
            have QN := hid (show w100.heap[w94.heap.size]? = some (.cells (stcells (taS a0 a1 a2 P3 n3)) 39 (0, 0)) by rw [hw100]; exact blk_row_same w99 (w94.heap.size) zSt (stcells (taS a0 a1 a2 P3 n3)) _ _ HB7_99.out)
            have GN := hid (show GotF w100 w92.heap.size _ (taL a0 a1 a2 P3 n3) by rw [hw100]; exact own_setRow (T := 22) GG99.out.1 HB7_99.out (by decide))
            clear hw100
            refine takeL (i := 15) (fuel := 1) rfl (by kernel_rfl) (by kernel_rfl) (by kernel_rfl) (fun c a w h => h) (yldAssign rfl _ rfl) ⟨HB0_100.out, HB1_100.out, HB2_100.out⟩ ?_
            try simp only [Act.put, List.setIfInBounds_toArray, List.set_cons_zero, List.set_cons_succ]
            refine takeL (i := 16) (fuel := 0) rfl (by kernel_rfl) (by kernel_rfl) (by kernel_rfl) (fun c a w h => h) (yldAssign rfl _ rfl) ⟨HB0_100.out, HB1_100.out, HB2_100.out⟩ ?_
            try simp only [Act.put, List.setIfInBounds_toArray, List.set_cons_zero, List.set_cons_succ]
            refine wpAnyH_done (by kernel_rfl) ?_ 0
            simp only [Exit.then]
            go_wp2_with fail
            go_meet
            exact ⟨_, _, rfl, rfl, rfl, GR.out, QN.out, GN.out, R_100.out⟩
        · clear hi
          refine plainL rfl ?_
          go_simp
          have HA94 := hid (heap_alloc_new w93 (.cells zSt 39))
          have D94 := hid ((Below.refl w93.heap.size w93).alloc (Nat.le_refl _) (.cells zSt 39))
          have GB0 := hid (show w.heap.size < w93.heap.size from block_lt HB0_93.out)
          have GB1 := hid (show w.heap.size + 1 < w93.heap.size from block_lt HB1_93.out)
          have GB2 := hid (show w.heap.size + 1 + 1 < w93.heap.size from block_lt HB2_93.out)
          have GR := hid (show w92.heap.size ≤ w93.heap.size from R_93.out.size)
          refine ⟨⟨(D94.out.block _ (block_lt HB0_93.out)).trans HB0_93.out, (D94.out.block _ (block_lt HB1_93.out)).trans HB1_93.out, (D94.out.block _ (block_lt HB2_93.out)).trans HB2_93.out⟩, ?_⟩
          refine genWorld (p := wpAnyH _ _ _ _ _ _ _ _) (w0 := (w93.alloc (.cells zSt 39))) (fun w94 hw94 => ?_)
          have h94 : Below w93.heap.size w93 w94 := by rw [hw94]; exact D94.out
          have HN194 := hid (show w94.heap[w93.heap.size]? = some (.cells zSt 39 (0, 0)) by rw [hw94]; exact HA94.out)
          clear hw94 HA94 D94
          have R_94 := hid (below_trans R_93.out h94 R_93.out.size)
          have HB0_94 := hid ((h94.block (w.heap.size) (block_lt HB0_93.out)).trans HB0_93.out)
          have HB1_94 := hid ((h94.block (w.heap.size + 1) (block_lt HB1_93.out)).trans HB1_93.out)
          have HB2_94 := hid ((h94.block (w.heap.size + 1 + 1) (block_lt HB2_93.out)).trans HB2_93.out)
          clear h94
          refine wpAnyH_all (rs := [1]) (fuel := 11) (by kernel_rfl) (by simp) ?_
          intro i hi
          obtain rfl : i = 1 := by simpa using hi
          clear hi
          refine plainL rfl ?_
          go_simp
          go_at_call 11
          refine (c_toControl a0 _).mono ?_
          rintro e w95 ⟨rfl, h95⟩
          have R_95 := hid (below_trans R_94.out h95 R_94.out.size)
          have HB0_95 := hid ((h95.block (w.heap.size) (block_lt HB0_94.out)).trans HB0_94.out)
          have HB1_95 := hid ((h95.block (w.heap.size + 1) (block_lt HB1_94.out)).trans HB1_94.out)
          have HB2_95 := hid ((h95.block (w.heap.size + 1 + 1) (block_lt HB2_94.out)).trans HB2_94.out)
          have HB7_95 := hid ((h95.block (w93.heap.size) (block_lt HN194.out)).trans HN194.out)
          clear h95
          refine ⟨⟨HB0_95.out, HB1_95.out, HB2_95.out⟩, ?_⟩
          refine wpAnyH_all (rs := [3]) (fuel := 10) (by kernel_rfl) (by simp) ?_
          intro i hi
          obtain rfl : i = 3 := by simpa using hi
          clear hi
          refine plainL rfl ?_
          go_simp
          go_at_call 12
          refine (c_toBlind a1 _).mono ?_
          rintro e w96 ⟨rfl, h96⟩
          have R_96 := hid (below_trans R_95.out h96 R_95.out.size)
          have HB0_96 := hid ((h96.block (w.heap.size) (block_lt HB0_95.out)).trans HB0_95.out)
          have HB1_96 := hid ((h96.block (w.heap.size + 1) (block_lt HB1_95.out)).trans HB1_95.out)
          have HB2_96 := hid ((h96.block (w.heap.size + 1 + 1) (block_lt HB2_95.out)).trans HB2_95.out)
          have HB7_96 := hid ((h96.block (w93.heap.size) (block_lt HB7_95.out)).trans HB7_95.out)
          clear h96
          refine ⟨⟨HB0_96.out, HB1_96.out, HB2_96.out⟩, ?_⟩
          refine wpAnyH_all (rs := [5]) (fuel := 9) (by kernel_rfl) (by simp) ?_
          intro i hi
          obtain rfl : i = 5 := by simpa using hi
          clear hi
          refine plainL rfl ?_
          go_simp
          go_at_call 13
          refine (c_toState a2 _).mono ?_
          rintro e w97 ⟨rfl, h97⟩
          have R_97 := hid (below_trans R_96.out h97 R_96.out.size)
          have HB0_97 := hid ((h97.block (w.heap.size) (block_lt HB0_96.out)).trans HB0_96.out)
          have HB1_97 := hid ((h97.block (w.heap.size + 1) (block_lt HB1_96.out)).trans HB1_96.out)
          have HB2_97 := hid ((h97.block (w.heap.size + 1 + 1) (block_lt HB2_96.out)).trans HB2_96.out)
          have HB7_97 := hid ((h97.block (w93.heap.size) (block_lt HB7_96.out)).trans HB7_96.out)
          clear h97
          refine ⟨⟨HB0_97.out, HB1_97.out, HB2_97.out⟩, ?_⟩
          refine wpAnyH_all (rs := [7]) (fuel := 8) (by kernel_rfl) (by simp) ?_
          intro i hi
          obtain rfl : i = 7 := by simpa using hi
          clear hi
          refine plainL rfl ?_
          go_simp
          go_at_call 14
          refine (c_toTickS a3 n3 c3 P3 _ O3.out (XR.out.below R_97.out)).mono ?_
          rintro e w98 ⟨b98, rfl, o98, l98, h98⟩
          have L98R := hid (show w92.heap.size ≤ b98 from Nat.le_trans R_97.out.size l98)
          have Y98_0 := hid (show w.heap.size < b98 from Nat.lt_of_lt_of_le (block_lt HB0_97.out) l98)
          have Y98_1 := hid (show w.heap.size + 1 < b98 from Nat.lt_of_lt_of_le (block_lt HB1_97.out) l98)
          have Y98_2 := hid (show w.heap.size + 1 + 1 < b98 from Nat.lt_of_lt_of_le (block_lt HB2_97.out) l98)
          have Y98_7 := hid (show w93.heap.size < b98 from Nat.lt_of_lt_of_le (block_lt HB7_97.out) l98)
          have R_98 := hid (below_trans R_97.out h98 R_97.out.size)
          have HB0_98 := hid ((h98.block (w.heap.size) (block_lt HB0_97.out)).trans HB0_97.out)
          have HB1_98 := hid ((h98.block (w.heap.size + 1) (block_lt HB1_97.out)).trans HB1_97.out)
          have HB2_98 := hid ((h98.block (w.heap.size + 1 + 1) (block_lt HB2_97.out)).trans HB2_97.out)
          have HB7_98 := hid ((h98.block (w93.heap.size) (block_lt HB7_97.out)).trans HB7_97.out)
          have V_98 := hid o98
          clear o98 l98 h98
          refine ⟨⟨HB0_98.out, HB1_98.out, HB2_98.out⟩, ?_⟩
          refine wpAnyH_all (rs := [8]) (fuel := 7) (by kernel_rfl) (by simp) ?_
          intro i hi
          obtain rfl : i = 8 := by simpa using hi
          clear hi
          refine plainL rfl ?_
          go_simp
          go_at_call 18
          refine (c_implTickAll a0 B0.out a1 B1.out a2 B2.out _ n3 _ P3 _ O3.out (V_98.out.rws HN3.out)).mono ?_
          rintro e w99 ⟨⟨u, rfl, ur⟩, h99⟩
          have R_99 := hid (below_trans R_98.out h99 R_98.out.size)
          have V_99 := hid (V_98.out.below h99)
          have HB0_99 := hid ((h99.block (w.heap.size) (block_lt HB0_98.out)).trans HB0_98.out)
          have HB1_99 := hid ((h99.block (w.heap.size + 1) (block_lt HB1_98.out)).trans HB1_98.out)
          have HB2_99 := hid ((h99.block (w.heap.size + 1 + 1) (block_lt HB2_98.out)).trans HB2_98.out)
          have HB7_99 := hid ((h99.block (w93.heap.size) (block_lt HB7_98.out)).trans HB7_98.out)
          have GG99 := hid (GotF.owns2 (show GotF w99 w92.heap.size u (taL a0 a1 a2 P3 n3) from own_from ur R_98.out.size) (by have := HL.out; omega))
          clear ur h99
          refine ⟨⟨HB0_99.out, HB1_99.out, HB2_99.out⟩, ?_⟩
          refine takeL (i := 9) (fuel := 6) rfl (by kernel_rfl) (by kernel_rfl) (by kernel_rfl) (fun c a w h => h) (yldMove rfl _ rfl) ⟨HB0_99.out, HB1_99.out, HB2_99.out⟩ ?_
          try simp only [Act.put, List.setIfInBounds_toArray, List.set_cons_zero, List.set_cons_succ]
          refine takeL (i := 10) (fuel := 5) rfl (by kernel_rfl) (by kernel_rfl) (by kernel_rfl) (fun c a w h => h) (yldExtract rfl _ 0 rfl _ rfl _ rfl) ⟨HB0_99.out, HB1_99.out, HB2_99.out⟩ ?_
          try simp only [Act.put, List.setIfInBounds_toArray, List.set_cons_zero, List.set_cons_succ]
          refine takeL (i := 11) (fuel := 4) rfl (by kernel_rfl) (by kernel_rfl) (by kernel_rfl) (fun c a w h => h) (yldExtract rfl _ 1 rfl _ rfl _ rfl) ⟨HB0_99.out, HB1_99.out, HB2_99.out⟩ ?_
          try simp only [Act.put, List.setIfInBounds_toArray, List.set_cons_zero, List.set_cons_succ]
          refine takeL (i := 12) (fuel := 3) rfl (by kernel_rfl) (by kernel_rfl) (by kernel_rfl) (fun c a w h => h) (yldExtract rfl _ 2 rfl _ rfl _ rfl) ⟨HB0_99.out, HB1_99.out, HB2_99.out⟩ ?_
          try simp only [Act.put, List.setIfInBounds_toArray, List.set_cons_zero, List.set_cons_succ]
          refine wpAnyH_all (rs := [14]) (fuel := 2) (by kernel_rfl) (by simp) ?_
          intro i hi
          obtain rfl : i = 14 := by simpa using hi
          clear hi
          refine plainL rfl ?_
          refine wp_store_row 39 _ _ rfl (w93.heap.size) (stcells (taS a0 a1 a2 P3 n3)) (by kernel_rfl) (by kernel_rfl) 39 zSt HB7_99.out HS9.out HFE.out (stcells_one _) ?_
          refine ⟨⟨(setRow_other w99 (w93.heap.size) (w.heap.size) (stcells (taS a0 a1 a2 P3 n3)) (by have := GB0.out; omega)).trans HB0_99.out, (setRow_other w99 (w93.heap.size) (w.heap.size + 1) (stcells (taS a0 a1 a2 P3 n3)) (by have := GB1.out; omega)).trans HB1_99.out, (setRow_other w99 (w93.heap.size) (w.heap.size + 1 + 1) (stcells (taS a0 a1 a2 P3 n3)) (by have := GB2.out; omega)).trans HB2_99.out⟩, ?_⟩
          refine genWorld (p := wpAnyH _ _ _ _ _ _ _ _) (w0 := w99.setRow (w93.heap.size) (stcells (taS a0 a1 a2 P3 n3))) (fun w100 hw100 => ?_)
          have HB0_100 := hid (show w100.heap[w.heap.size]? = some (.cells (ccells a0) 25 (0, 0)) by rw [hw100]; exact (setRow_other w99 (w93.heap.size) (w.heap.size) (stcells (taS a0 a1 a2 P3 n3)) (by have := GB0.out; omega)).trans HB0_99.out)
          have HB1_100 := hid (show w100.heap[w.heap.size + 1]? = some (.cells (bcells a1) 28 (0, 0)) by rw [hw100]; exact (setRow_other w99 (w93.heap.size) (w.heap.size + 1) (stcells (taS a0 a1 a2 P3 n3)) (by have := GB1.out; omega)).trans HB1_99.out)
          have HB2_100 := hid (show w100.heap[w.heap.size + 1 + 1]? = some (.cells (stcells a2) 30 (0, 0)) by rw [hw100]; exact (setRow_other w99 (w93.heap.size) (w.heap.size + 1 + 1) (stcells (taS a0 a1 a2 P3 n3)) (by have := GB2.out; omega)).trans HB2_99.out)
          have R_100 := hid (show Below w92.heap.size w92 w100 by rw [hw100]; exact below_setRow R_99.out GR.out (stcells (taS a0 a1 a2 P3 n3)))
          have QN := hid (show w100.heap[w93.heap.size]? = some (.cells (stcells (taS a0 a1 a2 P3 n3)) 39 (0, 0)) by rw [hw100]; exact blk_row_same w99 (w93.heap.size) zSt (stcells (taS a0 a1 a2 P3 n3)) _ _ HB7_99.out)
          have GN := hid (show GotF w100 w92.heap.size _ (taL a0 a1 a2 P3 n3) by rw [hw100]; exact own_setRow (T := 22) GG99.out.1 HB7_99.out (by decide))
          clear hw100
          refine takeL (i := 15) (fuel := 1) rfl (by kernel_rfl) (by kernel_rfl) (by kernel_rfl) (fun c a w h => h) (yldAssign rfl _ rfl) ⟨HB0_100.out, HB1_100.out, HB2_100.out⟩ ?_
          try simp only [Act.put, List.setIfInBounds_toArray, List.set_cons_zero, List.set_cons_succ]
          refine takeL (i := 16) (fuel := 0) rfl (by kernel_rfl) (by kernel_rfl) (by kernel_rfl) (fun c a w h => h) (yldAssign rfl _ rfl) ⟨HB0_100.out, HB1_100.out, HB2_100.out⟩ ?_
          try simp only [Act.put, List.setIfInBounds_toArray, List.set_cons_zero, List.set_cons_succ]
          refine wpAnyH_done (by kernel_rfl) ?_ 0
          simp only [Exit.then]
          go_wp2_with fail
          go_meet
          exact ⟨_, _, rfl, rfl, rfl, GR.out, QN.out, GN.out, R_100.out⟩
      case rest =>
        obtain ⟨g133, v133, rfl, rfl, rfl, hlt, hbox, hgot, hbel⟩ := hcut
        obtain ⟨w133, hw133⟩ := name_world hbel
        subst hw133
        have E_133 := hid (below_trans E_92.out hbel E_92.out.size)
        have T_133 := hid (below_trans T_92.out hbel T_92.out.size)
        have M_133 := hid (below_trans M_92.out hbel M_92.out.size)
        have HB0_133 := hid ((hbel.block (w.heap.size) (block_lt HB0_92.out)).trans HB0_92.out)
        have HB1_133 := hid ((hbel.block (w.heap.size + 1) (block_lt HB1_92.out)).trans HB1_92.out)
        have HB2_133 := hid ((hbel.block (w.heap.size + 1 + 1) (block_lt HB2_92.out)).trans HB2_92.out)
        have HB9_133 := hid ((hbel.block (g41) (block_lt HB9_92.out)).trans HB9_92.out)
        have LQ133 := hid hlt
        have HB133 := hid hbox
        have GG133 := hid (GotF.owns2 hgot (by have := HL.out; omega))
        clear hlt hbox hgot hbel
        have ep0 : w133.cell? ⟨g133, 0, none⟩ = some (.int .i16 (taS a0 a1 a2 P3 n3).ti) := cell_of_row _ _ 0 _ _ _ HB133.out
        have ep1 : w133.cell? ⟨g133, 1, none⟩ = some (.int .i8 (taS a0 a1 a2 P3 n3).wa) := cell_of_row _ _ 1 _ _ _ HB133.out
        have ep2 : w133.cell? ⟨g133, 2, none⟩ = some (.int .i8 (taS a0 a1 a2 P3 n3).so) := cell_of_row _ _ 2 _ _ _ HB133.out
        have eq0 : w133.cell? ⟨g41, 0, none⟩ = some (.int .i16 (taS a0 a1 a2 P3 n3).ti) := cell_of_row _ _ 0 _ _ _ HB9_133.out
        have eq1 : w133.cell? ⟨g41, 1, none⟩ = some (.int .i8 (taS a0 a1 a2 P3 n3).wa) := cell_of_row _ _ 1 _ _ _ HB9_133.out
        have eq2 : w133.cell? ⟨g41, 2, none⟩ = some (.int .i8 (taS a0 a1 a2 P3 n3).so) := cell_of_row _ _ 2 _ _ _ HB9_133.out
        go_wp2_with (first | (refine wpList_load_row rfl 25 _ rfl (w.heap.size) rfl 25 (ccells a0) (0, 0) _ HB0_133.out Try.underlying25 rfl HS0.out ?_) | (refine wpList_load_row rfl 28 _ rfl (w.heap.size + 1) rfl 28 (bcells a1) (0, 0) _ HB1_133.out Try.underlying28 rfl HS1.out ?_) | (refine wpList_load_row rfl 30 _ rfl (w.heap.size + 1 + 1) rfl 30 (stcells a2) (0, 0) _ HB2_133.out Try.underlying30 rfl HS2.out ?_))
        refine (c_eqState (taS a0 a1 a2 P3 n3) _).mono ?_
        rintro e w134 ⟨rfl, h134⟩
        have E_134 := hid (below_trans E_133.out h134 E_133.out.size)
        have T_134 := hid (below_trans T_133.out h134 T_133.out.size)
        have M_134 := hid (below_trans M_133.out h134 M_133.out.size)
        have G_134 := hid (GG133.out.below h134)
        have HB0_134 := hid ((h134.block (w.heap.size) (block_lt HB0_133.out)).trans HB0_133.out)
        have HB1_134 := hid ((h134.block (w.heap.size + 1) (block_lt HB1_133.out)).trans HB1_133.out)
        have HB2_134 := hid ((h134.block (w.heap.size + 1 + 1) (block_lt HB2_133.out)).trans HB2_133.out)
        have HB9_134 := hid ((h134.block (g41) (block_lt HB9_133.out)).trans HB9_133.out)
        have HB11_134 := hid ((h134.block (g133) (block_lt HB133.out)).trans HB133.out)
        clear h134
        clear ep0 ep1 ep2 eq0 eq1 eq2
        go_wp2_with (first | (refine wpList_load_row rfl 25 _ rfl (w.heap.size) rfl 25 (ccells a0) (0, 0) _ HB0_134.out Try.underlying25 rfl HS0.out ?_) | (refine wpList_load_row rfl 28 _ rfl (w.heap.size + 1) rfl 28 (bcells a1) (0, 0) _ HB1_134.out Try.underlying28 rfl HS1.out ?_) | (refine wpList_load_row rfl 30 _ rfl (w.heap.size + 1 + 1) rfl 30 (stcells a2) (0, 0) _ HB2_134.out Try.underlying30 rfl HS2.out ?_))
        refine (c_eqF _ _ (taL a0 a1 a2 P3 n3) _ (GotF.reads2 (lo := w92.heap.size) G_134.out.1 (by have := HL.out; omega) HW.out) (U.out.below T_134.out)).mono ?_
        rintro e w135 ⟨rfl, h135⟩
        have E_135 := hid (below_trans E_134.out h135 E_134.out.size)
        have T_135 := hid (below_trans T_134.out h135 T_134.out.size)
        have M_135 := hid (below_trans M_134.out h135 M_134.out.size)
        have G_135 := hid (G_134.out.below h135)
        have HB0_135 := hid ((h135.block (w.heap.size) (block_lt HB0_134.out)).trans HB0_134.out)
        have HB1_135 := hid ((h135.block (w.heap.size + 1) (block_lt HB1_134.out)).trans HB1_134.out)
        have HB2_135 := hid ((h135.block (w.heap.size + 1 + 1) (block_lt HB2_134.out)).trans HB2_134.out)
        have HB9_135 := hid ((h135.block (g41) (block_lt HB9_134.out)).trans HB9_134.out)
        have HB11_135 := hid ((h135.block (g133) (block_lt HB11_134.out)).trans HB11_134.out)
        clear h135
        go_wp2_with (first | (refine wpList_load_row rfl 25 _ rfl (w.heap.size) rfl 25 (ccells a0) (0, 0) _ HB0_135.out Try.underlying25 rfl HS0.out ?_) | (refine wpList_load_row rfl 28 _ rfl (w.heap.size + 1) rfl 28 (bcells a1) (0, 0) _ HB1_135.out Try.underlying28 rfl HS1.out ?_) | (refine wpList_load_row rfl 30 _ rfl (w.heap.size + 1 + 1) rfl 30 (stcells a2) (0, 0) _ HB2_135.out Try.underlying30 rfl HS2.out ?_))
        refine (c_heldFloat32S2 _ _ (taL a0 a1 a2 P3 n3).length 1 (HD.out.below M_135.out) (by omega) _ rfl).mono ?_
        rintro e w136 ⟨rfl, h136⟩
        have E_136 := hid (below_trans E_135.out h136 E_135.out.size)
        have T_136 := hid (below_trans T_135.out h136 T_135.out.size)
        have M_136 := hid (below_trans M_135.out h136 M_135.out.size)
        have HB0_136 := hid ((h136.block (w.heap.size) (block_lt HB0_135.out)).trans HB0_135.out)
        have HB1_136 := hid ((h136.block (w.heap.size + 1) (block_lt HB1_135.out)).trans HB1_135.out)
        have HB2_136 := hid ((h136.block (w.heap.size + 1 + 1) (block_lt HB2_135.out)).trans HB2_135.out)
        have HB9_136 := hid ((h136.block (g41) (block_lt HB9_135.out)).trans HB9_135.out)
        have HB11_136 := hid ((h136.block (g133) (block_lt HB11_135.out)).trans HB11_135.out)
        clear h136
        go_wp2
        go_ret
        exact ⟨rfl, E_136.out⟩

set_option maxRecDepth 100000 in
theorem lifted (os : Os) (started : os.Started) (H : Type) (enc : TypeId × Value → H) :
    ReturnsInHanded {} Try.checked os 4 .any (Rows.fnExactTickAllSpec.pre6 enc Try.prog Try.f4 Rows.fnExactTickAllRow.domain false) (Rows.fnExactTickAllSpec.post enc Try.prog Try.f4 false true false false) := by
  refine returnsInHanded_of_change (C := Try.checked) own started (by kernel_rfl) Try.func4
    (ChangeSpec.witness6 (enc := enc) (C := Try.checked) false ⟨#[], #[.agg #[.float .f32 0, .float .f32 0, .float .f32 0, .int .i8 0, .int .i8 0, .int .i8 0], .agg #[.int .i8 0, .float .f32 0, .float .f32 0, .int .i16 0, .float .f32 0], .agg #[.int .i16 0, .int .i8 0, .int .i8 0], .slice none 0 0], []⟩ 8 (by kernel_rfl) (by kernel_rfl) (by kernel_rfl) (by kernel_rfl)) ?_
  intro W base args ds gs before hval0 hW hcnd _
  have hval : ∀ (j : Nat) t v, Try.f4.params[j]? = some t → args[j]? = some v → Value.okWide Try.prog W .any base t v := hval0
  have hW' := hW
  obtain ⟨p, q, hA0, hV, rfl, hfz, hnd⟩ := hW
  have hA : DataW.TrodAll enc Try.prog W 0 (fun _ => true) true Try.f4.params.toList args.toList ds p := hA0
  rw [Try.params4] at hA hval
  obtain ⟨v0, vs0, d0, ds0, p0, q0, hargs, rfl, rfl, h0, r0⟩ := trodAll_cons hA
  obtain ⟨v1, vs1, d1, ds1, p1, q1, rfl, rfl, rfl, h1, r1⟩ := trodAll_cons r0
  obtain ⟨v2, vs2, d2, ds2, p2, q2, rfl, rfl, rfl, h2, r2⟩ := trodAll_cons r1
  obtain ⟨v3, vs3, d3, ds3, p3, q3, rfl, rfl, rfl, h3, r3⟩ := trodAll_cons r2
  obtain ⟨rfl, rfl, rfl⟩ := trodAll_nil r3
  obtain rfl : args = #[v0, v1, v2, v3] := by cases args; simp_all
  obtain ⟨rfl, rfl⟩ := trodVars_none hV
  have k0 := h0
  have lt0 : ∀ x ∈ p0, x.block < W.heap.size := by obtain ⟨m, hm⟩ := k0; exact DataW.trod_lt m _ _ _ hm
  have k1 := h1
  have lt1 : ∀ x ∈ p1, x.block < W.heap.size := by obtain ⟨m, hm⟩ := k1; exact DataW.trod_lt m _ _ _ hm
  have k2 := h2
  have lt2 : ∀ x ∈ p2, x.block < W.heap.size := by obtain ⟨m, hm⟩ := k2; exact DataW.trod_lt m _ _ _ hm
  have k3 := h3
  have lt3 : ∀ x ∈ p3, x.block < W.heap.size := by obtain ⟨m, hm⟩ := k3; exact DataW.trod_lt m _ _ _ hm
  obtain ⟨c0, rfl, fa0⟩ := open_cells (a := [.f .f32, .f .f32, .f .f32, .i .i8, .i .i8, .i .i8]) 3 (by kernel_rfl) (by kernel_rfl) (hval 0 25 v0 rfl rfl) h0
  obtain ⟨a0, rfl, wa0⟩ := fits_control fa0
  obtain ⟨c1, rfl, fa1⟩ := open_cells (a := [.i .i8, .f .f32, .f .f32, .i .i16, .f .f32]) 3 (by kernel_rfl) (by kernel_rfl) (hval 1 28 v1 rfl rfl) h1
  obtain ⟨a1, rfl, wa1⟩ := fits_blind fa1
  obtain ⟨c2, rfl, fa2⟩ := open_cells (a := [.i .i16, .i .i8, .i .i8]) 3 (by kernel_rfl) (by kernel_rfl) (hval 2 30 v2 rfl rfl) h2
  obtain ⟨a2, rfl, wa2⟩ := fits_state fa2
  obtain ⟨a3, n3, c3, rows3, rfl, rr3⟩ := open_rows (ks := [.f .f32, .f .f32, .i .i8]) 4 Try.underlying31 (by kernel_rfl) (by decide) (by kernel_rfl) (hval 3 31 v3 rfl rfl) h3
  obtain ⟨P3, ok3, r3x⟩ := ticks_of_rows rr3
  clear hA0 hval0
  refine (walk a0 a1 a2 a3 n3 c3 P3 W wa0 wa1 wa2 ok3 r3x).mono fun e W' ⟨he, bel⟩ => ?_
  subst he
  exact ⟨_, rfl, _, _, _, [], _, [], hW', trodAll_mk1 (shut_bool Try.underlying4 _), (trodAll_cons_mk (Below.trod laidOut (by kernel_rfl) (of_decide_eq_true (by kernel_rfl)) k0 bel lt0) (trodAll_cons_mk (Below.trod laidOut (by kernel_rfl) (of_decide_eq_true (by kernel_rfl)) k1 bel lt1) (trodAll_cons_mk (Below.trod laidOut (by kernel_rfl) (of_decide_eq_true (by kernel_rfl)) k2 bel lt2) (trodAll_cons_mk (Below.trod laidOut (by kernel_rfl) (of_decide_eq_true (by kernel_rfl)) k3 bel lt3) trodAll_mk0)))), rfl, bel.frame _, fun h => by cases h⟩

theorem proved : Rows.FnExactTickAllSaid :=
  OpenClaim.holds_of_wide 4 Try.f4 rfl rfl rfl rfl rfl rfl rfl ⟨rfl, rfl, rfl, rfl, rfl⟩ rfl rfl rfl rfl rfl (by kernel_rfl) Try.func4 (by kernel_rfl)
    (of_decide_eq_true (by kernel_rfl)) (by unfold Func.isWrapper; first | (rw [if_pos (by decide +kernel)]; kernel_rfl) | (rw [if_neg (by decide +kernel)]; exact ⟨rfl, rfl⟩))
    (fun os started H enc _ => lifted os started H enc)
#print axioms proved
end Go.Proofs.Ytmjmgfojdomhlaa.lawTickAll
