/- RaisedIn, both sides. -/
import Derived.Test.YtmjmgfojdomhlaaRun
namespace Go.Proofs.Ytmjmgfojdomhlaa
set_option maxRecDepth 20000
open Go.RowKit

theorem yldExtract {P : Program} {ops : Array Oper} {S : World → Prop} {o : Oper} {a : Act} (hgd : o.guard = none) (x : Operand) (k : Nat) (ho : o.op = .extract x k) (vs : Array Value) (hx : a.eval x = .tuple vs) (v : Value) (hv : vs[k]? = some v) : YieldsIf P ops S o v a := by
  refine .inl ⟨by simp [Region.wanted, hgd], fun w hw => ?_⟩
  unfold execOp
  simp only [ho, hx]
  simp [Instr.extract, hv]
def raN (C : Ctl) (B : Bld) (s : Sta) (T : Nat → Tck) (n : Nat) : Int := if tkC C B s T n = 0 then (raisK (upK C B s T) n : Int) else 0
set_option maxHeartbeats 1000000 in
theorem c_implRaisedIn (C : Ctl) (wc : WfC C) (B : Bld) (wb : WfB B) (s : Sta) (ws : WfS s) (a : Option Addr) (n ca : Nat) (T : Nat → Tck) (w : World) (hok : TcksOk T n) (hx : Rws w a n 3 (tcs T)) :
    Calls Try.prog 15 #[.agg (ccells C), .agg (bcells B), .agg (stcells s), .slice a n ca] w fun e w' => e = .returned (.tuple #[.int .i64 (raN C B s T n), .int .i64 (tkC C B s T n)]) ∧ Below w.heap.size w w' := by
  have HB0 : Hid ((((w.alloc (.cells (ccells C) 35)).alloc (.cells (bcells B) 37)).alloc (.cells (stcells s) 39)).heap[w.heap.size]? = some (.cells (ccells C) 35 (0, 0))) := hid ((blk_past _ _ _ (by simp; omega)).trans ((blk_past _ _ _ (by simp)).trans (blk_at _ _ _ rfl)))
  have HB1 : Hid ((((w.alloc (.cells (ccells C) 35)).alloc (.cells (bcells B) 37)).alloc (.cells (stcells s) 39)).heap[w.heap.size + 1]? = some (.cells (bcells B) 37 (0, 0))) := hid ((blk_past _ _ _ (by simp)).trans (blk_at _ _ _ (by simp)))
  have HB2 : Hid ((((w.alloc (.cells (ccells C) 35)).alloc (.cells (bcells B) 37)).alloc (.cells (stcells s) 39)).heap[w.heap.size + 1 + 1]? = some (.cells (stcells s) 39 (0, 0))) := hid (blk_at _ _ _ (by simp))
  have H0 : Hid (Below w.heap.size w (((w.alloc (.cells (ccells C) 35)).alloc (.cells (bcells B) 37)).alloc (.cells (stcells s) 39))) := hid ((((Below.refl _ _).alloc (Nat.le_refl _) _).alloc (by simp) _).alloc (by simp; omega) _)
  have HZC := hid (size_ct C)
  have HZB := hid (size_blind B)
  have HZS := hid (size_st2 s)
  have X := hid hx
  have X0 := hid (hx.below H0.out)
  have CK := hid (fun w hx => c_ticksCode C wc B wb s ws a n ca T w hok hx)
  by_cases hz : tkC C B s T n = 0
  · obtain ⟨z1, z2, z3, z4, z5⟩ := tkC_zero hz
    have HHC := hid (OkC.of wc z1)
    have HHB := hid (OkB.of wb z2)
    have HHS := hid (OkS.of z3)
    have HHT := hid (fun k (hk : k < n) => OkT.of (hok k hk) (okTs_at z4 hk))
    have N5 := hid z5
    have hz2 := hid hz
    have EN := hid (show raN C B s T n = (raisK (upK C B s T) n : Int) by rw [raN, if_pos hz])
    clear wc wb ws hok hx hz z1 z2 z3 z4 z5
    go_enter Try.func15, Try.ntmps15
    go_wp2_with (first | (refine wpList_load_row rfl 35 _ rfl (w.heap.size) rfl 35 (ccells C) (0, 0) _ HB0.out Try.underlying35 rfl HZC.out ?_) | (refine wpList_load_row rfl 37 _ rfl (w.heap.size + 1) rfl 37 (bcells B) (0, 0) _ HB1.out Try.underlying37 rfl HZB.out ?_) | (refine wpList_load_row rfl 39 _ rfl (w.heap.size + 1 + 1) rfl 39 (stcells s) (0, 0) _ HB2.out Try.underlying39 rfl HZS.out ?_))
    refine (CK.out _ X0.out).mono ?_
    rintro e w1 ⟨rfl, h1⟩
    rw [hz2.out]
    have H1 := hid (below_trans H0.out h1 H0.out.size)
    have HC0 := hid ((h1.block _ (block_lt HB0.out)).trans HB0.out)
    have HC1 := hid ((h1.block _ (block_lt HB1.out)).trans HB1.out)
    have HC2 := hid ((h1.block _ (block_lt HB2.out)).trans HB2.out)
    clear h1
    have D0 : Hid (Below w1.heap.size w1 (w1.alloc (.cells #[.int .i64 0] 2))) := hid ((Below.refl _ _).alloc (Nat.le_refl _) _)
    have HD0 := hid ((D0.out.block _ (block_lt HC0.out)).trans HC0.out)
    have HD1 := hid ((D0.out.block _ (block_lt HC1.out)).trans HC1.out)
    have HD2 := hid ((D0.out.block _ (block_lt HC2.out)).trans HC2.out)
    have H2 := hid (below_trans H1.out D0.out H1.out.size)
    have I0 : Hid (InvR w1.heap.size (upK C B s T) 0 (w1.alloc (.cells #[.int .i64 0] 2))) := hid (blk_at _ _ _ rfl)
    have CR := hid (c_run_r (.pointer (some ⟨w1.heap.size, 0, none⟩)) (InvR w1.heap.size (upK C B s T)) w.heap.size C HHC.out B HHB.out s HHS.out T a n ca w.heap.size HHT.out N5.out (w1.alloc (.cells #[.int .i64 0] 2)) (fun k w w' => InvR.below k w w') (fun k w g cs cs' => InvR.set k w g cs cs') (fun k w' hk hI => c_RaisedIn1 w.heap.size w1.heap.size k (upK C B s T) _ _ _ (by have := N5.out; omega) H1.out.size w' hI) HD0.out H2.out.size (fun w' hb => X.out.below (H2.out.trans hb)) I0.out)
    go_wp2_with (first | (refine wpList_load_row rfl 37 _ rfl (w.heap.size + 1) rfl 37 (bcells B) (0, 0) _ HD1.out Try.underlying37 rfl HZB.out ?_) | (refine wpList_load_row rfl 39 _ rfl (w.heap.size + 1 + 1) rfl 39 (stcells s) (0, 0) _ HD2.out Try.underlying39 rfl HZS.out ?_))
    refine CR.out.mono ?_
    rintro e w3 ⟨rfl, i3, s3⟩
    have c3 := oneCell i3
    have I3 := hid i3
    clear i3
    go_wp2
    go_ret2
    exact ⟨by rw [hz2.out, EN.out]; rfl, H2.out.trans s3.below⟩
  · have hz2 : Hid (¬ tkC C B s T n = 0) := hid hz
    generalize hcv : tkC C B s T n = cv at *
    have CV := hid hcv
    have hne : (cv != 0) = true := by rw [bne_iff_ne]; exact hz
    clear hcv hz hok hx wc wb ws
    go_enter Try.func15, Try.ntmps15
    go_wp2_with (first | (refine wpList_load_row rfl 35 _ rfl (w.heap.size) rfl 35 (ccells C) (0, 0) _ HB0.out Try.underlying35 rfl HZC.out ?_) | (refine wpList_load_row rfl 37 _ rfl (w.heap.size + 1) rfl 37 (bcells B) (0, 0) _ HB1.out Try.underlying37 rfl HZB.out ?_) | (refine wpList_load_row rfl 39 _ rfl (w.heap.size + 1 + 1) rfl 39 (stcells s) (0, 0) _ HB2.out Try.underlying39 rfl HZS.out ?_))
    refine (CK.out _ X0.out).mono ?_
    rintro e w1 ⟨rfl, h1⟩
    go_wp2
    go_ret2
    exact ⟨by rw [raN, CV.out, if_neg hz2.out]; rfl, below_trans H0.out h1 H0.out.size⟩
set_option maxHeartbeats 2000000 in
theorem c_specRaisedIn (C : Ctl) (wc : WfC C) (B : Bld) (wb : WfB B) (s : Sta) (ws : WfS s) (a : Option Addr) (n ca : Nat) (T : Nat → Tck) (w : World) (hok : TcksOk T n) (hx : Rws w a n 3 (tcs T)) :
    Calls Try.prog 10 #[.agg (ccells C), .agg (bcells B), .agg (stcells s), .slice a n ca] w fun e w' => e = .returned (.tuple #[.int .i64 (raN C B s T n), .int .i64 (tkC C B s T n)]) ∧ Below w.heap.size w w' := by
  have HB0 : Hid ((((w.alloc (.cells (ccells C) 35)).alloc (.cells (bcells B) 37)).alloc (.cells (stcells s) 39)).heap[w.heap.size]? = some (.cells (ccells C) 35 (0, 0))) := hid ((blk_past _ _ _ (by simp; omega)).trans ((blk_past _ _ _ (by simp)).trans (blk_at _ _ _ rfl)))
  have HB1 : Hid ((((w.alloc (.cells (ccells C) 35)).alloc (.cells (bcells B) 37)).alloc (.cells (stcells s) 39)).heap[w.heap.size + 1]? = some (.cells (bcells B) 37 (0, 0))) := hid ((blk_past _ _ _ (by simp)).trans (blk_at _ _ _ (by simp)))
  have HB2 : Hid ((((w.alloc (.cells (ccells C) 35)).alloc (.cells (bcells B) 37)).alloc (.cells (stcells s) 39)).heap[w.heap.size + 1 + 1]? = some (.cells (stcells s) 39 (0, 0))) := hid (blk_at _ _ _ (by simp))
  have H0 : Hid (Below w.heap.size w (((w.alloc (.cells (ccells C) 35)).alloc (.cells (bcells B) 37)).alloc (.cells (stcells s) 39))) := hid ((((Below.refl _ _).alloc (Nat.le_refl _) _).alloc (by simp) _).alloc (by simp; omega) _)
  have HZC := hid (size_ct C)
  have HZB := hid (size_blind B)
  have HZS := hid (size_st2 s)
  have X := hid hx
  have hn := hx.small
  have CK := hid (c_l05Asked C wc B wb s ws w.heap.size (w.heap.size + 1) (w.heap.size + 1 + 1) a n ca T _ (CtlAt.of_block HB0.out) (BldAt.of_block HB1.out) (StaAt.of_block HB2.out) hok (hx.below H0.out))
  by_cases hz : tkC C B s T n = 0
  · obtain ⟨z1, z2, z3, z4, z5⟩ := tkC_zero hz
    have HHC := hid (OkC.of wc z1)
    have HHB := hid (OkB.of wb z2)
    have HHS := hid (OkS.of z3)
    have HHT := hid (fun k (hk : k < n) => OkT.of (hok k hk) (okTs_at z4 hk))
    have N5 := hid z5
    have hz2 := hid hz
    have EN := hid (show raN C B s T n = (raisK (upK C B s T) n : Int) by rw [raN, if_pos hz])
    rw [hz] at CK
    clear wc wb ws hok hx hz z1 z2 z3 z4 z5
    go_enter Try.func10, Try.ntmps10
    go_wp2_with (go_at_call 66; refine CK.out.mono ?_; rintro e w1 ⟨rfl, h1⟩)
    have H1 := hid (below_trans H0.out h1 H0.out.size)
    have HC0 := hid ((h1.block _ (block_lt HB0.out)).trans HB0.out)
    have HC1 := hid ((h1.block _ (block_lt HB1.out)).trans HB1.out)
    have HC2 := hid ((h1.block _ (block_lt HB2.out)).trans HB2.out)
    clear h1
    go_loopw [11, 12] (fun m i wr => ∃ k : Nat, k ≤ n ∧ i = .int .i64 k ∧ m = .int .i64 (raisK (upK C B s T) k : Int) ∧ wr.heap[w.heap.size]? = some (.cells (ccells C) 35 (0, 0)) ∧ wr.heap[w.heap.size + 1]? = some (.cells (bcells B) 37 (0, 0)) ∧ wr.heap[w.heap.size + 1 + 1]? = some (.cells (stcells (staK C B s T k)) 39 (0, 0)) ∧ Below w.heap.size w wr) (fun _ i _ => n - (intOf i).toNat)
    case atStart => exact ⟨0, by omega, rfl, rfl, HC0.out, HC1.out, HC2.out, H1.out⟩
    case round =>
      obtain ⟨k, hk, rfl, rfl, hb0, hb1, hb2, hbel⟩ := hrel
      have F0 := hid hb0
      have F1 := hid hb1
      have F2 := hid hb2
      have HW := hid hbel
      clear hb0 hb1 hb2 hbel
      by_cases hlt : k < n
      · obtain ⟨b1, o1, rfl, hc1⟩ := X.out.at_ (by omega)
        have TA := hid (fun w2 (h : Below w.heap.size w w2) => TckAt.of_range (range_below (hc1 k hlt) h))
        have CT := hid (fun w2 hA hT => show Calls Try.prog 67 #[.pointer (some ⟨w.heap.size, 0, none⟩), .agg (bcells B), .agg (stcells (staK C B s T k)), .pointer (some ⟨b1, o1 + k * 3, none⟩)] w2 fun e w' => e = .returned (.tuple #[.agg (stcells (staK C B s T (k + 1))), .float .f32 (inK C B s T k)]) ∧ Below w2.heap.size w2 w' from c_l05Once C HHC.out B HHB.out (staK C B s T k) (staK_ok HHC.out B HHS.out T k) (T k) (HHT.out k hlt) w.heap.size b1 (o1 + k * 3) w2 hA hT)
        have UP := hid (show decide (0 < (staK C B s T (k + 1)).so) = upK C B s T k from next_up C B (staK C B s T k) (T k))
        have SO := hid (staK_ok HHC.out B HHS.out T (k + 1)).so
        clear hc1
        generalize hs2 : staK C B s T (k + 1) = s2 at *
        have SK2 := hid hs2
        clear hs2
        generalize hs1 : staK C B s T k = s1 at *
        have SK1 := hid hs1
        clear hs1
        generalize hx1 : inK C B s T k = x at *
        have XX := hid hx1
        clear hx1
        generalize hu1 : upK C B s T k = u at *
        have UU := hid hu1
        clear hu1
        have ZS1 := hid (size_st2 s1)
        have ZS2 := hid (size_st2 s2)
        have FE : Hid (zSt.size = (stcells s2).size) := hid rfl
        have hkn : (k : Int) < (n : Int) := by omega
        have hwk : IntKind.i64.wrap (k : Int) = (k : Int) := by rw [IntWalk.i64_in] <;> omega
        obtain ⟨w0, hw0⟩ : ∃ w0, w0 = wr := ⟨_, rfl⟩
        subst hw0
        go_wp2_with fail
        refine wp_region_held (S := fun wx => wx.heap[w.heap.size]? = some (.cells (ccells C) 35 (0, 0)) ∧ wx.heap[w.heap.size + 1]? = some (.cells (bcells B) 37 (0, 0)) ∧ wx.heap[w.heap.size + 1 + 1]? = some (.cells (stcells s1) 39 (0, 0))) (by kernel_rfl) ?_
        refine wpAnyH_take (i := 0) (fuel := 11) rfl (by kernel_rfl) (by kernel_rfl) (by kernel_rfl) (fun c a w h => h) (yldRow rfl _ _ rfl (w.heap.size + 1) rfl 37 (bcells B) (0, 0) _ (fun wx h => h.2.1) Try.underlying37 rfl HZB.out) ⟨F0.out, F1.out, F2.out⟩ ?_
        refine wpAnyH_take (i := 1) (fuel := 10) rfl (by kernel_rfl) (by kernel_rfl) (by kernel_rfl) (fun c a w h => h) (yldRow rfl _ _ rfl (w.heap.size + 1 + 1) rfl 39 (stcells s1) (0, 0) _ (fun wx h => h.2.2) Try.underlying39 rfl ZS1.out) ⟨F0.out, F1.out, F2.out⟩ ?_
        refine wpAnyH_take (i := 2) (fuel := 9) rfl (by kernel_rfl) (by kernel_rfl) (by kernel_rfl) (fun c a w h => h) (yldMove rfl _ rfl) ⟨F0.out, F1.out, F2.out⟩ ?_
        refine wpAnyH_take (i := 3) (fuel := 8) rfl (by kernel_rfl) (by kernel_rfl) (by kernel_rfl) (fun c a w h => h) (yldMove rfl _ rfl) ⟨F0.out, F1.out, F2.out⟩ ?_
        refine wpAnyH_all (rs := [4, 9]) (fuel := 7) (by kernel_rfl) (by simp) ?_
        intro i hi
        rcases (show i = 4 ∨ i = 9 from by simpa using hi) with rfl | rfl
        · clear hi
          refine wpOpPlain rfl rfl ?_
          go_simp
          refine ⟨⟨F0.out, F1.out, F2.out⟩, ?_⟩
          refine wpAnyH_all (rs := [5, 9]) (fuel := 6) (by kernel_rfl) (by simp) ?_
          intro i hi
          rcases (show i = 5 ∨ i = 9 from by simpa using hi) with rfl | rfl
          · clear hi
            refine wpOpPlain rfl rfl ?_
            go_simp
            go_at_call 67
            refine (CT.out (w0.drew) (CtlAt.of_block (w := w0.drew) F0.out) (TA.out _ HW.out.drew)).mono ?_
            rintro e wr2 ⟨rfl, hr2⟩
            have Dr2 : Hid (Below w0.heap.size w0 wr2) := hid ⟨hr2.os, hr2.tape, hr2.output, hr2.size, hr2.block⟩
            clear hr2
            have Fr2_0 := hid ((Dr2.out.block _ (block_lt F0.out)).trans F0.out)
            have Fr2_1 := hid ((Dr2.out.block _ (block_lt F1.out)).trans F1.out)
            have Fr2_2 := hid ((Dr2.out.block _ (block_lt F2.out)).trans F2.out)
            have Hr2 := hid (below_trans HW.out Dr2.out HW.out.size)
            refine ⟨⟨Fr2_0.out, Fr2_1.out, Fr2_2.out⟩, ?_⟩
            refine wpAnyH_take (i := 6) (fuel := 5) rfl (by kernel_rfl) (by kernel_rfl) (by kernel_rfl) (fun c a w h => h) (yldMove rfl _ rfl) ⟨Fr2_0.out, Fr2_1.out, Fr2_2.out⟩ ?_
            refine wpAnyH_take (i := 7) (fuel := 4) rfl (by kernel_rfl) (by kernel_rfl) (by kernel_rfl) (fun c a w h => h) (yldExtract rfl _ 0 rfl _ rfl _ rfl) ⟨Fr2_0.out, Fr2_1.out, Fr2_2.out⟩ ?_
            refine wpAnyH_take (i := 8) (fuel := 3) rfl (by kernel_rfl) (by kernel_rfl) (by kernel_rfl) (fun c a w h => h) (yldExtract rfl _ 1 rfl _ rfl _ rfl) ⟨Fr2_0.out, Fr2_1.out, Fr2_2.out⟩ ?_
            refine wpAnyH_all (rs := [9]) (fuel := 2) (by kernel_rfl) (by simp) ?_
            intro i hi
            obtain rfl : i = 9 := by simpa using hi
            clear hi
            refine wpOpPlain rfl rfl ?_
            go_simp
            have HAr3 : Hid ((wr2.alloc (.cells zSt 39)).heap[wr2.heap.size]? = some (.cells zSt 39 (0, 0))) := hid (heap_alloc_new wr2 _)
            have Dr3 : Hid (Below wr2.heap.size wr2 (wr2.alloc (.cells zSt 39))) := hid (by have h := (Below.refl wr2.heap.size wr2).alloc (Nat.le_refl _) (.cells zSt 39); exact ⟨h.os, h.tape, h.output, h.size, h.block⟩)
            have Fr3_0 := hid ((Dr3.out.block _ (block_lt Fr2_0.out)).trans Fr2_0.out)
            have Fr3_1 := hid ((Dr3.out.block _ (block_lt Fr2_1.out)).trans Fr2_1.out)
            have Fr3_2 := hid ((Dr3.out.block _ (block_lt Fr2_2.out)).trans Fr2_2.out)
            have Hr3 := hid (below_trans Hr2.out Dr3.out Hr2.out.size)
            refine ⟨⟨Fr3_0.out, Fr3_1.out, Fr3_2.out⟩, ?_⟩
            refine genWorld (p := wpAnyH _ _ _ _ _ _ _ _) (w0 := wr2.alloc (.cells zSt 39)) (fun wr3 hwr3 => ?_)
            rw [← hwr3] at HAr3 Dr3 Hr3 Fr3_0 Fr3_1 Fr3_2
            have GBr : Hid (w.heap.size + 1 + 1 < wr2.heap.size) := hid (block_lt Fr2_2.out)
            have GWr : Hid (w.heap.size ≤ wr2.heap.size) := hid Hr2.out.size
            clear hwr3
            refine wpAnyH_all (rs := [10]) (fuel := 1) (by kernel_rfl) (by simp) ?_
            intro i hi
            obtain rfl : i = 10 := by simpa using hi
            clear hi
            refine wpOpPlain rfl rfl ?_
            refine wp_store_row 39 _ _ rfl (wr2.heap.size) (stcells s2) rfl rfl 39 zSt HAr3.out ZS2.out FE.out (stcells_one _) ?_
            have Fr4_0 := hid ((setRow_other wr3 (wr2.heap.size) (w.heap.size) (stcells s2) (by have := GBr.out; omega)).trans Fr3_0.out)
            have Fr4_1 := hid ((setRow_other wr3 (wr2.heap.size) (w.heap.size + 1) (stcells s2) (by have := GBr.out; omega)).trans Fr3_1.out)
            have Fr4_2 := hid ((setRow_other wr3 (wr2.heap.size) (w.heap.size + 1 + 1) (stcells s2) (by have := GBr.out; omega)).trans Fr3_2.out)
            have Hr4 := hid (below_setRow Hr3.out (g := wr2.heap.size) GWr.out (stcells s2))
            have Qr4 := hid (blk_row_same wr3 (wr2.heap.size) zSt (stcells s2) _ _ HAr3.out)
            refine ⟨⟨Fr4_0.out, Fr4_1.out, Fr4_2.out⟩, ?_⟩
            refine genWorld (p := wpAnyH _ _ _ _ _ _ _ _) (w0 := wr3.setRow (wr2.heap.size) (stcells s2)) (fun wr4 hwr4 => ?_)
            rw [← hwr4] at Hr4 Qr4 Fr4_0 Fr4_1 Fr4_2
            clear hwr4
            refine wpAnyH_all (rs := [11]) (fuel := 0) (by kernel_rfl) (by simp) ?_
            intro i hi
            obtain rfl : i = 11 := by simpa using hi
            clear hi
            refine wpOpPlain rfl rfl ?_
            go_simp
            refine ⟨⟨Fr4_0.out, Fr4_1.out, Fr4_2.out⟩, ?_⟩
            refine wpAnyH_done (by kernel_rfl) ?_ 0
            simp only [Exit.then]
            have FZr_0 := Fr4_0
            have FZr_1 := Fr4_1
            have FZr_2 := Fr4_2
            have HZr := Hr4
            have QZr := Qr4
            generalize wr2.heap.size = gr at QZr GBr GWr ⊢
            generalize wr4 = zr at *
            have c2 := (show zr.cell? ⟨gr, 2, none⟩ = some (.int .i8 s2.so) from cell_of_row _ gr 2 _ _ _ QZr.out)
            have so := SO.out
            have hr := raisK_le (upK C B s T) k
            have ZW := hid (blk_row_same _ _ _ (stcells s2) _ _ FZr_2.out)
            have E1 := hid ((setRow_other zr (w.heap.size + 1 + 1) (w.heap.size) (stcells s2) (by omega)).trans FZr_0.out)
            have E2 := hid ((setRow_other zr (w.heap.size + 1 + 1) (w.heap.size + 1) (stcells s2) (by omega)).trans FZr_1.out)
            have E3 := hid (below_setRow HZr.out (g := w.heap.size + 1 + 1) (by omega) (stcells s2))
            cases hu : u
            · have RK := hid (raisK_no (u := upK C B s T) (k := k) (UU.out.trans hu))
              have UQ := UP.out
              rw [hu] at UQ
              have hq : ¬ 0 < s2.so := by simpa using UQ
              clear UQ
              have HU := hid hu
              clear hu
              go_wp2_with (first | (refine wpList_load_row rfl 39 _ rfl gr rfl 39 (stcells s2) (0, 0) _ QZr.out Try.underlying39 rfl ZS2.out ?_) | (refine wpList_store_row rfl 39 _ _ rfl (w.heap.size + 1 + 1) (stcells s2) rfl rfl 39 (stcells s1) FZr_2.out ZS2.out rfl (stcells_one _) ?_))
              exact ⟨⟨k + 1, by omega, by go_num, by rw [RK.out], E1.out, E2.out, by rw [SK2.out]; exact ZW.out, E3.out⟩, by simp [intOf]; omega⟩
            · have RK := hid (raisK_yes (u := upK C B s T) (k := k) (UU.out.trans hu))
              have UQ := UP.out
              rw [hu] at UQ
              have hq : 0 < s2.so := by simpa using UQ
              clear UQ
              have HU := hid hu
              clear hu
              go_wp2_with (first | (refine wpList_load_row rfl 39 _ rfl gr rfl 39 (stcells s2) (0, 0) _ QZr.out Try.underlying39 rfl ZS2.out ?_) | (refine wpList_store_row rfl 39 _ _ rfl (w.heap.size + 1 + 1) (stcells s2) rfl rfl 39 (stcells s1) FZr_2.out ZS2.out rfl (stcells_one _) ?_))
              exact ⟨⟨k + 1, by omega, by go_num, by rw [RK.out]; go_num, E1.out, E2.out, by rw [SK2.out]; exact ZW.out, E3.out⟩, by simp [intOf]; omega⟩
          · clear hi
            refine wpOpPlain rfl rfl ?_
            go_simp
            have HAr2 : Hid ((w0.drew.alloc (.cells zSt 39)).heap[w0.heap.size]? = some (.cells zSt 39 (0, 0))) := hid (heap_alloc_new w0.drew _)
            have Dr2 : Hid (Below w0.heap.size w0 (w0.drew.alloc (.cells zSt 39))) := hid (by have h := (Below.refl w0.drew.heap.size w0.drew).alloc (Nat.le_refl _) (.cells zSt 39); exact ⟨h.os, h.tape, h.output, h.size, h.block⟩)
            have Fr2_0 := hid ((Dr2.out.block _ (block_lt F0.out)).trans F0.out)
            have Fr2_1 := hid ((Dr2.out.block _ (block_lt F1.out)).trans F1.out)
            have Fr2_2 := hid ((Dr2.out.block _ (block_lt F2.out)).trans F2.out)
            have Hr2 := hid (below_trans HW.out Dr2.out HW.out.size)
            refine ⟨⟨Fr2_0.out, Fr2_1.out, Fr2_2.out⟩, ?_⟩
            refine genWorld (p := wpAnyH _ _ _ _ _ _ _ _) (w0 := w0.drew.alloc (.cells zSt 39)) (fun wr2 hwr2 => ?_)
            rw [← hwr2] at HAr2 Dr2 Hr2 Fr2_0 Fr2_1 Fr2_2
            have GBr : Hid (w.heap.size + 1 + 1 < w0.heap.size) := hid (block_lt F2.out)
            have GWr : Hid (w.heap.size ≤ w0.heap.size) := hid HW.out.size
            clear hwr2
            refine wpAnyH_all (rs := [5]) (fuel := 5) (by kernel_rfl) (by simp) ?_
            intro i hi
            obtain rfl : i = 5 := by simpa using hi
            clear hi
            refine wpOpPlain rfl rfl ?_
            go_simp
            go_at_call 67
            refine (CT.out (wr2) (CtlAt.of_block (w := wr2) Fr2_0.out) (TA.out _ Hr2.out)).mono ?_
            rintro e wr3 ⟨rfl, hr3⟩
            have Dr3 : Hid (Below wr2.heap.size wr2 wr3) := hid ⟨hr3.os, hr3.tape, hr3.output, hr3.size, hr3.block⟩
            clear hr3
            have Fr3_0 := hid ((Dr3.out.block _ (block_lt Fr2_0.out)).trans Fr2_0.out)
            have Fr3_1 := hid ((Dr3.out.block _ (block_lt Fr2_1.out)).trans Fr2_1.out)
            have Fr3_2 := hid ((Dr3.out.block _ (block_lt Fr2_2.out)).trans Fr2_2.out)
            have Hr3 := hid (below_trans Hr2.out Dr3.out Hr2.out.size)
            have Qr3 := hid ((Dr3.out.block _ (block_lt HAr2.out)).trans HAr2.out)
            refine ⟨⟨Fr3_0.out, Fr3_1.out, Fr3_2.out⟩, ?_⟩
            refine wpAnyH_take (i := 6) (fuel := 4) rfl (by kernel_rfl) (by kernel_rfl) (by kernel_rfl) (fun c a w h => h) (yldMove rfl _ rfl) ⟨Fr3_0.out, Fr3_1.out, Fr3_2.out⟩ ?_
            refine wpAnyH_take (i := 7) (fuel := 3) rfl (by kernel_rfl) (by kernel_rfl) (by kernel_rfl) (fun c a w h => h) (yldExtract rfl _ 0 rfl _ rfl _ rfl) ⟨Fr3_0.out, Fr3_1.out, Fr3_2.out⟩ ?_
            refine wpAnyH_take (i := 8) (fuel := 2) rfl (by kernel_rfl) (by kernel_rfl) (by kernel_rfl) (fun c a w h => h) (yldExtract rfl _ 1 rfl _ rfl _ rfl) ⟨Fr3_0.out, Fr3_1.out, Fr3_2.out⟩ ?_
            refine wpAnyH_all (rs := [10]) (fuel := 1) (by kernel_rfl) (by simp) ?_
            intro i hi
            obtain rfl : i = 10 := by simpa using hi
            clear hi
            refine wpOpPlain rfl rfl ?_
            refine wp_store_row 39 _ _ rfl (w0.heap.size) (stcells s2) rfl rfl 39 zSt Qr3.out ZS2.out FE.out (stcells_one _) ?_
            have Fr4_0 := hid ((setRow_other wr3 (w0.heap.size) (w.heap.size) (stcells s2) (by have := GBr.out; omega)).trans Fr3_0.out)
            have Fr4_1 := hid ((setRow_other wr3 (w0.heap.size) (w.heap.size + 1) (stcells s2) (by have := GBr.out; omega)).trans Fr3_1.out)
            have Fr4_2 := hid ((setRow_other wr3 (w0.heap.size) (w.heap.size + 1 + 1) (stcells s2) (by have := GBr.out; omega)).trans Fr3_2.out)
            have Hr4 := hid (below_setRow Hr3.out (g := w0.heap.size) GWr.out (stcells s2))
            have Qr4 := hid (blk_row_same wr3 (w0.heap.size) zSt (stcells s2) _ _ Qr3.out)
            refine ⟨⟨Fr4_0.out, Fr4_1.out, Fr4_2.out⟩, ?_⟩
            refine genWorld (p := wpAnyH _ _ _ _ _ _ _ _) (w0 := wr3.setRow (w0.heap.size) (stcells s2)) (fun wr4 hwr4 => ?_)
            rw [← hwr4] at Hr4 Qr4 Fr4_0 Fr4_1 Fr4_2
            clear hwr4
            refine wpAnyH_all (rs := [11]) (fuel := 0) (by kernel_rfl) (by simp) ?_
            intro i hi
            obtain rfl : i = 11 := by simpa using hi
            clear hi
            refine wpOpPlain rfl rfl ?_
            go_simp
            refine ⟨⟨Fr4_0.out, Fr4_1.out, Fr4_2.out⟩, ?_⟩
            refine wpAnyH_done (by kernel_rfl) ?_ 0
            simp only [Exit.then]
            have FZr_0 := Fr4_0
            have FZr_1 := Fr4_1
            have FZr_2 := Fr4_2
            have HZr := Hr4
            have QZr := Qr4
            generalize w0.heap.size = gr at QZr GBr GWr ⊢
            generalize wr4 = zr at *
            have c2 := (show zr.cell? ⟨gr, 2, none⟩ = some (.int .i8 s2.so) from cell_of_row _ gr 2 _ _ _ QZr.out)
            have so := SO.out
            have hr := raisK_le (upK C B s T) k
            have ZW := hid (blk_row_same _ _ _ (stcells s2) _ _ FZr_2.out)
            have E1 := hid ((setRow_other zr (w.heap.size + 1 + 1) (w.heap.size) (stcells s2) (by omega)).trans FZr_0.out)
            have E2 := hid ((setRow_other zr (w.heap.size + 1 + 1) (w.heap.size + 1) (stcells s2) (by omega)).trans FZr_1.out)
            have E3 := hid (below_setRow HZr.out (g := w.heap.size + 1 + 1) (by omega) (stcells s2))
            cases hu : u
            · have RK := hid (raisK_no (u := upK C B s T) (k := k) (UU.out.trans hu))
              have UQ := UP.out
              rw [hu] at UQ
              have hq : ¬ 0 < s2.so := by simpa using UQ
              clear UQ
              have HU := hid hu
              clear hu
              go_wp2_with (first | (refine wpList_load_row rfl 39 _ rfl gr rfl 39 (stcells s2) (0, 0) _ QZr.out Try.underlying39 rfl ZS2.out ?_) | (refine wpList_store_row rfl 39 _ _ rfl (w.heap.size + 1 + 1) (stcells s2) rfl rfl 39 (stcells s1) FZr_2.out ZS2.out rfl (stcells_one _) ?_))
              exact ⟨⟨k + 1, by omega, by go_num, by rw [RK.out], E1.out, E2.out, by rw [SK2.out]; exact ZW.out, E3.out⟩, by simp [intOf]; omega⟩
            · have RK := hid (raisK_yes (u := upK C B s T) (k := k) (UU.out.trans hu))
              have UQ := UP.out
              rw [hu] at UQ
              have hq : 0 < s2.so := by simpa using UQ
              clear UQ
              have HU := hid hu
              clear hu
              go_wp2_with (first | (refine wpList_load_row rfl 39 _ rfl gr rfl 39 (stcells s2) (0, 0) _ QZr.out Try.underlying39 rfl ZS2.out ?_) | (refine wpList_store_row rfl 39 _ _ rfl (w.heap.size + 1 + 1) (stcells s2) rfl rfl 39 (stcells s1) FZr_2.out ZS2.out rfl (stcells_one _) ?_))
              exact ⟨⟨k + 1, by omega, by go_num, by rw [RK.out]; go_num, E1.out, E2.out, by rw [SK2.out]; exact ZW.out, E3.out⟩, by simp [intOf]; omega⟩
        · clear hi
          refine wpOpPlain rfl rfl ?_
          go_simp
          have HAr1 : Hid ((w0.drew.alloc (.cells zSt 39)).heap[w0.heap.size]? = some (.cells zSt 39 (0, 0))) := hid (heap_alloc_new w0.drew _)
          have Dr1 : Hid (Below w0.heap.size w0 (w0.drew.alloc (.cells zSt 39))) := hid (by have h := (Below.refl w0.drew.heap.size w0.drew).alloc (Nat.le_refl _) (.cells zSt 39); exact ⟨h.os, h.tape, h.output, h.size, h.block⟩)
          have Fr1_0 := hid ((Dr1.out.block _ (block_lt F0.out)).trans F0.out)
          have Fr1_1 := hid ((Dr1.out.block _ (block_lt F1.out)).trans F1.out)
          have Fr1_2 := hid ((Dr1.out.block _ (block_lt F2.out)).trans F2.out)
          have Hr1 := hid (below_trans HW.out Dr1.out HW.out.size)
          refine ⟨⟨Fr1_0.out, Fr1_1.out, Fr1_2.out⟩, ?_⟩
          refine genWorld (p := wpAnyH _ _ _ _ _ _ _ _) (w0 := w0.drew.alloc (.cells zSt 39)) (fun wr1 hwr1 => ?_)
          rw [← hwr1] at HAr1 Dr1 Hr1 Fr1_0 Fr1_1 Fr1_2
          have GBr : Hid (w.heap.size + 1 + 1 < w0.heap.size) := hid (block_lt F2.out)
          have GWr : Hid (w.heap.size ≤ w0.heap.size) := hid HW.out.size
          clear hwr1
          refine wpAnyH_take (i := 4) (fuel := 6) rfl (by kernel_rfl) (by kernel_rfl) (by kernel_rfl) (fun c a w h => h) (yldPure (v := .pointer (some ⟨b1, o1 + k * 3, none⟩)) rfl (fun _ => by unfold execOp; go_simp)) ⟨Fr1_0.out, Fr1_1.out, Fr1_2.out⟩ ?_
          refine wpAnyH_all (rs := [5]) (fuel := 5) (by kernel_rfl) (by simp) ?_
          intro i hi
          obtain rfl : i = 5 := by simpa using hi
          clear hi
          refine wpOpPlain rfl rfl ?_
          go_simp
          go_at_call 67
          refine (CT.out (wr1) (CtlAt.of_block (w := wr1) Fr1_0.out) (TA.out _ Hr1.out)).mono ?_
          rintro e wr2 ⟨rfl, hr2⟩
          have Dr2 : Hid (Below wr1.heap.size wr1 wr2) := hid ⟨hr2.os, hr2.tape, hr2.output, hr2.size, hr2.block⟩
          clear hr2
          have Fr2_0 := hid ((Dr2.out.block _ (block_lt Fr1_0.out)).trans Fr1_0.out)
          have Fr2_1 := hid ((Dr2.out.block _ (block_lt Fr1_1.out)).trans Fr1_1.out)
          have Fr2_2 := hid ((Dr2.out.block _ (block_lt Fr1_2.out)).trans Fr1_2.out)
          have Hr2 := hid (below_trans Hr1.out Dr2.out Hr1.out.size)
          have Qr2 := hid ((Dr2.out.block _ (block_lt HAr1.out)).trans HAr1.out)
          refine ⟨⟨Fr2_0.out, Fr2_1.out, Fr2_2.out⟩, ?_⟩
          refine wpAnyH_take (i := 6) (fuel := 4) rfl (by kernel_rfl) (by kernel_rfl) (by kernel_rfl) (fun c a w h => h) (yldMove rfl _ rfl) ⟨Fr2_0.out, Fr2_1.out, Fr2_2.out⟩ ?_
          refine wpAnyH_take (i := 7) (fuel := 3) rfl (by kernel_rfl) (by kernel_rfl) (by kernel_rfl) (fun c a w h => h) (yldExtract rfl _ 0 rfl _ rfl _ rfl) ⟨Fr2_0.out, Fr2_1.out, Fr2_2.out⟩ ?_
          refine wpAnyH_take (i := 8) (fuel := 2) rfl (by kernel_rfl) (by kernel_rfl) (by kernel_rfl) (fun c a w h => h) (yldExtract rfl _ 1 rfl _ rfl _ rfl) ⟨Fr2_0.out, Fr2_1.out, Fr2_2.out⟩ ?_
          refine wpAnyH_all (rs := [10]) (fuel := 1) (by kernel_rfl) (by simp) ?_
          intro i hi
          obtain rfl : i = 10 := by simpa using hi
          clear hi
          refine wpOpPlain rfl rfl ?_
          refine wp_store_row 39 _ _ rfl (w0.heap.size) (stcells s2) rfl rfl 39 zSt Qr2.out ZS2.out FE.out (stcells_one _) ?_
          have Fr3_0 := hid ((setRow_other wr2 (w0.heap.size) (w.heap.size) (stcells s2) (by have := GBr.out; omega)).trans Fr2_0.out)
          have Fr3_1 := hid ((setRow_other wr2 (w0.heap.size) (w.heap.size + 1) (stcells s2) (by have := GBr.out; omega)).trans Fr2_1.out)
          have Fr3_2 := hid ((setRow_other wr2 (w0.heap.size) (w.heap.size + 1 + 1) (stcells s2) (by have := GBr.out; omega)).trans Fr2_2.out)
          have Hr3 := hid (below_setRow Hr2.out (g := w0.heap.size) GWr.out (stcells s2))
          have Qr3 := hid (blk_row_same wr2 (w0.heap.size) zSt (stcells s2) _ _ Qr2.out)
          refine ⟨⟨Fr3_0.out, Fr3_1.out, Fr3_2.out⟩, ?_⟩
          refine genWorld (p := wpAnyH _ _ _ _ _ _ _ _) (w0 := wr2.setRow (w0.heap.size) (stcells s2)) (fun wr3 hwr3 => ?_)
          rw [← hwr3] at Hr3 Qr3 Fr3_0 Fr3_1 Fr3_2
          clear hwr3
          refine wpAnyH_all (rs := [11]) (fuel := 0) (by kernel_rfl) (by simp) ?_
          intro i hi
          obtain rfl : i = 11 := by simpa using hi
          clear hi
          refine wpOpPlain rfl rfl ?_
          go_simp
          refine ⟨⟨Fr3_0.out, Fr3_1.out, Fr3_2.out⟩, ?_⟩
          refine wpAnyH_done (by kernel_rfl) ?_ 0
          simp only [Exit.then]
          have FZr_0 := Fr3_0
          have FZr_1 := Fr3_1
          have FZr_2 := Fr3_2
          have HZr := Hr3
          have QZr := Qr3
          generalize w0.heap.size = gr at QZr GBr GWr ⊢
          generalize wr3 = zr at *
          have c2 := (show zr.cell? ⟨gr, 2, none⟩ = some (.int .i8 s2.so) from cell_of_row _ gr 2 _ _ _ QZr.out)
          have so := SO.out
          have hr := raisK_le (upK C B s T) k
          have ZW := hid (blk_row_same _ _ _ (stcells s2) _ _ FZr_2.out)
          have E1 := hid ((setRow_other zr (w.heap.size + 1 + 1) (w.heap.size) (stcells s2) (by omega)).trans FZr_0.out)
          have E2 := hid ((setRow_other zr (w.heap.size + 1 + 1) (w.heap.size + 1) (stcells s2) (by omega)).trans FZr_1.out)
          have E3 := hid (below_setRow HZr.out (g := w.heap.size + 1 + 1) (by omega) (stcells s2))
          cases hu : u
          · have RK := hid (raisK_no (u := upK C B s T) (k := k) (UU.out.trans hu))
            have UQ := UP.out
            rw [hu] at UQ
            have hq : ¬ 0 < s2.so := by simpa using UQ
            clear UQ
            have HU := hid hu
            clear hu
            go_wp2_with (first | (refine wpList_load_row rfl 39 _ rfl gr rfl 39 (stcells s2) (0, 0) _ QZr.out Try.underlying39 rfl ZS2.out ?_) | (refine wpList_store_row rfl 39 _ _ rfl (w.heap.size + 1 + 1) (stcells s2) rfl rfl 39 (stcells s1) FZr_2.out ZS2.out rfl (stcells_one _) ?_))
            exact ⟨⟨k + 1, by omega, by go_num, by rw [RK.out], E1.out, E2.out, by rw [SK2.out]; exact ZW.out, E3.out⟩, by simp [intOf]; omega⟩
          · have RK := hid (raisK_yes (u := upK C B s T) (k := k) (UU.out.trans hu))
            have UQ := UP.out
            rw [hu] at UQ
            have hq : 0 < s2.so := by simpa using UQ
            clear UQ
            have HU := hid hu
            clear hu
            go_wp2_with (first | (refine wpList_load_row rfl 39 _ rfl gr rfl 39 (stcells s2) (0, 0) _ QZr.out Try.underlying39 rfl ZS2.out ?_) | (refine wpList_store_row rfl 39 _ _ rfl (w.heap.size + 1 + 1) (stcells s2) rfl rfl 39 (stcells s1) FZr_2.out ZS2.out rfl (stcells_one _) ?_))
            exact ⟨⟨k + 1, by omega, by go_num, by rw [RK.out]; go_num, E1.out, E2.out, by rw [SK2.out]; exact ZW.out, E3.out⟩, by simp [intOf]; omega⟩
      · obtain rfl : k = n := by omega
        go_wp2
        go_ret2
        exact ⟨by rw [hz2.out, EN.out]; rfl, HW.out⟩
  · have hz2 : Hid (¬ tkC C B s T n = 0) := hid hz
    generalize hcv : tkC C B s T n = cv at *
    have CV := hid hcv
    have hne : (cv != 0) = true := by rw [bne_iff_ne]; exact hz
    clear hcv hz hok hx wc wb ws
    go_enter Try.func10, Try.ntmps10
    go_wp2_with (go_at_call 66; refine CK.out.mono ?_; rintro e w1 ⟨rfl, h1⟩)
    go_ret2
    exact ⟨by rw [raN, CV.out, if_neg hz2.out]; rfl, below_trans H0.out h1 H0.out.size⟩
end Go.Proofs.Ytmjmgfojdomhlaa
