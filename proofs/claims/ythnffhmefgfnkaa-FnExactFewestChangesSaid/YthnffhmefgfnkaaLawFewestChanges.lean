/- FnExactFewestChanges returns true for all arguments: for each blind, each sun and all numbers the program's FewestChanges and the reference's return the same plan, number and code. No condition. -/
import Derived.Test.YthnffhmefgfnkaaFewest
import Derived.Test.YthnffhmefgfnkaaEqPlan
import Derived.Test.YthnffhmefgfnkaaHeld
import Derived.Test.YthnffhmefgfnkaaLift
import Derived.Deep.DeepCutAuto
namespace Go.Proofs.Ythnffhmefgfnkaa.lawFewestChanges
set_option maxRecDepth 20000
open Go.ChangeShapes Go.WideShapes Go.ChangeAt Go.RowKit Go.Proofs.Ythnffhmefgfnkaa

theorem name_world {B : Nat} {w wx : World} (_ : Below B w wx) : ∃ wz, wz = wx := ⟨_, rfl⟩
set_option maxHeartbeats 16000000 in
theorem walk (a0 : Bld) (p1 q1 : List Int) (a2 : Int) (a3 : Nat) (a4 : Nat) (w : World) (b0 : WfB a0) (l1 : p1.length = 24) (m1 : q1.length = 24) (b1 : I16 p1) (c1 : I16 q1) (x2 : -9223372036854775808 ≤ a2 ∧ a2 ≤ 9223372036854775807) (x3 : a3 < 4294967296) (x4 : a4 < 4294967296) :
    Calls Try.prog 12 #[.agg (bcells a0), .agg (scells p1 q1), .int .i64 a2, .float .f32 a3, .float .f32 a4] w fun e w' => e = .returned (.bool true) ∧ Below w.heap.size w w' := by
  have hs0 : (Try.prog.info? 26).map (·.size) = some (bcells a0).size := by kernel_rfl
  have hs1 : (Try.prog.info? 42).map (·.size) = some (scells p1 q1).size := by rw [scells_size l1 m1]; kernel_rfl
  have hB0 : ((w.alloc (.cells (bcells a0) 26)).alloc (.cells (scells p1 q1) 42)).heap[w.heap.size]? = some (.cells (bcells a0) 26 (0, 0)) := by repeat (first | exact blk_at _ _ _ (by simp) | rw [blk_past _ _ _ (by simp)])
  have hB1 : ((w.alloc (.cells (bcells a0) 26)).alloc (.cells (scells p1 q1) 42)).heap[w.heap.size + 1]? = some (.cells (scells p1 q1) 42 (0, 0)) := by repeat (first | exact blk_at _ _ _ (by simp) | rw [blk_past _ _ _ (by simp)])
  have h0 : Below w.heap.size w ((w.alloc (.cells (bcells a0) 26)).alloc (.cells (scells p1 q1) 42)) := (((Below.refl _ _).alloc (Nat.le_refl _) _).alloc (by simp) _)
  have B0 := hid b0
  have L1 := hid l1
  have M1 := hid m1
  have B1 := hid b1
  have C1 := hid c1
  have X2 := hid x2
  have X3 := hid x3
  have X4 := hid x4
  have HS0 := hid hs0
  have HS1 := hid hs1
  have HB0 := hid hB0
  have HB1 := hid hB1
  have H0 := hid h0
  clear b0 l1 m1 b1 c1 x2 x3 x4 hs0 hs1 hB0 hB1 h0
  have FS : Hid ((Try.prog.info? 47).map (·.size) = some (i16s (fcL a0 p1 q1 a2 a3 a4)).size) := hid (by rw [i16s_size, fcL_len a0 p1 q1 a2 a3 a4]; kernel_rfl)
  have FE : Hid (zP.size = (i16s (fcL a0 p1 q1 a2 a3 a4)).size) := hid (by rw [i16s_size, fcL_len a0 p1 q1 a2 a3 a4]; rfl)
  go_enter Try.func12, Try.ntmps12
  go_upto_region 1 with fail
  go_cut [11, 12, 13] (fun s1 s2 s3 wx => ∃ g : Nat, s1 = .pointer (some ⟨g, 0, none⟩) ∧ s2 = .int .i64 (fcN a0 p1 q1 a2 a3 a4) ∧ s3 = .int .i64 (fcC a0 p1 q1 a2 a3 a4) ∧ w.heap.size + 1 < g ∧ wx.heap[w.heap.size]? = some (.cells (bcells a0) 26 (0, 0)) ∧ wx.heap[w.heap.size + 1]? = some (.cells (scells p1 q1) 42 (0, 0)) ∧ wx.heap[g]? = some (.cells (i16s (fcL a0 p1 q1 a2 a3 a4)) 47 (0, 0)) ∧ Below w.heap.size w wx)
  case first =>
    generalize ((w.alloc (.cells (bcells a0) 26)).alloc (.cells (scells p1 q1) 42)) = w0 at *
    refine wp_region_held (S := fun wx => wx.heap[w.heap.size]? = some (.cells (bcells a0) 26 (0, 0)) ∧ wx.heap[w.heap.size + 1]? = some (.cells (scells p1 q1) 42 (0, 0))) (by kernel_rfl) ?_
    refine wpAnyH_take (i := 0) (fuel := 15) rfl (by kernel_rfl) (by kernel_rfl) (by kernel_rfl) (fun c a w h => h) (yieldsIf_row rfl _ _ rfl (w.heap.size) rfl 26 (bcells a0) (0, 0) _ (fun wx h => h.1) Try.underlying26 rfl HS0.out) ⟨HB0.out, HB1.out⟩ ?_
    refine wpAnyH_take (i := 2) (fuel := 14) rfl (by kernel_rfl) (by kernel_rfl) (by kernel_rfl) (fun c a w h => h) (yieldsIf_row rfl _ _ rfl (w.heap.size + 1) rfl 42 (scells p1 q1) (0, 0) _ (fun wx h => h.2) Try.underlying42 rfl HS1.out) ⟨HB0.out, HB1.out⟩ ?_
    refine wpAnyH_take (i := 4) (fuel := 13) rfl (by kernel_rfl) (by kernel_rfl) (by kernel_rfl) (fun c a w h => h) (yieldsIf_move rfl _ rfl) ⟨HB0.out, HB1.out⟩ ?_
    refine wpAnyH_take (i := 5) (fuel := 12) rfl (by kernel_rfl) (by kernel_rfl) (by kernel_rfl) (fun c a w h => h) (yieldsIf_move rfl _ rfl) ⟨HB0.out, HB1.out⟩ ?_
    refine wpAnyH_take (i := 6) (fuel := 11) rfl (by kernel_rfl) (by kernel_rfl) (by kernel_rfl) (fun c a w h => h) (yieldsIf_move rfl _ rfl) ⟨HB0.out, HB1.out⟩ ?_
    refine wpAnyH_all (rs := [1, 12]) (fuel := 10) (by kernel_rfl) (by simp) ?_
    intro i hi
    rcases (show i = 1 ∨ i = 12 from by simpa using hi) with rfl | rfl
    · clear hi
      refine wpOp_plain rfl rfl ?_
      go_simp
      go_at_call 15
      refine (c_toBlind a0 _).mono ?_
      rintro e wa1 ⟨rfl, ha1⟩
      have Da1 : Hid (Below w0.heap.size w0 wa1) := hid ⟨ha1.os, ha1.tape, ha1.output, ha1.size, ha1.block⟩
      clear ha1
      have Fa1_0 := hid ((Da1.out.block _ (block_lt HB0.out)).trans HB0.out)
      have Fa1_1 := hid ((Da1.out.block _ (block_lt HB1.out)).trans HB1.out)
      have Ha1 := hid (below_trans H0.out Da1.out H0.out.size)
      refine ⟨⟨Fa1_0.out, Fa1_1.out⟩, ?_⟩
      refine wpAnyH_all (rs := [3, 12]) (fuel := 9) (by kernel_rfl) (by simp) ?_
      intro i hi
      rcases (show i = 3 ∨ i = 12 from by simpa using hi) with rfl | rfl
      · clear hi
        refine wpOp_plain rfl rfl ?_
        go_simp
        go_at_call 22
        refine (c_toSun p1 q1 L1.out M1.out _).mono ?_
        rintro e wa2 ⟨rfl, ha2⟩
        have Da2 : Hid (Below wa1.heap.size wa1 wa2) := hid ⟨ha2.os, ha2.tape, ha2.output, ha2.size, ha2.block⟩
        clear ha2
        have Fa2_0 := hid ((Da2.out.block _ (block_lt Fa1_0.out)).trans Fa1_0.out)
        have Fa2_1 := hid ((Da2.out.block _ (block_lt Fa1_1.out)).trans Fa1_1.out)
        have Ha2 := hid (below_trans Ha1.out Da2.out Ha1.out.size)
        refine ⟨⟨Fa2_0.out, Fa2_1.out⟩, ?_⟩
        refine wpAnyH_all (rs := [7, 12]) (fuel := 8) (by kernel_rfl) (by simp) ?_
        intro i hi
        rcases (show i = 7 ∨ i = 12 from by simpa using hi) with rfl | rfl
        · clear hi
          refine wpOp_plain rfl rfl ?_
          go_simp
          go_at_call 48
          refine (c_specFewestChanges a0 B0.out p1 q1 L1.out M1.out B1.out C1.out a2 a3 a4 X3.out X4.out _).mono ?_
          rintro e wa3 ⟨rfl, ha3⟩
          have Da3 : Hid (Below wa2.heap.size wa2 wa3) := hid ⟨ha3.os, ha3.tape, ha3.output, ha3.size, ha3.block⟩
          clear ha3
          have Fa3_0 := hid ((Da3.out.block _ (block_lt Fa2_0.out)).trans Fa2_0.out)
          have Fa3_1 := hid ((Da3.out.block _ (block_lt Fa2_1.out)).trans Fa2_1.out)
          have Ha3 := hid (below_trans Ha2.out Da3.out Ha2.out.size)
          refine ⟨⟨Fa3_0.out, Fa3_1.out⟩, ?_⟩
          refine wpAnyH_take (i := 8) (fuel := 7) rfl (by kernel_rfl) (by kernel_rfl) (by kernel_rfl) (fun c a w h => h) (yieldsIf_move rfl _ rfl) ⟨Fa3_0.out, Fa3_1.out⟩ ?_
          refine wpAnyH_take (i := 9) (fuel := 6) rfl (by kernel_rfl) (by kernel_rfl) (by kernel_rfl) (fun c a w h => h) (yieldsIf_extract rfl _ 0 rfl _ rfl _ rfl) ⟨Fa3_0.out, Fa3_1.out⟩ ?_
          refine wpAnyH_take (i := 10) (fuel := 5) rfl (by kernel_rfl) (by kernel_rfl) (by kernel_rfl) (fun c a w h => h) (yieldsIf_extract rfl _ 1 rfl _ rfl _ rfl) ⟨Fa3_0.out, Fa3_1.out⟩ ?_
          refine wpAnyH_take (i := 11) (fuel := 4) rfl (by kernel_rfl) (by kernel_rfl) (by kernel_rfl) (fun c a w h => h) (yieldsIf_extract rfl _ 2 rfl _ rfl _ rfl) ⟨Fa3_0.out, Fa3_1.out⟩ ?_
          refine wpAnyH_all (rs := [12]) (fuel := 3) (by kernel_rfl) (by simp) ?_
          intro i hi
          obtain rfl : i = 12 := by simpa using hi
          clear hi
          refine wpOp_plain rfl rfl ?_
          go_simp
          have HAa4 : Hid ((wa3.alloc (.cells zP 47)).heap[wa3.heap.size]? = some (.cells zP 47 (0, 0))) := hid (heap_alloc_new wa3 _)
          have Da4 : Hid (Below wa3.heap.size wa3 (wa3.alloc (.cells zP 47))) := hid (by have h := (Below.refl wa3.heap.size wa3).alloc (Nat.le_refl _) (.cells zP 47); exact ⟨h.os, h.tape, h.output, h.size, h.block⟩)
          have Fa4_0 := hid ((Da4.out.block _ (block_lt Fa3_0.out)).trans Fa3_0.out)
          have Fa4_1 := hid ((Da4.out.block _ (block_lt Fa3_1.out)).trans Fa3_1.out)
          have Ha4 := hid (below_trans Ha3.out Da4.out Ha3.out.size)
          refine ⟨⟨Fa4_0.out, Fa4_1.out⟩, ?_⟩
          refine gen_world (p := wpAnyH _ _ _ _ _ _ _ _) (w0 := wa3.alloc (.cells zP 47)) (fun wa4 hwa4 => ?_)
          rw [← hwa4] at HAa4 Da4 Ha4 Fa4_0 Fa4_1
          have GBa : Hid (w.heap.size + 1 < wa3.heap.size) := hid (block_lt Fa3_1.out)
          have GWa : Hid (w.heap.size ≤ wa3.heap.size) := hid Ha3.out.size
          clear hwa4
          refine wpAnyH_all (rs := [13]) (fuel := 2) (by kernel_rfl) (by simp) ?_
          intro i hi
          obtain rfl : i = 13 := by simpa using hi
          clear hi
          refine wpOp_plain rfl rfl ?_
          refine wp_store_row 47 _ _ rfl (wa3.heap.size) (i16s (fcL a0 p1 q1 a2 a3 a4)) rfl rfl 47 zP HAa4.out FS.out FE.out (i16s_one _) ?_
          have Fa5_0 := hid ((setRow_other wa4 (wa3.heap.size) (w.heap.size) (i16s (fcL a0 p1 q1 a2 a3 a4)) (by have := GBa.out; omega)).trans Fa4_0.out)
          have Fa5_1 := hid ((setRow_other wa4 (wa3.heap.size) (w.heap.size + 1) (i16s (fcL a0 p1 q1 a2 a3 a4)) (by have := GBa.out; omega)).trans Fa4_1.out)
          have Ha5 := hid (below_setRow Ha4.out (g := wa3.heap.size) GWa.out (i16s (fcL a0 p1 q1 a2 a3 a4)))
          have Qa5 := hid (blk_row_same wa4 (wa3.heap.size) zP (i16s (fcL a0 p1 q1 a2 a3 a4)) _ _ HAa4.out)
          refine ⟨⟨Fa5_0.out, Fa5_1.out⟩, ?_⟩
          refine gen_world (p := wpAnyH _ _ _ _ _ _ _ _) (w0 := wa4.setRow (wa3.heap.size) (i16s (fcL a0 p1 q1 a2 a3 a4))) (fun wa5 hwa5 => ?_)
          rw [← hwa5] at Ha5 Qa5 Fa5_0 Fa5_1
          clear hwa5
          refine wpAnyH_all (rs := [14]) (fuel := 1) (by kernel_rfl) (by simp) ?_
          intro i hi
          obtain rfl : i = 14 := by simpa using hi
          clear hi
          refine wpOp_plain rfl rfl ?_
          go_simp
          refine ⟨⟨Fa5_0.out, Fa5_1.out⟩, ?_⟩
          refine wpAnyH_all (rs := [15]) (fuel := 0) (by kernel_rfl) (by simp) ?_
          intro i hi
          obtain rfl : i = 15 := by simpa using hi
          clear hi
          refine wpOp_plain rfl rfl ?_
          go_simp
          refine ⟨⟨Fa5_0.out, Fa5_1.out⟩, ?_⟩
          refine wpAnyH_done (by kernel_rfl) ?_ 0
          simp only [Exit.then]
          have FZa_0 := Fa5_0
          have FZa_1 := Fa5_1
          have HZa := Ha5
          have QZa := Qa5
          generalize wa3.heap.size = ga at QZa GBa GWa ⊢
          generalize wa5 = za at *
          go_wp2_with fail
          go_meet
          exact ⟨_, rfl, rfl, rfl, GBa.out, FZa_0.out, FZa_1.out, QZa.out, HZa.out⟩
        · clear hi
          refine wpOp_plain rfl rfl ?_
          go_simp
          have HAa3 : Hid ((wa2.alloc (.cells zP 47)).heap[wa2.heap.size]? = some (.cells zP 47 (0, 0))) := hid (heap_alloc_new wa2 _)
          have Da3 : Hid (Below wa2.heap.size wa2 (wa2.alloc (.cells zP 47))) := hid (by have h := (Below.refl wa2.heap.size wa2).alloc (Nat.le_refl _) (.cells zP 47); exact ⟨h.os, h.tape, h.output, h.size, h.block⟩)
          have Fa3_0 := hid ((Da3.out.block _ (block_lt Fa2_0.out)).trans Fa2_0.out)
          have Fa3_1 := hid ((Da3.out.block _ (block_lt Fa2_1.out)).trans Fa2_1.out)
          have Ha3 := hid (below_trans Ha2.out Da3.out Ha2.out.size)
          refine ⟨⟨Fa3_0.out, Fa3_1.out⟩, ?_⟩
          refine gen_world (p := wpAnyH _ _ _ _ _ _ _ _) (w0 := wa2.alloc (.cells zP 47)) (fun wa3 hwa3 => ?_)
          rw [← hwa3] at HAa3 Da3 Ha3 Fa3_0 Fa3_1
          have GBa : Hid (w.heap.size + 1 < wa2.heap.size) := hid (block_lt Fa2_1.out)
          have GWa : Hid (w.heap.size ≤ wa2.heap.size) := hid Ha2.out.size
          clear hwa3
          refine wpAnyH_all (rs := [7]) (fuel := 7) (by kernel_rfl) (by simp) ?_
          intro i hi
          obtain rfl : i = 7 := by simpa using hi
          clear hi
          refine wpOp_plain rfl rfl ?_
          go_simp
          go_at_call 48
          refine (c_specFewestChanges a0 B0.out p1 q1 L1.out M1.out B1.out C1.out a2 a3 a4 X3.out X4.out _).mono ?_
          rintro e wa4 ⟨rfl, ha4⟩
          have Da4 : Hid (Below wa3.heap.size wa3 wa4) := hid ⟨ha4.os, ha4.tape, ha4.output, ha4.size, ha4.block⟩
          clear ha4
          have Fa4_0 := hid ((Da4.out.block _ (block_lt Fa3_0.out)).trans Fa3_0.out)
          have Fa4_1 := hid ((Da4.out.block _ (block_lt Fa3_1.out)).trans Fa3_1.out)
          have Ha4 := hid (below_trans Ha3.out Da4.out Ha3.out.size)
          have Qa4 := hid ((Da4.out.block _ (block_lt HAa3.out)).trans HAa3.out)
          refine ⟨⟨Fa4_0.out, Fa4_1.out⟩, ?_⟩
          refine wpAnyH_take (i := 8) (fuel := 6) rfl (by kernel_rfl) (by kernel_rfl) (by kernel_rfl) (fun c a w h => h) (yieldsIf_move rfl _ rfl) ⟨Fa4_0.out, Fa4_1.out⟩ ?_
          refine wpAnyH_take (i := 9) (fuel := 5) rfl (by kernel_rfl) (by kernel_rfl) (by kernel_rfl) (fun c a w h => h) (yieldsIf_extract rfl _ 0 rfl _ rfl _ rfl) ⟨Fa4_0.out, Fa4_1.out⟩ ?_
          refine wpAnyH_take (i := 10) (fuel := 4) rfl (by kernel_rfl) (by kernel_rfl) (by kernel_rfl) (fun c a w h => h) (yieldsIf_extract rfl _ 1 rfl _ rfl _ rfl) ⟨Fa4_0.out, Fa4_1.out⟩ ?_
          refine wpAnyH_take (i := 11) (fuel := 3) rfl (by kernel_rfl) (by kernel_rfl) (by kernel_rfl) (fun c a w h => h) (yieldsIf_extract rfl _ 2 rfl _ rfl _ rfl) ⟨Fa4_0.out, Fa4_1.out⟩ ?_
          refine wpAnyH_all (rs := [13]) (fuel := 2) (by kernel_rfl) (by simp) ?_
          intro i hi
          obtain rfl : i = 13 := by simpa using hi
          clear hi
          refine wpOp_plain rfl rfl ?_
          refine wp_store_row 47 _ _ rfl (wa2.heap.size) (i16s (fcL a0 p1 q1 a2 a3 a4)) rfl rfl 47 zP Qa4.out FS.out FE.out (i16s_one _) ?_
          have Fa5_0 := hid ((setRow_other wa4 (wa2.heap.size) (w.heap.size) (i16s (fcL a0 p1 q1 a2 a3 a4)) (by have := GBa.out; omega)).trans Fa4_0.out)
          have Fa5_1 := hid ((setRow_other wa4 (wa2.heap.size) (w.heap.size + 1) (i16s (fcL a0 p1 q1 a2 a3 a4)) (by have := GBa.out; omega)).trans Fa4_1.out)
          have Ha5 := hid (below_setRow Ha4.out (g := wa2.heap.size) GWa.out (i16s (fcL a0 p1 q1 a2 a3 a4)))
          have Qa5 := hid (blk_row_same wa4 (wa2.heap.size) zP (i16s (fcL a0 p1 q1 a2 a3 a4)) _ _ Qa4.out)
          refine ⟨⟨Fa5_0.out, Fa5_1.out⟩, ?_⟩
          refine gen_world (p := wpAnyH _ _ _ _ _ _ _ _) (w0 := wa4.setRow (wa2.heap.size) (i16s (fcL a0 p1 q1 a2 a3 a4))) (fun wa5 hwa5 => ?_)
          rw [← hwa5] at Ha5 Qa5 Fa5_0 Fa5_1
          clear hwa5
          refine wpAnyH_all (rs := [14]) (fuel := 1) (by kernel_rfl) (by simp) ?_
          intro i hi
          obtain rfl : i = 14 := by simpa using hi
          clear hi
          refine wpOp_plain rfl rfl ?_
          go_simp
          refine ⟨⟨Fa5_0.out, Fa5_1.out⟩, ?_⟩
          refine wpAnyH_all (rs := [15]) (fuel := 0) (by kernel_rfl) (by simp) ?_
          intro i hi
          obtain rfl : i = 15 := by simpa using hi
          clear hi
          refine wpOp_plain rfl rfl ?_
          go_simp
          refine ⟨⟨Fa5_0.out, Fa5_1.out⟩, ?_⟩
          refine wpAnyH_done (by kernel_rfl) ?_ 0
          simp only [Exit.then]
          have FZa_0 := Fa5_0
          have FZa_1 := Fa5_1
          have HZa := Ha5
          have QZa := Qa5
          generalize wa2.heap.size = ga at QZa GBa GWa ⊢
          generalize wa5 = za at *
          go_wp2_with fail
          go_meet
          exact ⟨_, rfl, rfl, rfl, GBa.out, FZa_0.out, FZa_1.out, QZa.out, HZa.out⟩
      · clear hi
        refine wpOp_plain rfl rfl ?_
        go_simp
        have HAa2 : Hid ((wa1.alloc (.cells zP 47)).heap[wa1.heap.size]? = some (.cells zP 47 (0, 0))) := hid (heap_alloc_new wa1 _)
        have Da2 : Hid (Below wa1.heap.size wa1 (wa1.alloc (.cells zP 47))) := hid (by have h := (Below.refl wa1.heap.size wa1).alloc (Nat.le_refl _) (.cells zP 47); exact ⟨h.os, h.tape, h.output, h.size, h.block⟩)
        have Fa2_0 := hid ((Da2.out.block _ (block_lt Fa1_0.out)).trans Fa1_0.out)
        have Fa2_1 := hid ((Da2.out.block _ (block_lt Fa1_1.out)).trans Fa1_1.out)
        have Ha2 := hid (below_trans Ha1.out Da2.out Ha1.out.size)
        refine ⟨⟨Fa2_0.out, Fa2_1.out⟩, ?_⟩
        refine gen_world (p := wpAnyH _ _ _ _ _ _ _ _) (w0 := wa1.alloc (.cells zP 47)) (fun wa2 hwa2 => ?_)
        rw [← hwa2] at HAa2 Da2 Ha2 Fa2_0 Fa2_1
        have GBa : Hid (w.heap.size + 1 < wa1.heap.size) := hid (block_lt Fa1_1.out)
        have GWa : Hid (w.heap.size ≤ wa1.heap.size) := hid Ha1.out.size
        clear hwa2
        refine wpAnyH_all (rs := [3]) (fuel := 8) (by kernel_rfl) (by simp) ?_
        intro i hi
        obtain rfl : i = 3 := by simpa using hi
        clear hi
        refine wpOp_plain rfl rfl ?_
        go_simp
        go_at_call 22
        refine (c_toSun p1 q1 L1.out M1.out _).mono ?_
        rintro e wa3 ⟨rfl, ha3⟩
        have Da3 : Hid (Below wa2.heap.size wa2 wa3) := hid ⟨ha3.os, ha3.tape, ha3.output, ha3.size, ha3.block⟩
        clear ha3
        have Fa3_0 := hid ((Da3.out.block _ (block_lt Fa2_0.out)).trans Fa2_0.out)
        have Fa3_1 := hid ((Da3.out.block _ (block_lt Fa2_1.out)).trans Fa2_1.out)
        have Ha3 := hid (below_trans Ha2.out Da3.out Ha2.out.size)
        have Qa3 := hid ((Da3.out.block _ (block_lt HAa2.out)).trans HAa2.out)
        refine ⟨⟨Fa3_0.out, Fa3_1.out⟩, ?_⟩
        refine wpAnyH_all (rs := [7]) (fuel := 7) (by kernel_rfl) (by simp) ?_
        intro i hi
        obtain rfl : i = 7 := by simpa using hi
        clear hi
        refine wpOp_plain rfl rfl ?_
        go_simp
        go_at_call 48
        refine (c_specFewestChanges a0 B0.out p1 q1 L1.out M1.out B1.out C1.out a2 a3 a4 X3.out X4.out _).mono ?_
        rintro e wa4 ⟨rfl, ha4⟩
        have Da4 : Hid (Below wa3.heap.size wa3 wa4) := hid ⟨ha4.os, ha4.tape, ha4.output, ha4.size, ha4.block⟩
        clear ha4
        have Fa4_0 := hid ((Da4.out.block _ (block_lt Fa3_0.out)).trans Fa3_0.out)
        have Fa4_1 := hid ((Da4.out.block _ (block_lt Fa3_1.out)).trans Fa3_1.out)
        have Ha4 := hid (below_trans Ha3.out Da4.out Ha3.out.size)
        have Qa4 := hid ((Da4.out.block _ (block_lt Qa3.out)).trans Qa3.out)
        refine ⟨⟨Fa4_0.out, Fa4_1.out⟩, ?_⟩
        refine wpAnyH_take (i := 8) (fuel := 6) rfl (by kernel_rfl) (by kernel_rfl) (by kernel_rfl) (fun c a w h => h) (yieldsIf_move rfl _ rfl) ⟨Fa4_0.out, Fa4_1.out⟩ ?_
        refine wpAnyH_take (i := 9) (fuel := 5) rfl (by kernel_rfl) (by kernel_rfl) (by kernel_rfl) (fun c a w h => h) (yieldsIf_extract rfl _ 0 rfl _ rfl _ rfl) ⟨Fa4_0.out, Fa4_1.out⟩ ?_
        refine wpAnyH_take (i := 10) (fuel := 4) rfl (by kernel_rfl) (by kernel_rfl) (by kernel_rfl) (fun c a w h => h) (yieldsIf_extract rfl _ 1 rfl _ rfl _ rfl) ⟨Fa4_0.out, Fa4_1.out⟩ ?_
        refine wpAnyH_take (i := 11) (fuel := 3) rfl (by kernel_rfl) (by kernel_rfl) (by kernel_rfl) (fun c a w h => h) (yieldsIf_extract rfl _ 2 rfl _ rfl _ rfl) ⟨Fa4_0.out, Fa4_1.out⟩ ?_
        refine wpAnyH_all (rs := [13]) (fuel := 2) (by kernel_rfl) (by simp) ?_
        intro i hi
        obtain rfl : i = 13 := by simpa using hi
        clear hi
        refine wpOp_plain rfl rfl ?_
        refine wp_store_row 47 _ _ rfl (wa1.heap.size) (i16s (fcL a0 p1 q1 a2 a3 a4)) rfl rfl 47 zP Qa4.out FS.out FE.out (i16s_one _) ?_
        have Fa5_0 := hid ((setRow_other wa4 (wa1.heap.size) (w.heap.size) (i16s (fcL a0 p1 q1 a2 a3 a4)) (by have := GBa.out; omega)).trans Fa4_0.out)
        have Fa5_1 := hid ((setRow_other wa4 (wa1.heap.size) (w.heap.size + 1) (i16s (fcL a0 p1 q1 a2 a3 a4)) (by have := GBa.out; omega)).trans Fa4_1.out)
        have Ha5 := hid (below_setRow Ha4.out (g := wa1.heap.size) GWa.out (i16s (fcL a0 p1 q1 a2 a3 a4)))
        have Qa5 := hid (blk_row_same wa4 (wa1.heap.size) zP (i16s (fcL a0 p1 q1 a2 a3 a4)) _ _ Qa4.out)
        refine ⟨⟨Fa5_0.out, Fa5_1.out⟩, ?_⟩
        refine gen_world (p := wpAnyH _ _ _ _ _ _ _ _) (w0 := wa4.setRow (wa1.heap.size) (i16s (fcL a0 p1 q1 a2 a3 a4))) (fun wa5 hwa5 => ?_)
        rw [← hwa5] at Ha5 Qa5 Fa5_0 Fa5_1
        clear hwa5
        refine wpAnyH_all (rs := [14]) (fuel := 1) (by kernel_rfl) (by simp) ?_
        intro i hi
        obtain rfl : i = 14 := by simpa using hi
        clear hi
        refine wpOp_plain rfl rfl ?_
        go_simp
        refine ⟨⟨Fa5_0.out, Fa5_1.out⟩, ?_⟩
        refine wpAnyH_all (rs := [15]) (fuel := 0) (by kernel_rfl) (by simp) ?_
        intro i hi
        obtain rfl : i = 15 := by simpa using hi
        clear hi
        refine wpOp_plain rfl rfl ?_
        go_simp
        refine ⟨⟨Fa5_0.out, Fa5_1.out⟩, ?_⟩
        refine wpAnyH_done (by kernel_rfl) ?_ 0
        simp only [Exit.then]
        have FZa_0 := Fa5_0
        have FZa_1 := Fa5_1
        have HZa := Ha5
        have QZa := Qa5
        generalize wa1.heap.size = ga at QZa GBa GWa ⊢
        generalize wa5 = za at *
        go_wp2_with fail
        go_meet
        exact ⟨_, rfl, rfl, rfl, GBa.out, FZa_0.out, FZa_1.out, QZa.out, HZa.out⟩
    · clear hi
      refine wpOp_plain rfl rfl ?_
      go_simp
      have HAa1 : Hid ((w0.drew.alloc (.cells zP 47)).heap[w0.heap.size]? = some (.cells zP 47 (0, 0))) := hid (heap_alloc_new w0.drew _)
      have Da1 : Hid (Below w0.heap.size w0 (w0.drew.alloc (.cells zP 47))) := hid (by have h := (Below.refl w0.drew.heap.size w0.drew).alloc (Nat.le_refl _) (.cells zP 47); exact ⟨h.os, h.tape, h.output, h.size, h.block⟩)
      have Fa1_0 := hid ((Da1.out.block _ (block_lt HB0.out)).trans HB0.out)
      have Fa1_1 := hid ((Da1.out.block _ (block_lt HB1.out)).trans HB1.out)
      have Ha1 := hid (below_trans H0.out Da1.out H0.out.size)
      refine ⟨⟨Fa1_0.out, Fa1_1.out⟩, ?_⟩
      refine gen_world (p := wpAnyH _ _ _ _ _ _ _ _) (w0 := w0.drew.alloc (.cells zP 47)) (fun wa1 hwa1 => ?_)
      rw [← hwa1] at HAa1 Da1 Ha1 Fa1_0 Fa1_1
      have GBa : Hid (w.heap.size + 1 < w0.heap.size) := hid (block_lt HB1.out)
      have GWa : Hid (w.heap.size ≤ w0.heap.size) := hid H0.out.size
      clear hwa1
      refine wpAnyH_all (rs := [1]) (fuel := 9) (by kernel_rfl) (by simp) ?_
      intro i hi
      obtain rfl : i = 1 := by simpa using hi
      clear hi
      refine wpOp_plain rfl rfl ?_
      go_simp
      go_at_call 15
      refine (c_toBlind a0 _).mono ?_
      rintro e wa2 ⟨rfl, ha2⟩
      have Da2 : Hid (Below wa1.heap.size wa1 wa2) := hid ⟨ha2.os, ha2.tape, ha2.output, ha2.size, ha2.block⟩
      clear ha2
      have Fa2_0 := hid ((Da2.out.block _ (block_lt Fa1_0.out)).trans Fa1_0.out)
      have Fa2_1 := hid ((Da2.out.block _ (block_lt Fa1_1.out)).trans Fa1_1.out)
      have Ha2 := hid (below_trans Ha1.out Da2.out Ha1.out.size)
      have Qa2 := hid ((Da2.out.block _ (block_lt HAa1.out)).trans HAa1.out)
      refine ⟨⟨Fa2_0.out, Fa2_1.out⟩, ?_⟩
      refine wpAnyH_all (rs := [3]) (fuel := 8) (by kernel_rfl) (by simp) ?_
      intro i hi
      obtain rfl : i = 3 := by simpa using hi
      clear hi
      refine wpOp_plain rfl rfl ?_
      go_simp
      go_at_call 22
      refine (c_toSun p1 q1 L1.out M1.out _).mono ?_
      rintro e wa3 ⟨rfl, ha3⟩
      have Da3 : Hid (Below wa2.heap.size wa2 wa3) := hid ⟨ha3.os, ha3.tape, ha3.output, ha3.size, ha3.block⟩
      clear ha3
      have Fa3_0 := hid ((Da3.out.block _ (block_lt Fa2_0.out)).trans Fa2_0.out)
      have Fa3_1 := hid ((Da3.out.block _ (block_lt Fa2_1.out)).trans Fa2_1.out)
      have Ha3 := hid (below_trans Ha2.out Da3.out Ha2.out.size)
      have Qa3 := hid ((Da3.out.block _ (block_lt Qa2.out)).trans Qa2.out)
      refine ⟨⟨Fa3_0.out, Fa3_1.out⟩, ?_⟩
      refine wpAnyH_all (rs := [7]) (fuel := 7) (by kernel_rfl) (by simp) ?_
      intro i hi
      obtain rfl : i = 7 := by simpa using hi
      clear hi
      refine wpOp_plain rfl rfl ?_
      go_simp
      go_at_call 48
      refine (c_specFewestChanges a0 B0.out p1 q1 L1.out M1.out B1.out C1.out a2 a3 a4 X3.out X4.out _).mono ?_
      rintro e wa4 ⟨rfl, ha4⟩
      have Da4 : Hid (Below wa3.heap.size wa3 wa4) := hid ⟨ha4.os, ha4.tape, ha4.output, ha4.size, ha4.block⟩
      clear ha4
      have Fa4_0 := hid ((Da4.out.block _ (block_lt Fa3_0.out)).trans Fa3_0.out)
      have Fa4_1 := hid ((Da4.out.block _ (block_lt Fa3_1.out)).trans Fa3_1.out)
      have Ha4 := hid (below_trans Ha3.out Da4.out Ha3.out.size)
      have Qa4 := hid ((Da4.out.block _ (block_lt Qa3.out)).trans Qa3.out)
      refine ⟨⟨Fa4_0.out, Fa4_1.out⟩, ?_⟩
      refine wpAnyH_take (i := 8) (fuel := 6) rfl (by kernel_rfl) (by kernel_rfl) (by kernel_rfl) (fun c a w h => h) (yieldsIf_move rfl _ rfl) ⟨Fa4_0.out, Fa4_1.out⟩ ?_
      refine wpAnyH_take (i := 9) (fuel := 5) rfl (by kernel_rfl) (by kernel_rfl) (by kernel_rfl) (fun c a w h => h) (yieldsIf_extract rfl _ 0 rfl _ rfl _ rfl) ⟨Fa4_0.out, Fa4_1.out⟩ ?_
      refine wpAnyH_take (i := 10) (fuel := 4) rfl (by kernel_rfl) (by kernel_rfl) (by kernel_rfl) (fun c a w h => h) (yieldsIf_extract rfl _ 1 rfl _ rfl _ rfl) ⟨Fa4_0.out, Fa4_1.out⟩ ?_
      refine wpAnyH_take (i := 11) (fuel := 3) rfl (by kernel_rfl) (by kernel_rfl) (by kernel_rfl) (fun c a w h => h) (yieldsIf_extract rfl _ 2 rfl _ rfl _ rfl) ⟨Fa4_0.out, Fa4_1.out⟩ ?_
      refine wpAnyH_all (rs := [13]) (fuel := 2) (by kernel_rfl) (by simp) ?_
      intro i hi
      obtain rfl : i = 13 := by simpa using hi
      clear hi
      refine wpOp_plain rfl rfl ?_
      refine wp_store_row 47 _ _ rfl (w0.heap.size) (i16s (fcL a0 p1 q1 a2 a3 a4)) rfl rfl 47 zP Qa4.out FS.out FE.out (i16s_one _) ?_
      have Fa5_0 := hid ((setRow_other wa4 (w0.heap.size) (w.heap.size) (i16s (fcL a0 p1 q1 a2 a3 a4)) (by have := GBa.out; omega)).trans Fa4_0.out)
      have Fa5_1 := hid ((setRow_other wa4 (w0.heap.size) (w.heap.size + 1) (i16s (fcL a0 p1 q1 a2 a3 a4)) (by have := GBa.out; omega)).trans Fa4_1.out)
      have Ha5 := hid (below_setRow Ha4.out (g := w0.heap.size) GWa.out (i16s (fcL a0 p1 q1 a2 a3 a4)))
      have Qa5 := hid (blk_row_same wa4 (w0.heap.size) zP (i16s (fcL a0 p1 q1 a2 a3 a4)) _ _ Qa4.out)
      refine ⟨⟨Fa5_0.out, Fa5_1.out⟩, ?_⟩
      refine gen_world (p := wpAnyH _ _ _ _ _ _ _ _) (w0 := wa4.setRow (w0.heap.size) (i16s (fcL a0 p1 q1 a2 a3 a4))) (fun wa5 hwa5 => ?_)
      rw [← hwa5] at Ha5 Qa5 Fa5_0 Fa5_1
      clear hwa5
      refine wpAnyH_all (rs := [14]) (fuel := 1) (by kernel_rfl) (by simp) ?_
      intro i hi
      obtain rfl : i = 14 := by simpa using hi
      clear hi
      refine wpOp_plain rfl rfl ?_
      go_simp
      refine ⟨⟨Fa5_0.out, Fa5_1.out⟩, ?_⟩
      refine wpAnyH_all (rs := [15]) (fuel := 0) (by kernel_rfl) (by simp) ?_
      intro i hi
      obtain rfl : i = 15 := by simpa using hi
      clear hi
      refine wpOp_plain rfl rfl ?_
      go_simp
      refine ⟨⟨Fa5_0.out, Fa5_1.out⟩, ?_⟩
      refine wpAnyH_done (by kernel_rfl) ?_ 0
      simp only [Exit.then]
      have FZa_0 := Fa5_0
      have FZa_1 := Fa5_1
      have HZa := Ha5
      have QZa := Qa5
      generalize w0.heap.size = ga at QZa GBa GWa ⊢
      generalize wa5 = za at *
      go_wp2_with fail
      go_meet
      exact ⟨_, rfl, rfl, rfl, GBa.out, FZa_0.out, FZa_1.out, QZa.out, HZa.out⟩
  case rest =>
    obtain ⟨ga, rfl, rfl, rfl, gb, f0, f1, qa, ha⟩ := hcut
    obtain ⟨wz, hwz⟩ := name_world ha
    subst hwz
    have GBa := hid gb
    have FA0 := hid f0
    have FA1 := hid f1
    have QA := hid qa
    have HA := hid ha
    clear gb f0 f1 qa ha HB0 HB1 H0
    go_upto_region 2 with fail
    go_cut [14, 15, 16] (fun s1 s2 s3 wx => ∃ g : Nat, s1 = .pointer (some ⟨g, 0, none⟩) ∧ s2 = .int .i64 (fcN a0 p1 q1 a2 a3 a4) ∧ s3 = .int .i64 (fcC a0 p1 q1 a2 a3 a4) ∧ ga < g ∧ wx.heap[ga]? = some (.cells (i16s (fcL a0 p1 q1 a2 a3 a4)) 47 (0, 0)) ∧ wx.heap[g]? = some (.cells (i16s (fcL a0 p1 q1 a2 a3 a4)) 47 (0, 0)) ∧ Below w.heap.size w wx)
    case first =>
      refine wp_region_held (S := fun wx => wx.heap[w.heap.size]? = some (.cells (bcells a0) 26 (0, 0)) ∧ wx.heap[w.heap.size + 1]? = some (.cells (scells p1 q1) 42 (0, 0)) ∧ wx.heap[ga]? = some (.cells ((i16s (fcL a0 p1 q1 a2 a3 a4))) 47 (0, 0))) (by kernel_rfl) ?_
      refine wpAnyH_take (i := 0) (fuel := 15) rfl (by kernel_rfl) (by kernel_rfl) (by kernel_rfl) (fun c a w h => h) (yieldsIf_row rfl _ _ rfl (w.heap.size) rfl 26 (bcells a0) (0, 0) _ (fun wx h => h.1) Try.underlying26 rfl HS0.out) ⟨FA0.out, FA1.out, QA.out⟩ ?_
      refine wpAnyH_take (i := 2) (fuel := 14) rfl (by kernel_rfl) (by kernel_rfl) (by kernel_rfl) (fun c a w h => h) (yieldsIf_row rfl _ _ rfl (w.heap.size + 1) rfl 42 (scells p1 q1) (0, 0) _ (fun wx h => h.2.1) Try.underlying42 rfl HS1.out) ⟨FA0.out, FA1.out, QA.out⟩ ?_
      refine wpAnyH_take (i := 4) (fuel := 13) rfl (by kernel_rfl) (by kernel_rfl) (by kernel_rfl) (fun c a w h => h) (yieldsIf_move rfl _ rfl) ⟨FA0.out, FA1.out, QA.out⟩ ?_
      refine wpAnyH_take (i := 5) (fuel := 12) rfl (by kernel_rfl) (by kernel_rfl) (by kernel_rfl) (fun c a w h => h) (yieldsIf_move rfl _ rfl) ⟨FA0.out, FA1.out, QA.out⟩ ?_
      refine wpAnyH_take (i := 6) (fuel := 11) rfl (by kernel_rfl) (by kernel_rfl) (by kernel_rfl) (fun c a w h => h) (yieldsIf_move rfl _ rfl) ⟨FA0.out, FA1.out, QA.out⟩ ?_
      refine wpAnyH_all (rs := [1, 12]) (fuel := 10) (by kernel_rfl) (by simp) ?_
      intro i hi
      rcases (show i = 1 ∨ i = 12 from by simpa using hi) with rfl | rfl
      · clear hi
        refine wpOp_plain rfl rfl ?_
        go_simp
        go_at_call 15
        refine (c_toBlind a0 _).mono ?_
        rintro e wb1 ⟨rfl, hb1⟩
        have Db1 : Hid (Below wz.heap.size wz wb1) := hid ⟨hb1.os, hb1.tape, hb1.output, hb1.size, hb1.block⟩
        clear hb1
        have Fb1_0 := hid ((Db1.out.block _ (block_lt FA0.out)).trans FA0.out)
        have Fb1_1 := hid ((Db1.out.block _ (block_lt FA1.out)).trans FA1.out)
        have Fb1_2 := hid ((Db1.out.block _ (block_lt QA.out)).trans QA.out)
        have Hb1 := hid (below_trans HA.out Db1.out HA.out.size)
        refine ⟨⟨Fb1_0.out, Fb1_1.out, Fb1_2.out⟩, ?_⟩
        refine wpAnyH_all (rs := [3, 12]) (fuel := 9) (by kernel_rfl) (by simp) ?_
        intro i hi
        rcases (show i = 3 ∨ i = 12 from by simpa using hi) with rfl | rfl
        · clear hi
          refine wpOp_plain rfl rfl ?_
          go_simp
          go_at_call 22
          refine (c_toSun p1 q1 L1.out M1.out _).mono ?_
          rintro e wb2 ⟨rfl, hb2⟩
          have Db2 : Hid (Below wb1.heap.size wb1 wb2) := hid ⟨hb2.os, hb2.tape, hb2.output, hb2.size, hb2.block⟩
          clear hb2
          have Fb2_0 := hid ((Db2.out.block _ (block_lt Fb1_0.out)).trans Fb1_0.out)
          have Fb2_1 := hid ((Db2.out.block _ (block_lt Fb1_1.out)).trans Fb1_1.out)
          have Fb2_2 := hid ((Db2.out.block _ (block_lt Fb1_2.out)).trans Fb1_2.out)
          have Hb2 := hid (below_trans Hb1.out Db2.out Hb1.out.size)
          refine ⟨⟨Fb2_0.out, Fb2_1.out, Fb2_2.out⟩, ?_⟩
          refine wpAnyH_all (rs := [7, 12]) (fuel := 8) (by kernel_rfl) (by simp) ?_
          intro i hi
          rcases (show i = 7 ∨ i = 12 from by simpa using hi) with rfl | rfl
          · clear hi
            refine wpOp_plain rfl rfl ?_
            go_simp
            go_at_call 49
            refine (c_implFewestChanges a0 B0.out p1 q1 L1.out M1.out B1.out C1.out a2 a3 a4 _).mono ?_
            rintro e wb3 ⟨rfl, hb3⟩
            have Db3 : Hid (Below wb2.heap.size wb2 wb3) := hid ⟨hb3.os, hb3.tape, hb3.output, hb3.size, hb3.block⟩
            clear hb3
            have Fb3_0 := hid ((Db3.out.block _ (block_lt Fb2_0.out)).trans Fb2_0.out)
            have Fb3_1 := hid ((Db3.out.block _ (block_lt Fb2_1.out)).trans Fb2_1.out)
            have Fb3_2 := hid ((Db3.out.block _ (block_lt Fb2_2.out)).trans Fb2_2.out)
            have Hb3 := hid (below_trans Hb2.out Db3.out Hb2.out.size)
            refine ⟨⟨Fb3_0.out, Fb3_1.out, Fb3_2.out⟩, ?_⟩
            refine wpAnyH_take (i := 8) (fuel := 7) rfl (by kernel_rfl) (by kernel_rfl) (by kernel_rfl) (fun c a w h => h) (yieldsIf_move rfl _ rfl) ⟨Fb3_0.out, Fb3_1.out, Fb3_2.out⟩ ?_
            refine wpAnyH_take (i := 9) (fuel := 6) rfl (by kernel_rfl) (by kernel_rfl) (by kernel_rfl) (fun c a w h => h) (yieldsIf_extract rfl _ 0 rfl _ rfl _ rfl) ⟨Fb3_0.out, Fb3_1.out, Fb3_2.out⟩ ?_
            refine wpAnyH_take (i := 10) (fuel := 5) rfl (by kernel_rfl) (by kernel_rfl) (by kernel_rfl) (fun c a w h => h) (yieldsIf_extract rfl _ 1 rfl _ rfl _ rfl) ⟨Fb3_0.out, Fb3_1.out, Fb3_2.out⟩ ?_
            refine wpAnyH_take (i := 11) (fuel := 4) rfl (by kernel_rfl) (by kernel_rfl) (by kernel_rfl) (fun c a w h => h) (yieldsIf_extract rfl _ 2 rfl _ rfl _ rfl) ⟨Fb3_0.out, Fb3_1.out, Fb3_2.out⟩ ?_
            refine wpAnyH_all (rs := [12]) (fuel := 3) (by kernel_rfl) (by simp) ?_
            intro i hi
            obtain rfl : i = 12 := by simpa using hi
            clear hi
            refine wpOp_plain rfl rfl ?_
            go_simp
            have HAb4 : Hid ((wb3.alloc (.cells zP 47)).heap[wb3.heap.size]? = some (.cells zP 47 (0, 0))) := hid (heap_alloc_new wb3 _)
            have Db4 : Hid (Below wb3.heap.size wb3 (wb3.alloc (.cells zP 47))) := hid (by have h := (Below.refl wb3.heap.size wb3).alloc (Nat.le_refl _) (.cells zP 47); exact ⟨h.os, h.tape, h.output, h.size, h.block⟩)
            have Fb4_0 := hid ((Db4.out.block _ (block_lt Fb3_0.out)).trans Fb3_0.out)
            have Fb4_1 := hid ((Db4.out.block _ (block_lt Fb3_1.out)).trans Fb3_1.out)
            have Fb4_2 := hid ((Db4.out.block _ (block_lt Fb3_2.out)).trans Fb3_2.out)
            have Hb4 := hid (below_trans Hb3.out Db4.out Hb3.out.size)
            refine ⟨⟨Fb4_0.out, Fb4_1.out, Fb4_2.out⟩, ?_⟩
            refine gen_world (p := wpAnyH _ _ _ _ _ _ _ _) (w0 := wb3.alloc (.cells zP 47)) (fun wb4 hwb4 => ?_)
            rw [← hwb4] at HAb4 Db4 Hb4 Fb4_0 Fb4_1 Fb4_2
            have GBb : Hid (ga < wb3.heap.size) := hid (block_lt Fb3_2.out)
            have GWb : Hid (w.heap.size ≤ wb3.heap.size) := hid Hb3.out.size
            clear hwb4
            refine wpAnyH_all (rs := [13]) (fuel := 2) (by kernel_rfl) (by simp) ?_
            intro i hi
            obtain rfl : i = 13 := by simpa using hi
            clear hi
            refine wpOp_plain rfl rfl ?_
            refine wp_store_row 47 _ _ rfl (wb3.heap.size) (i16s (fcL a0 p1 q1 a2 a3 a4)) rfl rfl 47 zP HAb4.out FS.out FE.out (i16s_one _) ?_
            have Fb5_0 := hid ((setRow_other wb4 (wb3.heap.size) (w.heap.size) (i16s (fcL a0 p1 q1 a2 a3 a4)) (by have := GBb.out; have := GBa.out; omega)).trans Fb4_0.out)
            have Fb5_1 := hid ((setRow_other wb4 (wb3.heap.size) (w.heap.size + 1) (i16s (fcL a0 p1 q1 a2 a3 a4)) (by have := GBb.out; have := GBa.out; omega)).trans Fb4_1.out)
            have Fb5_2 := hid ((setRow_other wb4 (wb3.heap.size) (ga) (i16s (fcL a0 p1 q1 a2 a3 a4)) (by have := GBb.out; have := GBa.out; omega)).trans Fb4_2.out)
            have Hb5 := hid (below_setRow Hb4.out (g := wb3.heap.size) GWb.out (i16s (fcL a0 p1 q1 a2 a3 a4)))
            have Qb5 := hid (blk_row_same wb4 (wb3.heap.size) zP (i16s (fcL a0 p1 q1 a2 a3 a4)) _ _ HAb4.out)
            refine ⟨⟨Fb5_0.out, Fb5_1.out, Fb5_2.out⟩, ?_⟩
            refine gen_world (p := wpAnyH _ _ _ _ _ _ _ _) (w0 := wb4.setRow (wb3.heap.size) (i16s (fcL a0 p1 q1 a2 a3 a4))) (fun wb5 hwb5 => ?_)
            rw [← hwb5] at Hb5 Qb5 Fb5_0 Fb5_1 Fb5_2
            clear hwb5
            refine wpAnyH_all (rs := [14]) (fuel := 1) (by kernel_rfl) (by simp) ?_
            intro i hi
            obtain rfl : i = 14 := by simpa using hi
            clear hi
            refine wpOp_plain rfl rfl ?_
            go_simp
            refine ⟨⟨Fb5_0.out, Fb5_1.out, Fb5_2.out⟩, ?_⟩
            refine wpAnyH_all (rs := [15]) (fuel := 0) (by kernel_rfl) (by simp) ?_
            intro i hi
            obtain rfl : i = 15 := by simpa using hi
            clear hi
            refine wpOp_plain rfl rfl ?_
            go_simp
            refine ⟨⟨Fb5_0.out, Fb5_1.out, Fb5_2.out⟩, ?_⟩
            refine wpAnyH_done (by kernel_rfl) ?_ 0
            simp only [Exit.then]
            have FZb_0 := Fb5_0
            have FZb_1 := Fb5_1
            have FZb_2 := Fb5_2
            have HZb := Hb5
            have QZb := Qb5
            generalize wb3.heap.size = gb at QZb GBb GWb ⊢
            generalize wb5 = zb at *
            go_wp2_with fail
            go_meet
            exact ⟨_, rfl, rfl, rfl, GBb.out, FZb_2.out, QZb.out, HZb.out⟩
          · clear hi
            refine wpOp_plain rfl rfl ?_
            go_simp
            have HAb3 : Hid ((wb2.alloc (.cells zP 47)).heap[wb2.heap.size]? = some (.cells zP 47 (0, 0))) := hid (heap_alloc_new wb2 _)
            have Db3 : Hid (Below wb2.heap.size wb2 (wb2.alloc (.cells zP 47))) := hid (by have h := (Below.refl wb2.heap.size wb2).alloc (Nat.le_refl _) (.cells zP 47); exact ⟨h.os, h.tape, h.output, h.size, h.block⟩)
            have Fb3_0 := hid ((Db3.out.block _ (block_lt Fb2_0.out)).trans Fb2_0.out)
            have Fb3_1 := hid ((Db3.out.block _ (block_lt Fb2_1.out)).trans Fb2_1.out)
            have Fb3_2 := hid ((Db3.out.block _ (block_lt Fb2_2.out)).trans Fb2_2.out)
            have Hb3 := hid (below_trans Hb2.out Db3.out Hb2.out.size)
            refine ⟨⟨Fb3_0.out, Fb3_1.out, Fb3_2.out⟩, ?_⟩
            refine gen_world (p := wpAnyH _ _ _ _ _ _ _ _) (w0 := wb2.alloc (.cells zP 47)) (fun wb3 hwb3 => ?_)
            rw [← hwb3] at HAb3 Db3 Hb3 Fb3_0 Fb3_1 Fb3_2
            have GBb : Hid (ga < wb2.heap.size) := hid (block_lt Fb2_2.out)
            have GWb : Hid (w.heap.size ≤ wb2.heap.size) := hid Hb2.out.size
            clear hwb3
            refine wpAnyH_all (rs := [7]) (fuel := 7) (by kernel_rfl) (by simp) ?_
            intro i hi
            obtain rfl : i = 7 := by simpa using hi
            clear hi
            refine wpOp_plain rfl rfl ?_
            go_simp
            go_at_call 49
            refine (c_implFewestChanges a0 B0.out p1 q1 L1.out M1.out B1.out C1.out a2 a3 a4 _).mono ?_
            rintro e wb4 ⟨rfl, hb4⟩
            have Db4 : Hid (Below wb3.heap.size wb3 wb4) := hid ⟨hb4.os, hb4.tape, hb4.output, hb4.size, hb4.block⟩
            clear hb4
            have Fb4_0 := hid ((Db4.out.block _ (block_lt Fb3_0.out)).trans Fb3_0.out)
            have Fb4_1 := hid ((Db4.out.block _ (block_lt Fb3_1.out)).trans Fb3_1.out)
            have Fb4_2 := hid ((Db4.out.block _ (block_lt Fb3_2.out)).trans Fb3_2.out)
            have Hb4 := hid (below_trans Hb3.out Db4.out Hb3.out.size)
            have Qb4 := hid ((Db4.out.block _ (block_lt HAb3.out)).trans HAb3.out)
            refine ⟨⟨Fb4_0.out, Fb4_1.out, Fb4_2.out⟩, ?_⟩
            refine wpAnyH_take (i := 8) (fuel := 6) rfl (by kernel_rfl) (by kernel_rfl) (by kernel_rfl) (fun c a w h => h) (yieldsIf_move rfl _ rfl) ⟨Fb4_0.out, Fb4_1.out, Fb4_2.out⟩ ?_
            refine wpAnyH_take (i := 9) (fuel := 5) rfl (by kernel_rfl) (by kernel_rfl) (by kernel_rfl) (fun c a w h => h) (yieldsIf_extract rfl _ 0 rfl _ rfl _ rfl) ⟨Fb4_0.out, Fb4_1.out, Fb4_2.out⟩ ?_
            refine wpAnyH_take (i := 10) (fuel := 4) rfl (by kernel_rfl) (by kernel_rfl) (by kernel_rfl) (fun c a w h => h) (yieldsIf_extract rfl _ 1 rfl _ rfl _ rfl) ⟨Fb4_0.out, Fb4_1.out, Fb4_2.out⟩ ?_
            refine wpAnyH_take (i := 11) (fuel := 3) rfl (by kernel_rfl) (by kernel_rfl) (by kernel_rfl) (fun c a w h => h) (yieldsIf_extract rfl _ 2 rfl _ rfl _ rfl) ⟨Fb4_0.out, Fb4_1.out, Fb4_2.out⟩ ?_
            refine wpAnyH_all (rs := [13]) (fuel := 2) (by kernel_rfl) (by simp) ?_
            intro i hi
            obtain rfl : i = 13 := by simpa using hi
            clear hi
            refine wpOp_plain rfl rfl ?_
            refine wp_store_row 47 _ _ rfl (wb2.heap.size) (i16s (fcL a0 p1 q1 a2 a3 a4)) rfl rfl 47 zP Qb4.out FS.out FE.out (i16s_one _) ?_
            have Fb5_0 := hid ((setRow_other wb4 (wb2.heap.size) (w.heap.size) (i16s (fcL a0 p1 q1 a2 a3 a4)) (by have := GBb.out; have := GBa.out; omega)).trans Fb4_0.out)
            have Fb5_1 := hid ((setRow_other wb4 (wb2.heap.size) (w.heap.size + 1) (i16s (fcL a0 p1 q1 a2 a3 a4)) (by have := GBb.out; have := GBa.out; omega)).trans Fb4_1.out)
            have Fb5_2 := hid ((setRow_other wb4 (wb2.heap.size) (ga) (i16s (fcL a0 p1 q1 a2 a3 a4)) (by have := GBb.out; have := GBa.out; omega)).trans Fb4_2.out)
            have Hb5 := hid (below_setRow Hb4.out (g := wb2.heap.size) GWb.out (i16s (fcL a0 p1 q1 a2 a3 a4)))
            have Qb5 := hid (blk_row_same wb4 (wb2.heap.size) zP (i16s (fcL a0 p1 q1 a2 a3 a4)) _ _ Qb4.out)
            refine ⟨⟨Fb5_0.out, Fb5_1.out, Fb5_2.out⟩, ?_⟩
            refine gen_world (p := wpAnyH _ _ _ _ _ _ _ _) (w0 := wb4.setRow (wb2.heap.size) (i16s (fcL a0 p1 q1 a2 a3 a4))) (fun wb5 hwb5 => ?_)
            rw [← hwb5] at Hb5 Qb5 Fb5_0 Fb5_1 Fb5_2
            clear hwb5
            refine wpAnyH_all (rs := [14]) (fuel := 1) (by kernel_rfl) (by simp) ?_
            intro i hi
            obtain rfl : i = 14 := by simpa using hi
            clear hi
            refine wpOp_plain rfl rfl ?_
            go_simp
            refine ⟨⟨Fb5_0.out, Fb5_1.out, Fb5_2.out⟩, ?_⟩
            refine wpAnyH_all (rs := [15]) (fuel := 0) (by kernel_rfl) (by simp) ?_
            intro i hi
            obtain rfl : i = 15 := by simpa using hi
            clear hi
            refine wpOp_plain rfl rfl ?_
            go_simp
            refine ⟨⟨Fb5_0.out, Fb5_1.out, Fb5_2.out⟩, ?_⟩
            refine wpAnyH_done (by kernel_rfl) ?_ 0
            simp only [Exit.then]
            have FZb_0 := Fb5_0
            have FZb_1 := Fb5_1
            have FZb_2 := Fb5_2
            have HZb := Hb5
            have QZb := Qb5
            generalize wb2.heap.size = gb at QZb GBb GWb ⊢
            generalize wb5 = zb at *
            go_wp2_with fail
            go_meet
            exact ⟨_, rfl, rfl, rfl, GBb.out, FZb_2.out, QZb.out, HZb.out⟩
        · clear hi
          refine wpOp_plain rfl rfl ?_
          go_simp
          have HAb2 : Hid ((wb1.alloc (.cells zP 47)).heap[wb1.heap.size]? = some (.cells zP 47 (0, 0))) := hid (heap_alloc_new wb1 _)
          have Db2 : Hid (Below wb1.heap.size wb1 (wb1.alloc (.cells zP 47))) := hid (by have h := (Below.refl wb1.heap.size wb1).alloc (Nat.le_refl _) (.cells zP 47); exact ⟨h.os, h.tape, h.output, h.size, h.block⟩)
          have Fb2_0 := hid ((Db2.out.block _ (block_lt Fb1_0.out)).trans Fb1_0.out)
          have Fb2_1 := hid ((Db2.out.block _ (block_lt Fb1_1.out)).trans Fb1_1.out)
          have Fb2_2 := hid ((Db2.out.block _ (block_lt Fb1_2.out)).trans Fb1_2.out)
          have Hb2 := hid (below_trans Hb1.out Db2.out Hb1.out.size)
          refine ⟨⟨Fb2_0.out, Fb2_1.out, Fb2_2.out⟩, ?_⟩
          refine gen_world (p := wpAnyH _ _ _ _ _ _ _ _) (w0 := wb1.alloc (.cells zP 47)) (fun wb2 hwb2 => ?_)
          rw [← hwb2] at HAb2 Db2 Hb2 Fb2_0 Fb2_1 Fb2_2
          have GBb : Hid (ga < wb1.heap.size) := hid (block_lt Fb1_2.out)
          have GWb : Hid (w.heap.size ≤ wb1.heap.size) := hid Hb1.out.size
          clear hwb2
          refine wpAnyH_all (rs := [3]) (fuel := 8) (by kernel_rfl) (by simp) ?_
          intro i hi
          obtain rfl : i = 3 := by simpa using hi
          clear hi
          refine wpOp_plain rfl rfl ?_
          go_simp
          go_at_call 22
          refine (c_toSun p1 q1 L1.out M1.out _).mono ?_
          rintro e wb3 ⟨rfl, hb3⟩
          have Db3 : Hid (Below wb2.heap.size wb2 wb3) := hid ⟨hb3.os, hb3.tape, hb3.output, hb3.size, hb3.block⟩
          clear hb3
          have Fb3_0 := hid ((Db3.out.block _ (block_lt Fb2_0.out)).trans Fb2_0.out)
          have Fb3_1 := hid ((Db3.out.block _ (block_lt Fb2_1.out)).trans Fb2_1.out)
          have Fb3_2 := hid ((Db3.out.block _ (block_lt Fb2_2.out)).trans Fb2_2.out)
          have Hb3 := hid (below_trans Hb2.out Db3.out Hb2.out.size)
          have Qb3 := hid ((Db3.out.block _ (block_lt HAb2.out)).trans HAb2.out)
          refine ⟨⟨Fb3_0.out, Fb3_1.out, Fb3_2.out⟩, ?_⟩
          refine wpAnyH_all (rs := [7]) (fuel := 7) (by kernel_rfl) (by simp) ?_
          intro i hi
          obtain rfl : i = 7 := by simpa using hi
          clear hi
          refine wpOp_plain rfl rfl ?_
          go_simp
          go_at_call 49
          refine (c_implFewestChanges a0 B0.out p1 q1 L1.out M1.out B1.out C1.out a2 a3 a4 _).mono ?_
          rintro e wb4 ⟨rfl, hb4⟩
          have Db4 : Hid (Below wb3.heap.size wb3 wb4) := hid ⟨hb4.os, hb4.tape, hb4.output, hb4.size, hb4.block⟩
          clear hb4
          have Fb4_0 := hid ((Db4.out.block _ (block_lt Fb3_0.out)).trans Fb3_0.out)
          have Fb4_1 := hid ((Db4.out.block _ (block_lt Fb3_1.out)).trans Fb3_1.out)
          have Fb4_2 := hid ((Db4.out.block _ (block_lt Fb3_2.out)).trans Fb3_2.out)
          have Hb4 := hid (below_trans Hb3.out Db4.out Hb3.out.size)
          have Qb4 := hid ((Db4.out.block _ (block_lt Qb3.out)).trans Qb3.out)
          refine ⟨⟨Fb4_0.out, Fb4_1.out, Fb4_2.out⟩, ?_⟩
          refine wpAnyH_take (i := 8) (fuel := 6) rfl (by kernel_rfl) (by kernel_rfl) (by kernel_rfl) (fun c a w h => h) (yieldsIf_move rfl _ rfl) ⟨Fb4_0.out, Fb4_1.out, Fb4_2.out⟩ ?_
          refine wpAnyH_take (i := 9) (fuel := 5) rfl (by kernel_rfl) (by kernel_rfl) (by kernel_rfl) (fun c a w h => h) (yieldsIf_extract rfl _ 0 rfl _ rfl _ rfl) ⟨Fb4_0.out, Fb4_1.out, Fb4_2.out⟩ ?_
          refine wpAnyH_take (i := 10) (fuel := 4) rfl (by kernel_rfl) (by kernel_rfl) (by kernel_rfl) (fun c a w h => h) (yieldsIf_extract rfl _ 1 rfl _ rfl _ rfl) ⟨Fb4_0.out, Fb4_1.out, Fb4_2.out⟩ ?_
          refine wpAnyH_take (i := 11) (fuel := 3) rfl (by kernel_rfl) (by kernel_rfl) (by kernel_rfl) (fun c a w h => h) (yieldsIf_extract rfl _ 2 rfl _ rfl _ rfl) ⟨Fb4_0.out, Fb4_1.out, Fb4_2.out⟩ ?_
          refine wpAnyH_all (rs := [13]) (fuel := 2) (by kernel_rfl) (by simp) ?_
          intro i hi
          obtain rfl : i = 13 := by simpa using hi
          clear hi
          refine wpOp_plain rfl rfl ?_
          refine wp_store_row 47 _ _ rfl (wb1.heap.size) (i16s (fcL a0 p1 q1 a2 a3 a4)) rfl rfl 47 zP Qb4.out FS.out FE.out (i16s_one _) ?_
          have Fb5_0 := hid ((setRow_other wb4 (wb1.heap.size) (w.heap.size) (i16s (fcL a0 p1 q1 a2 a3 a4)) (by have := GBb.out; have := GBa.out; omega)).trans Fb4_0.out)
          have Fb5_1 := hid ((setRow_other wb4 (wb1.heap.size) (w.heap.size + 1) (i16s (fcL a0 p1 q1 a2 a3 a4)) (by have := GBb.out; have := GBa.out; omega)).trans Fb4_1.out)
          have Fb5_2 := hid ((setRow_other wb4 (wb1.heap.size) (ga) (i16s (fcL a0 p1 q1 a2 a3 a4)) (by have := GBb.out; have := GBa.out; omega)).trans Fb4_2.out)
          have Hb5 := hid (below_setRow Hb4.out (g := wb1.heap.size) GWb.out (i16s (fcL a0 p1 q1 a2 a3 a4)))
          have Qb5 := hid (blk_row_same wb4 (wb1.heap.size) zP (i16s (fcL a0 p1 q1 a2 a3 a4)) _ _ Qb4.out)
          refine ⟨⟨Fb5_0.out, Fb5_1.out, Fb5_2.out⟩, ?_⟩
          refine gen_world (p := wpAnyH _ _ _ _ _ _ _ _) (w0 := wb4.setRow (wb1.heap.size) (i16s (fcL a0 p1 q1 a2 a3 a4))) (fun wb5 hwb5 => ?_)
          rw [← hwb5] at Hb5 Qb5 Fb5_0 Fb5_1 Fb5_2
          clear hwb5
          refine wpAnyH_all (rs := [14]) (fuel := 1) (by kernel_rfl) (by simp) ?_
          intro i hi
          obtain rfl : i = 14 := by simpa using hi
          clear hi
          refine wpOp_plain rfl rfl ?_
          go_simp
          refine ⟨⟨Fb5_0.out, Fb5_1.out, Fb5_2.out⟩, ?_⟩
          refine wpAnyH_all (rs := [15]) (fuel := 0) (by kernel_rfl) (by simp) ?_
          intro i hi
          obtain rfl : i = 15 := by simpa using hi
          clear hi
          refine wpOp_plain rfl rfl ?_
          go_simp
          refine ⟨⟨Fb5_0.out, Fb5_1.out, Fb5_2.out⟩, ?_⟩
          refine wpAnyH_done (by kernel_rfl) ?_ 0
          simp only [Exit.then]
          have FZb_0 := Fb5_0
          have FZb_1 := Fb5_1
          have FZb_2 := Fb5_2
          have HZb := Hb5
          have QZb := Qb5
          generalize wb1.heap.size = gb at QZb GBb GWb ⊢
          generalize wb5 = zb at *
          go_wp2_with fail
          go_meet
          exact ⟨_, rfl, rfl, rfl, GBb.out, FZb_2.out, QZb.out, HZb.out⟩
      · clear hi
        refine wpOp_plain rfl rfl ?_
        go_simp
        have HAb1 : Hid ((wz.drew.alloc (.cells zP 47)).heap[wz.heap.size]? = some (.cells zP 47 (0, 0))) := hid (heap_alloc_new wz.drew _)
        have Db1 : Hid (Below wz.heap.size wz (wz.drew.alloc (.cells zP 47))) := hid (by have h := (Below.refl wz.drew.heap.size wz.drew).alloc (Nat.le_refl _) (.cells zP 47); exact ⟨h.os, h.tape, h.output, h.size, h.block⟩)
        have Fb1_0 := hid ((Db1.out.block _ (block_lt FA0.out)).trans FA0.out)
        have Fb1_1 := hid ((Db1.out.block _ (block_lt FA1.out)).trans FA1.out)
        have Fb1_2 := hid ((Db1.out.block _ (block_lt QA.out)).trans QA.out)
        have Hb1 := hid (below_trans HA.out Db1.out HA.out.size)
        refine ⟨⟨Fb1_0.out, Fb1_1.out, Fb1_2.out⟩, ?_⟩
        refine gen_world (p := wpAnyH _ _ _ _ _ _ _ _) (w0 := wz.drew.alloc (.cells zP 47)) (fun wb1 hwb1 => ?_)
        rw [← hwb1] at HAb1 Db1 Hb1 Fb1_0 Fb1_1 Fb1_2
        have GBb : Hid (ga < wz.heap.size) := hid (block_lt QA.out)
        have GWb : Hid (w.heap.size ≤ wz.heap.size) := hid HA.out.size
        clear hwb1
        refine wpAnyH_all (rs := [1]) (fuel := 9) (by kernel_rfl) (by simp) ?_
        intro i hi
        obtain rfl : i = 1 := by simpa using hi
        clear hi
        refine wpOp_plain rfl rfl ?_
        go_simp
        go_at_call 15
        refine (c_toBlind a0 _).mono ?_
        rintro e wb2 ⟨rfl, hb2⟩
        have Db2 : Hid (Below wb1.heap.size wb1 wb2) := hid ⟨hb2.os, hb2.tape, hb2.output, hb2.size, hb2.block⟩
        clear hb2
        have Fb2_0 := hid ((Db2.out.block _ (block_lt Fb1_0.out)).trans Fb1_0.out)
        have Fb2_1 := hid ((Db2.out.block _ (block_lt Fb1_1.out)).trans Fb1_1.out)
        have Fb2_2 := hid ((Db2.out.block _ (block_lt Fb1_2.out)).trans Fb1_2.out)
        have Hb2 := hid (below_trans Hb1.out Db2.out Hb1.out.size)
        have Qb2 := hid ((Db2.out.block _ (block_lt HAb1.out)).trans HAb1.out)
        refine ⟨⟨Fb2_0.out, Fb2_1.out, Fb2_2.out⟩, ?_⟩
        refine wpAnyH_all (rs := [3]) (fuel := 8) (by kernel_rfl) (by simp) ?_
        intro i hi
        obtain rfl : i = 3 := by simpa using hi
        clear hi
        refine wpOp_plain rfl rfl ?_
        go_simp
        go_at_call 22
        refine (c_toSun p1 q1 L1.out M1.out _).mono ?_
        rintro e wb3 ⟨rfl, hb3⟩
        have Db3 : Hid (Below wb2.heap.size wb2 wb3) := hid ⟨hb3.os, hb3.tape, hb3.output, hb3.size, hb3.block⟩
        clear hb3
        have Fb3_0 := hid ((Db3.out.block _ (block_lt Fb2_0.out)).trans Fb2_0.out)
        have Fb3_1 := hid ((Db3.out.block _ (block_lt Fb2_1.out)).trans Fb2_1.out)
        have Fb3_2 := hid ((Db3.out.block _ (block_lt Fb2_2.out)).trans Fb2_2.out)
        have Hb3 := hid (below_trans Hb2.out Db3.out Hb2.out.size)
        have Qb3 := hid ((Db3.out.block _ (block_lt Qb2.out)).trans Qb2.out)
        refine ⟨⟨Fb3_0.out, Fb3_1.out, Fb3_2.out⟩, ?_⟩
        refine wpAnyH_all (rs := [7]) (fuel := 7) (by kernel_rfl) (by simp) ?_
        intro i hi
        obtain rfl : i = 7 := by simpa using hi
        clear hi
        refine wpOp_plain rfl rfl ?_
        go_simp
        go_at_call 49
        refine (c_implFewestChanges a0 B0.out p1 q1 L1.out M1.out B1.out C1.out a2 a3 a4 _).mono ?_
        rintro e wb4 ⟨rfl, hb4⟩
        have Db4 : Hid (Below wb3.heap.size wb3 wb4) := hid ⟨hb4.os, hb4.tape, hb4.output, hb4.size, hb4.block⟩
        clear hb4
        have Fb4_0 := hid ((Db4.out.block _ (block_lt Fb3_0.out)).trans Fb3_0.out)
        have Fb4_1 := hid ((Db4.out.block _ (block_lt Fb3_1.out)).trans Fb3_1.out)
        have Fb4_2 := hid ((Db4.out.block _ (block_lt Fb3_2.out)).trans Fb3_2.out)
        have Hb4 := hid (below_trans Hb3.out Db4.out Hb3.out.size)
        have Qb4 := hid ((Db4.out.block _ (block_lt Qb3.out)).trans Qb3.out)
        refine ⟨⟨Fb4_0.out, Fb4_1.out, Fb4_2.out⟩, ?_⟩
        refine wpAnyH_take (i := 8) (fuel := 6) rfl (by kernel_rfl) (by kernel_rfl) (by kernel_rfl) (fun c a w h => h) (yieldsIf_move rfl _ rfl) ⟨Fb4_0.out, Fb4_1.out, Fb4_2.out⟩ ?_
        refine wpAnyH_take (i := 9) (fuel := 5) rfl (by kernel_rfl) (by kernel_rfl) (by kernel_rfl) (fun c a w h => h) (yieldsIf_extract rfl _ 0 rfl _ rfl _ rfl) ⟨Fb4_0.out, Fb4_1.out, Fb4_2.out⟩ ?_
        refine wpAnyH_take (i := 10) (fuel := 4) rfl (by kernel_rfl) (by kernel_rfl) (by kernel_rfl) (fun c a w h => h) (yieldsIf_extract rfl _ 1 rfl _ rfl _ rfl) ⟨Fb4_0.out, Fb4_1.out, Fb4_2.out⟩ ?_
        refine wpAnyH_take (i := 11) (fuel := 3) rfl (by kernel_rfl) (by kernel_rfl) (by kernel_rfl) (fun c a w h => h) (yieldsIf_extract rfl _ 2 rfl _ rfl _ rfl) ⟨Fb4_0.out, Fb4_1.out, Fb4_2.out⟩ ?_
        refine wpAnyH_all (rs := [13]) (fuel := 2) (by kernel_rfl) (by simp) ?_
        intro i hi
        obtain rfl : i = 13 := by simpa using hi
        clear hi
        refine wpOp_plain rfl rfl ?_
        refine wp_store_row 47 _ _ rfl (wz.heap.size) (i16s (fcL a0 p1 q1 a2 a3 a4)) rfl rfl 47 zP Qb4.out FS.out FE.out (i16s_one _) ?_
        have Fb5_0 := hid ((setRow_other wb4 (wz.heap.size) (w.heap.size) (i16s (fcL a0 p1 q1 a2 a3 a4)) (by have := GBb.out; have := GBa.out; omega)).trans Fb4_0.out)
        have Fb5_1 := hid ((setRow_other wb4 (wz.heap.size) (w.heap.size + 1) (i16s (fcL a0 p1 q1 a2 a3 a4)) (by have := GBb.out; have := GBa.out; omega)).trans Fb4_1.out)
        have Fb5_2 := hid ((setRow_other wb4 (wz.heap.size) (ga) (i16s (fcL a0 p1 q1 a2 a3 a4)) (by have := GBb.out; have := GBa.out; omega)).trans Fb4_2.out)
        have Hb5 := hid (below_setRow Hb4.out (g := wz.heap.size) GWb.out (i16s (fcL a0 p1 q1 a2 a3 a4)))
        have Qb5 := hid (blk_row_same wb4 (wz.heap.size) zP (i16s (fcL a0 p1 q1 a2 a3 a4)) _ _ Qb4.out)
        refine ⟨⟨Fb5_0.out, Fb5_1.out, Fb5_2.out⟩, ?_⟩
        refine gen_world (p := wpAnyH _ _ _ _ _ _ _ _) (w0 := wb4.setRow (wz.heap.size) (i16s (fcL a0 p1 q1 a2 a3 a4))) (fun wb5 hwb5 => ?_)
        rw [← hwb5] at Hb5 Qb5 Fb5_0 Fb5_1 Fb5_2
        clear hwb5
        refine wpAnyH_all (rs := [14]) (fuel := 1) (by kernel_rfl) (by simp) ?_
        intro i hi
        obtain rfl : i = 14 := by simpa using hi
        clear hi
        refine wpOp_plain rfl rfl ?_
        go_simp
        refine ⟨⟨Fb5_0.out, Fb5_1.out, Fb5_2.out⟩, ?_⟩
        refine wpAnyH_all (rs := [15]) (fuel := 0) (by kernel_rfl) (by simp) ?_
        intro i hi
        obtain rfl : i = 15 := by simpa using hi
        clear hi
        refine wpOp_plain rfl rfl ?_
        go_simp
        refine ⟨⟨Fb5_0.out, Fb5_1.out, Fb5_2.out⟩, ?_⟩
        refine wpAnyH_done (by kernel_rfl) ?_ 0
        simp only [Exit.then]
        have FZb_0 := Fb5_0
        have FZb_1 := Fb5_1
        have FZb_2 := Fb5_2
        have HZb := Hb5
        have QZb := Qb5
        generalize wz.heap.size = gb at QZb GBb GWb ⊢
        generalize wb5 = zb at *
        go_wp2_with fail
        go_meet
        exact ⟨_, rfl, rfl, rfl, GBb.out, FZb_2.out, QZb.out, HZb.out⟩
    case rest =>
      obtain ⟨gb, rfl, rfl, rfl, gg, qa, qb, hb⟩ := hcut
      have QA2 := hid qa
      have QB2 := hid qb
      have HB := hid hb
      clear gg qa qb hb
      go_wp2_with (first | (refine wpList_load_row rfl 47 _ rfl (gb) rfl 47 (i16s (fcL a0 p1 q1 a2 a3 a4)) (0, 0) _ QB2.out Try.underlying47 rfl FS.out ?_) | (refine wpList_load_row rfl 47 _ rfl (ga) rfl 47 (i16s (fcL a0 p1 q1 a2 a3 a4)) (0, 0) _ QA2.out Try.underlying47 rfl FS.out ?_))
      refine (c_eqPlan _ (fcL_len a0 p1 q1 a2 a3 a4) _).mono ?_
      rintro e wc ⟨rfl, hwc⟩
      have H_wc := hid (below_trans HB.out hwc HB.out.size)
      clear hwc
      go_wp2
      go_ret
      exact ⟨rfl, H_wc.out⟩

set_option maxRecDepth 100000 in
theorem lifted (os : Os) (started : os.Started) (H : Type) (enc : TypeId × Value → H) :
    ReturnsInHanded {} Try.checked os 12 .any (Rows.fnExactFewestChangesSpec.pre6 enc Try.prog Try.f12 Rows.fnExactFewestChangesRow.domain false) (Rows.fnExactFewestChangesSpec.post enc Try.prog Try.f12 false true false false) := by
  refine returnsInHanded_of_change (C := Try.checked) own started (by kernel_rfl) Try.func12
    (ChangeSpec.witness6 (enc := enc) (C := Try.checked) false ⟨#[], #[.agg #[.int .i8 0, .float .f32 0, .float .f32 0, .int .i16 0, .float .f32 0], .agg (Array.replicate 48 (.int .i16 0)), .int .i64 0, .float .f32 0, .float .f32 0], []⟩ 8 (by kernel_rfl) (by kernel_rfl) (by kernel_rfl) (by kernel_rfl)) ?_
  intro W base args ds gs before hval0 hW hcnd _
  have hval : ∀ (j : Nat) t v, Try.f12.params[j]? = some t → args[j]? = some v → Value.okWide Try.prog W .any base t v := hval0
  have hW' := hW
  obtain ⟨p, q, hA0, hV, rfl, hfz, hnd⟩ := hW
  have hA : DataW.TrodAll enc Try.prog W 0 (fun _ => true) true Try.f12.params.toList args.toList ds p := hA0
  rw [Try.params12] at hA hval
  obtain ⟨v0, vs0, d0, ds0, p0, q0, hargs, rfl, rfl, h0, r0⟩ := trodAll_cons hA
  obtain ⟨v1, vs1, d1, ds1, p1, q1, rfl, rfl, rfl, h1, r1⟩ := trodAll_cons r0
  obtain ⟨v2, vs2, d2, ds2, p2, q2, rfl, rfl, rfl, h2, r2⟩ := trodAll_cons r1
  obtain ⟨v3, vs3, d3, ds3, p3, q3, rfl, rfl, rfl, h3, r3⟩ := trodAll_cons r2
  obtain ⟨v4, vs4, d4, ds4, p4, q4, rfl, rfl, rfl, h4, r4⟩ := trodAll_cons r3
  obtain ⟨rfl, rfl, rfl⟩ := trodAll_nil r4
  obtain rfl : args = #[v0, v1, v2, v3, v4] := by cases args; simp_all
  obtain ⟨rfl, rfl⟩ := trodVars_none hV
  have k0 := h0
  have lt0 : ∀ x ∈ p0, x.block < W.heap.size := by obtain ⟨m, hm⟩ := k0; exact DataW.trod_lt m _ _ _ hm
  have k1 := h1
  have lt1 : ∀ x ∈ p1, x.block < W.heap.size := by obtain ⟨m, hm⟩ := k1; exact DataW.trod_lt m _ _ _ hm
  have k2 := h2
  have lt2 : ∀ x ∈ p2, x.block < W.heap.size := by obtain ⟨m, hm⟩ := k2; exact DataW.trod_lt m _ _ _ hm
  have k3 := h3
  have lt3 : ∀ x ∈ p3, x.block < W.heap.size := by obtain ⟨m, hm⟩ := k3; exact DataW.trod_lt m _ _ _ hm
  have k4 := h4
  have lt4 : ∀ x ∈ p4, x.block < W.heap.size := by obtain ⟨m, hm⟩ := k4; exact DataW.trod_lt m _ _ _ hm
  obtain ⟨c0, rfl, fa0⟩ := open_cells (a := [.i .i8, .f .f32, .f .f32, .i .i16, .f .f32]) 3 (by kernel_rfl) (by kernel_rfl) (hval 0 26 v0 rfl rfl) h0
  obtain ⟨a0, rfl, wa0⟩ := fits_blind fa0
  obtain ⟨c1, rfl, fa1⟩ := open_cells (a := List.replicate 48 (.i .i16)) 4 (by kernel_rfl) (by kernel_rfl) (hval 1 42 v1 rfl rfl) h1
  obtain ⟨hs1, ts1, rfl, nh1, nt1, ch1, ct1⟩ := fits_sun fa1
  obtain ⟨a2, rfl, _, _, wa2⟩ := open_int Try.underlying2 (hval 2 2 v2 rfl rfl) h2
  obtain ⟨a3, rfl, _, _, wa3⟩ := open_float Try.underlying23 (hval 3 23 v3 rfl rfl) h3
  obtain ⟨a4, rfl, _, _, wa4⟩ := open_float Try.underlying23 (hval 4 23 v4 rfl rfl) h4
  clear hA0 hval0
  refine (walk a0 hs1 ts1 a2 a3 a4 W wa0 nh1 nt1 ch1 ct1 (wf_i64 wa2) (wf_f32 wa3) (wf_f32 wa4)).mono fun e W' ⟨he, bel⟩ => ?_
  subst he
  exact ⟨_, rfl, _, _, _, [], _, [], hW', trodAll_mk1 (shut_bool Try.underlying4 _), (trodAll_cons_mk (Below.trod laidOut (by kernel_rfl) (of_decide_eq_true (by kernel_rfl)) k0 bel lt0) (trodAll_cons_mk (Below.trod laidOut (by kernel_rfl) (of_decide_eq_true (by kernel_rfl)) k1 bel lt1) (trodAll_cons_mk (Below.trod laidOut (by kernel_rfl) (of_decide_eq_true (by kernel_rfl)) k2 bel lt2) (trodAll_cons_mk (Below.trod laidOut (by kernel_rfl) (of_decide_eq_true (by kernel_rfl)) k3 bel lt3) (trodAll_cons_mk (Below.trod laidOut (by kernel_rfl) (of_decide_eq_true (by kernel_rfl)) k4 bel lt4) trodAll_mk0))))), rfl, bel.frame _, fun h => by cases h⟩

theorem proved : Rows.FnExactFewestChangesSaid :=
  OpenClaim.holds_of_wide 12 Try.f12 rfl rfl rfl rfl rfl rfl rfl ⟨rfl, rfl, rfl, rfl, rfl⟩ rfl rfl rfl rfl rfl (by kernel_rfl) Try.func12 (by kernel_rfl)
    (of_decide_eq_true (by kernel_rfl)) (by unfold Func.isWrapper; first | (rw [if_pos (by decide +kernel)]; kernel_rfl) | (rw [if_neg (by decide +kernel)]; exact ⟨rfl, rfl⟩))
    (fun os started H enc _ => lifted os started H enc)
#print axioms proved
end Go.Proofs.Ythnffhmefgfnkaa.lawFewestChanges
