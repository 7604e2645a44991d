/- FnExactTiltsAt returns true for all arguments: for each blind and sun and all numbers the program's TiltsAt and the reference's return the same, and what it returns shares no memory with what another call returns. No condition. -/
import Derived.Test.YthnffhmefgfnkaaTiltsAt
import Derived.Test.YthnffhmefgfnkaaMarks
import Derived.Test.YthnffhmefgfnkaaTail
import Derived.Test.YthnffhmefgfnkaaLift
namespace Go.Proofs.Ythnffhmefgfnkaa.lawTiltsAt
set_option maxRecDepth 20000
open Go.ChangeShapes Go.WideShapes Go.ChangeAt Go.RowKit Go.Proofs.Ythnffhmefgfnkaa

theorem box_kept {w w2 : World} {b : Nat} {C : Array Value} {T : TypeId} {r : Option Nat} (h : w.heap[b]? = some (.cells C T (0, 0))) (hg : w.grownBy w2 r) (hne : r ≠ some b) : w2.heap[b]? = some (.cells C T (0, 0)) := (hg.block b (block_lt h) (fun e => hne e.symm)).trans h
set_option maxHeartbeats 4000000 in
theorem walk (a0 : Bld) (p1 q1 : List Int) (a2 : Int) (a3 : Int) (a4 : Nat) (a5 : Nat) (w : World) (b0 : WfB a0) (l1 : p1.length = 24) (m1 : q1.length = 24) (b1 : I16 p1) (c1 : I16 q1) (x2 : -9223372036854775808 ≤ a2 ∧ a2 ≤ 9223372036854775807) (x3 : -9223372036854775808 ≤ a3 ∧ a3 ≤ 9223372036854775807) (x4 : a4 < 4294967296) (x5 : a5 < 4294967296) :
    Calls Try.prog 8 #[.agg (bcells a0), .agg (scells p1 q1), .int .i64 a2, .int .i64 a3, .float .f32 a4, .float .f32 a5] w fun e w' => e = .returned (.bool true) ∧ Below w.heap.size w w' := by
  have hs0 : (Try.prog.info? 26).map (·.size) = some (bcells a0).size := by kernel_rfl
  have hs1 : (Try.prog.info? 42).map (·.size) = some (scells p1 q1).size := by rw [scells_size l1 m1]; kernel_rfl
  have hB0 : ((w.alloc (.cells (bcells a0) 26)).alloc (.cells (scells p1 q1) 42)).heap[w.heap.size]? = some (.cells (bcells a0) 26 (0, 0)) := (blk_past _ _ _ (by simp)).trans (blk_at _ _ _ rfl)
  have hB1 : ((w.alloc (.cells (bcells a0) 26)).alloc (.cells (scells p1 q1) 42)).heap[w.heap.size + 1]? = some (.cells (scells p1 q1) 42 (0, 0)) := blk_at _ _ _ (by simp)
  have h0 : Below w.heap.size w ((w.alloc (.cells (bcells a0) 26)).alloc (.cells (scells p1 q1) 42)) := (((Below.refl _ _).alloc (Nat.le_refl _) _).alloc (by simp) _)
  have HL := hid (show (tlL a0 p1 q1 a2 a3 a4 a5).length ≤ 199 from tlL_len _ _ _ _ _ _ _)
  have B0 := hid b0
  have L1 := hid l1
  have M1 := hid m1
  have B1 := hid b1
  have C1 := hid c1
  have X2 := hid x2
  have X3 := hid x3
  have X4 := hid x4
  have X5 := hid x5
  have HS0 := hid hs0
  have HS1 := hid hs1
  have HB0 := hid hB0
  have HB1 := hid hB1
  have H0 := hid h0
  clear b0 l1 m1 b1 c1 x2 x3 x4 x5 hs0 hs1 hB0 hB1 h0
  go_enter Try.func8, Try.ntmps8
  go_wp2_with fail
  refine wp_region_below_mid 8 (by kernel_rfl) (by kernel_rfl) rfl rfl ?_
  simp only [List.take_succ_cons, List.take_zero, List.drop_succ_cons, List.drop_zero]
  repeat (first | (refine wpQuiet_load_row rfl 26 _ rfl (w.heap.size) rfl 26 (bcells a0) (0, 0) _ (fun wx hwx => (hwx.out.block _ (block_lt HB0.out)).trans HB0.out) Try.underlying26 rfl HS0.out ?_) | (refine wpQuiet_load_row rfl 42 _ rfl (w.heap.size + 1) rfl 42 (scells p1 q1) (0, 0) _ (fun wx hwx => (hwx.out.block _ (block_lt HB1.out)).trans HB1.out) Try.underlying42 rfl HS1.out ?_) | (refine wpQuiet_step (fun K hK => ?_); go_simp; first | (refine hK _ ?_; clear hK K) | (refine ⟨_, fun _ _ => rfl, hK _ ?_⟩; clear hK K) | (apply Exists.intro; refine ⟨fun wx hwx => ?_, hK _ ?_⟩; (first | (with_reducible exact quiet_below hwx (c_toBlind a0 _)) | (with_reducible exact quiet_below hwx (c_toSun p1 q1 L1.out M1.out _))); clear hK K)))
  refine wpQuiet_nil ?_
  intro w1 h1
  replace h1 := h1.out
  intro K hK
  have E_1 := hid (below_trans H0.out h1 H0.out.size)
  have HB0_1 := hid ((h1.block (w.heap.size) (block_lt HB0.out)).trans HB0.out)
  have HB1_1 := hid ((h1.block (w.heap.size + 1) (block_lt HB1.out)).trans HB1.out)
  clear h1
  go_simp
  go_at_call 31
  refine (ints_of_got (c_specTiltsAt a0 B0.out p1 q1 L1.out M1.out B1.out C1.out a2 a3 a4 a5 X4.out X5.out _) (by have := HL.out; omega)).mono ?_
  rintro e w2 ⟨⟨u, rfl, ur⟩, h2⟩
  have E_2 := hid (below_trans E_1.out h2 E_1.out.size)
  have HB0_2 := hid ((h2.block (w.heap.size) (block_lt HB0_1.out)).trans HB0_1.out)
  have HB1_2 := hid ((h2.block (w.heap.size + 1) (block_lt HB1_1.out)).trans HB1_1.out)
  refine hK _ _ ?_
  clear hK K
  repeat (refine wpQuiet_step (fun K hK => ?_); go_simp; first | (refine hK _ ?_; clear hK K) | (refine ⟨_, fun _ _ => rfl, hK _ ?_⟩; clear hK K))
  refine wpQuiet_nil ?_
  have U := hid ur
  clear ur h2
  go_wp2_with fail
  refine wp_region_below_mid 8 (by kernel_rfl) (by kernel_rfl) rfl rfl ?_
  simp only [List.take_succ_cons, List.take_zero, List.drop_succ_cons, List.drop_zero]
  repeat (first | (refine wpQuiet_load_row rfl 26 _ rfl (w.heap.size) rfl 26 (bcells a0) (0, 0) _ (fun wx hwx => (hwx.out.block _ (block_lt HB0_2.out)).trans HB0_2.out) Try.underlying26 rfl HS0.out ?_) | (refine wpQuiet_load_row rfl 42 _ rfl (w.heap.size + 1) rfl 42 (scells p1 q1) (0, 0) _ (fun wx hwx => (hwx.out.block _ (block_lt HB1_2.out)).trans HB1_2.out) Try.underlying42 rfl HS1.out ?_) | (refine wpQuiet_step (fun K hK => ?_); go_simp; first | (refine hK _ ?_; clear hK K) | (refine ⟨_, fun _ _ => rfl, hK _ ?_⟩; clear hK K) | (apply Exists.intro; refine ⟨fun wx hwx => ?_, hK _ ?_⟩; (first | (with_reducible exact quiet_below hwx (c_toBlind a0 _)) | (with_reducible exact quiet_below hwx (c_toSun p1 q1 L1.out M1.out _))); clear hK K)))
  refine wpQuiet_nil ?_
  intro w3 h3
  replace h3 := h3.out
  intro K hK
  have E_3 := hid (below_trans E_2.out h3 E_2.out.size)
  have T_3 := hid h3
  have HB0_3 := hid ((h3.block (w.heap.size) (block_lt HB0_2.out)).trans HB0_2.out)
  have HB1_3 := hid ((h3.block (w.heap.size + 1) (block_lt HB1_2.out)).trans HB1_2.out)
  clear h3
  have LGE := hid (show w.heap.size ≤ w3.heap.size from E_3.out.size)
  have LGT := hid (show w2.heap.size ≤ w3.heap.size from T_3.out.size)
  have Z0 := hid (show w.heap.size < w3.heap.size from block_lt HB0_3.out)
  have Z1 := hid (show w.heap.size + 1 < w3.heap.size from block_lt HB1_3.out)
  go_simp
  go_at_call 32
  refine (c_implTiltsAt a0 B0.out p1 q1 L1.out M1.out B1.out C1.out a2 a3 a4 a5 _).mono ?_
  rintro e w4 ⟨⟨v, rfl, vr⟩, h4⟩
  have E_4 := hid (below_trans E_3.out h4 E_3.out.size)
  have T_4 := hid (below_trans T_3.out h4 T_3.out.size)
  have HB0_4 := hid ((h4.block (w.heap.size) (block_lt HB0_3.out)).trans HB0_3.out)
  have HB1_4 := hid ((h4.block (w.heap.size + 1) (block_lt HB1_3.out)).trans HB1_3.out)
  refine hK _ _ ?_
  clear hK K
  repeat (refine wpQuiet_step (fun K hK => ?_); go_simp; first | (refine hK _ ?_; clear hK K) | (refine ⟨_, fun _ _ => rfl, hK _ ?_⟩; clear hK K))
  refine wpQuiet_nil ?_
  have G4 := hid (GotI.owns vr (by have := HL.out; omega))
  clear vr h4
  go_wp2_with fail
  refine (c_eqInt64S _ _ (tlL a0 p1 q1 a2 a3 a4 a5) _ (GotI.reads (lo := w3.heap.size) G4.out.1 (by have := HL.out; omega)) (U.out.below T_4.out)).mono ?_
  rintro e w5 ⟨rfl, h5⟩
  have E_5 := hid (below_trans E_4.out h5 E_4.out.size)
  have T_5 := hid (below_trans T_4.out h5 T_4.out.size)
  have G_5 := hid (G4.out.below h5)
  have HB0_5 := hid ((h5.block (w.heap.size) (block_lt HB0_4.out)).trans HB0_4.out)
  have HB1_5 := hid ((h5.block (w.heap.size + 1) (block_lt HB1_4.out)).trans HB1_4.out)
  clear h5
  go_wp2_with fail
  refine (c_markInt64S _ _ _ (tlL a0 p1 q1 a2 a3 a4 a5).length 1 _ G_5.out (by omega) _ rfl).mono ?_
  rintro e w6 ⟨rfl, mk6, h6⟩
  have E_6 := hid (E_5.out.grown h6 E_5.out.size (fun r e => Nat.le_trans LGE.out (G_5.out.1.lt r e).1))
  have T_6 := hid (T_5.out.grown h6 T_5.out.size (fun r e => Nat.le_trans LGT.out (G_5.out.1.lt r e).1))
  have HB0_6 := hid (box_kept HB0_5.out h6 (fun e => by have e1 := (G_5.out.1.lt _ e).1; have e2 := Z0.out; omega))
  have HB1_6 := hid (box_kept HB1_5.out h6 (fun e => by have e1 := (G_5.out.1.lt _ e).1; have e2 := Z1.out; omega))
  have HD := hid (Held.of mk6 G_5.out.len)
  clear mk6 h6
  have hl := HL.out
  go_wp2_with fail
  refine (c_heldInt64S _ _ (tlL a0 p1 q1 a2 a3 a4 a5).length 1 HD.out (by omega) _ rfl).mono ?_
  rintro e w7 ⟨rfl, h7⟩
  have E_7 := hid (below_trans E_6.out h7 E_6.out.size)
  have T_7 := hid (below_trans T_6.out h7 T_6.out.size)
  have M_7 := hid h7
  have HB0_7 := hid ((h7.block (w.heap.size) (block_lt HB0_6.out)).trans HB0_6.out)
  have HB1_7 := hid ((h7.block (w.heap.size + 1) (block_lt HB1_6.out)).trans HB1_6.out)
  clear h7
  go_wp2_with fail
  refine wp_region_below_mid 8 (by kernel_rfl) (by kernel_rfl) rfl rfl ?_
  simp only [List.take_succ_cons, List.take_zero, List.drop_succ_cons, List.drop_zero]
  repeat (first | (refine wpQuiet_load_row rfl 26 _ rfl (w.heap.size) rfl 26 (bcells a0) (0, 0) _ (fun wx hwx => (hwx.out.block _ (block_lt HB0_7.out)).trans HB0_7.out) Try.underlying26 rfl HS0.out ?_) | (refine wpQuiet_load_row rfl 42 _ rfl (w.heap.size + 1) rfl 42 (scells p1 q1) (0, 0) _ (fun wx hwx => (hwx.out.block _ (block_lt HB1_7.out)).trans HB1_7.out) Try.underlying42 rfl HS1.out ?_) | (refine wpQuiet_step (fun K hK => ?_); go_simp; first | (refine hK _ ?_; clear hK K) | (refine ⟨_, fun _ _ => rfl, hK _ ?_⟩; clear hK K) | (apply Exists.intro; refine ⟨fun wx hwx => ?_, hK _ ?_⟩; (first | (with_reducible exact quiet_below hwx (c_toBlind a0 _)) | (with_reducible exact quiet_below hwx (c_toSun p1 q1 L1.out M1.out _))); clear hK K)))
  refine wpQuiet_nil ?_
  intro w8 h8
  replace h8 := h8.out
  intro K hK
  have E_8 := hid (below_trans E_7.out h8 E_7.out.size)
  have T_8 := hid (below_trans T_7.out h8 T_7.out.size)
  have M_8 := hid (below_trans M_7.out h8 M_7.out.size)
  have HB0_8 := hid ((h8.block (w.heap.size) (block_lt HB0_7.out)).trans HB0_7.out)
  have HB1_8 := hid ((h8.block (w.heap.size + 1) (block_lt HB1_7.out)).trans HB1_7.out)
  clear h8
  go_simp
  go_at_call 32
  refine (c_implTiltsAt a0 B0.out p1 q1 L1.out M1.out B1.out C1.out a2 a3 a4 a5 _).mono ?_
  rintro e w9 ⟨⟨v2, rfl, vr⟩, h9⟩
  have E_9 := hid (below_trans E_8.out h9 E_8.out.size)
  have T_9 := hid (below_trans T_8.out h9 T_8.out.size)
  have M_9 := hid (below_trans M_8.out h9 M_8.out.size)
  have HB0_9 := hid ((h9.block (w.heap.size) (block_lt HB0_8.out)).trans HB0_8.out)
  have HB1_9 := hid ((h9.block (w.heap.size + 1) (block_lt HB1_8.out)).trans HB1_8.out)
  refine hK _ _ ?_
  clear hK K
  repeat (refine wpQuiet_step (fun K hK => ?_); go_simp; first | (refine hK _ ?_; clear hK K) | (refine ⟨_, fun _ _ => rfl, hK _ ?_⟩; clear hK K))
  refine wpQuiet_nil ?_
  have G9 := hid (GotI.owns vr (by have := HL.out; omega))
  clear vr h9
  go_wp2_with fail
  refine (c_eqInt64S _ _ (tlL a0 p1 q1 a2 a3 a4 a5) _ (GotI.reads (lo := w8.heap.size) G9.out.1 (by have := HL.out; omega)) (U.out.below T_9.out)).mono ?_
  rintro e w10 ⟨rfl, h10⟩
  have E_10 := hid (below_trans E_9.out h10 E_9.out.size)
  have T_10 := hid (below_trans T_9.out h10 T_9.out.size)
  have M_10 := hid (below_trans M_9.out h10 M_9.out.size)
  have G_10 := hid (G9.out.below h10)
  have HB0_10 := hid ((h10.block (w.heap.size) (block_lt HB0_9.out)).trans HB0_9.out)
  have HB1_10 := hid ((h10.block (w.heap.size + 1) (block_lt HB1_9.out)).trans HB1_9.out)
  clear h10
  go_wp2_with fail
  refine (c_heldInt64S _ _ (tlL a0 p1 q1 a2 a3 a4 a5).length 1 (HD.out.below M_10.out) (by omega) _ rfl).mono ?_
  rintro e w11 ⟨rfl, h11⟩
  have E_11 := hid (below_trans E_10.out h11 E_10.out.size)
  have T_11 := hid (below_trans T_10.out h11 T_10.out.size)
  have M_11 := hid (below_trans M_10.out h11 M_10.out.size)
  have HB0_11 := hid ((h11.block (w.heap.size) (block_lt HB0_10.out)).trans HB0_10.out)
  have HB1_11 := hid ((h11.block (w.heap.size + 1) (block_lt HB1_10.out)).trans HB1_10.out)
  clear h11
  go_wp2
  go_ret
  exact ⟨rfl, E_11.out⟩

set_option maxRecDepth 100000 in
theorem lifted (os : Os) (started : os.Started) (H : Type) (enc : TypeId × Value → H) :
    ReturnsInHanded {} Try.checked os 8 .any (Rows.fnExactTiltsAtSpec.pre6 enc Try.prog Try.f8 Rows.fnExactTiltsAtRow.domain false) (Rows.fnExactTiltsAtSpec.post enc Try.prog Try.f8 false true false false) := by
  refine returnsInHanded_of_change (C := Try.checked) own started (by kernel_rfl) Try.func8
    (ChangeSpec.witness6 (enc := enc) (C := Try.checked) false ⟨#[], #[.agg #[.int .i8 0, .float .f32 0, .float .f32 0, .int .i16 0, .float .f32 0], .agg (Array.replicate 48 (.int .i16 0)), .int .i64 0, .int .i64 0, .float .f32 0, .float .f32 0], []⟩ 8 (by kernel_rfl) (by kernel_rfl) (by kernel_rfl) (by kernel_rfl)) ?_
  intro W base args ds gs before hval0 hW hcnd _
  have hval : ∀ (j : Nat) t v, Try.f8.params[j]? = some t → args[j]? = some v → Value.okWide Try.prog W .any base t v := hval0
  have hW' := hW
  obtain ⟨p, q, hA0, hV, rfl, hfz, hnd⟩ := hW
  have hA : DataW.TrodAll enc Try.prog W 0 (fun _ => true) true Try.f8.params.toList args.toList ds p := hA0
  rw [Try.params8] at hA hval
  obtain ⟨v0, vs0, d0, ds0, p0, q0, hargs, rfl, rfl, h0, r0⟩ := trodAll_cons hA
  obtain ⟨v1, vs1, d1, ds1, p1, q1, rfl, rfl, rfl, h1, r1⟩ := trodAll_cons r0
  obtain ⟨v2, vs2, d2, ds2, p2, q2, rfl, rfl, rfl, h2, r2⟩ := trodAll_cons r1
  obtain ⟨v3, vs3, d3, ds3, p3, q3, rfl, rfl, rfl, h3, r3⟩ := trodAll_cons r2
  obtain ⟨v4, vs4, d4, ds4, p4, q4, rfl, rfl, rfl, h4, r4⟩ := trodAll_cons r3
  obtain ⟨v5, vs5, d5, ds5, p5, q5, rfl, rfl, rfl, h5, r5⟩ := trodAll_cons r4
  obtain ⟨rfl, rfl, rfl⟩ := trodAll_nil r5
  obtain rfl : args = #[v0, v1, v2, v3, v4, v5] := by cases args; simp_all
  obtain ⟨rfl, rfl⟩ := trodVars_none hV
  have k0 := h0
  have lt0 : ∀ x ∈ p0, x.block < W.heap.size := by obtain ⟨m, hm⟩ := k0; exact DataW.trod_lt m _ _ _ hm
  have k1 := h1
  have lt1 : ∀ x ∈ p1, x.block < W.heap.size := by obtain ⟨m, hm⟩ := k1; exact DataW.trod_lt m _ _ _ hm
  have k2 := h2
  have lt2 : ∀ x ∈ p2, x.block < W.heap.size := by obtain ⟨m, hm⟩ := k2; exact DataW.trod_lt m _ _ _ hm
  have k3 := h3
  have lt3 : ∀ x ∈ p3, x.block < W.heap.size := by obtain ⟨m, hm⟩ := k3; exact DataW.trod_lt m _ _ _ hm
  have k4 := h4
  have lt4 : ∀ x ∈ p4, x.block < W.heap.size := by obtain ⟨m, hm⟩ := k4; exact DataW.trod_lt m _ _ _ hm
  have k5 := h5
  have lt5 : ∀ x ∈ p5, x.block < W.heap.size := by obtain ⟨m, hm⟩ := k5; exact DataW.trod_lt m _ _ _ hm
  obtain ⟨c0, rfl, fa0⟩ := open_cells (a := [.i .i8, .f .f32, .f .f32, .i .i16, .f .f32]) 3 (by kernel_rfl) (by kernel_rfl) (hval 0 26 v0 rfl rfl) h0
  obtain ⟨a0, rfl, wa0⟩ := fits_blind fa0
  obtain ⟨c1, rfl, fa1⟩ := open_cells (a := List.replicate 48 (.i .i16)) 4 (by kernel_rfl) (by kernel_rfl) (hval 1 42 v1 rfl rfl) h1
  obtain ⟨hs1, ts1, rfl, nh1, nt1, ch1, ct1⟩ := fits_sun fa1
  obtain ⟨a2, rfl, _, _, wa2⟩ := open_int Try.underlying2 (hval 2 2 v2 rfl rfl) h2
  obtain ⟨a3, rfl, _, _, wa3⟩ := open_int Try.underlying2 (hval 3 2 v3 rfl rfl) h3
  obtain ⟨a4, rfl, _, _, wa4⟩ := open_float Try.underlying23 (hval 4 23 v4 rfl rfl) h4
  obtain ⟨a5, rfl, _, _, wa5⟩ := open_float Try.underlying23 (hval 5 23 v5 rfl rfl) h5
  clear hA0 hval0
  refine (walk a0 hs1 ts1 a2 a3 a4 a5 W wa0 nh1 nt1 ch1 ct1 (wf_i64 wa2) (wf_i64 wa3) (wf_f32 wa4) (wf_f32 wa5)).mono fun e W' ⟨he, bel⟩ => ?_
  subst he
  exact ⟨_, rfl, _, _, _, [], _, [], hW', trodAll_mk1 (shut_bool Try.underlying4 _), (trodAll_cons_mk (Below.trod laidOut (by kernel_rfl) (of_decide_eq_true (by kernel_rfl)) k0 bel lt0) (trodAll_cons_mk (Below.trod laidOut (by kernel_rfl) (of_decide_eq_true (by kernel_rfl)) k1 bel lt1) (trodAll_cons_mk (Below.trod laidOut (by kernel_rfl) (of_decide_eq_true (by kernel_rfl)) k2 bel lt2) (trodAll_cons_mk (Below.trod laidOut (by kernel_rfl) (of_decide_eq_true (by kernel_rfl)) k3 bel lt3) (trodAll_cons_mk (Below.trod laidOut (by kernel_rfl) (of_decide_eq_true (by kernel_rfl)) k4 bel lt4) (trodAll_cons_mk (Below.trod laidOut (by kernel_rfl) (of_decide_eq_true (by kernel_rfl)) k5 bel lt5) trodAll_mk0)))))), rfl, bel.frame _, fun h => by cases h⟩

theorem proved : Rows.FnExactTiltsAtSaid :=
  OpenClaim.holds_of_wide 8 Try.f8 rfl rfl rfl rfl rfl rfl rfl ⟨rfl, rfl, rfl, rfl, rfl⟩ rfl rfl rfl rfl rfl (by kernel_rfl) Try.func8 (by kernel_rfl)
    (of_decide_eq_true (by kernel_rfl)) (by unfold Func.isWrapper; first | (rw [if_pos (by decide +kernel)]; kernel_rfl) | (rw [if_neg (by decide +kernel)]; exact ⟨rfl, rfl⟩))
    (fun os started H enc _ => lifted os started H enc)
#print axioms proved
end Go.Proofs.Ythnffhmefgfnkaa.lawTiltsAt
