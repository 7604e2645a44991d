/- FnExactKeepsWithin returns true for all arguments: for each blind, sun and plan, and for all numbers, the program's KeepsWithin and the reference's return the same. No condition. -/
import Derived.Test.YthnffhmefgfnkaaKeep
import Derived.Test.YthnffhmefgfnkaaLift
namespace Go.Proofs.Ythnffhmefgfnkaa.lawKeepsWithin
open Go.ChangeShapes Go.WideShapes Go.ChangeAt Go.RowKit Go.Proofs.Ythnffhmefgfnkaa

theorem walk (a0 : Bld) (p1 q1 : List Int) (a2 : Int) (a3 : List Int) (a4 : Nat) (a5 : Nat) (w : World) (b0 : WfB a0) (l1 : p1.length = 24) (m1 : q1.length = 24) (b1 : I16 p1) (c1 : I16 q1) (x2 : -9223372036854775808 ≤ a2 ∧ a2 ≤ 9223372036854775807) (l3 : a3.length = 24) (b3 : I16 a3) (x4 : a4 < 4294967296) (x5 : a5 < 4294967296) :
    Calls Try.prog 5 #[.agg (bcells a0), .agg (scells p1 q1), .int .i64 a2, .agg (i16s a3), .float .f32 a4, .float .f32 a5] w fun e w' => e = .returned (.bool true) ∧ Below w.heap.size w w' := by
  have hs0 : (Try.prog.info? 26).map (·.size) = some (bcells a0).size := by kernel_rfl
  have hs1 : (Try.prog.info? 42).map (·.size) = some (scells p1 q1).size := by rw [scells_size l1 m1]; kernel_rfl
  have hs3 : (Try.prog.info? 40).map (·.size) = some (i16s a3).size := by rw [i16s_size, l3]; kernel_rfl
  have hB0 : (((w.alloc (.cells (bcells a0) 26)).alloc (.cells (scells p1 q1) 42)).alloc (.cells (i16s a3) 40)).heap[w.heap.size]? = some (.cells (bcells a0) 26 (0, 0)) := (blk_past _ _ _ (by simp; omega)).trans ((blk_past _ _ _ (by simp)).trans (blk_at _ _ _ rfl))
  have hB1 : (((w.alloc (.cells (bcells a0) 26)).alloc (.cells (scells p1 q1) 42)).alloc (.cells (i16s a3) 40)).heap[w.heap.size + 1]? = some (.cells (scells p1 q1) 42 (0, 0)) := (blk_past _ _ _ (by simp)).trans (blk_at _ _ _ (by simp))
  have hB3 : (((w.alloc (.cells (bcells a0) 26)).alloc (.cells (scells p1 q1) 42)).alloc (.cells (i16s a3) 40)).heap[w.heap.size + 1 + 1]? = some (.cells (i16s a3) 40 (0, 0)) := blk_at _ _ _ (by simp)
  have h0 : Below w.heap.size w (((w.alloc (.cells (bcells a0) 26)).alloc (.cells (scells p1 q1) 42)).alloc (.cells (i16s a3) 40)) := ((((Below.refl _ _).alloc (Nat.le_refl _) _).alloc (by simp) _).alloc (by simp; omega) _)
  have B0 := hid b0
  have L1 := hid l1
  have M1 := hid m1
  have B1 := hid b1
  have C1 := hid c1
  have X2 := hid x2
  have L3 := hid l3
  have B3 := hid b3
  have X4 := hid x4
  have X5 := hid x5
  have HS0 := hid hs0
  have HS1 := hid hs1
  have HS3 := hid hs3
  have HB0 := hid hB0
  have HB1 := hid hB1
  have HB3 := hid hB3
  have H0 := hid h0
  clear b0 l1 m1 b1 c1 x2 l3 b3 x4 x5 hs0 hs1 hs3 hB0 hB1 hB3 h0
  go_enter Try.func5, Try.ntmps5
  go_wp2_with fail
  refine wp_region_below (by kernel_rfl) (by kernel_rfl) ?_
  repeat (first | (refine wpQuiet_load_row rfl 26 _ rfl (w.heap.size) rfl 26 (bcells a0) (0, 0) _ (fun wx hwx => (hwx.out.block _ (block_lt HB0.out)).trans HB0.out) Try.underlying26 rfl HS0.out ?_) | (refine wpQuiet_load_row rfl 42 _ rfl (w.heap.size + 1) rfl 42 (scells p1 q1) (0, 0) _ (fun wx hwx => (hwx.out.block _ (block_lt HB1.out)).trans HB1.out) Try.underlying42 rfl HS1.out ?_) | (refine wpQuiet_load_row rfl 40 _ rfl (w.heap.size + 1 + 1) rfl 40 (i16s a3) (0, 0) _ (fun wx hwx => (hwx.out.block _ (block_lt HB3.out)).trans HB3.out) Try.underlying40 rfl HS3.out ?_) | (refine wpQuiet_step (fun K hK => ?_); go_simp; first | (refine hK _ ?_; clear hK K) | (refine ⟨_, fun _ _ => rfl, hK _ ?_⟩; clear hK K) | (apply Exists.intro; refine ⟨fun wx hwx => ?_, hK _ ?_⟩; (first | (with_reducible exact quiet_below hwx (c_toBlind a0 _)) | (with_reducible exact quiet_below hwx (c_toSun p1 q1 L1.out M1.out _)) | (with_reducible exact quiet_below hwx (c_toPlan a3 L3.out _)) | (with_reducible exact quiet_below hwx (c_specKeepsWithin a0 B0.out p1 q1 a3 L1.out M1.out L3.out B1.out C1.out B3.out a2 a4 a5 X4.out X5.out _))); clear hK K)))
  refine wpQuiet_nil ?_
  intro w0 h1
  replace h1 := h1.out
  have HB0_0 := hid ((h1.block (w.heap.size) (block_lt HB0.out)).trans HB0.out)
  have HB1_0 := hid ((h1.block (w.heap.size + 1) (block_lt HB1.out)).trans HB1.out)
  have HB3_0 := hid ((h1.block (w.heap.size + 1 + 1) (block_lt HB3.out)).trans HB3.out)
  have H1 := hid (below_trans H0.out h1 H0.out.size)
  clear h1
  go_wp2_with fail
  refine wp_region_below (by kernel_rfl) (by kernel_rfl) ?_
  repeat (first | (refine wpQuiet_load_row rfl 26 _ rfl (w.heap.size) rfl 26 (bcells a0) (0, 0) _ (fun wx hwx => (hwx.out.block _ (block_lt HB0_0.out)).trans HB0_0.out) Try.underlying26 rfl HS0.out ?_) | (refine wpQuiet_load_row rfl 42 _ rfl (w.heap.size + 1) rfl 42 (scells p1 q1) (0, 0) _ (fun wx hwx => (hwx.out.block _ (block_lt HB1_0.out)).trans HB1_0.out) Try.underlying42 rfl HS1.out ?_) | (refine wpQuiet_load_row rfl 40 _ rfl (w.heap.size + 1 + 1) rfl 40 (i16s a3) (0, 0) _ (fun wx hwx => (hwx.out.block _ (block_lt HB3_0.out)).trans HB3_0.out) Try.underlying40 rfl HS3.out ?_) | (refine wpQuiet_step (fun K hK => ?_); go_simp; first | (refine hK _ ?_; clear hK K) | (refine ⟨_, fun _ _ => rfl, hK _ ?_⟩; clear hK K) | (apply Exists.intro; refine ⟨fun wx hwx => ?_, hK _ ?_⟩; (first | (with_reducible exact quiet_below hwx (c_toBlind a0 _)) | (with_reducible exact quiet_below hwx (c_toSun p1 q1 L1.out M1.out _)) | (with_reducible exact quiet_below hwx (c_toPlan a3 L3.out _)) | (with_reducible exact quiet_below hwx (c_implKeepsWithin a0 B0.out p1 q1 a3 L1.out M1.out L3.out B1.out C1.out B3.out a2 a4 a5 _))); clear hK K)))
  refine wpQuiet_nil ?_
  intro w1 h2
  replace h2 := h2.out
  have HB0_1 := hid ((h2.block (w.heap.size) (block_lt HB0_0.out)).trans HB0_0.out)
  have HB1_1 := hid ((h2.block (w.heap.size + 1) (block_lt HB1_0.out)).trans HB1_0.out)
  have HB3_1 := hid ((h2.block (w.heap.size + 1 + 1) (block_lt HB3_0.out)).trans HB3_0.out)
  have H2 := hid (below_trans H1.out h2 H1.out.size)
  clear h2
  go_wp2
  go_ret
  exact ⟨rfl, H2.out⟩

set_option maxRecDepth 100000 in
theorem lifted (os : Os) (started : os.Started) (H : Type) (enc : TypeId × Value → H) :
    ReturnsInHanded {} Try.checked os 5 .any (Rows.fnExactKeepsWithinSpec.pre6 enc Try.prog Try.f5 Rows.fnExactKeepsWithinRow.domain false) (Rows.fnExactKeepsWithinSpec.post enc Try.prog Try.f5 false true false false) := by
  refine returnsInHanded_of_change (C := Try.checked) own started (by kernel_rfl) Try.func5
    (ChangeSpec.witness6 (enc := enc) (C := Try.checked) false ⟨#[], #[.agg #[.int .i8 0, .float .f32 0, .float .f32 0, .int .i16 0, .float .f32 0], .agg (Array.replicate 48 (.int .i16 0)), .int .i64 0, .agg (Array.replicate 24 (.int .i16 0)), .float .f32 0, .float .f32 0], []⟩ 8 (by kernel_rfl) (by kernel_rfl) (by kernel_rfl) (by kernel_rfl)) ?_
  intro W base args ds gs before hval0 hW hcnd _
  have hval : ∀ (j : Nat) t v, Try.f5.params[j]? = some t → args[j]? = some v → Value.okWide Try.prog W .any base t v := hval0
  have hW' := hW
  obtain ⟨p, q, hA0, hV, rfl, hfz, hnd⟩ := hW
  have hA : DataW.TrodAll enc Try.prog W 0 (fun _ => true) true Try.f5.params.toList args.toList ds p := hA0
  rw [Try.params5] at hA hval
  obtain ⟨v0, vs0, d0, ds0, p0, q0, hargs, rfl, rfl, h0, r0⟩ := trodAll_cons hA
  obtain ⟨v1, vs1, d1, ds1, p1, q1, rfl, rfl, rfl, h1, r1⟩ := trodAll_cons r0
  obtain ⟨v2, vs2, d2, ds2, p2, q2, rfl, rfl, rfl, h2, r2⟩ := trodAll_cons r1
  obtain ⟨v3, vs3, d3, ds3, p3, q3, rfl, rfl, rfl, h3, r3⟩ := trodAll_cons r2
  obtain ⟨v4, vs4, d4, ds4, p4, q4, rfl, rfl, rfl, h4, r4⟩ := trodAll_cons r3
  obtain ⟨v5, vs5, d5, ds5, p5, q5, rfl, rfl, rfl, h5, r5⟩ := trodAll_cons r4
  obtain ⟨rfl, rfl, rfl⟩ := trodAll_nil r5
  obtain rfl : args = #[v0, v1, v2, v3, v4, v5] := by cases args; simp_all
  obtain ⟨rfl, rfl⟩ := trodVars_none hV
  have k0 := h0
  have lt0 : ∀ x ∈ p0, x.block < W.heap.size := by obtain ⟨m, hm⟩ := k0; exact DataW.trod_lt m _ _ _ hm
  have k1 := h1
  have lt1 : ∀ x ∈ p1, x.block < W.heap.size := by obtain ⟨m, hm⟩ := k1; exact DataW.trod_lt m _ _ _ hm
  have k2 := h2
  have lt2 : ∀ x ∈ p2, x.block < W.heap.size := by obtain ⟨m, hm⟩ := k2; exact DataW.trod_lt m _ _ _ hm
  have k3 := h3
  have lt3 : ∀ x ∈ p3, x.block < W.heap.size := by obtain ⟨m, hm⟩ := k3; exact DataW.trod_lt m _ _ _ hm
  have k4 := h4
  have lt4 : ∀ x ∈ p4, x.block < W.heap.size := by obtain ⟨m, hm⟩ := k4; exact DataW.trod_lt m _ _ _ hm
  have k5 := h5
  have lt5 : ∀ x ∈ p5, x.block < W.heap.size := by obtain ⟨m, hm⟩ := k5; exact DataW.trod_lt m _ _ _ hm
  obtain ⟨c0, rfl, fa0⟩ := open_cells (a := [.i .i8, .f .f32, .f .f32, .i .i16, .f .f32]) 3 (by kernel_rfl) (by kernel_rfl) (hval 0 26 v0 rfl rfl) h0
  obtain ⟨a0, rfl, wa0⟩ := fits_blind fa0
  obtain ⟨c1, rfl, fa1⟩ := open_cells (a := List.replicate 48 (.i .i16)) 4 (by kernel_rfl) (by kernel_rfl) (hval 1 42 v1 rfl rfl) h1
  obtain ⟨hs1, ts1, rfl, nh1, nt1, ch1, ct1⟩ := fits_sun fa1
  obtain ⟨a2, rfl, _, _, wa2⟩ := open_int Try.underlying2 (hval 2 2 v2 rfl rfl) h2
  obtain ⟨c3, rfl, fa3⟩ := open_cells (a := List.replicate 24 (.i .i16)) 3 (by kernel_rfl) (by kernel_rfl) (hval 3 40 v3 rfl rfl) h3
  obtain ⟨a3, la3, ea3, wa3⟩ := fits_ints fa3
  obtain rfl : c3 = i16s a3 := by apply Array.toList_inj.1; rw [ea3]; simp [i16s]
  obtain ⟨a4, rfl, _, _, wa4⟩ := open_float Try.underlying23 (hval 4 23 v4 rfl rfl) h4
  obtain ⟨a5, rfl, _, _, wa5⟩ := open_float Try.underlying23 (hval 5 23 v5 rfl rfl) h5
  clear hA0 hval0
  refine (walk a0 hs1 ts1 a2 a3 a4 a5 W wa0 nh1 nt1 ch1 ct1 (wf_i64 wa2) la3 (fun k hk => wf_i16 (iat_wf la3 wa3 k hk)) (wf_f32 wa4) (wf_f32 wa5)).mono fun e W' ⟨he, bel⟩ => ?_
  subst he
  exact ⟨_, rfl, _, _, _, [], _, [], hW', trodAll_mk1 (shut_bool Try.underlying4 _), (trodAll_cons_mk (Below.trod laidOut (by kernel_rfl) (of_decide_eq_true (by kernel_rfl)) k0 bel lt0) (trodAll_cons_mk (Below.trod laidOut (by kernel_rfl) (of_decide_eq_true (by kernel_rfl)) k1 bel lt1) (trodAll_cons_mk (Below.trod laidOut (by kernel_rfl) (of_decide_eq_true (by kernel_rfl)) k2 bel lt2) (trodAll_cons_mk (Below.trod laidOut (by kernel_rfl) (of_decide_eq_true (by kernel_rfl)) k3 bel lt3) (trodAll_cons_mk (Below.trod laidOut (by kernel_rfl) (of_decide_eq_true (by kernel_rfl)) k4 bel lt4) (trodAll_cons_mk (Below.trod laidOut (by kernel_rfl) (of_decide_eq_true (by kernel_rfl)) k5 bel lt5) trodAll_mk0)))))), rfl, bel.frame _, fun h => by cases h⟩

theorem proved : Rows.FnExactKeepsWithinSaid :=
  OpenClaim.holds_of_wide 5 Try.f5 rfl rfl rfl rfl rfl rfl rfl ⟨rfl, rfl, rfl, rfl, rfl⟩ rfl rfl rfl rfl rfl (by kernel_rfl) Try.func5 (by kernel_rfl)
    (of_decide_eq_true (by kernel_rfl)) (by unfold Func.isWrapper; first | (rw [if_pos (by decide +kernel)]; kernel_rfl) | (rw [if_neg (by decide +kernel)]; exact ⟨rfl, rfl⟩))
    (fun os started H enc _ => lifted os started H enc)
#print axioms proved
end Go.Proofs.Ythnffhmefgfnkaa.lawKeepsWithin
