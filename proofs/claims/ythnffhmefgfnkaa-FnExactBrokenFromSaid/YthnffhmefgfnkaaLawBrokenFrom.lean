/- FnExactBrokenFrom returns true for all arguments: for each blind, height and floor the program's BrokenFrom and the reference's return the same numbers. No condition. -/
import Derived.Test.YthnffhmefgfnkaaBroken
import Derived.Test.YthnffhmefgfnkaaLift
namespace Go.Proofs.Ythnffhmefgfnkaa.lawBrokenFrom
set_option maxRecDepth 20000
open Go.ChangeShapes Go.WideShapes Go.ChangeAt Go.RowKit Go.Proofs.Ythnffhmefgfnkaa

theorem walk (a0 : Bld) (a1 : Int) (a2 : List Nat) (w : World) (b0 : WfB a0) (x1 : -9223372036854775808 ≤ a1 ∧ a1 ≤ 9223372036854775807) (l2 : a2.length = 24) (b2 : ∀ k, k < 24 → fat a2 k < 4294967296) :
    Calls Try.prog 4 #[.agg (bcells a0), .int .i64 a1, .agg (f32s a2)] w fun e w' => e = .returned (.bool true) ∧ Below w.heap.size w w' := by
  have hs0 : (Try.prog.info? 26).map (·.size) = some (bcells a0).size := by kernel_rfl
  have hs2 : (Try.prog.info? 28).map (·.size) = some (f32s a2).size := by rw [f32s_size, l2]; kernel_rfl
  have hB0 : ((w.alloc (.cells (bcells a0) 26)).alloc (.cells (f32s a2) 28)).heap[w.heap.size]? = some (.cells (bcells a0) 26 (0, 0)) := by repeat (first | exact blk_at _ _ _ (by simp) | rw [blk_past _ _ _ (by simp)])
  have hB2 : ((w.alloc (.cells (bcells a0) 26)).alloc (.cells (f32s a2) 28)).heap[w.heap.size + 1]? = some (.cells (f32s a2) 28 (0, 0)) := by repeat (first | exact blk_at _ _ _ (by simp) | rw [blk_past _ _ _ (by simp)])
  have h0 : Below w.heap.size w ((w.alloc (.cells (bcells a0) 26)).alloc (.cells (f32s a2) 28)) := (((Below.refl _ _).alloc (Nat.le_refl _) _).alloc (by simp) _)
  have B0 := hid b0
  have X1 := hid x1
  have L2 := hid l2
  have B2 := hid b2
  have HS0 := hid hs0
  have HS2 := hid hs2
  have HB0 := hid hB0
  have HB2 := hid hB2
  have H0 := hid h0
  clear b0 x1 l2 b2 hs0 hs2 hB0 hB2 h0
  go_enter Try.func4, Try.ntmps4
  go_wp2_with fail
  refine wp_region_below (by kernel_rfl) (by kernel_rfl) ?_
  repeat (first | (refine wpQuiet_load_row rfl 26 _ rfl (w.heap.size) rfl 26 (bcells a0) (0, 0) _ (fun wx hwx => (hwx.out.block _ (block_lt HB0.out)).trans HB0.out) Try.underlying26 rfl HS0.out ?_) | (refine wpQuiet_load_row rfl 28 _ rfl (w.heap.size + 1) rfl 28 (f32s a2) (0, 0) _ (fun wx hwx => (hwx.out.block _ (block_lt HB2.out)).trans HB2.out) Try.underlying28 rfl HS2.out ?_) | (refine wpQuiet_step (fun K hK => ?_); go_simp; first | (refine hK _ ?_; clear hK K) | (refine ⟨_, fun _ _ => rfl, hK _ ?_⟩; clear hK K) | (apply Exists.intro; refine ⟨fun wx hwx => ?_, hK _ ?_⟩; (first | (with_reducible exact quiet_below hwx (c_toBlind a0 _)) | (with_reducible exact quiet_below hwx (c_toFloor a2 L2.out _)) | (with_reducible exact quiet_below hwx (c_specBrokenFrom a0 B0.out a2 L2.out a1 _))); clear hK K)))
  refine wpQuiet_nil ?_
  intro w0 h1
  replace h1 := h1.out
  have HB0_0 := hid ((h1.block (w.heap.size) (block_lt HB0.out)).trans HB0.out)
  have HB2_0 := hid ((h1.block (w.heap.size + 1) (block_lt HB2.out)).trans HB2.out)
  have H1 := hid (below_trans H0.out h1 H0.out.size)
  clear h1
  go_wp2_with fail
  refine wp_region_below (by kernel_rfl) (by kernel_rfl) ?_
  repeat (first | (refine wpQuiet_load_row rfl 26 _ rfl (w.heap.size) rfl 26 (bcells a0) (0, 0) _ (fun wx hwx => (hwx.out.block _ (block_lt HB0_0.out)).trans HB0_0.out) Try.underlying26 rfl HS0.out ?_) | (refine wpQuiet_load_row rfl 28 _ rfl (w.heap.size + 1) rfl 28 (f32s a2) (0, 0) _ (fun wx hwx => (hwx.out.block _ (block_lt HB2_0.out)).trans HB2_0.out) Try.underlying28 rfl HS2.out ?_) | (refine wpQuiet_step (fun K hK => ?_); go_simp; first | (refine hK _ ?_; clear hK K) | (refine ⟨_, fun _ _ => rfl, hK _ ?_⟩; clear hK K) | (apply Exists.intro; refine ⟨fun wx hwx => ?_, hK _ ?_⟩; (first | (with_reducible exact quiet_below hwx (c_toBlind a0 _)) | (with_reducible exact quiet_below hwx (c_toFloor a2 L2.out _)) | (with_reducible exact quiet_below hwx (c_implBrokenFrom a0 B0.out a2 L2.out a1 _))); clear hK K)))
  refine wpQuiet_nil ?_
  intro w1 h2
  replace h2 := h2.out
  have HB0_1 := hid ((h2.block (w.heap.size) (block_lt HB0_0.out)).trans HB0_0.out)
  have HB2_1 := hid ((h2.block (w.heap.size + 1) (block_lt HB2_0.out)).trans HB2_0.out)
  have H2 := hid (below_trans H1.out h2 H1.out.size)
  clear h2
  go_wp2
  go_ret
  exact ⟨rfl, H2.out⟩

set_option maxRecDepth 100000 in
theorem lifted (os : Os) (started : os.Started) (H : Type) (enc : TypeId × Value → H) :
    ReturnsInHanded {} Try.checked os 4 .any (Rows.fnExactBrokenFromSpec.pre6 enc Try.prog Try.f4 Rows.fnExactBrokenFromRow.domain false) (Rows.fnExactBrokenFromSpec.post enc Try.prog Try.f4 false true false false) := by
  refine returnsInHanded_of_change (C := Try.checked) own started (by kernel_rfl) Try.func4
    (ChangeSpec.witness6 (enc := enc) (C := Try.checked) false ⟨#[], #[.agg #[.int .i8 0, .float .f32 0, .float .f32 0, .int .i16 0, .float .f32 0], .int .i64 0, .agg (Array.replicate 24 (.float .f32 0))], []⟩ 8 (by kernel_rfl) (by kernel_rfl) (by kernel_rfl) (by kernel_rfl)) ?_
  intro W base args ds gs before hval0 hW hcnd _
  have hval : ∀ (j : Nat) t v, Try.f4.params[j]? = some t → args[j]? = some v → Value.okWide Try.prog W .any base t v := hval0
  have hW' := hW
  obtain ⟨p, q, hA0, hV, rfl, hfz, hnd⟩ := hW
  have hA : DataW.TrodAll enc Try.prog W 0 (fun _ => true) true Try.f4.params.toList args.toList ds p := hA0
  rw [Try.params4] at hA hval
  obtain ⟨v0, vs0, d0, ds0, p0, q0, hargs, rfl, rfl, h0, r0⟩ := trodAll_cons hA
  obtain ⟨v1, vs1, d1, ds1, p1, q1, rfl, rfl, rfl, h1, r1⟩ := trodAll_cons r0
  obtain ⟨v2, vs2, d2, ds2, p2, q2, rfl, rfl, rfl, h2, r2⟩ := trodAll_cons r1
  obtain ⟨rfl, rfl, rfl⟩ := trodAll_nil r2
  obtain rfl : args = #[v0, v1, v2] := by cases args; simp_all
  obtain ⟨rfl, rfl⟩ := trodVars_none hV
  have k0 := h0
  have lt0 : ∀ x ∈ p0, x.block < W.heap.size := by obtain ⟨m, hm⟩ := k0; exact DataW.trod_lt m _ _ _ hm
  have k1 := h1
  have lt1 : ∀ x ∈ p1, x.block < W.heap.size := by obtain ⟨m, hm⟩ := k1; exact DataW.trod_lt m _ _ _ hm
  have k2 := h2
  have lt2 : ∀ x ∈ p2, x.block < W.heap.size := by obtain ⟨m, hm⟩ := k2; exact DataW.trod_lt m _ _ _ hm
  obtain ⟨c0, rfl, fa0⟩ := open_cells (a := [.i .i8, .f .f32, .f .f32, .i .i16, .f .f32]) 3 (by kernel_rfl) (by kernel_rfl) (hval 0 26 v0 rfl rfl) h0
  obtain ⟨a0, rfl, wa0⟩ := fits_blind fa0
  obtain ⟨a1, rfl, _, _, wa1⟩ := open_int Try.underlying2 (hval 1 2 v1 rfl rfl) h1
  obtain ⟨c2, rfl, fa2⟩ := open_cells (a := List.replicate 24 (.f .f32)) 3 (by kernel_rfl) (by kernel_rfl) (hval 2 28 v2 rfl rfl) h2
  obtain ⟨a2, la2, ea2, wa2⟩ := fits_floats fa2
  obtain rfl : c2 = f32s a2 := by apply Array.toList_inj.1; rw [ea2]; simp [f32s]
  clear hA0 hval0
  refine (walk a0 a1 a2 W wa0 (wf_i64 wa1) la2 (fun k hk => wf_f32 (fat_wf la2 wa2 k hk))).mono fun e W' ⟨he, bel⟩ => ?_
  subst he
  exact ⟨_, rfl, _, _, _, [], _, [], hW', trodAll_mk1 (shut_bool Try.underlying4 _), (trodAll_cons_mk (Below.trod laidOut (by kernel_rfl) (of_decide_eq_true (by kernel_rfl)) k0 bel lt0) (trodAll_cons_mk (Below.trod laidOut (by kernel_rfl) (of_decide_eq_true (by kernel_rfl)) k1 bel lt1) (trodAll_cons_mk (Below.trod laidOut (by kernel_rfl) (of_decide_eq_true (by kernel_rfl)) k2 bel lt2) trodAll_mk0))), rfl, bel.frame _, fun h => by cases h⟩

theorem proved : Rows.FnExactBrokenFromSaid :=
  OpenClaim.holds_of_wide 4 Try.f4 rfl rfl rfl rfl rfl rfl rfl ⟨rfl, rfl, rfl, rfl, rfl⟩ rfl rfl rfl rfl rfl (by kernel_rfl) Try.func4 (by kernel_rfl)
    (of_decide_eq_true (by kernel_rfl)) (by unfold Func.isWrapper; first | (rw [if_pos (by decide +kernel)]; kernel_rfl) | (rw [if_neg (by decide +kernel)]; exact ⟨rfl, rfl⟩))
    (fun os started H enc _ => lifted os started H enc)
#print axioms proved
end Go.Proofs.Ythnffhmefgfnkaa.lawBrokenFrom
