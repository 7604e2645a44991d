/- FnExactSameFloor returns true for all arguments: for any two arrays of 24 float32 the program's SameFloor and the reference's return the same bool. No condition. -/
import Derived.Test.YtcddfpjpjbfneaaList
import Derived.Test.YtcddfpjpjbfneaaLift
namespace Go.Proofs.Ytcddfpjpjbfneaa.lawSameFloor
open Go.ChangeShapes Go.WideShapes Go.ChangeAt Go.RowKit Go.Proofs.Ytcddfpjpjbfneaa

theorem walk (a0 : List Nat) (a1 : List Nat) (l0 : a0.length = 24) (b0 : ∀ k, k < 24 → fat a0 k < 4294967296) (l1 : a1.length = 24) (b1 : ∀ k, k < 24 → fat a1 k < 4294967296) (w : World) :
    Calls Try.prog 6 #[.agg (f32s a0), .agg (f32s a1)] w fun e w' => e = .returned (.bool true) ∧ Below w.heap.size w w' := by
  have hs0 : (Try.prog.info? 29).map (·.size) = some (f32s a0).size := by rw [f32s_size, l0]; kernel_rfl
  have hs1 : (Try.prog.info? 29).map (·.size) = some (f32s a1).size := by rw [f32s_size, l1]; kernel_rfl
  have hB0 : ((w.alloc (.cells (f32s a0) 29)).alloc (.cells (f32s a1) 29)).heap[w.heap.size]? = some (.cells (f32s a0) 29 (0, 0)) := by repeat (first | exact blk_at _ _ _ (by simp) | rw [blk_past _ _ _ (by simp)])
  have hB1 : ((w.alloc (.cells (f32s a0) 29)).alloc (.cells (f32s a1) 29)).heap[w.heap.size + 1]? = some (.cells (f32s a1) 29 (0, 0)) := by repeat (first | exact blk_at _ _ _ (by simp) | rw [blk_past _ _ _ (by simp)])
  have h0 : Below w.heap.size w ((w.alloc (.cells (f32s a0) 29)).alloc (.cells (f32s a1) 29)) := (((Below.refl _ _).alloc (Nat.le_refl _) _).alloc (by simp) _)
  have L0 := hid l0
  have B0 := hid b0
  have L1 := hid l1
  have B1 := hid b1
  have HS0 := hid hs0
  have HS1 := hid hs1
  have HB0 := hid hB0
  have HB1 := hid hB1
  have H0 := hid h0
  clear l0 b0 l1 b1 hs0 hs1 hB0 hB1 h0
  go_enter Try.func6, Try.ntmps6
  go_wp2_with fail
  refine wp_region_below (by kernel_rfl) (by kernel_rfl) ?_
  repeat (first | (refine wpQuiet_load_row rfl 29 _ rfl (w.heap.size) rfl 29 (f32s a0) (0, 0) _ (fun wx hwx => (hwx.out.block _ (block_lt HB0.out)).trans HB0.out) Try.underlying29 rfl HS0.out ?_) | (refine wpQuiet_load_row rfl 29 _ rfl (w.heap.size + 1) rfl 29 (f32s a1) (0, 0) _ (fun wx hwx => (hwx.out.block _ (block_lt HB1.out)).trans HB1.out) Try.underlying29 rfl HS1.out ?_) | (refine wpQuiet_step (fun K hK => ?_); go_simp; first | (refine hK _ ?_; clear hK K) | (refine ⟨_, fun _ _ => rfl, hK _ ?_⟩; clear hK K) | (apply Exists.intro; refine ⟨fun wx hwx => ?_, hK _ ?_⟩; (first | (with_reducible exact quiet_below hwx (c_toFloor a0 L0.out _)) | (with_reducible exact quiet_below hwx (c_toFloor a1 L1.out _)) | (with_reducible exact quiet_below hwx (c_specSameFloor a0 a1 L0.out L1.out _))); clear hK K)))
  refine wpQuiet_nil ?_
  intro w0 h1
  replace h1 := h1.out
  have HB0_0 := hid ((h1.block (w.heap.size) (block_lt HB0.out)).trans HB0.out)
  have HB1_0 := hid ((h1.block (w.heap.size + 1) (block_lt HB1.out)).trans HB1.out)
  have H1 := hid (below_trans H0.out h1 H0.out.size)
  clear h1
  go_wp2_with fail
  refine wp_region_below (by kernel_rfl) (by kernel_rfl) ?_
  repeat (first | (refine wpQuiet_load_row rfl 29 _ rfl (w.heap.size) rfl 29 (f32s a0) (0, 0) _ (fun wx hwx => (hwx.out.block _ (block_lt HB0_0.out)).trans HB0_0.out) Try.underlying29 rfl HS0.out ?_) | (refine wpQuiet_load_row rfl 29 _ rfl (w.heap.size + 1) rfl 29 (f32s a1) (0, 0) _ (fun wx hwx => (hwx.out.block _ (block_lt HB1_0.out)).trans HB1_0.out) Try.underlying29 rfl HS1.out ?_) | (refine wpQuiet_step (fun K hK => ?_); go_simp; first | (refine hK _ ?_; clear hK K) | (refine ⟨_, fun _ _ => rfl, hK _ ?_⟩; clear hK K) | (apply Exists.intro; refine ⟨fun wx hwx => ?_, hK _ ?_⟩; (first | (with_reducible exact quiet_below hwx (c_toFloor a0 L0.out _)) | (with_reducible exact quiet_below hwx (c_toFloor a1 L1.out _)) | (with_reducible exact quiet_below hwx (c_implSameFloor a0 a1 L0.out L1.out B0.out B1.out _))); clear hK K)))
  refine wpQuiet_nil ?_
  intro w1 h2
  replace h2 := h2.out
  have HB0_1 := hid ((h2.block (w.heap.size) (block_lt HB0_0.out)).trans HB0_0.out)
  have HB1_1 := hid ((h2.block (w.heap.size + 1) (block_lt HB1_0.out)).trans HB1_0.out)
  have H2 := hid (below_trans H1.out h2 H1.out.size)
  clear h2
  go_wp2
  go_ret
  exact ⟨rfl, H2.out⟩

set_option maxRecDepth 100000 in
theorem lifted (os : Os) (started : os.Started) (H : Type) (enc : TypeId × Value → H) :
    ReturnsInHanded {} Try.checked os 6 .any (Rows.fnExactSameFloorSpec.pre6 enc Try.prog Try.f6 Rows.fnExactSameFloorRow.domain false) (Rows.fnExactSameFloorSpec.post enc Try.prog Try.f6 false true false false) := by
  refine returnsInHanded_of_change (C := Try.checked) own started (by kernel_rfl) Try.func6
    (ChangeSpec.witness6 (enc := enc) (C := Try.checked) false ⟨#[], #[.agg (Array.replicate 24 (.float .f32 0)), .agg (Array.replicate 24 (.float .f32 0))], []⟩ 8 (by kernel_rfl) (by kernel_rfl) (by kernel_rfl) (by kernel_rfl)) ?_
  intro W base args ds gs before hval0 hW hcnd _
  have hval : ∀ (j : Nat) t v, Try.f6.params[j]? = some t → args[j]? = some v → Value.okWide Try.prog W .any base t v := hval0
  have hW' := hW
  obtain ⟨p, q, hA0, hV, rfl, hfz, hnd⟩ := hW
  have hA : DataW.TrodAll enc Try.prog W 0 (fun _ => true) true Try.f6.params.toList args.toList ds p := hA0
  rw [Try.params6] at hA hval
  obtain ⟨v0, vs0, d0, ds0, p0, q0, hargs, rfl, rfl, h0, r0⟩ := trodAll_cons hA
  obtain ⟨v1, vs1, d1, ds1, p1, q1, rfl, rfl, rfl, h1, r1⟩ := trodAll_cons r0
  obtain ⟨rfl, rfl, rfl⟩ := trodAll_nil r1
  obtain rfl : args = #[v0, v1] := by cases args; simp_all
  obtain ⟨rfl, rfl⟩ := trodVars_none hV
  have k0 := h0
  have lt0 : ∀ x ∈ p0, x.block < W.heap.size := by obtain ⟨m, hm⟩ := k0; exact DataW.trod_lt m _ _ _ hm
  have k1 := h1
  have lt1 : ∀ x ∈ p1, x.block < W.heap.size := by obtain ⟨m, hm⟩ := k1; exact DataW.trod_lt m _ _ _ hm
  obtain ⟨c0, rfl, fa0⟩ := open_cells (a := List.replicate 24 (.f .f32)) 3 (by kernel_rfl) (by kernel_rfl) (hval 0 29 v0 rfl rfl) h0
  obtain ⟨a0, la0, ea0, wa0⟩ := fits_floats fa0
  obtain rfl : c0 = f32s a0 := by apply Array.toList_inj.1; rw [ea0]; simp [f32s]
  obtain ⟨c1, rfl, fa1⟩ := open_cells (a := List.replicate 24 (.f .f32)) 3 (by kernel_rfl) (by kernel_rfl) (hval 1 29 v1 rfl rfl) h1
  obtain ⟨a1, la1, ea1, wa1⟩ := fits_floats fa1
  obtain rfl : c1 = f32s a1 := by apply Array.toList_inj.1; rw [ea1]; simp [f32s]
  clear hA0 hval0
  refine (walk a0 a1 la0 (fun k hk => wf_f32 (fat_wf la0 wa0 k hk)) la1 (fun k hk => wf_f32 (fat_wf la1 wa1 k hk)) W).mono fun e W' ⟨he, bel⟩ => ?_
  subst he
  exact ⟨_, rfl, _, _, _, [], _, [], hW', trodAll_mk1 (shut_bool Try.underlying4 _), (trodAll_cons_mk (Below.trod laidOut (by kernel_rfl) (of_decide_eq_true (by kernel_rfl)) k0 bel lt0) (trodAll_cons_mk (Below.trod laidOut (by kernel_rfl) (of_decide_eq_true (by kernel_rfl)) k1 bel lt1) trodAll_mk0)), rfl, bel.frame _, fun h => by cases h⟩

theorem proved : Rows.FnExactSameFloorSaid :=
  OpenClaim.holds_of_wide 6 Try.f6 rfl rfl rfl rfl rfl rfl rfl ⟨rfl, rfl, rfl, rfl, rfl⟩ rfl rfl rfl rfl rfl (by kernel_rfl) Try.func6 (by kernel_rfl)
    (of_decide_eq_true (by kernel_rfl)) (by unfold Func.isWrapper; first | (rw [if_pos (by decide +kernel)]; kernel_rfl) | (rw [if_neg (by decide +kernel)]; exact ⟨rfl, rfl⟩))
    (fun os started H enc _ => lifted os started H enc)
#print axioms proved
end Go.Proofs.Ytcddfpjpjbfneaa.lawSameFloor
