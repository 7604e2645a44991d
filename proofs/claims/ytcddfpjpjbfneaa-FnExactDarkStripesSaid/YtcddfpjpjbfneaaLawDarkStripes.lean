/- FnExactDarkStripes returns true for all arguments: for each array of 24 float32 and each bound the program's DarkStripes and the reference's return the same set and code. No condition. -/
import Derived.Test.YtcddfpjpjbfneaaPlan
import Derived.Test.YtcddfpjpjbfneaaLift
namespace Go.Proofs.Ytcddfpjpjbfneaa.lawDarkStripes
open Go.ChangeShapes Go.WideShapes Go.ChangeAt Go.RowKit Go.Proofs.Ytcddfpjpjbfneaa

theorem walk (a0 : List Nat) (a1 : Nat) (l0 : a0.length = 24) (b0 : ∀ k, k < 24 → fat a0 k < 4294967296) (x1 : a1 < 4294967296) (w : World) :
    Calls Try.prog 4 #[.agg (f32s a0), .float .f32 a1] w fun e w' => e = .returned (.bool true) ∧ Below w.heap.size w w' := by
  have hs0 : (Try.prog.info? 29).map (·.size) = some (f32s a0).size := by rw [f32s_size, l0]; kernel_rfl
  have hB0 : (w.alloc (.cells (f32s a0) 29)).heap[w.heap.size]? = some (.cells (f32s a0) 29 (0, 0)) := by repeat (first | exact blk_at _ _ _ (by simp) | rw [blk_past _ _ _ (by simp)])
  have h0 : Below w.heap.size w (w.alloc (.cells (f32s a0) 29)) := ((Below.refl _ _).alloc (Nat.le_refl _) _)
  have L0 := hid l0
  have B0 := hid b0
  have X1 := hid x1
  have HS0 := hid hs0
  have HB0 := hid hB0
  have H0 := hid h0
  clear l0 b0 x1 hs0 hB0 h0
  go_enter Try.func4, Try.ntmps4
  go_wp2_with (refine wpList_load_row rfl 29 _ rfl (w.heap.size) rfl 29 (f32s a0) (0, 0) _ HB0.out Try.underlying29 rfl HS0.out ?_)
  refine (c_toFloor a0 L0.out _).mono ?_
  rintro e w0 ⟨rfl, h1⟩
  have HB0_0 := hid ((h1.block (w.heap.size) (block_lt HB0.out)).trans HB0.out)
  have H1 := hid (below_trans H0.out h1 H0.out.size)
  clear h1
  go_wp2_with (refine wpList_load_row rfl 29 _ rfl (w.heap.size) rfl 29 (f32s a0) (0, 0) _ HB0_0.out Try.underlying29 rfl HS0.out ?_)
  refine (c_specDarkStripes a0 a1 L0.out _).mono ?_
  rintro e w1 ⟨rfl, h2⟩
  have HB0_1 := hid ((h2.block (w.heap.size) (block_lt HB0_0.out)).trans HB0_0.out)
  have H2 := hid (below_trans H1.out h2 H1.out.size)
  clear h2
  go_wp2_with (refine wpList_load_row rfl 29 _ rfl (w.heap.size) rfl 29 (f32s a0) (0, 0) _ HB0_1.out Try.underlying29 rfl HS0.out ?_)
  refine (c_toFloor a0 L0.out _).mono ?_
  rintro e w2 ⟨rfl, h3⟩
  have HB0_2 := hid ((h3.block (w.heap.size) (block_lt HB0_1.out)).trans HB0_1.out)
  have H3 := hid (below_trans H2.out h3 H2.out.size)
  clear h3
  go_wp2_with (refine wpList_load_row rfl 29 _ rfl (w.heap.size) rfl 29 (f32s a0) (0, 0) _ HB0_2.out Try.underlying29 rfl HS0.out ?_)
  refine (c_implDarkStripes a0 a1 L0.out _).mono ?_
  rintro e w3 ⟨rfl, h4⟩
  have HB0_3 := hid ((h4.block (w.heap.size) (block_lt HB0_2.out)).trans HB0_2.out)
  have H4 := hid (below_trans H3.out h4 H3.out.size)
  clear h4
  go_wp2
  go_ret
  exact ⟨rfl, H4.out⟩

set_option maxRecDepth 100000 in
theorem lifted (os : Os) (started : os.Started) (H : Type) (enc : TypeId × Value → H) :
    ReturnsInHanded {} Try.checked os 4 .any (Rows.fnExactDarkStripesSpec.pre6 enc Try.prog Try.f4 Rows.fnExactDarkStripesRow.domain false) (Rows.fnExactDarkStripesSpec.post enc Try.prog Try.f4 false true false false) := by
  refine returnsInHanded_of_change (C := Try.checked) own started (by kernel_rfl) Try.func4
    (ChangeSpec.witness6 (enc := enc) (C := Try.checked) false ⟨#[], #[.agg (Array.replicate 24 (.float .f32 0)), .float .f32 0], []⟩ 8 (by kernel_rfl) (by kernel_rfl) (by kernel_rfl) (by kernel_rfl)) ?_
  intro W base args ds gs before hval0 hW hcnd _
  have hval : ∀ (j : Nat) t v, Try.f4.params[j]? = some t → args[j]? = some v → Value.okWide Try.prog W .any base t v := hval0
  have hW' := hW
  obtain ⟨p, q, hA0, hV, rfl, hfz, hnd⟩ := hW
  have hA : DataW.TrodAll enc Try.prog W 0 (fun _ => true) true Try.f4.params.toList args.toList ds p := hA0
  rw [Try.params4] at hA hval
  obtain ⟨v0, vs0, d0, ds0, p0, q0, hargs, rfl, rfl, h0, r0⟩ := trodAll_cons hA
  obtain ⟨v1, vs1, d1, ds1, p1, q1, rfl, rfl, rfl, h1, r1⟩ := trodAll_cons r0
  obtain ⟨rfl, rfl, rfl⟩ := trodAll_nil r1
  obtain rfl : args = #[v0, v1] := by cases args; simp_all
  obtain ⟨rfl, rfl⟩ := trodVars_none hV
  have k0 := h0
  have lt0 : ∀ x ∈ p0, x.block < W.heap.size := by obtain ⟨m, hm⟩ := k0; exact DataW.trod_lt m _ _ _ hm
  have k1 := h1
  have lt1 : ∀ x ∈ p1, x.block < W.heap.size := by obtain ⟨m, hm⟩ := k1; exact DataW.trod_lt m _ _ _ hm
  obtain ⟨c0, rfl, fa0⟩ := open_cells (a := List.replicate 24 (.f .f32)) 3 (by kernel_rfl) (by kernel_rfl) (hval 0 29 v0 rfl rfl) h0
  obtain ⟨a0, la0, ea0, wa0⟩ := fits_floats fa0
  obtain rfl : c0 = f32s a0 := by apply Array.toList_inj.1; rw [ea0]; simp [f32s]
  obtain ⟨a1, rfl, _, _, wa1⟩ := open_float Try.underlying28 (hval 1 28 v1 rfl rfl) h1
  clear hA0 hval0
  refine (walk a0 a1 la0 (fun k hk => wf_f32 (fat_wf la0 wa0 k hk)) (wf_f32 wa1) W).mono fun e W' ⟨he, bel⟩ => ?_
  subst he
  exact ⟨_, rfl, _, _, _, [], _, [], hW', trodAll_mk1 (shut_bool Try.underlying4 _), (trodAll_cons_mk (Below.trod laidOut (by kernel_rfl) (of_decide_eq_true (by kernel_rfl)) k0 bel lt0) (trodAll_cons_mk (Below.trod laidOut (by kernel_rfl) (of_decide_eq_true (by kernel_rfl)) k1 bel lt1) trodAll_mk0)), rfl, bel.frame _, fun h => by cases h⟩

theorem proved : Rows.FnExactDarkStripesSaid :=
  OpenClaim.holds_of_wide 4 Try.f4 rfl rfl rfl rfl rfl rfl rfl ⟨rfl, rfl, rfl, rfl, rfl⟩ rfl rfl rfl rfl rfl (by kernel_rfl) Try.func4 (by kernel_rfl)
    (of_decide_eq_true (by kernel_rfl)) (by unfold Func.isWrapper; first | (rw [if_pos (by decide +kernel)]; kernel_rfl) | (rw [if_neg (by decide +kernel)]; exact ⟨rfl, rfl⟩))
    (fun os started H enc _ => lifted os started H enc)
#print axioms proved
end Go.Proofs.Ytcddfpjpjbfneaa.lawDarkStripes
