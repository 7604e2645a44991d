/- FnExactFloorOf returns true for all arguments: for each blind, height and set of broken stripes the program's FloorOf and the reference's return the same floor and code. No condition. -/
import Derived.Test.YthnffhmefgfnkaaEqFloor
import Derived.Test.YthnffhmefgfnkaaLift
namespace Go.Proofs.Ythnffhmefgfnkaa.lawFloorOf
set_option maxRecDepth 20000
open Go.ChangeShapes Go.WideShapes Go.ChangeAt Go.RowKit Go.Proofs.Ythnffhmefgfnkaa

theorem walk (a0 : Bld) (a1 : Int) (a2 : Int) (w : World) (b0 : WfB a0) (x1 : -9223372036854775808 ≤ a1 ∧ a1 ≤ 9223372036854775807) (x2 : 0 ≤ a2 ∧ a2 ≤ 4294967295) :
    Calls Try.prog 3 #[.agg (bcells a0), .int .i64 a1, .int .u32 a2] w fun e w' => e = .returned (.bool true) ∧ Below w.heap.size w w' := by
  have hs0 : (Try.prog.info? 26).map (·.size) = some (bcells a0).size := by kernel_rfl
  have hB0 : (w.alloc (.cells (bcells a0) 26)).heap[w.heap.size]? = some (.cells (bcells a0) 26 (0, 0)) := by repeat (first | exact blk_at _ _ _ (by simp) | rw [blk_past _ _ _ (by simp)])
  have h0 : Below w.heap.size w (w.alloc (.cells (bcells a0) 26)) := ((Below.refl _ _).alloc (Nat.le_refl _) _)
  have B0 := hid b0
  have X1 := hid x1
  have X2 := hid x2
  have HS0 := hid hs0
  have HB0 := hid hB0
  have H0 := hid h0
  clear b0 x1 x2 hs0 hB0 h0
  have FS : Hid ((Try.prog.info? 29).map (·.size) = some (f32s (flL a0 a1 a2)).size) := hid (by rw [f32s_size, flL_len]; kernel_rfl)
  have FE : Hid (zF.size = (f32s (flL a0 a1 a2)).size) := hid (by rw [f32s_size, flL_len]; rfl)
  go_enter Try.func3, Try.ntmps3
  go_wp2_with (refine wpList_load_row rfl 26 _ rfl (w.heap.size) rfl 26 (bcells a0) (0, 0) _ HB0.out Try.underlying26 rfl HS0.out ?_)
  refine (c_toBlind a0 _).mono ?_
  rintro e w0 ⟨rfl, h0⟩
  have HB_0 := hid ((h0.block (w.heap.size) (block_lt HB0.out)).trans HB0.out)
  have H_0 := hid (below_trans H0.out h0 H0.out.size)
  clear h0
  go_wp2_with (refine wpList_load_row rfl 26 _ rfl (w.heap.size) rfl 26 (bcells a0) (0, 0) _ HB_0.out Try.underlying26 rfl HS0.out ?_)
  refine (c_specFloorOf a0 B0.out a1 a2 (by have := X2.out; omega) _).mono ?_
  rintro e w1 ⟨rfl, h1⟩
  have HB_1 := hid ((h1.block (w.heap.size) (block_lt HB_0.out)).trans HB_0.out)
  have H_1 := hid (below_trans H_0.out h1 H_0.out.size)
  clear h1
  have HO1 := hid (heap_alloc_new w1 (.cells zF 29))
  have HBs1 := hid ((setRow_other (w1.alloc (.cells zF 29)) w1.heap.size w.heap.size (f32s (flL a0 a1 a2)) (by have := block_lt HB_1.out; omega)).trans ((blk_past _ _ _ (block_lt HB_1.out)).trans HB_1.out))
  have HQ1 := hid (blk_row_same (w1.alloc (.cells zF 29)) w1.heap.size zF (f32s (flL a0 a1 a2)) _ _ HO1.out)
  have Hs1 := hid (below_setRow (H_1.out.alloc H_1.out.size (.cells zF 29)) (g := w1.heap.size) H_1.out.size (f32s (flL a0 a1 a2)))
  go_wp2_with (first | (refine wpList_store_row rfl 29 _ _ rfl (w1.heap.size) (f32s (flL a0 a1 a2)) rfl rfl 29 zF HO1.out FS.out FE.out (f32s_one _) ?_) | (refine wpList_load_row rfl 26 _ rfl (w.heap.size) rfl 26 (bcells a0) (0, 0) _ HBs1.out Try.underlying26 rfl HS0.out ?_))
  refine (c_toBlind a0 _).mono ?_
  rintro e w2 ⟨rfl, h2⟩
  have HB_2 := hid ((h2.block (w.heap.size) (block_lt HBs1.out)).trans HBs1.out)
  have H_2 := hid (below_trans Hs1.out h2 Hs1.out.size)
  have HQ1a := hid ((h2.block _ (block_lt HQ1.out)).trans HQ1.out)
  clear h2
  go_wp2_with (refine wpList_load_row rfl 26 _ rfl (w.heap.size) rfl 26 (bcells a0) (0, 0) _ HB_2.out Try.underlying26 rfl HS0.out ?_)
  refine (c_implFloorOf a0 B0.out a1 a2 (by have := X2.out; omega) _).mono ?_
  rintro e w3 ⟨rfl, h3⟩
  have HB_3 := hid ((h3.block (w.heap.size) (block_lt HB_2.out)).trans HB_2.out)
  have H_3 := hid (below_trans H_2.out h3 H_2.out.size)
  have HQ1b := hid ((h3.block _ (block_lt HQ1a.out)).trans HQ1a.out)
  clear h3
  have HO2 := hid (heap_alloc_new w3 (.cells zF 29))
  have HBs2 := hid ((setRow_other (w3.alloc (.cells zF 29)) w3.heap.size w.heap.size (f32s (flL a0 a1 a2)) (by have := block_lt HB_3.out; omega)).trans ((blk_past _ _ _ (block_lt HB_3.out)).trans HB_3.out))
  have HQ1c := hid ((setRow_other (w3.alloc (.cells zF 29)) w3.heap.size w1.heap.size (f32s (flL a0 a1 a2)) (by have := block_lt HQ1b.out; omega)).trans ((blk_past _ _ _ (block_lt HQ1b.out)).trans HQ1b.out))
  have HQ2 := hid (blk_row_same (w3.alloc (.cells zF 29)) w3.heap.size zF (f32s (flL a0 a1 a2)) _ _ HO2.out)
  have Hs2 := hid (below_setRow (H_3.out.alloc H_3.out.size (.cells zF 29)) (g := w3.heap.size) H_3.out.size (f32s (flL a0 a1 a2)))
  go_wp2_with (first | (refine wpList_store_row rfl 29 _ _ rfl (w3.heap.size) (f32s (flL a0 a1 a2)) rfl rfl 29 zF HO2.out FS.out FE.out (f32s_one _) ?_) | (refine wpList_load_row rfl 29 _ rfl (w3.heap.size) rfl 29 (f32s (flL a0 a1 a2)) (0, 0) _ HQ2.out Try.underlying29 rfl FS.out ?_) | (refine wpList_load_row rfl 29 _ rfl (w1.heap.size) rfl 29 (f32s (flL a0 a1 a2)) (0, 0) _ HQ1c.out Try.underlying29 rfl FS.out ?_))
  refine (c_eqFloor _ (flL_len a0 a1 a2) (fin_flL B0.out a1 a2) _).mono ?_
  rintro e w4 ⟨rfl, h4⟩
  have H_4 := hid (below_trans Hs2.out h4 Hs2.out.size)
  clear h4
  go_wp2
  go_ret
  exact ⟨rfl, H_4.out⟩

set_option maxRecDepth 100000 in
theorem lifted (os : Os) (started : os.Started) (H : Type) (enc : TypeId × Value → H) :
    ReturnsInHanded {} Try.checked os 3 .any (Rows.fnExactFloorOfSpec.pre6 enc Try.prog Try.f3 Rows.fnExactFloorOfRow.domain false) (Rows.fnExactFloorOfSpec.post enc Try.prog Try.f3 false true false false) := by
  refine returnsInHanded_of_change (C := Try.checked) own started (by kernel_rfl) Try.func3
    (ChangeSpec.witness6 (enc := enc) (C := Try.checked) false ⟨#[], #[.agg #[.int .i8 0, .float .f32 0, .float .f32 0, .int .i16 0, .float .f32 0], .int .i64 0, .int .u32 0], []⟩ 8 (by kernel_rfl) (by kernel_rfl) (by kernel_rfl) (by kernel_rfl)) ?_
  intro W base args ds gs before hval0 hW hcnd _
  have hval : ∀ (j : Nat) t v, Try.f3.params[j]? = some t → args[j]? = some v → Value.okWide Try.prog W .any base t v := hval0
  have hW' := hW
  obtain ⟨p, q, hA0, hV, rfl, hfz, hnd⟩ := hW
  have hA : DataW.TrodAll enc Try.prog W 0 (fun _ => true) true Try.f3.params.toList args.toList ds p := hA0
  rw [Try.params3] at hA hval
  obtain ⟨v0, vs0, d0, ds0, p0, q0, hargs, rfl, rfl, h0, r0⟩ := trodAll_cons hA
  obtain ⟨v1, vs1, d1, ds1, p1, q1, rfl, rfl, rfl, h1, r1⟩ := trodAll_cons r0
  obtain ⟨v2, vs2, d2, ds2, p2, q2, rfl, rfl, rfl, h2, r2⟩ := trodAll_cons r1
  obtain ⟨rfl, rfl, rfl⟩ := trodAll_nil r2
  obtain rfl : args = #[v0, v1, v2] := by cases args; simp_all
  obtain ⟨rfl, rfl⟩ := trodVars_none hV
  have k0 := h0
  have lt0 : ∀ x ∈ p0, x.block < W.heap.size := by obtain ⟨m, hm⟩ := k0; exact DataW.trod_lt m _ _ _ hm
  have k1 := h1
  have lt1 : ∀ x ∈ p1, x.block < W.heap.size := by obtain ⟨m, hm⟩ := k1; exact DataW.trod_lt m _ _ _ hm
  have k2 := h2
  have lt2 : ∀ x ∈ p2, x.block < W.heap.size := by obtain ⟨m, hm⟩ := k2; exact DataW.trod_lt m _ _ _ hm
  obtain ⟨c0, rfl, fa0⟩ := open_cells (a := [.i .i8, .f .f32, .f .f32, .i .i16, .f .f32]) 3 (by kernel_rfl) (by kernel_rfl) (hval 0 26 v0 rfl rfl) h0
  obtain ⟨a0, rfl, wa0⟩ := fits_blind fa0
  obtain ⟨a1, rfl, _, _, wa1⟩ := open_int Try.underlying2 (hval 1 2 v1 rfl rfl) h1
  obtain ⟨a2, rfl, _, _, wa2⟩ := open_int Try.underlying27 (hval 2 27 v2 rfl rfl) h2
  clear hA0 hval0
  refine (walk a0 a1 a2 W wa0 (wf_i64 wa1) (wf_u32 wa2)).mono fun e W' ⟨he, bel⟩ => ?_
  subst he
  exact ⟨_, rfl, _, _, _, [], _, [], hW', trodAll_mk1 (shut_bool Try.underlying4 _), (trodAll_cons_mk (Below.trod laidOut (by kernel_rfl) (of_decide_eq_true (by kernel_rfl)) k0 bel lt0) (trodAll_cons_mk (Below.trod laidOut (by kernel_rfl) (of_decide_eq_true (by kernel_rfl)) k1 bel lt1) (trodAll_cons_mk (Below.trod laidOut (by kernel_rfl) (of_decide_eq_true (by kernel_rfl)) k2 bel lt2) trodAll_mk0))), rfl, bel.frame _, fun h => by cases h⟩

theorem proved : Rows.FnExactFloorOfSaid :=
  OpenClaim.holds_of_wide 3 Try.f3 rfl rfl rfl rfl rfl rfl rfl ⟨rfl, rfl, rfl, rfl, rfl⟩ rfl rfl rfl rfl rfl (by kernel_rfl) Try.func3 (by kernel_rfl)
    (of_decide_eq_true (by kernel_rfl)) (by unfold Func.isWrapper; first | (rw [if_pos (by decide +kernel)]; kernel_rfl) | (rw [if_neg (by decide +kernel)]; exact ⟨rfl, rfl⟩))
    (fun os started H enc _ => lifted os started H enc)
#print axioms proved
end Go.Proofs.Ythnffhmefgfnkaa.lawFloorOf
