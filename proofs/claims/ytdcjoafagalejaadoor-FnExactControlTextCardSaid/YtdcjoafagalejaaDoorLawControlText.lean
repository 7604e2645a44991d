/- FnExactControlText returns true for all arguments: for each control the program's ControlText and the reference's return the same text, and the program leaves its argument as it was. No condition. A tied card: the tables that the library reads lie as the program's text lays them. -/
import Derived.Test.YtdcjoafagalejaaDoorCTextI
import Derived.Test.YtdcjoafagalejaaDoorLift
import Derived.Test.YtdcjoafagalejaaDoorCards
import Derived.Test.YtdcjoafagalejaaDoorTie
import Derived.LaidMore
import Derived.OpenShut
import Derived.Stop.LaidErr
namespace Go.Proofs.YtdcjoafagalejaaDoor.lawControlText
set_option maxRecDepth 20000
open Go.ChangeShapes Go.WideShapes Go.ChangeAt Go.RowKit Go.Proofs.YtdcjoafagalejaaDoor

theorem tab_of {x y : String × DataW Unit} {rest : List (String × DataW Unit)} {w : World} (h : laidMet Tryd.prog (x :: y :: ("internal/strconv.uint64pow10", Rows.laid_internal_strconv_uint64pow10) :: rest) w) : Tab w := by
  have e : (Rows.laid_internal_strconv_uint64pow10 : DataW Unit) = Lib.tabData .u64 Lib.pow10Tab := by kernel_rfl
  have h2 := laidMet.tail (laidMet.tail h)
  rw [e] at h2
  exact Lib.tabIs_of_head (g := (Tryd.prog.globalNamed "internal/strconv.uint64pow10").getD 0) (t := 145) (e := 103) (n := 20) (by kernel_rfl) (by kernel_rfl) (by kernel_rfl) (by kernel_rfl) (by kernel_rfl) (by kernel_rfl) h2
theorem d64_of {x : String × DataW Unit} {rest : List (String × DataW Unit)} {w : World} (h : laidMet Tryd.prog (x :: ("math/bits.deBruijn64tab", Rows.laid_math_bits_deBruijn64tab) :: rest) w) : D64 w := by
  have e : (Rows.laid_math_bits_deBruijn64tab : DataW Unit) = Lib.tabData .u8 [0, 1, 56, 2, 57, 49, 28, 3, 61, 58, 42, 50, 38, 29, 17, 4, 62, 47, 59, 36, 45, 43, 51, 22, 53, 39, 33, 30, 24, 18, 12, 5, 63, 55, 48, 27, 60, 41, 37, 16, 46, 35, 44, 21, 52, 32, 23, 11, 54, 26, 40, 15, 34, 20, 31, 10, 25, 14, 19, 9, 13, 8, 7, 6] := by kernel_rfl
  have h2 := laidMet.tail h
  rw [e] at h2
  have t := Lib.tabIs_of_head (g := (Tryd.prog.globalNamed "math/bits.deBruijn64tab").getD 0) (t := 163) (e := 5) (n := 64) (by kernel_rfl) (by kernel_rfl) (by kernel_rfl) (by kernel_rfl) (by kernel_rfl) (by kernel_rfl) h2
  exact ⟨_, t, rfl⟩
theorem c_specControlText (X : Ctl) (wf : WfC X) (w : World) :
    Calls Tryd.prog 21 #[.agg (ccells X)] w fun e w' => e = .returned (txt (ctlText X)) ∧ Below w.heap.size w w' := by
  have HB0 : Hid ((w.alloc (.cells (ccells X) 42)).heap[w.heap.size]? = some (.cells (ccells X) 42 (0, 0))) := hid (blk_at _ _ _ rfl)
  have H0 : Hid (Below w.heap.size w (w.alloc (.cells (ccells X) 42))) := hid ((Below.refl _ _).alloc (Nat.le_refl _) _)
  have CV := hid (c_okCtl X wf w.heap.size _ (CtlAt.of_block HB0.out))
  cases hv : okC X
  · have E : Hid (ctlText X = []) := hid (by rw [ctlText, hv]; rfl)
    rw [hv] at CV
    clear hv wf
    go_enter Tryd.func21, Tryd.ntmps21
    go_wp2_with (go_at_call 47; refine CV.out.mono ?_; rintro e w1 ⟨rfl, h1⟩; have D1 := hid (below_trans H0.out h1 H0.out.size); clear h1)
    go_ret
    exact ⟨by rw [E.out]; rfl, D1.out⟩
  · have E : Hid (ctlText X = told X) := hid (by rw [ctlText, hv]; rfl)
    have CT := hid (fun w2 h => c_l05Told X (OkC.of wf hv) w.heap.size w2 h)
    rw [hv] at CV
    clear hv wf
    go_enter Tryd.func21, Tryd.ntmps21
    go_wp2_with (first | (go_at_call 47; refine CV.out.mono ?_; rintro e w1 ⟨rfl, h1⟩; have D1 := hid (below_trans H0.out h1 H0.out.size); have B1 := hid ((h1.block _ (block_lt HB0.out)).trans HB0.out); clear h1) | (go_at_call 48; refine (CT.out _ (CtlAt.of_block B1.out)).mono ?_; rintro e w2 ⟨rfl, h2⟩; have D2 := hid (below_trans D1.out h2 D1.out.size); clear h2))
    go_ret
    exact ⟨by rw [E.out]; rfl, D2.out⟩
set_option maxHeartbeats 1000000 in
theorem walk (a0 : Ctl) (w : World) (b0 : WfC a0) (hL : laidMetH Tryd.prog Rows.fnExactControlTextRow.laid w) :
    Calls Tryd.prog 6 #[.agg (ccells a0)] w fun e w' => e = .returned (.bool true) ∧ Below w.heap.size w w' := by
  rw [MakeChecks.laidMetH_plain _ _ _ (by kernel_rfl)] at hL
  have T0 := hid (tab_of hL)
  have G0 := hid (d64_of hL)
  have HB0 : Hid ((w.alloc (.cells (ccells a0) 40)).heap[w.heap.size]? = some (.cells (ccells a0) 40 (0, 0))) := hid (blk_at _ _ _ rfl)
  have H0 : Hid (Below w.heap.size w (w.alloc (.cells (ccells a0) 40))) := hid ((Below.refl _ _).alloc (Nat.le_refl _) _)
  have HZ : Hid ((Tryd.prog.info? 40).map (·.size) = some (ccells a0).size) := hid (by kernel_rfl)
  have CP := hid (fun w => c_toCtl a0 w)
  have CS := hid (fun w => c_specControlText a0 b0 w)
  have CI := hid (fun w hT hG => c_implControlText a0 b0 w hT hG)
  clear hL b0
  go_enter Tryd.func6, Tryd.ntmps6
  go_wp2_with (refine wpList_load_row rfl 40 _ rfl (w.heap.size) rfl 40 (ccells a0) (0, 0) _ HB0.out Tryd.underlying40 rfl HZ.out ?_)
  refine (CP.out _).mono ?_
  rintro e w1 ⟨rfl, h1⟩
  have D1 := hid (below_trans H0.out h1 H0.out.size)
  have B1 := hid ((h1.block _ (block_lt HB0.out)).trans HB0.out)
  clear h1
  go_wp2_with fail
  refine (CS.out _).mono ?_
  rintro e w2 ⟨rfl, h2⟩
  have D2 := hid (below_trans D1.out h2 D1.out.size)
  have B2 := hid ((h2.block _ (block_lt B1.out)).trans B1.out)
  clear h2
  go_wp2_with (refine wpList_load_row rfl 40 _ rfl (w.heap.size) rfl 40 (ccells a0) (0, 0) _ B2.out Tryd.underlying40 rfl HZ.out ?_)
  refine (CP.out _).mono ?_
  rintro e w3 ⟨rfl, h3⟩
  have D3 := hid (below_trans D2.out h3 D2.out.size)
  clear h3
  go_wp2_with fail
  refine (CI.out _ (T0.out.below D3.out) (G0.out.below D3.out)).mono ?_
  rintro e w4 ⟨rfl, h4⟩
  have D4 := hid (below_trans D3.out h4 D3.out.size)
  clear h4
  go_wp2
  go_ret
  exact ⟨rfl, D4.out⟩

set_option maxRecDepth 100000 in
theorem door_met (os : Os) (args : Array Value) : laidMetH Tryd.prog Rows.fnExactControlTextRow.laid ((World.doorLaid Tryd.prog 400 os).forCall (fun _ _ => 0) ⟨#[], args, []⟩).memory :=
  laidMetH_of_parts3 (fuel := 8) (laidMet_of_run' 8 (by kernel_rfl) (by kernel_rfl)) (by kernel_rfl) (by kernel_rfl)
set_option maxRecDepth 100000 in
theorem lifted (os : Os) (started : os.Started) (H : Type) (enc : TypeId × Value → H) :
    ReturnsInHanded {} Tryd.checked os 6 .any (fun w args => (Rows.fnExactControlTextSpec.pre enc Tryd.prog Tryd.f6 [] false w args ∧ laidMetH Tryd.prog Rows.fnExactControlTextRow.laid w) ∧ sizedMet enc Tryd.prog Tryd.f6 (OpenSpec.ofChange Rows.fnExactControlTextSpec) false w args) (Rows.fnExactControlTextSpec.post enc Tryd.prog Tryd.f6 false true false false) := by
  refine returnsInHanded_of_change_and (C := Tryd.checked) (X := fun w _ => laidMetH Tryd.prog Rows.fnExactControlTextRow.laid w) (fun _ _ _ hh h => h.of_heap hh) own started (by kernel_rfl) Tryd.func6
    (ChangeSpec.witness_shaped (enc := enc) (C := Tryd.checked) (os := os) (X := fun w _ => laidMetH Tryd.prog Rows.fnExactControlTextRow.laid w) false (World.doorLaid Tryd.prog 400 os) #[.agg #[.float .f32 0, .float .f32 0, .float .f32 0, .int .i8 0, .int .i8 0, .int .i8 0]] 8 rfl (World.shaped_of_RefB (by kernel_rfl) (by kernel_rfl)) (by kernel_rfl) (by kernel_rfl) (by kernel_rfl) (door_met os _)) ?_
  intro W base args ds gs before hval0 hW _ _ hL _
  have hval : ∀ (j : Nat) t v, Tryd.f6.params[j]? = some t → args[j]? = some v → Value.okWide Tryd.prog W .any base t v := hval0
  have hW' := hW
  obtain ⟨p, q, hA0, hV, rfl, hfz, hnd⟩ := hW
  have hA : DataW.TrodAll enc Tryd.prog W 0 (fun _ => true) true Tryd.f6.params.toList args.toList ds p := hA0
  rw [Tryd.params6] at hA hval
  obtain ⟨v0, vs0, d0, ds0, p0, q0, hargs, rfl, rfl, h0, r0⟩ := trodAll_cons hA
  obtain ⟨rfl, rfl, rfl⟩ := trodAll_nil r0
  obtain rfl : args = #[v0] := by cases args; simp_all
  obtain ⟨rfl, rfl⟩ := trodVars_none hV
  have k0 := h0
  have lt0 : ∀ x ∈ p0, x.block < W.heap.size := by obtain ⟨m, hm⟩ := k0; exact DataW.trod_lt m _ _ _ hm
  obtain ⟨c0, rfl, fa0⟩ := open_cells (a := [.f .f32, .f .f32, .f .f32, .i .i8, .i .i8, .i .i8]) 3 (by kernel_rfl) (by kernel_rfl) (hval 0 40 v0 rfl rfl) h0
  obtain ⟨a0, rfl, wa0⟩ := fits_control fa0
  clear hA0 hval0
  refine (walk a0 W wa0 hL).mono fun e W' ⟨he, bel⟩ => ?_
  subst he
  exact ⟨_, rfl, _, _, _, [], _, [], hW', trodAll_mk1 (shut_bool Tryd.underlying4 _), (trodAll_cons_mk (Below.trod laidOut (by kernel_rfl) (of_decide_eq_true (by kernel_rfl)) k0 bel lt0) trodAll_mk0), rfl, bel.frame _, fun h => by cases h⟩

theorem row_holds : Rows.FnExactControlTextSaid :=
  OpenClaim.holds_of_wide 6 Tryd.f6 rfl rfl rfl rfl rfl rfl rfl ⟨rfl, rfl, rfl, rfl, rfl⟩ rfl rfl rfl rfl rfl (by kernel_rfl) Tryd.func6 (by kernel_rfl)
    (of_decide_eq_true (by kernel_rfl)) (by unfold Func.isWrapper; first | (rw [if_pos (by decide +kernel)]; kernel_rfl) | (rw [if_neg (by decide +kernel)]; exact ⟨rfl, rfl⟩))
    (fun os started H enc _ => lifted os started H enc)

theorem proved : Rows.FnExactControlTextCardSaid :=
  Claim7.holds_tied_plain_at .later [] [.data, .data, .data] true Rows.fnExactControlTextCard.stood.harness true
    row_holds (fun _ h => by cases h) (by kernel_rfl) (fun _ h => by cases h) fnExactControlText_row_tie rfl ⟨rfl, rfl⟩ (by kernel_rfl) rfl
    (fun f fn hf hfn => by
      obtain rfl : f = 6 := Option.some.inj ((show Tryd.prog.funcNamed "loop.example/g01367/laws.FnExactControlText" = some 6 by kernel_rfl).symm.trans hf) |>.symm
      obtain rfl : fn = Tryd.f6 := (Option.some.inj (Tryd.func6.symm.trans hfn)).symm
      exact ⟨by kernel_rfl, fun j t ht => by
        rw [Tryd.params6] at ht
        have hm : t ∈ [40] := by simpa using Array.mem_of_getElem? ht
        have hall : ([40].all fun u => !Tryd.prog.wantsStandIn u) = true := by kernel_rfl
        exact (show Tryd.prog.wantsStandIn t = false by simpa using List.all_eq_true.1 hall t hm)⟩)
    (by kernel_rfl)
#print axioms proved
end Go.Proofs.YtdcjoafagalejaaDoor.lawControlText
