/- FnExactListText returns true for all arguments: for each slice of float32 the program's ListText and the reference's return the same text, and the program leaves its argument as it was. No condition. A tied card: the tables that the library reads lie as the program's text lays them. -/
import Derived.Test.YtdcjoafagalejaaDoorLText
import Derived.Test.YtdcjoafagalejaaDoorEq
import Derived.Test.YtdcjoafagalejaaDoorLift
import Derived.Test.YtdcjoafagalejaaDoorCards
import Derived.Test.YtdcjoafagalejaaDoorTie
import Derived.LaidMore
import Derived.OpenShut
import Derived.Stop.LaidErr
namespace Go.Proofs.YtdcjoafagalejaaDoor.lawListText
set_option maxRecDepth 20000
open Go.ChangeShapes Go.WideShapes Go.ChangeAt Go.RowKit Go.Proofs.YtdcjoafagalejaaDoor

theorem d64_of {x : String × DataW Unit} {rest : List (String × DataW Unit)} {w : World} (h : laidMet Tryd.prog (x :: ("math/bits.deBruijn64tab", Rows.laid_math_bits_deBruijn64tab) :: rest) w) : D64 w := by
  have e : (Rows.laid_math_bits_deBruijn64tab : DataW Unit) = Lib.tabData .u8 [0, 1, 56, 2, 57, 49, 28, 3, 61, 58, 42, 50, 38, 29, 17, 4, 62, 47, 59, 36, 45, 43, 51, 22, 53, 39, 33, 30, 24, 18, 12, 5, 63, 55, 48, 27, 60, 41, 37, 16, 46, 35, 44, 21, 52, 32, 23, 11, 54, 26, 40, 15, 34, 20, 31, 10, 25, 14, 19, 9, 13, 8, 7, 6] := by kernel_rfl
  have h2 := laidMet.tail h
  rw [e] at h2
  have t := Lib.tabIs_of_head (g := (Tryd.prog.globalNamed "math/bits.deBruijn64tab").getD 0) (t := 163) (e := 5) (n := 64) (by kernel_rfl) (by kernel_rfl) (by kernel_rfl) (by kernel_rfl) (by kernel_rfl) (by kernel_rfl) h2
  exact ⟨_, t, rfl⟩
set_option maxHeartbeats 1000000 in
theorem walk (a0 : Option Addr) (n0 c0 : Nat) (z0 : List Nat) (w : World) (r0 : FltsAny w a0 n0 z0) (hL : laidMetH Tryd.prog Rows.fnExactListTextRow.laid w) :
    Calls Tryd.prog 4 #[.slice a0 n0 c0] w fun e w' => e = .returned (.bool true) ∧ Below w.heap.size w w' := by
  rw [MakeChecks.laidMetH_plain _ _ _ (by kernel_rfl)] at hL
  have D0 := hid (d64_of hL)
  clear hL
  by_cases hn0 : n0 ≤ 1048576
  case neg =>
    clear r0
    go_enter Tryd.func4, Tryd.ntmps4
    go_wp2
    go_ret
    exact ⟨rfl, Below.refl _ _⟩
  have F0 := hid (Flts.mk r0.len (by omega) r0.word r0.at_)
  have E0 := hid (sameL_refl F0.out.len F0.out.word)
  clear r0
  go_enter Tryd.func4, Tryd.ntmps4
  go_wp2_with fail
  refine (c_toFloat32S_own a0 n0 c0 z0 _ F0.out hn0).mono ?_
  rintro e w1 ⟨b1, rfl, o1, _, h1⟩
  have B1 := hid h1
  have S0 := hid o1
  clear o1 h1
  go_wp2_with fail
  refine (c_specListText _ _ _ z0 _ (S0.out.flts F0.out hn0)).mono ?_
  rintro e w2 ⟨rfl, h2⟩
  have B2 := hid (below_trans B1.out h2 B1.out.size)
  have S0_2 := hid (S0.out.below h2)
  clear h2
  go_wp2_with fail
  refine (c_toFloat32S_own a0 n0 c0 z0 _ (F0.out.below B2.out) hn0).mono ?_
  rintro e w3 ⟨b3, rfl, o3, _, h3⟩
  have B3 := hid (below_trans B2.out h3 B2.out.size)
  have P0 := hid o3
  clear o3 h3
  go_wp2_with fail
  refine (c_implListText _ _ _ z0 _ (P0.out.flts F0.out hn0) (D0.out.below B3.out)).mono ?_
  rintro e w4 ⟨rfl, h4⟩
  have B4 := hid (below_trans B3.out h4 B3.out.size)
  have P0_4 := hid (P0.out.below h4)
  clear h4
  go_wp2_with fail
  refine (c_toFloat32S_own a0 n0 c0 z0 _ (F0.out.below B4.out) hn0).mono ?_
  rintro e w5 ⟨b5, rfl, o5, _, h5⟩
  have B5 := hid (below_trans B4.out h5 B4.out.size)
  have P0_5 := hid (P0_4.out.below h5)
  have Q0 := hid o5
  clear o5 h5
  go_wp2_with fail
  refine (c_eqFloat32S _ _ _ _ _ _ z0 z0 _ (P0_5.out.flts F0.out hn0) (Q0.out.flts F0.out hn0)).mono ?_
  rintro e w6 ⟨rfl, h6⟩
  have B6 := hid (below_trans B5.out h6 B5.out.size)
  have P0_6 := hid (P0_5.out.below h6)
  have Q0_6 := hid (Q0.out.below h6)
  clear h6
  have e0 := E0.out
  go_wp2
  go_ret
  exact ⟨rfl, B6.out⟩

set_option maxRecDepth 100000 in
theorem door_met (os : Os) (args : Array Value) : laidMetH Tryd.prog Rows.fnExactListTextRow.laid ((World.doorLaid Tryd.prog 400 os).forCall (fun _ _ => 0) ⟨#[], args, []⟩).memory :=
  laidMetH_of_parts3 (fuel := 8) (laidMet_of_run' 8 (by kernel_rfl) (by kernel_rfl)) (by kernel_rfl) (by kernel_rfl)
set_option maxRecDepth 100000 in
theorem lifted (os : Os) (started : os.Started) (H : Type) (enc : TypeId × Value → H) :
    ReturnsInHanded {} Tryd.checked os 4 .any (fun w args => (Rows.fnExactListTextSpec.pre enc Tryd.prog Tryd.f4 [] false w args ∧ laidMetH Tryd.prog Rows.fnExactListTextRow.laid w) ∧ sizedMet enc Tryd.prog Tryd.f4 (OpenSpec.ofChange Rows.fnExactListTextSpec) false w args) (Rows.fnExactListTextSpec.post enc Tryd.prog Tryd.f4 false true false false) := by
  refine returnsInHanded_of_change_and (C := Tryd.checked) (X := fun w _ => laidMetH Tryd.prog Rows.fnExactListTextRow.laid w) (fun _ _ _ hh h => h.of_heap hh) own started (by kernel_rfl) Tryd.func4
    (ChangeSpec.witness_shaped (enc := enc) (C := Tryd.checked) (os := os) (X := fun w _ => laidMetH Tryd.prog Rows.fnExactListTextRow.laid w) false (World.doorLaid Tryd.prog 400 os) #[.slice none 0 0] 8 rfl (World.shaped_of_RefB (by kernel_rfl) (by kernel_rfl)) (by kernel_rfl) (by kernel_rfl) (by kernel_rfl) (door_met os _)) ?_
  intro W base args ds gs before hval0 hW _ _ hL _
  have hval : ∀ (j : Nat) t v, Tryd.f4.params[j]? = some t → args[j]? = some v → Value.okWide Tryd.prog W .any base t v := hval0
  have hW' := hW
  obtain ⟨p, q, hA0, hV, rfl, hfz, hnd⟩ := hW
  have hA : DataW.TrodAll enc Tryd.prog W 0 (fun _ => true) true Tryd.f4.params.toList args.toList ds p := hA0
  rw [Tryd.params4] at hA hval
  obtain ⟨v0, vs0, d0, ds0, p0, q0, hargs, rfl, rfl, h0, r0⟩ := trodAll_cons hA
  obtain ⟨rfl, rfl, rfl⟩ := trodAll_nil r0
  obtain rfl : args = #[v0] := by cases args; simp_all
  obtain ⟨rfl, rfl⟩ := trodVars_none hV
  have k0 := h0
  have lt0 : ∀ x ∈ p0, x.block < W.heap.size := by obtain ⟨m, hm⟩ := k0; exact DataW.trod_lt m _ _ _ hm
  obtain ⟨a0, n0, c0, z0, rfl, r0x⟩ := open_flts Tryd.underlying28 (by kernel_rfl) (by kernel_rfl) (hval 0 28 v0 rfl rfl) h0
  clear hA0 hval0
  refine (walk a0 n0 c0 z0 W r0x hL).mono fun e W' ⟨he, bel⟩ => ?_
  subst he
  exact ⟨_, rfl, _, _, _, [], _, [], hW', trodAll_mk1 (shut_bool Tryd.underlying4 _), (trodAll_cons_mk (Below.trod laidOut (by kernel_rfl) (of_decide_eq_true (by kernel_rfl)) k0 bel lt0) trodAll_mk0), rfl, bel.frame _, fun h => by cases h⟩

theorem row_holds : Rows.FnExactListTextSaid :=
  OpenClaim.holds_of_wide 4 Tryd.f4 rfl rfl rfl rfl rfl rfl rfl ⟨rfl, rfl, rfl, rfl, rfl⟩ rfl rfl rfl rfl rfl (by kernel_rfl) Tryd.func4 (by kernel_rfl)
    (of_decide_eq_true (by kernel_rfl)) (by unfold Func.isWrapper; first | (rw [if_pos (by decide +kernel)]; kernel_rfl) | (rw [if_neg (by decide +kernel)]; exact ⟨rfl, rfl⟩))
    (fun os started H enc _ => lifted os started H enc)

theorem proved : Rows.FnExactListTextCardSaid :=
  Claim7.holds_tied_plain_at .later [] [.data, .data, .data] true Rows.fnExactListTextCard.stood.harness true
    row_holds (fun _ h => by cases h) (by kernel_rfl) (fun _ h => by cases h) fnExactListText_row_tie rfl ⟨rfl, rfl⟩ (by kernel_rfl) rfl
    (fun f fn hf hfn => by
      obtain rfl : f = 4 := Option.some.inj ((show Tryd.prog.funcNamed "loop.example/g01367/laws.FnExactListText" = some 4 by kernel_rfl).symm.trans hf) |>.symm
      obtain rfl : fn = Tryd.f4 := (Option.some.inj (Tryd.func4.symm.trans hfn)).symm
      exact ⟨by kernel_rfl, fun j t ht => by
        rw [Tryd.params4] at ht
        have hm : t ∈ [28] := by simpa using Array.mem_of_getElem? ht
        have hall : ([28].all fun u => !Tryd.prog.wantsStandIn u) = true := by kernel_rfl
        exact (show Tryd.prog.wantsStandIn t = false by simpa using List.all_eq_true.1 hall t hm)⟩)
    (by kernel_rfl)
#print axioms proved
end Go.Proofs.YtdcjoafagalejaaDoor.lawListText
