/- FnExactReadList returns true for all arguments: for each text of at most 1048576 bytes the program's ReadList and the reference's return the same list and the same code, and what the program returns shares memory neither with its argument nor with what another call returns. No condition. A tied card: the tables and errors that the library reads lie as the program's text lays them. -/
import Derived.Test.YtdcjoafagalejaaDoorRList
import Derived.Test.YtdcjoafagalejaaDoorPinned
import Derived.Test.YtdcjoafagalejaaDoorCards
import Derived.Test.YtdcjoafagalejaaDoorTie
import Derived.ChangeMaps5
namespace Go.Proofs.YtdcjoafagalejaaDoor.lawReadList
set_option maxRecDepth 20000
open Go.ChangeMaps Go.ChangeShapes Go.WideShapes Go.ChangeAt Go.RowKit Go.Proofs.YtdcjoafagalejaaDoor

theorem d64_of {x : String × DataW Unit} {rest : List (String × DataW Unit)} {w : World} (h : laidMet Tryd.prog (x :: ("math/bits.deBruijn64tab", Rows.laid_math_bits_deBruijn64tab) :: rest) w) : D64 w := by
  have e : (Rows.laid_math_bits_deBruijn64tab : DataW Unit) = Lib.tabData .u8 [0, 1, 56, 2, 57, 49, 28, 3, 61, 58, 42, 50, 38, 29, 17, 4, 62, 47, 59, 36, 45, 43, 51, 22, 53, 39, 33, 30, 24, 18, 12, 5, 63, 55, 48, 27, 60, 41, 37, 16, 46, 35, 44, 21, 52, 32, 23, 11, 54, 26, 40, 15, 34, 20, 31, 10, 25, 14, 19, 9, 13, 8, 7, 6] := by kernel_rfl
  have h2 := laidMet.tail h
  rw [e] at h2
  have t := Lib.tabIs_of_head (g := (Tryd.prog.globalNamed "math/bits.deBruijn64tab").getD 0) (t := 163) (e := 5) (n := 64) (by kernel_rfl) (by kernel_rfl) (by kernel_rfl) (by kernel_rfl) (by kernel_rfl) (by kernel_rfl) h2
  exact ⟨_, t, rfl⟩
set_option maxHeartbeats 1000000 in
theorem walk (a0 : List UInt8) (w : World) (hL : laidMetH Tryd.prog Rows.fnExactReadListRow.laid w) (hS : w.ShapedOpen Tryd.prog) :
    Calls Tryd.prog 5 #[txt a0] w fun e w' => e = .returned (.bool true) ∧ Below w.heap.size w w' := by
  rw [MakeChecks.laidMetH_plain _ _ _ (by kernel_rfl)] at hL
  have G0 := hid (d64_of hL)
  have R0 := hid (errs_of hL)
  have M0 := hid (maxl_of hS)
  clear hL hS
  by_cases hs : a0.length ≤ 1048576
  case neg =>
    have hs' : (1048576 : Int) < a0.length := by omega
    clear hs
    go_enter Tryd.func5, Tryd.ntmps5
    go_wp2
    go_ret
    exact ⟨rfl, Below.refl _ _⟩
  have CS := hid (fun w => reads_of_got (c_specReadList a0 hs w) (liOf_len a0) (liOf_word a0))
  have CI := hid (fun w hM hE hD => show Calls Tryd.prog 18 #[txt a0] w fun e w' => (∃ v, e = .returned (.tuple #[v, .int .i64 (liOf a0).2]) ∧ GotF w' w.heap.size v (liOf a0).1) ∧ Below w.heap.size w w' from c_implReadList a0 hs w hM hE hD)
  have HL := hid (liOf_len a0)
  have HW := hid (liOf_word a0)
  have hs' : ¬ (1048576 : Int) < a0.length := by omega
  clear hs
  generalize (liOf a0).2 = c at *
  generalize (liOf a0).1 = L at *
  go_enter Tryd.func5, Tryd.ntmps5
  go_wp2_with fail
  refine (CS.out _).mono ?_
  rintro e w1 ⟨⟨u, rfl, ur⟩, h1⟩
  have E_1 := hid h1
  have U := hid ur
  have LGE := hid (show w.heap.size ≤ w1.heap.size from h1.size)
  clear ur h1
  go_wp2_with fail
  refine (CI.out _ (M0.out.below E_1.out) (R0.out.below E_1.out) (G0.out.below E_1.out)).mono ?_
  rintro e w2 ⟨⟨v, rfl, vr⟩, h2⟩
  have E_2 := hid (below_trans E_1.out h2 E_1.out.size)
  have T_2 := hid h2
  have G := hid (GotF.owns vr HL.out)
  clear vr h2
  go_wp2_with fail
  refine (c_eqF _ _ L _ (GotF.reads (lo := w1.heap.size) G.out.1 HL.out HW.out) (U.out.below T_2.out)).mono ?_
  rintro e w3 ⟨rfl, h3⟩
  have E_3 := hid (below_trans E_2.out h3 E_2.out.size)
  have T_3 := hid (below_trans T_2.out h3 T_2.out.size)
  have G_3 := hid (G.out.below h3)
  clear h3
  go_wp2_with fail
  refine (c_markFloat32S _ _ _ L.length 1 _ G_3.out (by omega) _ rfl).mono ?_
  rintro e w4 ⟨rfl, mk4, h4⟩
  have E_4 := hid (E_3.out.grown h4 E_3.out.size (fun r e => Nat.le_trans LGE.out (G_3.out.1.lt r e).1))
  have T_4 := hid (T_3.out.grown h4 T_3.out.size (fun r e => (G_3.out.1.lt r e).1))
  have HD := hid (Held.of mk4 G_3.out.len)
  clear mk4 h4
  have hl := HL.out
  go_wp2_with fail
  refine (c_heldFloat32S _ _ L.length 1 HD.out (by omega) _ rfl).mono ?_
  rintro e w5 ⟨rfl, h5⟩
  have E_5 := hid (below_trans E_4.out h5 E_4.out.size)
  have T_5 := hid (below_trans T_4.out h5 T_4.out.size)
  have M_5 := hid h5
  clear h5
  go_wp2_with fail
  refine (CI.out _ (M0.out.below E_5.out) (R0.out.below E_5.out) (G0.out.below E_5.out)).mono ?_
  rintro e w6 ⟨⟨v2, rfl, vr⟩, h6⟩
  have E_6 := hid (below_trans E_5.out h6 E_5.out.size)
  have T_6 := hid (below_trans T_5.out h6 T_5.out.size)
  have M_6 := hid (below_trans M_5.out h6 M_5.out.size)
  have G2 := hid (GotF.owns vr HL.out)
  clear vr h6
  go_wp2_with fail
  refine (c_eqF _ _ L _ (GotF.reads (lo := w5.heap.size) G2.out.1 HL.out HW.out) (U.out.below T_6.out)).mono ?_
  rintro e w7 ⟨rfl, h7⟩
  have E_7 := hid (below_trans E_6.out h7 E_6.out.size)
  have M_7 := hid (below_trans M_6.out h7 M_6.out.size)
  clear h7
  go_wp2_with fail
  refine (c_heldFloat32S _ _ L.length 1 (HD.out.below M_7.out) (by omega) _ rfl).mono ?_
  rintro e w8 ⟨rfl, h8⟩
  have E_8 := hid (below_trans E_7.out h8 E_7.out.size)
  clear h8
  go_wp2
  go_ret
  exact ⟨rfl, E_8.out⟩

set_option maxRecDepth 100000 in
set_option maxRecDepth 100000 in
theorem lifted (os : Os) (started : os.Started) (H : Type) (enc : TypeId × Value → H) :
    ReturnsInHanded {} Tryd.checked os 5 .any (fun w args => (Rows.fnExactReadListSpec.pre enc Tryd.prog Tryd.f5 [] false w args ∧ laidMetH Tryd.prog Rows.fnExactReadListRow.laid w) ∧ sizedMet enc Tryd.prog Tryd.f5 (OpenSpec.ofChange Rows.fnExactReadListSpec) false w args) (Rows.fnExactReadListSpec.post enc Tryd.prog Tryd.f5 false true false false) := by
  refine handed_both (C := Tryd.checked) (X := fun w _ => laidMetH Tryd.prog Rows.fnExactReadListRow.laid w) (fun _ _ _ hh h => h.of_heap hh) own started (by kernel_rfl) Tryd.func5
    (ChangeSpec.witness_shaped (enc := enc) (C := Tryd.checked) (os := os) (X := fun w _ => laidMetH Tryd.prog Rows.fnExactReadListRow.laid w) false (World.laidAll Tryd.prog os Rows.fnExactReadListRow.laid) #[.string ByteArray.empty] 8 (World.laidAll_os _ _ _)
      (World.shaped_of_ZipB (by kernel_rfl) (by kernel_rfl)) (by kernel_rfl) (by kernel_rfl) (by kernel_rfl)
      (by rw [MakeChecks.laidMetH_plain _ _ _ (by kernel_rfl)]; exact laidMet_laidAll _ (by kernel_rfl) (by kernel_rfl))) ?_
  intro W base args ds gs before hval0 hW hL hS
  have hval : ∀ (j : Nat) t v, Tryd.f5.params[j]? = some t → args[j]? = some v → Value.okWide Tryd.prog W .any base t v := hval0
  have hW' := hW
  obtain ⟨p, q, hA0, hV, rfl, hfz, hnd⟩ := hW
  have hA : DataW.TrodAll enc Tryd.prog W 0 (fun _ => true) true Tryd.f5.params.toList args.toList ds p := hA0
  rw [Tryd.params5] at hA hval
  obtain ⟨v0, vs0, d0, ds0, p0, q0, hargs, rfl, rfl, h0, r0⟩ := trodAll_cons hA
  obtain ⟨rfl, rfl, rfl⟩ := trodAll_nil r0
  obtain rfl : args = #[v0] := by cases args; simp_all
  obtain ⟨rfl, rfl⟩ := trodVars_none hV
  have k0 := h0
  have lt0 : ∀ x ∈ p0, x.block < W.heap.size := by obtain ⟨m, hm⟩ := k0; exact DataW.trod_lt m _ _ _ hm
  obtain ⟨y0, rfl, _, _, _⟩ := open_string Tryd.underlying9 (hval 0 9 v0 rfl rfl) h0
  obtain ⟨⟨s0⟩⟩ := y0
  clear hA0 hval0
  refine (walk s0 W  hL hS).mono fun e W' ⟨he, bel⟩ => ?_
  subst he
  exact ⟨_, rfl, _, _, _, [], _, [], hW', trodAll_mk1 (shut_bool Tryd.underlying4 _), (trodAll_cons_mk (Below.trod laidOut (by kernel_rfl) (of_decide_eq_true (by kernel_rfl)) k0 bel lt0) trodAll_mk0), rfl, bel.frame _, fun h => by cases h⟩

theorem row_holds : Rows.FnExactReadListSaid :=
  OpenClaim.holds_of_wide 5 Tryd.f5 rfl rfl rfl rfl rfl rfl rfl ⟨rfl, rfl, rfl, rfl, rfl⟩ rfl rfl rfl rfl rfl (by kernel_rfl) Tryd.func5 (by kernel_rfl)
    (of_decide_eq_true (by kernel_rfl)) (by unfold Func.isWrapper; first | (rw [if_pos (by decide +kernel)]; kernel_rfl) | (rw [if_neg (by decide +kernel)]; exact ⟨rfl, rfl⟩))
    (fun os started H enc _ => lifted os started H enc)

theorem proved : Rows.FnExactReadListCardSaid :=
  Claim7.holds_tied_plain_at .later [] [.data, .data, .data, .data, .sentinel, .sentinel, .pinned] true Rows.fnExactReadListCard.stood.harness true
    row_holds (fun _ h => by cases h) (by kernel_rfl) (fun _ h => by cases h) fnExactReadList_row_tie rfl ⟨rfl, rfl⟩ (by kernel_rfl) rfl
    (fun f fn hf hfn => by
      obtain rfl : f = 5 := Option.some.inj ((show Tryd.prog.funcNamed "loop.example/g01367/laws.FnExactReadList" = some 5 by kernel_rfl).symm.trans hf) |>.symm
      obtain rfl : fn = Tryd.f5 := (Option.some.inj (Tryd.func5.symm.trans hfn)).symm
      exact ⟨by kernel_rfl, fun j t ht => by
        rw [Tryd.params5] at ht
        have hm : t ∈ [9] := by simpa using Array.mem_of_getElem? ht
        have hall : ([9].all fun u => !Tryd.prog.wantsStandIn u) = true := by kernel_rfl
        exact (show Tryd.prog.wantsStandIn t = false by simpa using List.all_eq_true.1 hall t hm)⟩)
    (by kernel_rfl)
#print axioms proved
end Go.Proofs.YtdcjoafagalejaaDoor.lawReadList
