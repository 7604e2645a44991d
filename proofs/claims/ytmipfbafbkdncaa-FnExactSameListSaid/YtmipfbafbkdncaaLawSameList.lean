/- FnExactSameList returns true for all arguments: for any two slices of float32 the program's SameList and the reference's return the same, and the program leaves its arguments as they were. No condition. -/
import Derived.Test.YtmipfbafbkdncaaMisc
import Derived.Test.YtmipfbafbkdncaaEq
import Derived.Test.YtmipfbafbkdncaaLift
namespace Go.Proofs.Ytmipfbafbkdncaa.lawSameList
open Go.ChangeShapes Go.WideShapes Go.ChangeAt Go.RowKit Go.Proofs.Ytmipfbafbkdncaa

theorem walk (a0 : Option Addr) (n0 c0 : Nat) (z0 : List Nat) (a1 : Option Addr) (n1 c1 : Nat) (z1 : List Nat) (w : World) (r0 : FltsAny w a0 n0 z0) (r1 : FltsAny w a1 n1 z1) :
    Calls Try.prog 3 #[.slice a0 n0 c0, .slice a1 n1 c1] w fun e w' => e = .returned (.bool true) ∧ Below w.heap.size w w' := by
  by_cases hn0 : n0 ≤ 1048576
  case neg =>
    clear r0 r1
    go_enter Try.func3, Try.ntmps3
    go_wp2
    go_ret
    exact ⟨rfl, Below.refl _ _⟩
  by_cases hn1 : n1 ≤ 1048576
  case neg =>
    clear r0 r1
    go_enter Try.func3, Try.ntmps3
    go_wp2
    go_ret
    exact ⟨rfl, Below.refl _ _⟩
  have F0 := hid (Flts.mk r0.len (by omega) r0.word r0.at_)
  have F1 := hid (Flts.mk r1.len (by omega) r1.word r1.at_)
  have E0 := hid (sameL_refl F0.out.len F0.out.word)
  have E1 := hid (sameL_refl F1.out.len F1.out.word)
  clear r0 r1
  go_enter Try.func3, Try.ntmps3
  go_wp2_with fail
  refine (c_toFloat32S_own a0 n0 c0 z0 _ F0.out hn0).mono ?_
  rintro e w1 ⟨b1, rfl, o1, _, h1⟩
  have B1 := hid h1
  have S0 := hid o1
  clear o1 h1
  go_wp2_with fail
  refine (c_toFloat32S_own a1 n1 c1 z1 _ (F1.out.below B1.out) hn1).mono ?_
  rintro e w2 ⟨b2, rfl, o2, _, h2⟩
  have B2 := hid (below_trans B1.out h2 B1.out.size)
  have S0_2 := hid (S0.out.below h2)
  have S1 := hid o2
  clear o2 h2
  go_wp2_with fail
  refine (c_specSameList _ _ _ _ _ _ z0 z1 _ (S0_2.out.flts F0.out hn0) (S1.out.flts F1.out hn1)).mono ?_
  rintro e w3 ⟨rfl, h3⟩
  have B3 := hid (below_trans B2.out h3 B2.out.size)
  have S0_3 := hid (S0_2.out.below h3)
  have S1_3 := hid (S1.out.below h3)
  clear h3
  go_wp2_with fail
  refine (c_toFloat32S_own a0 n0 c0 z0 _ (F0.out.below B3.out) hn0).mono ?_
  rintro e w4 ⟨b4, rfl, o4, _, h4⟩
  have B4 := hid (below_trans B3.out h4 B3.out.size)
  have P0 := hid o4
  clear o4 h4
  go_wp2_with fail
  refine (c_toFloat32S_own a1 n1 c1 z1 _ (F1.out.below B4.out) hn1).mono ?_
  rintro e w5 ⟨b5, rfl, o5, _, h5⟩
  have B5 := hid (below_trans B4.out h5 B4.out.size)
  have P0_5 := hid (P0.out.below h5)
  have P1 := hid o5
  clear o5 h5
  go_wp2_with fail
  refine (calls_below (c_implSameList _ _ _ _ _ _ z0 z1 _ (P0_5.out.flts F0.out hn0) (P1.out.flts F1.out hn1))).mono ?_
  rintro e w6 ⟨rfl, h6⟩
  have B6 := hid (below_trans B5.out h6 B5.out.size)
  have P0_6 := hid (P0_5.out.below h6)
  have P1_6 := hid (P1.out.below h6)
  clear h6
  go_wp2_with fail
  refine (c_toFloat32S_own a0 n0 c0 z0 _ (F0.out.below B6.out) hn0).mono ?_
  rintro e w7 ⟨b7, rfl, o7, _, h7⟩
  have B7 := hid (below_trans B6.out h7 B6.out.size)
  have P0_7 := hid (P0_6.out.below h7)
  have P1_7 := hid (P1_6.out.below h7)
  have Q0 := hid o7
  clear o7 h7
  go_wp2_with fail
  refine (c_eqFloat32S _ _ _ _ _ _ z0 z0 _ (P0_7.out.flts F0.out hn0) (Q0.out.flts F0.out hn0)).mono ?_
  rintro e w8 ⟨rfl, h8⟩
  have B8 := hid (below_trans B7.out h8 B7.out.size)
  have P0_8 := hid (P0_7.out.below h8)
  have P1_8 := hid (P1_7.out.below h8)
  have Q0_8 := hid (Q0.out.below h8)
  clear h8
  have e0 := E0.out
  go_wp2_with fail
  refine (c_toFloat32S_own a1 n1 c1 z1 _ (F1.out.below B8.out) hn1).mono ?_
  rintro e w9 ⟨b9, rfl, o9, _, h9⟩
  have B9 := hid (below_trans B8.out h9 B8.out.size)
  have P0_9 := hid (P0_8.out.below h9)
  have P1_9 := hid (P1_8.out.below h9)
  have Q1 := hid o9
  clear o9 h9
  go_wp2_with fail
  refine (c_eqFloat32S _ _ _ _ _ _ z1 z1 _ (P1_9.out.flts F1.out hn1) (Q1.out.flts F1.out hn1)).mono ?_
  rintro e w10 ⟨rfl, h10⟩
  have B10 := hid (below_trans B9.out h10 B9.out.size)
  have P0_10 := hid (P0_9.out.below h10)
  have P1_10 := hid (P1_9.out.below h10)
  have Q1_10 := hid (Q1.out.below h10)
  clear h10
  have e1 := E1.out
  go_wp2
  go_ret
  exact ⟨rfl, B10.out⟩

set_option maxRecDepth 100000 in
theorem lifted (os : Os) (started : os.Started) (H : Type) (enc : TypeId × Value → H) :
    ReturnsInHanded {} Try.checked os 3 .any (Rows.fnExactSameListSpec.pre6 enc Try.prog Try.f3 Rows.fnExactSameListRow.domain false) (Rows.fnExactSameListSpec.post enc Try.prog Try.f3 false true false false) := by
  refine returnsInHanded_of_change (C := Try.checked) own started (by kernel_rfl) Try.func3
    (ChangeSpec.witness6 (enc := enc) (C := Try.checked) false ⟨#[], #[.slice none 0 0, .slice none 0 0], []⟩ 8 (by kernel_rfl) (by kernel_rfl) (by kernel_rfl) (by kernel_rfl)) ?_
  intro W base args ds gs before hval0 hW hcnd _
  have hval : ∀ (j : Nat) t v, Try.f3.params[j]? = some t → args[j]? = some v → Value.okWide Try.prog W .any base t v := hval0
  have hW' := hW
  obtain ⟨p, q, hA0, hV, rfl, hfz, hnd⟩ := hW
  have hA : DataW.TrodAll enc Try.prog W 0 (fun _ => true) true Try.f3.params.toList args.toList ds p := hA0
  rw [Try.params3] at hA hval
  obtain ⟨v0, vs0, d0, ds0, p0, q0, hargs, rfl, rfl, h0, r0⟩ := trodAll_cons hA
  obtain ⟨v1, vs1, d1, ds1, p1, q1, rfl, rfl, rfl, h1, r1⟩ := trodAll_cons r0
  obtain ⟨rfl, rfl, rfl⟩ := trodAll_nil r1
  obtain rfl : args = #[v0, v1] := by cases args; simp_all
  obtain ⟨rfl, rfl⟩ := trodVars_none hV
  have k0 := h0
  have lt0 : ∀ x ∈ p0, x.block < W.heap.size := by obtain ⟨m, hm⟩ := k0; exact DataW.trod_lt m _ _ _ hm
  have k1 := h1
  have lt1 : ∀ x ∈ p1, x.block < W.heap.size := by obtain ⟨m, hm⟩ := k1; exact DataW.trod_lt m _ _ _ hm
  obtain ⟨a0, n0, c0, z0, rfl, r0x⟩ := open_flts Try.underlying22 (by kernel_rfl) (by kernel_rfl) (hval 0 22 v0 rfl rfl) h0
  obtain ⟨a1, n1, c1, z1, rfl, r1x⟩ := open_flts Try.underlying22 (by kernel_rfl) (by kernel_rfl) (hval 1 22 v1 rfl rfl) h1
  clear hA0 hval0
  refine (walk a0 n0 c0 z0 a1 n1 c1 z1 W r0x r1x).mono fun e W' ⟨he, bel⟩ => ?_
  subst he
  exact ⟨_, rfl, _, _, _, [], _, [], hW', trodAll_mk1 (shut_bool Try.underlying4 _), (trodAll_cons_mk (Below.trod laidOut (by kernel_rfl) (of_decide_eq_true (by kernel_rfl)) k0 bel lt0) (trodAll_cons_mk (Below.trod laidOut (by kernel_rfl) (of_decide_eq_true (by kernel_rfl)) k1 bel lt1) trodAll_mk0)), rfl, bel.frame _, fun h => by cases h⟩

theorem proved : Rows.FnExactSameListSaid :=
  OpenClaim.holds_of_wide 3 Try.f3 rfl rfl rfl rfl rfl rfl rfl ⟨rfl, rfl, rfl, rfl, rfl⟩ rfl rfl rfl rfl rfl (by kernel_rfl) Try.func3 (by kernel_rfl)
    (of_decide_eq_true (by kernel_rfl)) (by unfold Func.isWrapper; first | (rw [if_pos (by decide +kernel)]; kernel_rfl) | (rw [if_neg (by decide +kernel)]; exact ⟨rfl, rfl⟩))
    (fun os started H enc _ => lifted os started H enc)
#print axioms proved
end Go.Proofs.Ytmipfbafbkdncaa.lawSameList
