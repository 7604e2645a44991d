/- FnExactOrdersApart returns true for all arguments: for each slice of float32 the program's OrdersApart and the reference's return the same number and code, and the program leaves its argument as it was. No condition. -/
import Derived.Test.YtmhhgnalcapccaaOap
import Derived.Test.YtmhhgnalcapccaaEq
import Derived.Test.YtmhhgnalcapccaaLift
namespace Go.Proofs.Ytmhhgnalcapccaa.lawOrdersApart
set_option maxRecDepth 20000
open Go.ChangeShapes Go.WideShapes Go.ChangeAt Go.RowKit Go.Proofs.Ytmhhgnalcapccaa

theorem walk (a0 : Option Addr) (n0 c0 : Nat) (z0 : List Nat) (w : World) (r0 : FltsAny w a0 n0 z0) :
    Calls Try.prog 9 #[.slice a0 n0 c0] w fun e w' => e = .returned (.bool true) ∧ Below w.heap.size w w' := by
  by_cases hn0 : n0 ≤ 1048576
  case neg =>
    clear r0
    go_enter Try.func9, Try.ntmps9
    go_wp2
    go_ret
    exact ⟨rfl, Below.refl _ _⟩
  have F0 := hid (Flts.mk r0.len (by omega) r0.word r0.at_)
  have E0 := hid (sameL_refl F0.out.len F0.out.word)
  clear r0
  go_enter Try.func9, Try.ntmps9
  go_wp2_with fail
  refine (c_toFloat32S_own a0 n0 c0 z0 _ F0.out hn0).mono ?_
  rintro e w1 ⟨b1, rfl, o1, _, h1⟩
  have B1 := hid h1
  have S0 := hid o1
  clear o1 h1
  go_wp2_with fail
  refine (c_specOrdersApart _ _ _ z0 _ (S0.out.flts F0.out hn0) (Nat.le_refl _)).mono ?_
  rintro e w2 ⟨rfl, h2⟩
  have B2 := hid (below_trans B1.out h2 B1.out.size)
  have S0_2 := hid (S0.out.below h2)
  clear h2
  go_wp2_with fail
  refine (c_toFloat32S_own a0 n0 c0 z0 _ (F0.out.below B2.out) hn0).mono ?_
  rintro e w3 ⟨b3, rfl, o3, _, h3⟩
  have B3 := hid (below_trans B2.out h3 B2.out.size)
  have P0 := hid o3
  clear o3 h3
  go_wp2_with fail
  refine (c_implOrdersApart _ _ _ z0 _ (P0.out.flts F0.out hn0) (Nat.le_refl _)).mono ?_
  rintro e w4 ⟨rfl, h4⟩
  have B4 := hid (below_trans B3.out h4 B3.out.size)
  have P0_4 := hid (P0.out.below h4)
  clear h4
  go_wp2_with fail
  refine (c_toFloat32S_own a0 n0 c0 z0 _ (F0.out.below B4.out) hn0).mono ?_
  rintro e w5 ⟨b5, rfl, o5, _, h5⟩
  have B5 := hid (below_trans B4.out h5 B4.out.size)
  have P0_5 := hid (P0_4.out.below h5)
  have Q0 := hid o5
  clear o5 h5
  go_wp2_with fail
  refine (c_eqFloat32S _ _ _ _ _ _ z0 z0 _ (P0_5.out.flts F0.out hn0) (Q0.out.flts F0.out hn0)).mono ?_
  rintro e w6 ⟨rfl, h6⟩
  have B6 := hid (below_trans B5.out h6 B5.out.size)
  have P0_6 := hid (P0_5.out.below h6)
  have Q0_6 := hid (Q0.out.below h6)
  clear h6
  have e0 := E0.out
  go_wp2
  go_ret
  exact ⟨rfl, B6.out⟩

set_option maxRecDepth 100000 in
theorem lifted (os : Os) (started : os.Started) (H : Type) (enc : TypeId × Value → H) :
    ReturnsInHanded {} Try.checked os 9 .any (Rows.fnExactOrdersApartSpec.pre6 enc Try.prog Try.f9 Rows.fnExactOrdersApartRow.domain false) (Rows.fnExactOrdersApartSpec.post enc Try.prog Try.f9 false true false false) := by
  refine returnsInHanded_of_change (C := Try.checked) own started (by kernel_rfl) Try.func9
    (ChangeSpec.witness6 (enc := enc) (C := Try.checked) false ⟨#[], #[.slice none 0 0], []⟩ 8 (by kernel_rfl) (by kernel_rfl) (by kernel_rfl) (by kernel_rfl)) ?_
  intro W base args ds gs before hval0 hW hcnd _
  have hval : ∀ (j : Nat) t v, Try.f9.params[j]? = some t → args[j]? = some v → Value.okWide Try.prog W .any base t v := hval0
  have hW' := hW
  obtain ⟨p, q, hA0, hV, rfl, hfz, hnd⟩ := hW
  have hA : DataW.TrodAll enc Try.prog W 0 (fun _ => true) true Try.f9.params.toList args.toList ds p := hA0
  rw [Try.params9] at hA hval
  obtain ⟨v0, vs0, d0, ds0, p0, q0, hargs, rfl, rfl, h0, r0⟩ := trodAll_cons hA
  obtain ⟨rfl, rfl, rfl⟩ := trodAll_nil r0
  obtain rfl : args = #[v0] := by cases args; simp_all
  obtain ⟨rfl, rfl⟩ := trodVars_none hV
  have k0 := h0
  have lt0 : ∀ x ∈ p0, x.block < W.heap.size := by obtain ⟨m, hm⟩ := k0; exact DataW.trod_lt m _ _ _ hm
  obtain ⟨a0, n0, c0, z0, rfl, r0x⟩ := open_flts Try.underlying22 (by kernel_rfl) (by kernel_rfl) (hval 0 22 v0 rfl rfl) h0
  clear hA0 hval0
  refine (walk a0 n0 c0 z0 W r0x).mono fun e W' ⟨he, bel⟩ => ?_
  subst he
  exact ⟨_, rfl, _, _, _, [], _, [], hW', trodAll_mk1 (shut_bool Try.underlying4 _), (trodAll_cons_mk (Below.trod laidOut (by kernel_rfl) (of_decide_eq_true (by kernel_rfl)) k0 bel lt0) trodAll_mk0), rfl, bel.frame _, fun h => by cases h⟩

theorem proved : Rows.FnExactOrdersApartSaid :=
  OpenClaim.holds_of_wide 9 Try.f9 rfl rfl rfl rfl rfl rfl rfl ⟨rfl, rfl, rfl, rfl, rfl⟩ rfl rfl rfl rfl rfl (by kernel_rfl) Try.func9 (by kernel_rfl)
    (of_decide_eq_true (by kernel_rfl)) (by unfold Func.isWrapper; first | (rw [if_pos (by decide +kernel)]; kernel_rfl) | (rw [if_neg (by decide +kernel)]; exact ⟨rfl, rfl⟩))
    (fun os started H enc _ => lifted os started H enc)
#print axioms proved
end Go.Proofs.Ytmhhgnalcapccaa.lawOrdersApart
