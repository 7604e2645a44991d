/- FnExactValidList returns true for all arguments: for each slice of float32 (NaN and infinities among them) the program's ValidList and the reference's return the same bool, and the program leaves its argument as it was. No condition. -/
import Derived.Test.YtcddfpjpjbfneaaEq
import Derived.Test.YtcddfpjpjbfneaaLift
namespace Go.Proofs.Ytcddfpjpjbfneaa.lawValidList
open Go.ChangeShapes Go.WideShapes Go.ChangeAt Go.RowKit Go.Proofs.Ytcddfpjpjbfneaa

theorem walk (a0 : Option Addr) (n0 c0 : Nat) (z0 : List Nat) (w : World) (r0 : FltsAny w a0 n0 z0) :
    Calls Try.prog 7 #[.slice a0 n0 c0] w fun e w' => e = .returned (.bool true) ∧ Below w.heap.size w w' := by
  by_cases hn : n0 ≤ 1048576
  · have f0 : Flts w a0 n0 z0 := ⟨r0.len, by omega, r0.word, r0.at_⟩
    have F0 := hid f0
    have E0 := hid (sameL_refl f0.len f0.word)
    clear r0 f0
    go_enter Try.func7, Try.ntmps7
    go_wp2_with fail
    refine (c_toFloat32S_own a0 n0 c0 z0 _ F0.out hn).mono ?_
    rintro e w1 ⟨b1, rfl, o1, _, h1⟩
    have O1 := hid o1
    have B1 := hid h1
    clear o1 h1
    go_wp2_with fail
    refine (c_specValidList _ _ _ z0 _ (O1.out.flts F0.out hn)).mono ?_
    rintro e w2 ⟨rfl, rfl⟩
    go_wp2_with fail
    refine (c_toFloat32S_own a0 n0 c0 z0 _ (F0.out.below B1.out) hn).mono ?_
    rintro e w2 ⟨b2, rfl, o2, _, h2⟩
    have O2 := hid o2
    have B2 := hid (below_trans B1.out h2 B1.out.size)
    clear o2 h2
    go_wp2_with fail
    refine (c_implValidList _ _ _ z0 _ (O2.out.flts F0.out hn)).mono ?_
    rintro e w3 ⟨rfl, rfl⟩
    go_wp2_with fail
    refine (c_toFloat32S_own a0 n0 c0 z0 _ (F0.out.below B2.out) hn).mono ?_
    rintro e w3 ⟨b3, rfl, o3, _, h3⟩
    have O3 := hid o3
    have O2' := hid (O2.out.below h3)
    have B3 := hid (below_trans B2.out h3 B2.out.size)
    clear o3 h3
    go_wp2_with fail
    refine (c_eqFloat32S _ _ _ _ _ _ z0 z0 _ (O2'.out.flts F0.out hn) (O3.out.flts F0.out hn)).mono ?_
    rintro e w4 ⟨rfl, h4⟩
    have B4 := hid (below_trans B3.out h4 B3.out.size)
    clear h4
    have e0 := E0.out
    go_wp2
    go_ret
    exact ⟨rfl, B4.out⟩
  · clear r0
    go_enter Try.func7, Try.ntmps7
    go_wp2
    go_ret
    exact ⟨rfl, Below.refl _ _⟩

set_option maxRecDepth 100000 in
theorem lifted (os : Os) (started : os.Started) (H : Type) (enc : TypeId × Value → H) :
    ReturnsInHanded {} Try.checked os 7 .any (Rows.fnExactValidListSpec.pre6 enc Try.prog Try.f7 Rows.fnExactValidListRow.domain false) (Rows.fnExactValidListSpec.post enc Try.prog Try.f7 false true false false) := by
  refine returnsInHanded_of_change (C := Try.checked) own started (by kernel_rfl) Try.func7
    (ChangeSpec.witness6 (enc := enc) (C := Try.checked) false ⟨#[], #[.slice none 0 0], []⟩ 8 (by kernel_rfl) (by kernel_rfl) (by kernel_rfl) (by kernel_rfl)) ?_
  intro W base args ds gs before hval0 hW hcnd _
  have hval : ∀ (j : Nat) t v, Try.f7.params[j]? = some t → args[j]? = some v → Value.okWide Try.prog W .any base t v := hval0
  have hW' := hW
  obtain ⟨p, q, hA0, hV, rfl, hfz, hnd⟩ := hW
  have hA : DataW.TrodAll enc Try.prog W 0 (fun _ => true) true Try.f7.params.toList args.toList ds p := hA0
  rw [Try.params7] at hA hval
  obtain ⟨v0, vs0, d0, ds0, p0, q0, hargs, rfl, rfl, h0, r0⟩ := trodAll_cons hA
  obtain ⟨rfl, rfl, rfl⟩ := trodAll_nil r0
  obtain rfl : args = #[v0] := by cases args; simp_all
  obtain ⟨rfl, rfl⟩ := trodVars_none hV
  have k0 := h0
  have lt0 : ∀ x ∈ p0, x.block < W.heap.size := by obtain ⟨m, hm⟩ := k0; exact DataW.trod_lt m _ _ _ hm
  obtain ⟨a0, n0, c0, z0, rfl, r0x⟩ := open_flts Try.underlying41 (by kernel_rfl) (by kernel_rfl) (hval 0 41 v0 rfl rfl) h0
  clear hA0 hval0
  refine (walk a0 n0 c0 z0 W r0x).mono fun e W' ⟨he, bel⟩ => ?_
  subst he
  exact ⟨_, rfl, _, _, _, [], _, [], hW', trodAll_mk1 (shut_bool Try.underlying4 _), (trodAll_cons_mk (Below.trod laidOut (by kernel_rfl) (of_decide_eq_true (by kernel_rfl)) k0 bel lt0) trodAll_mk0), rfl, bel.frame _, fun h => by cases h⟩

theorem proved : Rows.FnExactValidListSaid :=
  OpenClaim.holds_of_wide 7 Try.f7 rfl rfl rfl rfl rfl rfl rfl ⟨rfl, rfl, rfl, rfl, rfl⟩ rfl rfl rfl rfl rfl (by kernel_rfl) Try.func7 (by kernel_rfl)
    (of_decide_eq_true (by kernel_rfl)) (by unfold Func.isWrapper; first | (rw [if_pos (by decide +kernel)]; kernel_rfl) | (rw [if_neg (by decide +kernel)]; exact ⟨rfl, rfl⟩))
    (fun os started H enc _ => lifted os started H enc)
#print axioms proved
end Go.Proofs.Ytcddfpjpjbfneaa.lawValidList
