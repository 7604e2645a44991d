/- FnExactGreatestOrder returns true for all arguments: for each slice of float32 the program's GreatestOrder and the reference's return the same, the program leaves its arguments as they were, and what it returns shares memory neither with them nor with what another call returns. No condition. -/
import Derived.Test.YtmjmgfojdomhlaaGreatS
import Derived.Test.YtmjmgfojdomhlaaSums
import Derived.Test.YtmjmgfojdomhlaaMarks
import Derived.Test.YtmjmgfojdomhlaaLift
namespace Go.Proofs.Ytmjmgfojdomhlaa.lawGreatestOrder
set_option maxRecDepth 20000
open Go.ChangeShapes Go.WideShapes Go.ChangeAt Go.RowKit Go.Proofs.Ytmjmgfojdomhlaa

theorem walk (a0 : Option Addr) (n0 c0 : Nat) (z0 : List Nat) (w : World) (r0 : FltsAny w a0 n0 z0) :
    Calls Try.prog 6 #[.slice a0 n0 c0] w fun e w' => e = .returned (.bool true) ∧ Below w.heap.size w w' := by
  by_cases hn0 : n0 ≤ 1048576
  case neg =>
    clear r0
    go_enter Try.func6, Try.ntmps6
    go_wp2
    go_ret
    exact ⟨rfl, Below.refl _ _⟩
  have F0 := hid (Flts.mk r0.len (by omega) r0.word r0.at_)
  have E0 := hid (sameL_refl F0.out.len F0.out.word)
  clear r0
  have HL := hid (show (goS z0).length ≤ 99 from (by have := goS_len z0; omega))
  have HL9 := hid (show (goS z0).length ≤ 999 from by have := HL.out; omega)
  go_enter Try.func6, Try.ntmps6
  go_wp2_with fail
  refine (c_toFloat32S_own a0 n0 c0 z0 _ F0.out hn0).mono ?_
  rintro e w1 ⟨b1, rfl, o1, l1, h1⟩
  have L1E := hid (show w.heap.size ≤ b1 from l1)
  have E_1 := hid h1
  have S0_1 := hid o1
  clear o1 l1 h1
  go_wp2_with fail
  refine (ints_of_got3 (c_specGreatestOrder _ _ _ z0 _ (S0_1.out.flts F0.out hn0)) (by have := goS_len z0; omega)).mono ?_
  rintro e w2 ⟨⟨u, rfl, ur⟩, h2⟩
  have E_2 := hid (below_trans E_1.out h2 E_1.out.size)
  have U := hid ur
  clear ur h2
  go_wp2_with fail
  refine (c_toFloat32S_own a0 n0 c0 z0 _ (F0.out.below E_2.out) hn0).mono ?_
  rintro e w3 ⟨b3, rfl, o3, l3, h3⟩
  have L3E := hid (show w.heap.size ≤ b3 from Nat.le_trans E_2.out.size l3)
  have L3T := hid (show w2.heap.size ≤ b3 from l3)
  have E_3 := hid (below_trans E_2.out h3 E_2.out.size)
  have T_3 := hid h3
  have P0_3 := hid o3
  clear o3 l3 h3
  have LGE := hid (show w.heap.size ≤ w3.heap.size from E_3.out.size)
  have LGT := hid (show w2.heap.size ≤ w3.heap.size from T_3.out.size)
  have Z0 := hid (show b3 < w3.heap.size from block_lt P0_3.out.blk)
  go_wp2_with fail
  refine (c_implGreatestOrder _ _ _ z0 _ (P0_3.out.flts F0.out hn0)).mono ?_
  rintro e w4 ⟨⟨v, rfl, vr⟩, h4⟩
  have E_4 := hid (below_trans E_3.out h4 E_3.out.size)
  have T_4 := hid (below_trans T_3.out h4 T_3.out.size)
  have P0_4 := hid (P0_3.out.below h4)
  have G := hid (GotI.owns vr HL9.out)
  clear vr h4
  go_wp2_with fail
  refine (c_eqInt64S _ _ (goS z0) _ (GotI.reads (lo := w3.heap.size) G.out.1 HL9.out) (U.out.below T_4.out)).mono ?_
  rintro e w5 ⟨rfl, h5⟩
  have E_5 := hid (below_trans E_4.out h5 E_4.out.size)
  have T_5 := hid (below_trans T_4.out h5 T_4.out.size)
  have P0_5 := hid (P0_4.out.below h5)
  have G_5 := hid (G.out.below h5)
  clear h5
  have hf := hid (goF_fin F0.out)
  have hc := run_toD hf.out
  have hz := hid (finDZero hf.out)
  have hq := same64_self hf.out
  go_wp2_with (go_at_call 32; refine (c_sameFloat _ _ hz.out hz.out _).mono ?_; rintro e w54 ⟨rfl, rfl⟩)
  clear hc hq hf hz
  go_wp2_with fail
  refine (c_toFloat32S_own a0 n0 c0 z0 _ (F0.out.below E_5.out) hn0).mono ?_
  rintro e w6 ⟨b6, rfl, o6, l6, h6⟩
  have L6E := hid (show w.heap.size ≤ b6 from Nat.le_trans E_5.out.size l6)
  have L6T := hid (show w2.heap.size ≤ b6 from Nat.le_trans T_5.out.size l6)
  have D6P0 := hid (show b3 < b6 from Nat.lt_of_lt_of_le (block_lt P0_5.out.blk) l6)
  have E_6 := hid (below_trans E_5.out h6 E_5.out.size)
  have T_6 := hid (below_trans T_5.out h6 T_5.out.size)
  have P0_6 := hid (P0_5.out.below h6)
  have G_6 := hid (G_5.out.below h6)
  have Q0_6 := hid o6
  clear o6 l6 h6
  go_wp2_with fail
  refine (c_eqFloat32S _ _ _ _ _ _ z0 z0 _ (P0_6.out.flts F0.out hn0) (Q0_6.out.flts F0.out hn0)).mono ?_
  rintro e w7 ⟨rfl, h7⟩
  have E_7 := hid (below_trans E_6.out h7 E_6.out.size)
  have T_7 := hid (below_trans T_6.out h7 T_6.out.size)
  have P0_7 := hid (P0_6.out.below h7)
  have Q0_7 := hid (Q0_6.out.below h7)
  have G_7 := hid (G_6.out.below h7)
  clear h7
  have e0 := E0.out
  go_wp2_with fail
  refine (c_markFloat32S _ b3 _ n0 (1) _ (own_ownsF P0_7.out F0.out hn0 (Nat.le_refl _)) (by omega) _ (by first | rfl | omega)).mono ?_
  rintro e w8 ⟨rfl, -, h8⟩
  have E_8 := hid (E_7.out.grown h8 E_7.out.size (fun _ e => by cases e; exact L3E.out))
  have T_8 := hid (T_7.out.grown h8 T_7.out.size (fun _ e => by cases e; exact L3T.out))
  have G_8 := hid (G_7.out.kept h8 (fun _ e => by cases e; exact Z0.out))
  clear h8
  go_wp2_with fail
  refine (c_eqInt64S _ _ (goS z0) _ (GotI.reads (lo := w3.heap.size) G_8.out.1 HL9.out) (U.out.below T_8.out)).mono ?_
  rintro e w9 ⟨rfl, h9⟩
  have E_9 := hid (below_trans E_8.out h9 E_8.out.size)
  have T_9 := hid (below_trans T_8.out h9 T_8.out.size)
  have G_9 := hid (G_8.out.below h9)
  clear h9
  have hf := hid (goF_fin F0.out)
  have hc := run_toD hf.out
  have hz := hid (finDZero hf.out)
  have hq := same64_self hf.out
  go_wp2_with (go_at_call 32; refine (c_sameFloat _ _ hz.out hz.out _).mono ?_; rintro e w54 ⟨rfl, rfl⟩)
  clear hc hq hf hz
  go_wp2_with fail
  refine (c_markInt64S _ _ _ (goS z0).length 1 _ G_9.out (by omega) _ rfl).mono ?_
  rintro e w10 ⟨rfl, mk10, h10⟩
  have E_10 := hid (E_9.out.grown h10 E_9.out.size (fun r e => Nat.le_trans LGE.out (G_9.out.1.lt r e).1))
  have T_10 := hid (T_9.out.grown h10 T_9.out.size (fun r e => Nat.le_trans LGT.out (G_9.out.1.lt r e).1))
  have HD := hid (Held.of mk10 G_9.out.len)
  clear mk10 h10
  have hl := HL.out
  go_wp2_with fail
  refine (c_heldInt64S _ _ (goS z0).length 1 HD.out (by omega) _ rfl).mono ?_
  rintro e w11 ⟨rfl, h11⟩
  have E_11 := hid (below_trans E_10.out h11 E_10.out.size)
  have T_11 := hid (below_trans T_10.out h11 T_10.out.size)
  have M_11 := hid h11
  clear h11
  go_wp2_with fail
  refine (c_toFloat32S_own a0 n0 c0 z0 _ (F0.out.below E_11.out) hn0).mono ?_
  rintro e w12 ⟨b12, rfl, o12, l12, h12⟩
  have L12E := hid (show w.heap.size ≤ b12 from Nat.le_trans E_11.out.size l12)
  have L12T := hid (show w2.heap.size ≤ b12 from Nat.le_trans T_11.out.size l12)
  have L12M := hid (show w10.heap.size ≤ b12 from Nat.le_trans M_11.out.size l12)
  have E_12 := hid (below_trans E_11.out h12 E_11.out.size)
  have T_12 := hid (below_trans T_11.out h12 T_11.out.size)
  have M_12 := hid (below_trans M_11.out h12 M_11.out.size)
  have R0_12 := hid o12
  clear o12 l12 h12
  go_wp2_with fail
  refine (c_implGreatestOrder _ _ _ z0 _ (R0_12.out.flts F0.out hn0)).mono ?_
  rintro e w13 ⟨⟨v2, rfl, vr⟩, h13⟩
  have E_13 := hid (below_trans E_12.out h13 E_12.out.size)
  have T_13 := hid (below_trans T_12.out h13 T_12.out.size)
  have M_13 := hid (below_trans M_12.out h13 M_12.out.size)
  have G := hid (GotI.owns vr HL9.out)
  clear vr h13
  go_wp2_with fail
  refine (c_eqInt64S _ _ (goS z0) _ (GotI.reads (lo := w12.heap.size) G.out.1 HL9.out) (U.out.below T_13.out)).mono ?_
  rintro e w14 ⟨rfl, h14⟩
  have E_14 := hid (below_trans E_13.out h14 E_13.out.size)
  have T_14 := hid (below_trans T_13.out h14 T_13.out.size)
  have M_14 := hid (below_trans M_13.out h14 M_13.out.size)
  have G_14 := hid (G.out.below h14)
  clear h14
  have hf := hid (goF_fin F0.out)
  have hc := run_toD hf.out
  have hz := hid (finDZero hf.out)
  have hq := same64_self hf.out
  go_wp2_with (go_at_call 32; refine (c_sameFloat _ _ hz.out hz.out _).mono ?_; rintro e w54 ⟨rfl, rfl⟩)
  clear hc hq hf hz
  go_wp2_with fail
  refine (c_heldInt64S _ _ (goS z0).length 1 (HD.out.below M_14.out) (by omega) _ rfl).mono ?_
  rintro e w15 ⟨rfl, h15⟩
  have E_15 := hid (below_trans E_14.out h15 E_14.out.size)
  have T_15 := hid (below_trans T_14.out h15 T_14.out.size)
  have M_15 := hid (below_trans M_14.out h15 M_14.out.size)
  clear h15
  go_wp2
  go_ret
  exact ⟨rfl, E_15.out⟩

set_option maxRecDepth 100000 in
theorem lifted (os : Os) (started : os.Started) (H : Type) (enc : TypeId × Value → H) :
    ReturnsInHanded {} Try.checked os 6 .any (Rows.fnExactGreatestOrderSpec.pre6 enc Try.prog Try.f6 Rows.fnExactGreatestOrderRow.domain false) (Rows.fnExactGreatestOrderSpec.post enc Try.prog Try.f6 false true false false) := by
  refine returnsInHanded_of_change (C := Try.checked) own started (by kernel_rfl) Try.func6
    (ChangeSpec.witness6 (enc := enc) (C := Try.checked) false ⟨#[], #[.slice none 0 0], []⟩ 8 (by kernel_rfl) (by kernel_rfl) (by kernel_rfl) (by kernel_rfl)) ?_
  intro W base args ds gs before hval0 hW hcnd _
  have hval : ∀ (j : Nat) t v, Try.f6.params[j]? = some t → args[j]? = some v → Value.okWide Try.prog W .any base t v := hval0
  have hW' := hW
  obtain ⟨p, q, hA0, hV, rfl, hfz, hnd⟩ := hW
  have hA : DataW.TrodAll enc Try.prog W 0 (fun _ => true) true Try.f6.params.toList args.toList ds p := hA0
  rw [Try.params6] at hA hval
  obtain ⟨v0, vs0, d0, ds0, p0, q0, hargs, rfl, rfl, h0, r0⟩ := trodAll_cons hA
  obtain ⟨rfl, rfl, rfl⟩ := trodAll_nil r0
  obtain rfl : args = #[v0] := by cases args; simp_all
  obtain ⟨rfl, rfl⟩ := trodVars_none hV
  have k0 := h0
  have lt0 : ∀ x ∈ p0, x.block < W.heap.size := by obtain ⟨m, hm⟩ := k0; exact DataW.trod_lt m _ _ _ hm
  obtain ⟨a0, n0, c0, z0, rfl, r0x⟩ := open_flts Try.underlying45 (by kernel_rfl) (by kernel_rfl) (hval 0 45 v0 rfl rfl) h0
  clear hA0 hval0
  refine (walk a0 n0 c0 z0 W r0x).mono fun e W' ⟨he, bel⟩ => ?_
  subst he
  exact ⟨_, rfl, _, _, _, [], _, [], hW', trodAll_mk1 (shut_bool Try.underlying4 _), (trodAll_cons_mk (Below.trod laidOut (by kernel_rfl) (of_decide_eq_true (by kernel_rfl)) k0 bel lt0) trodAll_mk0), rfl, bel.frame _, fun h => by cases h⟩

theorem proved : Rows.FnExactGreatestOrderSaid :=
  OpenClaim.holds_of_wide 6 Try.f6 rfl rfl rfl rfl rfl rfl rfl ⟨rfl, rfl, rfl, rfl, rfl⟩ rfl rfl rfl rfl rfl (by kernel_rfl) Try.func6 (by kernel_rfl)
    (of_decide_eq_true (by kernel_rfl)) (by unfold Func.isWrapper; first | (rw [if_pos (by decide +kernel)]; kernel_rfl) | (rw [if_neg (by decide +kernel)]; exact ⟨rfl, rfl⟩))
    (fun os started H enc _ => lifted os started H enc)
#print axioms proved
end Go.Proofs.Ytmjmgfojdomhlaa.lawGreatestOrder
