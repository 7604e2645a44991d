/- FnExactCountBins returns true for all arguments: for each slice of float32 the program's CountBins and the reference's return the same, the program leaves its arguments as they were, and what it returns shares memory neither with them nor with what another call returns. No condition. -/
import Derived.Test.YtmipfbafbkdncaaBins
import Derived.Test.YtmipfbafbkdncaaMarks
import Derived.Test.YtmipfbafbkdncaaLift
namespace Go.Proofs.Ytmipfbafbkdncaa.lawCountBins
open Go.ChangeShapes Go.WideShapes Go.ChangeAt Go.RowKit Go.Proofs.Ytmipfbafbkdncaa

theorem walk (a0 : Option Addr) (n0 c0 : Nat) (z0 : List Nat) (a1 : Option Addr) (n1 c1 : Nat) (z1 : List Nat) (w : World) (r0 : FltsAny w a0 n0 z0) (r1 : FltsAny w a1 n1 z1) :
    Calls Try.prog 14 #[.slice a0 n0 c0, .slice a1 n1 c1] w fun e w' => e = .returned (.bool true) ∧ Below w.heap.size w w' := by
  by_cases hn0 : n0 ≤ 1048576
  case neg =>
    clear r0 r1
    go_enter Try.func14, Try.ntmps14
    go_wp2
    go_ret
    exact ⟨rfl, Below.refl _ _⟩
  by_cases hn1 : n1 ≤ 1048576
  case neg =>
    clear r0 r1
    go_enter Try.func14, Try.ntmps14
    go_wp2
    go_ret
    exact ⟨rfl, Below.refl _ _⟩
  have F0 := hid (Flts.mk r0.len (by omega) r0.word r0.at_)
  have F1 := hid (Flts.mk r1.len (by omega) r1.word r1.at_)
  have E0 := hid (sameL_refl F0.out.len F0.out.word)
  have E1 := hid (sameL_refl F1.out.len F1.out.word)
  clear r0 r1
  have HL := hid (show (cbL z0 z1).length ≤ 99 from cbL_len z0 z1)
  go_enter Try.func14, Try.ntmps14
  go_wp2_with fail
  refine (c_toFloat32S_own a0 n0 c0 z0 _ F0.out hn0).mono ?_
  rintro e w1 ⟨b1, rfl, o1, l1, h1⟩
  have L1E := hid (show w.heap.size ≤ b1 from l1)
  have E_1 := hid h1
  have S0_1 := hid o1
  clear o1 l1 h1
  go_wp2_with fail
  refine (c_toFloat32S_own a1 n1 c1 z1 _ (F1.out.below E_1.out) hn1).mono ?_
  rintro e w2 ⟨b2, rfl, o2, l2, h2⟩
  have L2E := hid (show w.heap.size ≤ b2 from Nat.le_trans E_1.out.size l2)
  have D2S0 := hid (show b1 < b2 from Nat.lt_of_lt_of_le (block_lt S0_1.out.blk) l2)
  have E_2 := hid (below_trans E_1.out h2 E_1.out.size)
  have S0_2 := hid (S0_1.out.below h2)
  have S1_2 := hid o2
  clear o2 l2 h2
  go_wp2_with fail
  refine (c_specCountBins _ _ _ _ _ _ z0 z1 _ (S0_2.out.flts F0.out hn0) (S1_2.out.flts F1.out hn1)).mono ?_
  rintro e w3 ⟨⟨u, rfl, ur⟩, h3⟩
  have E_3 := hid (below_trans E_2.out h3 E_2.out.size)
  have U := hid ur
  clear ur h3
  go_wp2_with fail
  refine (c_toFloat32S_own a0 n0 c0 z0 _ (F0.out.below E_3.out) hn0).mono ?_
  rintro e w4 ⟨b4, rfl, o4, l4, h4⟩
  have L4E := hid (show w.heap.size ≤ b4 from Nat.le_trans E_3.out.size l4)
  have L4T := hid (show w3.heap.size ≤ b4 from l4)
  have E_4 := hid (below_trans E_3.out h4 E_3.out.size)
  have T_4 := hid h4
  have P0_4 := hid o4
  clear o4 l4 h4
  go_wp2_with fail
  refine (c_toFloat32S_own a1 n1 c1 z1 _ (F1.out.below E_4.out) hn1).mono ?_
  rintro e w5 ⟨b5, rfl, o5, l5, h5⟩
  have L5E := hid (show w.heap.size ≤ b5 from Nat.le_trans E_4.out.size l5)
  have L5T := hid (show w3.heap.size ≤ b5 from Nat.le_trans T_4.out.size l5)
  have D5P0 := hid (show b4 < b5 from Nat.lt_of_lt_of_le (block_lt P0_4.out.blk) l5)
  have E_5 := hid (below_trans E_4.out h5 E_4.out.size)
  have T_5 := hid (below_trans T_4.out h5 T_4.out.size)
  have P0_5 := hid (P0_4.out.below h5)
  have P1_5 := hid o5
  clear o5 l5 h5
  have LGE := hid (show w.heap.size ≤ w5.heap.size from E_5.out.size)
  have LGT := hid (show w3.heap.size ≤ w5.heap.size from T_5.out.size)
  have Z0 := hid (show b4 < w5.heap.size from block_lt P0_5.out.blk)
  have Z1 := hid (show b5 < w5.heap.size from block_lt P1_5.out.blk)
  go_wp2_with fail
  refine (c_implCountBins _ _ _ _ _ _ z0 z1 _ (P0_5.out.flts F0.out hn0) (P1_5.out.flts F1.out hn1)).mono ?_
  rintro e w6 ⟨⟨v, rfl, vr⟩, h6⟩
  have E_6 := hid (below_trans E_5.out h6 E_5.out.size)
  have T_6 := hid (below_trans T_5.out h6 T_5.out.size)
  have P0_6 := hid (P0_5.out.below h6)
  have P1_6 := hid (P1_5.out.below h6)
  have G := hid (GotI.owns vr HL.out)
  clear vr h6
  go_wp2_with fail
  refine (c_eqInt64S _ _ (cbL z0 z1) _ (GotI.reads (lo := w5.heap.size) G.out.1 HL.out) (U.out.below T_6.out)).mono ?_
  rintro e w7 ⟨rfl, h7⟩
  have E_7 := hid (below_trans E_6.out h7 E_6.out.size)
  have T_7 := hid (below_trans T_6.out h7 T_6.out.size)
  have P0_7 := hid (P0_6.out.below h7)
  have P1_7 := hid (P1_6.out.below h7)
  have G_7 := hid (G.out.below h7)
  clear h7
  go_wp2_with fail
  refine (c_toFloat32S_own a0 n0 c0 z0 _ (F0.out.below E_7.out) hn0).mono ?_
  rintro e w8 ⟨b8, rfl, o8, l8, h8⟩
  have L8E := hid (show w.heap.size ≤ b8 from Nat.le_trans E_7.out.size l8)
  have L8T := hid (show w3.heap.size ≤ b8 from Nat.le_trans T_7.out.size l8)
  have D8P0 := hid (show b4 < b8 from Nat.lt_of_lt_of_le (block_lt P0_7.out.blk) l8)
  have D8P1 := hid (show b5 < b8 from Nat.lt_of_lt_of_le (block_lt P1_7.out.blk) l8)
  have E_8 := hid (below_trans E_7.out h8 E_7.out.size)
  have T_8 := hid (below_trans T_7.out h8 T_7.out.size)
  have P0_8 := hid (P0_7.out.below h8)
  have P1_8 := hid (P1_7.out.below h8)
  have G_8 := hid (G_7.out.below h8)
  have Q0_8 := hid o8
  clear o8 l8 h8
  go_wp2_with fail
  refine (c_eqFloat32S _ _ _ _ _ _ z0 z0 _ (P0_8.out.flts F0.out hn0) (Q0_8.out.flts F0.out hn0)).mono ?_
  rintro e w9 ⟨rfl, h9⟩
  have E_9 := hid (below_trans E_8.out h9 E_8.out.size)
  have T_9 := hid (below_trans T_8.out h9 T_8.out.size)
  have P0_9 := hid (P0_8.out.below h9)
  have P1_9 := hid (P1_8.out.below h9)
  have Q0_9 := hid (Q0_8.out.below h9)
  have G_9 := hid (G_8.out.below h9)
  clear h9
  have e0 := E0.out
  go_wp2_with fail
  refine (c_toFloat32S_own a1 n1 c1 z1 _ (F1.out.below E_9.out) hn1).mono ?_
  rintro e w10 ⟨b10, rfl, o10, l10, h10⟩
  have L10E := hid (show w.heap.size ≤ b10 from Nat.le_trans E_9.out.size l10)
  have L10T := hid (show w3.heap.size ≤ b10 from Nat.le_trans T_9.out.size l10)
  have D10P0 := hid (show b4 < b10 from Nat.lt_of_lt_of_le (block_lt P0_9.out.blk) l10)
  have D10P1 := hid (show b5 < b10 from Nat.lt_of_lt_of_le (block_lt P1_9.out.blk) l10)
  have E_10 := hid (below_trans E_9.out h10 E_9.out.size)
  have T_10 := hid (below_trans T_9.out h10 T_9.out.size)
  have P0_10 := hid (P0_9.out.below h10)
  have P1_10 := hid (P1_9.out.below h10)
  have G_10 := hid (G_9.out.below h10)
  have Q1_10 := hid o10
  clear o10 l10 h10
  go_wp2_with fail
  refine (c_eqFloat32S _ _ _ _ _ _ z1 z1 _ (P1_10.out.flts F1.out hn1) (Q1_10.out.flts F1.out hn1)).mono ?_
  rintro e w11 ⟨rfl, h11⟩
  have E_11 := hid (below_trans E_10.out h11 E_10.out.size)
  have T_11 := hid (below_trans T_10.out h11 T_10.out.size)
  have P0_11 := hid (P0_10.out.below h11)
  have P1_11 := hid (P1_10.out.below h11)
  have Q1_11 := hid (Q1_10.out.below h11)
  have G_11 := hid (G_10.out.below h11)
  clear h11
  have e1 := E1.out
  go_wp2_with fail
  refine (c_markFloat32S _ b4 _ n0 (1) _ (own_ownsF P0_11.out F0.out hn0 (Nat.le_refl _)) (by omega) _ (by first | rfl | omega)).mono ?_
  rintro e w12 ⟨rfl, -, h12⟩
  have E_12 := hid (E_11.out.grown h12 E_11.out.size (fun _ e => by cases e; exact L4E.out))
  have T_12 := hid (T_11.out.grown h12 T_11.out.size (fun _ e => by cases e; exact L4T.out))
  have P1_12 := hid (own_kept P1_11.out h12 (by intro e; cases e; exact Nat.lt_irrefl _ D5P0.out))
  have G_12 := hid (G_11.out.kept h12 (fun _ e => by cases e; exact Z0.out))
  clear h12
  go_wp2_with fail
  refine (c_markFloat32S _ b5 _ n1 (1 + n0) _ (own_ownsF P1_12.out F1.out hn1 (Nat.le_refl _)) (by omega) _ (by first | rfl | omega)).mono ?_
  rintro e w13 ⟨rfl, -, h13⟩
  have E_13 := hid (E_12.out.grown h13 E_12.out.size (fun _ e => by cases e; exact L5E.out))
  have T_13 := hid (T_12.out.grown h13 T_12.out.size (fun _ e => by cases e; exact L5T.out))
  have G_13 := hid (G_12.out.kept h13 (fun _ e => by cases e; exact Z1.out))
  clear h13
  go_wp2_with fail
  refine (c_eqInt64S _ _ (cbL z0 z1) _ (GotI.reads (lo := w5.heap.size) G_13.out.1 HL.out) (U.out.below T_13.out)).mono ?_
  rintro e w14 ⟨rfl, h14⟩
  have E_14 := hid (below_trans E_13.out h14 E_13.out.size)
  have T_14 := hid (below_trans T_13.out h14 T_13.out.size)
  have G_14 := hid (G_13.out.below h14)
  clear h14
  go_wp2_with fail
  refine (c_markInt64S _ _ _ (cbL z0 z1).length 1 _ G_14.out (by omega) _ rfl).mono ?_
  rintro e w15 ⟨rfl, mk15, h15⟩
  have E_15 := hid (E_14.out.grown h15 E_14.out.size (fun r e => Nat.le_trans LGE.out (G_14.out.1.lt r e).1))
  have T_15 := hid (T_14.out.grown h15 T_14.out.size (fun r e => Nat.le_trans LGT.out (G_14.out.1.lt r e).1))
  have HD := hid (Held.of mk15 G_14.out.len)
  clear mk15 h15
  have hl := HL.out
  go_wp2_with fail
  refine (c_heldInt64S _ _ (cbL z0 z1).length 1 HD.out (by omega) _ rfl).mono ?_
  rintro e w16 ⟨rfl, h16⟩
  have E_16 := hid (below_trans E_15.out h16 E_15.out.size)
  have T_16 := hid (below_trans T_15.out h16 T_15.out.size)
  have M_16 := hid h16
  clear h16
  go_wp2_with fail
  refine (c_toFloat32S_own a0 n0 c0 z0 _ (F0.out.below E_16.out) hn0).mono ?_
  rintro e w17 ⟨b17, rfl, o17, l17, h17⟩
  have L17E := hid (show w.heap.size ≤ b17 from Nat.le_trans E_16.out.size l17)
  have L17T := hid (show w3.heap.size ≤ b17 from Nat.le_trans T_16.out.size l17)
  have L17M := hid (show w15.heap.size ≤ b17 from Nat.le_trans M_16.out.size l17)
  have E_17 := hid (below_trans E_16.out h17 E_16.out.size)
  have T_17 := hid (below_trans T_16.out h17 T_16.out.size)
  have M_17 := hid (below_trans M_16.out h17 M_16.out.size)
  have R0_17 := hid o17
  clear o17 l17 h17
  go_wp2_with fail
  refine (c_toFloat32S_own a1 n1 c1 z1 _ (F1.out.below E_17.out) hn1).mono ?_
  rintro e w18 ⟨b18, rfl, o18, l18, h18⟩
  have L18E := hid (show w.heap.size ≤ b18 from Nat.le_trans E_17.out.size l18)
  have L18T := hid (show w3.heap.size ≤ b18 from Nat.le_trans T_17.out.size l18)
  have L18M := hid (show w15.heap.size ≤ b18 from Nat.le_trans M_17.out.size l18)
  have D18R0 := hid (show b17 < b18 from Nat.lt_of_lt_of_le (block_lt R0_17.out.blk) l18)
  have E_18 := hid (below_trans E_17.out h18 E_17.out.size)
  have T_18 := hid (below_trans T_17.out h18 T_17.out.size)
  have M_18 := hid (below_trans M_17.out h18 M_17.out.size)
  have R0_18 := hid (R0_17.out.below h18)
  have R1_18 := hid o18
  clear o18 l18 h18
  go_wp2_with fail
  refine (c_implCountBins _ _ _ _ _ _ z0 z1 _ (R0_18.out.flts F0.out hn0) (R1_18.out.flts F1.out hn1)).mono ?_
  rintro e w19 ⟨⟨v2, rfl, vr⟩, h19⟩
  have E_19 := hid (below_trans E_18.out h19 E_18.out.size)
  have T_19 := hid (below_trans T_18.out h19 T_18.out.size)
  have M_19 := hid (below_trans M_18.out h19 M_18.out.size)
  have G := hid (GotI.owns vr HL.out)
  clear vr h19
  go_wp2_with fail
  refine (c_eqInt64S _ _ (cbL z0 z1) _ (GotI.reads (lo := w18.heap.size) G.out.1 HL.out) (U.out.below T_19.out)).mono ?_
  rintro e w20 ⟨rfl, h20⟩
  have E_20 := hid (below_trans E_19.out h20 E_19.out.size)
  have T_20 := hid (below_trans T_19.out h20 T_19.out.size)
  have M_20 := hid (below_trans M_19.out h20 M_19.out.size)
  have G_20 := hid (G.out.below h20)
  clear h20
  go_wp2_with fail
  refine (c_heldInt64S _ _ (cbL z0 z1).length 1 (HD.out.below M_20.out) (by omega) _ rfl).mono ?_
  rintro e w21 ⟨rfl, h21⟩
  have E_21 := hid (below_trans E_20.out h21 E_20.out.size)
  have T_21 := hid (below_trans T_20.out h21 T_20.out.size)
  have M_21 := hid (below_trans M_20.out h21 M_20.out.size)
  clear h21
  go_wp2
  go_ret
  exact ⟨rfl, E_21.out⟩

set_option maxRecDepth 100000 in
theorem lifted (os : Os) (started : os.Started) (H : Type) (enc : TypeId × Value → H) :
    ReturnsInHanded {} Try.checked os 14 .any (Rows.fnExactCountBinsSpec.pre6 enc Try.prog Try.f14 Rows.fnExactCountBinsRow.domain false) (Rows.fnExactCountBinsSpec.post enc Try.prog Try.f14 false true false false) := by
  refine returnsInHanded_of_change (C := Try.checked) own started (by kernel_rfl) Try.func14
    (ChangeSpec.witness6 (enc := enc) (C := Try.checked) false ⟨#[], #[.slice none 0 0, .slice none 0 0], []⟩ 8 (by kernel_rfl) (by kernel_rfl) (by kernel_rfl) (by kernel_rfl)) ?_
  intro W base args ds gs before hval0 hW hcnd _
  have hval : ∀ (j : Nat) t v, Try.f14.params[j]? = some t → args[j]? = some v → Value.okWide Try.prog W .any base t v := hval0
  have hW' := hW
  obtain ⟨p, q, hA0, hV, rfl, hfz, hnd⟩ := hW
  have hA : DataW.TrodAll enc Try.prog W 0 (fun _ => true) true Try.f14.params.toList args.toList ds p := hA0
  rw [Try.params14] at hA hval
  obtain ⟨v0, vs0, d0, ds0, p0, q0, hargs, rfl, rfl, h0, r0⟩ := trodAll_cons hA
  obtain ⟨v1, vs1, d1, ds1, p1, q1, rfl, rfl, rfl, h1, r1⟩ := trodAll_cons r0
  obtain ⟨rfl, rfl, rfl⟩ := trodAll_nil r1
  obtain rfl : args = #[v0, v1] := by cases args; simp_all
  obtain ⟨rfl, rfl⟩ := trodVars_none hV
  have k0 := h0
  have lt0 : ∀ x ∈ p0, x.block < W.heap.size := by obtain ⟨m, hm⟩ := k0; exact DataW.trod_lt m _ _ _ hm
  have k1 := h1
  have lt1 : ∀ x ∈ p1, x.block < W.heap.size := by obtain ⟨m, hm⟩ := k1; exact DataW.trod_lt m _ _ _ hm
  obtain ⟨a0, n0, c0, z0, rfl, r0x⟩ := open_flts Try.underlying22 (by kernel_rfl) (by kernel_rfl) (hval 0 22 v0 rfl rfl) h0
  obtain ⟨a1, n1, c1, z1, rfl, r1x⟩ := open_flts Try.underlying22 (by kernel_rfl) (by kernel_rfl) (hval 1 22 v1 rfl rfl) h1
  clear hA0 hval0
  refine (walk a0 n0 c0 z0 a1 n1 c1 z1 W r0x r1x).mono fun e W' ⟨he, bel⟩ => ?_
  subst he
  exact ⟨_, rfl, _, _, _, [], _, [], hW', trodAll_mk1 (shut_bool Try.underlying4 _), (trodAll_cons_mk (Below.trod laidOut (by kernel_rfl) (of_decide_eq_true (by kernel_rfl)) k0 bel lt0) (trodAll_cons_mk (Below.trod laidOut (by kernel_rfl) (of_decide_eq_true (by kernel_rfl)) k1 bel lt1) trodAll_mk0)), rfl, bel.frame _, fun h => by cases h⟩

theorem proved : Rows.FnExactCountBinsSaid :=
  OpenClaim.holds_of_wide 14 Try.f14 rfl rfl rfl rfl rfl rfl rfl ⟨rfl, rfl, rfl, rfl, rfl⟩ rfl rfl rfl rfl rfl (by kernel_rfl) Try.func14 (by kernel_rfl)
    (of_decide_eq_true (by kernel_rfl)) (by unfold Func.isWrapper; first | (rw [if_pos (by decide +kernel)]; kernel_rfl) | (rw [if_neg (by decide +kernel)]; exact ⟨rfl, rfl⟩))
    (fun os started H enc _ => lifted os started H enc)
#print axioms proved
end Go.Proofs.Ytmipfbafbkdncaa.lawCountBins
