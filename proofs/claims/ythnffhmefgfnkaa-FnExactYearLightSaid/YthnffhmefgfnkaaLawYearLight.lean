/- FnExactYearLight returns true for all arguments: for each blind, each slice of suns and each facing the program's YearLight and the reference's return the same, the program leaves its arguments as they were, and what it returns shares memory neither with them nor with what another call returns. No condition. -/
import Derived.Test.YthnffhmefgfnkaaYearL
import Derived.Test.YthnffhmefgfnkaaMarks
import Derived.Test.YthnffhmefgfnkaaTail
import Derived.Test.YthnffhmefgfnkaaLift
namespace Go.Proofs.Ythnffhmefgfnkaa.lawYearLight
set_option maxRecDepth 20000
open Go.ChangeShapes Go.WideShapes Go.ChangeAt Go.RowKit Go.Proofs.Ythnffhmefgfnkaa

theorem box_kept {w w2 : World} {b : Nat} {C : Array Value} {T : TypeId} {r : Option Nat} (h : w.heap[b]? = some (.cells C T (0, 0))) (hg : w.grownBy w2 r) (hne : r ≠ some b) : w2.heap[b]? = some (.cells C T (0, 0)) := (hg.block b (block_lt h) (fun e => hne e.symm)).trans h
set_option maxHeartbeats 4000000 in
theorem walk (a0 : Bld) (a1 : Option Addr) (n1 c1 : Nat) (P1 Q1 : Nat → List Int) (a2 : Int) (w : World) (b0 : WfB a0) (o1 : SunsOk P1 Q1 n1) (r1 : RwsAny w a1 n1 48 (scs P1 Q1)) (x2 : -9223372036854775808 ≤ a2 ∧ a2 ≤ 9223372036854775807) :
    Calls Try.prog 13 #[.agg (bcells a0), .slice a1 n1 c1, .int .i64 a2] w fun e w' => e = .returned (.bool true) ∧ Below w.heap.size w w' := by
  have hs0 : (Try.prog.info? 26).map (·.size) = some (bcells a0).size := by kernel_rfl
  have hB0 : (w.alloc (.cells (bcells a0) 26)).heap[w.heap.size]? = some (.cells (bcells a0) 26 (0, 0)) := blk_at _ _ _ rfl
  have h0 : Below w.heap.size w (w.alloc (.cells (bcells a0) 26)) := ((Below.refl _ _).alloc (Nat.le_refl _) _)
  have B0 := hid b0
  have O1 := hid o1
  have R1 := hid r1
  have X2 := hid x2
  have HS0 := hid hs0
  have HB0 := hid hB0
  have H0 := hid h0
  clear b0 o1 r1 x2 hs0 hB0 h0
  have HL := hid (show (ylL a0 P1 Q1 n1 a2).length ≤ 99 from ylL_len _ _ _ _ _)
  by_cases hn1 : n1 ≤ 1048576
  case neg =>
    have hm := R1.out.small
    go_enter Try.func13, Try.ntmps13
    go_wp2_with fail
    refine (c_szSunS_no _ _ _ hn1 hm _).mono ?_
    rintro e w' ⟨rfl, rfl⟩
    go_wp2
    go_ret
    exact ⟨rfl, H0.out⟩
  have X1 := hid (R1.out.rws hn1)
  have HN1 := hid hn1
  clear R1
  go_enter Try.func13, Try.ntmps13
  go_wp2_with fail
  refine (c_szSunS _ _ _ hn1 _).mono ?_
  rintro e w' ⟨rfl, rfl⟩
  have hl1 : (0 : Int) ≤ 1048576 - (n1 : Int) := by omega
  go_wp2_with (refine wpList_load_row rfl 26 _ rfl (w.heap.size) rfl 26 (bcells a0) (0, 0) _ HB0.out Try.underlying26 rfl HS0.out ?_)
  refine (c_toBlind a0 _).mono ?_
  rintro e w1 ⟨rfl, h1⟩
  have E_1 := hid (below_trans H0.out h1 H0.out.size)
  have HB0_1 := hid ((h1.block (w.heap.size) (block_lt HB0.out)).trans HB0.out)
  clear h1
  go_wp2_with (refine wpList_load_row rfl 26 _ rfl (w.heap.size) rfl 26 (bcells a0) (0, 0) _ HB0_1.out Try.underlying26 rfl HS0.out ?_)
  refine (c_toSunS a1 n1 c1 P1 Q1 _ O1.out (X1.out.below E_1.out)).mono ?_
  rintro e w2 ⟨b2, rfl, o2, l2, h2⟩
  have L2E := hid (show w.heap.size ≤ b2 from Nat.le_trans E_1.out.size l2)
  have Y2_0 := hid (show w.heap.size < b2 from Nat.lt_of_lt_of_le (block_lt HB0_1.out) l2)
  have E_2 := hid (below_trans E_1.out h2 E_1.out.size)
  have HB0_2 := hid ((h2.block (w.heap.size) (block_lt HB0_1.out)).trans HB0_1.out)
  have S_2 := hid o2
  clear o2 l2 h2
  go_wp2_with (refine wpList_load_row rfl 26 _ rfl (w.heap.size) rfl 26 (bcells a0) (0, 0) _ HB0_2.out Try.underlying26 rfl HS0.out ?_)
  refine (reads_of_got (c_specYearLight a0 B0.out _ n1 _ P1 Q1 a2 _ O1.out (S_2.out.rws HN1.out)) (ylL_len _ _ _ _ _) (ylL_word B0.out P1 Q1 n1 a2)).mono ?_
  rintro e w3 ⟨⟨u, rfl, ur⟩, h3⟩
  have E_3 := hid (below_trans E_2.out h3 E_2.out.size)
  have HB0_3 := hid ((h3.block (w.heap.size) (block_lt HB0_2.out)).trans HB0_2.out)
  have U := hid ur
  clear ur h3
  go_wp2_with (refine wpList_load_row rfl 26 _ rfl (w.heap.size) rfl 26 (bcells a0) (0, 0) _ HB0_3.out Try.underlying26 rfl HS0.out ?_)
  refine (c_toSunS a1 n1 c1 P1 Q1 _ O1.out (X1.out.below E_3.out)).mono ?_
  rintro e w4 ⟨b4, rfl, o4, l4, h4⟩
  have L4E := hid (show w.heap.size ≤ b4 from Nat.le_trans E_3.out.size l4)
  have L4T := hid (show w3.heap.size ≤ b4 from l4)
  have Y4_0 := hid (show w.heap.size < b4 from Nat.lt_of_lt_of_le (block_lt HB0_3.out) l4)
  have E_4 := hid (below_trans E_3.out h4 E_3.out.size)
  have T_4 := hid h4
  have HB0_4 := hid ((h4.block (w.heap.size) (block_lt HB0_3.out)).trans HB0_3.out)
  have P_4 := hid o4
  clear o4 l4 h4
  go_wp2_with (refine wpList_load_row rfl 26 _ rfl (w.heap.size) rfl 26 (bcells a0) (0, 0) _ HB0_4.out Try.underlying26 rfl HS0.out ?_)
  refine (c_toBlind a0 _).mono ?_
  rintro e w5 ⟨rfl, h5⟩
  have E_5 := hid (below_trans E_4.out h5 E_4.out.size)
  have T_5 := hid (below_trans T_4.out h5 T_4.out.size)
  have P_5 := hid (P_4.out.below h5)
  have HB0_5 := hid ((h5.block (w.heap.size) (block_lt HB0_4.out)).trans HB0_4.out)
  clear h5
  have LGE := hid (show w.heap.size ≤ w5.heap.size from E_5.out.size)
  have LGT := hid (show w3.heap.size ≤ w5.heap.size from T_5.out.size)
  have Z0 := hid (show w.heap.size < w5.heap.size from block_lt HB0_5.out)
  have ZZP := hid (show b4 < w5.heap.size from P_5.out.lt)
  go_wp2_with (refine wpList_load_row rfl 26 _ rfl (w.heap.size) rfl 26 (bcells a0) (0, 0) _ HB0_5.out Try.underlying26 rfl HS0.out ?_)
  refine (c_implYearLight a0 B0.out _ n1 _ P1 Q1 a2 _ O1.out (P_5.out.rws HN1.out)).mono ?_
  rintro e w6 ⟨⟨v, rfl, vr⟩, h6⟩
  have E_6 := hid (below_trans E_5.out h6 E_5.out.size)
  have T_6 := hid (below_trans T_5.out h6 T_5.out.size)
  have P_6 := hid (P_5.out.below h6)
  have HB0_6 := hid ((h6.block (w.heap.size) (block_lt HB0_5.out)).trans HB0_5.out)
  have G6 := hid (GotF.owns vr (by have := HL.out; omega))
  clear vr h6
  go_wp2_with (refine wpList_load_row rfl 26 _ rfl (w.heap.size) rfl 26 (bcells a0) (0, 0) _ HB0_6.out Try.underlying26 rfl HS0.out ?_)
  refine (c_eqF _ _ (ylL a0 P1 Q1 n1 a2) _ (GotF.reads (lo := w5.heap.size) G6.out.1 (by have := HL.out; omega) (ylL_word B0.out P1 Q1 n1 a2)) (U.out.below T_6.out)).mono ?_
  rintro e w7 ⟨rfl, h7⟩
  have E_7 := hid (below_trans E_6.out h7 E_6.out.size)
  have T_7 := hid (below_trans T_6.out h7 T_6.out.size)
  have P_7 := hid (P_6.out.below h7)
  have G_7 := hid (G6.out.below h7)
  have HB0_7 := hid ((h7.block (w.heap.size) (block_lt HB0_6.out)).trans HB0_6.out)
  clear h7
  go_wp2_with (refine wpList_load_row rfl 26 _ rfl (w.heap.size) rfl 26 (bcells a0) (0, 0) _ HB0_7.out Try.underlying26 rfl HS0.out ?_)
  refine (c_toSunS a1 n1 c1 P1 Q1 _ O1.out (X1.out.below E_7.out)).mono ?_
  rintro e w8 ⟨b8, rfl, o8, l8, h8⟩
  have L8E := hid (show w.heap.size ≤ b8 from Nat.le_trans E_7.out.size l8)
  have L8T := hid (show w3.heap.size ≤ b8 from Nat.le_trans T_7.out.size l8)
  have Y8_0 := hid (show w.heap.size < b8 from Nat.lt_of_lt_of_le (block_lt HB0_7.out) l8)
  have E_8 := hid (below_trans E_7.out h8 E_7.out.size)
  have T_8 := hid (below_trans T_7.out h8 T_7.out.size)
  have P_8 := hid (P_7.out.below h8)
  have G_8 := hid (G_7.out.below h8)
  have HB0_8 := hid ((h8.block (w.heap.size) (block_lt HB0_7.out)).trans HB0_7.out)
  have Q_8 := hid o8
  clear o8 l8 h8
  go_wp2_with (refine wpList_load_row rfl 26 _ rfl (w.heap.size) rfl 26 (bcells a0) (0, 0) _ HB0_8.out Try.underlying26 rfl HS0.out ?_)
  refine (c_eqSunS _ _ n1 _ _ P1 Q1 _ O1.out (P_8.out.rws HN1.out) (Q_8.out.rws HN1.out)).mono ?_
  rintro e w9 ⟨rfl, h9⟩
  have E_9 := hid (below_trans E_8.out h9 E_8.out.size)
  have T_9 := hid (below_trans T_8.out h9 T_8.out.size)
  have P_9 := hid (P_8.out.below h9)
  have Q_9 := hid (Q_8.out.below h9)
  have G_9 := hid (G_8.out.below h9)
  have HB0_9 := hid ((h9.block (w.heap.size) (block_lt HB0_8.out)).trans HB0_8.out)
  clear h9
  go_wp2_with (refine wpList_load_row rfl 26 _ rfl (w.heap.size) rfl 26 (bcells a0) (0, 0) _ HB0_9.out Try.underlying26 rfl HS0.out ?_)
  refine (c_markSunS b4 n1 1 (scs P1 Q1) _ (PartR.zero P_9.out) HN1.out (by omega)).mono ?_
  rintro e w10 ⟨rfl, -, h10⟩
  have E_10 := hid (E_9.out.grown h10 E_9.out.size (fun _ e => by cases e; exact L4E.out))
  have T_10 := hid (T_9.out.grown h10 T_9.out.size (fun _ e => by cases e; exact L4T.out))
  have HB0_10 := hid (box_kept HB0_9.out h10 (fun e => by cases e; exact Nat.lt_irrefl _ Y4_0.out))
  have G_10 := hid (G_9.out.kept h10 (fun _ e => by cases e; exact ZZP.out))
  clear h10
  have hk1 : (0 : Int) ≤ ((1 + n1 * 48 : Nat) : Int) := by omega
  go_wp2_with (refine wpList_load_row rfl 26 _ rfl (w.heap.size) rfl 26 (bcells a0) (0, 0) _ HB0_10.out Try.underlying26 rfl HS0.out ?_)
  refine (c_eqF _ _ (ylL a0 P1 Q1 n1 a2) _ (GotF.reads (lo := w5.heap.size) G_10.out.1 (by have := HL.out; omega) (ylL_word B0.out P1 Q1 n1 a2)) (U.out.below T_10.out)).mono ?_
  rintro e w11 ⟨rfl, h11⟩
  have E_11 := hid (below_trans E_10.out h11 E_10.out.size)
  have T_11 := hid (below_trans T_10.out h11 T_10.out.size)
  have G_11 := hid (G_10.out.below h11)
  have HB0_11 := hid ((h11.block (w.heap.size) (block_lt HB0_10.out)).trans HB0_10.out)
  clear h11
  go_wp2_with (refine wpList_load_row rfl 26 _ rfl (w.heap.size) rfl 26 (bcells a0) (0, 0) _ HB0_11.out Try.underlying26 rfl HS0.out ?_)
  refine (c_markFloat32S _ _ _ (ylL a0 P1 Q1 n1 a2).length 1 _ G_11.out (by omega) _ rfl).mono ?_
  rintro e w12 ⟨rfl, mk12, h12⟩
  have E_12 := hid (E_11.out.grown h12 E_11.out.size (fun r e => Nat.le_trans LGE.out (G_11.out.1.lt r e).1))
  have T_12 := hid (T_11.out.grown h12 T_11.out.size (fun r e => Nat.le_trans LGT.out (G_11.out.1.lt r e).1))
  have HB0_12 := hid (box_kept HB0_11.out h12 (fun e => by have e1 := (G_11.out.1.lt _ e).1; have e2 := Z0.out; omega))
  have HD := hid (Held.of mk12 G_11.out.len)
  clear mk12 h12
  have hl := HL.out
  go_wp2_with (refine wpList_load_row rfl 26 _ rfl (w.heap.size) rfl 26 (bcells a0) (0, 0) _ HB0_12.out Try.underlying26 rfl HS0.out ?_)
  refine (c_heldFloat32S _ _ (ylL a0 P1 Q1 n1 a2).length 1 HD.out (by omega) _ rfl).mono ?_
  rintro e w13 ⟨rfl, h13⟩
  have E_13 := hid (below_trans E_12.out h13 E_12.out.size)
  have T_13 := hid (below_trans T_12.out h13 T_12.out.size)
  have M_13 := hid h13
  have HB0_13 := hid ((h13.block (w.heap.size) (block_lt HB0_12.out)).trans HB0_12.out)
  clear h13
  go_wp2_with (refine wpList_load_row rfl 26 _ rfl (w.heap.size) rfl 26 (bcells a0) (0, 0) _ HB0_13.out Try.underlying26 rfl HS0.out ?_)
  refine (c_toBlind a0 _).mono ?_
  rintro e w14 ⟨rfl, h14⟩
  have E_14 := hid (below_trans E_13.out h14 E_13.out.size)
  have T_14 := hid (below_trans T_13.out h14 T_13.out.size)
  have M_14 := hid (below_trans M_13.out h14 M_13.out.size)
  have HB0_14 := hid ((h14.block (w.heap.size) (block_lt HB0_13.out)).trans HB0_13.out)
  clear h14
  go_wp2_with (refine wpList_load_row rfl 26 _ rfl (w.heap.size) rfl 26 (bcells a0) (0, 0) _ HB0_14.out Try.underlying26 rfl HS0.out ?_)
  refine (c_toSunS a1 n1 c1 P1 Q1 _ O1.out (X1.out.below E_14.out)).mono ?_
  rintro e w15 ⟨b15, rfl, o15, l15, h15⟩
  have L15E := hid (show w.heap.size ≤ b15 from Nat.le_trans E_14.out.size l15)
  have L15T := hid (show w3.heap.size ≤ b15 from Nat.le_trans T_14.out.size l15)
  have L15M := hid (show w12.heap.size ≤ b15 from Nat.le_trans M_14.out.size l15)
  have Y15_0 := hid (show w.heap.size < b15 from Nat.lt_of_lt_of_le (block_lt HB0_14.out) l15)
  have E_15 := hid (below_trans E_14.out h15 E_14.out.size)
  have T_15 := hid (below_trans T_14.out h15 T_14.out.size)
  have M_15 := hid (below_trans M_14.out h15 M_14.out.size)
  have HB0_15 := hid ((h15.block (w.heap.size) (block_lt HB0_14.out)).trans HB0_14.out)
  have R_15 := hid o15
  clear o15 l15 h15
  go_wp2_with (refine wpList_load_row rfl 26 _ rfl (w.heap.size) rfl 26 (bcells a0) (0, 0) _ HB0_15.out Try.underlying26 rfl HS0.out ?_)
  refine (c_implYearLight a0 B0.out _ n1 _ P1 Q1 a2 _ O1.out (R_15.out.rws HN1.out)).mono ?_
  rintro e w16 ⟨⟨v2, rfl, vr⟩, h16⟩
  have E_16 := hid (below_trans E_15.out h16 E_15.out.size)
  have T_16 := hid (below_trans T_15.out h16 T_15.out.size)
  have M_16 := hid (below_trans M_15.out h16 M_15.out.size)
  have R_16 := hid (R_15.out.below h16)
  have HB0_16 := hid ((h16.block (w.heap.size) (block_lt HB0_15.out)).trans HB0_15.out)
  have G16 := hid (GotF.owns vr (by have := HL.out; omega))
  clear vr h16
  go_wp2_with (refine wpList_load_row rfl 26 _ rfl (w.heap.size) rfl 26 (bcells a0) (0, 0) _ HB0_16.out Try.underlying26 rfl HS0.out ?_)
  refine (c_eqF _ _ (ylL a0 P1 Q1 n1 a2) _ (GotF.reads (lo := w15.heap.size) G16.out.1 (by have := HL.out; omega) (ylL_word B0.out P1 Q1 n1 a2)) (U.out.below T_16.out)).mono ?_
  rintro e w17 ⟨rfl, h17⟩
  have E_17 := hid (below_trans E_16.out h17 E_16.out.size)
  have T_17 := hid (below_trans T_16.out h17 T_16.out.size)
  have M_17 := hid (below_trans M_16.out h17 M_16.out.size)
  have G_17 := hid (G16.out.below h17)
  have HB0_17 := hid ((h17.block (w.heap.size) (block_lt HB0_16.out)).trans HB0_16.out)
  clear h17
  go_wp2_with (refine wpList_load_row rfl 26 _ rfl (w.heap.size) rfl 26 (bcells a0) (0, 0) _ HB0_17.out Try.underlying26 rfl HS0.out ?_)
  refine (c_heldFloat32S _ _ (ylL a0 P1 Q1 n1 a2).length 1 (HD.out.below M_17.out) (by omega) _ rfl).mono ?_
  rintro e w18 ⟨rfl, h18⟩
  have E_18 := hid (below_trans E_17.out h18 E_17.out.size)
  have T_18 := hid (below_trans T_17.out h18 T_17.out.size)
  have M_18 := hid (below_trans M_17.out h18 M_17.out.size)
  have HB0_18 := hid ((h18.block (w.heap.size) (block_lt HB0_17.out)).trans HB0_17.out)
  clear h18
  go_wp2
  go_ret
  exact ⟨rfl, E_18.out⟩

set_option maxRecDepth 100000 in
theorem lifted (os : Os) (started : os.Started) (H : Type) (enc : TypeId × Value → H) :
    ReturnsInHanded {} Try.checked os 13 .any (Rows.fnExactYearLightSpec.pre6 enc Try.prog Try.f13 Rows.fnExactYearLightRow.domain false) (Rows.fnExactYearLightSpec.post enc Try.prog Try.f13 false true false false) := by
  refine returnsInHanded_of_change (C := Try.checked) own started (by kernel_rfl) Try.func13
    (ChangeSpec.witness6 (enc := enc) (C := Try.checked) false ⟨#[], #[.agg #[.int .i8 0, .float .f32 0, .float .f32 0, .int .i16 0, .float .f32 0], .slice none 0 0, .int .i64 0], []⟩ 8 (by kernel_rfl) (by kernel_rfl) (by kernel_rfl) (by kernel_rfl)) ?_
  intro W base args ds gs before hval0 hW hcnd _
  have hval : ∀ (j : Nat) t v, Try.f13.params[j]? = some t → args[j]? = some v → Value.okWide Try.prog W .any base t v := hval0
  have hW' := hW
  obtain ⟨p, q, hA0, hV, rfl, hfz, hnd⟩ := hW
  have hA : DataW.TrodAll enc Try.prog W 0 (fun _ => true) true Try.f13.params.toList args.toList ds p := hA0
  rw [Try.params13] at hA hval
  obtain ⟨v0, vs0, d0, ds0, p0, q0, hargs, rfl, rfl, h0, r0⟩ := trodAll_cons hA
  obtain ⟨v1, vs1, d1, ds1, p1, q1, rfl, rfl, rfl, h1, r1⟩ := trodAll_cons r0
  obtain ⟨v2, vs2, d2, ds2, p2, q2, rfl, rfl, rfl, h2, r2⟩ := trodAll_cons r1
  obtain ⟨rfl, rfl, rfl⟩ := trodAll_nil r2
  obtain rfl : args = #[v0, v1, v2] := by cases args; simp_all
  obtain ⟨rfl, rfl⟩ := trodVars_none hV
  have k0 := h0
  have lt0 : ∀ x ∈ p0, x.block < W.heap.size := by obtain ⟨m, hm⟩ := k0; exact DataW.trod_lt m _ _ _ hm
  have k1 := h1
  have lt1 : ∀ x ∈ p1, x.block < W.heap.size := by obtain ⟨m, hm⟩ := k1; exact DataW.trod_lt m _ _ _ hm
  have k2 := h2
  have lt2 : ∀ x ∈ p2, x.block < W.heap.size := by obtain ⟨m, hm⟩ := k2; exact DataW.trod_lt m _ _ _ hm
  obtain ⟨c0, rfl, fa0⟩ := open_cells (a := [.i .i8, .f .f32, .f .f32, .i .i16, .f .f32]) 3 (by kernel_rfl) (by kernel_rfl) (hval 0 26 v0 rfl rfl) h0
  obtain ⟨a0, rfl, wa0⟩ := fits_blind fa0
  obtain ⟨a1, n1, c1, rows1, rfl, rr1⟩ := open_rows (ks := List.replicate 48 (.i .i16)) 4 Try.underlying70 (by kernel_rfl) (by decide) (by kernel_rfl) (hval 1 70 v1 rfl rfl) h1
  obtain ⟨P1, Q1, ok1, r1x⟩ := suns_of_rows rr1
  obtain ⟨a2, rfl, _, _, wa2⟩ := open_int Try.underlying2 (hval 2 2 v2 rfl rfl) h2
  clear hA0 hval0
  refine (walk a0 a1 n1 c1 P1 Q1 a2 W wa0 ok1 r1x (wf_i64 wa2)).mono fun e W' ⟨he, bel⟩ => ?_
  subst he
  exact ⟨_, rfl, _, _, _, [], _, [], hW', trodAll_mk1 (shut_bool Try.underlying4 _), (trodAll_cons_mk (Below.trod laidOut (by kernel_rfl) (of_decide_eq_true (by kernel_rfl)) k0 bel lt0) (trodAll_cons_mk (Below.trod laidOut (by kernel_rfl) (of_decide_eq_true (by kernel_rfl)) k1 bel lt1) (trodAll_cons_mk (Below.trod laidOut (by kernel_rfl) (of_decide_eq_true (by kernel_rfl)) k2 bel lt2) trodAll_mk0))), rfl, bel.frame _, fun h => by cases h⟩

theorem proved : Rows.FnExactYearLightSaid :=
  OpenClaim.holds_of_wide 13 Try.f13 rfl rfl rfl rfl rfl rfl rfl ⟨rfl, rfl, rfl, rfl, rfl⟩ rfl rfl rfl rfl rfl (by kernel_rfl) Try.func13 (by kernel_rfl)
    (of_decide_eq_true (by kernel_rfl)) (by unfold Func.isWrapper; first | (rw [if_pos (by decide +kernel)]; kernel_rfl) | (rw [if_neg (by decide +kernel)]; exact ⟨rfl, rfl⟩))
    (fun os started H enc _ => lifted os started H enc)
#print axioms proved
end Go.Proofs.Ythnffhmefgfnkaa.lawYearLight
