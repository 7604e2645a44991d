/- FnExactBestMonth returns true for all arguments: for each blind, each slice of suns and each number the program's BestMonth and the reference's return the same, and the program leaves its arguments as they were. No condition. -/
import Derived.Test.YthnffhmefgfnkaaYearL
import Derived.Test.YthnffhmefgfnkaaMarks
import Derived.Test.YthnffhmefgfnkaaTail
import Derived.Test.YthnffhmefgfnkaaLift
namespace Go.Proofs.Ythnffhmefgfnkaa.lawBestMonth
set_option maxRecDepth 20000
open Go.ChangeShapes Go.WideShapes Go.ChangeAt Go.RowKit Go.Proofs.Ythnffhmefgfnkaa

theorem box_kept {w w2 : World} {b : Nat} {C : Array Value} {T : TypeId} {r : Option Nat} (h : w.heap[b]? = some (.cells C T (0, 0))) (hg : w.grownBy w2 r) (hne : r ≠ some b) : w2.heap[b]? = some (.cells C T (0, 0)) := (hg.block b (block_lt h) (fun e => hne e.symm)).trans h
set_option maxHeartbeats 4000000 in
theorem walk (a0 : Bld) (a1 : Option Addr) (n1 c1 : Nat) (P1 Q1 : Nat → List Int) (a2 : Int) (w : World) (b0 : WfB a0) (o1 : SunsOk P1 Q1 n1) (r1 : RwsAny w a1 n1 48 (scs P1 Q1)) (x2 : -9223372036854775808 ≤ a2 ∧ a2 ≤ 9223372036854775807) :
    Calls Try.prog 10 #[.agg (bcells a0), .slice a1 n1 c1, .int .i64 a2] w fun e w' => e = .returned (.bool true) ∧ Below w.heap.size w w' := by
  have hs0 : (Try.prog.info? 26).map (·.size) = some (bcells a0).size := by kernel_rfl
  have hB0 : (w.alloc (.cells (bcells a0) 26)).heap[w.heap.size]? = some (.cells (bcells a0) 26 (0, 0)) := blk_at _ _ _ rfl
  have h0 : Below w.heap.size w (w.alloc (.cells (bcells a0) 26)) := ((Below.refl _ _).alloc (Nat.le_refl _) _)
  have B0 := hid b0
  have O1 := hid o1
  have R1 := hid r1
  have X2 := hid x2
  have HS0 := hid hs0
  have HB0 := hid hB0
  have H0 := hid h0
  clear b0 o1 r1 x2 hs0 hB0 h0
  by_cases hn1 : n1 ≤ 1048576
  case neg =>
    have hm := R1.out.small
    go_enter Try.func10, Try.ntmps10
    go_wp2_with fail
    refine (c_szSunS_no _ _ _ hn1 hm _).mono ?_
    rintro e w' ⟨rfl, rfl⟩
    go_wp2
    go_ret
    exact ⟨rfl, H0.out⟩
  have X1 := hid (R1.out.rws hn1)
  have HN1 := hid hn1
  clear R1
  go_enter Try.func10, Try.ntmps10
  go_wp2_with fail
  refine (c_szSunS _ _ _ hn1 _).mono ?_
  rintro e w' ⟨rfl, rfl⟩
  have hl1 : (0 : Int) ≤ 1048576 - (n1 : Int) := by omega
  go_wp2_with (refine wpList_load_row rfl 26 _ rfl (w.heap.size) rfl 26 (bcells a0) (0, 0) _ HB0.out Try.underlying26 rfl HS0.out ?_)
  refine (c_toBlind a0 _).mono ?_
  rintro e w1 ⟨rfl, h1⟩
  have E_1 := hid (below_trans H0.out h1 H0.out.size)
  have HB0_1 := hid ((h1.block (w.heap.size) (block_lt HB0.out)).trans HB0.out)
  clear h1
  go_wp2_with (refine wpList_load_row rfl 26 _ rfl (w.heap.size) rfl 26 (bcells a0) (0, 0) _ HB0_1.out Try.underlying26 rfl HS0.out ?_)
  refine (c_toSunS a1 n1 c1 P1 Q1 _ O1.out (X1.out.below E_1.out)).mono ?_
  rintro e w2 ⟨b2, rfl, o2, l2, h2⟩
  have L2E := hid (show w.heap.size ≤ b2 from Nat.le_trans E_1.out.size l2)
  have Y2_0 := hid (show w.heap.size < b2 from Nat.lt_of_lt_of_le (block_lt HB0_1.out) l2)
  have E_2 := hid (below_trans E_1.out h2 E_1.out.size)
  have HB0_2 := hid ((h2.block (w.heap.size) (block_lt HB0_1.out)).trans HB0_1.out)
  have S_2 := hid o2
  clear o2 l2 h2
  go_wp2_with (refine wpList_load_row rfl 26 _ rfl (w.heap.size) rfl 26 (bcells a0) (0, 0) _ HB0_2.out Try.underlying26 rfl HS0.out ?_)
  refine (c_specBestMonth a0 B0.out _ n1 _ P1 Q1 a2 _ O1.out (S_2.out.rws HN1.out)).mono ?_
  rintro e w3 ⟨rfl, h3⟩
  have E_3 := hid (below_trans E_2.out h3 E_2.out.size)
  have S_3 := hid (S_2.out.below h3)
  have HB0_3 := hid ((h3.block (w.heap.size) (block_lt HB0_2.out)).trans HB0_2.out)
  clear h3
  go_wp2_with (refine wpList_load_row rfl 26 _ rfl (w.heap.size) rfl 26 (bcells a0) (0, 0) _ HB0_3.out Try.underlying26 rfl HS0.out ?_)
  refine (c_toSunS a1 n1 c1 P1 Q1 _ O1.out (X1.out.below E_3.out)).mono ?_
  rintro e w4 ⟨b4, rfl, o4, l4, h4⟩
  have L4E := hid (show w.heap.size ≤ b4 from Nat.le_trans E_3.out.size l4)
  have Y4_0 := hid (show w.heap.size < b4 from Nat.lt_of_lt_of_le (block_lt HB0_3.out) l4)
  have E_4 := hid (below_trans E_3.out h4 E_3.out.size)
  have HB0_4 := hid ((h4.block (w.heap.size) (block_lt HB0_3.out)).trans HB0_3.out)
  have P_4 := hid o4
  clear o4 l4 h4
  go_wp2_with (refine wpList_load_row rfl 26 _ rfl (w.heap.size) rfl 26 (bcells a0) (0, 0) _ HB0_4.out Try.underlying26 rfl HS0.out ?_)
  refine (c_toBlind a0 _).mono ?_
  rintro e w5 ⟨rfl, h5⟩
  have E_5 := hid (below_trans E_4.out h5 E_4.out.size)
  have P_5 := hid (P_4.out.below h5)
  have HB0_5 := hid ((h5.block (w.heap.size) (block_lt HB0_4.out)).trans HB0_4.out)
  clear h5
  go_wp2_with (refine wpList_load_row rfl 26 _ rfl (w.heap.size) rfl 26 (bcells a0) (0, 0) _ HB0_5.out Try.underlying26 rfl HS0.out ?_)
  refine (c_implBestMonth a0 B0.out _ n1 _ P1 Q1 a2 _ O1.out (P_5.out.rws HN1.out)).mono ?_
  rintro e w6 ⟨rfl, h6⟩
  have E_6 := hid (below_trans E_5.out h6 E_5.out.size)
  have P_6 := hid (P_5.out.below h6)
  have HB0_6 := hid ((h6.block (w.heap.size) (block_lt HB0_5.out)).trans HB0_5.out)
  clear h6
  have hf := hid (fin_bmV B0.out P1 Q1 n1 a2)
  have hc := run_toD hf.out
  have hz := hid (finDZero hf.out)
  have hq := same64_self hf.out
  go_wp2_with (go_at_call 30; refine (c_sameFloat _ _ hz.out hz.out _).mono ?_; rintro e wq ⟨rfl, rfl⟩)
  clear hc hq
  go_wp2_with (refine wpList_load_row rfl 26 _ rfl (w.heap.size) rfl 26 (bcells a0) (0, 0) _ HB0_6.out Try.underlying26 rfl HS0.out ?_)
  refine (c_toSunS a1 n1 c1 P1 Q1 _ O1.out (X1.out.below E_6.out)).mono ?_
  rintro e w7 ⟨b7, rfl, o7, l7, h7⟩
  have L7E := hid (show w.heap.size ≤ b7 from Nat.le_trans E_6.out.size l7)
  have Y7_0 := hid (show w.heap.size < b7 from Nat.lt_of_lt_of_le (block_lt HB0_6.out) l7)
  have E_7 := hid (below_trans E_6.out h7 E_6.out.size)
  have P_7 := hid (P_6.out.below h7)
  have HB0_7 := hid ((h7.block (w.heap.size) (block_lt HB0_6.out)).trans HB0_6.out)
  have Q_7 := hid o7
  clear o7 l7 h7
  go_wp2_with (refine wpList_load_row rfl 26 _ rfl (w.heap.size) rfl 26 (bcells a0) (0, 0) _ HB0_7.out Try.underlying26 rfl HS0.out ?_)
  refine (c_eqSunS _ _ n1 _ _ P1 Q1 _ O1.out (P_7.out.rws HN1.out) (Q_7.out.rws HN1.out)).mono ?_
  rintro e w8 ⟨rfl, h8⟩
  have E_8 := hid (below_trans E_7.out h8 E_7.out.size)
  have P_8 := hid (P_7.out.below h8)
  have Q_8 := hid (Q_7.out.below h8)
  have HB0_8 := hid ((h8.block (w.heap.size) (block_lt HB0_7.out)).trans HB0_7.out)
  clear h8
  go_wp2
  go_ret
  exact ⟨rfl, E_8.out⟩

set_option maxRecDepth 100000 in
theorem lifted (os : Os) (started : os.Started) (H : Type) (enc : TypeId × Value → H) :
    ReturnsInHanded {} Try.checked os 10 .any (Rows.fnExactBestMonthSpec.pre6 enc Try.prog Try.f10 Rows.fnExactBestMonthRow.domain false) (Rows.fnExactBestMonthSpec.post enc Try.prog Try.f10 false true false false) := by
  refine returnsInHanded_of_change (C := Try.checked) own started (by kernel_rfl) Try.func10
    (ChangeSpec.witness6 (enc := enc) (C := Try.checked) false ⟨#[], #[.agg #[.int .i8 0, .float .f32 0, .float .f32 0, .int .i16 0, .float .f32 0], .slice none 0 0, .int .i64 0], []⟩ 8 (by kernel_rfl) (by kernel_rfl) (by kernel_rfl) (by kernel_rfl)) ?_
  intro W base args ds gs before hval0 hW hcnd _
  have hval : ∀ (j : Nat) t v, Try.f10.params[j]? = some t → args[j]? = some v → Value.okWide Try.prog W .any base t v := hval0
  have hW' := hW
  obtain ⟨p, q, hA0, hV, rfl, hfz, hnd⟩ := hW
  have hA : DataW.TrodAll enc Try.prog W 0 (fun _ => true) true Try.f10.params.toList args.toList ds p := hA0
  rw [Try.params10] at hA hval
  obtain ⟨v0, vs0, d0, ds0, p0, q0, hargs, rfl, rfl, h0, r0⟩ := trodAll_cons hA
  obtain ⟨v1, vs1, d1, ds1, p1, q1, rfl, rfl, rfl, h1, r1⟩ := trodAll_cons r0
  obtain ⟨v2, vs2, d2, ds2, p2, q2, rfl, rfl, rfl, h2, r2⟩ := trodAll_cons r1
  obtain ⟨rfl, rfl, rfl⟩ := trodAll_nil r2
  obtain rfl : args = #[v0, v1, v2] := by cases args; simp_all
  obtain ⟨rfl, rfl⟩ := trodVars_none hV
  have k0 := h0
  have lt0 : ∀ x ∈ p0, x.block < W.heap.size := by obtain ⟨m, hm⟩ := k0; exact DataW.trod_lt m _ _ _ hm
  have k1 := h1
  have lt1 : ∀ x ∈ p1, x.block < W.heap.size := by obtain ⟨m, hm⟩ := k1; exact DataW.trod_lt m _ _ _ hm
  have k2 := h2
  have lt2 : ∀ x ∈ p2, x.block < W.heap.size := by obtain ⟨m, hm⟩ := k2; exact DataW.trod_lt m _ _ _ hm
  obtain ⟨c0, rfl, fa0⟩ := open_cells (a := [.i .i8, .f .f32, .f .f32, .i .i16, .f .f32]) 3 (by kernel_rfl) (by kernel_rfl) (hval 0 26 v0 rfl rfl) h0
  obtain ⟨a0, rfl, wa0⟩ := fits_blind fa0
  obtain ⟨a1, n1, c1, rows1, rfl, rr1⟩ := open_rows (ks := List.replicate 48 (.i .i16)) 4 Try.underlying70 (by kernel_rfl) (by decide) (by kernel_rfl) (hval 1 70 v1 rfl rfl) h1
  obtain ⟨P1, Q1, ok1, r1x⟩ := suns_of_rows rr1
  obtain ⟨a2, rfl, _, _, wa2⟩ := open_int Try.underlying2 (hval 2 2 v2 rfl rfl) h2
  clear hA0 hval0
  refine (walk a0 a1 n1 c1 P1 Q1 a2 W wa0 ok1 r1x (wf_i64 wa2)).mono fun e W' ⟨he, bel⟩ => ?_
  subst he
  exact ⟨_, rfl, _, _, _, [], _, [], hW', trodAll_mk1 (shut_bool Try.underlying4 _), (trodAll_cons_mk (Below.trod laidOut (by kernel_rfl) (of_decide_eq_true (by kernel_rfl)) k0 bel lt0) (trodAll_cons_mk (Below.trod laidOut (by kernel_rfl) (of_decide_eq_true (by kernel_rfl)) k1 bel lt1) (trodAll_cons_mk (Below.trod laidOut (by kernel_rfl) (of_decide_eq_true (by kernel_rfl)) k2 bel lt2) trodAll_mk0))), rfl, bel.frame _, fun h => by cases h⟩

theorem proved : Rows.FnExactBestMonthSaid :=
  OpenClaim.holds_of_wide 10 Try.f10 rfl rfl rfl rfl rfl rfl rfl ⟨rfl, rfl, rfl, rfl, rfl⟩ rfl rfl rfl rfl rfl (by kernel_rfl) Try.func10 (by kernel_rfl)
    (of_decide_eq_true (by kernel_rfl)) (by unfold Func.isWrapper; first | (rw [if_pos (by decide +kernel)]; kernel_rfl) | (rw [if_neg (by decide +kernel)]; exact ⟨rfl, rfl⟩))
    (fun os started H enc _ => lifted os started H enc)
#print axioms proved
end Go.Proofs.Ythnffhmefgfnkaa.lawBestMonth
