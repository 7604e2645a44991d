/- Plain numbers drawn. -/
import Derived.Test.YtboddpifepegcaaSrc
import Derived.Test.YtboddpifepegcaaExact
import Derived.Test.YtboddpifepegcaaDiv
namespace Go.Proofs.Ytboddpifepegcaa
set_option maxRecDepth 20000
open Go.RowKit

theorem isI_nearest {n : Int} (h : -16777216 ≤ n ∧ n ≤ 16777216) : IsI (FloatKind.f32.nearest n) n := by
  have hw := write_between (decide (n < 0)) n.natAbs 0 0 (n * 2 ^ 149) (by omega) (by
    unfold valAt
    rw [show ((0 : Int) - (-149 - ((0 : Nat) : Int))).toNat = 149 by omega, signed_natAbs n _ (fun _ => rfl)])
  have e : FloatKind.f32.nearest n = Ieee.single.nearest (decide (n < 0)) n.natAbs 0 := rfl
  rw [e]
  exact isI_near ⟨hw.1, hw.2.1, hw.2.2.1, hw.2.2.2⟩ rfl h
theorem magOf_PW : (magOf PW : Int) = 1048576 * 2 ^ 149 := by decide +kernel
theorem IsI.abs {x : Nat} {z : Int} (h : IsI x z) (hz : -1048576 ≤ z ∧ z ≤ 1048576) : AbsLe x PW := by
  have hp : (0 : Int) < 2 ^ 149 := Int.pow_pos (by omega)
  refine ⟨h.word, h.fin, by decide, ?_, ?_⟩
  · rw [h.val, magOf_PW]; exact Int.mul_le_mul_of_nonneg_right hz.2 (Int.le_of_lt hp)
  · rw [h.val, magOf_PW, ← Int.neg_mul]; exact Int.mul_le_mul_of_nonneg_right hz.1 (Int.le_of_lt hp)
theorem abs_plain {x : Nat} (h : AbsLe x PW) : isPlain x = true := by
  have e1 : Ieee.single.order x 3380609024 = some (compare (fx x) (fx 3380609024)) := order_fin h.fin (by decide)
  have e2 : Ieee.single.order x 1233125376 = some (compare (fx x) (fx 1233125376)) := order_fin h.fin (by decide)
  have f1 : fx 3380609024 = -(magOf PW : Int) := fx_flip (A := 1233125376) (by omega)
  have f2 : fx 1233125376 = (magOf PW : Int) := fx_pos (by omega)
  have l1 := h.le
  have l2 := h.ge
  simp only [isPlain, fGe, fLe, Bool.and_eq_true, Bool.or_eq_true, beq_iff_eq]
  refine ⟨?_, ?_⟩
  · show Ieee.single.order x 3380609024 = some .gt ∨ Ieee.single.order x 3380609024 = some .eq
    rw [e1, f1]
    simp only [Option.some.injEq, cmp_gt, cmp_eq]; omega
  · show Ieee.single.order x 1233125376 = some .lt ∨ Ieee.single.order x 1233125376 = some .eq
    rw [e2, f2]
    simp only [Option.some.injEq, cmp_lt, cmp_eq]; omega
/-- A number that is drawn: a word that is plain. -/
structure Drawn (x : Nat) : Prop where
  word : x < 4294967296
  pl : isPlain x = true
theorem Drawn.of {x : Nat} (h : AbsLe x PW) : Drawn x := ⟨h.word, abs_plain h⟩
theorem isI_foi {n : Int} (h : -16777216 ≤ n ∧ n ≤ 16777216) : IsI (floatOfInt .f32 n) n := isI_nearest h
theorem run_quo' {T : TypeId} {x y : Nat} (hx : isFin x = true) (hy : isFin y = true) (h : 0 < fx y) (w : World) : (binOp .quo T (.float .f32 x) (.float .f32 y)).run Try.prog w = .ok (.float .f32 (fdiv x y)) w :=
  run_float_arith w .quo T .f32 x y _ (div_fin hx hy h).1
theorem u32_nat (x : Int) : ∃ r : Nat, IntKind.u32.wrap x = (r : Int) ∧ r < 4294967296 := by
  rw [IntKind.wrap_u32]
  exact ⟨(x % 4294967296).toNat, by omega, by omega⟩
theorem or_u32 (a b : Int) : ∃ r : Nat, bits .or .u32 a b = (r : Int) ∧ r < 4294967296 := u32_nat _
set_option maxHeartbeats 1000000 in
theorem c_l01Raw (w : World) (b K : Nat) (a : Option Addr) (n ca : Nat) (hK : K ≤ 800000) (h : Src w b K a n ca) :
    Calls Try.prog 69 #[.pointer (some ⟨b, 0, none⟩)] w fun e w' => (∃ r : Nat, r < 4294967296 ∧ e = .returned (.int .u32 (r : Int))) ∧ Src w' b (K + 4) a n ca ∧ Only b w w' := by
  have C1 := hid (c_pick w b K a n ca 65536 (by omega) (by omega) (by omega) h)
  have C2 := hid (fun w2 h2 => c_pick w2 b (K + 2) a n ca 65536 (by omega) (by omega) (by omega) h2)
  clear h
  go_enter Try.func69, Try.ntmps69
  go_wp2_with fail
  refine C1.out.mono ?_
  rintro e w1 ⟨⟨x, hx, rfl⟩, s1, o1⟩
  have S1 := hid s1
  have O1 := hid o1
  clear s1 o1 C1
  go_wp2_with fail
  refine (C2.out _ S1.out).mono ?_
  rintro e w2 ⟨⟨y, hy, rfl⟩, s2, o2⟩
  have S2 := hid s2
  have O2 := hid (O1.out.trans o2)
  clear s2 o2 C2
  go_wp2
  go_ret
  obtain ⟨r, hr, hlt⟩ := or_u32 ((x : Int) * 65536) y
  exact ⟨⟨r, hlt, by rw [← hr]; rfl⟩, S2.out, O2.out⟩
theorem magOf_W1 : (magOf 1065353216 : Int) = 2 ^ 149 := by decide +kernel
theorem fx_24 : fx 1266679808 = 16777216 * 2 ^ 149 := by decide +kernel
theorem one_PW {x : Nat} (h : AbsLe x 1065353216) : AbsLe x PW := h.mono (by decide) (by decide)
theorem raw_abs {f : Nat} {z : Int} (h : IsI f z) (hz : 0 ≤ z ∧ z ≤ 16777216) : AbsLe (fdiv f 1266679808) 1065353216 := by
  have q := (div_fin h.fin (y := 1266679808) (by decide) (by rw [fx_24]; exact Int.mul_pos (by omega) (Int.pow_pos (by omega)))).2
  have hp : (0 : Int) < 2 ^ 149 := Int.pow_pos (by omega)
  refine AbsLe.of_nearQ q (by decide) ?_ ?_
  · rw [magOf_W1, h.val, fx_24]
    generalize (2 : Int) ^ 149 = P at *
    have a1 : z * P ≤ 16777216 * P := Int.mul_le_mul_of_nonneg_right hz.2 (Int.le_of_lt hp)
    have a2 := Int.mul_le_mul_of_nonneg_right a1 (Int.le_of_lt hp)
    rw [Int.mul_comm P (16777216 * P)]; exact a2
  · rw [magOf_W1, h.val, fx_24]
    generalize (2 : Int) ^ 149 = P at *
    have a1 : 0 ≤ z * P * P := Int.mul_nonneg (Int.mul_nonneg hz.1 (Int.le_of_lt hp)) (Int.le_of_lt hp)
    have a2 : 0 ≤ P * (16777216 * P) := Int.mul_nonneg (Int.le_of_lt hp) (Int.mul_nonneg (by omega) (Int.le_of_lt hp))
    omega
set_option maxHeartbeats 1000000 in
theorem c_l01Tone (w : World) (b K : Nat) (a : Option Addr) (n ca : Nat) (hK : K ≤ 700000) (h : Src w b K a n ca) :
    Calls Try.prog 40 #[.pointer (some ⟨b, 0, none⟩)] w fun e w' => (∃ x, Drawn x ∧ e = .returned (.float .f32 x)) ∧ Src w' b (K + 6) a n ca ∧ Only b w w' := by
  have C1 := hid (c_pick w b K a n ca 4 (by omega) (by omega) (by omega) h)
  have C17 := hid (fun w2 h2 => c_pick w2 b (K + 2) a n ca 17 (by omega) (by omega) (by omega) h2)
  have C1001 := hid (fun w2 h2 => c_pick w2 b (K + 2) a n ca 1001 (by omega) (by omega) (by omega) h2)
  have CR := hid (fun w2 h2 => c_l01Raw w2 b (K + 2) a n ca (by omega) h2)
  clear h
  go_enter Try.func40, Try.ntmps40
  go_wp2_with fail
  refine C1.out.mono ?_
  rintro e w1 ⟨⟨k, hk, rfl⟩, s1, o1⟩
  have S1 := hid s1
  have O1 := hid o1
  clear s1 o1 C1
  by_cases k0 : k = 0
  · subst k0
    go_wp2_with fail
    refine (C17.out _ S1.out).mono ?_
    rintro e w2 ⟨⟨x, hx, rfl⟩, s2, o2⟩
    have S2 := hid (s2.mono (L := K + 6) (by omega))
    have O2 := hid (O1.out.trans o2)
    have I := isI_foi (n := (x : Int)) (by omega)
    have A := I.abs (by omega)
    have Q := A.div (y := 1098907648) (by decide) (by decide +kernel)
    have q1 := fun w => run_quo' (T := 27) (y := 1098907648) A.fin (by decide) (by decide +kernel) w
    have AA := hid Q
    clear s2 o2 I A Q C17 C1001 CR
    generalize hf : floatOfInt .f32 (x : Int) = f at *
    go_wp2
    go_ret
    exact ⟨⟨_, Drawn.of AA.out, rfl⟩, S2.out, O2.out⟩
  · by_cases k1 : k = 1
    · subst k1
      go_wp2_with fail
      refine (C1001.out _ S1.out).mono ?_
      rintro e w2 ⟨⟨x, hx, rfl⟩, s2, o2⟩
      have S2 := hid (s2.mono (L := K + 6) (by omega))
      have O2 := hid (O1.out.trans o2)
      have I := isI_foi (n := (x : Int)) (by omega)
      have A := I.abs (by omega)
      have Q := A.div (y := 1148846080) (by decide) (by decide +kernel)
      have q1 := fun w => run_quo' (T := 27) (y := 1148846080) A.fin (by decide) (by decide +kernel) w
      have AA := hid Q
      clear s2 o2 I A Q C17 C1001 CR
      generalize hf : floatOfInt .f32 (x : Int) = f at *
      go_wp2
      go_ret
      exact ⟨⟨_, Drawn.of AA.out, rfl⟩, S2.out, O2.out⟩
    · have k0' : ¬ (k : Int) = 0 := by omega
      have k1' : ¬ (k : Int) = 1 := by omega
      have e0 : ((k : Int) == 0) = false := by rw [beq_eq_false_iff_ne]; exact k0'
      have e1 : ((k : Int) == 1) = false := by rw [beq_eq_false_iff_ne]; exact k1'
      clear k0 k1 hk
      go_wp2_with fail
      refine (CR.out _ S1.out).mono ?_
      rintro e w2 ⟨⟨x, hx, rfl⟩, s2, o2⟩
      have S2 := hid s2
      have O2 := hid (O1.out.trans o2)
      have I := isI_foi (n := (x : Int) / 256) (by omega)
      have A := raw_abs I (by omega)
      have q1 := fun w => run_quo' (T := 27) (y := 1266679808) I.fin (by decide) (by decide +kernel) w
      have AA := hid (one_PW A)
      clear s2 o2 I A C17 C1001 CR
      generalize hf : floatOfInt .f32 ((x : Int) / 256) = f at *
      go_wp2
      go_ret
      exact ⟨⟨_, Drawn.of AA.out, rfl⟩, S2.out, O2.out⟩
end Go.Proofs.Ytboddpifepegcaa
