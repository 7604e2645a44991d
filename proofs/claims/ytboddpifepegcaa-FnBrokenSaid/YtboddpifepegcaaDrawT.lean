/- Parts and lengths that are drawn. -/
import Derived.Test.YtboddpifepegcaaDraw
import Derived.Test.YtboddpifepegcaaLight
import Derived.Test.YtboddpifepegcaaShine
namespace Go.Proofs.Ytboddpifepegcaa
set_option maxRecDepth 20000
open Go.RowKit

theorem P149 : (0 : Int) < 2 ^ 149 := Int.pow_pos (by omega)
/-- A quotient of whole numbers. -/
theorem quo_in {f d A : Nat} {z m c : Int} (hf : IsI f z) (hd : isFin d = true) (hv : fx d = m * 2 ^ 149) (hm : 0 < m) (hA : A < 2139095040) (hc : (magOf A : Int) = c * 2 ^ 149) (h0 : 0 ≤ z) (h1 : z ≤ c * m) : In0 (fdiv f d) A := by
  have hp := P149
  have q := (div_fin hf.fin hd (by rw [hv]; exact Int.mul_pos hm hp)).2
  refine In0.of_nearQ q hA (by rw [hf.val]; exact Int.mul_nonneg h0 (Int.le_of_lt hp)) ?_
  rw [hc, hf.val, hv]
  generalize (2 : Int) ^ 149 = P at *
  have a1 : z * P ≤ (c * m) * P := Int.mul_le_mul_of_nonneg_right h1 (Int.le_of_lt hp)
  have a2 := Int.mul_le_mul_of_nonneg_right a1 (Int.le_of_lt hp)
  have e : c * P * (m * P) = c * m * P * P := by
    rw [Int.mul_assoc c P, ← Int.mul_assoc P m P, Int.mul_comm P m, ← Int.mul_assoc, ← Int.mul_assoc]
  rw [e]; exact a2
theorem unit_in {f d : Nat} {z m : Int} (hf : IsI f z) (hd : isFin d = true) (hv : fx d = m * 2 ^ 149) (hm : 0 < m) (h0 : 0 ≤ z) (h1 : z ≤ m) : In0 (fdiv f d) W1 :=
  quo_in (c := 1) hf hd hv hm (by decide) (by rw [mag_W1]; omega) h0 (by omega)
theorem fx_16 : fx 1098907648 = 16 * 2 ^ 149 := by decide +kernel
theorem fx_1000 : fx 1148846080 = 1000 * 2 ^ 149 := by decide +kernel
theorem fx_21 : fx 1241513984 = 2097152 * 2 ^ 149 := by decide +kernel
theorem fx_WL : fx WL = 2 ^ 145 := by decide +kernel
theorem fx_W64' : fx W64 = 64 * 2 ^ 149 := by decide +kernel
theorem mag_W64 : (magOf W64 : Int) = 64 * 2 ^ 149 := by decide +kernel
theorem mag_W8 : (magOf 1090519040 : Int) = 8 * 2 ^ 149 := by decide +kernel
theorem in_part {x : Nat} (h : In0 x W1) : isPart x = true := by
  have hl := h.le
  rw [mag_W1] at hl
  unfold isPart
  rw [fGe_fin h.fin (by decide), fLe_fin h.fin (by decide), fx_0, show fx 1065353216 = 2 ^ 149 from fx_W1, Bool.and_eq_true, decide_eq_true_eq, decide_eq_true_eq]
  exact ⟨h.ge, hl⟩
theorem len_of {x : Nat} (hf : isFin x = true) (h1 : (2 : Int) ^ 145 ≤ fx x) (h2 : fx x ≤ 64 * 2 ^ 149) : isLen x = true := by
  unfold isLen
  rw [fGe_fin hf (by decide), fLe_fin hf (by decide), fx_WL, fx_W64', Bool.and_eq_true, decide_eq_true_eq, decide_eq_true_eq]
  exact ⟨h1, h2⟩
theorem c_one (w : World) (b K : Nat) (a : Option Addr) (n ca : Nat) (m : Nat) (hm : 2 ≤ m) (hm2 : m ≤ 70000) (hK : K ≤ 900000) (h : Src w b K a n ca) :
    Calls Try.prog 108 #[.pointer (some ⟨b, 0, none⟩), .int .i64 (m : Int)] w fun e w' => (∃ x : Bool, e = .returned (.bool x)) ∧ Src w' b (K + 2) a n ca ∧ Only b w w' := by
  have C1 := hid (c_pick w b K a n ca m hm hm2 hK h)
  clear h
  go_enter Try.func108, Try.ntmps108
  go_wp2_with fail
  refine C1.out.mono ?_
  rintro e w1 ⟨⟨x, hx, rfl⟩, s1, o1⟩
  have S1 := hid s1
  have D1 := hid o1
  clear hx s1 o1 C1
  go_wp2
  go_ret
  exact ⟨⟨_, rfl⟩, S1.out, D1.out⟩
set_option maxHeartbeats 1000000 in
theorem c_tone (w : World) (b K : Nat) (a : Option Addr) (n ca : Nat) (hK : K ≤ 700000) (h : Src w b K a n ca) :
    Calls Try.prog 40 #[.pointer (some ⟨b, 0, none⟩)] w fun e w' => (∃ x, In0 x W1 ∧ e = .returned (.float .f32 x)) ∧ Src w' b (K + 6) a n ca ∧ Only b w w' := by
  have C1 := hid (c_pick w b K a n ca 4 (by omega) (by omega) (by omega) h)
  have C17 := hid (fun w2 h2 => c_pick w2 b (K + 2) a n ca 17 (by omega) (by omega) (by omega) h2)
  have C1001 := hid (fun w2 h2 => c_pick w2 b (K + 2) a n ca 1001 (by omega) (by omega) (by omega) h2)
  have CR := hid (fun w2 h2 => c_l01Raw w2 b (K + 2) a n ca (by omega) h2)
  clear h
  go_enter Try.func40, Try.ntmps40
  go_wp2_with fail
  refine C1.out.mono ?_
  rintro e w1 ⟨⟨k, hk, rfl⟩, s1, o1⟩
  have S1 := hid s1
  have O1 := hid o1
  clear s1 o1 C1
  by_cases k0 : k = 0
  · subst k0
    go_wp2_with fail
    refine (C17.out _ S1.out).mono ?_
    rintro e w2 ⟨⟨x, hx, rfl⟩, s2, o2⟩
    have S2 := hid (s2.mono (L := K + 6) (by omega))
    have O2 := hid (O1.out.trans o2)
    have I := isI_foi (n := (x : Int)) (by omega)
    have AA := hid (unit_in I (d := 1098907648) (by decide) fx_16 (by omega) (by omega) (by omega))
    have q1 := fun w => run_quo' (T := 27) (y := 1098907648) I.fin (by decide) (by decide +kernel) w
    clear s2 o2 I C17 C1001 CR
    generalize hf : floatOfInt .f32 (x : Int) = f at *
    go_wp2
    go_ret
    exact ⟨⟨_, AA.out, rfl⟩, S2.out, O2.out⟩
  · by_cases k1 : k = 1
    · subst k1
      go_wp2_with fail
      refine (C1001.out _ S1.out).mono ?_
      rintro e w2 ⟨⟨x, hx, rfl⟩, s2, o2⟩
      have S2 := hid (s2.mono (L := K + 6) (by omega))
      have O2 := hid (O1.out.trans o2)
      have I := isI_foi (n := (x : Int)) (by omega)
      have AA := hid (unit_in I (d := 1148846080) (by decide) fx_1000 (by omega) (by omega) (by omega))
      have q1 := fun w => run_quo' (T := 27) (y := 1148846080) I.fin (by decide) (by decide +kernel) w
      clear s2 o2 I C17 C1001 CR
      generalize hf : floatOfInt .f32 (x : Int) = f at *
      go_wp2
      go_ret
      exact ⟨⟨_, AA.out, rfl⟩, S2.out, O2.out⟩
    · have k0' : ¬ (k : Int) = 0 := by omega
      have k1' : ¬ (k : Int) = 1 := by omega
      have e0 : ((k : Int) == 0) = false := by rw [beq_eq_false_iff_ne]; exact k0'
      have e1 : ((k : Int) == 1) = false := by rw [beq_eq_false_iff_ne]; exact k1'
      clear k0 k1 hk
      go_wp2_with fail
      refine (CR.out _ S1.out).mono ?_
      rintro e w2 ⟨⟨x, hx, rfl⟩, s2, o2⟩
      have S2 := hid s2
      have O2 := hid (O1.out.trans o2)
      have I := isI_foi (n := (x : Int) / 256) (by omega)
      have AA := hid (unit_in I (d := 1266679808) (by decide) fx_24 (by omega) (by omega) (by omega))
      have q1 := fun w => run_quo' (T := 27) (y := 1266679808) I.fin (by decide) (by decide +kernel) w
      clear s2 o2 I C17 C1001 CR
      generalize hf : floatOfInt .f32 ((x : Int) / 256) = f at *
      go_wp2
      go_ret
      exact ⟨⟨_, AA.out, rfl⟩, S2.out, O2.out⟩
theorem sized_low {f : Nat} {z : Int} (hf : IsI f z) (h : 1 ≤ z ∧ z ≤ 64) : isLen (fdiv f 1098907648) = true ∧ fdiv f 1098907648 < 4294967296 := by
  have hp := P149
  have q := (div_fin (y := 1098907648) hf.fin (by decide) (by rw [fx_16]; exact Int.mul_pos (by omega) hp)).2
  have u := quo_in (A := W64) (c := 64) hf (by decide) fx_16 (by omega) (by decide) mag_W64 (by omega) (by omega)
  have g := q.ge WL (by unfold isOrd WL; omega) (by
    rw [fx_WL, fx_16, hf.val, show (2 : Int) ^ 145 * (16 * 2 ^ 149) = 1 * 2 ^ 149 * 2 ^ 149 by decide +kernel]
    exact Int.mul_le_mul_of_nonneg_right (Int.mul_le_mul_of_nonneg_right h.1 (Int.le_of_lt hp)) (Int.le_of_lt hp))
  rw [fx_WL] at g
  have l := u.le
  rw [mag_W64] at l
  exact ⟨len_of u.fin g l, u.word⟩
theorem sized_high {f : Nat} {z : Int} (hf : IsI f z) (h : 0 ≤ z ∧ z ≤ 16777216) : isLen (fadd 1031798784 (fdiv f 1241513984)) = true ∧ fadd 1031798784 (fdiv f 1241513984) < 4294967296 := by
  have hp := P149
  have u := quo_in (A := 1090519040) (c := 8) hf (by decide) fx_21 (by omega) (by decide) mag_W8 (by omega) (by omega)
  have n := (add_fin (x := 1031798784) (y := fdiv f 1241513984) (by decide) u.fin).2
  have l := u.le
  rw [mag_W8] at l
  have ge := u.ge
  have s := In0.of_near n (A := W64) (by decide) (by rw [show fx 1031798784 = 2 ^ 145 from fx_WL]; have : (0 : Int) < 2 ^ 145 := Int.pow_pos (by omega); omega) (by
    rw [mag_W64, show fx 1031798784 = 2 ^ 145 from fx_WL]
    have : (2 : Int) ^ 145 ≤ 2 ^ 149 := by decide +kernel
    omega)
  have g := n.ge WL (by unfold isOrd WL; omega) (by
    rw [show fx 1031798784 = fx WL from rfl]; omega)
  rw [fx_WL] at g
  have sl := s.le
  rw [mag_W64] at sl
  exact ⟨len_of s.fin g sl, s.word⟩
set_option maxHeartbeats 1000000 in
theorem c_l02Sized (w : World) (b K : Nat) (a : Option Addr) (n ca : Nat) (hK : K ≤ 700000) (h : Src w b K a n ca) :
    Calls Try.prog 94 #[.pointer (some ⟨b, 0, none⟩)] w fun e w' => (∃ x, x < 4294967296 ∧ isLen x = true ∧ e = .returned (.float .f32 x)) ∧ Src w' b (K + 6) a n ca ∧ Only b w w' := by
  have C1 := hid (c_one w b K a n ca 3 (by omega) (by omega) (by omega) h)
  have C64 := hid (fun w2 h2 => c_pick w2 b (K + 2) a n ca 64 (by omega) (by omega) (by omega) h2)
  have CR := hid (fun w2 h2 => c_l01Raw w2 b (K + 2) a n ca (by omega) h2)
  clear h
  go_enter Try.func94, Try.ntmps94
  go_wp2_with fail
  refine C1.out.mono ?_
  rintro e w1 ⟨⟨k, rfl⟩, s1, o1⟩
  have S1 := hid s1
  have O1 := hid o1
  clear s1 o1 C1
  cases k
  · go_wp2_with fail
    refine (CR.out _ S1.out).mono ?_
    rintro e w2 ⟨⟨x, hx, rfl⟩, s2, o2⟩
    have S2 := hid s2
    have O2 := hid (O1.out.trans o2)
    have I := isI_foi (n := (x : Int) / 256) (by omega)
    have AA := hid (sized_high I (by omega))
    have u := quo_in (A := 1090519040) (c := 8) I (by decide) fx_21 (by omega) (by decide) mag_W8 (by omega) (by omega)
    have q1 := fun w => run_quo' (T := 27) (y := 1241513984) I.fin (by decide) (by decide +kernel) w
    have q2 := fun w => run_add (T := 27) (x := 1031798784) (by decide) u.fin w
    clear s2 o2 I u C64 CR
    generalize hf : floatOfInt .f32 ((x : Int) / 256) = f at *
    go_wp2
    go_ret
    exact ⟨⟨_, AA.out.2, AA.out.1, rfl⟩, S2.out, O2.out⟩
  · go_wp2_with fail
    refine (C64.out _ S1.out).mono ?_
    rintro e w2 ⟨⟨x, hx, rfl⟩, s2, o2⟩
    have S2 := hid (s2.mono (L := K + 6) (by omega))
    have O2 := hid (O1.out.trans o2)
    have I := isI_foi (n := 1 + (x : Int)) (by omega)
    have AA := hid (sized_low I (by omega))
    have q1 := fun w => run_quo' (T := 27) (y := 1098907648) I.fin (by decide) (by decide +kernel) w
    clear s2 o2 I C64 CR
    generalize hf : floatOfInt .f32 (1 + (x : Int)) = f at *
    go_wp2
    go_ret
    exact ⟨⟨_, AA.out.2, AA.out.1, rfl⟩, S2.out, O2.out⟩
end Go.Proofs.Ytboddpifepegcaa
