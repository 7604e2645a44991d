/- Walks of sines, of the light that falls on a window, and of what a blind blocks, leaves open and lets pass. -/
import Derived.Test.YtboddpifepegcaaLight
import Derived.Test.YtboddpifepegcaaSumW
namespace Go.Proofs.Ytboddpifepegcaa
set_option maxRecDepth 20000
open Go.RowKit

theorem tmod256 (n : Int) : -255 ≤ n.tmod 256 ∧ n.tmod 256 ≤ 255 ∧ (n.tmod 256 + 256) % 256 = n % 256 := by
  have h1 := Int.mul_tdiv_add_tmod n 256
  have h2 : n.tmod 256 < 256 := Int.tmod_lt_of_pos n (by omega)
  have h3 : -256 < n.tmod 256 := by
    have := Int.tmod_lt_of_pos (-n) (show (0 : Int) < 256 by omega)
    rw [Int.neg_tmod] at this
    omega
  generalize n.tmod 256 = t at *
  generalize n.tdiv 256 = q at *
  omega
theorem run_quo {T : TypeId} {x y : Nat} (hx : isFin x = true) (hy : isFin y = true) (h : 0 < fx y) (w : World) : (binOp .quo T (.float .f32 x) (.float .f32 y)).run Try.prog w = .ok (.float .f32 (fdiv x y)) w :=
  run_float_arith w .quo T .f32 x y _ (div_fin hx hy h).1
theorem fx_W64 : 0 < fx W64 := by decide +kernel
theorem fx_W2p : 0 < fx W2 := by decide +kernel
def minF (x y : Nat) : Nat := if fLt x y then x else if fGt x y then y else if (FloatKind.f32.decode x).neg then x else y
theorem run_minF {x y : Nat} (hx : isFin x = true) (hy : isFin y = true) (ts : Array TypeId) (t : TypeId) (w : World) : (Builtin.min_ ts t #[.float .f32 x, .float .f32 y]).run Try.prog w = .ok (.float .f32 (minF x y)) w := by
  have e : FloatKind.f32.format.order x y = some (compare (fx x) (fx y)) := order_fin hx hy
  unfold Builtin.min_ minF fLt fGt
  simp only [List.foldlM_cons, List.foldlM_nil, Builtin.min2, e]
  rcases h : compare (fx x) (fx y) <;> simp
theorem minF_one {x : Nat} (hw : x < 4294967296) (hx : isFin x = true) : minF x W1 = minOne x := by
  unfold minF minOne
  rw [fLt_fin hx (by decide), fGt_fin hx (by decide)]
  by_cases h1 : fx x < fx W1
  · rw [if_pos (by simpa using h1), if_neg (by simp; omega)]
  · rw [if_neg (by simpa using h1)]
    by_cases h2 : fx W1 < fx x
    · rw [if_pos (by simpa using h2), if_pos (by simpa using h2)]
    · have hd : decide (fx W1 < fx x) = false := by simpa using h2
      simp only [hd, Bool.false_eq_true, if_false]
      have e : x = W1 := fx_inj hw (by decide) (by omega) (by rw [show fx x = fx W1 by omega, fx_W1]; exact Int.ne_of_gt (Int.pow_pos (by omega)))
      subst e; split <;> rfl
theorem xor_hi {m : Nat} (h : m < 2147483648) : m ^^^ 2 ^ 31 = 2147483648 + m := by
  have h' : m < 2 ^ 31 := h
  have e : 2147483648 + m = 2 ^ 31 ||| m := Nat.two_pow_add_eq_or_of_lt h' 1 |> fun e => by simpa using e
  rw [e]
  apply Nat.eq_of_testBit_eq
  intro i
  rw [Nat.testBit_xor, Nat.testBit_or, Nat.testBit_two_pow]
  by_cases hi : 31 = i
  · subst hi
    rw [Nat.testBit_lt_two_pow h']; simp
  · simp [hi]
theorem run_negW {x : Nat} (w : World) (hw : x < 4294967296) (hx : isFin x = true) (h : fx x < 0) : (Op.unary .neg (.float .f32 x)).run Try.prog w = .ok (.float .f32 (fsub 0 x)) w := by
  obtain ⟨e, hb, _⟩ := sub_flip hw hx h
  rw [e]
  have hx31 : x ^^^ 2 ^ 31 = x - 2147483648 := by
    obtain ⟨y, rfl⟩ : ∃ y, x = 2147483648 + y := ⟨x - 2147483648, by omega⟩
    rw [← xor_hi (by omega), Nat.xor_assoc, Nat.xor_self, Nat.xor_zero, xor_hi (by omega)]; omega
  show (Op.unary .neg (.float .f32 x)).run Try.prog w = _
  rw [← hx31]; rfl
theorem c_rest (n : Int) (w : World) :
    Calls Try.prog 125 #[.int .i64 n, .int .i64 256] w fun e w' => e = .returned (.int .i64 (n % 256)) ∧ w = w' := by
  obtain ⟨h1, h2, h3⟩ := tmod256 n
  have H3 := hid h3
  clear h3
  go_enter Try.func125, Try.ntmps125
  go_wp2
  go_ret
  exact ⟨ret_int H3.out, rfl⟩
theorem c_l01Angle (n : Int) (w : World) :
    Calls Try.prog 126 #[.int .i64 n] w fun e w' => e = .returned (.int .i64 (n % 256)) ∧ w = w' := by
  obtain ⟨h1, h2, h3⟩ := tmod256 n
  have H3 := hid h3
  clear h3
  go_enter Try.func126, Try.ntmps126
  go_wp2
  go_ret
  exact ⟨ret_int H3.out, rfl⟩
theorem sine_of {n : Int} {k : Nat} (h : n % 256 = (k : Int)) : sineI n = sineN k := by unfold sineI; rw [h]; rfl
theorem c_SineOf_low (k : Nat) (hk : k ≤ 64) (w : World) :
    Calls Try.prog 117 #[.int .i64 (k : Int)] w fun e w' => e = .returned (.float .f32 (quart k)) ∧ w = w' := by
  have q := quart_fin hk
  have hr : Hid (∀ wx, Calls Try.prog 125 #[.int .i64 (k : Int), .int .i64 256] wx fun e w' => e = .returned (.int .i64 (k : Int)) ∧ wx = w') := hid (fun wx => by
    have := c_rest (k : Int) wx
    rwa [show (k : Int) % 256 = (k : Int) by omega] at this)
  have r1 : ∀ wx, (binOp .quo 27 (.float .f32 (floatOfInt .f32 (k : Int))) (.float .f32 1115684864)).run Try.prog wx = .ok (.float .f32 (qx k)) wx := run_quo q.a (by decide) fx_W64
  have r2 : ∀ wx, (binOp .mul 27 (.float .f32 (qx k)) (.float .f32 (qx k))).run Try.prog wx = .ok (.float .f32 (qy k)) wx := run_mul q.x q.x
  have r3 : ∀ wx, (binOp .mul 27 (.float .f32 (qy k)) (.float .f32 1033109504)).run Try.prog wx = .ok (.float .f32 (fmul (qy k) 1033109504)) wx := run_mul q.y (by decide)
  have r4 : ∀ wx, (binOp .sub 27 (.float .f32 1059356672) (.float .f32 (fmul (qy k) 1033109504))).run Try.prog wx = .ok (.float .f32 (qp k)) wx := run_sub (by decide) q.yc
  have r5 : ∀ wx, (binOp .mul 27 (.float .f32 (qy k)) (.float .f32 (qp k))).run Try.prog wx = .ok (.float .f32 (fmul (qy k) (qp k))) wx := run_mul q.y q.p
  have r6 : ∀ wx, (binOp .sub 27 (.float .f32 1070137344) (.float .f32 (fmul (qy k) (qp k)))).run Try.prog wx = .ok (.float .f32 (qq k)) wx := run_sub (by decide) q.yp
  have r7 : ∀ wx, (binOp .mul 27 (.float .f32 (qx k)) (.float .f32 (qq k))).run Try.prog wx = .ok (.float .f32 (quart k)) wx := run_mul q.x q.q
  clear q
  go_enter Try.func117, Try.ntmps117
  go_wp2_with (go_at_call 125; refine (hr.out _).mono ?_; rintro e w' ⟨rfl, rfl⟩)
  go_ret
  exact ⟨rfl, rfl⟩
theorem c_l01Quarter (k : Nat) (hk : k ≤ 64) (w : World) :
    Calls Try.prog 127 #[.int .i64 (k : Int)] w fun e w' => e = .returned (.float .f32 (quart k)) ∧ w = w' := by
  have q := quart_fin hk
  have r1 : ∀ wx, (binOp .quo 27 (.float .f32 (floatOfInt .f32 (k : Int))) (.float .f32 1115684864)).run Try.prog wx = .ok (.float .f32 (qx k)) wx := run_quo q.a (by decide) fx_W64
  have r2 : ∀ wx, (binOp .mul 27 (.float .f32 (qx k)) (.float .f32 (qx k))).run Try.prog wx = .ok (.float .f32 (qy k)) wx := run_mul q.x q.x
  have r3 : ∀ wx, (binOp .mul 27 (.float .f32 (qy k)) (.float .f32 1033109504)).run Try.prog wx = .ok (.float .f32 (fmul (qy k) 1033109504)) wx := run_mul q.y (by decide)
  have r4 : ∀ wx, (binOp .sub 27 (.float .f32 1059356672) (.float .f32 (fmul (qy k) 1033109504))).run Try.prog wx = .ok (.float .f32 (qp k)) wx := run_sub (by decide) q.yc
  have r5 : ∀ wx, (binOp .mul 27 (.float .f32 (qy k)) (.float .f32 (qp k))).run Try.prog wx = .ok (.float .f32 (fmul (qy k) (qp k))) wx := run_mul q.y q.p
  have r6 : ∀ wx, (binOp .sub 27 (.float .f32 1070137344) (.float .f32 (fmul (qy k) (qp k)))).run Try.prog wx = .ok (.float .f32 (qq k)) wx := run_sub (by decide) q.yp
  have r7 : ∀ wx, (binOp .mul 27 (.float .f32 (qx k)) (.float .f32 (qq k))).run Try.prog wx = .ok (.float .f32 (quart k)) wx := run_mul q.x q.q
  clear q
  go_enter Try.func127, Try.ntmps127
  go_wp2
  go_ret
  exact ⟨rfl, rfl⟩
theorem c_SineOf (n : Int) (w : World) :
    Calls Try.prog 117 #[.int .i64 n] w fun e w' => e = .returned (.float .f32 (sineI n)) ∧ w = w' := by
  obtain ⟨k, hk, e⟩ : ∃ k : Nat, k < 256 ∧ n % 256 = (k : Int) := ⟨(n % 256).toNat, by omega, by omega⟩
  have hr := fun wx => c_rest n wx
  rw [e] at hr
  have HR := hid hr
  rw [sine_of e]
  by_cases h0 : k ≤ 64
  · have q := quart_fin h0
    have r1 : ∀ wx, (binOp .quo 27 (.float .f32 (floatOfInt .f32 (k : Int))) (.float .f32 1115684864)).run Try.prog wx = .ok (.float .f32 (qx k)) wx := run_quo q.a (by decide) fx_W64
    have r2 : ∀ wx, (binOp .mul 27 (.float .f32 (qx k)) (.float .f32 (qx k))).run Try.prog wx = .ok (.float .f32 (qy k)) wx := run_mul q.x q.x
    have r3 : ∀ wx, (binOp .mul 27 (.float .f32 (qy k)) (.float .f32 1033109504)).run Try.prog wx = .ok (.float .f32 (fmul (qy k) 1033109504)) wx := run_mul q.y (by decide)
    have r4 : ∀ wx, (binOp .sub 27 (.float .f32 1059356672) (.float .f32 (fmul (qy k) 1033109504))).run Try.prog wx = .ok (.float .f32 (qp k)) wx := run_sub (by decide) q.yc
    have r5 : ∀ wx, (binOp .mul 27 (.float .f32 (qy k)) (.float .f32 (qp k))).run Try.prog wx = .ok (.float .f32 (fmul (qy k) (qp k))) wx := run_mul q.y q.p
    have r6 : ∀ wx, (binOp .sub 27 (.float .f32 1070137344) (.float .f32 (fmul (qy k) (qp k)))).run Try.prog wx = .ok (.float .f32 (qq k)) wx := run_sub (by decide) q.yp
    have r7 : ∀ wx, (binOp .mul 27 (.float .f32 (qx k)) (.float .f32 (qq k))).run Try.prog wx = .ok (.float .f32 (quart k)) wx := run_mul q.x q.q
    have S : Hid (sineN k = quart k) := hid (by unfold sineN; rw [if_neg (by omega), if_neg (by omega), if_neg (by omega)])
    clear q e hr
    go_enter Try.func117, Try.ntmps117
    go_wp2_with (go_at_call 125; refine (HR.out _).mono ?_; rintro e w' ⟨rfl, rfl⟩)
    go_ret
    exact ⟨ret_float S.out.symm, rfl⟩
  · by_cases h1 : k ≤ 128
    · obtain ⟨j, hj⟩ : ∃ j : Nat, j + k = 128 := ⟨128 - k, by omega⟩
      have S : Hid (sineN k = quart j) := hid (by unfold sineN; rw [if_neg (by omega), if_neg (by omega), if_pos (by omega)]; congr 1; omega)
      have C : Hid (∀ wx, Calls Try.prog 117 #[.int .i64 (128 - (k : Int))] wx fun e w' => e = .returned (.float .f32 (quart j)) ∧ wx = w') := hid (fun wx => by
        have := c_SineOf_low j (by omega) wx
        rwa [show ((j : Nat) : Int) = 128 - (k : Int) by omega] at this)
      clear e hr hj
      go_enter Try.func117, Try.ntmps117
      go_wp2_with (first | (go_at_call 125; refine (HR.out _).mono ?_; rintro e w' ⟨rfl, rfl⟩) | (go_at_call 117; refine (C.out _).mono ?_; rintro e w' ⟨rfl, rfl⟩))
      go_ret
      exact ⟨ret_float S.out.symm, rfl⟩
    · by_cases h2 : k ≤ 192
      · obtain ⟨j, hj⟩ : ∃ j : Nat, j + 128 = k := ⟨k - 128, by omega⟩
        have S : Hid (sineN k = fsub 0 (quart j)) := hid (by unfold sineN; rw [if_neg (by omega), if_pos (by omega)]; congr 2; omega)
        have C : Hid (∀ wx, Calls Try.prog 117 #[.int .i64 ((k : Int) - 128)] wx fun e w' => e = .returned (.float .f32 (quart j)) ∧ wx = w') := hid (fun wx => by
          have := c_SineOf_low j (by omega) wx
          rwa [show ((j : Nat) : Int) = (k : Int) - 128 by omega] at this)
        have r1 : ∀ wx, (binOp .sub 27 (.float .f32 0) (.float .f32 (quart j))).run Try.prog wx = .ok (.float .f32 (fsub 0 (quart j))) wx := run_sub (by decide) (quart_fin (n := j) (by omega)).all.fin
        clear e hr hj
        go_enter Try.func117, Try.ntmps117
        go_wp2_with (first | (go_at_call 125; refine (HR.out _).mono ?_; rintro e w' ⟨rfl, rfl⟩) | (go_at_call 117; refine (C.out _).mono ?_; rintro e w' ⟨rfl, rfl⟩))
        go_ret
        exact ⟨ret_float S.out.symm, rfl⟩
      · obtain ⟨j, hj⟩ : ∃ j : Nat, j + k = 256 := ⟨256 - k, by omega⟩
        have S : Hid (sineN k = fsub 0 (quart j)) := hid (by unfold sineN; rw [if_pos (by omega)]; congr 2; omega)
        have C : Hid (∀ wx, Calls Try.prog 117 #[.int .i64 (256 - (k : Int))] wx fun e w' => e = .returned (.float .f32 (quart j)) ∧ wx = w') := hid (fun wx => by
          have := c_SineOf_low j (by omega) wx
          rwa [show ((j : Nat) : Int) = 256 - (k : Int) by omega] at this)
        have r1 : ∀ wx, (binOp .sub 27 (.float .f32 0) (.float .f32 (quart j))).run Try.prog wx = .ok (.float .f32 (fsub 0 (quart j))) wx := run_sub (by decide) (quart_fin (n := j) (by omega)).all.fin
        clear e hr hj
        go_enter Try.func117, Try.ntmps117
        go_wp2_with (first | (go_at_call 125; refine (HR.out _).mono ?_; rintro e w' ⟨rfl, rfl⟩) | (go_at_call 117; refine (C.out _).mono ?_; rintro e w' ⟨rfl, rfl⟩))
        go_ret
        exact ⟨ret_float S.out.symm, rfl⟩
theorem c_l01Sine (n : Int) (w : World) :
    Calls Try.prog 119 #[.int .i64 n] w fun e w' => e = .returned (.float .f32 (sineI n)) ∧ w = w' := by
  obtain ⟨k, hk, e⟩ : ∃ k : Nat, k < 256 ∧ n % 256 = (k : Int) := ⟨(n % 256).toNat, by omega, by omega⟩
  have hr := fun wx => c_l01Angle n wx
  rw [e] at hr
  have HR := hid hr
  rw [sine_of e]
  by_cases h0 : k ≤ 64
  · have S : Hid (sineN k = quart k) := hid (by unfold sineN; rw [if_neg (by omega), if_neg (by omega), if_neg (by omega)])
    have C := hid (fun wx => c_l01Quarter k h0 wx)
    clear e hr
    go_enter Try.func119, Try.ntmps119
    go_wp2_with (first | (go_at_call 126; refine (HR.out _).mono ?_; rintro e w' ⟨rfl, rfl⟩) | (go_at_call 127; refine (C.out _).mono ?_; rintro e w' ⟨rfl, rfl⟩))
    go_ret
    exact ⟨ret_float S.out.symm, rfl⟩
  · by_cases h1 : k ≤ 128
    · obtain ⟨j, hj⟩ : ∃ j : Nat, j + k = 128 := ⟨128 - k, by omega⟩
      have S : Hid (sineN k = quart j) := hid (by unfold sineN; rw [if_neg (by omega), if_neg (by omega), if_pos (by omega)]; congr 1; omega)
      have C : Hid (∀ wx, Calls Try.prog 127 #[.int .i64 (128 - (k : Int))] wx fun e w' => e = .returned (.float .f32 (quart j)) ∧ wx = w') := hid (fun wx => by
        have := c_l01Quarter j (by omega) wx
        rwa [show ((j : Nat) : Int) = 128 - (k : Int) by omega] at this)
      clear e hr hj
      go_enter Try.func119, Try.ntmps119
      go_wp2_with (first | (go_at_call 126; refine (HR.out _).mono ?_; rintro e w' ⟨rfl, rfl⟩) | (go_at_call 127; refine (C.out _).mono ?_; rintro e w' ⟨rfl, rfl⟩))
      go_ret
      exact ⟨ret_float S.out.symm, rfl⟩
    · by_cases h2 : k ≤ 192
      · obtain ⟨j, hj⟩ : ∃ j : Nat, j + 128 = k := ⟨k - 128, by omega⟩
        have S : Hid (sineN k = fsub 0 (quart j)) := hid (by unfold sineN; rw [if_neg (by omega), if_pos (by omega)]; congr 2; omega)
        have C : Hid (∀ wx, Calls Try.prog 127 #[.int .i64 ((k : Int) - 128)] wx fun e w' => e = .returned (.float .f32 (quart j)) ∧ wx = w') := hid (fun wx => by
          have := c_l01Quarter j (by omega) wx
          rwa [show ((j : Nat) : Int) = (k : Int) - 128 by omega] at this)
        have r1 : ∀ wx, (binOp .sub 27 (.float .f32 0) (.float .f32 (quart j))).run Try.prog wx = .ok (.float .f32 (fsub 0 (quart j))) wx := run_sub (by decide) (quart_fin (n := j) (by omega)).all.fin
        clear e hr hj
        go_enter Try.func119, Try.ntmps119
        go_wp2_with (first | (go_at_call 126; refine (HR.out _).mono ?_; rintro e w' ⟨rfl, rfl⟩) | (go_at_call 127; refine (C.out _).mono ?_; rintro e w' ⟨rfl, rfl⟩))
        go_ret
        exact ⟨ret_float S.out.symm, rfl⟩
      · obtain ⟨j, hj⟩ : ∃ j : Nat, j + k = 256 := ⟨256 - k, by omega⟩
        have S : Hid (sineN k = fsub 0 (quart j)) := hid (by unfold sineN; rw [if_pos (by omega)]; congr 2; omega)
        have C : Hid (∀ wx, Calls Try.prog 127 #[.int .i64 (256 - (k : Int))] wx fun e w' => e = .returned (.float .f32 (quart j)) ∧ wx = w') := hid (fun wx => by
          have := c_l01Quarter j (by omega) wx
          rwa [show ((j : Nat) : Int) = 256 - (k : Int) by omega] at this)
        have r1 : ∀ wx, (binOp .sub 27 (.float .f32 0) (.float .f32 (quart j))).run Try.prog wx = .ok (.float .f32 (fsub 0 (quart j))) wx := run_sub (by decide) (quart_fin (n := j) (by omega)).all.fin
        clear e hr hj
        go_enter Try.func119, Try.ntmps119
        go_wp2_with (first | (go_at_call 126; refine (HR.out _).mono ?_; rintro e w' ⟨rfl, rfl⟩) | (go_at_call 127; refine (C.out _).mono ?_; rintro e w' ⟨rfl, rfl⟩))
        go_ret
        exact ⟨ret_float S.out.symm, rfl⟩
theorem c_CosineOf (n : Int) (w : World) :
    Calls Try.prog 118 #[.int .i64 n] w fun e w' => e = .returned (.float .f32 (cosI n)) ∧ w = w' := by
  obtain ⟨k, hk, e⟩ : ∃ k : Nat, k < 256 ∧ n % 256 = (k : Int) := ⟨(n % 256).toNat, by omega, by omega⟩
  have hr := fun wx => c_rest n wx
  have C : Hid (∀ wx, Calls Try.prog 117 #[.int .i64 ((k : Int) + 64)] wx fun e w' => e = .returned (.float .f32 (cosI n)) ∧ wx = w') := hid (fun wx => by
    have := c_SineOf ((k : Int) + 64) wx
    unfold cosI; rw [e]; exact this)
  rw [e] at hr
  have HR := hid hr
  clear hr e
  go_enter Try.func118, Try.ntmps118
  go_wp2_with (first | (go_at_call 125; refine (HR.out _).mono ?_; rintro e w' ⟨rfl, rfl⟩) | (go_at_call 117; refine (C.out _).mono ?_; rintro e w' ⟨rfl, rfl⟩))
  go_ret
  exact ⟨rfl, rfl⟩
theorem c_l01Cosine (n : Int) (w : World) :
    Calls Try.prog 120 #[.int .i64 n] w fun e w' => e = .returned (.float .f32 (cosI n)) ∧ w = w' := by
  obtain ⟨k, hk, e⟩ : ∃ k : Nat, k < 256 ∧ n % 256 = (k : Int) := ⟨(n % 256).toNat, by omega, by omega⟩
  have hr := fun wx => c_l01Angle n wx
  have C : Hid (∀ wx, Calls Try.prog 119 #[.int .i64 ((k : Int) + 64)] wx fun e w' => e = .returned (.float .f32 (cosI n)) ∧ wx = w') := hid (fun wx => by
    have := c_l01Sine ((k : Int) + 64) wx
    unfold cosI; rw [e]; exact this)
  rw [e] at hr
  have HR := hid hr
  clear hr e
  go_enter Try.func120, Try.ntmps120
  go_wp2_with (first | (go_at_call 126; refine (HR.out _).mono ?_; rintro e w' ⟨rfl, rfl⟩) | (go_at_call 119; refine (C.out _).mono ?_; rintro e w' ⟨rfl, rfl⟩))
  go_ret
  exact ⟨rfl, rfl⟩
theorem c_sizeOf {x A : Nat} (h : AbsLe x A) (w : World) :
    Calls Try.prog 53 #[.float .f32 x] w fun e w' => e = .returned (.float .f32 (sizeW x)) ∧ w = w' := by
  have r1 : ∀ wx, (binOp .sub 27 (.float .f32 0) (.float .f32 x)).run Try.prog wx = .ok (.float .f32 (fsub 0 x)) wx := run_sub (by decide) h.fin
  cases hl : fLt x 0
  · have hl' : (FloatKind.f32.format.order x 0 == some .lt) = false := hl
    have S : Hid (sizeW x = x) := hid (by unfold sizeW; rw [hl]; rfl)
    clear hl h
    go_enter Try.func53, Try.ntmps53
    go_wp2
    go_ret
    exact ⟨ret_float S.out.symm, rfl⟩
  · have hl' : (FloatKind.f32.format.order x 0 == some .lt) = true := hl
    have S : Hid (sizeW x = fsub 0 x) := hid (by unfold sizeW; rw [hl]; rfl)
    clear hl h
    go_enter Try.func53, Try.ntmps53
    go_wp2
    go_ret
    exact ⟨ret_float S.out.symm, rfl⟩
theorem c_l01Size {x A : Nat} (h : AbsLe x A) (w : World) :
    Calls Try.prog 57 #[.float .f32 x] w fun e w' => e = .returned (.float .f32 (sizeW x)) ∧ w = w' := by
  cases hl : fLt x 0
  · have hl' : (FloatKind.f32.format.order x 0 == some .lt) = false := hl
    have S : Hid (sizeW x = x) := hid (by unfold sizeW; rw [hl]; rfl)
    clear hl h
    go_enter Try.func57, Try.ntmps57
    go_wp2
    go_ret
    exact ⟨ret_float S.out.symm, rfl⟩
  · have hl' : (FloatKind.f32.format.order x 0 == some .lt) = true := hl
    have S : Hid (sizeW x = fsub 0 x) := hid (by unfold sizeW; rw [hl]; rfl)
    have r1 : ∀ wx, (Op.unary .neg (.float .f32 x)).run Try.prog wx = .ok (.float .f32 (fsub 0 x)) wx := fun wx => run_negW wx h.word h.fin (by
      rw [fLt_fin h.fin (by decide), fx_0] at hl; simpa using hl)
    clear hl h
    go_enter Try.func57, Try.ntmps57
    go_wp2
    go_ret
    exact ⟨ret_float S.out.symm, rfl⟩
theorem c_atLeast0 {x A : Nat} (h : AbsLe x A) (w : World) :
    Calls Try.prog 123 #[.float .f32 x] w fun e w' => e = .returned (.float .f32 (pos0 x)) ∧ w = w' := by
  have hg := fLe_gt (x := x) (y := 0) h.fin (by decide)
  cases hl : fLe x 0
  · have hl' : (FloatKind.f32.format.order x 0 == some .lt || FloatKind.f32.format.order x 0 == some .eq) = false := hl
    have S : Hid (pos0 x = x) := hid (by unfold pos0; rw [hl] at hg; rw [if_pos (by simpa using hg.symm)])
    clear hl h hg
    go_enter Try.func123, Try.ntmps123
    go_wp2
    go_ret
    exact ⟨ret_float S.out.symm, rfl⟩
  · have hl' : (FloatKind.f32.format.order x 0 == some .lt || FloatKind.f32.format.order x 0 == some .eq) = true := hl
    have S : Hid (pos0 x = 0) := hid (by unfold pos0; rw [hl] at hg; rw [if_neg (by simpa using hg.symm)])
    clear hl h hg
    go_enter Try.func123, Try.ntmps123
    go_wp2
    go_ret
    exact ⟨ret_float S.out.symm, rfl⟩
def bcells (b : Bld) : Array Value := #[.int .i8 b.sl, .float .f32 b.wi, .float .f32 b.ga, .int .i16 b.ti, .float .f32 b.sh]
def scells (hs ts : List Int) : Array Value := i16s (hs ++ ts)
def I16 (l : List Int) : Prop := ∀ k, k < 24 → -32768 ≤ iat l k ∧ iat l k ≤ 32767
theorem scells_size {hs ts : List Int} (h : hs.length = 24) (t : ts.length = 24) : (scells hs ts).size = 48 := by simp [scells, i16s_size, h, t]
theorem scells_h {hs ts : List Int} (h : hs.length = 24) {k : Nat} (hk : k < 24) : (scells hs ts)[k]? = some (.int .i16 (iat hs k)) := by
  have e : (hs ++ ts)[k]? = hs[k]? := List.getElem?_append_left (by omega)
  have e2 : iat (hs ++ ts) k = iat hs k := by unfold iat; rw [List.getD_eq_getElem?_getD, List.getD_eq_getElem?_getD, e]
  rw [← e2]; exact i16s_at rfl (by simp; omega)
theorem scells_t {hs ts : List Int} (h : hs.length = 24) (t : ts.length = 24) {k : Nat} (hk : k < 24) : (scells hs ts)[24 + k]? = some (.int .i16 (iat ts k)) := by
  have e : (hs ++ ts)[24 + k]? = ts[k]? := by rw [List.getElem?_append_right (by omega), h]; congr 1; omega
  have e2 : iat (hs ++ ts) (24 + k) = iat ts k := by unfold iat; rw [List.getD_eq_getElem?_getD, List.getD_eq_getElem?_getD, e]
  rw [← e2]; exact i16s_at rfl (by simp; omega)
theorem scells_one (hs ts : List Int) : (scells hs ts).all (·.oneCell') = true := i16s_one _
theorem bcells_one (b : Bld) : (bcells b).all (·.oneCell') = true := by simp [bcells, Value.oneCell']
/-- A sun in memory, at an offset of a block. -/
structure SunAt (w : World) (b o : Nat) (hs ts : List Int) : Prop where
  h : ∀ k, k < 24 → w.cell? ⟨b, o + k, none⟩ = some (.int .i16 (iat hs k))
  t : ∀ k, k < 24 → w.cell? ⟨b, o + 24 + k, none⟩ = some (.int .i16 (iat ts k))
theorem SunAt.below {w w' : World} {b o : Nat} {hs ts : List Int} (h : SunAt w b o hs ts) (hb : Below w.heap.size w w') : SunAt w' b o hs ts :=
  ⟨fun k hk => cell_stays hb (h.h k hk), fun k hk => cell_stays hb (h.t k hk)⟩
/-- A blind in memory. -/
structure BldAt (w : World) (b o : Nat) (B : Bld) : Prop where
  sl : w.cell? ⟨b, o, none⟩ = some (.int .i8 B.sl)
  wi : w.cell? ⟨b, o + 1, none⟩ = some (.float .f32 B.wi)
  ga : w.cell? ⟨b, o + 2, none⟩ = some (.float .f32 B.ga)
  ti : w.cell? ⟨b, o + 3, none⟩ = some (.int .i16 B.ti)
  sh : w.cell? ⟨b, o + 4, none⟩ = some (.float .f32 B.sh)
theorem SunAt.of_block {w : World} {b : Nat} {hs ts : List Int} {T : TypeId} (h : hs.length = 24) (t : ts.length = 24) (hb : w.heap[b]? = some (.cells (scells hs ts) T (0, 0))) : SunAt w b 0 hs ts :=
  ⟨fun k hk => by rw [Nat.zero_add, cell_of_row w b k _ _ _ hb]; exact scells_h h hk, fun k hk => by rw [Nat.zero_add, cell_of_row w b _ _ _ _ hb]; exact scells_t h t hk⟩
theorem BldAt.of_block {w : World} {b : Nat} {B : Bld} {T : TypeId} (hb : w.heap[b]? = some (.cells (bcells B) T (0, 0))) : BldAt w b 0 B :=
  ⟨by rw [cell_of_row w b _ _ _ _ hb]; rfl, by rw [cell_of_row w b _ _ _ _ hb]; rfl, by rw [cell_of_row w b _ _ _ _ hb]; rfl, by rw [cell_of_row w b _ _ _ _ hb]; rfl, by rw [cell_of_row w b _ _ _ _ hb]; rfl⟩
theorem BldAt.below {w w' : World} {b o : Nat} {B : Bld} (h : BldAt w b o B) (hb : Below w.heap.size w w') : BldAt w' b o B :=
  ⟨cell_stays hb h.sl, cell_stays hb h.wi, cell_stays hb h.ga, cell_stays hb h.ti, cell_stays hb h.sh⟩
end Go.Proofs.Ytboddpifepegcaa
