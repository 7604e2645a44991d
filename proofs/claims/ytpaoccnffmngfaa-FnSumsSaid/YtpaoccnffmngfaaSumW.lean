/- Walks of the sums of a list in several orders, of what the reference does for them, and of what looks at a list. -/
import Derived.Test.YtpaoccnffmngfaaDbl
namespace Go.Proofs.Ytpaoccnffmngfaa
set_option maxRecDepth 20000
open Go.RowKit

theorem run_add {T : TypeId} {x y : Nat} (hx : isFin x = true) (hy : isFin y = true) (w : World) : (binOp .add T (.float .f32 x) (.float .f32 y)).run Try.prog w = .ok (.float .f32 (fadd x y)) w :=
  run_float_arith w .add T .f32 x y _ (add_fin hx hy).1
theorem run_sub {T : TypeId} {x y : Nat} (hx : isFin x = true) (hy : isFin y = true) (w : World) : (binOp .sub T (.float .f32 x) (.float .f32 y)).run Try.prog w = .ok (.float .f32 (fsub x y)) w :=
  run_float_arith w .sub T .f32 x y _ (sub_fin hx hy).1
theorem run_mul {T : TypeId} {x y : Nat} (hx : isFin x = true) (hy : isFin y = true) (w : World) : (binOp .mul T (.float .f32 x) (.float .f32 y)).run Try.prog w = .ok (.float .f32 (fmul x y)) w :=
  run_float_arith w .mul T .f32 x y _ (mul_fin hx hy).1

/-- A valid list: a slice that reads as plain words, at most 48 of them. -/
structure VL (w : World) (a : Option Addr) (n : Nat) (xs : List Nat) : Prop where
  fl : Flts w a n xs
  pl : Plains xs
  le : n ≤ 48
theorem VL.len {w : World} {a : Option Addr} {n : Nat} {xs : List Nat} (h : VL w a n xs) : xs.length = n := h.fl.len
theorem VL.below {w w' : World} {a : Option Addr} {n : Nat} {xs : List Nat} (h : VL w a n xs) (hb : Below w.heap.size w w') : VL w' a n xs := ⟨h.fl.below hb, h.pl, h.le⟩
theorem VL.of {w : World} {a : Option Addr} {n : Nat} {xs : List Nat} (h : Flts w a n xs) (hv : validL xs = true) : VL w a n xs := by
  simp only [validL, plains, Bool.and_eq_true, decide_eq_true_eq, List.all_eq_true, List.mem_range] at hv
  exact ⟨h, fun k hk => ⟨h.word k (by rw [← h.len]; exact hk), hv.2 k hk⟩, by rw [← h.len]; exact hv.1⟩

theorem c_left (a : Option Addr) (n ca : Nat) (xs : List Nat) (w : World) (hv : VL w a n xs) :
    Calls Try.prog 33 #[.slice a n ca] w fun e w' => e = .returned (.float .f32 (leftOf xs)) ∧ w = w' := by
  have hn := hv.le
  have V := hid hv
  clear hv
  go_enter Try.func33, Try.ntmps33
  go_wp2
  go_loop [3, 8] (fun s i => ∃ k : Nat, k ≤ n ∧ i = .int .i64 k ∧ s = .float .f32 (leftK xs k)) (fun _ i => n - (intOf i).toNat)
  case atStart => exact ⟨0, by omega, rfl, rfl⟩
  case round =>
    obtain ⟨k, hk, rfl, rfl⟩ := hrel
    by_cases hlt : k < n
    · obtain ⟨b1, o1, rfl, hc1⟩ := V.out.fl.at_ (by omega)
      have h1 := hc1 k hlt
      have ha := run_add (T := 26) (left_abs V.out.pl (by rw [V.out.len]; exact V.out.le) k (by rw [V.out.len]; omega)).fin (V.out.pl.abs (k := k) (by rw [V.out.len]; exact hlt)).fin
      clear hc1
      go_wp2
      refine ⟨⟨k + 1, by omega, by go_num, rfl⟩, by simp [intOf]; omega⟩
    · obtain rfl : k = n := by omega
      go_wp2
      go_ret
      exact ⟨ret_float (by rw [leftOf, V.out.len]), rfl⟩
theorem c_l06Left (a : Option Addr) (n ca : Nat) (xs : List Nat) (w : World) (hv : VL w a n xs) :
    Calls Try.prog 40 #[.slice a n ca] w fun e w' => e = .returned (.float .f32 (leftOf xs)) ∧ w = w' := by
  have hn := hv.le
  have V := hid hv
  clear hv
  go_enter Try.func40, Try.ntmps40
  go_wp2
  go_loop [3, 4] (fun s i => ∃ k : Nat, k ≤ n ∧ i = .int .i64 k ∧ s = .float .f32 (leftK xs k)) (fun _ i => n - (intOf i).toNat)
  case atStart => exact ⟨0, by omega, rfl, rfl⟩
  case round =>
    obtain ⟨k, hk, rfl, rfl⟩ := hrel
    by_cases hlt : k < n
    · obtain ⟨b1, o1, rfl, hc1⟩ := V.out.fl.at_ (by omega)
      have h1 := hc1 k hlt
      have ha := run_add (T := 26) (left_abs V.out.pl (by rw [V.out.len]; exact V.out.le) k (by rw [V.out.len]; omega)).fin (V.out.pl.abs (k := k) (by rw [V.out.len]; exact hlt)).fin
      clear hc1
      go_wp2
      refine ⟨⟨k + 1, by omega, by go_num, rfl⟩, by simp [intOf]; omega⟩
    · obtain rfl : k = n := by omega
      go_wp2
      go_ret
      exact ⟨ret_float (by rw [leftOf, V.out.len]), rfl⟩
theorem c_kept (a : Option Addr) (n ca : Nat) (xs : List Nat) (w : World) (hv : VL w a n xs) :
    Calls Try.prog 36 #[.slice a n ca] w fun e w' => e = .returned (.float .f32 (keptOf xs)) ∧ w = w' := by
  have hn := hv.le
  have V := hid hv
  clear hv
  go_enter Try.func36, Try.ntmps36
  go_wp2
  go_loop [3, 4, 12] (fun s r i => ∃ k : Nat, k ≤ n ∧ i = .int .i64 k ∧ s = .float .f32 (keptK xs k).1 ∧ r = .float .f32 (keptK xs k).2) (fun _ _ i => n - (intOf i).toNat)
  case atStart => exact ⟨0, by omega, rfl, rfl, rfl⟩
  case round =>
    obtain ⟨k, hk, rfl, rfl, rfl⟩ := hrel
    by_cases hlt : k < n
    · obtain ⟨b1, o1, rfl, hc1⟩ := V.out.fl.at_ (by omega)
      have h1 := hc1 k hlt
      have hx := V.out.pl.abs (k := k) (by rw [V.out.len]; exact hlt)
      obtain ⟨k1, k2⟩ := kept_abs V.out.pl (by rw [V.out.len]; exact V.out.le) k (by rw [V.out.len]; omega)
      obtain ⟨_, _, c3, c4⟩ := bk_ok k (by omega)
      obtain ⟨d1, d2, _, _⟩ := bk_ok (k + 1) (by omega)
      have y := hx.sub k2 c3
      have t := k1.add y d1
      have g := t.sub k1 c4
      have r1 := run_sub (T := 26) hx.fin k2.fin
      have r2 := run_add (T := 26) k1.fin y.fin
      have r3 := run_sub (T := 26) t.fin k1.fin
      have r4 := run_sub (T := 26) g.fin y.fin
      clear hc1 hx k1 k2 c3 c4 d1 d2 y t g
      go_wp2
      refine ⟨⟨k + 1, by omega, by go_num, rfl, rfl⟩, by simp [intOf]; omega⟩
    · obtain rfl : k = n := by omega
      go_wp2
      go_ret
      exact ⟨ret_float (by rw [keptOf, V.out.len]), rfl⟩
theorem c_l06Kept (a : Option Addr) (n ca : Nat) (xs : List Nat) (w : World) (hv : VL w a n xs) :
    Calls Try.prog 43 #[.slice a n ca] w fun e w' => e = .returned (.float .f32 (keptOf xs)) ∧ w = w' := by
  have hn := hv.le
  have V := hid hv
  clear hv
  go_enter Try.func43, Try.ntmps43
  go_wp2
  go_loop [3, 4, 5] (fun s r i => ∃ k : Nat, k ≤ n ∧ i = .int .i64 k ∧ s = .float .f32 (keptK xs k).1 ∧ r = .float .f32 (keptK xs k).2) (fun _ _ i => n - (intOf i).toNat)
  case atStart => exact ⟨0, by omega, rfl, rfl, rfl⟩
  case round =>
    obtain ⟨k, hk, rfl, rfl, rfl⟩ := hrel
    by_cases hlt : k < n
    · obtain ⟨b1, o1, rfl, hc1⟩ := V.out.fl.at_ (by omega)
      have h1 := hc1 k hlt
      have hx := V.out.pl.abs (k := k) (by rw [V.out.len]; exact hlt)
      obtain ⟨k1, k2⟩ := kept_abs V.out.pl (by rw [V.out.len]; exact V.out.le) k (by rw [V.out.len]; omega)
      obtain ⟨_, _, c3, c4⟩ := bk_ok k (by omega)
      obtain ⟨d1, d2, _, _⟩ := bk_ok (k + 1) (by omega)
      have y := hx.sub k2 c3
      have t := k1.add y d1
      have g := t.sub k1 c4
      have r1 := run_sub (T := 26) hx.fin k2.fin
      have r2 := run_add (T := 26) k1.fin y.fin
      have r3 := run_sub (T := 26) t.fin k1.fin
      have r4 := run_sub (T := 26) g.fin y.fin
      clear hc1 hx k1 k2 c3 c4 d1 d2 y t g
      go_wp2
      refine ⟨⟨k + 1, by omega, by go_num, rfl, rfl⟩, by simp [intOf]; omega⟩
    · obtain rfl : k = n := by omega
      go_wp2
      go_ret
      exact ⟨ret_float (by rw [keptOf, V.out.len]), rfl⟩
theorem c_l06Right (a : Option Addr) (n ca : Nat) (xs : List Nat) (w : World) (hv : VL w a n xs) :
    Calls Try.prog 41 #[.slice a n ca] w fun e w' => e = .returned (.float .f32 (rightOf xs)) ∧ w = w' := by
  have hn := hv.le
  have V := hid hv
  clear hv
  go_enter Try.func41, Try.ntmps41
  go_wp2
  go_loop [3, 4] (fun s i => ∃ m : Nat, m ≤ n ∧ ∃ x : Int, x = (m : Int) - 1 ∧ i = .int .i64 x ∧ s = .float .f32 (rightK xs n (n - m))) (fun _ i => (intOf i + 1).toNat)
  case atStart => exact ⟨n, by omega, _, rfl, rfl, by rw [Nat.sub_self]; rfl⟩
  case round =>
    obtain ⟨m, hm, x, hx, rfl, rfl⟩ := hrel
    cases m with
    | succ j =>
      obtain rfl : x = (j : Int) := by omega
      clear hx
      obtain ⟨b1, o1, rfl, hc1⟩ := V.out.fl.at_ (by omega)
      have h1 := hc1 j (by omega)
      have hR := right_abs V.out.pl (by rw [V.out.len]; exact V.out.le) (n - (j + 1)) (by rw [V.out.len]; omega)
      rw [V.out.len] at hR
      have ha := run_add (T := 26) hR.fin (V.out.pl.abs (k := j) (by rw [V.out.len]; omega)).fin
      have e : fadd (rightK xs n (n - (j + 1))) (fat xs j) = rightK xs n (n - j) := by
        rw [show n - j = (n - (j + 1)) + 1 by omega, rightK, show n - 1 - (n - (j + 1)) = j by omega]
      rw [e] at ha
      clear hc1 hR e
      go_wp2
      refine ⟨⟨j, by omega, _, rfl, rfl, rfl⟩, by simp [intOf]⟩
    | zero =>
      obtain rfl : x = -1 := by omega
      clear hx
      go_wp2
      go_ret
      exact ⟨ret_float (by rw [rightOf, V.out.len]), rfl⟩
/-- The code of a list that needs so many numbers. -/
def codeL (xs : List Nat) (least : Nat) : Int := if validL xs then (if xs.length < least then 6 else 0) else 1
theorem c_l06Code (a : Option Addr) (n ca : Nat) (xs : List Nat) (least : Nat) (_ : least ≤ 100) (w : World) (hx : Flts w a n xs) :
    Calls Try.prog 39 #[.slice a n ca, .int .i64 least] w fun e w' => e = .returned (.int .i64 (codeL xs least)) ∧ w = w' := by
  have hs := hx.small
  have X := hid hx
  clear hx
  cases hv : validL xs
  · go_enter Try.func39, Try.ntmps39
    go_wp2_with (go_at_call 51; refine (c_l06Ok _ _ _ _ _ X.out).mono ?_; rintro e w' ⟨rfl, rfl⟩)
    go_ret
    exact ⟨ret_int (by simp [codeL, hv]), rfl⟩
  · by_cases hlt : n < least
    · go_enter Try.func39, Try.ntmps39
      go_wp2_with (go_at_call 51; refine (c_l06Ok _ _ _ _ _ X.out).mono ?_; rintro e w' ⟨rfl, rfl⟩)
      go_ret
      exact ⟨ret_int (by simp [codeL, hv, X.out.len, hlt]), rfl⟩
    · go_enter Try.func39, Try.ntmps39
      go_wp2_with (go_at_call 51; refine (c_l06Ok _ _ _ _ _ X.out).mono ?_; rintro e w' ⟨rfl, rfl⟩)
      go_ret
      exact ⟨ret_int (by simp [codeL, hv, X.out.len, hlt]), rfl⟩
theorem c_listCode (a : Option Addr) (n ca : Nat) (xs : List Nat) (w : World) (hx : Flts w a n xs) :
    Calls Try.prog 48 #[.slice a n ca] w fun e w' => e = .returned (.int .i64 (codeL xs 0)) ∧ w = w' := by
  have X := hid hx
  clear hx
  cases hv : validL xs
  all_goals
    go_enter Try.func48, Try.ntmps48
    go_wp2_with (go_at_call 49; refine (c_implValidList _ _ _ _ _ X.out).mono ?_; rintro e w' ⟨rfl, rfl⟩)
    go_ret
    exact ⟨ret_int (by simp [codeL, hv]), rfl⟩
theorem run_addD {T : TypeId} {x y : Nat} (hx : isFinD x = true) (hy : isFinD y = true) (w : World) : (binOp .add T (.float .f64 x) (.float .f64 y)).run Try.prog w = .ok (.float .f64 (dadd x y)) w :=
  run_float_arith w .add T .f64 x y _ (add_finD hx hy).1
theorem run_toD {x : Nat} (h : isFin x = true) (w : World) : (convert 26 54 (.float .f32 x)).run Try.prog w = .ok (.float .f64 (toD x)) w :=
  run_convert_float_float w _ _ .f32 .f64 x _ (by kernel_rfl) Try.underlying54 (toD_fin_write h)
theorem run_toS {d z : Nat} (h : floatToFloatBits .f64 d .f32 = some z) (w : World) : (convert 54 26 (.float .f64 d)).run Try.prog w = .ok (.float .f32 z) w :=
  run_convert_float_float w _ _ .f64 .f32 d _ (by kernel_rfl) Try.underlying26 h
theorem c_wide (a : Option Addr) (n ca : Nat) (xs : List Nat) (w : World) (hv : VL w a n xs) :
    Calls Try.prog 37 #[.slice a n ca] w fun e w' => e = .returned (.float .f32 (wideOf xs)) ∧ w = w' := by
  have hn := hv.le
  have V := hid hv
  clear hv
  go_enter Try.func37, Try.ntmps37
  go_wp2
  go_loop [3, 8] (fun s i => ∃ k : Nat, k ≤ n ∧ i = .int .i64 k ∧ s = .float .f64 (wideK xs k)) (fun _ i => n - (intOf i).toNat)
  case atStart => exact ⟨0, by omega, rfl, rfl⟩
  case round =>
    obtain ⟨k, hk, rfl, rfl⟩ := hrel
    by_cases hlt : k < n
    · obtain ⟨b1, o1, rfl, hc1⟩ := V.out.fl.at_ (by omega)
      have h1 := hc1 k hlt
      have hx := V.out.pl.abs (k := k) (by rw [V.out.len]; exact hlt)
      have hc := run_toD hx.fin
      have ha := run_addD (T := 54) (wide_abs V.out.pl (by rw [V.out.len]; exact V.out.le) k (by rw [V.out.len]; omega)).fin (toD_dx hx.fin).1
      clear hc1 hx
      go_wp2
      refine ⟨⟨k + 1, by omega, by go_num, rfl⟩, by simp [intOf]; omega⟩
    · obtain rfl : k = n := by omega
      have hc := run_toS (wide_fin V.out.pl (by rw [V.out.len]; exact V.out.le)).1
      rw [V.out.len] at hc
      go_wp2
      go_ret
      exact ⟨rfl, rfl⟩
theorem c_l06Wide (a : Option Addr) (n ca : Nat) (xs : List Nat) (w : World) (hv : VL w a n xs) :
    Calls Try.prog 44 #[.slice a n ca] w fun e w' => e = .returned (.float .f32 (wideOf xs)) ∧ w = w' := by
  have hn := hv.le
  have V := hid hv
  clear hv
  go_enter Try.func44, Try.ntmps44
  go_wp2
  go_loop [3, 4] (fun s i => ∃ k : Nat, k ≤ n ∧ i = .int .i64 k ∧ s = .float .f64 (wideK xs k)) (fun _ i => n - (intOf i).toNat)
  case atStart => exact ⟨0, by omega, rfl, rfl⟩
  case round =>
    obtain ⟨k, hk, rfl, rfl⟩ := hrel
    by_cases hlt : k < n
    · obtain ⟨b1, o1, rfl, hc1⟩ := V.out.fl.at_ (by omega)
      have h1 := hc1 k hlt
      have hx := V.out.pl.abs (k := k) (by rw [V.out.len]; exact hlt)
      have hc := run_toD hx.fin
      have ha := run_addD (T := 54) (wide_abs V.out.pl (by rw [V.out.len]; exact V.out.le) k (by rw [V.out.len]; omega)).fin (toD_dx hx.fin).1
      clear hc1 hx
      go_wp2
      refine ⟨⟨k + 1, by omega, by go_num, rfl⟩, by simp [intOf]; omega⟩
    · obtain rfl : k = n := by omega
      have hc := run_toS (wide_fin V.out.pl (by rw [V.out.len]; exact V.out.le)).1
      rw [V.out.len] at hc
      go_wp2
      go_ret
      exact ⟨rfl, rfl⟩
theorem sl_size (w : World) : (sizeOf (Try.prog.elem 24)).run Try.prog w = .ok 1 w := by kernel_rfl
theorem sl_und : Try.prog.underlying 24 = some (.slice (Try.prog.elem 24)) := by kernel_rfl
theorem sl_to (b o n c q : Nat) (hq : q ≤ c) (w : World) :
    (Instr.slice 24 (.slice (some ⟨b, o, none⟩) n c) none (some (.int .i64 q)) none).run Try.prog w = .ok (.slice (some ⟨b, o, none⟩) q c) w := by
  rw [run_slice_h w 24 _ _ _ sl_und .i64 q (by omega) (by omega), sl_size]
  simp only [Result.andThen_ok, sliced, Int.toNat_natCast, Nat.sub_zero, Nat.zero_mul]
  have : (⟨b, o, none⟩ : Addr).add 0 = ⟨b, o, none⟩ := rfl
  split <;> simp [this]
theorem sl_from (b o n c q : Nat) (hq : q < n) (hc : n ≤ c) (w : World) :
    (Instr.slice 24 (.slice (some ⟨b, o, none⟩) n c) (some (.int .i64 q)) none none).run Try.prog w = .ok (.slice (some ⟨b, o + q, none⟩) (n - q) (c - q)) w := by
  rw [run_slice_l w 24 _ _ _ sl_und .i64 q (by omega) (by omega), sl_size]
  simp only [Result.andThen_ok, sliced, Int.toNat_natCast, Nat.mul_one]
  rw [if_neg (by omega)]
  have : (⟨b, o, none⟩ : Addr).add q = ⟨b, o + q, none⟩ := by unfold Addr.add; split <;> simp_all
  simp [this]
theorem fat_take {xs : List Nat} {q k : Nat} (h : k < q) : fat (xs.take q) k = fat xs k := by simp [fat, h]
theorem fat_drop {xs : List Nat} {q k : Nat} : fat (xs.drop q) k = fat xs (q + k) := by simp [fat, List.getElem?_drop]
theorem VL.take {w : World} {b o n q : Nat} {xs : List Nat} (h : VL w (some ⟨b, o, none⟩) n xs) (hq : q ≤ n) (h0 : 0 < n) : VL w (some ⟨b, o, none⟩) q (xs.take q) := by
  have hl := h.len
  have hle := h.le
  obtain ⟨b', o', he, hc⟩ := h.fl.at_ h0
  simp only [Option.some.injEq, Addr.mk.injEq] at he
  obtain ⟨rfl, rfl, _⟩ := he
  refine ⟨⟨by simp; omega, by omega, fun k hk => ?_, fun _ => ⟨_, _, rfl, fun k hk => ?_⟩⟩, fun k hk => ?_, by omega⟩
  · rw [fat_take hk]; exact h.fl.word k (by omega)
  · rw [fat_take hk]; exact hc k (by omega)
  · simp at hk; rw [fat_take (by omega)]; exact h.pl k (by omega)
theorem VL.drop {w : World} {b o n q : Nat} {xs : List Nat} (h : VL w (some ⟨b, o, none⟩) n xs) (hq : q ≤ n) (h0 : 0 < n) : VL w (some ⟨b, o + q, none⟩) (n - q) (xs.drop q) := by
  have hl := h.len
  have hle := h.le
  obtain ⟨b', o', he, hc⟩ := h.fl.at_ h0
  simp only [Option.some.injEq, Addr.mk.injEq] at he
  obtain ⟨rfl, rfl, _⟩ := he
  refine ⟨⟨by simp; omega, by omega, fun k hk => ?_, fun _ => ⟨_, _, rfl, fun k hk => ?_⟩⟩, fun k hk => ?_, by omega⟩
  · rw [fat_drop]; exact h.fl.word _ (by omega)
  · rw [fat_drop, Nat.add_assoc]; exact hc _ (by omega)
  · simp at hk; rw [fat_drop]; exact h.pl _ (by omega)
theorem VL.drawn {w : World} {a : Option Addr} {n : Nat} {xs : List Nat} (h : VL w a n xs) (q : Nat) : VL (w.drewN q) a n xs := ⟨h.fl.drawn q, h.pl, h.le⟩
theorem quiet_pairs {P : Program} {f : FuncId} {args : Array Value} {w : World} {n : Nat} {v : Value}
    (h : Calls P f args (w.drewN n) fun e w' => e = .returned v ∧ ∃ m, w' = (w.drewN n).drewN m) : Calls P f args (w.drewN n) fun e w'' => e = .returned v ∧ ∃ m, w'' = w.drewN m := Calls.quiet_of h
theorem c_l06Pairs : ∀ (n : Nat) (a : Option Addr) (ca : Nat) (xs : List Nat) (w : World), VL w a n xs → n ≤ ca →
    Calls Try.prog 42 #[.slice a n ca] w fun e w' => e = .returned (.float .f32 (pairsOf xs)) ∧ ∃ m, w' = w.drewN m := by
  intro n
  induction n using Nat.strongRecOn with
  | ind n ih =>
    intro a ca xs w hv hc
    have hn := hv.le
    have V := hid hv
    have IH := hid ih
    clear hv ih
    by_cases h0 : n = 0
    · subst h0
      go_enter Try.func42, Try.ntmps42
      go_wp2
      go_ret
      exact ⟨ret_float (by rw [pairsOf, if_pos V.out.len]), 0, rfl⟩
    · obtain ⟨b1, o1, rfl, hc1⟩ := V.out.fl.at_ (by omega)
      by_cases h1 : n = 1
      · subst h1
        have hq : w.cell? ⟨b1, o1, none⟩ = some (.float .f32 (fat xs 0)) := hc1 0 (by omega)
        clear hc1
        go_enter Try.func42, Try.ntmps42
        go_wp2
        go_ret
        exact ⟨ret_float (by rw [pairsOf, if_neg (by rw [V.out.len]; omega), dif_pos (by rw [V.out.len]; omega)]), 0, rfl⟩
      · clear hc1
        have e0 : ((n : Int) == 0) = false := by simp; omega
        have e1 : ((n : Int) == 1) = false := by simp; omega
        have C1 := hid (fun wx hv => IH.out (n / 2) (by omega) (some ⟨b1, o1, none⟩) ca (xs.take (n / 2)) wx hv (by omega))
        have C2 := hid (fun wx hv => IH.out (n - n / 2) (by omega) (some ⟨b1, o1 + n / 2, none⟩) (ca - n / 2) (xs.drop (n / 2)) wx hv (by omega))
        have V1 := hid (V.out.take (q := n / 2) (by omega) (by omega))
        have V2 := hid (V.out.drop (q := n / 2) (by omega) (by omega))
        have hp : pairsOf xs = fadd (pairsOf (xs.take (n / 2))) (pairsOf (xs.drop (n / 2))) := by
          rw [pairsOf, if_neg (by rw [V.out.len]; omega), dif_neg (by rw [V.out.len]; omega), V.out.len]
        have ha := run_add (T := 26) (pairs_abs _ V1.out.len V1.out.pl (by omega)).fin (pairs_abs _ V2.out.len V2.out.pl (by omega)).fin
        rw [← hp] at ha
        have hs1 := sl_to b1 o1 n ca (n / 2) (by omega)
        have hs2 := sl_from b1 o1 n ca (n / 2) (by omega) hc
        have hw : IntKind.i64.wrap ((n : Int) / 2) = ((n / 2 : Nat) : Int) := by rw [IntWalk.i64_in] <;> omega
        have Hc := hid hc
        clear hp hc
        generalize n / 2 = q at *
        generalize pairsOf (xs.take q) = p1 at *
        generalize pairsOf (xs.drop q) = p2 at *
        go_enter Try.func42, Try.ntmps42
        go_wp2
        go_quiet ((first | (go_at_call 42; (with_reducible exact quiet_pairs (C1.out _ (V1.out.drawn _)))) | (go_at_call 42; (with_reducible exact quiet_pairs (C2.out _ (V2.out.drawn _))))))
        go_wp2
        go_ret
        exact ⟨rfl, _, rfl⟩
theorem c_pairs : ∀ (n : Nat) (a : Option Addr) (ca : Nat) (xs : List Nat) (w : World), VL w a n xs → n ≤ ca →
    Calls Try.prog 35 #[.slice a n ca] w fun e w' => e = .returned (.float .f32 (pairsOf xs)) ∧ ∃ m, w' = w.drewN m := by
  intro n
  induction n using Nat.strongRecOn with
  | ind n ih =>
    intro a ca xs w hv hc
    have hn := hv.le
    have V := hid hv
    have IH := hid ih
    clear hv ih
    by_cases h0 : n = 0
    · subst h0
      go_enter Try.func35, Try.ntmps35
      go_wp2
      go_ret
      exact ⟨ret_float (by rw [pairsOf, if_pos V.out.len]), 0, rfl⟩
    · obtain ⟨b1, o1, rfl, hc1⟩ := V.out.fl.at_ (by omega)
      by_cases h1 : n = 1
      · subst h1
        have hq : w.cell? ⟨b1, o1, none⟩ = some (.float .f32 (fat xs 0)) := hc1 0 (by omega)
        clear hc1
        go_enter Try.func35, Try.ntmps35
        go_wp2
        go_ret
        exact ⟨ret_float (by rw [pairsOf, if_neg (by rw [V.out.len]; omega), dif_pos (by rw [V.out.len]; omega)]), 0, rfl⟩
      · clear hc1
        have e0 : ((n : Int) == 0) = false := by simp; omega
        have e1 : ((n : Int) == 1) = false := by simp; omega
        have C1 := hid (fun wx hv => IH.out (n / 2) (by omega) (some ⟨b1, o1, none⟩) ca (xs.take (n / 2)) wx hv (by omega))
        have C2 := hid (fun wx hv => IH.out (n - n / 2) (by omega) (some ⟨b1, o1 + n / 2, none⟩) (ca - n / 2) (xs.drop (n / 2)) wx hv (by omega))
        have V1 := hid (V.out.take (q := n / 2) (by omega) (by omega))
        have V2 := hid (V.out.drop (q := n / 2) (by omega) (by omega))
        have hp : pairsOf xs = fadd (pairsOf (xs.take (n / 2))) (pairsOf (xs.drop (n / 2))) := by
          rw [pairsOf, if_neg (by rw [V.out.len]; omega), dif_neg (by rw [V.out.len]; omega), V.out.len]
        have ha := run_add (T := 26) (pairs_abs _ V1.out.len V1.out.pl (by omega)).fin (pairs_abs _ V2.out.len V2.out.pl (by omega)).fin
        rw [← hp] at ha
        have hs1 := sl_to b1 o1 n ca (n / 2) (by omega)
        have hs2 := sl_from b1 o1 n ca (n / 2) (by omega) hc
        have hw : IntKind.i64.wrap ((n : Int) / 2) = ((n / 2 : Nat) : Int) := by rw [IntWalk.i64_in] <;> omega
        have Hc := hid hc
        clear hp hc
        generalize n / 2 = q at *
        generalize pairsOf (xs.take q) = p1 at *
        generalize pairsOf (xs.drop q) = p2 at *
        go_enter Try.func35, Try.ntmps35
        go_wp2
        go_quiet ((first | (go_at_call 35; (with_reducible exact quiet_pairs (C1.out _ (V1.out.drawn _)))) | (go_at_call 35; (with_reducible exact quiet_pairs (C2.out _ (V2.out.drawn _))))))
        go_wp2
        go_ret
        exact ⟨rfl, _, rfl⟩
end Go.Proofs.Ytpaoccnffmngfaa
