/- Means, squares off the mean, and products of two lists: what is computed, that it is finite, and the walks. -/
import Derived.Test.YtpaoccnffmngfaaSums
import Derived.Test.YtpaoccnffmngfaaDiv
namespace Go.Proofs.Ytpaoccnffmngfaa
set_option maxRecDepth 20000
open Go.RowKit

/-- A count as a word. -/
def ofN (n : Nat) : Nat := floatOfInt .f32 (n : Int)
theorem ofN_ok {n : Nat} (h : 1 ≤ n) (h' : n ≤ 48) : isFin (ofN n) = true ∧ (2 : Int) ^ 149 ≤ fx (ofN n) := by
  have h0 : ((List.range 49).all fun k => decide (k = 0) || (isFin (ofN k) && decide ((2 : Int) ^ 149 ≤ fx (ofN k)))) = true := by decide +kernel
  have h1 := List.all_eq_true.1 h0 n (List.mem_range.2 (by omega))
  simp only [Bool.or_eq_true, decide_eq_true_eq, Bool.and_eq_true] at h1
  rcases h1 with h1 | h1
  · omega
  · exact h1
theorem run_div {T : TypeId} {x y : Nat} (hx : isFin x = true) (hy : isFin y = true) (h : (2 : Int) ^ 149 ≤ fx y) (w : World) : (binOp .quo T (.float .f32 x) (.float .f32 y)).run Try.prog w = .ok (.float .f32 (fdiv x y)) w :=
  run_float_arith w .quo T .f32 x y _ (div_fin hx hy (Int.lt_of_lt_of_le (Int.pow_pos (by omega)) h)).1
def meanOf (xs : List Nat) : Nat := fdiv (leftOf xs) (ofN xs.length)
theorem bl_48 : ∀ k, k ≤ 48 → bl k ≤ bl 48 := by
  have h : ((List.range 49).all fun k => decide (bl k ≤ bl 48)) = true := by decide +kernel
  intro k hk
  have := List.all_eq_true.1 h k (List.mem_range.2 (by omega))
  simpa using this
theorem mean_abs {xs : List Nat} (h : Plains xs) (hn : xs.length ≤ 48) (h1 : 1 ≤ xs.length) : AbsLe (meanOf xs) (bl 48) := by
  obtain ⟨f, g⟩ := ofN_ok h1 hn
  exact ((left_abs h hn _ (Nat.le_refl _)).mono (bl_48 _ hn) (bl_ok 48 (by omega))).div f g
/-- 2 ^ 53 as a word. -/
def QW : Nat := 1509949440
def bs : Nat → Nat
  | 0 => 0
  | k + 1 => up (bs k) QW
theorem bs_ok : ∀ k, k ≤ 48 → bs k < 2139095040 := by
  have h : ((List.range 49).all fun k => decide (bs k < 2139095040)) = true := by decide +kernel
  intro k hk
  have := List.all_eq_true.1 h k (List.mem_range.2 (by omega))
  simpa using this
def sqK (xs : List Nat) (m : Nat) : Nat → Nat
  | 0 => 0
  | k + 1 => fadd (sqK xs m k) (fmul (fsub (fat xs k) m) (fsub (fat xs k) m))
def squareOf (xs : List Nat) : Nat := fdiv (sqK xs (meanOf xs) xs.length) (ofN xs.length)
theorem sq_one {x m : Nat} (hx : AbsLe x PW) (hm : AbsLe m (bl 48)) : AbsLe (fsub x m) (up PW (bl 48)) ∧ AbsLe (fmul (fsub x m) (fsub x m)) QW := by
  have d := hx.sub hm (by decide +kernel)
  exact ⟨d, d.mul d (by decide +kernel) (by decide +kernel)⟩
theorem sq_abs {xs : List Nat} {m : Nat} (h : Plains xs) (hn : xs.length ≤ 48) (hm : AbsLe m (bl 48)) : ∀ k, k ≤ xs.length → AbsLe (sqK xs m k) (bs k)
  | 0, _ => abs_zero
  | k + 1, hk => (sq_abs h hn hm k (by omega)).add (sq_one (h.abs (by omega)) hm).2 (bs_ok (k + 1) (by omega))
/-- 2 ^ 40 as a word. -/
def RW : Nat := 1400897536
def bd : Nat → Nat
  | 0 => 0
  | k + 1 => up (bd k) RW
theorem bd_ok : ∀ k, k ≤ 48 → bd k < 2139095040 := by
  have h : ((List.range 49).all fun k => decide (bd k < 2139095040)) = true := by decide +kernel
  intro k hk
  have := List.all_eq_true.1 h k (List.mem_range.2 (by omega))
  simpa using this
def dotK (xs ys : List Nat) : Nat → Nat
  | 0 => 0
  | k + 1 => fadd (dotK xs ys k) (fmul (fat xs k) (fat ys k))
theorem dot_one {x y : Nat} (hx : AbsLe x PW) (hy : AbsLe y PW) : AbsLe (fmul x y) RW := hx.mul hy (by decide +kernel) (by decide +kernel)
theorem dot_abs {xs ys : List Nat} (h : Plains xs) (h' : Plains ys) (hn : xs.length ≤ 48) (he : xs.length = ys.length) : ∀ k, k ≤ xs.length → AbsLe (dotK xs ys k) (bd k)
  | 0, _ => abs_zero
  | k + 1, hk => (dot_abs h h' hn he k (by omega)).add (dot_one (h.abs (by omega)) (h'.abs (by omega))) (bd_ok (k + 1) (by omega))
theorem code_ten {xs : List Nat} {n : Nat} (h : validL xs = true) (hl : xs.length = n) (hn : 1 ≤ n) : codeL xs 1 = 0 := by subst hl; simp [codeL, h]; intro e; simp [e] at hn
theorem code_six {xs : List Nat} (h : validL xs = true) (hl : xs.length = 0) : codeL xs 1 = 6 := by simp [codeL, h, hl]
theorem code_one {xs : List Nat} {n : Nat} (hl : xs.length = n) : codeL xs 1 = 0 → validL xs = true ∧ 1 ≤ n := by
  intro h
  unfold codeL at h
  split at h
  · next hv => split at h <;> first | exact ⟨hv, by omega⟩ | omega
  · omega
def someN (f : List Nat → Nat) (xs : List Nat) : Nat := if codeL xs 1 = 0 then f xs else 0
theorem fin_meanOf {w : World} {a : Option Addr} {n : Nat} {xs : List Nat} (h : Flts w a n xs) : isFin (someN meanOf xs) = true := by
  unfold someN
  split
  · next hc =>
    obtain ⟨hv, hp⟩ := code_one h.len hc
    have V := VL.of h hv
    exact (mean_abs V.pl (by rw [V.len]; exact V.le) (by rw [V.len]; exact hp)).fin
  · decide
theorem fin_squareOf {w : World} {a : Option Addr} {n : Nat} {xs : List Nat} (h : Flts w a n xs) : isFin (someN squareOf xs) = true := by
  unfold someN
  split
  · next hc =>
    obtain ⟨hv, hp⟩ := code_one h.len hc
    have V := VL.of h hv
    have hl : xs.length ≤ 48 := by rw [V.len]; exact V.le
    have h1 : 1 ≤ xs.length := by rw [V.len]; exact hp
    obtain ⟨f, g⟩ := ofN_ok h1 hl
    exact ((sq_abs V.pl hl (mean_abs V.pl hl h1) _ (Nat.le_refl _)).div f g).fin
  · decide
def doC (xs ys : List Nat) : Int := if validL xs && validL ys then (if xs.length = ys.length then 0 else 2) else 1
def doN (xs ys : List Nat) : Nat := if doC xs ys = 0 then dotK xs ys xs.length else 0
theorem doN_fin {w w2 : World} {a b : Option Addr} {n m : Nat} {xs ys : List Nat} (hx : Flts w a n xs) (hy : Flts w2 b m ys) : isFin (doN xs ys) = true := by
  unfold doN
  split
  · next h =>
    unfold doC at h
    split at h
    · next hv =>
      split at h
      · next he =>
        simp only [Bool.and_eq_true] at hv
        have V1 := VL.of hx hv.1
        have V2 := VL.of hy hv.2
        exact (dot_abs V1.pl V2.pl (by rw [V1.len]; exact V1.le) he _ (Nat.le_refl _)).fin
      · omega
    · omega
  · decide
theorem c_implDotOf (a b : Option Addr) (n m ca cb : Nat) (xs ys : List Nat) (w : World) (hx : Flts w a n xs) (hy : Flts w b m ys) :
    Calls Try.prog 28 #[.slice a n ca, .slice b m cb] w fun e w' => e = .returned (.tuple #[.float .f32 (doN xs ys), .int .i64 (doC xs ys)]) ∧ Below w.heap.size w w' := by
  have hs := hx.small
  have hs2 := hy.small
  have X := hid hx
  have Y := hid hy
  clear hx hy
  cases hv : validL xs
  case false =>
    go_enter Try.func28, Try.ntmps28
    go_wp2_with (go_at_call 49; refine (c_implValidList _ _ _ _ _ X.out).mono ?_; rintro e w' ⟨rfl, rfl⟩)
    go_ret2
    exact ⟨by simp [doN, doC, hv], Below.refl _ _⟩
  case true =>
    cases hv2 : validL ys
    case false =>
      go_enter Try.func28, Try.ntmps28
      go_wp2_with fail
      refine (c_implValidList _ _ _ _ _ X.out).mono ?_
      rintro e w' ⟨rfl, rfl⟩
      go_wp2_with fail
      refine (c_implValidList _ _ _ _ _ Y.out).mono ?_
      rintro e w' ⟨rfl, rfl⟩
      go_wp2
      go_ret2
      exact ⟨by simp [doN, doC, hv, hv2], Below.refl _ _⟩
    case true =>
      have V := hid (VL.of X.out hv)
      have V2 := hid (VL.of Y.out hv2)
      have hn := V.out.le
      by_cases he : n = m
      · subst he
        have eL : Hid (xs.length = ys.length) := hid (by rw [V.out.len, V2.out.len])
        go_enter Try.func28, Try.ntmps28
        go_wp2_with fail
        refine (c_implValidList _ _ _ _ _ X.out).mono ?_
        rintro e w' ⟨rfl, rfl⟩
        go_wp2_with fail
        refine (c_implValidList _ _ _ _ _ Y.out).mono ?_
        rintro e w' ⟨rfl, rfl⟩
        go_wp2
        go_loopw [6, 26] (fun s i wr => ∃ k : Nat, k ≤ n ∧ i = .int .i64 k ∧ s = .float .f32 (dotK xs ys k) ∧ Below w.heap.size w wr) (fun _ i _ => n - (intOf i).toNat)
        case atStart => exact ⟨0, by omega, rfl, rfl, Below.refl _ _⟩
        case round =>
          obtain ⟨k, hk, rfl, rfl, hbel⟩ := hrel
          have B := hid hbel
          clear hbel
          by_cases hlt : k < n
          · obtain ⟨b1, o1, rfl, hc1⟩ := (V.out.fl.below B.out).at_ (by omega)
            obtain ⟨b2, o2, rfl, hc2⟩ := (V2.out.fl.below B.out).at_ (by omega)
            have h1 := hc1 k hlt
            have h2 := hc2 k hlt
            have x1 := V.out.pl.abs (k := k) (by rw [V.out.len]; exact hlt)
            have x2 := V2.out.pl.abs (k := k) (by rw [V2.out.len]; exact hlt)
            have r2 := run_mul (T := 26) x1.fin x2.fin
            have r3 := run_add (T := 26) (dot_abs V.out.pl V2.out.pl (by rw [V.out.len]; exact hn) eL.out k (by rw [V.out.len]; omega)).fin (dot_one x1 x2).fin
            clear hc1 hc2 x1 x2
            go_wp2
            refine ⟨⟨k + 1, by omega, by go_num, by rw [dotK], ?_⟩, by simp [intOf]; omega⟩
            first | with_reducible exact B.out | exact below_drawn B.out _
          · obtain rfl : k = n := by omega
            go_wp2
            go_ret2
            exact ⟨by simp [doN, doC, hv, hv2, eL.out, V2.out.len], B.out⟩
      · have hne : ((n : Int) != (m : Int)) = true := by rw [bne_iff_ne]; omega
        have eL : Hid (¬ xs.length = ys.length) := hid (by rw [V.out.len, V2.out.len]; exact he)
        go_enter Try.func28, Try.ntmps28
        go_wp2_with fail
        refine (c_implValidList _ _ _ _ _ X.out).mono ?_
        rintro e w' ⟨rfl, rfl⟩
        go_wp2_with fail
        refine (c_implValidList _ _ _ _ _ Y.out).mono ?_
        rintro e w' ⟨rfl, rfl⟩
        go_wp2
        go_ret2
        exact ⟨by simp [doN, doC, hv, hv2, eL.out], Below.refl _ _⟩
theorem c_specDotOf (a b : Option Addr) (n m ca cb : Nat) (xs ys : List Nat) (w : World) (hx : Flts w a n xs) (hy : Flts w b m ys) :
    Calls Try.prog 29 #[.slice a n ca, .slice b m cb] w fun e w' => e = .returned (.tuple #[.float .f32 (doN xs ys), .int .i64 (doC xs ys)]) ∧ Below w.heap.size w w' := by
  have hs := hx.small
  have hs2 := hy.small
  have X := hid hx
  have Y := hid hy
  clear hx hy
  cases hv : validL xs
  case false =>
    go_enter Try.func29, Try.ntmps29
    go_wp2_with (go_at_call 51; refine (c_l06Ok _ _ _ _ _ X.out).mono ?_; rintro e w' ⟨rfl, rfl⟩)
    go_ret2
    exact ⟨by simp [doN, doC, hv], Below.refl _ _⟩
  case true =>
    cases hv2 : validL ys
    case false =>
      go_enter Try.func29, Try.ntmps29
      go_wp2_with fail
      refine (c_l06Ok _ _ _ _ _ X.out).mono ?_
      rintro e w' ⟨rfl, rfl⟩
      go_wp2_with fail
      refine (c_l06Ok _ _ _ _ _ Y.out).mono ?_
      rintro e w' ⟨rfl, rfl⟩
      go_wp2
      go_ret2
      exact ⟨by simp [doN, doC, hv, hv2], Below.refl _ _⟩
    case true =>
      have V := hid (VL.of X.out hv)
      have V2 := hid (VL.of Y.out hv2)
      have hn := V.out.le
      by_cases he : n = m
      · subst he
        have eL : Hid (xs.length = ys.length) := hid (by rw [V.out.len, V2.out.len])
        go_enter Try.func29, Try.ntmps29
        go_wp2_with fail
        refine (c_l06Ok _ _ _ _ _ X.out).mono ?_
        rintro e w' ⟨rfl, rfl⟩
        go_wp2_with fail
        refine (c_l06Ok _ _ _ _ _ Y.out).mono ?_
        rintro e w' ⟨rfl, rfl⟩
        go_wp2
        go_loopw [6, 7] (fun s i wr => ∃ k : Nat, k ≤ n ∧ i = .int .i64 k ∧ s = .float .f32 (dotK xs ys k) ∧ Below w.heap.size w wr) (fun _ i _ => n - (intOf i).toNat)
        case atStart => exact ⟨0, by omega, rfl, rfl, Below.refl _ _⟩
        case round =>
          obtain ⟨k, hk, rfl, rfl, hbel⟩ := hrel
          have B := hid hbel
          clear hbel
          by_cases hlt : k < n
          · obtain ⟨b1, o1, rfl, hc1⟩ := (V.out.fl.below B.out).at_ (by omega)
            obtain ⟨b2, o2, rfl, hc2⟩ := (V2.out.fl.below B.out).at_ (by omega)
            have h1 := hc1 k hlt
            have h2 := hc2 k hlt
            have x1 := V.out.pl.abs (k := k) (by rw [V.out.len]; exact hlt)
            have x2 := V2.out.pl.abs (k := k) (by rw [V2.out.len]; exact hlt)
            have r2 := run_mul (T := 26) x1.fin x2.fin
            have r3 := run_add (T := 26) (dot_abs V.out.pl V2.out.pl (by rw [V.out.len]; exact hn) eL.out k (by rw [V.out.len]; omega)).fin (dot_one x1 x2).fin
            clear hc1 hc2 x1 x2
            go_wp2
            go_quiet (fail)
            go_wp2
            refine ⟨⟨k + 1, by omega, by go_num, by rw [dotK], ?_⟩, by simp [intOf]; omega⟩
            first | with_reducible exact B.out | exact below_drawn B.out _
          · obtain rfl : k = n := by omega
            go_wp2
            go_ret2
            exact ⟨by simp [doN, doC, hv, hv2, eL.out, V2.out.len], B.out⟩
      · have hne : ((n : Int) != (m : Int)) = true := by rw [bne_iff_ne]; omega
        have eL : Hid (¬ xs.length = ys.length) := hid (by rw [V.out.len, V2.out.len]; exact he)
        go_enter Try.func29, Try.ntmps29
        go_wp2_with fail
        refine (c_l06Ok _ _ _ _ _ X.out).mono ?_
        rintro e w' ⟨rfl, rfl⟩
        go_wp2_with fail
        refine (c_l06Ok _ _ _ _ _ Y.out).mono ?_
        rintro e w' ⟨rfl, rfl⟩
        go_wp2
        go_ret2
        exact ⟨by simp [doN, doC, hv, hv2, eL.out], Below.refl _ _⟩
end Go.Proofs.Ytpaoccnffmngfaa
