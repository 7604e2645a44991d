/- Walks of the functions that give a sum of a list and its code, the program's and the reference's. -/
import Derived.Test.YtpaoccnffmngfaaSumW
namespace Go.Proofs.Ytpaoccnffmngfaa
set_option maxRecDepth 20000
open Go.RowKit

def sumN (f : List Nat → Nat) (xs : List Nat) : Nat := if validL xs then f xs else 0
theorem sumN_yes {f : List Nat → Nat} {xs : List Nat} (h : validL xs = true) : sumN f xs = f xs := by simp [sumN, h]
theorem sumN_no {f : List Nat → Nat} {xs : List Nat} (h : validL xs = false) : sumN f xs = 0 := by simp [sumN, h]
theorem fin_zero : isFin 0 = true := by decide
theorem fin_left {w : World} {a : Option Addr} {n : Nat} {xs : List Nat} (h : Flts w a n xs) : isFin (sumN leftOf xs) = true := by
  cases hv : validL xs
  · rw [sumN_no hv]; exact fin_zero
  · have V := VL.of h hv
    rw [sumN_yes hv]; exact (left_abs V.pl (by rw [V.len]; exact V.le) _ (Nat.le_refl _)).fin
theorem fin_right {w : World} {a : Option Addr} {n : Nat} {xs : List Nat} (h : Flts w a n xs) : isFin (sumN rightOf xs) = true := by
  cases hv : validL xs
  · rw [sumN_no hv]; exact fin_zero
  · have V := VL.of h hv
    rw [sumN_yes hv]; exact (right_abs V.pl (by rw [V.len]; exact V.le) _ (Nat.le_refl _)).fin
theorem fin_kept {w : World} {a : Option Addr} {n : Nat} {xs : List Nat} (h : Flts w a n xs) : isFin (sumN keptOf xs) = true := by
  cases hv : validL xs
  · rw [sumN_no hv]; exact fin_zero
  · have V := VL.of h hv
    rw [sumN_yes hv]; exact (kept_abs V.pl (by rw [V.len]; exact V.le) _ (Nat.le_refl _)).1.fin
theorem fin_wide {w : World} {a : Option Addr} {n : Nat} {xs : List Nat} (h : Flts w a n xs) : isFin (sumN wideOf xs) = true := by
  cases hv : validL xs
  · rw [sumN_no hv]; exact fin_zero
  · have V := VL.of h hv
    rw [sumN_yes hv]; exact (wide_fin V.pl (by rw [V.len]; exact V.le)).2.fin
theorem fin_pairs {w : World} {a : Option Addr} {n : Nat} {xs : List Nat} (h : Flts w a n xs) : isFin (sumN pairsOf xs) = true := by
  cases hv : validL xs
  · rw [sumN_no hv]; exact fin_zero
  · have V := VL.of h hv
    rw [sumN_yes hv]; exact (pairs_abs _ V.len V.pl V.le).fin
theorem code_no {xs : List Nat} {k : Nat} (h : validL xs = false) : codeL xs k = 1 := by simp [codeL, h]
theorem code_yes {xs : List Nat} (h : validL xs = true) : codeL xs 0 = 0 := by simp [codeL, h]
theorem c_summed_Left (a : Option Addr) (n ca : Nat) (xs : List Nat) (w : World) (hx : Flts w a n xs) :
    Calls Try.prog 32 #[.slice a n ca, .func (.func 33) #[] #[]] w fun e w' => e = .returned (.tuple #[.float .f32 (sumN leftOf xs), .int .i64 (codeL xs 0)]) ∧ Below w.heap.size w w' := by
  have X := hid hx
  clear hx
  cases hv : validL xs
  · have C := hid (code_no (k := 0) hv)
    go_enter Try.func32, Try.ntmps32
    go_wp2_with fail
    refine (c_listCode a n ca xs _ X.out).mono ?_
    rintro e w' ⟨rfl, rfl⟩
    rw [C.out]
    go_wp2
    go_ret2
    exact ⟨by rw [sumN_no hv, C.out]; rfl, Below.refl _ _⟩
  · have C := hid (code_yes hv)
    have V := hid (VL.of X.out hv)
    go_enter Try.func32, Try.ntmps32
    go_wp2_with fail
    refine (c_listCode a n ca xs _ X.out).mono ?_
    rintro e w' ⟨rfl, rfl⟩
    rw [C.out]
    go_wp2_with (go_at_call 33; refine (c_left a n ca xs _ (V.out)).mono ?_; rintro e w' ⟨rfl, rfl⟩)
    go_ret2
    exact ⟨by rw [sumN_yes hv, C.out]; rfl, (Below.refl _ _)⟩
theorem c_specSumLeft (a : Option Addr) (n ca : Nat) (xs : List Nat) (w : World) (hx : Flts w a n xs) :
    Calls Try.prog 12 #[.slice a n ca] w fun e w' => e = .returned (.tuple #[.float .f32 (sumN leftOf xs), .int .i64 (codeL xs 0)]) ∧ Below w.heap.size w w' := by
  have X := hid hx
  clear hx
  cases hv : validL xs
  · have C := hid (code_no (k := 0) hv)
    go_enter Try.func12, Try.ntmps12
    go_wp2_with fail
    refine (c_l06Code a n ca xs 0 (by omega) _ X.out).mono ?_
    rintro e w' ⟨rfl, rfl⟩
    rw [C.out]
    go_wp2
    go_ret2
    exact ⟨by rw [sumN_no hv, C.out]; rfl, Below.refl _ _⟩
  · have C := hid (code_yes hv)
    have V := hid (VL.of X.out hv)
    go_enter Try.func12, Try.ntmps12
    go_wp2_with fail
    refine (c_l06Code a n ca xs 0 (by omega) _ X.out).mono ?_
    rintro e w' ⟨rfl, rfl⟩
    rw [C.out]
    go_wp2_with (go_at_call 40; refine (c_l06Left a n ca xs _ (V.out)).mono ?_; rintro e w' ⟨rfl, rfl⟩)
    go_ret2
    exact ⟨by rw [sumN_yes hv, C.out]; rfl, (Below.refl _ _)⟩
theorem c_implSumLeft (a : Option Addr) (n ca : Nat) (xs : List Nat) (w : World) (hx : Flts w a n xs) :
    Calls Try.prog 6 #[.slice a n ca] w fun e w' => e = .returned (.tuple #[.float .f32 (sumN leftOf xs), .int .i64 (codeL xs 0)]) ∧ Below w.heap.size w w' := by
  have X := hid hx
  clear hx
  go_enter Try.func6, Try.ntmps6
  go_wp2_with fail
  refine (c_summed_Left a n ca xs _ X.out).mono ?_
  rintro e w' ⟨rfl, hb⟩
  have Hb := hid hb
  clear hb
  go_wp2
  go_ret2
  exact ⟨rfl, Hb.out⟩
theorem c_summed_Kept (a : Option Addr) (n ca : Nat) (xs : List Nat) (w : World) (hx : Flts w a n xs) :
    Calls Try.prog 32 #[.slice a n ca, .func (.func 36) #[] #[]] w fun e w' => e = .returned (.tuple #[.float .f32 (sumN keptOf xs), .int .i64 (codeL xs 0)]) ∧ Below w.heap.size w w' := by
  have X := hid hx
  clear hx
  cases hv : validL xs
  · have C := hid (code_no (k := 0) hv)
    go_enter Try.func32, Try.ntmps32
    go_wp2_with fail
    refine (c_listCode a n ca xs _ X.out).mono ?_
    rintro e w' ⟨rfl, rfl⟩
    rw [C.out]
    go_wp2
    go_ret2
    exact ⟨by rw [sumN_no hv, C.out]; rfl, Below.refl _ _⟩
  · have C := hid (code_yes hv)
    have V := hid (VL.of X.out hv)
    go_enter Try.func32, Try.ntmps32
    go_wp2_with fail
    refine (c_listCode a n ca xs _ X.out).mono ?_
    rintro e w' ⟨rfl, rfl⟩
    rw [C.out]
    go_wp2_with (go_at_call 36; refine (c_kept a n ca xs _ (V.out)).mono ?_; rintro e w' ⟨rfl, rfl⟩)
    go_ret2
    exact ⟨by rw [sumN_yes hv, C.out]; rfl, (Below.refl _ _)⟩
theorem c_specSumKept (a : Option Addr) (n ca : Nat) (xs : List Nat) (w : World) (hx : Flts w a n xs) :
    Calls Try.prog 15 #[.slice a n ca] w fun e w' => e = .returned (.tuple #[.float .f32 (sumN keptOf xs), .int .i64 (codeL xs 0)]) ∧ Below w.heap.size w w' := by
  have X := hid hx
  clear hx
  cases hv : validL xs
  · have C := hid (code_no (k := 0) hv)
    go_enter Try.func15, Try.ntmps15
    go_wp2_with fail
    refine (c_l06Code a n ca xs 0 (by omega) _ X.out).mono ?_
    rintro e w' ⟨rfl, rfl⟩
    rw [C.out]
    go_wp2
    go_ret2
    exact ⟨by rw [sumN_no hv, C.out]; rfl, Below.refl _ _⟩
  · have C := hid (code_yes hv)
    have V := hid (VL.of X.out hv)
    go_enter Try.func15, Try.ntmps15
    go_wp2_with fail
    refine (c_l06Code a n ca xs 0 (by omega) _ X.out).mono ?_
    rintro e w' ⟨rfl, rfl⟩
    rw [C.out]
    go_wp2_with (go_at_call 43; refine (c_l06Kept a n ca xs _ (V.out)).mono ?_; rintro e w' ⟨rfl, rfl⟩)
    go_ret2
    exact ⟨by rw [sumN_yes hv, C.out]; rfl, (Below.refl _ _)⟩
theorem c_implSumKept (a : Option Addr) (n ca : Nat) (xs : List Nat) (w : World) (hx : Flts w a n xs) :
    Calls Try.prog 9 #[.slice a n ca] w fun e w' => e = .returned (.tuple #[.float .f32 (sumN keptOf xs), .int .i64 (codeL xs 0)]) ∧ Below w.heap.size w w' := by
  have X := hid hx
  clear hx
  go_enter Try.func9, Try.ntmps9
  go_wp2_with fail
  refine (c_summed_Kept a n ca xs _ X.out).mono ?_
  rintro e w' ⟨rfl, hb⟩
  have Hb := hid hb
  clear hb
  go_wp2
  go_ret2
  exact ⟨rfl, Hb.out⟩
theorem c_summed_Wide (a : Option Addr) (n ca : Nat) (xs : List Nat) (w : World) (hx : Flts w a n xs) :
    Calls Try.prog 32 #[.slice a n ca, .func (.func 37) #[] #[]] w fun e w' => e = .returned (.tuple #[.float .f32 (sumN wideOf xs), .int .i64 (codeL xs 0)]) ∧ Below w.heap.size w w' := by
  have X := hid hx
  clear hx
  cases hv : validL xs
  · have C := hid (code_no (k := 0) hv)
    go_enter Try.func32, Try.ntmps32
    go_wp2_with fail
    refine (c_listCode a n ca xs _ X.out).mono ?_
    rintro e w' ⟨rfl, rfl⟩
    rw [C.out]
    go_wp2
    go_ret2
    exact ⟨by rw [sumN_no hv, C.out]; rfl, Below.refl _ _⟩
  · have C := hid (code_yes hv)
    have V := hid (VL.of X.out hv)
    go_enter Try.func32, Try.ntmps32
    go_wp2_with fail
    refine (c_listCode a n ca xs _ X.out).mono ?_
    rintro e w' ⟨rfl, rfl⟩
    rw [C.out]
    go_wp2_with (go_at_call 37; refine (c_wide a n ca xs _ (V.out)).mono ?_; rintro e w' ⟨rfl, rfl⟩)
    go_ret2
    exact ⟨by rw [sumN_yes hv, C.out]; rfl, (Below.refl _ _)⟩
theorem c_specSumWide (a : Option Addr) (n ca : Nat) (xs : List Nat) (w : World) (hx : Flts w a n xs) :
    Calls Try.prog 16 #[.slice a n ca] w fun e w' => e = .returned (.tuple #[.float .f32 (sumN wideOf xs), .int .i64 (codeL xs 0)]) ∧ Below w.heap.size w w' := by
  have X := hid hx
  clear hx
  cases hv : validL xs
  · have C := hid (code_no (k := 0) hv)
    go_enter Try.func16, Try.ntmps16
    go_wp2_with fail
    refine (c_l06Code a n ca xs 0 (by omega) _ X.out).mono ?_
    rintro e w' ⟨rfl, rfl⟩
    rw [C.out]
    go_wp2
    go_ret2
    exact ⟨by rw [sumN_no hv, C.out]; rfl, Below.refl _ _⟩
  · have C := hid (code_yes hv)
    have V := hid (VL.of X.out hv)
    go_enter Try.func16, Try.ntmps16
    go_wp2_with fail
    refine (c_l06Code a n ca xs 0 (by omega) _ X.out).mono ?_
    rintro e w' ⟨rfl, rfl⟩
    rw [C.out]
    go_wp2_with (go_at_call 44; refine (c_l06Wide a n ca xs _ (V.out)).mono ?_; rintro e w' ⟨rfl, rfl⟩)
    go_ret2
    exact ⟨by rw [sumN_yes hv, C.out]; rfl, (Below.refl _ _)⟩
theorem c_implSumWide (a : Option Addr) (n ca : Nat) (xs : List Nat) (w : World) (hx : Flts w a n xs) :
    Calls Try.prog 10 #[.slice a n ca] w fun e w' => e = .returned (.tuple #[.float .f32 (sumN wideOf xs), .int .i64 (codeL xs 0)]) ∧ Below w.heap.size w w' := by
  have X := hid hx
  clear hx
  go_enter Try.func10, Try.ntmps10
  go_wp2_with fail
  refine (c_summed_Wide a n ca xs _ X.out).mono ?_
  rintro e w' ⟨rfl, hb⟩
  have Hb := hid hb
  clear hb
  go_wp2
  go_ret2
  exact ⟨rfl, Hb.out⟩
theorem c_summed_Pairs (a : Option Addr) (n ca : Nat) (xs : List Nat) (w : World) (hx : Flts w a n xs) (hc : n ≤ ca) :
    Calls Try.prog 32 #[.slice a n ca, .func (.func 35) #[] #[]] w fun e w' => e = .returned (.tuple #[.float .f32 (sumN pairsOf xs), .int .i64 (codeL xs 0)]) ∧ Below w.heap.size w w' := by
  have X := hid hx
  clear hx
  have Hc := hid hc
  clear hc
  cases hv : validL xs
  · have C := hid (code_no (k := 0) hv)
    go_enter Try.func32, Try.ntmps32
    go_wp2_with fail
    refine (c_listCode a n ca xs _ X.out).mono ?_
    rintro e w' ⟨rfl, rfl⟩
    rw [C.out]
    go_wp2
    go_ret2
    exact ⟨by rw [sumN_no hv, C.out]; rfl, Below.refl _ _⟩
  · have C := hid (code_yes hv)
    have V := hid (VL.of X.out hv)
    go_enter Try.func32, Try.ntmps32
    go_wp2_with fail
    refine (c_listCode a n ca xs _ X.out).mono ?_
    rintro e w' ⟨rfl, rfl⟩
    rw [C.out]
    go_wp2_with (go_at_call 35; refine (c_pairs n a ca xs _ (V.out) Hc.out).mono ?_; rintro e w' ⟨rfl, q, rfl⟩)
    go_ret2
    exact ⟨by rw [sumN_yes hv, C.out]; rfl, (below_drawn (Below.refl _ _) _)⟩
theorem c_specSumPairs (a : Option Addr) (n ca : Nat) (xs : List Nat) (w : World) (hx : Flts w a n xs) (hc : n ≤ ca) :
    Calls Try.prog 14 #[.slice a n ca] w fun e w' => e = .returned (.tuple #[.float .f32 (sumN pairsOf xs), .int .i64 (codeL xs 0)]) ∧ Below w.heap.size w w' := by
  have X := hid hx
  clear hx
  have Hc := hid hc
  clear hc
  cases hv : validL xs
  · have C := hid (code_no (k := 0) hv)
    go_enter Try.func14, Try.ntmps14
    go_wp2_with fail
    refine (c_l06Code a n ca xs 0 (by omega) _ X.out).mono ?_
    rintro e w' ⟨rfl, rfl⟩
    rw [C.out]
    go_wp2
    go_ret2
    exact ⟨by rw [sumN_no hv, C.out]; rfl, Below.refl _ _⟩
  · have C := hid (code_yes hv)
    have V := hid (VL.of X.out hv)
    go_enter Try.func14, Try.ntmps14
    go_wp2_with fail
    refine (c_l06Code a n ca xs 0 (by omega) _ X.out).mono ?_
    rintro e w' ⟨rfl, rfl⟩
    rw [C.out]
    go_wp2_with (go_at_call 42; refine (c_l06Pairs n a ca xs _ (V.out) Hc.out).mono ?_; rintro e w' ⟨rfl, q, rfl⟩)
    go_ret2
    exact ⟨by rw [sumN_yes hv, C.out]; rfl, (below_drawn (Below.refl _ _) _)⟩
theorem c_implSumPairs (a : Option Addr) (n ca : Nat) (xs : List Nat) (w : World) (hx : Flts w a n xs) (hc : n ≤ ca) :
    Calls Try.prog 8 #[.slice a n ca] w fun e w' => e = .returned (.tuple #[.float .f32 (sumN pairsOf xs), .int .i64 (codeL xs 0)]) ∧ Below w.heap.size w w' := by
  have X := hid hx
  clear hx
  have Hc := hid hc
  clear hc
  go_enter Try.func8, Try.ntmps8
  go_wp2_with fail
  refine (c_summed_Pairs a n ca xs _ X.out Hc.out).mono ?_
  rintro e w' ⟨rfl, hb⟩
  have Hb := hid hb
  clear hb
  go_wp2
  go_ret2
  exact ⟨rfl, Hb.out⟩
end Go.Proofs.Ytpaoccnffmngfaa
