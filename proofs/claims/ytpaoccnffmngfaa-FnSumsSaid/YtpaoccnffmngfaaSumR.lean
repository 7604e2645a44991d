/- Walks of the functions that give the sum from the last number on. -/
import Derived.Test.YtpaoccnffmngfaaSums
import Derived.Test.YtpaoccnffmngfaaRight
namespace Go.Proofs.Ytpaoccnffmngfaa
set_option maxRecDepth 20000
open Go.RowKit

theorem c_summed_Right (a : Option Addr) (n ca : Nat) (xs : List Nat) (w : World) (hx : Flts w a n xs) :
    Calls Try.prog 32 #[.slice a n ca, .func (.func 34) #[] #[]] w fun e w' => e = .returned (.tuple #[.float .f32 (sumN rightOf xs), .int .i64 (codeL xs 0)]) ∧ Below w.heap.size w w' := by
  have X := hid hx
  clear hx
  cases hv : validL xs
  · have C := hid (code_no (k := 0) hv)
    go_enter Try.func32, Try.ntmps32
    go_wp2_with fail
    refine (c_listCode a n ca xs _ X.out).mono ?_
    rintro e w' ⟨rfl, rfl⟩
    rw [C.out]
    go_wp2
    go_ret2
    exact ⟨by rw [sumN_no hv, C.out]; rfl, Below.refl _ _⟩
  · have C := hid (code_yes hv)
    have V := hid (VL.of X.out hv)
    go_enter Try.func32, Try.ntmps32
    go_wp2_with fail
    refine (c_listCode a n ca xs _ X.out).mono ?_
    rintro e w' ⟨rfl, rfl⟩
    rw [C.out]
    go_wp2_with (go_at_call 34; refine (c_right a n ca xs _ (V.out)).mono ?_; rintro e w' ⟨rfl, hb⟩)
    go_ret2
    exact ⟨by rw [sumN_yes hv, C.out]; rfl, (by assumption)⟩
theorem c_specSumRight (a : Option Addr) (n ca : Nat) (xs : List Nat) (w : World) (hx : Flts w a n xs) :
    Calls Try.prog 13 #[.slice a n ca] w fun e w' => e = .returned (.tuple #[.float .f32 (sumN rightOf xs), .int .i64 (codeL xs 0)]) ∧ Below w.heap.size w w' := by
  have X := hid hx
  clear hx
  cases hv : validL xs
  · have C := hid (code_no (k := 0) hv)
    go_enter Try.func13, Try.ntmps13
    go_wp2_with fail
    refine (c_l06Code a n ca xs 0 (by omega) _ X.out).mono ?_
    rintro e w' ⟨rfl, rfl⟩
    rw [C.out]
    go_wp2
    go_ret2
    exact ⟨by rw [sumN_no hv, C.out]; rfl, Below.refl _ _⟩
  · have C := hid (code_yes hv)
    have V := hid (VL.of X.out hv)
    go_enter Try.func13, Try.ntmps13
    go_wp2_with fail
    refine (c_l06Code a n ca xs 0 (by omega) _ X.out).mono ?_
    rintro e w' ⟨rfl, rfl⟩
    rw [C.out]
    go_wp2_with (go_at_call 41; refine (c_l06Right a n ca xs _ (V.out)).mono ?_; rintro e w' ⟨rfl, rfl⟩)
    go_ret2
    exact ⟨by rw [sumN_yes hv, C.out]; rfl, (Below.refl _ _)⟩
theorem c_implSumRight (a : Option Addr) (n ca : Nat) (xs : List Nat) (w : World) (hx : Flts w a n xs) :
    Calls Try.prog 7 #[.slice a n ca] w fun e w' => e = .returned (.tuple #[.float .f32 (sumN rightOf xs), .int .i64 (codeL xs 0)]) ∧ Below w.heap.size w w' := by
  have X := hid hx
  clear hx
  go_enter Try.func7, Try.ntmps7
  go_wp2_with fail
  refine (c_summed_Right a n ca xs _ X.out).mono ?_
  rintro e w' ⟨rfl, hb⟩
  have Hb := hid hb
  clear hb
  go_wp2
  go_ret2
  exact ⟨rfl, Hb.out⟩
end Go.Proofs.Ytpaoccnffmngfaa
