/- Walks of the small functions on numbers: bounds, parts, plain numbers, sameness, steps. -/
import Derived.Test.YtdcjoafagalejaaDoorBase
namespace Go.Proofs.YtdcjoafagalejaaDoor
set_option maxRecDepth 20000
open Go.RowKit

def fLt (x y : Nat) : Bool := FloatKind.f32.format.order x y == some .lt
def fGt (x y : Nat) : Bool := FloatKind.f32.format.order x y == some .gt
def fEq (x y : Nat) : Bool := FloatKind.f32.format.order x y == some .eq
def fLe (x y : Nat) : Bool := FloatKind.f32.format.order x y == some .lt || FloatKind.f32.format.order x y == some .eq
def fGe (x y : Nat) : Bool := FloatKind.f32.format.order x y == some .gt || FloatKind.f32.format.order x y == some .eq
def isPart (x : Nat) : Bool := fGe x 0 && fLe x 1065353216
def isPlain (x : Nat) : Bool := fGe x 3380609024 && fLe x 1233125376
def inB (n lo hi : Int) : Bool := decide (lo ≤ n) && decide (n ≤ hi)
def stepOf (x : Nat) : Int := if x < 2147483648 then (x : Int) else 2147483648 - (x : Int)
def isNum (x : Nat) : Bool := fEq x x
def sameN (x y : Nat) : Bool := if !isNum x || !isNum y then !isNum x && !isNum y else x == y

theorem c_within (n lo hi : Int) (w : World) :
    Calls Tryd.prog 58 #[.int .i64 n, .int .i64 lo, .int .i64 hi] w fun e w' => e = .returned (.bool (inB n lo hi)) ∧ w = w' := by
  go_enter Tryd.func58, Tryd.ntmps58
  go_wp2
  all_goals (go_ret; refine ⟨ret_bool ?_, rfl⟩; simp_all [inB]; try omega)
theorem c_l00In (n lo hi : Int) (w : World) :
    Calls Tryd.prog 79 #[.int .i64 n, .int .i64 lo, .int .i64 hi] w fun e w' => e = .returned (.bool (inB n lo hi)) ∧ w = w' := by
  go_enter Tryd.func79, Tryd.ntmps79
  go_wp2
  all_goals (go_ret; refine ⟨ret_bool ?_, rfl⟩; simp_all [inB]; try omega)
theorem c_isTilt (n : Int) (w : World) :
    Calls Tryd.prog 59 #[.int .i64 n] w fun e w' => e = .returned (.bool (inB n (-64) 64)) ∧ w = w' := by
  go_enter Tryd.func59, Tryd.ntmps59
  go_wp2_with (go_at_call 58; refine (c_within _ _ _ _).mono ?_; rintro e w' ⟨rfl, rfl⟩)
  go_ret
  exact ⟨rfl, rfl⟩
theorem c_l02Tilt (n : Int) (w : World) :
    Calls Tryd.prog 53 #[.int .i64 n] w fun e w' => e = .returned (.bool (inB n (-64) 64)) ∧ w = w' := by
  go_enter Tryd.func53, Tryd.ntmps53
  go_wp2_with (go_at_call 79; refine (c_l00In _ _ _ _).mono ?_; rintro e w' ⟨rfl, rfl⟩)
  go_ret
  exact ⟨rfl, rfl⟩
theorem c_IsPart (x : Nat) (w : World) :
    Calls Tryd.prog 80 #[.float .f32 x] w fun e w' => e = .returned (.bool (isPart x)) ∧ w = w' := by
  go_enter Tryd.func80, Tryd.ntmps80
  go_wp2
  all_goals (go_ret; refine ⟨ret_bool ?_, rfl⟩; simp_all [isPart, fGe, fLe])
theorem c_l01Part (x : Nat) (w : World) :
    Calls Tryd.prog 78 #[.float .f32 x] w fun e w' => e = .returned (.bool (isPart x)) ∧ w = w' := by
  go_enter Tryd.func78, Tryd.ntmps78
  go_wp2
  all_goals (go_ret; refine ⟨ret_bool ?_, rfl⟩; simp_all [isPart, fGe, fLe])
theorem c_IsPlain (x : Nat) (w : World) :
    Calls Tryd.prog 70 #[.float .f32 x] w fun e w' => e = .returned (.bool (isPlain x)) ∧ w = w' := by
  go_enter Tryd.func70, Tryd.ntmps70
  go_wp2
  all_goals (go_ret; refine ⟨ret_bool ?_, rfl⟩; simp_all [isPlain, fGe, fLe])
theorem c_l01Plain (x : Nat) (w : World) :
    Calls Tryd.prog 66 #[.float .f32 x] w fun e w' => e = .returned (.bool (isPlain x)) ∧ w = w' := by
  go_enter Tryd.func66, Tryd.ntmps66
  go_wp2
  all_goals (go_ret; refine ⟨ret_bool ?_, rfl⟩; simp_all [isPlain, fGe, fLe])
theorem bits_run (x : Nat) (w : World) : (callFunc 71 #[.float .f32 x]).run Tryd.prog w = .ok (.value (.int .u32 x)) w := by
  kernel_rfl
theorem and31 (x : Nat) (hx : x < 4294967296) : bits .and .u32 (x : Int) 2147483647 = ((x % 2147483648 : Nat) : Int) := by
  have h := u32_and_nat x 2147483647 hx (by omega)
  rw [show ((2147483647 : Nat) : Int) = 2147483647 from rfl] at h
  rw [h, show 2147483647 = 2 ^ 31 - 1 from rfl, Nat.and_two_pow_sub_one_eq_mod]
theorem stepOf_bd (x : Nat) (hx : x < 4294967296) : -2147483648 < stepOf x ∧ stepOf x < 2147483648 := by
  unfold stepOf; split <;> omega
def saN (x y : Nat) : Int := if isPlain x && isPlain y then max (stepOf x - stepOf y) (stepOf y - stepOf x) else 0
def saC (x y : Nat) : Int := if isPlain x && isPlain y then 0 else 1
def apartOf (x y : Nat) : Int := max (stepOf x - stepOf y) (stepOf y - stepOf x)
end Go.Proofs.YtdcjoafagalejaaDoor
