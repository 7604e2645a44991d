/- Walks of the small functions on numbers: bounds, parts, plain numbers, sameness, steps. -/
import Derived.Test.YtboddpifepegcaaBase
namespace Go.Proofs.Ytboddpifepegcaa
set_option maxRecDepth 20000
open Go.RowKit

def fLt (x y : Nat) : Bool := FloatKind.f32.format.order x y == some .lt
def fGt (x y : Nat) : Bool := FloatKind.f32.format.order x y == some .gt
def fEq (x y : Nat) : Bool := FloatKind.f32.format.order x y == some .eq
def fLe (x y : Nat) : Bool := FloatKind.f32.format.order x y == some .lt || FloatKind.f32.format.order x y == some .eq
def fGe (x y : Nat) : Bool := FloatKind.f32.format.order x y == some .gt || FloatKind.f32.format.order x y == some .eq
def isPart (x : Nat) : Bool := fGe x 0 && fLe x 1065353216
def isPlain (x : Nat) : Bool := fGe x 3380609024 && fLe x 1233125376
def inB (n lo hi : Int) : Bool := decide (lo ≤ n) && decide (n ≤ hi)
def stepOf (x : Nat) : Int := if x < 2147483648 then (x : Int) else 2147483648 - (x : Int)
def isNum (x : Nat) : Bool := fEq x x
def sameN (x y : Nat) : Bool := if !isNum x || !isNum y then !isNum x && !isNum y else x == y

theorem c_within (n lo hi : Int) (w : World) :
    Calls Try.prog 62 #[.int .i64 n, .int .i64 lo, .int .i64 hi] w fun e w' => e = .returned (.bool (inB n lo hi)) ∧ w = w' := by
  go_enter Try.func62, Try.ntmps62
  go_wp2
  all_goals (go_ret; refine ⟨ret_bool ?_, rfl⟩; simp_all [inB]; try omega)
theorem c_l00In (n lo hi : Int) (w : World) :
    Calls Try.prog 66 #[.int .i64 n, .int .i64 lo, .int .i64 hi] w fun e w' => e = .returned (.bool (inB n lo hi)) ∧ w = w' := by
  go_enter Try.func66, Try.ntmps66
  go_wp2
  all_goals (go_ret; refine ⟨ret_bool ?_, rfl⟩; simp_all [inB]; try omega)
theorem c_isTilt (n : Int) (w : World) :
    Calls Try.prog 103 #[.int .i64 n] w fun e w' => e = .returned (.bool (inB n (-64) 64)) ∧ w = w' := by
  go_enter Try.func103, Try.ntmps103
  go_wp2_with (go_at_call 62; refine (c_within _ _ _ _).mono ?_; rintro e w' ⟨rfl, rfl⟩)
  go_ret
  exact ⟨rfl, rfl⟩
theorem c_l02Tilt (n : Int) (w : World) :
    Calls Try.prog 68 #[.int .i64 n] w fun e w' => e = .returned (.bool (inB n (-64) 64)) ∧ w = w' := by
  go_enter Try.func68, Try.ntmps68
  go_wp2_with (go_at_call 66; refine (c_l00In _ _ _ _).mono ?_; rintro e w' ⟨rfl, rfl⟩)
  go_ret
  exact ⟨rfl, rfl⟩
theorem c_IsPart (x : Nat) (w : World) :
    Calls Try.prog 63 #[.float .f32 x] w fun e w' => e = .returned (.bool (isPart x)) ∧ w = w' := by
  go_enter Try.func63, Try.ntmps63
  go_wp2
  all_goals (go_ret; refine ⟨ret_bool ?_, rfl⟩; simp_all [isPart, fGe, fLe])
theorem c_l01Part (x : Nat) (w : World) :
    Calls Try.prog 67 #[.float .f32 x] w fun e w' => e = .returned (.bool (isPart x)) ∧ w = w' := by
  go_enter Try.func67, Try.ntmps67
  go_wp2
  all_goals (go_ret; refine ⟨ret_bool ?_, rfl⟩; simp_all [isPart, fGe, fLe])
theorem c_l00Max (a b : Int) (w : World) :
    Calls Try.prog 106 #[.int .i64 a, .int .i64 b] w fun e w' => e = .returned (.int .i64 (max a b)) ∧ w = w' := by
  go_enter Try.func106, Try.ntmps106
  go_wp2
  all_goals (go_ret; refine ⟨ret_int ?_, rfl⟩; omega)
theorem bits_run (x : Nat) (w : World) : (callFunc 100 #[.float .f32 x]).run Try.prog w = .ok (.value (.int .u32 x)) w := by
  kernel_rfl
theorem c_SameNumber (x y : Nat) (w : World) :
    Calls Try.prog 76 #[.float .f32 x, .float .f32 y] w fun e w' => e = .returned (.bool (sameN x y)) ∧ w = w' := by
  have hb := bits_run
  go_enter Try.func76, Try.ntmps76
  go_wp2
  all_goals (go_ret; refine ⟨ret_bool ?_, rfl⟩; simp_all [sameN, isNum, fEq])
  all_goals first | exact cast_beq _ _ | rfl
theorem c_l01Same (x y : Nat) (w : World) :
    Calls Try.prog 58 #[.float .f32 x, .float .f32 y] w fun e w' => e = .returned (.bool (sameN x y)) ∧ w = w' := by
  have hb := bits_run
  go_enter Try.func58, Try.ntmps58
  go_wp2
  all_goals (go_ret; refine ⟨ret_bool ?_, rfl⟩; simp_all [sameN, isNum, fEq])
  all_goals first | exact cast_beq _ _ | rfl
theorem and31 (x : Nat) (hx : x < 4294967296) : bits .and .u32 (x : Int) 2147483647 = ((x % 2147483648 : Nat) : Int) := by
  have h := u32_and_nat x 2147483647 hx (by omega)
  rw [show ((2147483647 : Nat) : Int) = 2147483647 from rfl] at h
  rw [h, show 2147483647 = 2 ^ 31 - 1 from rfl, Nat.and_two_pow_sub_one_eq_mod]
theorem stepOf_bd (x : Nat) (hx : x < 4294967296) : -2147483648 < stepOf x ∧ stepOf x < 2147483648 := by
  unfold stepOf; split <;> omega
def saN (x y : Nat) : Int := if isPlain x && isPlain y then max (stepOf x - stepOf y) (stepOf y - stepOf x) else 0
def saC (x y : Nat) : Int := if isPlain x && isPlain y then 0 else 1
def apartOf (x y : Nat) : Int := max (stepOf x - stepOf y) (stepOf y - stepOf x)
end Go.Proofs.Ytboddpifepegcaa
