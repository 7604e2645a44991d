/- Walks of the small functions on numbers: bounds, parts, plain numbers, sameness, steps. -/
import Derived.Test.YtmipfbafbkdncaaBase
namespace Go.Proofs.Ytmipfbafbkdncaa
open Go.RowKit

def fLt (x y : Nat) : Bool := FloatKind.f32.format.order x y == some .lt
def fGt (x y : Nat) : Bool := FloatKind.f32.format.order x y == some .gt
def fEq (x y : Nat) : Bool := FloatKind.f32.format.order x y == some .eq
def fLe (x y : Nat) : Bool := FloatKind.f32.format.order x y == some .lt || FloatKind.f32.format.order x y == some .eq
def fGe (x y : Nat) : Bool := FloatKind.f32.format.order x y == some .gt || FloatKind.f32.format.order x y == some .eq
def isPart (x : Nat) : Bool := fGe x 0 && fLe x 1065353216
def isPlain (x : Nat) : Bool := fGe x 3380609024 && fLe x 1233125376
def inB (n lo hi : Int) : Bool := decide (lo ≤ n) && decide (n ≤ hi)
def stepOf (x : Nat) : Int := if x < 2147483648 then (x : Int) else 2147483648 - (x : Int)
def isNum (x : Nat) : Bool := fEq x x
def sameN (x y : Nat) : Bool := if !isNum x || !isNum y then !isNum x && !isNum y else x == y

theorem c_within (n lo hi : Int) (w : World) :
    Calls Try.prog 54 #[.int .i64 n, .int .i64 lo, .int .i64 hi] w fun e w' => e = .returned (.bool (inB n lo hi)) ∧ w = w' := by
  go_enter Try.func54, Try.ntmps54
  go_wp2
  all_goals (go_ret; refine ⟨ret_bool ?_, rfl⟩; simp_all [inB]; try omega)
theorem c_l00In (n lo hi : Int) (w : World) :
    Calls Try.prog 50 #[.int .i64 n, .int .i64 lo, .int .i64 hi] w fun e w' => e = .returned (.bool (inB n lo hi)) ∧ w = w' := by
  go_enter Try.func50, Try.ntmps50
  go_wp2
  all_goals (go_ret; refine ⟨ret_bool ?_, rfl⟩; simp_all [inB]; try omega)
theorem c_IsPlain (x : Nat) (w : World) :
    Calls Try.prog 53 #[.float .f32 x] w fun e w' => e = .returned (.bool (isPlain x)) ∧ w = w' := by
  go_enter Try.func53, Try.ntmps53
  go_wp2
  all_goals (go_ret; refine ⟨ret_bool ?_, rfl⟩; simp_all [isPlain, fGe, fLe])
theorem c_l01Plain (x : Nat) (w : World) :
    Calls Try.prog 49 #[.float .f32 x] w fun e w' => e = .returned (.bool (isPlain x)) ∧ w = w' := by
  go_enter Try.func49, Try.ntmps49
  go_wp2
  all_goals (go_ret; refine ⟨ret_bool ?_, rfl⟩; simp_all [isPlain, fGe, fLe])
theorem bits_run (x : Nat) (w : World) : (callFunc 75 #[.float .f32 x]).run Try.prog w = .ok (.value (.int .u32 x)) w := by
  kernel_rfl
theorem c_SameNumber (x y : Nat) (w : World) :
    Calls Try.prog 48 #[.float .f32 x, .float .f32 y] w fun e w' => e = .returned (.bool (sameN x y)) ∧ w = w' := by
  have hb := bits_run
  go_enter Try.func48, Try.ntmps48
  go_wp2
  all_goals (go_ret; refine ⟨ret_bool ?_, rfl⟩; simp_all [sameN, isNum, fEq])
  all_goals first | exact cast_beq _ _ | rfl
theorem c_l01Same (x y : Nat) (w : World) :
    Calls Try.prog 46 #[.float .f32 x, .float .f32 y] w fun e w' => e = .returned (.bool (sameN x y)) ∧ w = w' := by
  have hb := bits_run
  go_enter Try.func46, Try.ntmps46
  go_wp2
  all_goals (go_ret; refine ⟨ret_bool ?_, rfl⟩; simp_all [sameN, isNum, fEq])
  all_goals first | exact cast_beq _ _ | rfl
theorem and31 (x : Nat) (hx : x < 4294967296) : bits .and .u32 (x : Int) 2147483647 = ((x % 2147483648 : Nat) : Int) := by
  have h := u32_and_nat x 2147483647 hx (by omega)
  rw [show ((2147483647 : Nat) : Int) = 2147483647 from rfl] at h
  rw [h, show 2147483647 = 2 ^ 31 - 1 from rfl, Nat.and_two_pow_sub_one_eq_mod]
theorem stepOf_bd (x : Nat) (hx : x < 4294967296) : -2147483648 < stepOf x ∧ stepOf x < 2147483648 := by
  unfold stepOf; split <;> omega
def saN (x y : Nat) : Int := if isPlain x && isPlain y then max (stepOf x - stepOf y) (stepOf y - stepOf x) else 0
def saC (x y : Nat) : Int := if isPlain x && isPlain y then 0 else 1
def apartOf (x y : Nat) : Int := max (stepOf x - stepOf y) (stepOf y - stepOf x)
theorem c_l06Place (x : Nat) (hx : x < 4294967296) (w : World) :
    Calls Try.prog 52 #[.float .f32 x] w fun e w' => e = .returned (.int .i64 (stepOf x)) ∧ w = w' := by
  have hb := bits_run
  have Hx := hid hx
  clear hx
  go_enter Try.func52, Try.ntmps52
  go_wp2
  all_goals (go_ret; refine ⟨ret_int ?_, rfl⟩)
  all_goals (have hx := Hx.out; simp only [stepOf, wrap64] at *; split <;> omega)
theorem c_step (x : Nat) (hx : x < 4294967296) (w : World) :
    Calls Try.prog 56 #[.float .f32 x] w fun e w' => e = .returned (.int .i64 (stepOf x)) ∧ w = w' := by
  have hb := bits_run
  have ha := and31 x hx
  have Hx := hid hx
  clear hx
  go_enter Try.func56, Try.ntmps56
  go_wp2
  all_goals (go_ret; refine ⟨ret_int ?_, rfl⟩)
  all_goals (have hx := Hx.out; simp only [beq_iff_eq, beq_eq_false_iff_ne] at *; simp only [stepOf]; split <;> omega)
end Go.Proofs.Ytmipfbafbkdncaa
