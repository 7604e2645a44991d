/- Walks of the small functions on numbers: bounds, parts, plain numbers, sameness, steps. -/
import Derived.Test.YtpaoccnffmngfaaBase
namespace Go.Proofs.Ytpaoccnffmngfaa
set_option maxRecDepth 20000
open Go.RowKit

def fLt (x y : Nat) : Bool := FloatKind.f32.format.order x y == some .lt
def fGt (x y : Nat) : Bool := FloatKind.f32.format.order x y == some .gt
def fEq (x y : Nat) : Bool := FloatKind.f32.format.order x y == some .eq
def fLe (x y : Nat) : Bool := FloatKind.f32.format.order x y == some .lt || FloatKind.f32.format.order x y == some .eq
def fGe (x y : Nat) : Bool := FloatKind.f32.format.order x y == some .gt || FloatKind.f32.format.order x y == some .eq
def isPart (x : Nat) : Bool := fGe x 0 && fLe x 1065353216
def isPlain (x : Nat) : Bool := fGe x 3380609024 && fLe x 1233125376
def inB (n lo hi : Int) : Bool := decide (lo ≤ n) && decide (n ≤ hi)
def stepOf (x : Nat) : Int := if x < 2147483648 then (x : Int) else 2147483648 - (x : Int)
def isNum (x : Nat) : Bool := fEq x x
def sameN (x y : Nat) : Bool := if !isNum x || !isNum y then !isNum x && !isNum y else x == y

theorem c_IsPlain (x : Nat) (w : World) :
    Calls Try.prog 73 #[.float .f32 x] w fun e w' => e = .returned (.bool (isPlain x)) ∧ w = w' := by
  go_enter Try.func73, Try.ntmps73
  go_wp2
  all_goals (go_ret; refine ⟨ret_bool ?_, rfl⟩; simp_all [isPlain, fGe, fLe])
theorem c_l01Plain (x : Nat) (w : World) :
    Calls Try.prog 75 #[.float .f32 x] w fun e w' => e = .returned (.bool (isPlain x)) ∧ w = w' := by
  go_enter Try.func75, Try.ntmps75
  go_wp2
  all_goals (go_ret; refine ⟨ret_bool ?_, rfl⟩; simp_all [isPlain, fGe, fLe])
theorem c_l00Max (a b : Int) (w : World) :
    Calls Try.prog 52 #[.int .i64 a, .int .i64 b] w fun e w' => e = .returned (.int .i64 (max a b)) ∧ w = w' := by
  go_enter Try.func52, Try.ntmps52
  go_wp2
  all_goals (go_ret; refine ⟨ret_int ?_, rfl⟩; omega)
theorem bits_run (x : Nat) (w : World) : (callFunc 69 #[.float .f32 x]).run Try.prog w = .ok (.value (.int .u32 x)) w := by
  kernel_rfl
theorem c_l01Same (x y : Nat) (w : World) :
    Calls Try.prog 46 #[.float .f32 x, .float .f32 y] w fun e w' => e = .returned (.bool (sameN x y)) ∧ w = w' := by
  have hb := bits_run
  go_enter Try.func46, Try.ntmps46
  go_wp2
  all_goals (go_ret; refine ⟨ret_bool ?_, rfl⟩; simp_all [sameN, isNum, fEq])
  all_goals first | exact cast_beq _ _ | rfl
theorem and31 (x : Nat) (hx : x < 4294967296) : bits .and .u32 (x : Int) 2147483647 = ((x % 2147483648 : Nat) : Int) := by
  have h := u32_and_nat x 2147483647 hx (by omega)
  rw [show ((2147483647 : Nat) : Int) = 2147483647 from rfl] at h
  rw [h, show 2147483647 = 2 ^ 31 - 1 from rfl, Nat.and_two_pow_sub_one_eq_mod]
theorem stepOf_bd (x : Nat) (hx : x < 4294967296) : -2147483648 < stepOf x ∧ stepOf x < 2147483648 := by
  unfold stepOf; split <;> omega
def saN (x y : Nat) : Int := if isPlain x && isPlain y then max (stepOf x - stepOf y) (stepOf y - stepOf x) else 0
def saC (x y : Nat) : Int := if isPlain x && isPlain y then 0 else 1
def apartOf (x y : Nat) : Int := max (stepOf x - stepOf y) (stepOf y - stepOf x)
theorem c_l06Place (x : Nat) (hx : x < 4294967296) (w : World) :
    Calls Try.prog 54 #[.float .f32 x] w fun e w' => e = .returned (.int .i64 (stepOf x)) ∧ w = w' := by
  have hb := bits_run
  have Hx := hid hx
  clear hx
  go_enter Try.func54, Try.ntmps54
  go_wp2
  all_goals (go_ret; refine ⟨ret_int ?_, rfl⟩)
  all_goals (have hx := Hx.out; simp only [stepOf, wrap64] at *; split <;> omega)
theorem c_step (x : Nat) (hx : x < 4294967296) (w : World) :
    Calls Try.prog 74 #[.float .f32 x] w fun e w' => e = .returned (.int .i64 (stepOf x)) ∧ w = w' := by
  have hb := bits_run
  have ha := and31 x hx
  have Hx := hid hx
  clear hx
  go_enter Try.func74, Try.ntmps74
  go_wp2
  all_goals (go_ret; refine ⟨ret_int ?_, rfl⟩)
  all_goals (have hx := Hx.out; simp only [beq_iff_eq, beq_eq_false_iff_ne] at *; simp only [stepOf]; split <;> omega)
theorem c_l06Far (a b : Int) (ha : -2147483648 < a) (ha' : a < 2147483648) (hb : -2147483648 < b) (hb' : b < 2147483648) (w : World) :
    Calls Try.prog 53 #[.int .i64 a, .int .i64 b] w fun e w' => e = .returned (.int .i64 (max (a - b) (b - a))) ∧ w = w' := by
  go_enter Try.func53, Try.ntmps53
  go_wp2_with (go_at_call 52; refine (c_l00Max _ _ _).mono ?_; rintro e w' ⟨rfl, rfl⟩)
  go_ret
  exact ⟨rfl, rfl⟩
theorem c_apart (x y : Nat) (hx : x < 4294967296) (hy : y < 4294967296) (w : World) :
    Calls Try.prog 50 #[.float .f32 x, .float .f32 y] w fun e w' => e = .returned (.int .i64 (apartOf x y)) ∧ w = w' := by
  obtain ⟨b1, b2⟩ := stepOf_bd x hx
  obtain ⟨b3, b4⟩ := stepOf_bd y hy
  have Hx := hid hx
  have Hy := hid hy
  clear hx hy
  go_enter Try.func50, Try.ntmps50
  go_wp2_with fail
  refine (c_step x Hx.out _).mono ?_
  rintro e w' ⟨rfl, rfl⟩
  go_wp2_with fail
  refine (c_step y Hy.out _).mono ?_
  rintro e w' ⟨rfl, rfl⟩
  go_wp2
  all_goals (go_ret; refine ⟨ret_int ?_, rfl⟩)
  all_goals (simp only [apartOf]; omega)
end Go.Proofs.Ytpaoccnffmngfaa
