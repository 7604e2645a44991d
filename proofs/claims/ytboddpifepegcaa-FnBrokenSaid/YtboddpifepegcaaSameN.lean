/- A number is the same as itself. -/
import Derived.Test.YtboddpifepegcaaSmall
import Derived.Test.YtboddpifepegcaaFl
namespace Go.Proofs.Ytboddpifepegcaa
set_option maxRecDepth 20000
open Go.RowKit

theorem sameN_self {x : Nat} (h : isFin x = true) : sameN x x = true := by
  have e : isNum x = true := by
    show (Ieee.single.order x x == some .eq) = true
    rw [order_self_fin h]; rfl
  unfold sameN; rw [e]; simp
theorem c_specSameNumber {x : Nat} (h : isFin x = true) (w : World) :
    Calls Try.prog 15 #[.float .f32 x, .float .f32 x] w fun e w' => e = .returned (.bool true) ∧ w = w' := by
  have C := hid (c_l01Same x x)
  rw [sameN_self h] at C
  clear h
  go_enter Try.func15, Try.ntmps15
  go_wp2_with (go_at_call 58; refine (C.out _).mono ?_; rintro e w1 ⟨rfl, rfl⟩)
  go_ret
  exact ⟨rfl, rfl⟩
end Go.Proofs.Ytboddpifepegcaa
