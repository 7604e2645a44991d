/- The laws' own comparison of two slices of float32, NaN among them: 'float64(x)' of a NaN is whatever the tape says. -/
import Derived.Test.YtboddpifepegcaaList
import Derived.Deep.RegionWith
namespace Go.Proofs.Ytboddpifepegcaa
set_option maxRecDepth 20000
open Go.RowKit

theorem finDZero {x : Nat} (h : isFin x = true) : DZero (toD x) := by
  intro h0
  have hz : fx x = 0 := by
    have e : Ieee.double.order (toD x) (toD 0) = some .eq := by rw [show toD 0 = 0 by decide]; exact h0
    rw [toD_order h (by decide), order_fin h (by decide)] at e
    exact cmp_eq.1 (Option.some.inj e)
  have hm : magOf (x % 2147483648) = 0 := by unfold fx at hz; split at hz <;> omega
  have hr := magOf_zero hm
  have hs : Ieee.single.read x = .number (x / 2147483648 % 2 == 1) 0 (-149) := by
    have e1 : Ieee.single.signWeight = 2147483648 := by decide
    have e2 : Ieee.single.binade = 8388608 := by decide
    have e4 : Ieee.single.leastPlace = -149 := by decide
    unfold Ieee.Format.read
    simp only [e1, e2, e4]
    rw [if_pos (by omega), hr]
  unfold toD
  rw [hs]
  cases (x / 2147483648 % 2 == 1)
  · exact .inl (by decide)
  · exact .inr (by decide)
theorem same64_self {x : Nat} (h : isFin x = true) : same64 (toD x) (toD x) = true := by
  have h1 : (FloatKind.f64.format.order (toD x) (toD x) == some .eq) = true := by
    show (Ieee.double.order (toD x) (toD x) == some .eq) = true
    rw [toD_order h h, order_self_fin h]; rfl
  cases h3 : (FloatKind.f64.format.order (toD x) 0 == some .eq)
  · rw [same64_else h1 h1 (by rw [h3]; rfl)]; exact h1
  · rw [same64_zero h1 h1 h3 h3]; simp
end Go.Proofs.Ytboddpifepegcaa
