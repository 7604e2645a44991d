/- The brightest tilt of an hour: plain theory. -/
import Derived.Test.YtboddpifepegcaaPLight
namespace Go.Proofs.Ytboddpifepegcaa
set_option maxRecDepth 20000
open Go.RowKit

/-- The first of the numbers below m at which x is greatest among those that are no greater than hi, and x there. -/
def bestK (x : Nat → Nat) (hi : Nat) : Nat → Option (Nat × Nat)
  | 0 => none
  | m + 1 => match bestK x hi m with
    | none => if fLe (x m) hi then some (m, x m) else none
    | some (i, y) => if fLe (x m) hi && fGt (x m) y then some (m, x m) else some (i, y)
theorem bestK_at {x : Nat → Nat} {hi : Nat} : ∀ {m i y}, bestK x hi m = some (i, y) → i < m ∧ y = x i
  | 0, _, _, h => by simp [bestK] at h
  | m + 1, i, y, h => by
    unfold bestK at h
    cases hb : bestK x hi m with
    | none =>
      rw [hb] at h
      simp only at h
      split at h
      · injection h with h; injection h with h1 h2; subst h1 h2; exact ⟨by omega, rfl⟩
      · cases h
    | some q =>
      obtain ⟨i0, y0⟩ := q
      rw [hb] at h
      simp only at h
      split at h
      · injection h with h; injection h with h1 h2; subst h1 h2; exact ⟨by omega, rfl⟩
      · injection h with h; injection h with h1 h2; subst h1 h2
        have := bestK_at hb
        exact ⟨by omega, this.2⟩
/-- Whatever is no less than 0 is greater than -1. -/
theorem gt_minus {x W : Nat} (hx : In0 x W) : fGt x 3212836864 = true := by
  rw [fGt_fin hx.fin (by decide)]
  have h : fx 3212836864 < 0 := by decide +kernel
  have h0 := hx.ge
  exact decide_eq_true (by omega)
end Go.Proofs.Ytboddpifepegcaa
