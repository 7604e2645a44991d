/- Walks of days: plans, and whether what passes keeps within bounds. -/
import Derived.Test.YtboddpifepegcaaOpen
import Derived.Test.YtboddpifepegcaaPlan
namespace Go.Proofs.Ytboddpifepegcaa
set_option maxRecDepth 20000
open Go.RowKit

def withinW (x fl lo hi : Nat) : Bool := fLe x hi && (fGe x lo || !fGe fl lo)
/-- The first number from k on, among m, for which g does not hold. -/
def firstNo (g : Nat → Bool) : Nat → Nat → Nat
  | 0, k => k
  | m + 1, k => if g k then firstNo g m (k + 1) else k
theorem firstNo_le (g : Nat → Bool) : ∀ m k, firstNo g m k ≤ k + m
  | 0, k => Nat.le_refl _
  | m + 1, k => by unfold firstNo; split; · have := firstNo_le g m (k + 1); omega
                   · omega
theorem firstNo_yes {g : Nat → Bool} {m k n : Nat} (hk : n = m + 1) (h : g k = true) : firstNo g n k = firstNo g m (k + 1) := by subst hk; rw [firstNo, if_pos h]
theorem firstNo_no {g : Nat → Bool} {m k n : Nat} (hk : n = m + 1) (h : g k = false) : firstNo g n k = k := by subst hk; rw [firstNo, if_neg (by simp [h])]
def outsideN (B : Bld) (hs ts : List Int) (f : Int) (p : List Int) (lo hi : Nat) : Nat := firstNo (fun k => withinW (windowW (tiltB B (iat p k)) hs ts k f) (fallW hs ts k f) lo hi) 24 0
/-- A plan in memory. -/
def PlnAt (w : World) (b : Nat) (p : List Int) : Prop := ∀ k, k < 24 → w.cell? ⟨b, k, none⟩ = some (.int .i16 (iat p k))
theorem PlnAt.below {w w' : World} {b : Nat} {p : List Int} (h : PlnAt w b p) (hb : Below w.heap.size w w') : PlnAt w' b p := fun k hk => cell_stays hb (h k hk)
theorem PlnAt.of_block {w : World} {b : Nat} {p : List Int} {T : TypeId} (l : p.length = 24) (hb : w.heap[b]? = some (.cells (i16s p) T (0, 0))) : PlnAt w b p := fun k hk => by
  rw [cell_of_row w b k _ _ _ hb]; exact i16s_at l hk
theorem three {a b c : Bool} : (a = false) ∨ (a = true ∧ b = true) ∨ (a = true ∧ b = false ∧ c = false) ∨ (a = true ∧ b = false ∧ c = true) := by
  cases a <;> cases b <;> cases c <;> simp
end Go.Proofs.Ytboddpifepegcaa
