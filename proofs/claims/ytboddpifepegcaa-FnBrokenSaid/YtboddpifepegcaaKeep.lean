/- Walks of KeepsWithin and FirstOutside. -/
import Derived.Test.YtboddpifepegcaaDay
namespace Go.Proofs.Ytboddpifepegcaa
set_option maxRecDepth 20000
open Go.RowKit

def outC (n : Nat) : Int := if n = 24 then -1 else (n : Int)
theorem tilts_at {p : List Int} (lp : p.length = 24) (h : tilts p = true) : ∀ k, k < 24 → -64 ≤ iat p k ∧ iat p k ≤ 64 := fun k hk => by
  have hk' : k < p.length := by omega
  simp only [tilts, List.all_eq_true] at h
  have := h (iat p k) (by simp [iat, hk'])
  simpa [inB] using this
theorem three3 {a b c : Bool} : (a = false) ∨ (a = true ∧ b = false) ∨ (a = true ∧ b = true ∧ c = false) ∨ (a = true ∧ b = true ∧ c = true) := by
  cases a <;> cases b <;> cases c <;> simp
theorem ret_tup2 {a b c d : Value} (h : a = b) (h' : c = d) : Ending.returned (.tuple #[a, c]) = .returned (.tuple #[b, d]) := by rw [h, h']
def kwR (f : Int) (lo hi : Nat) : Bool := inB f 0 255 && isPart lo && isPart hi
def kwC (B : Bld) (hs ts p : List Int) (f : Int) (lo hi : Nat) : Int := codeOf (okB B && okS hs ts && tilts p) (kwR f lo hi)
theorem codeOf_zero {a r : Bool} (h : codeOf a r = 0) : a = true ∧ r = true := by cases a <;> cases r <;> simp [codeOf] at h ⊢
def kwN (B : Bld) (hs ts p : List Int) (f : Int) (lo hi : Nat) : Bool := if kwC B hs ts p f lo hi = 0 then decide (outsideN B hs ts f p lo hi = 24) else false
def foC (B : Bld) (hs ts p : List Int) (f : Int) (lo hi : Nat) : Int := if kwC B hs ts p f lo hi = 0 then (if outsideN B hs ts f p lo hi = 24 then 6 else 0) else kwC B hs ts p f lo hi
def foN (B : Bld) (hs ts p : List Int) (f : Int) (lo hi : Nat) : Int := if kwC B hs ts p f lo hi = 0 then (if outsideN B hs ts f p lo hi = 24 then 0 else (outsideN B hs ts f p lo hi : Int)) else 0
end Go.Proofs.Ytboddpifepegcaa
