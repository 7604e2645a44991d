/- Walks of PlanLight. -/
import Derived.Test.YtboddpifepegcaaLights
namespace Go.Proofs.Ytboddpifepegcaa
set_option maxRecDepth 20000
open Go.RowKit

theorem ownsRow_from {w : World} {lo lo' s n : Nat} {T : TypeId} {v : Value} {l : List Value} (h : w.ownsRow lo T s v n l) (hl : lo' ≤ lo) : w.ownsRow lo' T s v n l :=
  ⟨h.1, h.2.imp id fun ⟨g, cap, cur, h1, h2, h3, h4⟩ => ⟨g, cap, cur, h1, Nat.le_trans hl h2, h3, h4⟩⟩
theorem got_empty (w : World) (n lo : Nat) (hn : n = w.heap.size) (h : lo ≤ n) : GotF (w.alloc (.cells #[] 27)) lo (.slice (some ⟨n, 0, none⟩) 0 0) [] := by
  subst hn; exact ownsRow_from (owns_empty _ _) h
def plR (f : Int) : Bool := inB f 0 255
def plC (B : Bld) (hs ts p : List Int) (f : Int) : Int := codeOf (okB B && okS hs ts && tilts p) (plR f)
def plL (B : Bld) (hs ts p : List Int) (f : Int) : List Nat := if plC B hs ts p f = 0 then lightsK B hs ts f p 24 else []
theorem plC_zero {B : Bld} {hs ts p : List Int} {f : Int} (h : plC B hs ts p f = 0) : okB B = true ∧ okS hs ts = true ∧ tilts p = true ∧ 0 ≤ f ∧ f ≤ 255 := by
  obtain ⟨h1, h2⟩ := codeOf_zero h
  simp only [Bool.and_eq_true] at h1
  exact ⟨h1.1.1, h1.1.2, h1.2, by simpa [plR, inB] using h2⟩
theorem plL_len (B : Bld) (hs ts p : List Int) (f : Int) : (plL B hs ts p f).length ≤ 99 := by
  unfold plL; split
  · rw [lightsK_len]; omega
  · simp
theorem plL_word {B : Bld} (wf : WfB B) {hs ts p : List Int} (lp : p.length = 24) (f : Int) : ∀ k, k < (plL B hs ts p f).length → fat (plL B hs ts p f) k < 4294967296 := by
  unfold plL; split
  · next h =>
    obtain ⟨h1, h2, h3, _⟩ := plC_zero h
    exact lightsK_word (OkB.of wf h1) h2 f (tilts_at lp h3)
  · intro k hk; simp at hk
end Go.Proofs.Ytboddpifepegcaa
