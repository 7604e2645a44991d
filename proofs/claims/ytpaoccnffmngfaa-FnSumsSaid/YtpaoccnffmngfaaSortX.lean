/- Walks of the spread and the median of a list. -/
import Derived.Test.YtpaoccnffmngfaaSortW
namespace Go.Proofs.Ytpaoccnffmngfaa
set_option maxRecDepth 20000
open Go.RowKit

theorem OwnL.some {w : World} {lo n : Nat} {v : Value} {l : List Nat} (h : OwnL w lo v l) (hl : l.length = n) (hn : 1 ≤ n) : ∃ g cap, v = .slice (some ⟨g, 0, none⟩) n cap ∧ Row w lo g n cap l := by
  rcases h with ⟨_, rfl⟩ | ⟨g, q, cap, rfl, hR⟩
  · simp at hl; omega
  · have : q = n := by rw [← hl]; exact hR.len.symm
    subst this; exact ⟨g, cap, rfl, hR⟩
end Go.Proofs.Ytpaoccnffmngfaa
