/- Plain laws on orders of numbers: all orders are visited, and the greatest sum is kept. No program in sight. -/
import Derived.Test.YtpaoccnffmngfaaSum
namespace Go.Proofs.Ytpaoccnffmngfaa
set_option maxRecDepth 20000
open Ieee

/-- What is seen when all orders that begin with p are visited, d numbers being left. -/
def visit {β : Type} (f : β → List Int → β) (m : Nat) : Nat → List Int → β → β
  | 0, p, s => f s p
  | d + 1, p, s => (List.range m).foldl (fun s (i : Nat) => if p.contains (i : Int) then s else visit f m d (p ++ [(i : Int)]) s) s
def vstep {β : Type} (f : β → List Int → β) (m d : Nat) (p : List Int) (s : β) (i : Nat) : β := if p.contains (i : Int) then s else visit f m d (p ++ [(i : Int)]) s
def visitK {β : Type} (f : β → List Int → β) (m d : Nat) (p : List Int) (k : Nat) (s : β) : β := (List.range k).foldl (vstep f m d p) s
theorem visit_succ {β : Type} (f : β → List Int → β) (m d : Nat) (p : List Int) (s : β) : visit f m (d + 1) p s = visitK f m d p m s := rfl
theorem visitK_zero {β : Type} (f : β → List Int → β) (m d : Nat) (p : List Int) (s : β) : visitK f m d p 0 s = s := rfl
theorem visitK_succ {β : Type} (f : β → List Int → β) (m d : Nat) (p : List Int) (k : Nat) (s : β) : visitK f m d p (k + 1) s = vstep f m d p (visitK f m d p k s) k := by
  simp only [visitK, List.range_succ, List.foldl_append, List.foldl_cons, List.foldl_nil]
theorem visitK_has {β : Type} {f : β → List Int → β} {m d : Nat} {p : List Int} {k : Nat} {s : β} (h : p.contains (k : Int) = true) : visitK f m d p (k + 1) s = visitK f m d p k s := by
  rw [visitK_succ]; unfold vstep; rw [if_pos h]
theorem visitK_not {β : Type} {f : β → List Int → β} {m d : Nat} {p : List Int} {k : Nat} {s : β} (h : p.contains (k : Int) = false) : visitK f m d p (k + 1) s = visit f m d (p ++ [(k : Int)]) (visitK f m d p k s) := by
  rw [visitK_succ]; unfold vstep; rw [if_neg (by rw [h]; decide)]
/-- A beginning of an order. -/
structure Prefix (m : Nat) (p : List Int) : Prop where
  le : p.length ≤ m
  mem : ∀ x ∈ p, 0 ≤ x ∧ x < m
theorem Prefix.nil (m : Nat) : Prefix m [] := ⟨by simp, by simp⟩
theorem Prefix.snoc {m : Nat} {p : List Int} (h : Prefix m p) (hl : p.length < m) {k : Nat} (hk : k < m) : Prefix m (p ++ [(k : Int)]) :=
  ⟨by simp; omega, fun x hx => (List.mem_append.1 hx).elim (h.mem x) (fun hx => by simp at hx; subst hx; omega)⟩
/-- Two ways of looking at each order that agree at each. -/
theorem visit_rel {β γ : Type} {f : β → List Int → β} {g : γ → List Int → γ} {R : β → γ → Prop} {m : Nat} (hs : ∀ s t p, Prefix m p → R s t → R (f s p) (g t p)) :
    ∀ (d : Nat) (p : List Int) (s : β) (t : γ), Prefix m p → p.length + d = m → R s t → R (visit f m d p s) (visit g m d p t)
  | 0, p, s, t, hp, _, h => hs s t p hp h
  | d + 1, p, s, t, hp, hl, h => by
    rw [visit_succ, visit_succ]
    have : ∀ k, k ≤ m → R (visitK f m d p k s) (visitK g m d p k t) := by
      intro k
      induction k with
      | zero => intro _; exact h
      | succ k ih =>
        intro hk
        cases hc : p.contains (k : Int)
        · rw [visitK_not hc, visitK_not hc]
          exact visit_rel hs d _ _ _ (hp.snoc (by omega) (by omega)) (by simp; omega) (ih (by omega))
        · rw [visitK_has hc, visitK_has hc]; exact ih (by omega)
    exact this m (Nat.le_refl _)
/-- What each look keeps is kept. -/
theorem visit_keeps {β : Type} {f : β → List Int → β} {R : β → Prop} {m : Nat} (hs : ∀ s p, Prefix m p → R s → R (f s p)) (d : Nat) (p : List Int) (s : β) (hp : Prefix m p) (hl : p.length + d = m) (h : R s) : R (visit f m d p s) :=
  visit_rel (g := fun (t : Unit) _ => t) (R := fun s _ => R s) (fun s _ p hp h => hs s p hp h) d p s () hp hl h
def rangeI (k : Nat) : List Int := (List.range k).map (fun (i : Nat) => (i : Int))
theorem rangeI_len (k : Nat) : (rangeI k).length = k := by simp [rangeI]
theorem rangeI_not (k : Nat) : (rangeI k).contains (k : Int) = false := by
  simp only [rangeI, Bool.eq_false_iff, ne_eq, List.contains_iff_mem, List.mem_map, List.mem_range]
  rintro ⟨i, hi, e⟩; omega
theorem rangeI_snoc (k : Nat) : rangeI k ++ [(k : Int)] = rangeI (k + 1) := by simp [rangeI, List.range_succ]
theorem rangeI_prefix {m k : Nat} (h : k ≤ m) : Prefix m (rangeI k) := ⟨by rw [rangeI_len]; exact h, fun x hx => by simp only [rangeI, List.mem_map, List.mem_range] at hx; obtain ⟨i, hi, rfl⟩ := hx; omega⟩
/-- Each way of looking comes to an order. -/
theorem visit_hits {β : Type} {f : β → List Int → β} {R : β → Prop} {m : Nat} (hr : ∀ s p, Prefix m p → R (f s p)) : ∀ (d k : Nat) (s : β), k + d = m → R (visit f m d (rangeI k) s)
  | 0, k, s, h => hr _ _ (rangeI_prefix (by omega))
  | d + 1, k, s, h => by
    rw [visit_succ]
    have : ∀ j, k < j → j ≤ m → R (visitK f m d (rangeI k) j s) := by
      intro j
      induction j with
      | zero => intro h; omega
      | succ j ih =>
        intro h1 h2
        by_cases hj : k = j
        · subst hj
          rw [visitK_not (rangeI_not k), rangeI_snoc]
          exact visit_hits hr d (k + 1) _ (by omega)
        · cases hc : (rangeI k).contains (j : Int)
          · rw [visitK_not hc]
            exact visit_keeps (fun s p hp _ => hr s p hp) d _ _ ((rangeI_prefix (by omega)).snoc (by rw [rangeI_len]; omega) (by omega)) (by simp [rangeI_len]; omega) (ih (by omega) (by omega))
          · rw [visitK_has hc]; exact ih (by omega) (by omega)
    exact this m (by omega) (Nat.le_refl _)

/-! ### Sums of orders -/
def picks (xs : List Nat) (p : List Int) : List Nat := p.map (fun z => fat xs z.toNat)
theorem picks_len (xs : List Nat) (p : List Int) : (picks xs p).length = p.length := by simp [picks]
def psum (xs : List Nat) (p : List Int) : Nat := leftOf (picks xs p)
theorem fat_app_lt {l : List Nat} {x k : Nat} (h : k < l.length) : fat (l ++ [x]) k = fat l k := by simp [fat, List.getElem?_append_left h]
theorem fat_app_eq (l : List Nat) (x : Nat) : fat (l ++ [x]) l.length = x := by simp [fat]
theorem leftK_app (l : List Nat) (x : Nat) : ∀ k, k ≤ l.length → leftK (l ++ [x]) k = leftK l k
  | 0, _ => rfl
  | k + 1, h => by simp only [leftK]; rw [leftK_app l x k (by omega), fat_app_lt (by omega)]
theorem psum_nil (xs : List Nat) : psum xs [] = 0 := rfl
theorem psum_snoc (xs : List Nat) (p : List Int) (k : Nat) : psum xs (p ++ [(k : Int)]) = fadd (psum xs p) (fat xs k) := by
  have h : picks xs (p ++ [(k : Int)]) = picks xs p ++ [fat xs k] := by simp [picks]
  unfold psum leftOf
  rw [h, List.length_append, List.length_singleton, leftK, leftK_app _ _ _ (Nat.le_refl _), fat_app_eq]
theorem picks_plain {xs : List Nat} {p : List Int} (h : Plains xs) (hp : Prefix xs.length p) : Plains (picks xs p) := fun k hk => by
  rw [picks_len] at hk
  have e : fat (picks xs p) k = fat xs (p[k]'hk).toNat := by simp [fat, picks, hk]
  have := hp.mem _ (List.getElem_mem hk)
  rw [e]; exact h _ (by omega)
theorem psum_abs {xs : List Nat} {p : List Int} (h : Plains xs) (hp : Prefix xs.length p) (hn : xs.length ≤ 6) : AbsLe (psum xs p) (bl p.length) := by
  have := left_abs (picks_plain h hp) (by rw [picks_len]; have := hp.le; omega) p.length (by rw [picks_len]; exact Nat.le_refl _)
  unfold psum leftOf; rw [picks_len]; exact this
/-- Less than all numbers. -/
def ninf : Nat := 4286578688
theorem ninf_less {x A : Nat} (h : AbsLe x A) : fGt x ninf = true := by
  obtain ⟨s, m, i, hr, _⟩ := single_mag h.fin
  have e : single.read ninf = .infinity true := by decide
  show (single.order x ninf == some .gt) = true
  unfold Format.order
  rw [hr, e]; rfl
def ostep (xs : List Nat) (s : List Int × Nat) (p : List Int) : List Int × Nat := if fGt (psum xs p) s.2 then (p, psum xs p) else s
def qstep (xs : List Nat) (s : (List Int × Nat) × Bool) (p : List Int) : (List Int × Nat) × Bool := if !s.2 || fGt (psum xs p) s.1.2 then ((p, psum xs p), true) else s
def bestI (xs : List Nat) : List Int × Nat := visit (ostep xs) xs.length xs.length [] ([], ninf)
def bestS (xs : List Nat) : (List Int × Nat) × Bool := visit (qstep xs) xs.length xs.length [] (([], 0), false)
theorem best_same {xs : List Nat} (h : Plains xs) (hn : xs.length ≤ 6) : bestI xs = (bestS xs).1 := by
  have hit : (bestS xs).2 = true := visit_hits (f := qstep xs) (R := fun s => s.2 = true) (m := xs.length) (fun s p _ => by
    unfold qstep; split
    · rfl
    · next h => simp at h; exact h.1) xs.length 0 _ (by omega)
  have rel := visit_rel (f := ostep xs) (g := qstep xs) (R := fun s t => if t.2 then s = t.1 else s = ([], ninf)) (m := xs.length) (fun s t p hp hR => by
    unfold ostep qstep
    obtain ⟨tt, b⟩ := t
    cases b
    · simp only [Bool.false_eq_true, if_false] at hR
      subst hR
      simp [ninf_less (psum_abs h hp hn)]
    · simp only [if_true] at hR
      subst hR
      simp only [Bool.not_true, Bool.false_or]
      split <;> simp) xs.length [] ([], ninf) (([], 0), false) (Prefix.nil _) (by simp) (by simp)
  change (if (bestS xs).2 then bestI xs = (bestS xs).1 else _) at rel
  rw [if_pos hit] at rel
  exact rel
theorem bestS_found (xs : List Nat) : (bestS xs).2 = true := visit_hits (f := qstep xs) (R := fun s => s.2 = true) (m := xs.length) (fun s p _ => by
    unfold qstep; split
    · rfl
    · next h => simp at h; exact h.1) xs.length 0 _ (by omega)
theorem best_sum {xs : List Nat} (h : Plains xs) (hn : xs.length ≤ 6) : ∃ p, Prefix xs.length p ∧ (bestI xs).2 = psum xs p := by
  have k : (bestS xs).2 = true → ∃ p, Prefix xs.length p ∧ (bestS xs).1.2 = psum xs p :=
    visit_keeps (f := qstep xs) (R := fun s => s.2 = true → ∃ p, Prefix xs.length p ∧ s.1.2 = psum xs p) (fun s p hp hs => by
      unfold qstep; split
      · exact fun _ => ⟨p, hp, rfl⟩
      · exact hs) _ _ _ (Prefix.nil _) (by simp) (fun h => by cases h)
  rw [best_same h hn]; exact k (bestS_found xs)
/-- The orders that are kept. -/
theorem best_prefix (xs : List Nat) : Prefix xs.length (bestI xs).1 ∧ ((bestI xs).2 = ninf ∨ ∃ p, Prefix xs.length p ∧ (bestI xs).2 = psum xs p) :=
  visit_keeps (f := ostep xs) (R := fun s => Prefix xs.length s.1 ∧ (s.2 = ninf ∨ ∃ p, Prefix xs.length p ∧ s.2 = psum xs p)) (fun s p hp h => by
    unfold ostep; split
    · exact ⟨hp, .inr ⟨p, hp, rfl⟩⟩
    · exact h) _ _ _ (Prefix.nil _) (by simp) ⟨Prefix.nil _, .inl rfl⟩
end Go.Proofs.Ytpaoccnffmngfaa
