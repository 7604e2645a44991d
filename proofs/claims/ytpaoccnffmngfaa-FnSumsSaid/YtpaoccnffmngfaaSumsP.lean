/- Plain laws on sums: the greatest order, products, whole numbers. -/
import Derived.Test.YtpaoccnffmngfaaPerms
import Derived.Test.YtpaoccnffmngfaaExact
import Derived.Test.YtpaoccnffmngfaaOap
import Derived.Test.YtpaoccnffmngfaaRuns
namespace Go.Proofs.Ytpaoccnffmngfaa
set_option maxRecDepth 20000
open Ieee Go.RowKit

/-! ### Each order is looked at -/
theorem visit_keepsL {β : Type} {f : β → List Int → β} {R : β → Prop} {m : Nat} (hs : ∀ s p, Prefix m p → p.length = m → R s → R (f s p)) :
    ∀ (d : Nat) (p : List Int) (s : β), Prefix m p → p.length + d = m → R s → R (visit f m d p s)
  | 0, p, s, hp, hl, h => hs s p hp (by omega) h
  | d + 1, p, s, hp, hl, h => by
    rw [visit_succ]
    have : ∀ k, k ≤ m → R (visitK f m d p k s) := by
      intro k
      induction k with
      | zero => intro _; exact h
      | succ k ih =>
        intro hk
        cases hc : p.contains (k : Int)
        · rw [visitK_not hc]
          exact visit_keepsL hs d _ _ (hp.snoc (by omega) (by omega)) (by simp; omega) (ih (by omega))
        · rw [visitK_has hc]; exact ih (by omega)
    exact this m (Nat.le_refl _)
theorem visit_sees {β : Type} {f : β → List Int → β} {J R : β → Prop} {m : Nat} {P : List Int} (hJ : ∀ s p, Prefix m p → p.length = m → J s → J (f s p)) (hR : ∀ s p, Prefix m p → p.length = m → R s → R (f s p)) (hP : ∀ s, J s → R (f s P)) (hN : P.Nodup) (hm : Prefix m P) :
    ∀ (r q : List Int) (s : β), P = q ++ r → q.length + r.length = m → J s → R (visit f m r.length q s)
  | [], q, s, e, _, h => by
    rw [List.append_nil] at e
    subst e
    exact hP s h
  | z :: r, q, s, e, hl, h => by
    have hz := hm.mem z (by rw [e]; simp)
    obtain ⟨k0, rfl⟩ : ∃ k : Nat, z = (k : Int) := ⟨z.toNat, by omega⟩
    have hq : Prefix m q := ⟨by simp at hl; omega, fun x hx => hm.mem x (by rw [e]; simp [hx])⟩
    have hnot : q.contains (k0 : Int) = false := by
      rw [e] at hN
      have := (List.nodup_append.1 hN).2.2
      simp only [Bool.eq_false_iff, ne_eq, List.contains_iff_mem]
      intro hc
      exact this _ hc _ (by simp) rfl
    show R (visit f m (r.length + 1) q s)
    rw [visit_succ]
    have step : ∀ k, k ≤ m → J (visitK f m r.length q k s) ∧ (k0 < k → R (visitK f m r.length q k s)) := by
      intro k
      induction k with
      | zero => intro _; exact ⟨h, fun h => by omega⟩
      | succ k ih =>
        intro hk
        obtain ⟨i1, i2⟩ := ih (by omega)
        cases hc : q.contains (k : Int)
        · rw [visitK_not hc]
          have hp2 := hq.snoc (k := k) (by simp at hl; omega) (by omega)
          have hl2 : (q ++ [(k : Int)]).length + r.length = m := by simp at hl ⊢; omega
          refine ⟨visit_keepsL hJ _ _ _ hp2 hl2 i1, fun hlt => ?_⟩
          by_cases hk0 : k0 = k
          · subst hk0
            exact visit_sees hJ hR hP hN hm r (q ++ [(k0 : Int)]) _ (by rw [e]; simp) hl2 i1
          · exact visit_keepsL hR _ _ _ hp2 hl2 (i2 (by omega))
        · rw [visitK_has hc]
          refine ⟨i1, fun hlt => i2 ?_⟩
          rcases Nat.lt_or_ge k0 k with h1 | h1
          · exact h1
          · exfalso
            have : k0 = k := by omega
            subst this
            rw [hnot] at hc; cases hc
    exact (step m (Nat.le_refl _)).2 (by omega)
theorem fGt_fin' {x y : Nat} (hx : isFin x = true) (hy : isFin y = true) : fGt x y = decide (fx y < fx x) := by
  show (single.order x y == some .gt) = _
  rw [order_fin hx hy]
  by_cases h : fx y < fx x
  · rw [cmp_gt.2 h]; simp [h]
  · have : compare (fx x) (fx y) ≠ .gt := fun e => h (cmp_gt.1 e)
    cases hc : compare (fx x) (fx y)
    · simp [h]
    · simp [h]
    · exact absurd hc this
/-- The best order: it is one, its sum is what is told, and no order has more. -/
theorem best_law {xs : List Nat} (h : Plains xs) (hn : xs.length ≤ 6) : (Prefix xs.length (bestI xs).1 ∧ (bestI xs).1.length = xs.length ∧ (bestI xs).2 = psum xs (bestI xs).1 ∧ isFin (bestI xs).2 = true) ∧
    ∀ P, Prefix xs.length P → P.length = xs.length → P.Nodup → fx (psum xs P) ≤ fx (bestI xs).2 := by
  have fin : ∀ p, Prefix xs.length p → isFin (psum xs p) = true := fun p hp => (psum_abs h hp hn).fin
  have J0 : ∀ (s : List Int × Nat) p, Prefix xs.length p → p.length = xs.length → (s.2 = ninf ∨ isFin s.2 = true) → ((ostep xs s p).2 = ninf ∨ isFin (ostep xs s p).2 = true) := fun s p hp _ hs => by
    unfold ostep; split
    · exact .inr (fin p hp)
    · exact hs
  have sees : ∀ P, Prefix xs.length P → P.length = xs.length → P.Nodup → isFin (bestI xs).2 = true ∧ fx (psum xs P) ≤ fx (bestI xs).2 := fun P hP hl hN => by
    have := visit_sees (m := xs.length) (f := ostep xs) (J := fun s => s.2 = ninf ∨ isFin s.2 = true) (R := fun s => isFin s.2 = true ∧ fx (psum xs P) ≤ fx s.2) (P := P) J0
      (fun s p hp _ ⟨h1, h2⟩ => by
        unfold ostep; split
        · next hg =>
          rw [fGt_fin' (fin p hp) h1] at hg
          simp at hg
          exact ⟨fin p hp, by simp only; omega⟩
        · exact ⟨h1, h2⟩)
      (fun s hs => by
        unfold ostep; split
        · exact ⟨fin P hP, Int.le_refl _⟩
        · next hg =>
          rcases hs with hs | hs
          · rw [hs, ninf_less (psum_abs h hP hn)] at hg; exact absurd rfl hg
          · rw [fGt_fin' (fin P hP) hs] at hg
            simp at hg
            exact ⟨hs, hg⟩)
      hN hP P [] ([], ninf) rfl (by simpa using hl) (.inl rfl)
    rw [hl] at this; exact this
  have full : Prefix xs.length (bestI xs).1 ∧ ((bestI xs).2 = ninf ∨ ((bestI xs).1.length = xs.length ∧ (bestI xs).2 = psum xs (bestI xs).1)) :=
    visit_keepsL (f := ostep xs) (R := fun s => Prefix xs.length s.1 ∧ (s.2 = ninf ∨ (s.1.length = xs.length ∧ s.2 = psum xs s.1))) (fun s p hp hl hs => by
      unfold ostep; split
      · exact ⟨hp, .inr ⟨hl, rfl⟩⟩
      · exact hs) _ _ _ (Prefix.nil _) (by simp) ⟨Prefix.nil _, .inl rfl⟩
  have idn : (rangeI xs.length).Nodup := by
    unfold rangeI
    exact List.Pairwise.map _ (fun a b hab e => hab (by omega)) List.nodup_range
  have hid := sees (rangeI xs.length) (rangeI_prefix (Nat.le_refl _)) (rangeI_len _) idn
  refine ⟨⟨full.1, ?_⟩, fun P h1 h2 h3 => (sees P h1 h2 h3).2⟩
  rcases full.2 with e | ⟨e1, e2⟩
  · rw [e] at hid; exact absurd hid.1 (by decide)
  · exact ⟨e1, e2, hid.1⟩
theorem picks_id (xs : List Nat) : picks xs (rangeI xs.length) = xs := by
  apply List.ext_getElem
  · rw [picks_len, rangeI_len]
  · intro k h1 h2
    simp [picks, rangeI, fat, h2]
theorem psum_id (xs : List Nat) : psum xs (rangeI xs.length) = leftOf xs := by unfold psum; rw [picks_id]
theorem psum_rev (xs : List Nat) : psum xs (rangeI xs.length).reverse = rightOf xs := by
  have hl : (picks xs (rangeI xs.length).reverse).length = xs.length := by rw [picks_len, List.length_reverse, rangeI_len]
  have hp : picks xs (rangeI xs.length).reverse = xs.reverse := by
    unfold picks
    rw [List.map_reverse]
    congr 1
    exact picks_id xs
  unfold psum leftOf rightOf
  rw [hp, List.length_reverse]
  have : ∀ k, k ≤ xs.length → leftK xs.reverse k = rightK xs xs.length k := by
    intro k
    induction k with
    | zero => intro _; rfl
    | succ k ih =>
      intro hk
      rw [leftK, rightK, ih (by omega)]
      congr 1
      have h1 : k < xs.reverse.length := by simp; omega
      unfold fat
      rw [List.getD_eq_getElem?_getD, List.getD_eq_getElem?_getD, List.getElem?_reverse (by omega)]
  exact this _ (Nat.le_refl _)
/-! ### Products -/
theorem fx_zero0 : fx 0 = 0 := by decide
theorem mul_self_nonneg' (a : Int) : 0 ≤ a * a := by
  rcases Int.le_total 0 a with h | h
  · exact Int.mul_nonneg h h
  · have := Int.mul_nonneg (show 0 ≤ -a by omega) (show 0 ≤ -a by omega)
    rwa [Int.neg_mul_neg] at this
theorem mul_self_ge {x : Nat} (h : isFin x = true) : 0 ≤ fx (fmul x x) := by
  have n := (mul_fin h h).2
  have := n.ge 0 (by unfold isOrd; omega) (by rw [fx_zero0, Int.zero_mul]; exact mul_self_nonneg' (fx x))
  rw [fx_zero0] at this; exact this
theorem add_ge {x y : Nat} (hx : isFin x = true) (hy : isFin y = true) (h1 : 0 ≤ fx x) (h2 : 0 ≤ fx y) : 0 ≤ fx (fadd x y) := by
  have n := (add_fin hx hy).2
  have := n.ge 0 (by unfold isOrd; omega) (by rw [fx_zero0, Int.zero_mul]; omega)
  rw [fx_zero0] at this; exact this
theorem dot_ge {xs : List Nat} (h : Plains xs) (hn : xs.length ≤ 48) : ∀ k, k ≤ xs.length → 0 ≤ fx (dotK xs xs k)
  | 0, _ => by rw [dotK, fx_zero0]; exact Int.le_refl _
  | k + 1, hk => by
    have a := (h.abs (k := k) (by omega))
    exact add_ge (dot_abs h h hn rfl k (by omega)).fin (dot_one a a).fin (dot_ge h hn k (by omega)) (mul_self_ge a.fin)
theorem fx_one : fx 1065353216 = 2 ^ 149 := by decide +kernel
theorem mul_one_f {x : Nat} (hx : x < 4294967296) (h : isFin x = true) : fmul x 1065353216 = x := by
  by_cases h0 : fx x = 0
  · rcases fx_zero hx h0 with rfl | rfl
    · decide +kernel
    · decide +kernel
  · have n := (mul_fin h (y := 1065353216) (by decide)).2
    rw [fx_one] at n
    have o : isOrd x := by
      have : x % 2147483648 < 2139095040 := by simpa [isFin] using h
      unfold isOrd; omega
    have e1 := n.le x o (Int.le_refl _)
    have e2 := n.ge x o (Int.le_refl _)
    have e : fx (fmul x 1065353216) = fx x := by omega
    exact fx_inj n.word hx e (by rw [e]; exact h0)
def onesL (n : Nat) : List Nat := List.replicate n 1065353216
theorem dot_ones {xs : List Nat} (h : Plains xs) : ∀ k, k ≤ xs.length → dotK xs (onesL xs.length) k = leftK xs k
  | 0, _ => rfl
  | k + 1, hk => by
    have a := h.abs (k := k) (by omega)
    rw [dotK, leftK, dot_ones h k (by omega), show fat (onesL xs.length) k = 1065353216 by simp [onesL, fat, show k < xs.length by omega], mul_one_f a.word a.fin]
end Go.Proofs.Ytpaoccnffmngfaa
