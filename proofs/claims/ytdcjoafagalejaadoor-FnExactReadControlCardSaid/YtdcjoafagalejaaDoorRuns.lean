/- Plans and the runs in their texts: plain. -/
import Derived.Test.YtdcjoafagalejaaDoorPText
import Derived.Test.YtdcjoafagalejaaDoorRState
import Derived.Lib.CutLaws
namespace Go.Proofs.YtdcjoafagalejaaDoor
set_option maxRecDepth 20000
open Go.RowKit

/-! ### Cutting and joining -/
theorem cuts_free {c : UInt8} : ∀ {s : List UInt8}, c ∉ s → cuts c s = [s]
  | [], _ => rfl
  | b :: r, h => by
    have hb : b ≠ c := fun e => h (by simp [e])
    have hr : c ∉ r := fun e => h (by simp [e])
    rw [cuts, if_neg hb, cuts_free hr]; rfl
theorem cuts_app {c : UInt8} : ∀ {a : List UInt8} (r : List UInt8), c ∉ a → cuts c (a ++ c :: r) = a :: cuts c r
  | [], r, _ => by rw [List.nil_append, cuts, if_pos rfl]
  | b :: a, r, h => by
    have hb : b ≠ c := fun e => h (by simp [e])
    have ha : c ∉ a := fun e => h (by simp [e])
    rw [List.cons_append, cuts, if_neg hb, cuts_app r ha]; rfl
theorem join_more (x y : List UInt8) (r : List (List UInt8)) (c : UInt8) : Lib.join (x :: y :: r) [c] = x ++ c :: Lib.join (y :: r) [c] := by
  rw [Lib.join_cons, Lib.join_cons]; simp [Lib.joinTail]
theorem cuts_join {c : UInt8} : ∀ {ws : List (List UInt8)}, ws ≠ [] → (∀ x ∈ ws, c ∉ x) → cuts c (Lib.join ws [c]) = ws
  | [], h, _ => absurd rfl h
  | [x], _, h => by rw [Lib.join_one]; exact cuts_free (h x (by simp))
  | x :: y :: r, _, h => by
    rw [join_more, cuts_app _ (h x (by simp)), cuts_join (by simp) (fun z hz => h z (by simp at hz ⊢; exact .inr hz))]
theorem join_cuts (c : UInt8) : ∀ s : List UInt8, Lib.join (cuts c s) [c] = s
  | [] => by rw [cuts, Lib.join_one]
  | b :: r => by
    have ih := join_cuts c r
    rw [cuts]
    cases hc : cuts c r with
    | nil => exact absurd hc (cuts_ne c r)
    | cons w ws =>
      rw [hc] at ih
      split
      · rename_i h; subst h; rw [join_more, ih]; rfl
      · rw [glue]
        cases ws with
        | nil => rw [Lib.join_one] at ih ⊢; simp [ih]
        | cons v vs => rw [join_more] at ih ⊢; simp [ih]
theorem cut_app {c : UInt8} {a : List UInt8} (b : List UInt8) (h : c ∉ a) : Lib.cut (a ++ c :: b) [c] = (a, b, true) := by
  have hi : ∀ a : List UInt8, c ∉ a → Lib.index (a ++ c :: b) [c] = a.length := by
    intro a
    induction a with
    | nil => intro _; rw [List.nil_append, Lib.index]; simp [List.isPrefixOf]
    | cons x a ih =>
      intro h
      have hx : x ≠ c := fun e => h (by simp [e])
      have := ih (fun e => h (by simp [e]))
      rw [List.cons_append, Lib.index, this]
      have hp : ([c] : List UInt8).isPrefixOf (x :: (a ++ c :: b)) = false := by simp [List.isPrefixOf, Ne.symm hx]
      rw [hp]; simp
  unfold Lib.cut
  rw [hi a h, if_pos (by omega)]
  simp [List.drop_append]
theorem cuts_two {c : UInt8} {s a b : List UInt8} (h : cuts c s = [a, b]) : s = a ++ c :: b := by
  have := join_cuts c s
  rw [h, join_more, Lib.join_one] at this
  exact this.symm

/-! ### Digits are neither spaces nor 'x' -/
theorem dec_free {c : UInt8} (hc : c.toNat < 48 ∨ 57 < c.toNat) (n : Nat) : c ∉ Lib.decDigits n := by
  intro hm
  obtain ⟨k, hk, e⟩ := List.mem_iff_getElem.1 hm
  have d := (dec_holds n).1
  simp only [digK, List.all_eq_true, List.mem_range] at d
  have := d k hk
  rw [show bat (Lib.decDigits n) k = c from by unfold bat; rw [List.getD_eq_getElem?_getD, List.getElem?_eq_getElem hk]; exact e] at this
  simp [isDig] at this; omega
theorem itoa_free {c : UInt8} (hc : (c.toNat < 48 ∨ 57 < c.toNat) ∧ c.toNat ≠ 45) (t : Int) : c ∉ Lib.itoa t := by
  by_cases h : t < 0
  · obtain ⟨u, rfl⟩ : ∃ u : Nat, t = -(u : Int) := ⟨t.natAbs, by omega⟩
    rw [Lib.itoa_neg u (by omega)]
    intro hm
    rcases List.mem_cons.1 hm with rfl | hm
    · exact hc.2 rfl
    · exact dec_free hc.1 u hm
  · obtain ⟨u, rfl⟩ := Int.eq_ofNat_of_zero_le (Int.not_lt.mp h)
    rw [Lib.itoa_nonneg]; exact dec_free hc.1 u
def wordR (r : Nat × Int) : List UInt8 := wordOf r.1 r.2
theorem word_free (r : Nat × Int) : (32 : UInt8) ∉ wordR r := by
  unfold wordR wordOf
  intro hm
  simp only [List.mem_append, List.mem_singleton] at hm
  rcases hm with hm | hm | hm
  · exact dec_free (by decide) _ hm
  · revert hm; decide
  · exact itoa_free (by decide) _ hm
theorem word_cuts (r : Nat × Int) : cuts 120 (wordR r) = [Lib.decDigits r.1, Lib.itoa r.2] := by
  unfold wordR wordOf
  rw [List.singleton_append, cuts_app _ (dec_free (by decide) _), cuts_free (itoa_free (by decide) _)]
theorem word_cut (r : Nat × Int) : Lib.cut (wordR r) [120] = (Lib.decDigits r.1, Lib.itoa r.2, true) := by
  unfold wordR wordOf
  rw [List.singleton_append, cut_app _ (dec_free (by decide) _)]

/-! ### Runs -/
def okR (rs : List (Nat × Int)) : Prop := ∀ r ∈ rs, 1 ≤ r.1 ∧ r.1 ≤ 24 ∧ -64 ≤ r.2 ∧ r.2 ≤ 64
def diffR : List (Nat × Int) → Prop
  | [] => True
  | [_] => True
  | a :: b :: r => a.2 ≠ b.2 ∧ diffR (b :: r)
def ex : List (Nat × Int) → List Int
  | [] => []
  | r :: rs => List.replicate r.1 r.2 ++ ex rs
theorem ex_app : ∀ a b : List (Nat × Int), ex (a ++ b) = ex a ++ ex b
  | [], b => rfl
  | r :: a, b => by rw [List.cons_append, ex, ex, ex_app a b, List.append_assoc]
theorem ex_one (r : Nat × Int) : ex [r] = List.replicate r.1 r.2 := by simp [ex]
theorem okR_app {a b : List (Nat × Int)} : okR (a ++ b) ↔ okR a ∧ okR b := by
  unfold okR
  constructor
  · intro h; exact ⟨fun r hr => h r (by simp [hr]), fun r hr => h r (by simp [hr])⟩
  · rintro ⟨h1, h2⟩ r hr
    rcases List.mem_append.1 hr with h | h
    · exact h1 r h
    · exact h2 r h
def lastR : List (Nat × Int) → Option Int
  | [] => none
  | [a] => some a.2
  | _ :: b :: r => lastR (b :: r)
theorem lastR_app (a : List (Nat × Int)) (r : Nat × Int) : lastR (a ++ [r]) = some r.2 := by
  induction a with
  | nil => rfl
  | cons x a ih =>
    cases a with
    | nil => rfl
    | cons y a => exact ih
theorem diffR_app {a : List (Nat × Int)} {r : Nat × Int} (h : diffR a) (hl : lastR a ≠ some r.2) : diffR (a ++ [r]) := by
  induction a with
  | nil => trivial
  | cons x a ih =>
    cases a with
    | nil => exact ⟨fun e => hl (by rw [lastR, e]), trivial⟩
    | cons y a => exact ⟨h.1, ih h.2 hl⟩
theorem ex_last {a : List (Nat × Int)} (ho : okR a) {t : Int} (h : lastR a = some t) : ∃ m, (ex a).length = m + 1 ∧ iat (ex a) m = t := by
  induction a with
  | nil => cases h
  | cons x a ih =>
    cases a with
    | nil =>
      have := ho x (by simp)
      simp only [lastR, Option.some.injEq] at h
      exact ⟨x.1 - 1, by rw [ex_one]; simp; omega, by rw [ex_one, ← h]; simp only [iat, List.getD_eq_getElem?_getD, List.getElem?_replicate]; rw [if_pos (by omega)]; rfl⟩
    | cons y a =>
      obtain ⟨m, h1, h2⟩ := ih (fun r hr => ho r (by simp at hr ⊢; exact .inr hr)) h
      refine ⟨x.1 + m, by rw [ex]; simp at h1 ⊢; omega, ?_⟩
      rw [ex]
      simp only [iat, List.getD_eq_getElem?_getD] at h2 ⊢
      rw [List.getElem?_append_right (by simp)]
      simpa using h2
theorem lastR_none {a : List (Nat × Int)} (h : a ≠ []) : lastR a ≠ none := by
  induction a with
  | nil => exact absurd rfl h
  | cons x a ih =>
    cases a with
    | nil => simp [lastR]
    | cons y a => exact ih (by simp)
/-- The runs are told by the list. -/
theorem ex_inj : ∀ {a b : List (Nat × Int)}, okR a → okR b → diffR a → diffR b → ex a = ex b → a = b
  | [], [], _, _, _, _, _ => rfl
  | [], y :: b, _, hb, _, _, h => by
    have := hb y (by simp)
    have h2 := congrArg List.length h
    simp [ex] at h2; omega
  | x :: a, [], ha, _, _, _, h => by
    have := ha x (by simp)
    have h2 := congrArg List.length h
    simp [ex] at h2; omega
  | x :: a, y :: b, ha, hb, da, db, h => by
    have hx := ha x (by simp)
    have hy := hb y (by simp)
    have key : ∀ (x y : Nat × Int) (a b : List (Nat × Int)), 1 ≤ x.1 → okR (y :: b) → okR (x :: a) → diffR (x :: a) → ex (x :: a) = ex (y :: b) → x.2 = y.2 ∧ ¬ x.1 < y.1 := by
      intro x y a b hx hb ha da h
      have hy := hb y (by simp)
      have g : ∀ k, iat (ex (x :: a)) k = iat (ex (y :: b)) k := fun k => by rw [h]
      have g0 : ∀ (z : Nat × Int) (c : List (Nat × Int)) k, k < z.1 → iat (ex (z :: c)) k = z.2 := fun z c k hk => by
        rw [ex]; simp only [iat, List.getD_eq_getElem?_getD]; rw [List.getElem?_append_left (by simpa using hk)]; simp [hk]
      have e1 : x.2 = y.2 := by rw [← g0 x a 0 (by omega), ← g0 y b 0 (by omega), g]
      refine ⟨e1, fun hlt => ?_⟩
      have e2 : iat (ex (y :: b)) x.1 = y.2 := g0 y b x.1 hlt
      rw [← g] at e2
      cases a with
      | nil =>
        have := congrArg List.length h
        simp [ex] at this; omega
      | cons z a =>
        have hz := ha z (by simp)
        have e3 : iat (ex (x :: z :: a)) x.1 = z.2 := by
          rw [ex]
          simp only [iat, List.getD_eq_getElem?_getD]
          rw [List.getElem?_append_right (by simp)]
          have := g0 z a 0 (by omega)
          simpa [iat] using this
        rw [e3] at e2
        exact da.1 (by rw [e1, e2])
    have k1 := key x y a b (by omega) hb ha da h
    have k2 := key y x b a (by omega) ha hb db h.symm
    have e : x = y := Prod.ext (by omega) k1.1
    subst e
    have da' : diffR a := by cases a with | nil => trivial | cons z a => exact da.2
    have db' : diffR b := by cases b with | nil => trivial | cons z b => exact db.2
    rw [ex, ex] at h
    rw [ex_inj (fun r hr => ha r (by simp [hr])) (fun r hr => hb r (by simp [hr])) da' db' (List.append_cancel_left h)]
/-- A plan, as far as its first hours are told. -/
def pad (rs : List (Nat × Int)) : List Int := ex rs ++ List.replicate (24 - (ex rs).length) 0
theorem pad_len {rs : List (Nat × Int)} (h : (ex rs).length ≤ 24) : (pad rs).length = 24 := by simp [pad]; omega
theorem pad_full {rs : List (Nat × Int)} (h : (ex rs).length = 24) : pad rs = ex rs := by simp [pad, h]
/-- What runW tells, as runs. -/
theorem runW_runs {p : List Int} (lp : p.length = 24) (ht : ∀ k, k < 24 → -64 ≤ iat p k ∧ iat p k ≤ 64) : ∀ k, k ≤ 24 → ∃ rs, (runW p k).2 = rs.map wordR ∧ ex rs = p.take (runW p k).1 ∧ okR rs ∧ diffR rs ∧ (k < 24 → (∀ j, (runW p k).1 ≤ j → j ≤ k → iat p j = iat p (runW p k).1) ∧ (runW p k).1 ≤ k ∧ lastR rs ≠ some (iat p (runW p k).1)) ∧ (k = 24 → (runW p k).1 = 24)
  | 0, _ => by
    refine ⟨[], rfl, rfl, fun r hr => (by cases hr), trivial, fun _ => ⟨fun j h1 h2 => ?_, Nat.le_refl _, (by simp [lastR])⟩, fun h => (by omega)⟩
    have e : j = 0 := by omega
    rw [e]; rfl
  | k + 1, hk => by
    obtain ⟨rs, h1, h2, h3, h4, h5, _⟩ := runW_runs lp ht k (by omega)
    obtain ⟨h6, h7, h8⟩ := h5 (by omega)
    by_cases hc : k + 1 = 24 ∨ iat p (k + 1) ≠ iat p (runW p k).1
    · rw [runW_yes hc]
      have htf := ht (runW p k).1 (by omega)
      generalize (runW p k).1 = f at *
      have he : ex (rs ++ [(k + 1 - f, iat p f)]) = p.take (k + 1) := by
        rw [ex_app, ex_one, h2]
        apply List.ext_getElem
        · simp; omega
        · intro j hj1 hj2
          rw [List.getElem_append]
          split
          · simp
          · rename_i hn
            have hj3 : j < k + 1 := by simp at hj2; omega
            have hj4 : f ≤ j := by simp at hn; omega
            have := h6 j hj4 (by omega)
            rw [List.getElem_replicate, List.getElem_take, ← this]
            simp [iat, show j < p.length by omega]
      refine ⟨rs ++ [(k + 1 - f, iat p f)], ?_, he, ?_, ?_, ?_, fun h => h⟩
      · rw [h1, List.map_append]; rfl
      · refine okR_app.2 ⟨h3, fun r hr => ?_⟩
        simp at hr; subst hr
        simp only; omega
      · exact diffR_app h4 h8
      · intro hlt
        refine ⟨fun j h9 h10 => by rw [show j = k + 1 by omega], Nat.le_refl _, ?_⟩
        rw [lastR_app]
        intro e
        exact hc.elim (by omega) (fun h => h (Option.some.inj e).symm)
    · have hn : iat p (k + 1) = iat p (runW p k).1 := Decidable.byContradiction fun hx => hc (.inr hx)
      rw [runW_no (fun e => hc (.inl e)) hn]
      refine ⟨rs, h1, h2, h3, h4, fun _ => ⟨fun j h9 h10 => ?_, by omega, h8⟩, fun h => absurd (.inl h) hc⟩
      by_cases e : j = k + 1
      · rw [e]; exact hn
      · exact h6 j h9 (by omega)
/-- A text is that of a plan. -/
def IsPl (s : List UInt8) (p : List Int) : Prop := p.length = 24 ∧ tilts p = true ∧ planT p = s
theorem tilts_of {p : List Int} (h : ∀ k, k < p.length → -64 ≤ iat p k ∧ iat p k ≤ 64) : tilts p = true := by
  simp only [tilts, List.all_eq_true]
  intro x hx
  obtain ⟨k, hk, e⟩ := List.mem_iff_getElem.1 hx
  have := h k hk
  rw [show iat p k = x by simp [iat, hk, e]] at this
  simpa [inB] using this
theorem isPl_runs {s : List UInt8} {p : List Int} (h : IsPl s p) : ∃ rs, cuts 32 s = rs.map wordR ∧ ex rs = p ∧ okR rs ∧ diffR rs ∧ (ex rs).length = 24 := by
  obtain ⟨lp, ht, hs⟩ := h
  obtain ⟨rs, h1, h2, h3, h4, _, h6⟩ := runW_runs lp (tilts_in lp ht) 24 (Nat.le_refl _)
  rw [h6 rfl, List.take_of_length_le (by omega)] at h2
  refine ⟨rs, ?_, h2, h3, h4, by rw [h2, lp]⟩
  rw [planT, ht] at hs
  rw [← hs, if_pos rfl, h1]
  have hne : rs ≠ [] := fun e => by rw [e] at h2; rw [← h2] at lp; simp [ex] at lp
  exact cuts_join (by simpa using hne) (fun x hx => by obtain ⟨r, _, rfl⟩ := List.mem_map.1 hx; exact word_free r)
theorem ex_in {rs : List (Nat × Int)} (ho : okR rs) : ∀ x ∈ ex rs, -64 ≤ x ∧ x ≤ 64 := by
  induction rs with
  | nil => intro x hx; cases hx
  | cons r rs ih =>
    intro x hx
    rw [ex] at hx
    have hr := ho r (by simp)
    rcases List.mem_append.1 hx with h | h
    · rw [(List.mem_replicate.1 h).2]; omega
    · exact ih (fun q hq => ho q (by simp [hq])) x h
theorem isPl_of {s : List UInt8} {rs : List (Nat × Int)} (hw : cuts 32 s = rs.map wordR) (ho : okR rs) (hd : diffR rs) (hl : (ex rs).length = 24) : IsPl s (ex rs) := by
  have hin : ∀ k, k < (ex rs).length → -64 ≤ iat (ex rs) k ∧ iat (ex rs) k ≤ 64 := fun k hk => ex_in ho _ (by simp [iat, hk])
  have ht := tilts_of hin
  obtain ⟨rs2, h1, h2, h3, h4, _, h6⟩ := runW_runs hl (tilts_in hl ht) 24 (Nat.le_refl _)
  rw [h6 rfl, List.take_of_length_le (by omega)] at h2
  have e := ex_inj h3 ho h4 hd h2
  subst e
  refine ⟨hl, ht, ?_⟩
  rw [planT, ht, if_pos rfl, h1, ← hw, join_cuts]
theorem isPl_one {s : List UInt8} {p q : List Int} (hp : IsPl s p) (hq : IsPl s q) : p = q := by
  obtain ⟨a, a1, a2, a3, a4, _⟩ := isPl_runs hp
  obtain ⟨b, b1, b2, b3, b4, _⟩ := isPl_runs hq
  have : ∀ {a b : List (Nat × Int)}, okR a → okR b → a.map wordR = b.map wordR → a = b := by
    intro a
    induction a with
    | nil => intro b _ _ h; cases b with | nil => rfl | cons y b => simp at h
    | cons x a ih =>
      intro b ha hb h
      cases b with
      | nil => simp at h
      | cons y b =>
        simp only [List.map_cons, List.cons.injEq] at h
        have hx := ha x (by simp)
        have hy := hb y (by simp)
        have c1 := word_cuts x
        rw [h.1, word_cuts y] at c1
        simp only [List.cons.injEq, and_true] at c1
        have e1 : numOf (Lib.decDigits y.1) = some y.1 := numOf_dec (by omega)
        rw [c1.1, numOf_dec (by omega)] at e1
        have e2 := itoa_inj (by omega) (by omega) c1.2
        rw [Prod.ext (Option.some.inj e1) e2.symm, ih (fun r hr => ha r (by simp [hr])) (fun r hr => hb r (by simp [hr])) h.2]
  have e := this a3 b3 (a1.symm.trans b1)
  rw [← a2, ← b2, e]
end Go.Proofs.YtdcjoafagalejaaDoor
