/- Plain laws on a stable sort by insertion and merging in place: what its steps do to a list. No program in sight. -/
import Derived.Test.YtpaoccnffmngfaaBase
namespace Go.Proofs.Ytpaoccnffmngfaa
set_option maxRecDepth 20000

def sw (l : List Nat) (i j : Nat) : List Nat := (l.set i (fat l j)).set j (fat l i)
theorem sw_len (l : List Nat) (i j : Nat) : (sw l i j).length = l.length := by simp [sw]
theorem fat_set (l : List Nat) (j k v : Nat) : fat (l.set j v) k = if j = k ∧ j < l.length then v else fat l k := by
  unfold fat
  rw [List.getD_eq_getElem?_getD, List.getD_eq_getElem?_getD, List.getElem?_set]
  by_cases h : j = k
  · subst h
    by_cases h2 : j < l.length
    · simp [h2]
    · simp [h2]
  · simp [h]
theorem sw_at (l : List Nat) {i j : Nat} (hi : i < l.length) (hj : j < l.length) (k : Nat) : fat (sw l i j) k = if k = j then fat l i else if k = i then fat l j else fat l k := by
  unfold sw
  rw [fat_set, fat_set, List.length_set]
  by_cases h1 : j = k
  · subst h1; simp [hj]
  · by_cases h2 : i = k
    · subst h2; simp [hi, h1, Ne.symm h1]
    · simp [h1, h2, Ne.symm h1, Ne.symm h2]
theorem fat_get (l : List Nat) {i : Nat} (h : i < l.length) : fat l i = l[i] := by simp [fat, h]
theorem sw_perm (l : List Nat) {i j : Nat} (hi : i < l.length) (hj : j < l.length) : (sw l i j).Perm l := by
  unfold sw
  rw [fat_get l hi, fat_get l hj]
  exact List.set_set_perm hi hj
theorem sw_comm (l : List Nat) {i j : Nat} (hi : i < l.length) (hj : j < l.length) : sw l i j = sw l j i := by
  apply List.ext_getElem
  · simp [sw_len]
  · intro k h1 h2
    rw [← fat_get _ h1, ← fat_get _ h2, sw_at l hi hj, sw_at l hj hi]
    by_cases e1 : k = j <;> by_cases e2 : k = i <;> simp_all

/-- What a step on the places from a to b keeps. -/
structure Steps (a b : Nat) (l m : List Nat) : Prop where
  perm : m.Perm l
  out : ∀ k, k < a ∨ b ≤ k → fat m k = fat l k
  from_ : ∀ i, a ≤ i → i < b → ∃ j, a ≤ j ∧ j < b ∧ fat m i = fat l j
theorem Steps.len {a b : Nat} {l m : List Nat} (h : Steps a b l m) : m.length = l.length := h.perm.length_eq
theorem Steps.refl (a b : Nat) (l : List Nat) : Steps a b l l := ⟨.refl _, fun _ _ => rfl, fun i h1 h2 => ⟨i, h1, h2, rfl⟩⟩
theorem Steps.trans {a b : Nat} {l m n : List Nat} (h : Steps a b l m) (k : Steps a b m n) : Steps a b l n :=
  ⟨k.perm.trans h.perm, fun i hi => (k.out i hi).trans (h.out i hi), fun i h1 h2 => by
    obtain ⟨j, h3, h4, h5⟩ := k.from_ i h1 h2
    obtain ⟨j', h6, h7, h8⟩ := h.from_ j h3 h4
    exact ⟨j', h6, h7, h5.trans h8⟩⟩
theorem Steps.wide {a b a' b' : Nat} {l m : List Nat} (h : Steps a b l m) (ha : a' ≤ a) (hb : b ≤ b') : Steps a' b' l m :=
  ⟨h.perm, fun k hk => h.out k (by omega), fun i h1 h2 => by
    by_cases hi : a ≤ i ∧ i < b
    · obtain ⟨j, h3, h4, h5⟩ := h.from_ i hi.1 hi.2
      exact ⟨j, by omega, by omega, h5⟩
    · exact ⟨i, h1, h2, h.out i (by omega)⟩⟩
theorem Steps.sw {a b : Nat} {l : List Nat} {i j : Nat} (hi : a ≤ i) (hi' : i < b) (hj : a ≤ j) (hj' : j < b) (hb : b ≤ l.length) : Steps a b l (sw l i j) :=
  ⟨sw_perm l (by omega) (by omega), fun k hk => by rw [sw_at l (by omega) (by omega), if_neg (by omega), if_neg (by omega)], fun k h1 h2 => by
    rw [sw_at l (by omega) (by omega)]
    by_cases e1 : k = j
    · exact ⟨i, hi, hi', by rw [if_pos e1]⟩
    · by_cases e2 : k = i
      · exact ⟨j, hj, hj', by rw [if_neg e1, if_pos e2]⟩
      · exact ⟨k, h1, h2, by rw [if_neg e1, if_neg e2]⟩⟩

/-- An order in which any two words that are alike are one word. -/
structure Ord (le : Nat → Nat → Prop) : Prop where
  total : ∀ x y, le x y ∨ le y x
  trans : ∀ {x y z}, le x y → le y z → le x z
  anti : ∀ {x y}, le x y → le y x → x = y
theorem Ord.refl {le : Nat → Nat → Prop} (h : Ord le) (x : Nat) : le x x := (h.total x x).elim id id
def Srt (le : Nat → Nat → Prop) (l : List Nat) (a b : Nat) : Prop := ∀ i j, a ≤ i → i ≤ j → j < b → le (fat l i) (fat l j)
/-- What the comparison of a later number with an earlier one tells. -/
def Tells (le : Nat → Nat → Prop) (cf : Nat → Nat → Bool) (y x : Nat) : Prop := (cf y x = true → le y x) ∧ (cf y x = false → le x y)

/-! ### Rotation -/
/-- Where the numbers lie when those from a to m and those from m to b have changed places. -/
def rotT (l : List Nat) (a m b k : Nat) : Nat := if a ≤ k ∧ k < b then (if k < a + (b - m) then fat l (k + (m - a)) else fat l (k - (b - m))) else fat l k
/-- In the midst of it: i numbers before m and j behind it have yet to change places. -/
structure Rot (T : Nat → Nat) (m i j : Nat) (l : List Nat) : Prop where
  right : ∀ k, k < j → fat l (m + k) = T (m - i + k)
  left : ∀ k, k < i → fat l (m - i + k) = T (m - i + j + k)
  out : ∀ k, k < m - i ∨ m + j ≤ k → fat l k = T k
theorem Rot.start (l : List Nat) {a m b : Nat} (h1 : a ≤ m) (h2 : m ≤ b) : Rot (rotT l a m b) m (m - a) (b - m) l := by
  refine ⟨fun k hk => ?_, fun k hk => ?_, fun k hk => ?_⟩
  · unfold rotT
    rw [if_pos (by omega), if_pos (by omega)]
    congr 1; omega
  · unfold rotT
    rw [if_pos (by omega), if_neg (by omega)]
    congr 1; omega
  · unfold rotT
    rw [if_neg (by omega)]
theorem rot_same (l : List Nat) {a m b : Nat} (_ : a ≤ m) (h2 : m ≤ b) (h : a = m ∨ m = b) (k : Nat) : rotT l a m b k = fat l k := by
  unfold rotT
  by_cases h3 : a ≤ k ∧ k < b
  · rw [if_pos h3]
    rcases h with h | h
    · rw [if_pos (by omega)]; congr 1; omega
    · rw [if_neg (by omega)]; congr 1; omega
  · rw [if_neg h3]
/-- n numbers from a on and from b on have changed places. -/
def swR (l : List Nat) (a b : Nat) : Nat → List Nat
  | 0 => l
  | n + 1 => sw (swR l a b n) (a + n) (b + n)
theorem swR_len (l : List Nat) (a b : Nat) : ∀ n, (swR l a b n).length = l.length
  | 0 => rfl
  | n + 1 => by rw [swR, sw_len, swR_len l a b n]
theorem swR_at (l : List Nat) {a b : Nat} : ∀ n, a + n ≤ b → b + n ≤ l.length → ∀ k, fat (swR l a b n) k = if a ≤ k ∧ k < a + n then fat l (k - a + b) else if b ≤ k ∧ k < b + n then fat l (k - b + a) else fat l k
  | 0, _, _, k => by rw [swR, if_neg (by omega), if_neg (by omega)]
  | n + 1, h1, h2, k => by
    have ih := swR_at (a := a) (b := b) l n (by omega) (by omega)
    rw [swR, sw_at (i := a + n) (j := b + n) _ (by rw [swR_len]; omega) (by rw [swR_len]; omega), ih, ih, ih]
    by_cases e1 : k = b + n
    · subst e1
      rw [if_pos rfl, if_neg (by omega), if_neg (by omega), if_neg (by omega), if_pos (by omega)]
      congr 1; omega
    · rw [if_neg e1]
      by_cases e2 : k = a + n
      · subst e2
        rw [if_pos rfl, if_neg (by omega), if_neg (by omega), if_pos (by omega)]
        congr 1; omega
      · rw [if_neg e2]
        by_cases e3 : a ≤ k ∧ k < a + n
        · rw [if_pos e3, if_pos (by omega)]
        · rw [if_neg e3, if_neg (show ¬ (a ≤ k ∧ k < a + (n + 1)) by omega)]
          by_cases e4 : b ≤ k ∧ k < b + n
          · rw [if_pos e4, if_pos (show b ≤ k ∧ k < b + (n + 1) by omega)]
          · rw [if_neg e4, if_neg (show ¬ (b ≤ k ∧ k < b + (n + 1)) by omega)]
theorem swR_steps (l : List Nat) {a b A B : Nat} : ∀ n, A ≤ a → a + n ≤ b → b + n ≤ B → B ≤ l.length → Steps A B l (swR l a b n)
  | 0, _, _, _, _ => .refl _ _ _
  | n + 1, h1, h2, h3, h4 => (swR_steps l n h1 (by omega) (by omega) h4).trans (.sw (by omega) (by omega) (by omega) (by omega) (by rw [swR_len]; omega))
theorem Rot.more {T : Nat → Nat} {m i j : Nat} {l : List Nat} (h : Rot T m i j l) (hi : i ≤ m) (hij : j < i) (hl : m + j ≤ l.length) : Rot T m (i - j) j (swR l (m - i) m j) := by
  have e := swR_at l (a := m - i) (b := m) j (by omega) (by omega)
  refine ⟨fun k hk => ?_, fun k hk => ?_, fun k hk => ?_⟩
  · rw [e, if_neg (by omega), if_pos (by omega), show m + k - m + (m - i) = m - i + k by omega, h.left k (by omega)]
    congr 1; omega
  · rw [e, if_neg (by omega), if_neg (by omega), show m - (i - j) + k = m - i + (j + k) by omega, h.left (j + k) (by omega)]
    congr 1; omega
  · rw [e]
    by_cases e1 : m - i ≤ k ∧ k < m - i + j
    · rw [if_pos e1, show k - (m - i) + m = m + (k - (m - i)) by omega, h.right _ (by omega)]
      congr 1; omega
    · rw [if_neg e1, if_neg (by omega)]
      exact h.out k (by omega)
theorem Rot.less {T : Nat → Nat} {m i j : Nat} {l : List Nat} (h : Rot T m i j l) (hi : i ≤ m) (hij : i < j) (hl : m + j ≤ l.length) : Rot T m i (j - i) (swR l (m - i) (m + j - i) i) := by
  have e := swR_at l (a := m - i) (b := m + j - i) i (by omega) (by omega)
  refine ⟨fun k hk => ?_, fun k hk => ?_, fun k hk => ?_⟩
  · rw [e, if_neg (by omega), if_neg (by omega), h.right k (by omega)]
  · rw [e, if_pos (by omega), show m - i + k - (m - i) + (m + j - i) = m + (j - i + k) by omega, h.right _ (by omega)]
    congr 1; omega
  · rw [e]
    by_cases e1 : m + j - i ≤ k ∧ k < m + j - i + i
    · rw [if_neg (by omega), if_pos e1, show k - (m + j - i) + (m - i) = m - i + (k - (m + j - i)) by omega, h.left _ (by omega)]
      congr 1; omega
    · rw [if_neg (by omega), if_neg e1]
      exact h.out k (by omega)
theorem Rot.done {T : Nat → Nat} {m i : Nat} {l : List Nat} (h : Rot T m i i l) (hi : i ≤ m) (hl : m + i ≤ l.length) (k : Nat) : fat (swR l (m - i) m i) k = T k := by
  rw [swR_at l (a := m - i) (b := m) i (by omega) (by omega)]
  by_cases e1 : m - i ≤ k ∧ k < m - i + i
  · rw [if_pos e1, show k - (m - i) + m = m + (k - (m - i)) by omega, h.right _ (by omega)]
    congr 1; omega
  · rw [if_neg e1]
    by_cases e2 : m ≤ k ∧ k < m + i
    · rw [if_pos e2, show k - m + (m - i) = m - i + (k - m) by omega, h.left _ (by omega)]
      congr 1; omega
    · rw [if_neg e2]
      exact h.out k (by omega)

/-! ### One number moved -/
/-- The number at i moved down n places. -/
def shL (l : List Nat) (i : Nat) : Nat → List Nat
  | 0 => l
  | n + 1 => sw (shL l i n) (i - n) (i - n - 1)
theorem shL_len (l : List Nat) (i : Nat) : ∀ n, (shL l i n).length = l.length
  | 0 => rfl
  | n + 1 => by rw [shL, sw_len, shL_len l i n]
theorem shL_at (l : List Nat) {i : Nat} : ∀ n, n ≤ i → i < l.length → ∀ k, fat (shL l i n) k = if k = i - n then fat l i else if i - n < k ∧ k ≤ i then fat l (k - 1) else fat l k
  | 0, _, _, k => by
    rw [shL]
    by_cases e : k = i - 0
    · rw [if_pos e]; congr 1
    · rw [if_neg e, if_neg (by omega)]
  | n + 1, h1, h2, k => by
    have ih := shL_at (i := i) l n (by omega) h2
    rw [shL, sw_at (i := i - n) (j := i - n - 1) _ (by rw [shL_len]; omega) (by rw [shL_len]; omega), ih, ih, ih]
    by_cases e1 : k = i - n - 1
    · rw [if_pos e1, if_pos rfl, if_pos (by omega)]
    · rw [if_neg e1, if_neg (show ¬ k = i - (n + 1) by omega)]
      by_cases e2 : k = i - n
      · rw [if_pos e2, if_neg (by omega), if_neg (by omega), if_pos (by omega), e2]
      · rw [if_neg e2, if_neg e2]
        by_cases e3 : i - n < k ∧ k ≤ i
        · rw [if_pos e3, if_pos (by omega)]
        · rw [if_neg e3, if_neg (by omega)]
theorem shL_steps (l : List Nat) {i A B : Nat} : ∀ n, A + n ≤ i → i < B → B ≤ l.length → Steps A B l (shL l i n)
  | 0, _, _, _ => .refl _ _ _
  | n + 1, h1, h2, h3 => (shL_steps l n (by omega) h2 h3).trans (.sw (by omega) (by omega) (by omega) (by omega) (by rw [shL_len]; omega))
/-- The number at a moved up n places. -/
def shR (l : List Nat) (a : Nat) : Nat → List Nat
  | 0 => l
  | n + 1 => sw (shR l a n) (a + n) (a + n + 1)
theorem shR_len (l : List Nat) (a : Nat) : ∀ n, (shR l a n).length = l.length
  | 0 => rfl
  | n + 1 => by rw [shR, sw_len, shR_len l a n]
theorem shR_at (l : List Nat) {a : Nat} : ∀ n, a + n < l.length → ∀ k, fat (shR l a n) k = if k = a + n then fat l a else if a ≤ k ∧ k < a + n then fat l (k + 1) else fat l k
  | 0, _, k => by
    rw [shR]
    by_cases e : k = a + 0
    · rw [if_pos e]; congr 1
    · rw [if_neg e, if_neg (by omega)]
  | n + 1, h, k => by
    have ih := shR_at (a := a) l n (by omega)
    rw [shR, sw_at (i := a + n) (j := a + n + 1) _ (by rw [shR_len]; omega) (by rw [shR_len]; omega), ih, ih, ih]
    by_cases e1 : k = a + n + 1
    · rw [if_pos e1, if_pos rfl, if_pos (by omega)]
    · rw [if_neg e1, if_neg (show ¬ k = a + (n + 1) by omega)]
      by_cases e2 : k = a + n
      · rw [if_pos e2, if_neg (by omega), if_neg (by omega), if_pos (by omega), e2]
      · rw [if_neg e2, if_neg e2]
        by_cases e3 : a ≤ k ∧ k < a + n
        · rw [if_pos e3, if_pos (by omega)]
        · rw [if_neg e3, if_neg (by omega)]
theorem shR_steps (l : List Nat) {a A B : Nat} : ∀ n, A ≤ a → a + n < B → B ≤ l.length → Steps A B l (shR l a n)
  | 0, _, _, _ => .refl _ _ _
  | n + 1, h1, h2, h3 => (shR_steps l n h1 (by omega) h3).trans (.sw (by omega) (by omega) (by omega) (by omega) (by rw [shR_len]; omega))

variable {le : Nat → Nat → Prop}
theorem Srt.sub {l : List Nat} {a b a' b' : Nat} (h : Srt le l a b) (ha : a ≤ a') (hb : b' ≤ b) : Srt le l a' b' := fun i j h1 h2 h3 => h i j (by omega) h2 (by omega)
theorem Srt.join {l : List Nat} {a m b : Nat} (h1 : Srt le l a m) (h2 : Srt le l m b) (h3 : ∀ i j, a ≤ i → i < m → m ≤ j → j < b → le (fat l i) (fat l j)) : Srt le l a b := fun i j k1 k2 k3 => by
  rcases Nat.lt_or_ge j m with h | h
  · exact h1 i j k1 k2 h
  · rcases Nat.lt_or_ge i m with h' | h'
    · exact h3 i j k1 h' h k3
    · exact h2 i j h' k2 k3
theorem Srt.one (hO : Ord le) (l : List Nat) (a : Nat) : Srt le l a (a + 1) := fun i j h1 h2 h3 => by
  obtain rfl : i = j := by omega
  exact hO.refl _
theorem Srt.none (l : List Nat) (a b : Nat) (h : b ≤ a) : Srt le l a b := fun i j h1 h2 h3 => by omega
/-- Insertion: what lies in order before i, and the number at i where it belongs. -/
theorem ins_done (hO : Ord le) {l : List Nat} {a i n : Nat} (h : Srt le l a i) (hn : a + n ≤ i) (hl : i < l.length) (h1 : ∀ q, i - n ≤ q → q < i → le (fat l i) (fat l q)) (h2 : i - n = a ∨ le (fat l (i - n - 1)) (fat l i)) :
    Srt le (shL l i n) a (i + 1) := by
  have e := shL_at l (i := i) n (by omega) hl
  have low : ∀ q, a ≤ q → q < i - n → le (fat l q) (fat l i) := fun q hq hq2 => by
    rcases h2 with h2 | h2
    · omega
    · exact hO.trans (h q (i - n - 1) hq (by omega) (by omega)) h2
  intro x y k1 k2 k3
  rw [e, e]
  by_cases x1 : x = i - n
  · rw [if_pos x1]
    by_cases y1 : y = i - n
    · rw [if_pos y1]; exact hO.refl _
    · rw [if_neg y1, if_pos (by omega)]
      exact h1 _ (by omega) (by omega)
  · rw [if_neg x1]
    by_cases x2 : i - n < x ∧ x ≤ i
    · rw [if_pos x2, if_neg (by omega), if_pos (by omega)]
      exact h _ _ (by omega) (by omega) (by omega)
    · rw [if_neg x2]
      by_cases y1 : y = i - n
      · rw [if_pos y1]; exact low x k1 (by omega)
      · rw [if_neg y1]
        by_cases y2 : i - n < y ∧ y ≤ i
        · rw [if_pos y2]
          exact h _ _ k1 (by omega) (by omega)
        · rw [if_neg y2]
          exact h _ _ k1 k2 (by omega)
/-- The same from the other side: the number at a where it belongs among those that lie in order behind it. -/
theorem ins_up (hO : Ord le) {l : List Nat} {a b n : Nat} (h : Srt le l (a + 1) b) (hn : a + n < b) (hl : b ≤ l.length) (h1 : ∀ q, a < q → q ≤ a + n → le (fat l q) (fat l a)) (h2 : a + n + 1 = b ∨ le (fat l a) (fat l (a + n + 1))) :
    Srt le (shR l a n) a b := by
  have e := shR_at l (a := a) n (by omega)
  have high : ∀ q, a + n < q → q < b → le (fat l a) (fat l q) := fun q hq hq2 => by
    rcases h2 with h2 | h2
    · omega
    · exact hO.trans h2 (h (a + n + 1) q (by omega) (by omega) hq2)
  intro x y k1 k2 k3
  rw [e, e]
  by_cases x1 : x = a + n
  · rw [if_pos x1]
    by_cases y1 : y = a + n
    · rw [if_pos y1]; exact hO.refl _
    · rw [if_neg y1, if_neg (by omega)]
      exact high y (by omega) k3
  · rw [if_neg x1]
    by_cases x2 : a ≤ x ∧ x < a + n
    · rw [if_pos x2]
      by_cases y1 : y = a + n
      · rw [if_pos y1]; exact h1 _ (by omega) (by omega)
      · rw [if_neg y1]
        by_cases y2 : a ≤ y ∧ y < a + n
        · rw [if_pos y2]; exact h _ _ (by omega) (by omega) (by omega)
        · rw [if_neg y2]; exact h _ _ (by omega) (by omega) (by omega)
    · rw [if_neg x2, if_neg (by omega), if_neg (by omega)]
      exact h _ _ (by omega) k2 k3

/-! ### Merging in place -/
structure Split (le : Nat → Nat → Prop) (l l1 : List Nat) (a m b mid st en : Nat) : Prop where
  s1 : Srt le l1 a st
  s2 : Srt le l1 st mid
  s3 : Srt le l1 mid en
  s4 : Srt le l1 en b
  cross : ∀ i j, a ≤ i → i < mid → mid ≤ j → j < b → le (fat l1 i) (fat l1 j)
  t1 : ∀ i j, a ≤ i → i < st → st ≤ j → j < mid → ∃ i' j', a ≤ i' ∧ i' < m ∧ m ≤ j' ∧ j' < b ∧ fat l1 i = fat l i' ∧ fat l1 j = fat l j'
  t2 : ∀ i j, mid ≤ i → i < en → en ≤ j → j < b → ∃ i' j', a ≤ i' ∧ i' < m ∧ m ≤ j' ∧ j' < b ∧ fat l1 i = fat l i' ∧ fat l1 j = fat l j'
theorem split_of (hO : Ord le) {l l1 : List Nat} {a m b mid st en : Nat} (ha : Srt le l a m) (hb : Srt le l m b) (h1 : a ≤ st) (h2 : st ≤ m) (h3 : m ≤ en) (h4 : en ≤ b) (he : st + en = mid + m) (hst : st ≤ mid) (_ : mid ≤ en)
    (hr : ∀ k, fat l1 k = rotT l st m en k)
    (hlo : st = a ∨ en = b ∨ le (fat l (st - 1)) (fat l en)) (hhi : st = m ∨ en = m ∨ le (fat l (en - 1)) (fat l st)) : Split le l l1 a m b mid st en := by
  have lowA : ∀ i, a ≤ i → i < st → fat l1 i = fat l i := fun i _ hi => by rw [hr, rotT, if_neg (by omega)]
  have lowB : ∀ i, st ≤ i → i < mid → fat l1 i = fat l (i + (m - st)) := fun i hi hi2 => by rw [hr, rotT, if_pos (by omega), if_pos (by omega)]
  have highA : ∀ i, mid ≤ i → i < en → fat l1 i = fat l (i - (en - m)) := fun i hi hi2 => by rw [hr, rotT, if_pos (by omega), if_neg (by omega)]
  have highB : ∀ i, en ≤ i → fat l1 i = fat l i := fun i hi => by rw [hr, rotT, if_neg (by omega)]
  refine ⟨fun i j k1 k2 k3 => ?_, fun i j k1 k2 k3 => ?_, fun i j k1 k2 k3 => ?_, fun i j k1 k2 k3 => ?_, fun i j k1 k2 k3 k4 => ?_, fun i j k1 k2 k3 k4 => ?_, fun i j k1 k2 k3 k4 => ?_⟩
  · rw [lowA i k1 (by omega), lowA j (by omega) k3]; exact ha _ _ k1 k2 (by omega)
  · rw [lowB i k1 (by omega), lowB j (by omega) k3]; exact hb _ _ (by omega) (by omega) (by omega)
  · rw [highA i k1 (by omega), highA j (by omega) k3]; exact ha _ _ (by omega) (by omega) (by omega)
  · rw [highB i k1, highB j (by omega)]; exact hb _ _ (by omega) k2 k3
  · -- the bound between the two halves
    rcases Nat.lt_or_ge i st with hi | hi
    · rw [lowA i k1 hi]
      rcases Nat.lt_or_ge j en with hj | hj
      · rw [highA j k3 hj]; exact ha _ _ k1 (by omega) (by omega)
      · rw [highB j hj]
        rcases hlo with h | h | h
        · omega
        · omega
        · exact hO.trans (ha i (st - 1) k1 (by omega) (by omega)) (hO.trans h (hb en j (by omega) hj k4))
    · rw [lowB i hi k2]
      rcases Nat.lt_or_ge j en with hj | hj
      · rw [highA j k3 hj]
        rcases hhi with h | h | h
        · omega
        · omega
        · exact hO.trans (hb _ (en - 1) (by omega) (by omega) (by omega)) (hO.trans h (ha st _ (by omega) (by omega) (by omega)))
      · rw [highB j hj]; exact hb _ _ (by omega) (by omega) k4
  · exact ⟨i, j + (m - st), k1, by omega, by omega, by omega, lowA i k1 k2, lowB j k3 k4⟩
  · exact ⟨i - (en - m), j, by omega, by omega, by omega, k4, highA i k1 k2, highB j k3⟩
/-- Both halves put in order: all of it is. -/
theorem merge_done {l1 l2 l3 : List Nat} {a b mid : Nat} (cross : ∀ i j, a ≤ i → i < mid → mid ≤ j → j < b → le (fat l1 i) (fat l1 j)) (h2 : Steps a mid l1 l2) (s2 : Srt le l2 a mid) (h3 : Steps mid b l2 l3) (s3 : Srt le l3 mid b) : Srt le l3 a b := by
  refine Srt.join (m := mid) ?_ s3 ?_
  · intro i j k1 k2 k3
    rw [h3.out i (by omega), h3.out j (by omega)]; exact s2 i j k1 k2 k3
  · intro i j k1 k2 k3 k4
    rw [h3.out i (by omega)]
    obtain ⟨j', q1, q2, e⟩ := h3.from_ j k3 k4
    rw [e, h2.out j' (by omega)]
    obtain ⟨i', p1, p2, e2⟩ := h2.from_ i k1 k2
    rw [e2]
    exact cross i' j' p1 p2 q1 q2
/-- Two lists in order with the same words are one list. -/
theorem srt_unique (hO : Ord le) {l m : List Nat} (h : l.Perm m) (h1 : Srt le l 0 l.length) (h2 : Srt le m 0 m.length) : l = m := by
  have pw : ∀ (x : List Nat), Srt le x 0 x.length → x.Pairwise le := fun x hx => by
    rw [List.pairwise_iff_getElem]
    intro i j hi hj hij
    rw [← fat_get x hi, ← fat_get x hj]
    exact hx i j (by omega) (by omega) hj
  exact h.eq_of_pairwise (fun a b _ _ => hO.anti) (pw l h1) (pw m h2)
end Go.Proofs.Ytpaoccnffmngfaa
