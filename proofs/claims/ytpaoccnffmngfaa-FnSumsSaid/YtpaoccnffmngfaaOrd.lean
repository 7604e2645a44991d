/- The orders by which lists are sorted: by value and then by sign; by size and then by that. No program in sight. -/
import Derived.Test.YtpaoccnffmngfaaSort
import Derived.Test.YtpaoccnffmngfaaLight
import Derived.Test.YtpaoccnffmngfaaSum
namespace Go.Proofs.Ytpaoccnffmngfaa
set_option maxRecDepth 20000

def key (x : Nat) : Int := if x < 2147483648 then (x : Int) else 2147483647 - (x : Int)
theorem key_inj {x y : Nat} (h : key x = key y) : x = y := by unfold key at h; split at h <;> split at h <;> omega
def leK (x y : Nat) : Prop := key x ≤ key y
theorem ordK : Ord leK := ⟨fun _ _ => Int.le_total _ _, fun h k => Int.le_trans h k, fun h k => key_inj (Int.le_antisymm h k)⟩
def key2 (x : Nat) : Nat := if x < 4294967296 then 2 * (x % 2147483648) + (if x < 2147483648 then 1 else 0) else 2 * x
theorem key2_inj {x y : Nat} (h : key2 x = key2 y) : x = y := by unfold key2 at h; split at h <;> split at h <;> (repeat' split at h) <;> omega
def leZ (x y : Nat) : Prop := key2 x ≤ key2 y
theorem ordZ : Ord leZ := ⟨fun _ _ => Nat.le_total _ _, fun h k => Nat.le_trans h k, fun h k => key2_inj (Nat.le_antisymm h k)⟩
theorem fx_of {x : Nat} (hx : x < 4294967296) : fx x = if x < 2147483648 then (magOf (x % 2147483648) : Int) else -(magOf (x % 2147483648) : Int) := by
  unfold fx
  by_cases h : x < 2147483648
  · rw [if_neg (by omega), if_pos h]
  · rw [if_pos (by omega), if_neg h]
theorem fx_lt {x y : Nat} (hx : x < 4294967296) (hy : y < 4294967296) (h : fx x < fx y) : key x < key y := by
  rw [fx_of hx, fx_of hy] at h
  have m1 := magOf_le_iff (a := x % 2147483648) (b := y % 2147483648)
  have m2 := magOf_le_iff (a := y % 2147483648) (b := x % 2147483648)
  unfold key
  by_cases h1 : x < 2147483648 <;> by_cases h2 : y < 2147483648
  · rw [if_pos h1, if_pos h2] at h ⊢
    have : ¬ y % 2147483648 ≤ x % 2147483648 := fun c => by have := m2.2 c; omega
    omega
  · rw [if_pos h1, if_neg h2] at h; omega
  · rw [if_neg h1, if_pos h2]; omega
  · rw [if_neg h1, if_neg h2] at h ⊢
    have : ¬ x % 2147483648 ≤ y % 2147483648 := fun c => by have := m1.2 c; omega
    omega
theorem fx_same {x y : Nat} (hx : x < 4294967296) (hy : y < 4294967296) (h : fx x = fx y) : x = y ∨ (x = 0 ∧ y = 2147483648) ∨ (x = 2147483648 ∧ y = 0) := by
  by_cases h0 : fx x = 0
  · have h1 : fx y = 0 := by omega
    rcases fx_zero hx h0 with a | a <;> rcases fx_zero hy h1 with b | b <;> omega
  · exact .inl (fx_inj hx hy h h0)
theorem fx_size {x A : Nat} (h : AbsLe x A) : fx (sizeW x) = (magOf (x % 2147483648) : Int) := by
  have e := fx_of h.word
  unfold sizeW
  rw [fLt_fin h.fin (by decide), fx_0]
  by_cases hlt : fx x < 0
  · rw [if_pos (by simpa using hlt), (sub_flip h.word h.fin hlt).2.2]
    by_cases h1 : x < 2147483648
    · rw [if_pos h1] at e; omega
    · rw [if_neg h1] at e; omega
  · rw [if_neg (by simpa using hlt)]
    by_cases h1 : x < 2147483648
    · rw [if_pos h1] at e; exact e
    · rw [if_neg h1] at e; omega

def cmpW (x y : Nat) : Int := if fLt x y then -1 else if fGt x y then 1 else 0
def signW (x : Nat) : Nat := if 2147483648 ≤ x then 3212836864 else W1
def ordC (x y : Nat) : Int := if cmpW x y = 0 then cmpW (signW x) (signW y) else cmpW x y
def sizC (x y : Nat) : Int := cmpW (sizeW x) (sizeW y)
theorem cmpW_fin {x y : Nat} (hx : isFin x = true) (hy : isFin y = true) : cmpW x y = if fx x < fx y then -1 else if fx y < fx x then 1 else 0 := by
  unfold cmpW; rw [fLt_fin hx hy, fGt_fin hx hy]; simp
theorem cmpW_sign (x y : Nat) : cmpW (signW x) (signW y) = if 2147483648 ≤ x then (if 2147483648 ≤ y then 0 else -1) else (if 2147483648 ≤ y then 1 else 0) := by
  unfold signW
  by_cases h1 : 2147483648 ≤ x <;> by_cases h2 : 2147483648 ≤ y <;> simp only [h1, h2, if_true, if_false] <;> decide +kernel
theorem ordC_tells {x y : Nat} (hx : x < 4294967296) (hy : y < 4294967296) (fx' : isFin x = true) (fy' : isFin y = true) : (ordC y x < 0 → key y < key x) ∧ (¬ ordC y x < 0 → key x ≤ key y) := by
  unfold ordC
  rw [cmpW_fin fy' fx', cmpW_sign]
  rcases Int.lt_trichotomy (fx y) (fx x) with h | h | h
  · have := fx_lt hy hx h
    rw [if_pos h]; simp; omega
  · rw [if_neg (show ¬ fx y < fx x by omega), if_neg (show ¬ fx x < fx y by omega), if_pos rfl]
    unfold key
    rcases fx_same hy hx h with e | ⟨e1, e2⟩ | ⟨e1, e2⟩
    · subst e
      by_cases h1 : 2147483648 ≤ y
      · simp [h1]
      · simp [h1]
    · subst e1; subst e2; simp
    · subst e1; subst e2; simp
  · have := fx_lt hx hy h
    rw [if_neg (show ¬ fx y < fx x by omega), if_pos h]; simp; omega
theorem ord_tells {x y : Nat} (hx : x < 4294967296) (hy : y < 4294967296) (fx' : isFin x = true) (fy' : isFin y = true) : Tells leK (fun a b => decide (ordC a b < 0)) y x := by
  obtain ⟨h1, h2⟩ := ordC_tells hx hy fx' fy'
  refine ⟨fun h => ?_, fun h => ?_⟩
  · exact Int.le_of_lt (h1 (by simpa using h))
  · exact h2 (by simpa using h)
theorem siz_tells {x y A : Nat} (hx : AbsLe x A) (hy : AbsLe y A) (hk : leK x y) : Tells leZ (fun a b => decide (sizC a b < 0)) y x := by
  have e : sizC y x = if magOf (y % 2147483648) < magOf (x % 2147483648) then -1 else if magOf (x % 2147483648) < magOf (y % 2147483648) then 1 else 0 := by
    unfold sizC
    rw [cmpW_fin (size_in hy).fin (size_in hx).fin, fx_size hx, fx_size hy]
    by_cases h1 : magOf (y % 2147483648) < magOf (x % 2147483648)
    · rw [if_pos (by omega), if_pos h1]
    · rw [if_neg (by omega), if_neg h1]
      by_cases h2 : magOf (x % 2147483648) < magOf (y % 2147483648)
      · rw [if_pos (by omega), if_pos h2]
      · rw [if_neg (by omega), if_neg h2]
  have m1 := magOf_le_iff (a := x % 2147483648) (b := y % 2147483648)
  have m2 := magOf_le_iff (a := y % 2147483648) (b := x % 2147483648)
  have wx := hx.word
  have wy := hy.word
  have k2 : ∀ z, z < 4294967296 → key2 z = 2 * (z % 2147483648) + (if z < 2147483648 then 1 else 0) := fun z hz => by unfold key2; rw [if_pos hz]
  unfold Tells leZ
  simp only []
  rw [k2 x wx, k2 y wy, e]
  unfold leK key at hk
  refine ⟨fun h => ?_, fun h => ?_⟩
  · by_cases h1 : magOf (y % 2147483648) < magOf (x % 2147483648)
    · have : ¬ x % 2147483648 ≤ y % 2147483648 := fun c => by have := m1.2 c; omega
      split <;> split <;> omega
    · rw [if_neg h1] at h; split at h <;> simp at h
  · by_cases h1 : magOf (y % 2147483648) < magOf (x % 2147483648)
    · rw [if_pos h1] at h; simp at h
    · have h3 : x % 2147483648 ≤ y % 2147483648 := m1.1 (by omega)
      rcases Nat.lt_or_ge (x % 2147483648) (y % 2147483648) with h4 | h4
      · split <;> split <;> omega
      · have h5 : x % 2147483648 = y % 2147483648 := by omega
        by_cases c1 : x < 2147483648 <;> by_cases c2 : y < 2147483648
        · simp [c1, c2, h5]
        · rw [if_pos c1, if_neg c2] at hk; omega
        · simp [c1, c2, h5]
        · simp [c1, c2, h5]

/-! ### What is in order is what it is -/
/-- The numbers of a list in order. -/
def insK (leb : Nat → Nat → Bool) (x : Nat) : List Nat → List Nat
  | [] => [x]
  | y :: ys => if leb x y then x :: y :: ys else y :: insK leb x ys
def sortBy (leb : Nat → Nat → Bool) : List Nat → List Nat
  | [] => []
  | x :: xs => insK leb x (sortBy leb xs)
theorem insK_perm (leb : Nat → Nat → Bool) (x : Nat) : ∀ l, (insK leb x l).Perm (x :: l)
  | [] => .refl _
  | y :: ys => by
    unfold insK
    split
    · exact .refl _
    · exact ((insK_perm leb x ys).cons y).trans (.swap x y ys)
theorem sortBy_perm (leb : Nat → Nat → Bool) : ∀ l, (sortBy leb l).Perm l
  | [] => .refl _
  | x :: xs => (insK_perm leb x _).trans ((sortBy_perm leb xs).cons x)
theorem insK_pw {le : Nat → Nat → Prop} {leb : Nat → Nat → Bool} (hO : Ord le) (hb : ∀ x y, leb x y = true ↔ le x y) (x : Nat) : ∀ l : List Nat, l.Pairwise le → (insK leb x l).Pairwise le
  | [], _ => by simp [insK]
  | y :: ys, h => by
    rw [List.pairwise_cons] at h
    unfold insK
    by_cases c : leb x y = true
    · rw [if_pos c, List.pairwise_cons, List.pairwise_cons]
      have cxy := (hb x y).1 c
      refine ⟨fun z hz => ?_, h⟩
      rcases List.mem_cons.1 hz with e | e
      · subst e; exact cxy
      · exact hO.trans cxy (h.1 z e)
    · rw [if_neg c, List.pairwise_cons]
      refine ⟨fun z hz => ?_, insK_pw hO hb x ys h.2⟩
      rcases List.mem_cons.1 ((insK_perm leb x ys).mem_iff.1 hz) with e | e
      · subst e
        rcases hO.total z y with k | k
        · exact absurd ((hb z y).2 k) c
        · exact k
      · exact h.1 z e
theorem sortBy_pw {le : Nat → Nat → Prop} {leb : Nat → Nat → Bool} (hO : Ord le) (hb : ∀ x y, leb x y = true ↔ le x y) : ∀ l, (sortBy leb l).Pairwise le
  | [] => .nil
  | x :: xs => insK_pw hO hb x _ (sortBy_pw hO hb xs)
theorem pw_srt {le : Nat → Nat → Prop} (hO : Ord le) {l : List Nat} (h : l.Pairwise le) : Srt le l 0 l.length := fun i j _ hij hj => by
  rw [fat_get l (by omega), fat_get l hj]
  rcases Nat.lt_or_ge i j with hlt | hge
  · exact List.pairwise_iff_getElem.1 h i j (by omega) hj hlt
  · obtain rfl : i = j := by omega
    exact hO.refl _
def sortK (l : List Nat) : List Nat := sortBy (fun x y => decide (key x ≤ key y)) l
def sortZ (l : List Nat) : List Nat := sortBy (fun x y => decide (key2 x ≤ key2 y)) l
theorem sortK_perm (l : List Nat) : (sortK l).Perm l := sortBy_perm _ l
theorem sortZ_perm (l : List Nat) : (sortZ l).Perm l := sortBy_perm _ l
theorem sortK_len (l : List Nat) : (sortK l).length = l.length := (sortK_perm l).length_eq
theorem sortZ_len (l : List Nat) : (sortZ l).length = l.length := (sortZ_perm l).length_eq
theorem sortK_srt (l : List Nat) : Srt leK (sortK l) 0 l.length := by
  have h := pw_srt ordK (sortBy_pw (leb := fun x y => decide (key x ≤ key y)) ordK (fun x y => by simp [leK]) l)
  rw [← sortK_len l]; exact h
theorem sortZ_srt (l : List Nat) : Srt leZ (sortZ l) 0 l.length := by
  have h := pw_srt ordZ (sortBy_pw (leb := fun x y => decide (key2 x ≤ key2 y)) ordZ (fun x y => by simp [leZ]) l)
  rw [← sortZ_len l]; exact h
theorem sorted_is {l m : List Nat} (hp : m.Perm l) (hs : Srt leK m 0 l.length) : m = sortK l :=
  srt_unique ordK (hp.trans (sortK_perm l).symm) (by rw [hp.length_eq]; exact hs) (by rw [sortK_len]; exact sortK_srt l)
theorem sized_is {l m : List Nat} (hp : m.Perm l) (hs : Srt leZ m 0 l.length) : m = sortZ l :=
  srt_unique ordZ (hp.trans (sortZ_perm l).symm) (by rw [hp.length_eq]; exact hs) (by rw [sortZ_len]; exact sortZ_srt l)
theorem Plains.perm {l m : List Nat} (h : Plains l) (hp : m.Perm l) : Plains m := fun k hk => by
  rw [fat_get m hk]
  have := hp.mem_iff.1 (List.getElem_mem hk)
  obtain ⟨i, hi, e⟩ := List.getElem_of_mem this
  rw [← e, ← fat_get l hi]
  exact h i hi
end Go.Proofs.Ytpaoccnffmngfaa
