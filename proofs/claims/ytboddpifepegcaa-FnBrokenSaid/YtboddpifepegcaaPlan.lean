/- Walks over plans and floors: arrays of 24 numbers by value. -/
import Derived.Test.YtboddpifepegcaaSmall
namespace Go.Proofs.Ytboddpifepegcaa
set_option maxRecDepth 20000
open Go.RowKit

/-- The first k of l, and zeros behind them. -/
def partI (l : List Int) (k : Nat) : List Int := l.take k ++ List.replicate (l.length - k) 0
def partF (l : List Nat) (k : Nat) : List Nat := l.take k ++ List.replicate (l.length - k) 0
theorem partI_length (l : List Int) (k : Nat) (hk : k ≤ l.length) : (partI l k).length = l.length := by simp [partI]; omega
theorem partF_length (l : List Nat) (k : Nat) (hk : k ≤ l.length) : (partF l k).length = l.length := by simp [partF]; omega
theorem partI_set (l : List Int) (k : Nat) (hk : k < l.length) : (i16s (partI l k)).setIfInBounds k (.int .i16 (iat l k)) = i16s (partI l (k + 1)) := by
  have e : (partI l k).set k (l.getD k 0) = partI l (k + 1) := by
    apply List.ext_getElem?
    intro i
    simp only [partI]
    rw [List.getElem?_set]
    have h1 : (l.take k).length = k := by simp; omega
    have h2 : (l.take (k + 1)).length = k + 1 := by simp; omega
    by_cases hi : k = i
    · subst hi
      rw [if_pos rfl, if_pos (by simp; omega), List.getElem?_append_left (by omega), List.getElem?_take, if_pos (by omega)]
      simp [hk]
    · rw [if_neg hi]
      by_cases hlt : i < k
      · rw [List.getElem?_append_left (by omega), List.getElem?_append_left (by omega), List.getElem?_take, List.getElem?_take, if_pos hlt, if_pos (by omega)]
      · rw [List.getElem?_append_right (by omega), List.getElem?_append_right (by omega), h1, h2, List.getElem?_replicate, List.getElem?_replicate]
        by_cases hb : i < l.length
        · rw [if_pos (by omega), if_pos (by omega)]
        · rw [if_neg (by omega), if_neg (by omega)]
  rw [← e]; simp [i16s, iat, List.map_set]
theorem partF_set (l : List Nat) (k : Nat) (hk : k < l.length) : (f32s (partF l k)).setIfInBounds k (.float .f32 (fat l k)) = f32s (partF l (k + 1)) := by
  have e : (partF l k).set k (l.getD k 0) = partF l (k + 1) := by
    apply List.ext_getElem?
    intro i
    simp only [partF]
    rw [List.getElem?_set]
    have h1 : (l.take k).length = k := by simp; omega
    have h2 : (l.take (k + 1)).length = k + 1 := by simp; omega
    by_cases hi : k = i
    · subst hi
      rw [if_pos rfl, if_pos (by simp; omega), List.getElem?_append_left (by omega), List.getElem?_take, if_pos (by omega)]
      simp [hk]
    · rw [if_neg hi]
      by_cases hlt : i < k
      · rw [List.getElem?_append_left (by omega), List.getElem?_append_left (by omega), List.getElem?_take, List.getElem?_take, if_pos hlt, if_pos (by omega)]
      · rw [List.getElem?_append_right (by omega), List.getElem?_append_right (by omega), h1, h2, List.getElem?_replicate, List.getElem?_replicate]
        by_cases hb : i < l.length
        · rw [if_pos (by omega), if_pos (by omega)]
        · rw [if_neg (by omega), if_neg (by omega)]
  rw [← e]; simp [f32s, fat, List.map_set]
theorem partI_all (l : List Int) : partI l l.length = l := by simp [partI]
theorem partF_all (l : List Nat) : partF l l.length = l := by simp [partF]

/-- All numbers are tilts. -/
def tilts (l : List Int) : Bool := l.all fun n => inB n (-64) 64
theorem tilts_yes {l : List Int} (h : ∀ j, j < l.length → inB (iat l j) (-64) 64 = true) : tilts l = true := by
  simp only [tilts, List.all_eq_true]
  intro x hx
  obtain ⟨i, hi⟩ := List.getElem?_of_mem hx
  have hlt : i < l.length := by
    rcases Nat.lt_or_ge i l.length with h' | h'
    · exact h'
    · rw [List.getElem?_eq_none h'] at hi; cases hi
  have := h i hlt
  simpa [iat, hi] using this
theorem tilts_no {l : List Int} {j : Nat} (hj : j < l.length) (h : inB (iat l j) (-64) 64 = false) : tilts l = false := by
  simp only [tilts, List.all_eq_false]
  exact ⟨iat l j, by simp [iat, hj], by simp [h]⟩
/-- The set of the first k numbers that are less than b. -/
def dark (l : List Nat) (b : Nat) : Nat → Int
  | 0 => 0
  | k + 1 => if fLt (fat l k) b then bits .or .u32 (dark l b k) (2 ^ k % 4294967296) else dark l b k
def darkN (l : List Nat) (b : Nat) : Int := if isPart b then dark l b 24 else 0
def darkC (b : Nat) : Int := if isPart b then 0 else 2
/-- How often neighbours differ among the first k + 1 numbers. -/
def chg (l : List Int) : Nat → Int
  | 0 => 0
  | k + 1 => if iat l (k + 1) != iat l k then chg l k + 1 else chg l k
theorem chg_bd (l : List Int) (k : Nat) : 0 ≤ chg l k ∧ chg l k ≤ k := by
  induction k with
  | zero => simp [chg]
  | succ k ih => simp only [chg]; split <;> omega
def chgN (l : List Int) : Int := if tilts l then chg l 23 else 0
def chgC (l : List Int) : Int := if tilts l then 0 else 1
theorem c_implDarkStripes (l : List Nat) (b : Nat) (hl : l.length = 24) (w : World) :
    Calls Try.prog 27 #[.agg (f32s l), .float .f32 b] w fun e w' => e = .returned (.tuple #[.int .u32 (darkN l b), .int .i64 (darkC b)]) ∧ Below w.heap.size w w' := by
  have hix : ∀ (k : Nat), k < 24 → ∀ w', (Instr.index 48 (.agg (f32s l)) (.int .i64 k)).run Try.prog w' = .ok (.float .f32 (fat l k)) w' := by
    intro k hk w'
    exact run_index_arr Try.underlying48 Try.underlying27 rfl (by kernel_rfl) k hk (f32s_at hl hk) w'
  have hsz : (Try.prog.info? 48).map (·.size) = some (f32s l).size := by rw [f32s_size, hl]; kernel_rfl
  have Hl := hid hl
  have Hix := hid hix
  have Hsz := hid hsz
  clear hl hix hsz
  cases hp : isPart b
  · go_enter Try.func27, Try.ntmps27
    go_wp2_with (go_at_call 63; refine (c_IsPart _ _).mono ?_; rintro e w' ⟨rfl, rfl⟩)
    go_ret2
    exact ⟨by simp [darkN, darkC, hp], (Below.refl _ _).alloc (Nat.le_refl _) _⟩
  · go_enter Try.func27, Try.ntmps27
    go_wp2_with (first | (go_at_call 63; refine (c_IsPart _ _).mono ?_; rintro e w' ⟨rfl, rfl⟩) | (refine wpList_load_row rfl 48 _ rfl (w.heap.size) rfl 48 (f32s l) (0, 0) _ (blk_at _ _ _ rfl) Try.underlying48 rfl Hsz.out ?_))
    go_loop [6, 13] (fun n i => ∃ k : Nat, k ≤ 24 ∧ i = .int .i64 k ∧ n = .int .u32 (dark l b k)) (fun _ i => 24 - (intOf i).toNat)
    case atStart => exact ⟨0, by omega, rfl, rfl⟩
    case round =>
      obtain ⟨k, hk, rfl, rfl⟩ := hrel
      by_cases hlt : k < 24
      · have h1 := Hix.out k hlt
        cases ht : (FloatKind.f32.format.order (fat l k) b == some .lt)
        all_goals
          go_wp2
          refine ⟨⟨k + 1, by omega, by go_num, by simp [dark, fLt, ht]⟩, by simp [intOf]; omega⟩
      · obtain rfl : k = 24 := by omega
        go_wp2
        go_ret2
        exact ⟨by simp [darkN, darkC, hp], (Below.refl _ _).alloc (Nat.le_refl _) _⟩
/-- The first k numbers of both are the same. -/
def sameTo (l m : List Nat) (k : Nat) : Bool := (List.range k).all fun i => sameN (fat l i) (fat m i)
theorem sameTo_yes {l m : List Nat} {k : Nat} (h : ∀ j, j < k → sameN (fat l j) (fat m j) = true) : sameTo l m k = true := by
  simp only [sameTo, List.all_eq_true, List.mem_range]; exact h
theorem sameTo_no {l m : List Nat} {k j : Nat} (hj : j < k) (h : sameN (fat l j) (fat m j) = false) : sameTo l m k = false := by
  simp only [sameTo, List.all_eq_false, List.mem_range]; exact ⟨j, hj, by simp [h]⟩
theorem c_specSameFloor (l m : List Nat) (hl : l.length = 24) (hm : m.length = 24) (w : World) :
    Calls Try.prog 28 #[.agg (f32s l), .agg (f32s m)] w fun e w' => e = .returned (.bool (sameTo l m 24)) ∧ Below w.heap.size w w' := by
  have hc1 : ∀ k, k < 24 → ((w.alloc (.cells (f32s l) 48)).alloc (.cells (f32s m) 48)).cell? ⟨w.heap.size, k, none⟩ = some (.float .f32 (fat l k)) := fun k hk => by
    rw [World.cell?_alloc_past _ _ _ (by simp), World.cell?_alloc_new]; exact f32s_at hl hk
  have hc2 : ∀ k, k < 24 → ((w.alloc (.cells (f32s l) 48)).alloc (.cells (f32s m) 48)).cell? ⟨w.heap.size + 1, k, none⟩ = some (.float .f32 (fat m k)) := fun k hk => by
    rw [World.cell?_alloc_at _ _ _ _ (by simp)]; exact f32s_at hm hk
  have Hl := hid hl
  have Hm := hid hm
  have Hc1 := hid hc1
  have Hc2 := hid hc2
  clear hl hm hc1 hc2
  go_enter Try.func28, Try.ntmps28
  go_wp2
  go_loopw [5] (fun i wr => ∃ k : Nat, k ≤ 24 ∧ i = .int .i64 k ∧ (∀ j, j < k → sameN (fat l j) (fat m j) = true) ∧ Below w.heap.size w wr ∧
      (∀ k, k < 24 → wr.cell? ⟨w.heap.size, k, none⟩ = some (.float .f32 (fat l k))) ∧ (∀ k, k < 24 → wr.cell? ⟨w.heap.size + 1, k, none⟩ = some (.float .f32 (fat m k)))) (fun i _ => 24 - (intOf i).toNat)
  case atStart => exact ⟨0, by omega, rfl, by omega, ((Below.refl _ _).alloc (Nat.le_refl _) _).alloc (by simp) _, Hc1.out, Hc2.out⟩
  case round =>
    obtain ⟨k, hk, rfl, hall, hbel, hr1, hr2⟩ := hrel
    have Hall := hid hall
    have Hbel := hid hbel
    have Hr1 := hid hr1
    have Hr2 := hid hr2
    clear hall hbel hr1 hr2
    by_cases hlt : k < 24
    · have h1 := Hr1.out k hlt
      have h2 := Hr2.out k hlt
      cases ht : sameN (fat l k) (fat m k)
      · go_wp2
        go_quiet ((go_at_call 58; exact quiet_left (c_l01Same _ _ _)))
        go_wp2
        go_ret
        exact ⟨ret_bool (sameTo_no hlt ht).symm, below_drawn Hbel.out _⟩
      · go_wp2
        go_quiet ((go_at_call 58; exact quiet_left (c_l01Same _ _ _)))
        go_wp2
        refine ⟨⟨k + 1, by omega, by go_num, fun j hj => ?_, below_drawn Hbel.out _, Hr1.out, Hr2.out⟩, by simp [intOf]; omega⟩
        rcases Nat.lt_or_ge j k with h | h
        · exact Hall.out j h
        · obtain rfl : j = k := by omega
          exact ht
    · obtain rfl : k = 24 := by omega
      go_wp2
      go_ret
      exact ⟨ret_bool (sameTo_yes Hall.out).symm, Hbel.out⟩
end Go.Proofs.Ytboddpifepegcaa
