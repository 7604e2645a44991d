/- Walks over plans and floors: arrays of 24 numbers by value. -/
import Derived.Test.YtdcjoafagalejaaDoorSmall
namespace Go.Proofs.YtdcjoafagalejaaDoor
set_option maxRecDepth 20000
open Go.RowKit

/-- The first k of l, and zeros behind them. -/
def partI (l : List Int) (k : Nat) : List Int := l.take k ++ List.replicate (l.length - k) 0
def partF (l : List Nat) (k : Nat) : List Nat := l.take k ++ List.replicate (l.length - k) 0
theorem partI_length (l : List Int) (k : Nat) (hk : k ≤ l.length) : (partI l k).length = l.length := by simp [partI]; omega
theorem partF_length (l : List Nat) (k : Nat) (hk : k ≤ l.length) : (partF l k).length = l.length := by simp [partF]; omega
theorem partI_set (l : List Int) (k : Nat) (hk : k < l.length) : (i16s (partI l k)).setIfInBounds k (.int .i16 (iat l k)) = i16s (partI l (k + 1)) := by
  have e : (partI l k).set k (l.getD k 0) = partI l (k + 1) := by
    apply List.ext_getElem?
    intro i
    simp only [partI]
    rw [List.getElem?_set]
    have h1 : (l.take k).length = k := by simp; omega
    have h2 : (l.take (k + 1)).length = k + 1 := by simp; omega
    by_cases hi : k = i
    · subst hi
      rw [if_pos rfl, if_pos (by simp; omega), List.getElem?_append_left (by omega), List.getElem?_take, if_pos (by omega)]
      simp [hk]
    · rw [if_neg hi]
      by_cases hlt : i < k
      · rw [List.getElem?_append_left (by omega), List.getElem?_append_left (by omega), List.getElem?_take, List.getElem?_take, if_pos hlt, if_pos (by omega)]
      · rw [List.getElem?_append_right (by omega), List.getElem?_append_right (by omega), h1, h2, List.getElem?_replicate, List.getElem?_replicate]
        by_cases hb : i < l.length
        · rw [if_pos (by omega), if_pos (by omega)]
        · rw [if_neg (by omega), if_neg (by omega)]
  rw [← e]; simp [i16s, iat, List.map_set]
theorem partF_set (l : List Nat) (k : Nat) (hk : k < l.length) : (f32s (partF l k)).setIfInBounds k (.float .f32 (fat l k)) = f32s (partF l (k + 1)) := by
  have e : (partF l k).set k (l.getD k 0) = partF l (k + 1) := by
    apply List.ext_getElem?
    intro i
    simp only [partF]
    rw [List.getElem?_set]
    have h1 : (l.take k).length = k := by simp; omega
    have h2 : (l.take (k + 1)).length = k + 1 := by simp; omega
    by_cases hi : k = i
    · subst hi
      rw [if_pos rfl, if_pos (by simp; omega), List.getElem?_append_left (by omega), List.getElem?_take, if_pos (by omega)]
      simp [hk]
    · rw [if_neg hi]
      by_cases hlt : i < k
      · rw [List.getElem?_append_left (by omega), List.getElem?_append_left (by omega), List.getElem?_take, List.getElem?_take, if_pos hlt, if_pos (by omega)]
      · rw [List.getElem?_append_right (by omega), List.getElem?_append_right (by omega), h1, h2, List.getElem?_replicate, List.getElem?_replicate]
        by_cases hb : i < l.length
        · rw [if_pos (by omega), if_pos (by omega)]
        · rw [if_neg (by omega), if_neg (by omega)]
  rw [← e]; simp [f32s, fat, List.map_set]
theorem partI_all (l : List Int) : partI l l.length = l := by simp [partI]
theorem partF_all (l : List Nat) : partF l l.length = l := by simp [partF]

theorem c_toPlan (l : List Int) (hl : l.length = 24) (w : World) :
    Calls Tryd.prog 11 #[.agg (i16s l)] w fun e w' => e = .returned (.agg (i16s l)) ∧ Below w.heap.size w w' := by
  have z0 : #[Value.int .i16 0, .int .i16 0, .int .i16 0, .int .i16 0, .int .i16 0, .int .i16 0, .int .i16 0, .int .i16 0, .int .i16 0, .int .i16 0, .int .i16 0, .int .i16 0, .int .i16 0, .int .i16 0, .int .i16 0, .int .i16 0, .int .i16 0, .int .i16 0, .int .i16 0, .int .i16 0, .int .i16 0, .int .i16 0, .int .i16 0, .int .i16 0] = i16s (partI l 0) := by
    simp [partI, hl, i16s]
  have Z := hid z0
  clear z0
  have hsz : (Tryd.prog.info? 25).map (·.size) = some (i16s l).size := by rw [i16s_size, hl]; kernel_rfl
  go_enter Tryd.func11, Tryd.ntmps11
  go_wp2
  rw [Z.out]
  go_loopw [4] (fun i wr => ∃ k : Nat, k ≤ 24 ∧ i = .int .i64 k ∧ wr = ((w.alloc (.cells (i16s l) 23)).alloc (.cells (i16s (partI l 0)) 25)).alloc (.cells (i16s (partI l k)) 25)) (fun i _ => 24 - (intOf i).toNat)
  case atStart => exact ⟨0, by omega, rfl, rfl⟩
  case round =>
    obtain ⟨k, hk, rfl, rfl⟩ := hrel
    by_cases hlt : k < 24
    · have h1 := i16s_at hl hlt
      have h2 := partI_set l k (by omega)
      have h3 := i16s_at (l := partI l k) (k := k) (n := 24) (by rw [partI_length _ _ (by omega), hl]) hlt
      have Hl := hid hl
      clear hl hsz
      go_wp2
      go_roundw
      case rel => exact ⟨k + 1, by omega, by go_num, rfl⟩
      case measure => simp [intOf]; omega
    · obtain rfl : k = 24 := by omega
      have hp : partI l 24 = l := by rw [← hl]; exact partI_all l
      rw [hp]
      have Hl := hid hl
      clear hl
      go_wp2_with (first | (refine wpList_load_row rfl 25 _ rfl (w.heap.size + 1 + 1) rfl 25 (i16s l) (0, 0) _ (blk_at _ _ _ (by simp)) Tryd.underlying25 rfl hsz ?_) | (refine wpList_store_row rfl 25 _ _ rfl (w.heap.size + 1) (i16s l) rfl rfl 25 (i16s (partI l 0)) ?b1 hsz ?b2 (i16s_one _) ?_))
      case b1 => repeat (first | exact blk_at _ _ _ (by simp) | rw [blk_past _ _ _ (by simp)])
      case b2 => rw [i16s_size, i16s_size, partI_length _ _ (by omega)]
      refine bodyPost_ret (v := .agg (i16s l)) (results_cell_row rfl _ _ (w.heap.size + 1) 25 (i16s l) (0, 0) _ rfl ?_ Tryd.underlying25 rfl hsz) rfl ⟨rfl, ?_⟩
      · exact blk_row_same _ _ (i16s (partI l 0)) _ _ _ (by repeat (first | exact blk_at _ _ _ (by simp) | rw [blk_past _ _ _ (by simp)]))
      · exact below_setRow ((((Below.refl _ _).alloc (Nat.le_refl _) _).alloc (by simp) _).alloc (by simp; omega) _) (by omega) _
/-- All numbers are tilts. -/
def tilts (l : List Int) : Bool := l.all fun n => inB n (-64) 64
theorem tilts_yes {l : List Int} (h : ∀ j, j < l.length → inB (iat l j) (-64) 64 = true) : tilts l = true := by
  simp only [tilts, List.all_eq_true]
  intro x hx
  obtain ⟨i, hi⟩ := List.getElem?_of_mem hx
  have hlt : i < l.length := by
    rcases Nat.lt_or_ge i l.length with h' | h'
    · exact h'
    · rw [List.getElem?_eq_none h'] at hi; cases hi
  have := h i hlt
  simpa [iat, hi] using this
theorem tilts_no {l : List Int} {j : Nat} (hj : j < l.length) (h : inB (iat l j) (-64) 64 = false) : tilts l = false := by
  simp only [tilts, List.all_eq_false]
  exact ⟨iat l j, by simp [iat, hj], by simp [h]⟩
theorem c_l07Plan (l : List Int) (hl : l.length = 24) (b : Nat) (w : World) (hc : ∀ k, k < 24 → w.cell? ⟨b, k, none⟩ = some (.int .i16 (iat l k))) (hb : ∀ k, k < 24 → -32768 ≤ iat l k ∧ iat l k ≤ 32767) :
    Calls Tryd.prog 33 #[.pointer (some ⟨b, 0, none⟩)] w fun e w' => e = .returned (.bool (tilts l)) ∧ w = w' := by
  have Hl := hid hl
  have Hb := hid hb
  clear hl hb
  go_enter Tryd.func33, Tryd.ntmps33
  go_wp2
  go_loop [3] (fun i => ∃ k : Nat, k ≤ 24 ∧ i = .int .i64 k ∧ ∀ j, j < k → inB (iat l j) (-64) 64 = true) (fun i => 24 - (intOf i).toNat)
  case atStart => exact ⟨0, by omega, rfl, by omega⟩
  case round =>
    obtain ⟨k, hk, rfl, hall⟩ := hrel
    by_cases hlt : k < 24
    · have hk1 := hc k hlt
      have hb1 := Hb.out k hlt
      have Hall := hid hall
      clear hc hall
      cases ht : inB (iat l k) (-64) 64
      · go_wp2_with (go_at_call 53; refine (c_l02Tilt _ _).mono ?_; rintro e w' ⟨rfl, rfl⟩)
        go_ret
        exact ⟨ret_bool (tilts_no (by rw [Hl.out]; exact hlt) ht).symm, rfl⟩
      · go_wp2_with (go_at_call 53; refine (c_l02Tilt _ _).mono ?_; rintro e w' ⟨rfl, rfl⟩)
        go_round
        case rel => exact ⟨k + 1, by omega, by go_num, fun j hj => by
          rcases Nat.lt_or_ge j k with h | h
          · exact Hall.out j h
          · obtain rfl : j = k := by omega
            exact ht⟩
        case measure => simp [intOf]; omega
    · obtain rfl : k = 24 := by omega
      have Hall := hid hall
      clear hc hall
      go_wp2
      go_ret
      exact ⟨ret_bool (tilts_yes (by rw [Hl.out]; exact Hall.out)).symm, rfl⟩
theorem c_implValidPlan (l : List Int) (hl : l.length = 24) (w : World) (hb : ∀ k, k < 24 → -32768 ≤ iat l k ∧ iat l k ≤ 32767) :
    Calls Tryd.prog 35 #[.agg (i16s l)] w fun e w' => e = .returned (.bool (tilts l)) ∧ Below w.heap.size w w' := by
  have hix : ∀ (k : Nat), k < 24 → ∀ w', (Instr.index 25 (.agg (i16s l)) (.int .i64 k)).run Tryd.prog w' = .ok (.int .i16 (iat l k)) w' := by
    intro k hk w'
    exact run_index_arr Tryd.underlying25 Tryd.underlying22 rfl (by kernel_rfl) k hk (i16s_at hl hk) w'
  have hsz : (Tryd.prog.info? 25).map (·.size) = some (i16s l).size := by rw [i16s_size, hl]; kernel_rfl
  have Hl := hid hl
  have Hb := hid hb
  have Hix := hid hix
  have Hsz := hid hsz
  clear hl hb hix hsz
  go_enter Tryd.func35, Tryd.ntmps35
  go_wp2_with (refine wpList_load_row rfl 25 _ rfl (w.heap.size) rfl 25 (i16s l) (0, 0) _ (blk_at _ _ _ rfl) Tryd.underlying25 rfl Hsz.out ?_)
  go_loop [6] (fun i => ∃ k : Nat, k ≤ 24 ∧ i = .int .i64 k ∧ ∀ j, j < k → inB (iat l j) (-64) 64 = true) (fun i => 24 - (intOf i).toNat)
  case atStart => exact ⟨0, by omega, rfl, by omega⟩
  case round =>
    obtain ⟨k, hk, rfl, hall⟩ := hrel
    by_cases hlt : k < 24
    · have hk1 := Hix.out k hlt
      have hb1 := Hb.out k hlt
      have Hall := hid hall
      clear hall
      cases ht : inB (iat l k) (-64) 64
      · go_wp2_with (go_at_call 59; refine (c_isTilt _ _).mono ?_; rintro e w' ⟨rfl, rfl⟩)
        go_ret
        exact ⟨ret_bool (tilts_no (by rw [Hl.out]; exact hlt) ht).symm, (Below.refl _ _).alloc (Nat.le_refl _) _⟩
      · go_wp2_with (go_at_call 59; refine (c_isTilt _ _).mono ?_; rintro e w' ⟨rfl, rfl⟩)
        go_round
        case rel => exact ⟨k + 1, by omega, by go_num, fun j hj => by
          rcases Nat.lt_or_ge j k with h | h
          · exact Hall.out j h
          · obtain rfl : j = k := by omega
            exact ht⟩
        case measure => simp [intOf]; omega
    · obtain rfl : k = 24 := by omega
      have Hall := hid hall
      clear hall
      go_wp2
      go_ret
      exact ⟨ret_bool (tilts_yes (by rw [Hl.out]; exact Hall.out)).symm, (Below.refl _ _).alloc (Nat.le_refl _) _⟩
/-- The set of the first k numbers that are less than b. -/
def dark (l : List Nat) (b : Nat) : Nat → Int
  | 0 => 0
  | k + 1 => if fLt (fat l k) b then bits .or .u32 (dark l b k) (2 ^ k % 4294967296) else dark l b k
def darkN (l : List Nat) (b : Nat) : Int := if isPart b then dark l b 24 else 0
def darkC (b : Nat) : Int := if isPart b then 0 else 2
/-- How often neighbours differ among the first k + 1 numbers. -/
def chg (l : List Int) : Nat → Int
  | 0 => 0
  | k + 1 => if iat l (k + 1) != iat l k then chg l k + 1 else chg l k
theorem chg_bd (l : List Int) (k : Nat) : 0 ≤ chg l k ∧ chg l k ≤ k := by
  induction k with
  | zero => simp [chg]
  | succ k ih => simp only [chg]; split <;> omega
def chgN (l : List Int) : Int := if tilts l then chg l 23 else 0
def chgC (l : List Int) : Int := if tilts l then 0 else 1
/-- The first k numbers of both are the same. -/
def sameTo (l m : List Nat) (k : Nat) : Bool := (List.range k).all fun i => sameN (fat l i) (fat m i)
theorem sameTo_yes {l m : List Nat} {k : Nat} (h : ∀ j, j < k → sameN (fat l j) (fat m j) = true) : sameTo l m k = true := by
  simp only [sameTo, List.all_eq_true, List.mem_range]; exact h
theorem sameTo_no {l m : List Nat} {k j : Nat} (hj : j < k) (h : sameN (fat l j) (fat m j) = false) : sameTo l m k = false := by
  simp only [sameTo, List.all_eq_false, List.mem_range]; exact ⟨j, hj, by simp [h]⟩
end Go.Proofs.YtdcjoafagalejaaDoor
