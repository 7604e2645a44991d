/- Walks over lists of float32: a slice that reads as a list, sameness, validity. -/
import Derived.Test.YtboddpifepegcaaSmall
import Derived.Test.YtboddpifepegcaaPlan
import Derived.Test.YtboddpifepegcaaFl
import Derived.Deep.OwnRows
namespace Go.Proofs.Ytboddpifepegcaa
set_option maxRecDepth 20000
open Go.RowKit

/-- A slice with n elements at an address reads as a list of words. -/
structure Flts (w : World) (a : Option Addr) (n : Nat) (xs : List Nat) : Prop where
  len : xs.length = n
  small : n ≤ 140737488351232
  word : ∀ k, k < n → fat xs k < 4294967296
  at_ : 0 < n → ∃ b off, a = some ⟨b, off, none⟩ ∧ ∀ k, k < n → w.cell? ⟨b, off + k, none⟩ = some (.float .f32 (fat xs k))

theorem Flts.below {w w' : World} {a : Option Addr} {n : Nat} {xs : List Nat} (h : Flts w a n xs) (hb : Below w.heap.size w w') : Flts w' a n xs :=
  ⟨h.len, h.small, h.word, fun hn => by
    obtain ⟨b, off, rfl, hc⟩ := h.at_ hn
    exact ⟨b, off, rfl, fun k hk => cell_stays hb (hc k hk)⟩⟩
theorem Flts.drawn {w : World} {a : Option Addr} {n : Nat} {xs : List Nat} (h : Flts w a n xs) (q : Nat) : Flts (w.drewN q) a n xs :=
  ⟨h.len, h.small, h.word, h.at_⟩

/-- Lists of the same length and the same numbers. -/
def sameL (xs ys : List Nat) : Bool := xs.length == ys.length && (List.range xs.length).all fun i => sameN (fat xs i) (fat ys i)
theorem sameL_len {xs ys : List Nat} (h : xs.length ≠ ys.length) : sameL xs ys = false := by simp [sameL, h]
theorem sameL_yes {xs ys : List Nat} (h : xs.length = ys.length) (h2 : ∀ j, j < xs.length → sameN (fat xs j) (fat ys j) = true) : sameL xs ys = true := by
  simp only [sameL, Bool.and_eq_true, beq_iff_eq, List.all_eq_true, List.mem_range]; exact ⟨h, h2⟩
theorem sameL_no {xs ys : List Nat} {j : Nat} (hj : j < xs.length) (h : sameN (fat xs j) (fat ys j) = false) : sameL xs ys = false := by
  simp only [sameL, Bool.and_eq_false_iff, List.all_eq_false, List.mem_range]; exact .inr ⟨j, hj, by simp [h]⟩
theorem c_EqualFunc_same (a b : Option Addr) (n m ca cb : Nat) (xs ys : List Nat) (w : World) (hx : Flts w a n xs) (hy : Flts w b m ys) :
    Calls Try.prog 107 #[.slice a n ca, .slice b m cb, .func (.func 76) #[] #[]] w fun e w' => e = .returned (.bool (sameL xs ys)) ∧ w = w' := by
  have Hx := hid hx
  have Hy := hid hy
  have hn := hx.small
  have hm := hy.small
  clear hx hy
  by_cases he : n = m
  · subst he
    go_enter Try.func107, Try.ntmps107
    go_wp2
    go_loop [17] (fun i => ∃ k : Nat, k ≤ n ∧ i = .int .i64 k ∧ ∀ j, j < k → sameN (fat xs j) (fat ys j) = true) (fun i => n - (intOf i).toNat)
    case atStart => exact ⟨0, by omega, rfl, by omega⟩
    case round =>
      obtain ⟨k, hk, rfl, hall⟩ := hrel
      have Hall := hid hall
      clear hall
      by_cases hlt : k < n
      · obtain ⟨b1, o1, rfl, hc1⟩ := Hx.out.at_ (by omega)
        obtain ⟨b2, o2, rfl, hc2⟩ := Hy.out.at_ (by omega)
        have h1 := hc1 k hlt
        have h2 := hc2 k hlt
        clear hc1 hc2
        cases ht : sameN (fat xs k) (fat ys k)
        · go_wp2_with (go_at_call 76; refine (c_SameNumber _ _ _).mono ?_; rintro e w' ⟨rfl, rfl⟩)
          go_ret
          exact ⟨ret_bool (sameL_no (j := k) (by rw [Hx.out.len]; exact hlt) ht).symm, rfl⟩
        · go_wp2_with (go_at_call 76; refine (c_SameNumber _ _ _).mono ?_; rintro e w' ⟨rfl, rfl⟩)
          refine ⟨⟨k + 1, by omega, by go_num, fun j hj => ?_⟩, by simp [intOf]; omega⟩
          rcases Nat.lt_or_ge j k with h | h
          · exact Hall.out j h
          · obtain rfl : j = k := by omega
            exact ht
      · obtain rfl : k = n := by omega
        go_wp2
        go_ret
        exact ⟨ret_bool (sameL_yes (by rw [Hx.out.len, Hy.out.len]) (by rw [Hx.out.len]; exact Hall.out)).symm, rfl⟩
  · have hne : ((n : Int) != (m : Int)) = true := by rw [bne_iff_ne]; omega
    go_enter Try.func107, Try.ntmps107
    go_wp2
    go_ret
    exact ⟨ret_bool (sameL_len (by rw [Hx.out.len, Hy.out.len]; exact he)).symm, rfl⟩
theorem c_implSameList (a b : Option Addr) (n m ca cb : Nat) (xs ys : List Nat) (w : World) (hx : Flts w a n xs) (hy : Flts w b m ys) :
    Calls Try.prog 77 #[.slice a n ca, .slice b m cb] w fun e w' => e = .returned (.bool (sameL xs ys)) ∧ w = w' := by
  have Hx := hid hx
  have Hy := hid hy
  clear hx hy
  go_enter Try.func77, Try.ntmps77
  go_wp2_with (go_at_call 107; refine (c_EqualFunc_same a b n m ca cb xs ys _ Hx.out Hy.out).mono ?_; rintro e w' ⟨rfl, rfl⟩)
  go_ret
  exact ⟨rfl, rfl⟩
theorem flts_of_block {w : World} {b : Nat} {xs : List Nat} {n : Nat} {T : TypeId} (hl : xs.length = n) (hs : n ≤ 1048576) (hw : ∀ k, k < n → fat xs k < 4294967296) (hb : w.heap[b]? = some (.cells (f32s xs) T (0, 0))) :
    Flts w (some ⟨b, 0, none⟩) n xs :=
  ⟨hl, by omega, hw, fun _ => ⟨b, 0, rfl, fun k hk => by rw [Nat.zero_add, cell_of_row w b k _ _ _ hb]; exact f32s_at hl hk⟩⟩
theorem sameL_sameTo {l m : List Nat} {n : Nat} (hl : l.length = n) (hm : m.length = n) : sameL l m = sameTo l m n := by simp [sameL, sameTo, hl, hm]
theorem c_implSameFloor (l m : List Nat) (hl : l.length = 24) (hm : m.length = 24) (hl2 : ∀ k, k < 24 → fat l k < 4294967296) (hm2 : ∀ k, k < 24 → fat m k < 4294967296) (w : World) :
    Calls Try.prog 29 #[.agg (f32s l), .agg (f32s m)] w fun e w' => e = .returned (.bool (sameTo l m 24)) ∧ Below w.heap.size w w' := by
  have hb1 : ((w.alloc (.cells (f32s l) 48)).alloc (.cells (f32s m) 48)).heap[w.heap.size]? = some (.cells (f32s l) 48 (0, 0)) := by repeat (first | exact blk_at _ _ _ (by simp) | rw [blk_past _ _ _ (by simp)])
  have hb2 : ((w.alloc (.cells (f32s l) 48)).alloc (.cells (f32s m) 48)).heap[w.heap.size + 1]? = some (.cells (f32s m) 48 (0, 0)) := by repeat (first | exact blk_at _ _ _ (by simp) | rw [blk_past _ _ _ (by simp)])
  have F1 := hid (flts_of_block hl (by omega) hl2 hb1)
  have F2 := hid (flts_of_block hm (by omega) hm2 hb2)
  have E := hid (sameL_sameTo hl hm)
  clear hb1 hb2 hl hm hl2 hm2
  go_enter Try.func29, Try.ntmps29
  go_wp2
  go_quiet ((go_at_call 77; (exact quiet_left (c_implSameList _ _ 24 24 24 24 l m _ (F1.out.drawn _) (F2.out.drawn _)))))
  go_wp2
  go_ret
  exact ⟨ret_bool E.out, below_drawn (((Below.refl _ _).alloc (Nat.le_refl _) _).alloc (by simp) _) _⟩
theorem sameN_refl (x : Nat) : sameN x x = true := by simp [sameN]
theorem sameL_refl {xs : List Nat} {n : Nat} (_ : xs.length = n) (_ : ∀ k, k < n → fat xs k < 4294967296) : sameL xs xs = true := sameL_yes rfl fun _ _ => sameN_refl _
theorem fresh_flts {w : World} {a : Option Addr} {n : Nat} {xs : List Nat} {T : TypeId} (h : Flts w a n xs) (hn : n ≤ 1048576) {w2 : World} : Flts (w2.alloc (.cells (f32s xs) T)) (some ⟨w2.heap.size, 0, none⟩) n xs :=
  flts_of_block h.len hn h.word (heap_alloc_new w2 _)
theorem fresh_below (w : World) (xs : List Nat) (T : TypeId) : Below w.heap.size w (w.alloc (.cells (f32s xs) T)) := (Below.refl _ _).alloc (Nat.le_refl _) _
/-- All numbers are plain. -/
def plains (xs : List Nat) : Bool := (List.range xs.length).all fun i => isPlain (fat xs i)
theorem plains_yes {xs : List Nat} (h : ∀ j, j < xs.length → isPlain (fat xs j) = true) : plains xs = true := by
  simp only [plains, List.all_eq_true, List.mem_range]; exact h
theorem plains_no {xs : List Nat} {j : Nat} (hj : j < xs.length) (h : isPlain (fat xs j) = false) : plains xs = false := by
  simp only [plains, List.all_eq_false, List.mem_range]; exact ⟨j, hj, by simp [h]⟩
def validL (xs : List Nat) : Bool := decide (xs.length ≤ 48) && plains xs
theorem validL_len {xs : List Nat} {n : Nat} (h : xs.length = n) (h2 : ¬ n ≤ 48) : validL xs = false := by simp [validL]; omega
theorem validL_eq {xs : List Nat} {n : Nat} (h : xs.length = n) (h2 : n ≤ 48) : validL xs = plains xs := by simp [validL]; omega
def DZero (a : Nat) : Prop := FloatKind.f64.format.order a 0 = some .eq → a = 0 ∨ a = 9223372036854775808
end Go.Proofs.Ytboddpifepegcaa
