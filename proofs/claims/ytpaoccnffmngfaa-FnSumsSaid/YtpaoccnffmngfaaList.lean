/- Walks over lists of float32: a slice that reads as a list, sameness, validity. -/
import Derived.Test.YtpaoccnffmngfaaSmall
import Derived.Test.YtpaoccnffmngfaaPlan
import Derived.Test.YtpaoccnffmngfaaFl
import Derived.Deep.OwnRows
namespace Go.Proofs.Ytpaoccnffmngfaa
set_option maxRecDepth 20000
open Go.RowKit

/-- A slice with n elements at an address reads as a list of words. -/
structure Flts (w : World) (a : Option Addr) (n : Nat) (xs : List Nat) : Prop where
  len : xs.length = n
  small : n ≤ 140737488351232
  word : ∀ k, k < n → fat xs k < 4294967296
  at_ : 0 < n → ∃ b off, a = some ⟨b, off, none⟩ ∧ ∀ k, k < n → w.cell? ⟨b, off + k, none⟩ = some (.float .f32 (fat xs k))

theorem Flts.below {w w' : World} {a : Option Addr} {n : Nat} {xs : List Nat} (h : Flts w a n xs) (hb : Below w.heap.size w w') : Flts w' a n xs :=
  ⟨h.len, h.small, h.word, fun hn => by
    obtain ⟨b, off, rfl, hc⟩ := h.at_ hn
    exact ⟨b, off, rfl, fun k hk => cell_stays hb (hc k hk)⟩⟩
theorem Flts.drawn {w : World} {a : Option Addr} {n : Nat} {xs : List Nat} (h : Flts w a n xs) (q : Nat) : Flts (w.drewN q) a n xs :=
  ⟨h.len, h.small, h.word, h.at_⟩

/-- Lists of the same length and the same numbers. -/
def sameL (xs ys : List Nat) : Bool := xs.length == ys.length && (List.range xs.length).all fun i => sameN (fat xs i) (fat ys i)
theorem sameL_len {xs ys : List Nat} (h : xs.length ≠ ys.length) : sameL xs ys = false := by simp [sameL, h]
theorem sameL_yes {xs ys : List Nat} (h : xs.length = ys.length) (h2 : ∀ j, j < xs.length → sameN (fat xs j) (fat ys j) = true) : sameL xs ys = true := by
  simp only [sameL, Bool.and_eq_true, beq_iff_eq, List.all_eq_true, List.mem_range]; exact ⟨h, h2⟩
theorem sameL_no {xs ys : List Nat} {j : Nat} (hj : j < xs.length) (h : sameN (fat xs j) (fat ys j) = false) : sameL xs ys = false := by
  simp only [sameL, Bool.and_eq_false_iff, List.all_eq_false, List.mem_range]; exact .inr ⟨j, hj, by simp [h]⟩
theorem flts_of_block {w : World} {b : Nat} {xs : List Nat} {n : Nat} {T : TypeId} (hl : xs.length = n) (hs : n ≤ 1048576) (hw : ∀ k, k < n → fat xs k < 4294967296) (hb : w.heap[b]? = some (.cells (f32s xs) T (0, 0))) :
    Flts w (some ⟨b, 0, none⟩) n xs :=
  ⟨hl, by omega, hw, fun _ => ⟨b, 0, rfl, fun k hk => by rw [Nat.zero_add, cell_of_row w b k _ _ _ hb]; exact f32s_at hl hk⟩⟩
theorem sameL_sameTo {l m : List Nat} {n : Nat} (hl : l.length = n) (hm : m.length = n) : sameL l m = sameTo l m n := by simp [sameL, sameTo, hl, hm]
theorem sameN_refl (x : Nat) : sameN x x = true := by simp [sameN]
theorem sameL_refl {xs : List Nat} {n : Nat} (_ : xs.length = n) (_ : ∀ k, k < n → fat xs k < 4294967296) : sameL xs xs = true := sameL_yes rfl fun _ _ => sameN_refl _
theorem fresh_flts {w : World} {a : Option Addr} {n : Nat} {xs : List Nat} {T : TypeId} (h : Flts w a n xs) (hn : n ≤ 1048576) {w2 : World} : Flts (w2.alloc (.cells (f32s xs) T)) (some ⟨w2.heap.size, 0, none⟩) n xs :=
  flts_of_block h.len hn h.word (heap_alloc_new w2 _)
theorem fresh_below (w : World) (xs : List Nat) (T : TypeId) : Below w.heap.size w (w.alloc (.cells (f32s xs) T)) := (Below.refl _ _).alloc (Nat.le_refl _) _
/-- All numbers are plain. -/
def plains (xs : List Nat) : Bool := (List.range xs.length).all fun i => isPlain (fat xs i)
theorem plains_yes {xs : List Nat} (h : ∀ j, j < xs.length → isPlain (fat xs j) = true) : plains xs = true := by
  simp only [plains, List.all_eq_true, List.mem_range]; exact h
theorem plains_no {xs : List Nat} {j : Nat} (hj : j < xs.length) (h : isPlain (fat xs j) = false) : plains xs = false := by
  simp only [plains, List.all_eq_false, List.mem_range]; exact ⟨j, hj, by simp [h]⟩
def validL (xs : List Nat) : Bool := decide (xs.length ≤ 48) && plains xs
theorem validL_len {xs : List Nat} {n : Nat} (h : xs.length = n) (h2 : ¬ n ≤ 48) : validL xs = false := by simp [validL]; omega
theorem validL_eq {xs : List Nat} {n : Nat} (h : xs.length = n) (h2 : n ≤ 48) : validL xs = plains xs := by simp [validL]; omega
theorem c_l06Ok (a : Option Addr) (n ca : Nat) (xs : List Nat) (w : World) (hx : Flts w a n xs) :
    Calls Try.prog 51 #[.slice a n ca] w fun e w' => e = .returned (.bool (validL xs)) ∧ w = w' := by
  have Hx := hid hx
  have hn := hx.small
  clear hx
  go_enter Try.func51, Try.ntmps51
  go_wp2
  go_loop [3] (fun i => ∃ k : Nat, k ≤ n ∧ i = .int .i64 k ∧ ∀ j, j < k → isPlain (fat xs j) = true) (fun i => n - (intOf i).toNat)
  case atStart => exact ⟨0, by omega, rfl, by omega⟩
  case round =>
    obtain ⟨k, hk, rfl, hall⟩ := hrel
    have Hall := hid hall
    clear hall
    by_cases hlt : k < n
    · obtain ⟨b1, o1, rfl, hc1⟩ := Hx.out.at_ (by omega)
      have h1 := hc1 k hlt
      clear hc1
      cases ht : isPlain (fat xs k)
      · go_wp2_with (go_at_call 75; refine (c_l01Plain _ _).mono ?_; rintro e w' ⟨rfl, rfl⟩)
        go_ret
        exact ⟨ret_bool (by rw [validL, plains_no (j := k) (by rw [Hx.out.len]; exact hlt) ht, Bool.and_false]), rfl⟩
      · go_wp2_with (go_at_call 75; refine (c_l01Plain _ _).mono ?_; rintro e w' ⟨rfl, rfl⟩)
        refine ⟨⟨k + 1, by omega, by go_num, fun j hj => ?_⟩, by simp [intOf]; omega⟩
        rcases Nat.lt_or_ge j k with h | h
        · exact Hall.out j h
        · obtain rfl : j = k := by omega
          exact ht
    · obtain rfl : k = n := by omega
      go_wp2
      go_ret
      exact ⟨ret_bool (by rw [validL, plains_yes (by rw [Hx.out.len]; exact Hall.out), Bool.and_true, Hx.out.len]; rw [Bool.eq_iff_iff]; simp; omega), rfl⟩
theorem c_notPlain (x : Nat) (w : World) :
    Calls Try.prog 72 #[.float .f32 x] w fun e w' => e = .returned (.bool (!isPlain x)) ∧ w = w' := by
  go_enter Try.func72, Try.ntmps72
  go_wp2_with (go_at_call 73; refine (c_IsPlain _ _).mono ?_; rintro e w' ⟨rfl, rfl⟩)
  go_ret
  exact ⟨rfl, rfl⟩
/-- 'slices.IndexFunc(list, func(a float32) bool { return !IsPlain(a) })': at least 0, or -1 where all are plain. -/
def someInt (r : Int) (b : Bool) : Prop := (0 ≤ r ∧ b = true ∧ r ≤ 140737488351232) ∨ (r = -1 ∧ b = false)
def RetInt (w : World) (b : Bool) (e : Ending) (w' : World) : Prop := ∃ r : Int, e = .returned (.int .i64 r) ∧ someInt r b ∧ w = w'
theorem c_IndexFunc_plain (a : Option Addr) (n ca : Nat) (xs : List Nat) (w : World) (hx : Flts w a n xs) :
    Calls Try.prog 90 #[.slice a n ca, .func (.func 72) #[] #[]] w (RetInt w (!plains xs)) := by
  have Hx := hid hx
  have hn := hx.small
  clear hx
  go_enter Try.func90, Try.ntmps90
  go_wp2
  go_loop [8] (fun i => ∃ k : Nat, k ≤ n ∧ i = .int .i64 k ∧ ∀ j, j < k → isPlain (fat xs j) = true) (fun i => n - (intOf i).toNat)
  case atStart => exact ⟨0, by omega, rfl, by omega⟩
  case round =>
    obtain ⟨k, hk, rfl, hall⟩ := hrel
    have Hall := hid hall
    clear hall
    by_cases hlt : k < n
    · obtain ⟨b1, o1, rfl, hc1⟩ := Hx.out.at_ (by omega)
      have h1 := hc1 k hlt
      clear hc1
      cases ht : isPlain (fat xs k)
      · go_wp2_with (go_at_call 72; refine (c_notPlain _ _).mono ?_; rintro e w' ⟨rfl, rfl⟩)
        go_ret
        exact ⟨_, rfl, .inl ⟨by omega, by rw [plains_no (j := k) (by rw [Hx.out.len]; exact hlt) ht]; rfl, by omega⟩, rfl⟩
      · go_wp2_with (go_at_call 72; refine (c_notPlain _ _).mono ?_; rintro e w' ⟨rfl, rfl⟩)
        refine ⟨⟨k + 1, by omega, by go_num, fun j hj => ?_⟩, by simp [intOf]; omega⟩
        rcases Nat.lt_or_ge j k with h | h
        · exact Hall.out j h
        · obtain rfl : j = k := by omega
          exact ht
    · obtain rfl : k = n := by omega
      go_wp2
      go_ret
      exact ⟨_, rfl, .inr ⟨rfl, by rw [plains_yes (by rw [Hx.out.len]; exact Hall.out)]; rfl⟩, rfl⟩
theorem c_ContainsFunc_plain (a : Option Addr) (n ca : Nat) (xs : List Nat) (w : World) (hx : Flts w a n xs) :
    Calls Try.prog 71 #[.slice a n ca, .func (.func 72) #[] #[]] w fun e w' => e = .returned (.bool (!plains xs)) ∧ w = w' := by
  have Hx := hid hx
  clear hx
  go_enter Try.func71, Try.ntmps71
  go_wp2_with fail
  refine (c_IndexFunc_plain a n ca xs _ Hx.out).mono ?_
  rintro e w' ⟨r, rfl, hr, rfl⟩
  rcases hr with ⟨h1, h2, h3⟩ | ⟨h1, h2⟩
  · have H2 := hid h2
    clear h2
    go_wp2
    go_ret
    exact ⟨ret_bool (by first | (rw [H2.out]; done) | (rw [H2.out]; simp; done) | (rw [H2.out]; simp; omega)), rfl⟩
  · subst h1
    have H2 := hid h2
    clear h2
    go_wp2
    go_ret
    exact ⟨ret_bool (by rw [H2.out]), rfl⟩
theorem c_implValidList (a : Option Addr) (n ca : Nat) (xs : List Nat) (w : World) (hx : Flts w a n xs) :
    Calls Try.prog 49 #[.slice a n ca] w fun e w' => e = .returned (.bool (validL xs)) ∧ w = w' := by
  have Hx := hid hx
  have hn := hx.small
  clear hx
  by_cases h48 : n ≤ 48
  · go_enter Try.func49, Try.ntmps49
    go_wp2_with (go_at_call 71; refine (c_ContainsFunc_plain a n ca xs _ Hx.out).mono ?_; rintro e w' ⟨rfl, rfl⟩)
    go_ret
    exact ⟨ret_bool (by rw [validL_eq Hx.out.len h48]), rfl⟩
  · go_enter Try.func49, Try.ntmps49
    go_wp2_with (go_at_call 71; refine (c_ContainsFunc_plain a n ca xs _ Hx.out).mono ?_; rintro e w' ⟨rfl, rfl⟩)
    go_ret
    exact ⟨ret_bool (by rw [validL_len Hx.out.len h48]), rfl⟩
def DZero (a : Nat) : Prop := FloatKind.f64.format.order a 0 = some .eq → a = 0 ∨ a = 9223372036854775808
end Go.Proofs.Ytpaoccnffmngfaa
