/- Walks over lists of float32: a slice that reads as a list, sameness, validity. -/
import Derived.Test.YthnffhmefgfnkaaSmall
import Derived.Test.YthnffhmefgfnkaaPlan
import Derived.Test.YthnffhmefgfnkaaFl
import Derived.Deep.OwnRows
namespace Go.Proofs.Ythnffhmefgfnkaa
set_option maxRecDepth 20000
open Go.RowKit

/-- A slice with n elements at an address reads as a list of words. -/
structure Flts (w : World) (a : Option Addr) (n : Nat) (xs : List Nat) : Prop where
  len : xs.length = n
  small : n ≤ 140737488351232
  word : ∀ k, k < n → fat xs k < 4294967296
  at_ : 0 < n → ∃ b off, a = some ⟨b, off, none⟩ ∧ ∀ k, k < n → w.cell? ⟨b, off + k, none⟩ = some (.float .f32 (fat xs k))

theorem Flts.below {w w' : World} {a : Option Addr} {n : Nat} {xs : List Nat} (h : Flts w a n xs) (hb : Below w.heap.size w w') : Flts w' a n xs :=
  ⟨h.len, h.small, h.word, fun hn => by
    obtain ⟨b, off, rfl, hc⟩ := h.at_ hn
    exact ⟨b, off, rfl, fun k hk => cell_stays hb (hc k hk)⟩⟩
theorem Flts.drawn {w : World} {a : Option Addr} {n : Nat} {xs : List Nat} (h : Flts w a n xs) (q : Nat) : Flts (w.drewN q) a n xs :=
  ⟨h.len, h.small, h.word, h.at_⟩

/-- Lists of the same length and the same numbers. -/
def sameL (xs ys : List Nat) : Bool := xs.length == ys.length && (List.range xs.length).all fun i => sameN (fat xs i) (fat ys i)
theorem sameL_len {xs ys : List Nat} (h : xs.length ≠ ys.length) : sameL xs ys = false := by simp [sameL, h]
theorem sameL_yes {xs ys : List Nat} (h : xs.length = ys.length) (h2 : ∀ j, j < xs.length → sameN (fat xs j) (fat ys j) = true) : sameL xs ys = true := by
  simp only [sameL, Bool.and_eq_true, beq_iff_eq, List.all_eq_true, List.mem_range]; exact ⟨h, h2⟩
theorem sameL_no {xs ys : List Nat} {j : Nat} (hj : j < xs.length) (h : sameN (fat xs j) (fat ys j) = false) : sameL xs ys = false := by
  simp only [sameL, Bool.and_eq_false_iff, List.all_eq_false, List.mem_range]; exact .inr ⟨j, hj, by simp [h]⟩
theorem flts_of_block {w : World} {b : Nat} {xs : List Nat} {n : Nat} {T : TypeId} (hl : xs.length = n) (hs : n ≤ 1048576) (hw : ∀ k, k < n → fat xs k < 4294967296) (hb : w.heap[b]? = some (.cells (f32s xs) T (0, 0))) :
    Flts w (some ⟨b, 0, none⟩) n xs :=
  ⟨hl, by omega, hw, fun _ => ⟨b, 0, rfl, fun k hk => by rw [Nat.zero_add, cell_of_row w b k _ _ _ hb]; exact f32s_at hl hk⟩⟩
theorem sameL_sameTo {l m : List Nat} {n : Nat} (hl : l.length = n) (hm : m.length = n) : sameL l m = sameTo l m n := by simp [sameL, sameTo, hl, hm]
theorem sameN_refl (x : Nat) : sameN x x = true := by simp [sameN]
theorem sameL_refl {xs : List Nat} {n : Nat} (_ : xs.length = n) (_ : ∀ k, k < n → fat xs k < 4294967296) : sameL xs xs = true := sameL_yes rfl fun _ _ => sameN_refl _
theorem fresh_flts {w : World} {a : Option Addr} {n : Nat} {xs : List Nat} {T : TypeId} (h : Flts w a n xs) (hn : n ≤ 1048576) {w2 : World} : Flts (w2.alloc (.cells (f32s xs) T)) (some ⟨w2.heap.size, 0, none⟩) n xs :=
  flts_of_block h.len hn h.word (heap_alloc_new w2 _)
theorem fresh_below (w : World) (xs : List Nat) (T : TypeId) : Below w.heap.size w (w.alloc (.cells (f32s xs) T)) := (Below.refl _ _).alloc (Nat.le_refl _) _
/-- All numbers are plain. -/
def plains (xs : List Nat) : Bool := (List.range xs.length).all fun i => isPlain (fat xs i)
theorem plains_yes {xs : List Nat} (h : ∀ j, j < xs.length → isPlain (fat xs j) = true) : plains xs = true := by
  simp only [plains, List.all_eq_true, List.mem_range]; exact h
theorem plains_no {xs : List Nat} {j : Nat} (hj : j < xs.length) (h : isPlain (fat xs j) = false) : plains xs = false := by
  simp only [plains, List.all_eq_false, List.mem_range]; exact ⟨j, hj, by simp [h]⟩
def validL (xs : List Nat) : Bool := decide (xs.length ≤ 48) && plains xs
theorem validL_len {xs : List Nat} {n : Nat} (h : xs.length = n) (h2 : ¬ n ≤ 48) : validL xs = false := by simp [validL]; omega
theorem validL_eq {xs : List Nat} {n : Nat} (h : xs.length = n) (h2 : n ≤ 48) : validL xs = plains xs := by simp [validL]; omega
def DZero (a : Nat) : Prop := FloatKind.f64.format.order a 0 = some .eq → a = 0 ∨ a = 9223372036854775808
theorem c_sameFloat (a b : Nat) (ha : DZero a) (hb : DZero b) (w : World) :
    Calls Try.prog 30 #[.float .f64 a, .float .f64 b] w fun e w' => e = .returned (.bool (same64 a b)) ∧ w = w' := by
  cases h1 : (FloatKind.f64.format.order a a == some .eq)
  · have h1' : (FloatKind.f64.format.order a a != some .eq) = true := by simp [bne, h1]
    have E := hid (same64_nan1 (b := b) h1)
    go_enter Try.func30, Try.ntmps30
    go_wp2
    go_ret
    exact ⟨ret_bool E.out.symm, rfl⟩
  · have h1' : (FloatKind.f64.format.order a a != some .eq) = false := by simp [bne, h1]
    cases h2 : (FloatKind.f64.format.order b b == some .eq)
    · have h2' : (FloatKind.f64.format.order b b != some .eq) = true := by simp [bne, h2]
      have E := hid (same64_nan2 h1 h2)
      go_enter Try.func30, Try.ntmps30
      go_wp2
      go_ret
      exact ⟨ret_bool E.out.symm, rfl⟩
    · have h2' : (FloatKind.f64.format.order b b != some .eq) = false := by simp [bne, h2]
      cases h3 : (FloatKind.f64.format.order a 0 == some .eq)
      · have E := hid (same64_else h1 h2 (by rw [h3]; rfl))
        go_enter Try.func30, Try.ntmps30
        go_wp2
        go_ret
        exact ⟨ret_bool E.out.symm, rfl⟩
      · cases h4 : (FloatKind.f64.format.order b 0 == some .eq)
        · have E := hid (same64_else h1 h2 (by rw [h4, Bool.and_false]))
          go_enter Try.func30, Try.ntmps30
          go_wp2
          go_ret
          exact ⟨ret_bool E.out.symm, rfl⟩
        · have q0 : ∀ wx, (binOp .quo 56 (.float .f64 4607182418800017408) (.float .f64 0)).run Try.prog wx = .ok (.float .f64 9218868437227405312) wx := fun wx => run_float_arith wx .quo _ _ _ _ _ (by decide)
          have q1 : ∀ wx, (binOp .quo 56 (.float .f64 4607182418800017408) (.float .f64 9223372036854775808)).run Try.prog wx = .ok (.float .f64 18442240474082181120) wx := fun wx => run_float_arith wx .quo _ _ _ _ _ (by decide)
          have g0 : (FloatKind.f64.format.order 9218868437227405312 0 == some .gt) = true := by decide
          have g1 : (FloatKind.f64.format.order 18442240474082181120 0 == some .gt) = false := by decide
          have E := hid (same64_zero h1 h2 h3 h4)
          have ca := ha (by simpa using h3)
          have cb := hb (by simpa using h4)
          clear ha hb
          rcases ca with rfl | rfl <;> rcases cb with rfl | rfl
          all_goals
            go_enter Try.func30, Try.ntmps30
            go_wp2
            go_ret
            exact ⟨ret_bool (by rw [E.out]; rfl), rfl⟩
end Go.Proofs.Ythnffhmefgfnkaa
