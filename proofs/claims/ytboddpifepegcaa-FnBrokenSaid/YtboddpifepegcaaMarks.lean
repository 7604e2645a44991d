/- Walks of what looks whether two slices share memory: numbers are written into one slice, and looked for in it afterwards. -/
import Derived.Test.YtboddpifepegcaaEq
import Derived.RangeFuncBox
namespace Go.Proofs.Ytboddpifepegcaa
set_option maxRecDepth 20000
open Go.RowKit

/-- The values in a slice when k numbers have been written, the first one being k0. -/
def markK (f : Nat → Value) (xs : List Value) (k0 : Nat) : Nat → List Value
  | 0 => xs
  | k + 1 => (markK f xs k0 k).set k (f (k0 + k))
theorem markK_len (f : Nat → Value) (xs : List Value) (k0 : Nat) : ∀ k, (markK f xs k0 k).length = xs.length
  | 0 => rfl
  | k + 1 => by rw [markK, List.length_set, markK_len f xs k0 k]
theorem markK_at (f : Nat → Value) (xs : List Value) (k0 : Nat) {j : Nat} : ∀ k, j < k → k ≤ xs.length → (markK f xs k0 k)[j]? = some (f (k0 + j))
  | k + 1, h, hl => by
    rw [markK]
    by_cases e : k = j
    · subst e
      rw [List.getElem?_set_self (by rw [markK_len]; omega)]
    · rw [List.getElem?_set_ne e]
      exact markK_at f xs k0 k (by omega) (by omega)
theorem markK_old (f : Nat → Value) (xs : List Value) (k0 : Nat) {j : Nat} : ∀ k, k ≤ j → (markK f xs k0 k)[j]? = xs[j]?
  | 0, _ => rfl
  | k + 1, h => by
    rw [markK, List.getElem?_set_ne (by omega)]
    exact markK_old f xs k0 k (by omega)
def mF (m : Nat) : Value := .float .f32 (floatOfInt .f32 (m : Int))
def mI (m : Nat) : Value := .int .i64 (m : Int)
theorem grown_trans {a b c : World} {r : Option Nat} (h : a.grownBy b r) (k : b.grownBy c r) : a.grownBy c r :=
  ⟨k.os.trans h.os, k.tape.trans h.tape, k.output.trans h.output, Nat.le_trans h.size k.size, fun i hi hne => (k.block i (Nat.lt_of_lt_of_le hi h.size) hne).trans (h.block i hi hne)⟩
theorem mF_eq {m : Nat} (h : m ≤ 100) : (FloatKind.f32.format.order (floatOfInt .f32 (m : Int)) (floatOfInt .f32 (m : Int)) != some .eq) = false := by
  have h0 : ((List.range 101).all fun k => FloatKind.f32.format.order (floatOfInt .f32 (k : Int)) (floatOfInt .f32 (k : Int)) == some .eq) = true := by decide +kernel
  have h1 := List.all_eq_true.1 h0 m (List.mem_range.2 (by omega))
  simpa using h1
/-- A slice that reads as it was marked. -/
structure Held (w : World) (f : Nat → Value) (v : Value) (n k0 : Nat) : Prop where
  at_ : (v = .slice none 0 0 ∧ n = 0) ∨ ∃ g cap, v = .slice (some ⟨g, 0, none⟩) n cap ∧ g < w.heap.size ∧ ∀ j, j < n → w.cell? ⟨g, j, none⟩ = some (f (k0 + j))
theorem Held.below {w w' : World} {f : Nat → Value} {v : Value} {n k0 : Nat} (h : Held w f v n k0) (hb : Below w.heap.size w w') : Held w' f v n k0 := by
  rcases h.at_ with h | ⟨g, cap, h, h2, h3⟩
  · exact ⟨.inl h⟩
  · exact ⟨.inr ⟨g, cap, h, Nat.lt_of_lt_of_le h2 hb.size, fun j hj => cell_stays hb (h3 j hj)⟩⟩
theorem Held.of {w : World} {f : Nat → Value} {v : Value} {n k0 lo : Nat} {T : TypeId} {l : List Value} (h : w.ownsRow lo T 1 v n (markK f l k0 n)) (hl : l.length = n) : Held w f v n k0 := by
  have h' := h
  rcases h.2 with h | ⟨g, cap, cur, rfl, hlo, hb, _⟩
  · exact ⟨.inl h⟩
  · exact ⟨.inr ⟨g, cap, rfl, block_lt hb, fun j hj => by rw [h'.cellAt j (by omega)]; exact markK_at f l k0 n hj (by omega)⟩⟩
/-- A slice owns values of this kind. -/
def OwnsF (w : World) (lo : Nat) (v : Value) (n : Nat) (l : List Value) : Prop := w.ownsRow lo 27 1 v n l ∧ n ≤ 1048576 ∧ ∀ j, j < n → ∃ x, l[j]? = some (.float .f32 x)
theorem OwnsF.len {w : World} {lo n : Nat} {v : Value} {l : List Value} (h : OwnsF w lo v n l) : l.length = n := by rw [h.1.1, Nat.mul_one]
theorem OwnsF.below {w w' : World} {lo n : Nat} {v : Value} {l : List Value} (h : OwnsF w lo v n l) (hb : Below w.heap.size w w') : OwnsF w' lo v n l :=
  ⟨⟨h.1.1, h.1.2.imp id fun ⟨g, cap, cur, h1, h2, h3, h4⟩ => ⟨g, cap, cur, h1, h2, (hb.block g (block_lt h3)).trans h3, h4⟩⟩, h.2⟩
theorem OwnsF.kept {w w' : World} {lo n : Nat} {v : Value} {l : List Value} {r : Option Nat} (h : OwnsF w lo v n l) (hg : w.grownBy w' r) (hne : ∀ k, r = some k → k < lo) : OwnsF w' lo v n l :=
  ⟨⟨h.1.1, h.1.2.imp id fun ⟨g, cap, cur, h1, h2, h3, h4⟩ => ⟨g, cap, cur, h1, h2, (hg.block g (block_lt h3) (fun e => by have := hne g e.symm; omega)).trans h3, h4⟩⟩, h.2⟩
/-- A slice owns values of this kind. -/
def OwnsI (w : World) (lo : Nat) (v : Value) (n : Nat) (l : List Value) : Prop := w.ownsRow lo 2 1 v n l ∧ n ≤ 1048576 ∧ ∀ j, j < n → ∃ x, l[j]? = some (.int .i64 x)
theorem OwnsI.len {w : World} {lo n : Nat} {v : Value} {l : List Value} (h : OwnsI w lo v n l) : l.length = n := by rw [h.1.1, Nat.mul_one]
theorem OwnsI.below {w w' : World} {lo n : Nat} {v : Value} {l : List Value} (h : OwnsI w lo v n l) (hb : Below w.heap.size w w') : OwnsI w' lo v n l :=
  ⟨⟨h.1.1, h.1.2.imp id fun ⟨g, cap, cur, h1, h2, h3, h4⟩ => ⟨g, cap, cur, h1, h2, (hb.block g (block_lt h3)).trans h3, h4⟩⟩, h.2⟩
theorem OwnsI.kept {w w' : World} {lo n : Nat} {v : Value} {l : List Value} {r : Option Nat} (h : OwnsI w lo v n l) (hg : w.grownBy w' r) (hne : ∀ k, r = some k → k < lo) : OwnsI w' lo v n l :=
  ⟨⟨h.1.1, h.1.2.imp id fun ⟨g, cap, cur, h1, h2, h3, h4⟩ => ⟨g, cap, cur, h1, h2, (hg.block g (block_lt h3) (fun e => by have := hne g e.symm; omega)).trans h3, h4⟩⟩, h.2⟩
/-- A slice of float32 that reads as a list. -/
def FltsV (w : World) (v : Value) (xs : List Nat) : Prop := ∃ a cap, v = .slice a xs.length cap ∧ Flts w a xs.length xs
theorem FltsV.below {w w' : World} {v : Value} {xs : List Nat} (h : FltsV w v xs) (hb : Below w.heap.size w w') : FltsV w' v xs := by
  obtain ⟨a, cap, e, hf⟩ := h
  exact ⟨a, cap, e, hf.below hb⟩
/-- What the program hands back: its own memory, numbers of 32 bits. -/
def GotF (w : World) (lo : Nat) (v : Value) (l : List Nat) : Prop := w.ownsRow lo 27 1 v l.length (l.map (Value.float .f32))
theorem GotF.nil (w : World) (lo : Nat) : GotF w lo (.slice none 0 0) [] := World.ownsRow_nil w lo _ 1
theorem f32_at {l : List Nat} {k : Nat} (h : k < l.length) : (l.map (Value.float .f32))[k]? = some (.float .f32 (fat l k)) := by
  simp [fat, h]
theorem GotF.owns {w : World} {lo : Nat} {v : Value} {l : List Nat} (h : GotF w lo v l) (hl : l.length ≤ 99) : OwnsF w lo v l.length (l.map (Value.float .f32)) :=
  ⟨h, by omega, fun j hj => ⟨_, f32_at hj⟩⟩
theorem GotF.reads {w : World} {lo : Nat} {v : Value} {l : List Nat} (h : GotF w lo v l) (hl : l.length ≤ 99) (hw : ∀ k, k < l.length → fat l k < 4294967296) : FltsV w v l := by
  have h' := h
  unfold GotF at h'
  rcases h.2 with ⟨rfl, h0⟩ | ⟨g, cap, cur, rfl, hlo, hb, _⟩
  · obtain rfl := List.length_eq_zero_iff.1 h0
    exact ⟨none, 0, rfl, rfl, by simp, fun k hk => by simp at hk, fun hk => by simp at hk⟩
  · exact ⟨_, cap, rfl, rfl, by omega, hw, fun _ => ⟨g, 0, rfl, fun j hj => by rw [Nat.zero_add, h'.cellAt j (by omega)]; exact f32_at hj⟩⟩
theorem reads_of_got {P : Program} {f : FuncId} {args : Array Value} {w : World} {C : Int} {L : List Nat} (h : Calls P f args w fun e w' => (∃ v, e = .returned (.tuple #[v, .int .i64 C]) ∧ GotF w' w.heap.size v L) ∧ Below w.heap.size w w') (hl : L.length ≤ 99) (hw : ∀ k, k < L.length → fat L k < 4294967296) :
    Calls P f args w fun e w' => (∃ v, e = .returned (.tuple #[v, .int .i64 C]) ∧ FltsV w' v L) ∧ Below w.heap.size w w' :=
  h.mono fun _ _ ⟨⟨v, he, hg⟩, hb⟩ => ⟨⟨v, he, hg.reads hl hw⟩, hb⟩
/-- A slice of int64 that reads as a list. -/
structure Ints (w : World) (v : Value) (xs : List Int) : Prop where
  at_ : (v = .slice none 0 0 ∧ xs = []) ∨ ∃ a cap, v = .slice a xs.length cap ∧ xs.length ≤ 1048576 ∧ (0 < xs.length → ∃ b off, a = some ⟨b, off, none⟩ ∧ ∀ j, j < xs.length → w.cell? ⟨b, off + j, none⟩ = some (.int .i64 (iat xs j)))
theorem Ints.below {w w' : World} {v : Value} {xs : List Int} (h : Ints w v xs) (hb : Below w.heap.size w w') : Ints w' v xs := by
  rcases h.at_ with h | ⟨a, cap, h, hs, h2⟩
  · exact ⟨.inl h⟩
  · exact ⟨.inr ⟨a, cap, h, hs, fun h0 => by obtain ⟨b, off, e, hc⟩ := h2 h0; exact ⟨b, off, e, fun j hj => cell_stays hb (hc j hj)⟩⟩⟩
theorem Ints.any {w : World} {v : Value} {xs : List Int} (h : Ints w v xs) : ∃ a cap, v = .slice a xs.length cap ∧ xs.length ≤ 1048576 ∧ (0 < xs.length → ∃ b off, a = some ⟨b, off, none⟩ ∧ ∀ j, j < xs.length → w.cell? ⟨b, off + j, none⟩ = some (.int .i64 (iat xs j))) := by
  rcases h.at_ with ⟨rfl, rfl⟩ | h
  · exact ⟨none, 0, rfl, by simp, fun h => by simp at h⟩
  · exact h
theorem i64_at {l : List Int} {k : Nat} (h : k < l.length) : (l.map (Value.int .i64))[k]? = some (.int .i64 (iat l k)) := by
  simp [iat, h]
theorem Ints.empty (w : World) (a : Option Addr) (c : Nat) : Ints w (.slice a 0 c) [] := ⟨.inr ⟨a, c, rfl, by simp, fun h => by simp at h⟩⟩
/-- What the program hands back: its own memory, whole numbers. -/
def GotI (w : World) (lo : Nat) (v : Value) (l : List Int) : Prop := w.ownsRow lo 2 1 v l.length (l.map (Value.int .i64))
theorem GotI.nil (w : World) (lo : Nat) : GotI w lo (.slice none 0 0) [] := World.ownsRow_nil w lo _ 1
theorem GotI.ints {w : World} {lo : Nat} {v : Value} {l : List Int} (h : GotI w lo v l) (hl : l.length ≤ 1048576) : Ints w v l := by
  have h' := h
  unfold GotI at h'
  rcases h.2 with ⟨rfl, h0⟩ | ⟨g, cap, cur, rfl, hlo, hb, _⟩
  · exact ⟨.inl ⟨rfl, List.length_eq_zero_iff.1 h0⟩⟩
  · exact ⟨.inr ⟨_, cap, rfl, hl, fun _ => ⟨g, 0, rfl, fun j hj => by rw [Nat.zero_add, h'.cellAt j (by omega)]; exact i64_at hj⟩⟩⟩
theorem GotI.owns {w : World} {lo : Nat} {v : Value} {l : List Int} (h : GotI w lo v l) (hl : l.length ≤ 999) : OwnsI w lo v l.length (l.map (Value.int .i64)) :=
  ⟨h, by omega, fun j hj => ⟨_, i64_at hj⟩⟩
theorem GotI.reads {w : World} {lo : Nat} {v : Value} {l : List Int} (h : GotI w lo v l) (hl : l.length ≤ 999) : Ints w v l := h.ints (by omega)
end Go.Proofs.Ytboddpifepegcaa
