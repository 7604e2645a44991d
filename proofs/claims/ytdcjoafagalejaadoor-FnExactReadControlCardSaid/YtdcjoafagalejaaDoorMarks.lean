/- Walks of what looks whether two slices share memory: numbers are written into one slice, and looked for in it afterwards. -/
import Derived.Test.YtdcjoafagalejaaDoorEq
import Derived.RangeFuncBox
namespace Go.Proofs.YtdcjoafagalejaaDoor
set_option maxRecDepth 20000
open Go.RowKit

/-- The values in a slice when k numbers have been written, the first one being k0. -/
def markK (f : Nat → Value) (xs : List Value) (k0 : Nat) : Nat → List Value
  | 0 => xs
  | k + 1 => (markK f xs k0 k).set k (f (k0 + k))
theorem markK_len (f : Nat → Value) (xs : List Value) (k0 : Nat) : ∀ k, (markK f xs k0 k).length = xs.length
  | 0 => rfl
  | k + 1 => by rw [markK, List.length_set, markK_len f xs k0 k]
theorem markK_at (f : Nat → Value) (xs : List Value) (k0 : Nat) {j : Nat} : ∀ k, j < k → k ≤ xs.length → (markK f xs k0 k)[j]? = some (f (k0 + j))
  | k + 1, h, hl => by
    rw [markK]
    by_cases e : k = j
    · subst e
      rw [List.getElem?_set_self (by rw [markK_len]; omega)]
    · rw [List.getElem?_set_ne e]
      exact markK_at f xs k0 k (by omega) (by omega)
theorem markK_old (f : Nat → Value) (xs : List Value) (k0 : Nat) {j : Nat} : ∀ k, k ≤ j → (markK f xs k0 k)[j]? = xs[j]?
  | 0, _ => rfl
  | k + 1, h => by
    rw [markK, List.getElem?_set_ne (by omega)]
    exact markK_old f xs k0 k (by omega)
def mF (m : Nat) : Value := .float .f32 (floatOfInt .f32 (m : Int))
def mI (m : Nat) : Value := .int .i64 (m : Int)
theorem grown_trans {a b c : World} {r : Option Nat} (h : a.grownBy b r) (k : b.grownBy c r) : a.grownBy c r :=
  ⟨k.os.trans h.os, k.tape.trans h.tape, k.output.trans h.output, Nat.le_trans h.size k.size, fun i hi hne => (k.block i (Nat.lt_of_lt_of_le hi h.size) hne).trans (h.block i hi hne)⟩
theorem mF_eq {m : Nat} (h : m ≤ 100) : (FloatKind.f32.format.order (floatOfInt .f32 (m : Int)) (floatOfInt .f32 (m : Int)) != some .eq) = false := by
  have h0 : ((List.range 101).all fun k => FloatKind.f32.format.order (floatOfInt .f32 (k : Int)) (floatOfInt .f32 (k : Int)) == some .eq) = true := by decide +kernel
  have h1 := List.all_eq_true.1 h0 m (List.mem_range.2 (by omega))
  simpa using h1
/-- A slice that reads as it was marked. -/
structure Held (w : World) (f : Nat → Value) (v : Value) (n k0 : Nat) : Prop where
  at_ : (v = .slice none 0 0 ∧ n = 0) ∨ ∃ g cap, v = .slice (some ⟨g, 0, none⟩) n cap ∧ g < w.heap.size ∧ ∀ j, j < n → w.cell? ⟨g, j, none⟩ = some (f (k0 + j))
theorem Held.below {w w' : World} {f : Nat → Value} {v : Value} {n k0 : Nat} (h : Held w f v n k0) (hb : Below w.heap.size w w') : Held w' f v n k0 := by
  rcases h.at_ with h | ⟨g, cap, h, h2, h3⟩
  · exact ⟨.inl h⟩
  · exact ⟨.inr ⟨g, cap, h, Nat.lt_of_lt_of_le h2 hb.size, fun j hj => cell_stays hb (h3 j hj)⟩⟩
theorem Held.of {w : World} {f : Nat → Value} {v : Value} {n k0 lo : Nat} {T : TypeId} {l : List Value} (h : w.ownsRow lo T 1 v n (markK f l k0 n)) (hl : l.length = n) : Held w f v n k0 := by
  have h' := h
  rcases h.2 with h | ⟨g, cap, cur, rfl, hlo, hb, _⟩
  · exact ⟨.inl h⟩
  · exact ⟨.inr ⟨g, cap, rfl, block_lt hb, fun j hj => by rw [h'.cellAt j (by omega)]; exact markK_at f l k0 n hj (by omega)⟩⟩
/-- A slice owns values of this kind. -/
def OwnsF (w : World) (lo : Nat) (v : Value) (n : Nat) (l : List Value) : Prop := w.ownsRow lo 37 1 v n l ∧ n ≤ 1048576 ∧ ∀ j, j < n → ∃ x, l[j]? = some (.float .f32 x)
theorem OwnsF.len {w : World} {lo n : Nat} {v : Value} {l : List Value} (h : OwnsF w lo v n l) : l.length = n := by rw [h.1.1, Nat.mul_one]
theorem OwnsF.below {w w' : World} {lo n : Nat} {v : Value} {l : List Value} (h : OwnsF w lo v n l) (hb : Below w.heap.size w w') : OwnsF w' lo v n l :=
  ⟨⟨h.1.1, h.1.2.imp id fun ⟨g, cap, cur, h1, h2, h3, h4⟩ => ⟨g, cap, cur, h1, h2, (hb.block g (block_lt h3)).trans h3, h4⟩⟩, h.2⟩
theorem OwnsF.kept {w w' : World} {lo n : Nat} {v : Value} {l : List Value} {r : Option Nat} (h : OwnsF w lo v n l) (hg : w.grownBy w' r) (hne : ∀ k, r = some k → k < lo) : OwnsF w' lo v n l :=
  ⟨⟨h.1.1, h.1.2.imp id fun ⟨g, cap, cur, h1, h2, h3, h4⟩ => ⟨g, cap, cur, h1, h2, (hg.block g (block_lt h3) (fun e => by have := hne g e.symm; omega)).trans h3, h4⟩⟩, h.2⟩
theorem c_markFloat32S (w : World) (lo : Nat) (v : Value) (n k0 : Nat) (l : List Value) (h : OwnsF w lo v n l) (hk0 : k0 ≤ 1099511627776) (K : Int) (hK : K = (k0 : Int)) :
    Calls Tryd.prog 19 #[v, .int .i64 K] w fun e w' => e = .returned (.int .i64 (K + n)) ∧ w'.ownsRow lo 37 1 v n (markK mF l k0 n) ∧ w.grownBy w' v.ownBlock := by
  subst hK
  have hn := h.2.1
  rcases h.1.2 with ⟨rfl, rfl⟩ | ⟨g, cap, cur, rfl, hlo, hb, hrest⟩
  · have H := hid h
    clear h
    go_enter Tryd.func19, Tryd.ntmps19
    go_wp2
    go_loopw [1, 5] (fun m i wr => m = .int .i64 k0 ∧ i = .int .i64 0 ∧ wr = w) (fun _ _ _ => 0)
    case atStart => exact ⟨rfl, rfl, rfl⟩
    case round =>
      obtain ⟨rfl, rfl, rfl⟩ := hrel
      go_wp2
      go_ret
      exact ⟨ret_int (by first | rfl | omega), H.out.1, World.grownBy.refl _ _⟩
  · have H := hid h
    clear h hb hrest
    go_enter Tryd.func19, Tryd.ntmps19
    go_wp2
    go_loopw [1, 5] (fun m i wr => ∃ k : Nat, k ≤ n ∧ m = .int .i64 ((k0 + k : Nat) : Int) ∧ i = .int .i64 k ∧ wr.ownsRow lo 37 1 (.slice (some ⟨g, 0, none⟩) n cap) n (markK mF l k0 k) ∧ w.grownBy wr (some g)) (fun _ i _ => n - (intOf i).toNat)
    case atStart => exact ⟨0, by omega, rfl, rfl, H.out.1, World.grownBy.refl _ _⟩
    case round =>
      obtain ⟨k, hk, rfl, rfl, hown, hgr⟩ := hrel
      by_cases hlt : k < n
      · obtain ⟨x, hx⟩ := H.out.2.2 k hlt
        have h1 : wr.cell? ⟨g, k, none⟩ = some (.float .f32 x) := by rw [hown.cellAt k (by omega), markK_old _ _ _ k (Nat.le_refl _)]; exact hx
        have h2 : wr.frozen? ⟨g, k, none⟩ = false := hown.frozenAt k
        have h3 := hown.stored k (mF (k0 + k))
        have O := hid h3
        have G := hid hgr
        clear hown hgr h3 hx
        go_wp2
        refine ⟨⟨k + 1, by omega, by go_num, by go_num, O.out.1, grown_trans G.out O.out.2⟩, by simp [intOf]; omega⟩
      · obtain rfl : k = n := by omega
        have O := hid hown
        have G := hid hgr
        clear hown hgr
        go_wp2
        go_ret
        exact ⟨ret_int (by first | rfl | omega), O.out, G.out⟩
theorem c_heldFloat32S (w : World) (v : Value) (n k0 : Nat) (h : Held w mF v n k0) (hk : k0 + n ≤ 100) (K : Int) (hK : K = (k0 : Int)) :
    Calls Tryd.prog 20 #[v, .int .i64 K] w fun e w' => e = .returned (.int .i64 (K + n)) ∧ Below w.heap.size w w' := by
  subst hK
  rcases h.at_ with ⟨rfl, rfl⟩ | ⟨g, cap, rfl, hlt, hc⟩
  · clear h
    go_enter Tryd.func20, Tryd.ntmps20
    go_wp2
    go_loopw [1, 5] (fun m i wr => m = .int .i64 k0 ∧ i = .int .i64 0 ∧ wr = w) (fun _ _ _ => 0)
    case atStart => exact ⟨rfl, rfl, rfl⟩
    case round =>
      obtain ⟨rfl, rfl, rfl⟩ := hrel
      go_wp2
      go_ret
      exact ⟨ret_int (by first | rfl | omega), Below.refl _ _⟩
  · have C := hid hc
    clear h hc
    go_enter Tryd.func20, Tryd.ntmps20
    go_wp2
    go_loopw [1, 5] (fun m i wr => ∃ k : Nat, k ≤ n ∧ m = .int .i64 ((k0 + k : Nat) : Int) ∧ i = .int .i64 k ∧ wr = w) (fun _ i _ => n - (intOf i).toNat)
    case atStart => exact ⟨0, by omega, rfl, rfl, rfl⟩
    case round =>
      obtain ⟨k, hk, rfl, rfl, rfl⟩ := hrel
      by_cases hlt : k < n
      · have h1 := C.out k hlt
        have h2 := mF_eq (m := k0 + k) (by omega)
        simp only [mF, Int.natCast_add] at h1 h2
        go_wp2
        refine ⟨⟨k + 1, by omega, by go_num, by go_num, by first | rfl | trivial⟩, by simp [intOf]; omega⟩
      · obtain rfl : k = n := by omega
        go_wp2
        go_ret
        exact ⟨ret_int (by first | rfl | omega), Below.refl _ _⟩
/-- A slice owns values of this kind. -/
def OwnsI (w : World) (lo : Nat) (v : Value) (n : Nat) (l : List Value) : Prop := w.ownsRow lo 2 1 v n l ∧ n ≤ 1048576 ∧ ∀ j, j < n → ∃ x, l[j]? = some (.int .i64 x)
theorem OwnsI.len {w : World} {lo n : Nat} {v : Value} {l : List Value} (h : OwnsI w lo v n l) : l.length = n := by rw [h.1.1, Nat.mul_one]
theorem OwnsI.below {w w' : World} {lo n : Nat} {v : Value} {l : List Value} (h : OwnsI w lo v n l) (hb : Below w.heap.size w w') : OwnsI w' lo v n l :=
  ⟨⟨h.1.1, h.1.2.imp id fun ⟨g, cap, cur, h1, h2, h3, h4⟩ => ⟨g, cap, cur, h1, h2, (hb.block g (block_lt h3)).trans h3, h4⟩⟩, h.2⟩
theorem OwnsI.kept {w w' : World} {lo n : Nat} {v : Value} {l : List Value} {r : Option Nat} (h : OwnsI w lo v n l) (hg : w.grownBy w' r) (hne : ∀ k, r = some k → k < lo) : OwnsI w' lo v n l :=
  ⟨⟨h.1.1, h.1.2.imp id fun ⟨g, cap, cur, h1, h2, h3, h4⟩ => ⟨g, cap, cur, h1, h2, (hg.block g (block_lt h3) (fun e => by have := hne g e.symm; omega)).trans h3, h4⟩⟩, h.2⟩
-- over the copies that function 14 makes
theorem own_kept {w w' : World} {b : Nat} {xs : List Nat} {r : Option Nat} (h : Own w b xs) (hg : w.grownBy w' r) (hne : r ≠ some b) : Own w' b xs := ⟨(hg.block b (block_lt h.blk) (fun e => hne e.symm)).trans h.blk⟩
theorem own_ownsF {w : World} {b n lo : Nat} {xs : List Nat} {f : Option Addr} {w0 : World} (h : Own w b xs) (hf : Flts w0 f n xs) (hn : n ≤ 1048576) (hlo : lo ≤ b) : OwnsF w lo (.slice (some ⟨b, 0, none⟩) n n) n (xs.map (Value.float .f32)) := by
  have e := hf.len
  refine ⟨⟨by simp [e], .inr ⟨b, n, _, rfl, hlo, h.blk, Nat.le_refl _, by unfold maxLen; omega, by simp [f32s, e], by simp [f32s, e, List.take_of_length_le]⟩⟩, hn, fun j hj => ⟨fat xs j, ?_⟩⟩
  have : j < xs.length := by omega
  simp [fat, this]
/-- A slice of float32 that reads as a list. -/
def FltsV (w : World) (v : Value) (xs : List Nat) : Prop := ∃ a cap, v = .slice a xs.length cap ∧ Flts w a xs.length xs
theorem FltsV.below {w w' : World} {v : Value} {xs : List Nat} (h : FltsV w v xs) (hb : Below w.heap.size w w') : FltsV w' v xs := by
  obtain ⟨a, cap, e, hf⟩ := h
  exact ⟨a, cap, e, hf.below hb⟩
theorem c_eqF (u v : Value) (xs : List Nat) (w : World) (hx : FltsV w u xs) (hy : FltsV w v xs) :
    Calls Tryd.prog 16 #[u, v] w fun e w' => e = .returned (.bool true) ∧ Below w.heap.size w w' := by
  obtain ⟨a, ca, rfl, hf⟩ := hx
  obtain ⟨b, cb, rfl, hg⟩ := hy
  have e := sameL_refl hf.len hf.word
  refine (c_eqFloat32S a b xs.length xs.length ca cb xs xs w hf hg).mono ?_
  rintro e2 w' ⟨rfl, hb⟩
  exact ⟨by rw [e], hb⟩
/-- What the program hands back: its own memory, numbers of 32 bits. -/
def GotF (w : World) (lo : Nat) (v : Value) (l : List Nat) : Prop := w.ownsRow lo 37 1 v l.length (l.map (Value.float .f32))
theorem GotF.nil (w : World) (lo : Nat) : GotF w lo (.slice none 0 0) [] := World.ownsRow_nil w lo _ 1
theorem f32_at {l : List Nat} {k : Nat} (h : k < l.length) : (l.map (Value.float .f32))[k]? = some (.float .f32 (fat l k)) := by
  simp [fat, h]
theorem GotF.owns {w : World} {lo : Nat} {v : Value} {l : List Nat} (h : GotF w lo v l) (hl : l.length ≤ 99) : OwnsF w lo v l.length (l.map (Value.float .f32)) :=
  ⟨h, by omega, fun j hj => ⟨_, f32_at hj⟩⟩
theorem GotF.reads {w : World} {lo : Nat} {v : Value} {l : List Nat} (h : GotF w lo v l) (hl : l.length ≤ 99) (hw : ∀ k, k < l.length → fat l k < 4294967296) : FltsV w v l := by
  have h' := h
  unfold GotF at h'
  rcases h.2 with ⟨rfl, h0⟩ | ⟨g, cap, cur, rfl, hlo, hb, _⟩
  · obtain rfl := List.length_eq_zero_iff.1 h0
    exact ⟨none, 0, rfl, rfl, by simp, fun k hk => by simp at hk, fun hk => by simp at hk⟩
  · exact ⟨_, cap, rfl, rfl, by omega, hw, fun _ => ⟨g, 0, rfl, fun j hj => by rw [Nat.zero_add, h'.cellAt j (by omega)]; exact f32_at hj⟩⟩
theorem reads_of_got {P : Program} {f : FuncId} {args : Array Value} {w : World} {C : Int} {L : List Nat} (h : Calls P f args w fun e w' => (∃ v, e = .returned (.tuple #[v, .int .i64 C]) ∧ GotF w' w.heap.size v L) ∧ Below w.heap.size w w') (hl : L.length ≤ 99) (hw : ∀ k, k < L.length → fat L k < 4294967296) :
    Calls P f args w fun e w' => (∃ v, e = .returned (.tuple #[v, .int .i64 C]) ∧ FltsV w' v L) ∧ Below w.heap.size w w' :=
  h.mono fun _ _ ⟨⟨v, he, hg⟩, hb⟩ => ⟨⟨v, he, hg.reads hl hw⟩, hb⟩
/-- A slice of int64 that reads as a list. -/
structure Ints (w : World) (v : Value) (xs : List Int) : Prop where
  at_ : (v = .slice none 0 0 ∧ xs = []) ∨ ∃ a cap, v = .slice a xs.length cap ∧ xs.length ≤ 1048576 ∧ (0 < xs.length → ∃ b off, a = some ⟨b, off, none⟩ ∧ ∀ j, j < xs.length → w.cell? ⟨b, off + j, none⟩ = some (.int .i64 (iat xs j)))
theorem Ints.below {w w' : World} {v : Value} {xs : List Int} (h : Ints w v xs) (hb : Below w.heap.size w w') : Ints w' v xs := by
  rcases h.at_ with h | ⟨a, cap, h, hs, h2⟩
  · exact ⟨.inl h⟩
  · exact ⟨.inr ⟨a, cap, h, hs, fun h0 => by obtain ⟨b, off, e, hc⟩ := h2 h0; exact ⟨b, off, e, fun j hj => cell_stays hb (hc j hj)⟩⟩⟩
theorem Ints.any {w : World} {v : Value} {xs : List Int} (h : Ints w v xs) : ∃ a cap, v = .slice a xs.length cap ∧ xs.length ≤ 1048576 ∧ (0 < xs.length → ∃ b off, a = some ⟨b, off, none⟩ ∧ ∀ j, j < xs.length → w.cell? ⟨b, off + j, none⟩ = some (.int .i64 (iat xs j))) := by
  rcases h.at_ with ⟨rfl, rfl⟩ | h
  · exact ⟨none, 0, rfl, by simp, fun h => by simp at h⟩
  · exact h
theorem i64_at {l : List Int} {k : Nat} (h : k < l.length) : (l.map (Value.int .i64))[k]? = some (.int .i64 (iat l k)) := by
  simp [iat, h]
theorem Ints.empty (w : World) (a : Option Addr) (c : Nat) : Ints w (.slice a 0 c) [] := ⟨.inr ⟨a, c, rfl, by simp, fun h => by simp at h⟩⟩
/-- What the program hands back: its own memory, whole numbers. -/
def GotI (w : World) (lo : Nat) (v : Value) (l : List Int) : Prop := w.ownsRow lo 2 1 v l.length (l.map (Value.int .i64))
theorem GotI.nil (w : World) (lo : Nat) : GotI w lo (.slice none 0 0) [] := World.ownsRow_nil w lo _ 1
theorem GotI.ints {w : World} {lo : Nat} {v : Value} {l : List Int} (h : GotI w lo v l) (hl : l.length ≤ 1048576) : Ints w v l := by
  have h' := h
  unfold GotI at h'
  rcases h.2 with ⟨rfl, h0⟩ | ⟨g, cap, cur, rfl, hlo, hb, _⟩
  · exact ⟨.inl ⟨rfl, List.length_eq_zero_iff.1 h0⟩⟩
  · exact ⟨.inr ⟨_, cap, rfl, hl, fun _ => ⟨g, 0, rfl, fun j hj => by rw [Nat.zero_add, h'.cellAt j (by omega)]; exact i64_at hj⟩⟩⟩
theorem GotI.owns {w : World} {lo : Nat} {v : Value} {l : List Int} (h : GotI w lo v l) (hl : l.length ≤ 999) : OwnsI w lo v l.length (l.map (Value.int .i64)) :=
  ⟨h, by omega, fun j hj => ⟨_, i64_at hj⟩⟩
theorem GotI.reads {w : World} {lo : Nat} {v : Value} {l : List Int} (h : GotI w lo v l) (hl : l.length ≤ 999) : Ints w v l := h.ints (by omega)
end Go.Proofs.YtdcjoafagalejaaDoor
