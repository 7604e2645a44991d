/- Slices of structs: a slice whose elements are rows of cells; a block of one's own that holds such rows. No program in sight. -/
import Derived.Test.YtboddpifepegcaaOpen
namespace Go.Proofs.Ytboddpifepegcaa
set_option maxRecDepth 20000
open Go.RowKit

/-- A slice of n rows of s cells each. -/
structure Rws (w : World) (a : Option Addr) (n s : Nat) (cs : Nat → List Value) : Prop where
  small : n ≤ 1048576
  at_ : 0 < n → ∃ b o, a = some ⟨b, o, none⟩ ∧ ∀ i, i < n → w.rangeAt b (o + i * s) (cs i)
theorem range_below {w w' : World} {b o : Nat} {cs : List Value} (h : w.rangeAt b o cs) (hb : Below w.heap.size w w') : w'.rangeAt b o cs := fun j v hv => cell_stays hb (h j v hv)
theorem Rws.below {w w' : World} {a : Option Addr} {n s : Nat} {cs : Nat → List Value} (h : Rws w a n s cs) (hb : Below w.heap.size w w') : Rws w' a n s cs :=
  ⟨h.small, fun hn => by
    obtain ⟨b, o, rfl, hc⟩ := h.at_ hn
    exact ⟨b, o, rfl, fun i hi => range_below (hc i hi) hb⟩⟩
/-- A block of one's own with n rows of s cells, the first k of which are as told. -/
structure PartR (w : World) (b n s : Nat) (T : TypeId) (cs : Nat → List Value) (k : Nat) : Prop where
  blk : ∃ C : Array Value, w.heap[b]? = some (.cells C T (0, 0)) ∧ C.size = n * s
  at_ : ∀ i, i < k → w.rangeAt b (i * s) (cs i)
theorem PartR.lt {w : World} {b n s : Nat} {T : TypeId} {cs : Nat → List Value} {k : Nat} (h : PartR w b n s T cs k) : b < w.heap.size := by
  obtain ⟨C, hC, _⟩ := h.blk; exact block_lt hC
theorem PartR.below {w w' : World} {b n s : Nat} {T : TypeId} {cs : Nat → List Value} {k : Nat} (h : PartR w b n s T cs k) (hb : Below w.heap.size w w') : PartR w' b n s T cs k := by
  obtain ⟨C, hC, hs⟩ := h.blk
  exact ⟨⟨C, (hb.block b (block_lt hC)).trans hC, hs⟩, fun i hi => range_below (h.at_ i hi) hb⟩
theorem PartR.kept {w w' : World} {b n s : Nat} {T : TypeId} {cs : Nat → List Value} {k : Nat} {r : Option Nat} (h : PartR w b n s T cs k) (hg : w.grownBy w' r) (hne : r ≠ some b) : PartR w' b n s T cs k := by
  obtain ⟨C, hC, hs⟩ := h.blk
  have e := hg.block b (block_lt hC) (fun e => hne e.symm)
  refine ⟨⟨C, e.trans hC, hs⟩, fun i hi j v hv => ?_⟩
  have := h.at_ i hi j v hv
  rw [cell_of_row _ _ _ _ _ _ hC] at this
  rw [cell_of_row _ _ _ _ _ _ (e.trans hC)]; exact this
theorem row_in {i n s j : Nat} (hi : i < n) (hj : j < s) : i * s + j < n * s := by
  have : i * s + s ≤ n * s := by rw [← Nat.succ_mul]; exact Nat.mul_le_mul_right _ hi
  omega
theorem row_end {i n s : Nat} (hi : i < n) : i * s + s ≤ n * s := by rw [← Nat.succ_mul]; exact Nat.mul_le_mul_right _ hi
theorem PartR.there {w : World} {b n s : Nat} {T : TypeId} {cs : Nat → List Value} {k : Nat} (h : PartR w b n s T cs k) {i m : Nat} (hi : i < n) (hm : m = s) : w.there b (i * s) m := by
  obtain ⟨C, hC, hs⟩ := h.blk
  subst hm
  exact there_of_block hC (by rw [hs]; exact row_end hi)
theorem PartR.cell {w : World} {b n s : Nat} {T : TypeId} {cs : Nat → List Value} {k : Nat} (h : PartR w b n s T cs k) {i j : Nat} (hi : i < n) (hj : j < s) : (w.cell? ⟨b, i * s + j, none⟩).isSome = true ∧ w.frozen? ⟨b, i * s + j, none⟩ = false := h.there hi rfl j hj
theorem setCells_blk {b n : Nat} {T : TypeId} : ∀ (vs : List Value) (o : Nat) {w : World}, (∃ C : Array Value, w.heap[b]? = some (.cells C T (0, 0)) ∧ C.size = n) → ∃ C : Array Value, (w.setCells b o vs).heap[b]? = some (.cells C T (0, 0)) ∧ C.size = n
  | [], _, _, h => h
  | v :: r, o, w, ⟨C, hC, hs⟩ => by
    rw [World.setCells]
    exact setCells_blk r (o + 1) ⟨_, heap_setCell_same w b o C T v hC, by simp [hs]⟩
theorem PartR.put {w : World} {b n s : Nat} {T : TypeId} {cs : Nat → List Value} {k : Nat} (h : PartR w b n s T cs k) (hl : ∀ i, i ≤ k → (cs i).length = s) (hk : k < n) : PartR (w.setCells b (k * s) (cs k)) b n s T cs (k + 1) := by
  refine ⟨setCells_blk _ _ h.blk, fun i hi => ?_⟩
  rcases Nat.lt_or_ge i k with h1 | h1
  · refine World.rangeAt_setCells_apart (h.at_ i h1) _ _ _ (.inr (.inl ?_))
    rw [hl i (by omega)]
    exact row_end h1
  · obtain rfl : i = k := by omega
    exact World.rangeAt_setCells_same _ _ _ _ (h.there hk (hl i (Nat.le_refl _)))
theorem PartR.cell_put {w : World} {b n s : Nat} {T : TypeId} {cs : Nat → List Value} (h : PartR w b n s T cs 0) (o : Nat) (v : Value) : PartR (w.setCell ⟨b, o, none⟩ v) b n s T cs 0 := by
  obtain ⟨C, hC, hs⟩ := h.blk
  exact ⟨⟨_, heap_setCell_same w b o C T v hC, by simp [hs]⟩, fun i hi => by omega⟩
theorem PartR.zero {w : World} {b n s : Nat} {T : TypeId} {cs cs' : Nat → List Value} {k : Nat} (h : PartR w b n s T cs k) : PartR w b n s T cs' 0 := ⟨h.blk, fun i hi => by omega⟩
theorem PartR.new {w : World} {n s : Nat} {T : TypeId} {cs : Nat → List Value} {C : Array Value} (h : C.size = n * s) {b : Nat} (hb : b = w.heap.size) : PartR (w.alloc (.cells C T)) b n s T cs 0 := by
  subst hb; exact ⟨⟨C, heap_alloc_new w _, h⟩, fun i hi => by omega⟩
/-- A block of one's own with n rows of s cells. -/
def OwnR (w : World) (b n s : Nat) (T : TypeId) (cs : Nat → List Value) : Prop := PartR w b n s T cs n
theorem OwnR.rws {w : World} {b n s : Nat} {T : TypeId} {cs : Nat → List Value} (h : OwnR w b n s T cs) (hn : n ≤ 1048576) : Rws w (some ⟨b, 0, none⟩) n s cs :=
  ⟨hn, fun _ => ⟨b, 0, rfl, fun i hi => by rw [Nat.zero_add]; exact PartR.at_ h i hi⟩⟩
theorem OwnR.below {w w' : World} {b n s : Nat} {T : TypeId} {cs : Nat → List Value} (h : OwnR w b n s T cs) (hb : Below w.heap.size w w') : OwnR w' b n s T cs := PartR.below h hb
theorem OwnR.kept {w w' : World} {b n s : Nat} {T : TypeId} {cs : Nat → List Value} {r : Option Nat} (h : OwnR w b n s T cs) (hg : w.grownBy w' r) (hne : r ≠ some b) : OwnR w' b n s T cs := PartR.kept h hg hne
theorem OwnR.lt {w : World} {b n s : Nat} {T : TypeId} {cs : Nat → List Value} (h : OwnR w b n s T cs) : b < w.heap.size := PartR.lt h
/-- 'make' of n rows. -/
theorem run_make_rows {P : Program} (t e : TypeId) (bytes s : Nat) (ht : P.underlying t = some (.slice e)) (hz : (P.info? e).map (fun i => (i.zero.isSome, i.size, i.bytes)) = some (true, s, bytes))
    (n : Nat) (hbytes : bytes * n ≤ 281474976710656) (h63 : n ≤ 9223372036854775807) : ∃ C : Array Value, C.size = n * s ∧ ∀ w, (Instr.makeSlice t (.int .i64 (n : Int)) (.int .i64 (n : Int))).run P w = .ok (.slice (some ⟨w.heap.size, 0, none⟩) n n) (w.alloc (.cells C e)) := by
  obtain ⟨i, hi, hzz⟩ := Option.map_eq_some_iff.1 hz
  simp only [Prod.mk.injEq] at hzz
  obtain ⟨h1, h2, h3⟩ := hzz
  obtain ⟨z, hz2⟩ := Option.isSome_iff_exists.1 h1
  subst h2 h3
  have hb' : (i.bytes : Int) * (n : Int) ≤ 281474976710656 := by
    have h : ((i.bytes * n : Nat) : Int) ≤ 281474976710656 := by omega
    rwa [Int.natCast_mul] at h
  refine ⟨madeCells z.cells (n * i.size), size_madeCells _ _, fun w => ?_⟩
  have hr := run_make (P := P) w t e i z ht hi hz2 .i64 .i64 n n (by omega) (Int.le_refl _) hb' (by omega)
  simp only [Int.toNat_natCast] at hr
  exact hr
/-! ### Suns -/
/-- n suns are of the right form. -/
def SunsOk (H T : Nat → List Int) (n : Nat) : Prop := ∀ i, i < n → (H i).length = 24 ∧ (T i).length = 24 ∧ I16 (H i) ∧ I16 (T i)
def scs (H T : Nat → List Int) (i : Nat) : List Value := (scells (H i) (T i)).toList
theorem scs_len {H T : Nat → List Int} {n : Nat} (h : SunsOk H T n) {i : Nat} (hi : i < n) : (scs H T i).length = 48 := by
  have := scells_size (h i hi).1 (h i hi).2.1; simpa [scs] using this
theorem sun_of_range {w : World} {b o : Nat} {H T : Nat → List Int} {n : Nat} (h : SunsOk H T n) {i : Nat} (hi : i < n) (hr : w.rangeAt b o (scs H T i)) : SunAt w b o (H i) (T i) :=
  ⟨fun k hk => by
    have := hr k _ (by rw [scs, Array.getElem?_toList]; exact scells_h (h i hi).1 hk)
    exact this,
   fun k hk => by
    have := hr (24 + k) _ (by rw [scs, Array.getElem?_toList]; exact scells_t (h i hi).1 (h i hi).2.1 hk)
    rw [show o + (24 + k) = o + 24 + k by omega] at this; exact this⟩
/-- A slice of rows, of whatever length. -/
structure RwsAny (w : World) (a : Option Addr) (n s : Nat) (cs : Nat → List Value) : Prop where
  small : n ≤ 9223372036854775807
  at_ : 0 < n → ∃ b o, a = some ⟨b, o, none⟩ ∧ ∀ i, i < n → w.rangeAt b (o + i * s) (cs i)
theorem RwsAny.rws {w : World} {a : Option Addr} {n s : Nat} {cs : Nat → List Value} (h : RwsAny w a n s cs) (hn : n ≤ 1048576) : Rws w a n s cs := ⟨hn, h.at_⟩
theorem rws_of_rows {w : World} {a : Option Addr} {n : Nat} {ks : List Leaf} {rows : List (List Value)} {s : Nat} {cs : Nat → List Value} (h : RowsIn w a n ks.length ks rows) (hs : ks.length = s) (hc : ∀ i, i < n → rows[i]? = some (cs i)) : RwsAny w a n s cs := by
  subst hs
  refine ⟨h.small, fun hn => ?_⟩
  obtain ⟨b, o, e, hr⟩ := h.at_ hn
  exact ⟨b, o, e, fun i hi j v hv => hr i _ (hc i hi) j v hv⟩
theorem suns_of_rows {w : World} {a : Option Addr} {n : Nat} {rows : List (List Value)} (h : RowsIn w a n (List.replicate 48 (Leaf.i .i16)).length (List.replicate 48 (.i .i16)) rows) : ∃ H T, SunsOk H T n ∧ RwsAny w a n 48 (scs H T) := by
  have each : ∀ i, ∃ p : List Int × List Int, i < n → rows[i]? = some (scells p.1 p.2).toList ∧ p.1.length = 24 ∧ p.2.length = 24 ∧ I16 p.1 ∧ I16 p.2 := by
    intro i
    by_cases hi : i < n
    · have hil : i < rows.length := by rw [h.len]; exact hi
      have hr : rows[i]? = some rows[i] := List.getElem?_eq_getElem hil
      obtain ⟨hs, ts, e, h1, h2, h3, h4⟩ := fits_sun (c := (rows[i]).toArray) (by simpa using h.fits i _ hr)
      exact ⟨(hs, ts), fun _ => ⟨by rw [hr, ← e], h1, h2, h3, h4⟩⟩
    · exact ⟨([], []), fun h => absurd h hi⟩
  obtain ⟨F, hF⟩ := Classical.skolem.1 each
  exact ⟨fun i => (F i).1, fun i => (F i).2, fun i hi => (hF i hi).2, rws_of_rows h (by simp) fun i hi => (hF i hi).1⟩
end Go.Proofs.Ytboddpifepegcaa
