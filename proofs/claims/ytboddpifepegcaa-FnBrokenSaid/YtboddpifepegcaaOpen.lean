/- Blinds and suns that come in by value: what their cells hold; the laws' own copies of them. -/
import Derived.Test.YtboddpifepegcaaLift
import Derived.Test.YtboddpifepegcaaCode
import Derived.Deep.MidRow
namespace Go.Proofs.Ytboddpifepegcaa
set_option maxRecDepth 20000
open Go.RowKit

theorem fits_blind {c : Array Value} (h : FitsAll [.i .i8, .f .f32, .f .f32, .i .i16, .f .f32] c.toList) : ∃ b, c = bcells b ∧ WfB b := by
  obtain ⟨hl, hf⟩ := h
  obtain ⟨l⟩ := c
  match l, hl with
  | [v0, v1, v2, v3, v4], _ =>
    obtain ⟨x0, rfl, h0⟩ := hf 0 _ v0 rfl rfl
    obtain ⟨x1, rfl, h1⟩ := hf 1 _ v1 rfl rfl
    obtain ⟨x2, rfl, h2⟩ := hf 2 _ v2 rfl rfl
    obtain ⟨x3, rfl, h3⟩ := hf 3 _ v3 rfl rfl
    obtain ⟨x4, rfl, h4⟩ := hf 4 _ v4 rfl rfl
    exact ⟨⟨x0, x1, x2, x3, x4⟩, rfl, ⟨wf_i8 h0, wf_f32 h1, wf_f32 h2, wf_i16 h3, wf_f32 h4⟩⟩
theorem fits_sun {c : Array Value} (h : FitsAll (List.replicate 48 (.i .i16)) c.toList) : ∃ hs ts, c = scells hs ts ∧ hs.length = 24 ∧ ts.length = 24 ∧ I16 hs ∧ I16 ts := by
  obtain ⟨a, la, ea, wa⟩ := fits_ints h
  refine ⟨a.take 24, a.drop 24, ?_, by simp [la], by simp [la], fun k hk => ?_, fun k hk => ?_⟩
  · apply Array.toList_inj.1
    rw [ea]; simp [scells, i16s]
  · have e : iat (a.take 24) k = iat a k := by simp [iat, hk]
    rw [e]; exact wf_i16 (iat_wf la wa k (by omega))
  · have e : iat (a.drop 24) k = iat a (24 + k) := by simp [iat, List.getElem?_drop]
    rw [e]; exact wf_i16 (iat_wf la wa (24 + k) (by omega))
theorem c_tilted (B : Bld) (t : Int) (ht : -64 ≤ t ∧ t ≤ 64) (w : World) :
    Calls Try.prog 51 #[.agg (bcells B), .int .i64 t] w fun e w' => e = .returned (.agg (bcells (tiltB B t))) ∧ Below w.heap.size w w' := by
  have hsz := size_blind (tiltB B t)
  simp only [bcells, tiltB] at hsz ⊢
  have hs := hid hsz
  clear hsz
  go_enter Try.func51, Try.ntmps51
  go_wp2
  refine bodyPost_ret (v := .agg #[.int .i8 B.sl, .float .f32 B.wi, .float .f32 B.ga, .int .i16 t, .float .f32 B.sh]) (results_cell_row rfl _ _ (w.heap.size + 1) 30 _ (0, 0) _ rfl ?_ Try.underlying30 rfl hs.out) rfl ⟨rfl, ?_⟩
  · exact blk_at _ _ _ (by simp)
  · exact ((Below.refl _ _).alloc (Nat.le_refl _) _).alloc (by simp) _
/-- Cells are written into a block that is known whole. -/
theorem heap_setCells (b : Nat) (T : TypeId) : ∀ (vs : List Value) (o : Nat) (w : World) (C : Array Value), w.heap[b]? = some (.cells C T (0, 0)) → o + vs.length ≤ C.size →
    (w.setCells b o vs).heap[b]? = some (.cells (C.toList.take o ++ vs ++ C.toList.drop (o + vs.length)).toArray T (0, 0))
  | [], o, w, C, h, _ => by simp [World.setCells, h]
  | v :: r, o, w, C, h, hs => by
    rw [World.setCells]
    simp at hs
    have h1 := heap_setCell_same w b o C T v h
    rw [heap_setCells b T r (o + 1) _ _ h1 (by simp; omega)]
    congr 1
    congr 1
    apply Array.toList_inj.1
    simp only [Array.toList_setIfInBounds]
    apply List.ext_getElem?
    intro k
    have e1 : (C.toList.take o).length = o := by simp; omega
    have e2 : ((C.toList.set o v).take (o + 1)).length = o + 1 := by simp; omega
    rcases Nat.lt_or_ge k o with hk | hk
    · rw [List.append_assoc, List.getElem?_append_left (by omega), List.append_assoc, List.getElem?_append_left (by omega)]
      rw [List.getElem?_take_of_lt (by omega), List.getElem?_take_of_lt hk, List.getElem?_set_ne (by omega)]
    · rcases Nat.lt_or_ge k (o + 1) with hk2 | hk2
      · obtain rfl : k = o := by omega
        rw [List.append_assoc, List.getElem?_append_left (by omega), List.getElem?_take_of_lt (by omega), List.getElem?_set_self (by simp; omega)]
        rw [List.append_assoc, List.getElem?_append_right (by omega), e1]
        simp
      · obtain ⟨m, rfl⟩ : ∃ m, k = o + 1 + m := ⟨k - (o + 1), by omega⟩
        have L : ((C.toList.set o v).take (o + 1) ++ r ++ (C.toList.set o v).drop (o + 1 + r.length))[o + 1 + m]? = (r ++ (C.toList.set o v).drop (o + 1 + r.length))[m]? := by
          rw [List.append_assoc, List.getElem?_append_right (by omega), e2]; congr 1; omega
        have R : (C.toList.take o ++ (v :: r) ++ C.toList.drop (o + (v :: r).length))[o + 1 + m]? = (v :: r ++ C.toList.drop (o + (v :: r).length))[m + 1]? := by
          rw [List.append_assoc, List.getElem?_append_right (by omega), e1]; congr 1; omega
        rw [L, R, List.cons_append, List.getElem?_cons_succ]
        rcases Nat.lt_or_ge m r.length with hm | hm
        · rw [List.getElem?_append_left hm, List.getElem?_append_left hm]
        · rw [List.getElem?_append_right hm, List.getElem?_append_right hm, List.getElem?_drop, List.getElem?_drop, List.getElem?_set_ne (by omega)]
          simp only [List.length_cons]
          congr 1; omega
theorem setCells_below {B : Nat} {a w : World} (h : Below B a w) {b : Nat} (hb : B ≤ b) (vs : List Value) (o : Nat) : Below B a (w.setCells b o vs) := by
  induction vs generalizing o w with
  | nil => exact h
  | cons v r ih => rw [World.setCells]; exact ih (h.setCell (p := ⟨b, o, none⟩) hb v) (o + 1)
theorem setCells_size (b : Nat) : ∀ (vs : List Value) (o : Nat) (w : World), (w.setCells b o vs).heap.size = w.heap.size
  | [], _, _ => rfl
  | v :: r, o, w => by rw [World.setCells, setCells_size b r]; simp
theorem there_of_block {w : World} {b : Nat} {C : Array Value} {T : TypeId} (h : w.heap[b]? = some (.cells C T (0, 0))) {o n : Nat} (hn : o + n ≤ C.size) : w.there b o n := fun j hj => by
  refine ⟨?_, frozen_of_row w b _ C T h⟩
  rw [cell_of_row w b _ C T _ h, Array.getElem?_eq_getElem (by omega)]; rfl
theorem range_hs {w : World} {b : Nat} {hs ts : List Int} {T : TypeId} (hb : w.heap[b]? = some (.cells (scells hs ts) T (0, 0))) (l : hs.length = 24) : w.rangeAt b 0 (i16s hs).toList := fun j v hv => by
  rw [cell_of_row w b _ _ _ _ hb]
  have hj : j < 24 := by have := (List.getElem?_eq_some_iff.1 hv).1; simp [i16s, l] at this; exact this
  rw [Nat.zero_add, scells_h l hj, ← hv, Array.getElem?_toList, i16s_at l hj]
theorem range_ts {w : World} {b : Nat} {hs ts : List Int} {T : TypeId} (hb : w.heap[b]? = some (.cells (scells hs ts) T (0, 0))) (l : hs.length = 24) (m : ts.length = 24) : w.rangeAt b 24 (i16s ts).toList := fun j v hv => by
  rw [cell_of_row w b _ _ _ _ hb]
  have hj : j < 24 := by have := (List.getElem?_eq_some_iff.1 hv).1; simp [i16s, m] at this; exact this
  rw [scells_t l m hj, ← hv, Array.getElem?_toList, i16s_at m hj]
def z24 : List Int := List.replicate 24 0
theorem set_low {w : World} {b : Nat} {hs ts us : List Int} {T : TypeId} (hb : w.heap[b]? = some (.cells (scells hs ts) T (0, 0))) (l : hs.length = 24) (m : us.length = 24) : (w.setCells b 0 (i16s us).toList).heap[b]? = some (.cells (scells us ts) T (0, 0)) := by
  rw [heap_setCells b T _ 0 w _ hb (by simp [scells, i16s, l, m])]
  congr 2
  apply Array.toList_inj.1
  simp [scells, i16s, l, m]
theorem set_high {w : World} {b : Nat} {hs ts us : List Int} {T : TypeId} (hb : w.heap[b]? = some (.cells (scells hs ts) T (0, 0))) (l : hs.length = 24) (k : ts.length = 24) (m : us.length = 24) : (w.setCells b 24 (i16s us).toList).heap[b]? = some (.cells (scells hs us) T (0, 0)) := by
  rw [heap_setCells b T _ 24 w _ hb (by simp [scells, i16s, l, m, k])]
  congr 2
  apply Array.toList_inj.1
  simp [scells, i16s, l, m, k]
theorem setCells_other {b k : Nat} (hk : k ≠ b) : ∀ (vs : List Value) (o : Nat) (w : World), (w.setCells b o vs).heap[k]? = w.heap[k]?
  | [], _, _ => rfl
  | v :: r, o, w => by rw [World.setCells, setCells_other hk r]; exact heap_setCell_other w ⟨b, o, none⟩ k v hk
end Go.Proofs.Ytboddpifepegcaa
