/- Walks of the tilts with which an hour keeps within bounds. -/
import Derived.Test.YthnffhmefgfnkaaPLight
namespace Go.Proofs.Ythnffhmefgfnkaa
set_option maxRecDepth 20000
open Go.RowKit

/-- The tilts among the first n that are so. -/
def tiltsK (g : Int → Bool) (n : Nat) : List Int := ((List.range n).map fun j : Nat => (j : Int) - 64).filter g
theorem tiltsK_yes {g : Int → Bool} {n : Nat} (h : g ((n : Int) - 64) = true) : tiltsK g (n + 1) = tiltsK g n ++ [(n : Int) - 64] := by simp [tiltsK, List.range_succ, h]
theorem tiltsK_no {g : Int → Bool} {n : Nat} (h : g ((n : Int) - 64) = false) : tiltsK g (n + 1) = tiltsK g n := by simp [tiltsK, List.range_succ, h]
theorem tiltsK_len (g : Int → Bool) (n : Nat) : (tiltsK g n).length ≤ n := by
  have h := List.length_filter_le g ((List.range n).map fun j : Nat => (j : Int) - 64)
  simpa [tiltsK] using h
theorem info_int64 : (Try.prog.info? 2).map (fun i => (i.zero, i.size, i.bytes)) = some (some (.int .i64 0), 1, 8) := by kernel_rfl
theorem int_cell (x : Int) : ∀ u ∈ [Value.int .i64 x], u.oneCell' = true := by
  intro u hu; simp at hu; subst hu; rfl
def mInt (l : List Int) : List Value := l.map (Value.int .i64)
theorem c_tiltsThat (B : Bld) (c1 c2 c3 c4 c5 : Value) (g : Int → Bool) (w : World)
    (hso : ∀ (t : Int) (w' : World), -64 ≤ t → t ≤ 64 → Below w.heap.size w w' → Calls Try.prog 119 #[.agg (bcells (tiltB B t)), c1, c2, c3, c4, c5] w' fun e w2 => e = .returned (.bool (g t)) ∧ Below w'.heap.size w' w2) :
    Calls Try.prog 118 #[.agg (bcells B), .func (.func 119) #[] #[c1, c2, c3, c4, c5]] w fun e w' => (∃ v, e = .returned v ∧ w'.ownsRow w.heap.size 2 1 v (tiltsK g 129).length (mInt (tiltsK g 129))) ∧ Below w.heap.size w w' := by
  have HB0 : Hid ((w.alloc (.cells (bcells B) 32)).heap[w.heap.size]? = some (.cells (bcells B) 32 (0, 0))) := hid (blk_at _ _ _ rfl)
  have H0 : Hid (Below w.heap.size w (w.alloc (.cells (bcells B) 32))) := hid ((Below.refl _ _).alloc (Nat.le_refl _) _)
  have hsz := hid (size_blind B)
  have SO := hid hso
  obtain ⟨i0, hi, hz0, hz1, hz2⟩ := info_parts info_int64
  have HI := hid hi
  have HZ0 := hid hz0
  have HZ1 := hid hz1
  have HZ2 := hid hz2
  clear hso hi hz0 hz1 hz2
  go_enter Try.func118, Try.ntmps118
  go_wp2_with fail
  go_loopw [5, 6] (fun v i wr => ∃ k : Nat, k ≤ 129 ∧ i = .int .i64 ((k : Int) - 64) ∧ wr.ownsRow (w.heap.size + 1) 2 1 v (tiltsK g k).length (mInt (tiltsK g k)) ∧ Below (w.heap.size + 1) (w.alloc (.cells (bcells B) 32)) wr) (fun _ i _ => (65 - intOf i).toNat)
  case atStart => exact ⟨0, by omega, by go_num, by have := owns_empty (w.alloc (.cells (bcells B) 32)) 2; simpa [tiltsK, mInt] using this, (Below.refl _ _).alloc (by simp) _⟩
  case round =>
    obtain ⟨k, hk, rfl, hown, hbel⟩ := hrel
    have O := hid hown
    have BE := hid hbel
    clear hown hbel
    by_cases hlt : k < 129
    · have t1 : (k : Int) - 64 ≤ 64 := by omega
      have B1 : Hid (Below (w.alloc (.cells (bcells B) 32)).heap.size (w.alloc (.cells (bcells B) 32)) wr) := hid (by have := BE.out; simpa using this)
      have HB1 := hid ((B1.out.block _ (block_lt HB0.out)).trans HB0.out)
      have C1 := hid (fun w => c_tilted B ((k : Int) - 64) (by omega) w)
      have C2 := hid (fun w' h => SO.out ((k : Int) - 64) w' (by omega) (by omega) h)
      have BW : Hid (Below w.heap.size w wr) := hid (H0.out.trans (BE.out.mono (by omega)))
      generalize hgk : g ((k : Int) - 64) = u at *
      have GK := hid hgk
      clear hgk
      cases u
      · go_wp2_with (first | (refine wpList_load_row rfl 32 _ rfl (w.heap.size) rfl 32 (bcells B) (0, 0) _ HB1.out Try.underlying32 rfl hsz.out ?_) | (go_at_call 77; refine (C1.out _).mono ?_; rintro e w1 ⟨rfl, h1⟩; have D1 := hid h1; clear h1) | (go_at_call 119; refine (C2.out _ (below_trans BW.out D1.out BW.out.size)).mono ?_; rintro e w2 ⟨rfl, h2⟩; have D2 := hid (below_trans D1.out h2 D1.out.size); clear h2))
        have B3 : Hid (Below (w.heap.size + 1) (w.alloc (.cells (bcells B) 32)) w2) := hid (BE.out.trans (D2.out.mono (by have := BE.out.size; simp at this; omega)))
        exact ⟨⟨k + 1, by omega, by go_num, by rw [tiltsK_no GK.out]; exact ownsRow_below O.out D2.out, B3.out⟩, by simp [intOf]; omega⟩
      · go_wp2_with (first | (refine wpList_load_row rfl 32 _ rfl (w.heap.size) rfl 32 (bcells B) (0, 0) _ HB1.out Try.underlying32 rfl hsz.out ?_) | (go_at_call 77; refine (C1.out _).mono ?_; rintro e w1 ⟨rfl, h1⟩; have D1 := hid h1; clear h1) | (go_at_call 119; refine (C2.out _ (below_trans BW.out D1.out BW.out.size)).mono ?_; rintro e w2 ⟨rfl, h2⟩; have D2 := hid (below_trans D1.out h2 D1.out.size); have O2 := hid (ownsRow_below O.out D2.out); have TL := tiltsK_len g k; clear h2) | (at_builtin; refine wpList_append_own _ rfl _ _ 58 rfl (w.heap.size + 1) 2 i0 (.int .i64 0) 1 8 Try.underlying58 HI.out HZ0.out HZ1.out HZ2.out rfl (by decide) _ _ _ rfl (O2.out.alloc _) ⟨w2.heap.size, 0, none⟩ 1 1 [.int .i64 ((k : Int) - 64)] rfl rfl (one_at _ _ _) (int_cell _) (by unfold maxLen; omega) (by omega) (by have e1 := D2.out.size; have e2 := BE.out.size; simp at e2 ⊢; omega) ?_; intro v' w3 hown' hgrow _))
        have O1 := hid hown'
        have B3 : Hid (Below (w.heap.size + 1) (w.alloc (.cells (bcells B) 32)) w2) := hid (BE.out.trans (D2.out.mono (by have := BE.out.size; simp at this; omega)))
        have B4 := hid (append_below2 B3.out (by have := B3.out.size; simp at this; omega) O2.out hgrow)
        clear hown' hgrow TL
        go_wp2
        exact ⟨⟨k + 1, by omega, by go_num, by rw [tiltsK_yes GK.out, mInt, List.map_append, List.length_append]; exact O1.out, B4.out⟩, by simp [intOf]; omega⟩
    · obtain rfl : k = 129 := by omega
      go_wp2
      go_ret
      exact ⟨⟨_, rfl, ownsRow_from O.out (by omega)⟩, H0.out.trans (BE.out.mono (by omega))⟩
/-- What the function that asks of an hour has taken along. -/
structure Caps (w : World) (q : Nat) (b o : Nat) (f : Int) (k lo hi : Nat) : Prop where
  s : w.cell? ⟨q, 0, none⟩ = some (.pointer (some ⟨b, o, none⟩))
  f : w.cell? ⟨q + 1, 0, none⟩ = some (.int .i64 f)
  k : w.cell? ⟨q + 1 + 1, 0, none⟩ = some (.int .i64 (k : Int))
  lo : w.cell? ⟨q + 1 + 1 + 1, 0, none⟩ = some (.float .f32 lo)
  hi : w.cell? ⟨q + 1 + 1 + 1 + 1, 0, none⟩ = some (.float .f32 hi)
theorem Caps.below {w w' : World} {q b o : Nat} {f : Int} {k lo hi : Nat} (h : Caps w q b o f k lo hi) (hb : Below w.heap.size w w') : Caps w' q b o f k lo hi :=
  ⟨cell_stays hb h.s, cell_stays hb h.f, cell_stays hb h.k, cell_stays hb h.lo, cell_stays hb h.hi⟩
theorem c_tiltsAt1 (B : Bld) (hB : OkB B) (q b o k : Nat) (hs ts : List Int) (f : Int) (lo hi : Nat) (w : World) (hS : SunAt w b o hs ts) (hC : Caps w q b o f k lo hi) (hk : k < 24) (hh : -64 ≤ iat hs k ∧ iat hs k ≤ 64) (ht : 0 ≤ iat ts k ∧ iat ts k ≤ 255) (hf : 0 ≤ f ∧ f ≤ 255) :
    Calls Try.prog 119 #[.agg (bcells B), .pointer (some ⟨q, 0, none⟩), .pointer (some ⟨q + 1, 0, none⟩), .pointer (some ⟨q + 1 + 1, 0, none⟩), .pointer (some ⟨q + 1 + 1 + 1, 0, none⟩), .pointer (some ⟨q + 1 + 1 + 1 + 1, 0, none⟩)] w fun e w' => e = .returned (.bool (withinW (windowW B hs ts k f) (fallW hs ts k f) lo hi)) ∧ Below w.heap.size w w' := by
  have HB0 : Hid ((w.alloc (.cells (bcells B) 32)).heap[w.heap.size]? = some (.cells (bcells B) 32 (0, 0))) := hid (blk_at _ _ _ rfl)
  have H0 : Hid (Below w.heap.size w (w.alloc (.cells (bcells B) 32))) := hid ((Below.refl _ _).alloc (Nat.le_refl _) _)
  have hsz := hid (size_blind B)
  have S := hid (hS.below H0.out)
  have hC2 := hC.below H0.out
  have x1 := hC2.s
  have x2 := hC2.f
  have x3 := hC2.k
  have x4 := hC2.lo
  have x5 := hC2.hi
  have C1 := hid (fun w hS => c_isWithin B hB b o k hs ts f lo hi w hS hk hh ht hf)
  clear hS hC hC2 hk hh ht hf hB
  go_enter Try.func119, Try.ntmps119
  go_wp2_with (first | (refine wpList_load_row rfl 32 _ rfl (w.heap.size) rfl 32 (bcells B) (0, 0) _ HB0.out Try.underlying32 rfl hsz.out ?_) | (go_at_call 112; refine (C1.out _ S.out).mono ?_; rintro e w2 ⟨rfl, h2⟩))
  go_ret
  exact ⟨rfl, below_trans H0.out h2 H0.out.size⟩
def atG (B : Bld) (hs ts : List Int) (f : Int) (k lo hi : Nat) (t : Int) : Bool := withinW (windowW (tiltB B t) hs ts k f) (fallW hs ts k f) lo hi
theorem c_tiltsAt (B : Bld) (hB : OkB B) (b o k : Nat) (hs ts : List Int) (f : Int) (lo hi : Nat) (w : World) (hS : SunAt w b o hs ts) (hk : k < 24) (hh : -64 ≤ iat hs k ∧ iat hs k ≤ 64) (ht : 0 ≤ iat ts k ∧ iat ts k ≤ 255) (hf : 0 ≤ f ∧ f ≤ 255) :
    Calls Try.prog 84 #[.agg (bcells B), .pointer (some ⟨b, o, none⟩), .int .i64 f, .int .i64 (k : Int), .float .f32 lo, .float .f32 hi] w fun e w' => (∃ v, e = .returned v ∧ w'.ownsRow w.heap.size 2 1 v (tiltsK (atG B hs ts f k lo hi) 129).length (mInt (tiltsK (atG B hs ts f k lo hi) 129))) ∧ Below w.heap.size w w' := by
  obtain ⟨wa, hwa⟩ : ∃ wa, wa = (((((w.alloc (.cells (bcells B) 32)).alloc (.cells #[.pointer (some ⟨b, o, none⟩)] 97)).alloc (.cells #[.int .i64 f] 2)).alloc (.cells #[.int .i64 (k : Int)] 2)).alloc (.cells #[.float .f32 lo] 23)).alloc (.cells #[.float .f32 hi] 23) := ⟨_, rfl⟩
  have H0 : Hid (Below w.heap.size w wa) := hid (by rw [hwa]; exact ((((((Below.refl _ _).alloc (Nat.le_refl _) _).alloc (by simp) _).alloc (by simp; omega) _).alloc (by simp; omega) _).alloc (by simp; omega) _).alloc (by simp; omega) _)
  have EB : Hid (wa.heap[w.heap.size]? = some (.cells (bcells B) 32 (0, 0))) := hid (by rw [hwa]; exact (blk_past _ _ _ (by simp; omega)).trans ((blk_past _ _ _ (by simp; omega)).trans ((blk_past _ _ _ (by simp; omega)).trans ((blk_past _ _ _ (by simp; omega)).trans ((blk_past _ _ _ (by simp)).trans (blk_at _ _ _ rfl))))))
  have EC : Hid (Caps wa (w.heap.size + 1) b o f k lo hi) := hid (by
    rw [hwa]
    refine ⟨?_, ?_, ?_, ?_, ?_⟩
    · rw [cell_of_row _ _ 0 _ _ _ ((blk_past _ _ _ (by simp <;> omega)).trans ((blk_past _ _ _ (by simp <;> omega)).trans ((blk_past _ _ _ (by simp <;> omega)).trans ((blk_past _ _ _ (by simp)).trans (blk_at _ _ _ (by simp))))))]; rfl
    · rw [cell_of_row _ _ 0 _ _ _ ((blk_past _ _ _ (by simp <;> omega)).trans ((blk_past _ _ _ (by simp <;> omega)).trans ((blk_past _ _ _ (by simp)).trans (blk_at _ _ _ (by simp)))))]; rfl
    · rw [cell_of_row _ _ 0 _ _ _ ((blk_past _ _ _ (by simp <;> omega)).trans ((blk_past _ _ _ (by simp)).trans (blk_at _ _ _ (by simp))))]; rfl
    · rw [cell_of_row _ _ 0 _ _ _ ((blk_past _ _ _ (by simp)).trans (blk_at _ _ _ (by simp)))]; rfl
    · rw [cell_of_row _ _ 0 _ _ _ (blk_at _ _ _ (by simp))]; rfl)
  have hsz := hid (size_blind B)
  have S := hid (hS.below H0.out)
  have WA := hid hwa
  have C1 := hid (c_tiltsThat B _ _ _ _ _ (atG B hs ts f k lo hi) wa (fun t w' h1 h2 hb => c_tiltsAt1 (tiltB B t) (hB.tilt h1 h2) (w.heap.size + 1) b o k hs ts f lo hi w' (S.out.below hb) (EC.out.below hb) hk hh ht hf))
  clear hS hk hh ht hf hB hwa
  go_enter Try.func84, Try.ntmps84
  go_wp2_with (first | (rw [← WA.out]; refine wpList_load_row rfl 32 _ rfl (w.heap.size) rfl 32 (bcells B) (0, 0) _ EB.out Try.underlying32 rfl hsz.out ?_) | (go_at_call 118; refine C1.out.mono ?_; rintro e w2 ⟨⟨v, rfl, hv⟩, h2⟩))
  go_ret
  exact ⟨⟨_, rfl, ownsRow_from hv H0.out.size⟩, below_trans H0.out h2 H0.out.size⟩
theorem c_l07Tilts (B : Bld) (hB : OkB B) (c q b o k : Nat) (hs ts : List Int) (f : Int) (lo hi : Nat) (w : World) (hA : BldAt w c q B) (hS : SunAt w b o hs ts) (hk : k < 24) (hh : -64 ≤ iat hs k ∧ iat hs k ≤ 64) (ht : 0 ≤ iat ts k ∧ iat ts k ≤ 255) (hf : 0 ≤ f ∧ f ≤ 255) (hlo : isFin lo = true) (hhi : isFin hi = true) :
    Calls Try.prog 82 #[.pointer (some ⟨c, q, none⟩), .pointer (some ⟨b, o, none⟩), .int .i64 f, .int .i64 (k : Int), .float .f32 lo, .float .f32 hi] w fun e w' => (∃ v, e = .returned v ∧ w'.ownsRow w.heap.size 2 1 v (tiltsK (atG B hs ts f k lo hi) 129).length (mInt (tiltsK (atG B hs ts f k lo hi) 129))) ∧ Below w.heap.size w w' := by
  have A := hid hA
  have S := hid hS
  have LO := hid (fun (t : Int) (h1 : -64 ≤ t) (h2 : t ≤ 64) w hA hS => c_l07Within B hB c q b o k hs ts f t lo hi w hA hS hk hh ht hf ⟨h1, h2⟩ hlo hhi)
  obtain ⟨i0, hi', hz0, hz1, hz2⟩ := info_parts info_int64
  have HI := hid hi'
  have HZ0 := hid hz0
  have HZ1 := hid hz1
  have HZ2 := hid hz2
  generalize hg : atG B hs ts f k lo hi = g
  have G := hid hg
  clear hA hS hk hh ht hf hB hlo hhi hi' hz0 hz1 hz2 hg
  go_enter Try.func82, Try.ntmps82
  go_wp2_with fail
  go_loopw [13, 14] (fun v i wr => ∃ n : Nat, n ≤ 129 ∧ i = .int .i64 ((n : Int) - 64) ∧ wr.ownsRow w.heap.size 2 1 v (tiltsK g n).length (mInt (tiltsK g n)) ∧ Below w.heap.size w wr) (fun _ i _ => (65 - intOf i).toNat)
  case atStart => exact ⟨0, by omega, by go_num, by have := owns_empty w 2; simpa [tiltsK, mInt] using this, (Below.refl _ _).alloc (Nat.le_refl _) _⟩
  case round =>
    obtain ⟨n, hn, rfl, hown, hbel⟩ := hrel
    have O := hid hown
    have BE := hid hbel
    clear hown hbel
    by_cases hlt : n < 129
    · have t1 : (n : Int) - 64 ≤ 64 := by omega
      have A1 := hid (A.out.below BE.out)
      have S1 := hid (S.out.below BE.out)
      have C2 := LO.out ((n : Int) - 64) (by omega) (by omega)
      have EG : Hid (withinW (windowW (tiltB B ((n : Int) - 64)) hs ts k f) (fallW hs ts k f) lo hi = g ((n : Int) - 64)) := hid (congrFun G.out _)
      rw [EG.out] at C2
      have C3 := hid C2
      clear C2
      generalize hgk : g ((n : Int) - 64) = u at *
      have GK := hid hgk
      clear hgk
      cases u
      · go_wp2_with (go_at_call 110; refine (C3.out _ A1.out S1.out).mono ?_; rintro e w2 ⟨rfl, h2⟩)
        exact ⟨⟨n + 1, by omega, by go_num, by rw [tiltsK_no GK.out]; exact ownsRow_below O.out h2, below_trans BE.out h2 BE.out.size⟩, by simp [intOf]; omega⟩
      · go_wp2_with (first | (go_at_call 110; refine (C3.out _ A1.out S1.out).mono ?_; rintro e w2 ⟨rfl, h2⟩; have O2 := hid (ownsRow_below O.out h2); have B2 := hid (below_trans BE.out h2 BE.out.size); have TL := tiltsK_len g n; clear h2) | (at_builtin; refine wpList_append_own _ rfl _ _ 58 rfl w.heap.size 2 i0 (.int .i64 0) 1 8 Try.underlying58 HI.out HZ0.out HZ1.out HZ2.out rfl (by decide) _ _ _ rfl (O2.out.alloc _) ⟨w2.heap.size, 0, none⟩ 1 1 [.int .i64 ((n : Int) - 64)] rfl rfl (one_at _ _ _) (int_cell _) (by unfold maxLen; omega) (by omega) (by have e2 := B2.out.size; simp; omega) ?_; intro v' w3 hown' hgrow _))
        have O1 := hid hown'
        have B4 := hid (append_below2 B2.out B2.out.size O2.out hgrow)
        clear hown' hgrow TL
        go_wp2
        exact ⟨⟨n + 1, by omega, by go_num, by rw [tiltsK_yes GK.out, mInt, List.map_append, List.length_append]; exact O1.out, B4.out⟩, by simp [intOf]; omega⟩
    · obtain rfl : n = 129 := by omega
      go_wp2
      go_ret
      exact ⟨⟨_, rfl, O.out⟩, BE.out⟩
end Go.Proofs.Ythnffhmefgfnkaa
