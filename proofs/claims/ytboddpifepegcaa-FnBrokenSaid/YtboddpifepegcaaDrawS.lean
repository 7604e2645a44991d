/- Suns that are drawn. -/
import Derived.Test.YtboddpifepegcaaDrawB
namespace Go.Proofs.Ytboddpifepegcaa
set_option maxRecDepth 20000
open Go.RowKit

theorem iat_set (l : List Int) (k j : Nat) (x : Int) (hk : k < l.length) : iat (l.set k x) j = if j = k then x else iat l j := by
  unfold iat
  rw [List.getD_eq_getElem?_getD, List.getD_eq_getElem?_getD, List.getElem?_set]
  by_cases h : k = j
  · subst h; simp [hk]
  · rw [if_neg h, if_neg (fun e => h e.symm)]
theorem set_hs1 {w : World} {b k : Nat} {hs ts : List Int} {T : TypeId} {v : Int} (lh : hs.length = 24) (hb : w.heap[b]? = some (.cells (scells hs ts) T (0, 0))) (hk : k < 24) : (w.setCell ⟨b, k, none⟩ (.int .i16 v)).heap[b]? = some (.cells (scells (hs.set k v) ts) T (0, 0)) := by
  rw [heap_setCell_same w b k _ _ _ hb]
  congr 2
  apply Array.toList_inj.1
  simp only [scells, i16s, Array.toList_setIfInBounds, List.map_append, List.map_set]
  rw [List.set_append, if_pos (by simp; omega)]
theorem set_ts1 {w : World} {b k : Nat} {hs ts : List Int} {T : TypeId} {v : Int} (lh : hs.length = 24) (hb : w.heap[b]? = some (.cells (scells hs ts) T (0, 0))) : (w.setCell ⟨b, 24 + k, none⟩ (.int .i16 v)).heap[b]? = some (.cells (scells hs (ts.set k v)) T (0, 0)) := by
  rw [heap_setCell_same w b (24 + k) _ _ _ hb]
  congr 2
  apply Array.toList_inj.1
  simp only [scells, i16s, Array.toList_setIfInBounds, List.map_append, List.map_set]
  rw [List.set_append, if_neg (by simp; omega)]
  simp [lh]
theorem okS_set_h {hs ts : List Int} (lh : hs.length = 24) (h : okS hs ts = true) {k : Nat} (hk : k < 24) {v : Int} (hv : -64 ≤ v ∧ v ≤ 64) : okS (hs.set k v) ts = true :=
  okS_yes (fun j hj => by
    obtain ⟨a, b, c, d⟩ := okS_at h hj
    rw [iat_set _ _ _ _ (by omega)]
    split <;> simp [inB] <;> omega)
theorem okS_set_t {hs ts : List Int} (lt : ts.length = 24) (h : okS hs ts = true) {k : Nat} (hk : k < 24) {v : Int} (hv : 0 ≤ v ∧ v ≤ 255) : okS hs (ts.set k v) = true :=
  okS_yes (fun j hj => by
    obtain ⟨a, b, c, d⟩ := okS_at h hj
    rw [iat_set _ _ _ _ (by omega)]
    split <;> simp [inB] <;> omega)
theorem okS_I16 {hs ts : List Int} (h : okS hs ts = true) : I16 hs ∧ I16 ts :=
  ⟨fun k hk => by obtain ⟨a, b, c, d⟩ := okS_at h hk; omega, fun k hk => by obtain ⟨a, b, c, d⟩ := okS_at h hk; omega⟩
theorem okS_zero : okS z24 z24 = true := by decide
theorem z24_len : z24.length = 24 := rfl
def zS : Array Value := #[.int .i16 0, .int .i16 0, .int .i16 0, .int .i16 0, .int .i16 0, .int .i16 0, .int .i16 0, .int .i16 0, .int .i16 0, .int .i16 0, .int .i16 0, .int .i16 0, .int .i16 0, .int .i16 0, .int .i16 0, .int .i16 0, .int .i16 0, .int .i16 0, .int .i16 0, .int .i16 0, .int .i16 0, .int .i16 0, .int .i16 0, .int .i16 0, .int .i16 0, .int .i16 0, .int .i16 0, .int .i16 0, .int .i16 0, .int .i16 0, .int .i16 0, .int .i16 0, .int .i16 0, .int .i16 0, .int .i16 0, .int .i16 0, .int .i16 0, .int .i16 0, .int .i16 0, .int .i16 0, .int .i16 0, .int .i16 0, .int .i16 0, .int .i16 0, .int .i16 0, .int .i16 0, .int .i16 0, .int .i16 0]
theorem zS_is : zS = scells z24 z24 := by kernel_rfl
theorem zS_size : (Try.prog.info? 59).map (·.size) = some zS.size := by kernel_rfl
theorem zS_one : zS.all (·.oneCell') = true := by rw [zS_is]; exact scells_one _ _
theorem c_l00Min (a b : Int) (w : World) :
    Calls Try.prog 105 #[.int .i64 a, .int .i64 b] w fun e w' => e = .returned (.int .i64 (min a b)) ∧ w = w' := by
  by_cases h : a < b
  · go_enter Try.func105, Try.ntmps105
    go_wp2
    go_ret
    exact ⟨ret_int (by omega), rfl⟩
  · go_enter Try.func105, Try.ntmps105
    go_wp2
    go_ret
    exact ⟨ret_int (by omega), rfl⟩
set_option maxHeartbeats 4000000 in
theorem c_l01Drawn (w : World) (b K : Nat) (a : Option Addr) (n ca : Nat) (hK : K ≤ 600000) (h : Src w b K a n ca) :
    Calls Try.prog 78 #[.pointer (some ⟨b, 0, none⟩)] w fun e w' => (∃ hs ts, hs.length = 24 ∧ ts.length = 24 ∧ okS hs ts = true ∧ e = .returned (.agg (scells hs ts))) ∧ Src w' b (K + 150) a n ca ∧ Only b w w' := by
  have LB := hid h.lt'
  have Y0 : Hid (((w.alloc (.cells zS 59)).alloc (.cells zS 59)).heap[w.heap.size + 1]? = some (.cells zS 59 (0, 0))) := hid (blk_at _ _ _ (by simp))
  have D0 := hid ((((Dr.refl h).alloc (.cells zS 59)).alloc (.cells zS 59)).setr (q := w.heap.size + 1) (cs := zS) (by omega))
  have R0 := hid ((setRow_other ((w.alloc (.cells zS 59)).alloc (.cells zS 59)) (w.heap.size + 1) w.heap.size zS (by omega)).trans ((blk_past _ _ _ (by simp)).trans (blk_at w (.cells zS 59) _ rfl)))
  have Q0 := hid (blk_row_same _ _ zS zS _ _ Y0.out)
  have C1 := hid (c_pick _ b K a n ca 56 (by omega) (by omega) (by omega) D0.out.src)
  have C2 := hid (fun w2 h2 => c_pick w2 b (K + 2) a n ca 256 (by omega) (by omega) (by omega) h2)
  have C3 := hid (fun w2 h2 => c_pick w2 b (K + 4) a n ca 10 (by omega) (by omega) (by omega) h2)
  have C6 := hid (fun w2 L hL h2 => c_one w2 b L a n ca 6 (by omega) (by omega) hL h2)
  have C129 := hid (fun w2 L hL h2 => c_pick w2 b L a n ca 129 (by omega) (by omega) hL h2)
  have C4 := hid (fun w2 L hL h2 => c_pick w2 b L a n ca 4 (by omega) (by omega) hL h2)
  clear h
  go_enter Try.func78, Try.ntmps78
  go_wp2_with (refine wpList_store_row rfl 59 _ _ rfl (w.heap.size + 1) zS rfl rfl 59 zS Y0.out zS_size rfl zS_one ?_)
  refine C1.out.mono ?_
  rintro e w1 ⟨⟨x, hx, rfl⟩, s1, o1⟩
  have D1 := hid (D0.out.call s1 o1)
  have R1 := hid (o1.blk R0.out (by have := LB.out; omega))
  have Q1 := hid (o1.blk Q0.out (by have := LB.out; omega))
  clear s1 o1 C1 D0 R0 Q0 Y0
  rw [zS_is] at R1 Q1
  go_wp2_with fail
  refine (C2.out _ D1.out.src).mono ?_
  rintro e w2 ⟨⟨y, hy, rfl⟩, s2, o2⟩
  have D2 := hid (D1.out.call s2 o2)
  have R2 := hid (o2.blk R1.out (by have := LB.out; omega))
  have Q2 := hid (o2.blk Q1.out (by have := LB.out; omega))
  clear s2 o2 C2 D1 R1 Q1
  go_wp2_with fail
  refine (C3.out _ D2.out.src).mono ?_
  rintro e w3 ⟨⟨z, hz, rfl⟩, s3, o3⟩
  have D3 := hid (D2.out.call s3 o3)
  have R3 := hid (o3.blk R2.out (by have := LB.out; omega))
  have Q3 := hid (o3.blk Q2.out (by have := LB.out; omega))
  clear s3 o3 C3 D2 R2 Q2
  have sz : ∀ hs ts : List Int, hs.length = 24 → ts.length = 24 → (Try.prog.info? 59).map (·.size) = some (scells hs ts).size := fun hs ts lh lt => by rw [scells_size lh lt]; kernel_rfl
  have SZ := hid sz
  clear sz
  go_wp2_with fail
  go_loopw [7] (fun i wr => ∃ (k : Nat) (hs ts : List Int), k ≤ 24 ∧ i = .int .i64 (k : Int) ∧ hs.length = 24 ∧ ts.length = 24 ∧ okS hs ts = true ∧ wr.heap[w.heap.size]? = some (.cells (scells z24 z24) 59 (0, 0)) ∧ wr.heap[w.heap.size + 1]? = some (.cells (scells hs ts) 59 (0, 0)) ∧ Dr w wr b (K + 6 + 6 * k) a n ca) (fun i _ => 24 - (intOf i).toNat)
  case atStart => exact ⟨0, z24, z24, by omega, rfl, rfl, rfl, okS_zero, R3.out, Q3.out, D3.out⟩
  case round =>
    obtain ⟨k, hs, ts, hk, rfl, lh, lt, ok, hR, hQ, hD⟩ := hrel
    have LH := hid lh
    have LT := hid lt
    have OK := hid ok
    have R := hid hR
    have Q := hid hQ
    have D := hid hD
    clear lh lt ok hR hQ hD D3 R3 Q3
    by_cases hlt : k < 24
    · have hlt' : (k : Int) < 24 := by omega
      go_wp2_with (first | (go_at_call 106; refine (c_l00Max _ _ _).mono ?_; rintro e w' ⟨rfl, rfl⟩))
      refine (C6.out _ _ (by omega) D.out.src).mono ?_
      rintro e w4 ⟨⟨kk, rfl⟩, s4, o4⟩
      have D4 := hid (D.out.call s4 o4)
      have Q4 := hid (o4.blk Q.out (by have := LB.out; omega))
      have R4 := hid (o4.blk R.out (by have := LB.out; omega))
      clear s4 o4 D Q R
      cases kk
      · obtain ⟨E, hE⟩ : ∃ E : Int, E = 8 + (x : Int) - 8 * max ((k : Int) - 12) (12 - (k : Int)) := ⟨_, rfl⟩
        have hEb : -1000 ≤ E ∧ E ≤ 1000 := by omega
        rw [← hE]
        have SA := SunAt.of_block LH.out LT.out Q4.out
        have cc := SA.h k hlt
        have zz := frozen_of_row _ (w.heap.size + 1) k _ _ Q4.out
        obtain ⟨v, hv⟩ : ∃ v : Int, v = max (-64) (min 64 (E + z - 5)) := ⟨_, rfl⟩
        have hvb : -64 ≤ v ∧ v ≤ 64 := by omega
        have hvw : IntKind.i16.wrap (max (-64) (min 64 (E + z - 5))) = v := by rw [← hv]; exact IntWalk.i16_in _ (by omega)
        have HVB := hid hvb
        have D5 := hid (D4.out.set (q := w.heap.size + 1) (k := k) (v := .int .i16 v) (by omega))
        have Q5 := hid (set_hs1 (v := v) LH.out Q4.out hlt)
        have R5 := hid ((heap_setCell_other _ ⟨w.heap.size + 1, k, none⟩ w.heap.size (.int .i16 v) (by simp)).trans R4.out)
        have OK5 := hid (okS_set_h LH.out OK.out hlt hvb)
        have LH5 := hid (show (hs.set k v).length = 24 by rw [List.length_set]; exact LH.out)
        rw [Nat.zero_add] at cc
        clear hE SA hv hvb
        go_wp2_with (first | (go_at_call 106; refine (c_l00Max _ _ _).mono ?_; rintro e w' ⟨rfl, rfl⟩) | (go_at_call 105; refine (c_l00Min _ _ _).mono ?_; rintro e w' ⟨rfl, rfl⟩))
        refine (C4.out _ _ (by omega) D5.out.src).mono ?_
        rintro e w6 ⟨⟨p, hp, rfl⟩, s6, o6⟩
        have D6 := hid ((D5.out.call s6 o6).mono (L := K + 6 + 6 * (k + 1)) (by omega))
        have Q6 := hid (o6.blk Q5.out (by have := LB.out; omega))
        have R6 := hid (o6.blk R5.out (by have := LB.out; omega))
        clear s6 o6 D5 Q5 R5 hvw cc zz
        have SA := SunAt.of_block LH5.out LT.out Q6.out
        have cc := SA.t k hlt
        have zz := frozen_of_row _ (w.heap.size + 1) (24 + k) _ _ Q6.out
        obtain ⟨q, hq⟩ : ∃ q : Nat, q = (y + 10 * k + p) % 256 := ⟨_, rfl⟩
        have hqt : ((y : Int) + 10 * (k : Int) + (p : Int)).tmod 256 = (q : Int) := by rw [Int.tmod_eq_emod_of_nonneg (by omega), hq]; omega
        have hqb : q < 256 := by omega
        have hqw : IntKind.i16.wrap (q : Int) = q := IntWalk.i16_in _ (by omega)
        have D7 := hid (D6.out.set (q := w.heap.size + 1) (k := 24 + k) (v := .int .i16 (q : Int)) (by omega))
        have Q7 := hid (set_ts1 (k := k) (v := (q : Int)) LH5.out Q6.out)
        have R7 := hid ((heap_setCell_other _ ⟨w.heap.size + 1, 24 + k, none⟩ w.heap.size (.int .i16 (q : Int)) (by simp)).trans R6.out)
        have OK7 := hid (okS_set_t LT.out OK5.out hlt (v := (q : Int)) (by omega))
        have LT7 := hid (show (ts.set k (q : Int)).length = 24 by rw [List.length_set]; exact LT.out)
        rw [Nat.zero_add] at cc
        clear SA hq D6 Q6 R6
        go_wp2
        exact ⟨⟨k + 1, _, _, by omega, rfl, LH5.out, LT7.out, OK7.out, R7.out, Q7.out, D7.out⟩, by simp [intOf]; omega⟩
      · go_wp2_with fail
        refine (C129.out _ _ (by omega) D4.out.src).mono ?_
        rintro e w9 ⟨⟨h0, hh0, rfl⟩, s9, o9⟩
        have D9 := hid (D4.out.call s9 o9)
        have Q9 := hid (o9.blk Q4.out (by have := LB.out; omega))
        have R9 := hid (o9.blk R4.out (by have := LB.out; omega))
        clear s9 o9 D4 Q4 R4
        have hEb : -1000 ≤ (h0 : Int) - 64 ∧ (h0 : Int) - 64 ≤ 1000 := by omega
        have SA := SunAt.of_block LH.out LT.out Q9.out
        have cc := SA.h k hlt
        have zz := frozen_of_row _ (w.heap.size + 1) k _ _ Q9.out
        obtain ⟨v, hv⟩ : ∃ v : Int, v = max (-64) (min 64 ((h0 : Int) - 64 + z - 5)) := ⟨_, rfl⟩
        have hvb : -64 ≤ v ∧ v ≤ 64 := by omega
        have hvw : IntKind.i16.wrap (max (-64) (min 64 ((h0 : Int) - 64 + z - 5))) = v := by rw [← hv]; exact IntWalk.i16_in _ (by omega)
        have HVB := hid hvb
        have D5 := hid (D9.out.set (q := w.heap.size + 1) (k := k) (v := .int .i16 v) (by omega))
        have Q5 := hid (set_hs1 (v := v) LH.out Q9.out hlt)
        have R5 := hid ((heap_setCell_other _ ⟨w.heap.size + 1, k, none⟩ w.heap.size (.int .i16 v) (by simp)).trans R9.out)
        have OK5 := hid (okS_set_h LH.out OK.out hlt hvb)
        have LH5 := hid (show (hs.set k v).length = 24 by rw [List.length_set]; exact LH.out)
        rw [Nat.zero_add] at cc
        clear SA hv hvb
        go_wp2_with (first | (go_at_call 106; refine (c_l00Max _ _ _).mono ?_; rintro e w' ⟨rfl, rfl⟩) | (go_at_call 105; refine (c_l00Min _ _ _).mono ?_; rintro e w' ⟨rfl, rfl⟩))
        refine (C4.out _ _ (by omega) D5.out.src).mono ?_
        rintro e w6 ⟨⟨p, hp, rfl⟩, s6, o6⟩
        have D6 := hid ((D5.out.call s6 o6).mono (L := K + 6 + 6 * (k + 1)) (by omega))
        have Q6 := hid (o6.blk Q5.out (by have := LB.out; omega))
        have R6 := hid (o6.blk R5.out (by have := LB.out; omega))
        clear s6 o6 D5 Q5 R5 hvw cc zz
        have SA := SunAt.of_block LH5.out LT.out Q6.out
        have cc := SA.t k hlt
        have zz := frozen_of_row _ (w.heap.size + 1) (24 + k) _ _ Q6.out
        obtain ⟨q, hq⟩ : ∃ q : Nat, q = (y + 10 * k + p) % 256 := ⟨_, rfl⟩
        have hqt : ((y : Int) + 10 * (k : Int) + (p : Int)).tmod 256 = (q : Int) := by rw [Int.tmod_eq_emod_of_nonneg (by omega), hq]; omega
        have hqb : q < 256 := by omega
        have hqw : IntKind.i16.wrap (q : Int) = q := IntWalk.i16_in _ (by omega)
        have D7 := hid (D6.out.set (q := w.heap.size + 1) (k := 24 + k) (v := .int .i16 (q : Int)) (by omega))
        have Q7 := hid (set_ts1 (k := k) (v := (q : Int)) LH5.out Q6.out)
        have R7 := hid ((heap_setCell_other _ ⟨w.heap.size + 1, 24 + k, none⟩ w.heap.size (.int .i16 (q : Int)) (by simp)).trans R6.out)
        have OK7 := hid (okS_set_t LT.out OK5.out hlt (v := (q : Int)) (by omega))
        have LT7 := hid (show (ts.set k (q : Int)).length = 24 by rw [List.length_set]; exact LT.out)
        rw [Nat.zero_add] at cc
        clear SA hq D6 Q6 R6
        go_wp2
        exact ⟨⟨k + 1, _, _, by omega, rfl, LH5.out, LT7.out, OK7.out, R7.out, Q7.out, D7.out⟩, by simp [intOf]; omega⟩
    · obtain rfl : k = 24 := by omega
      have D9 := hid (D.out.setr (q := w.heap.size) (cs := scells hs ts) (Nat.le_refl _))
      go_wp2_with (first | (refine wpList_load_row rfl 59 _ rfl (w.heap.size + 1) rfl 59 (scells hs ts) (0, 0) _ Q.out Try.underlying59 rfl (SZ.out _ _ LH.out LT.out) ?_) | (refine wpList_store_row rfl 59 _ _ rfl w.heap.size (scells hs ts) rfl rfl 59 (scells z24 z24) R.out (SZ.out _ _ LH.out LT.out) (by rw [scells_size rfl rfl, scells_size LH.out LT.out]) (scells_one _ _) ?_))
      refine bodyPost_ret (v := .agg (scells hs ts)) (results_cell_row rfl _ _ w.heap.size 59 (scells hs ts) (0, 0) _ rfl ?_ Try.underlying59 rfl (SZ.out _ _ LH.out LT.out)) rfl ⟨⟨hs, ts, LH.out, LT.out, OK.out, rfl⟩, D9.out.src.mono (by omega), D9.out.only⟩
      exact blk_row_same _ _ (scells z24 z24) _ _ _ R.out
end Go.Proofs.Ytboddpifepegcaa
