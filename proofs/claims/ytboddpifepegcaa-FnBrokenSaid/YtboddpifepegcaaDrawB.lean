/- Blinds and suns that are drawn. -/
import Derived.Test.YtboddpifepegcaaDrawT
import Derived.Test.YtboddpifepegcaaCode
import Derived.Test.YtboddpifepegcaaOpen
namespace Go.Proofs.Ytboddpifepegcaa
set_option maxRecDepth 20000
open Go.RowKit

theorem Only.alloc' {b : Nat} {w w' : World} (h : Only b w w') (o : Obj) : Only b w (w'.alloc o) :=
  h.trans ⟨rfl, rfl, rfl, by simp, fun k hk _ => blk_past _ _ _ hk⟩
theorem Only.blk {b q : Nat} {w w' : World} {o : Obj} (h : Only b w w') (hb : w.heap[q]? = some o) (hq : q ≠ b) : w'.heap[q]? = some o :=
  (h.block q (block_lt hb) (by simp; exact hq)).trans hb
theorem Only.own {b q k : Nat} {w w' : World} {v : Value} (h : Only b w w') (hq : w.heap.size ≤ q) : Only b w (w'.setCell ⟨q, k, none⟩ v) :=
  ⟨h.os, h.tape, h.output, by simpa using h.size, fun j hj hn => (heap_setCell_other w' ⟨q, k, none⟩ j v (by simp; omega)).trans (h.block j hj hn)⟩
theorem Only.row {b q : Nat} {w w' : World} {cs : Array Value} (h : Only b w w') (hq : w.heap.size ≤ q) : Only b w (w'.setRow q cs) :=
  ⟨h.os, h.tape, h.output, by simpa using h.size, fun j hj hn => (setRow_other w' q j cs (by omega)).trans (h.block j hj hn)⟩
theorem Src.lt' {w : World} {b K n ca : Nat} {a : Option Addr} (h : Src w b K a n ca) : b < w.heap.size := by
  obtain ⟨p, z, h1, _⟩ := h.cells
  exact block_lt h1
/-- The source, and the world ahead of which nothing else has turned. -/
structure Dr (w0 w : World) (b K : Nat) (a : Option Addr) (n ca : Nat) : Prop where
  src0 : ∃ K0, Src w0 b K0 a n ca
  src : Src w b K a n ca
  only : Only b w0 w
theorem Dr.refl {w : World} {b K n ca : Nat} {a : Option Addr} (h : Src w b K a n ca) : Dr w w b K a n ca := ⟨⟨K, h⟩, h, Only.refl b w⟩
theorem Dr.lt {w0 w : World} {b K n ca : Nat} {a : Option Addr} (h : Dr w0 w b K a n ca) : b < w0.heap.size := by
  obtain ⟨_, h0⟩ := h.src0; exact h0.lt'
theorem Dr.call {w0 w w' : World} {b K L n ca : Nat} {a : Option Addr} (h : Dr w0 w b K a n ca) (hs : Src w' b L a n ca) (ho : Only b w w') : Dr w0 w' b L a n ca := ⟨h.src0, hs, h.only.trans ho⟩
theorem Dr.mono {w0 w : World} {b K L n ca : Nat} {a : Option Addr} (h : Dr w0 w b K a n ca) (hl : K ≤ L) : Dr w0 w b L a n ca := ⟨h.src0, h.src.mono hl, h.only⟩
theorem Dr.turn {w0 w w' : World} {b K q n ca : Nat} {a : Option Addr} (h : Dr w0 w b K a n ca) (hg : w.grownBy w' (some q)) (hq : w0.heap.size ≤ q) : Dr w0 w' b K a n ca := by
  obtain ⟨K0, h0⟩ := h.src0
  have lb := h0.lt'
  obtain ⟨p, z, h1, h2, h3⟩ := h.src.cells
  refine ⟨h.src0, ⟨⟨p, z, (hg.block b (block_lt h1) (fun e => by simp at e; omega)).trans h1, h2, h3⟩, h.src.small, fun hn => ?_, h.src.away⟩, ⟨hg.os.trans h.only.os, hg.tape.trans h.only.tape, hg.output.trans h.only.output, Nat.le_trans h.only.size hg.size, fun j hj hn => (hg.block j (Nat.lt_of_lt_of_le hj h.only.size) (fun e => by simp at e; omega)).trans (h.only.block j hj hn)⟩⟩
  obtain ⟨g, off, e, hc⟩ := h.src.bts hn
  obtain ⟨g0, off0, e0, hc0⟩ := h0.bts hn
  have eg : g = g0 := by rw [e] at e0; simp at e0; exact e0.1
  obtain ⟨c0, _, d0⟩ := hc0 0 hn
  have lg : g0 < w0.heap.size := block_lt_of_cell d0
  refine ⟨g, off, e, fun k hk => ?_⟩
  obtain ⟨c, c1, c2⟩ := hc k hk
  exact ⟨c, c1, hg.cell c2 (fun e2 => by simp at e2; omega)⟩
theorem grown_setc (w : World) (b o : Nat) (v : Value) : w.grownBy (w.setCell ⟨b, o, none⟩ v) (some b) :=
  ⟨rfl, rfl, rfl, by simp, fun j _ hn => heap_setCell_other w ⟨b, o, none⟩ j v (by simp at hn ⊢; exact hn)⟩
theorem grown_setr (w : World) (b : Nat) (cs : Array Value) : w.grownBy (w.setRow b cs) (some b) :=
  ⟨rfl, rfl, rfl, by simp, fun j _ hn => setRow_other w b j cs (fun e => by simp at hn; omega)⟩
theorem Dr.set {w0 w : World} {b K q k n ca : Nat} {a : Option Addr} {v : Value} (h : Dr w0 w b K a n ca) (hq : w0.heap.size ≤ q) : Dr w0 (w.setCell ⟨q, k, none⟩ v) b K a n ca := h.turn (grown_setc w q k v) hq
theorem Dr.setr {w0 w : World} {b K q n ca : Nat} {a : Option Addr} {cs : Array Value} (h : Dr w0 w b K a n ca) (hq : w0.heap.size ≤ q) : Dr w0 (w.setRow q cs) b K a n ca := h.turn (grown_setr w q cs) hq
theorem Dr.alloc {w0 w : World} {b K n ca : Nat} {a : Option Addr} (h : Dr w0 w b K a n ca) (o : Obj) : Dr w0 (w.alloc o) b K a n ca := by
  have hs := h.only.size
  exact h.turn (q := w.heap.size) ⟨rfl, rfl, rfl, by simp, fun j hj _ => blk_past _ _ _ hj⟩ hs
def zB : Bld := ⟨0, 0, 0, 0, 0⟩
theorem size_blind' (B : Bld) : (Try.prog.info? 30).map (·.size) = some (bcells B).size := by kernel_rfl
set_option maxHeartbeats 2000000 in
theorem c_l02Drawn (w : World) (b K : Nat) (a : Option Addr) (n ca : Nat) (hK : K ≤ 600000) (h : Src w b K a n ca) :
    Calls Try.prog 41 #[.pointer (some ⟨b, 0, none⟩)] w fun e w' => (∃ B, WfB B ∧ okB B = true ∧ e = .returned (.agg (bcells B))) ∧ Src w' b (K + 22) a n ca ∧ Only b w w' := by
  have LB := hid h.lt'
  have D0 := hid ((Dr.refl h).alloc (.cells (bcells zB) 30))
  have R0 : Hid ((w.alloc (.cells (bcells zB) 30)).heap[w.heap.size]? = some (.cells (bcells zB) 30 (0, 0))) := hid (blk_at _ _ _ rfl)
  have C1 := hid (c_pick _ b K a n ca 60 (by omega) (by omega) (by omega) D0.out.src)
  have CS := hid (fun w2 L hL h2 => c_l02Sized w2 b L a n ca hL h2)
  have CP := hid (fun w2 L hL h2 => c_pick w2 b L a n ca 129 (by omega) (by omega) hL h2)
  have CT := hid (fun w2 L hL h2 => c_tone w2 b L a n ca hL h2)
  clear h
  go_enter Try.func41, Try.ntmps41
  go_wp2_with fail
  refine C1.out.mono ?_
  rintro e w1 ⟨⟨x, hx, rfl⟩, s1, o1⟩
  have D1 := hid (D0.out.call s1 o1)
  have R1 := hid (o1.blk R0.out (by have := LB.out; omega))
  have hx1 : IntKind.i8.wrap (1 + (x : Int)) = 1 + x := by exact IntWalk.i8_in _ (by omega)
  clear s1 o1 C1 D0 R0
  go_wp2_with fail
  refine (CS.out _ _ (by omega) D1.out.src).mono ?_
  rintro e w2 ⟨⟨f1, hf1, hl1, rfl⟩, s2, o2⟩
  have D2 := hid (D1.out.call s2 o2)
  have R2 := hid (o2.blk R1.out (by have := LB.out; omega))
  have F1 := hid hf1
  have L1 := hid hl1
  clear s2 o2 hf1 hl1 D1 R1
  have D3 := hid (D2.out.alloc (.cells (bcells ⟨1 + x, f1, 0, 0, 0⟩) 30))
  have Q3 : Hid ((w2.alloc (.cells (bcells ⟨1 + x, f1, 0, 0, 0⟩) 30)).heap[w2.heap.size]? = some (.cells (bcells ⟨1 + x, f1, 0, 0, 0⟩) 30 (0, 0))) := hid (blk_at _ _ _ rfl)
  have R3 := hid ((blk_past w2 (.cells (bcells ⟨1 + x, f1, 0, 0, 0⟩) 30) _ (block_lt R2.out)).trans R2.out)
  have LQ := hid (show w.heap.size ≤ w2.heap.size from D2.out.only.size)
  have LR := hid (show w.heap.size < w2.heap.size from block_lt R2.out)
  go_wp2_with fail
  refine (CS.out _ _ (by omega) D3.out.src).mono ?_
  rintro e w4 ⟨⟨f2, hf2, hl2, rfl⟩, s4, o4⟩
  have D4 := hid (D3.out.call s4 o4)
  have Q4 := hid (o4.blk Q3.out (by have := LB.out; have := LQ.out; omega))
  have R4 := hid (o4.blk R3.out (by have := LB.out; omega))
  have F2 := hid hf2
  have L2 := hid hl2
  clear s4 o4 hf2 hl2 D3 R3 Q3 D2 R2
  have c2 := cell_of_row w4 w2.heap.size 2 _ _ _ Q4.out
  have z2 := frozen_of_row w4 w2.heap.size 2 _ _ Q4.out
  have D5 := hid (D4.out.set (q := w2.heap.size) (k := 2) (v := .float .f32 f2) LQ.out)
  have Q5 : Hid ((w4.setCell ⟨w2.heap.size, 2, none⟩ (.float .f32 f2)).heap[w2.heap.size]? = some (.cells (bcells ⟨1 + x, f1, f2, 0, 0⟩) 30 (0, 0))) := hid (heap_setCell_same w4 _ 2 _ _ _ Q4.out)
  have R5 := hid ((heap_setCell_other w4 ⟨w2.heap.size, 2, none⟩ w.heap.size (.float .f32 f2) (by have := LR.out; simp; omega)).trans R4.out)
  go_wp2_with fail
  refine (CP.out _ _ (by omega) D5.out.src).mono ?_
  rintro e w6 ⟨⟨y, hy, rfl⟩, s6, o6⟩
  have D6 := hid (D5.out.call s6 o6)
  have Q6 := hid (o6.blk Q5.out (by have := LB.out; have := LQ.out; omega))
  have R6 := hid (o6.blk R5.out (by have := LB.out; omega))
  clear s6 o6 D5 Q5 R5 D4 Q4 R4 c2 z2
  have c3 := cell_of_row w6 w2.heap.size 3 _ _ _ Q6.out
  have z3 := frozen_of_row w6 w2.heap.size 3 _ _ Q6.out
  have hy1 : IntKind.i16.wrap ((y : Int) - 64) = (y : Int) - 64 := by exact IntWalk.i16_in _ (by omega)
  have D7 := hid (D6.out.set (q := w2.heap.size) (k := 3) (v := .int .i16 ((y : Int) - 64)) LQ.out)
  have Q7 : Hid ((w6.setCell ⟨w2.heap.size, 3, none⟩ (.int .i16 ((y : Int) - 64))).heap[w2.heap.size]? = some (.cells (bcells ⟨1 + x, f1, f2, (y : Int) - 64, 0⟩) 30 (0, 0))) := hid (heap_setCell_same w6 _ 3 _ _ _ Q6.out)
  have R7 := hid ((heap_setCell_other w6 ⟨w2.heap.size, 3, none⟩ w.heap.size (.int .i16 ((y : Int) - 64)) (by have := LR.out; simp; omega)).trans R6.out)
  go_wp2_with fail
  refine (CT.out _ _ (by omega) D7.out.src).mono ?_
  rintro e w8 ⟨⟨f3, hf3, rfl⟩, s8, o8⟩
  have D8 := hid (D7.out.call s8 o8)
  have Q8 := hid (o8.blk Q7.out (by have := LB.out; have := LQ.out; omega))
  have R8 := hid (o8.blk R7.out (by have := LB.out; omega))
  have F3 := hid hf3
  clear s8 o8 D7 Q7 R7 D6 Q6 R6 c3 z3 hf3
  have c4 := cell_of_row w8 w2.heap.size 4 _ _ _ Q8.out
  have z4 := frozen_of_row w8 w2.heap.size 4 _ _ Q8.out
  have Q9 : Hid ((w8.setCell ⟨w2.heap.size, 4, none⟩ (.float .f32 f3)).heap[w2.heap.size]? = some (.cells (bcells ⟨1 + x, f1, f2, (y : Int) - 64, f3⟩) 30 (0, 0))) := hid (heap_setCell_same w8 _ 4 _ _ _ Q8.out)
  have R9 := hid ((heap_setCell_other w8 ⟨w2.heap.size, 4, none⟩ w.heap.size (.float .f32 f3) (by have := LR.out; simp; omega)).trans R8.out)
  have D9 := hid ((D8.out.set (q := w2.heap.size) (k := 4) (v := .float .f32 f3) LQ.out).setr (q := w.heap.size) (cs := bcells ⟨1 + x, f1, f2, (y : Int) - 64, f3⟩) (Nat.le_refl _))
  have HX := hid hx
  have HY := hid hy
  clear hx hy
  go_wp2_with (first | (refine wpList_load_row rfl 30 _ rfl w2.heap.size rfl 30 (bcells ⟨1 + x, f1, f2, (y : Int) - 64, f3⟩) (0, 0) _ Q9.out Try.underlying30 rfl (size_blind' _) ?_) | (refine wpList_store_row rfl 30 _ _ rfl w.heap.size (bcells ⟨1 + x, f1, f2, (y : Int) - 64, f3⟩) rfl rfl 30 (bcells zB) R9.out (size_blind' _) rfl (bcells_one _) ?_))
  refine bodyPost_ret (v := .agg (bcells ⟨1 + x, f1, f2, (y : Int) - 64, f3⟩)) (results_cell_row rfl _ _ w.heap.size 30 (bcells ⟨1 + x, f1, f2, (y : Int) - 64, f3⟩) (0, 0) _ rfl ?_ Try.underlying30 rfl (size_blind' _)) rfl ⟨⟨_, ?_, ?_, rfl⟩, D9.out.src.mono (by omega), D9.out.only⟩
  · exact blk_row_same _ _ (bcells zB) _ _ _ R9.out
  · have hx := HX.out
    have hy := HY.out
    exact ⟨by show -128 ≤ 1 + (x : Int) ∧ 1 + (x : Int) ≤ 127; omega, F1.out, F2.out, by show -32768 ≤ (y : Int) - 64 ∧ (y : Int) - 64 ≤ 32767; omega, F3.out.word⟩
  · have hx := HX.out
    have hy := HY.out
    unfold okB
    simp only [L1.out, L2.out, in_part F3.out, Bool.and_true, Bool.true_and, inB, Bool.and_eq_true, decide_eq_true_eq]
    omega
end Go.Proofs.Ytboddpifepegcaa
