/- Walk of the program's closure that fills a run of a plan. -/
import Derived.Test.YthnffhmefgfnkaaFew
import Derived.Test.YthnffhmefgfnkaaBright
namespace Go.Proofs.Ythnffhmefgfnkaa
set_option maxRecDepth 20000
open Go.RowKit

/-- Of what was there only the blocks F and G may have turned. -/
structure Fr2 (F G : Nat) (w w' : World) : Prop where
  os : w'.os = w.os
  tape : w'.tape = w.tape
  output : w'.output = w.output
  size : w.heap.size ≤ w'.heap.size
  block : ∀ b, b < w.heap.size → b ≠ F → b ≠ G → w'.heap[b]? = w.heap[b]?
theorem Fr2.refl (F G : Nat) (w : World) : Fr2 F G w w := ⟨rfl, rfl, rfl, Nat.le_refl _, fun _ _ _ _ => rfl⟩
theorem Fr2.trans {F G : Nat} {a b c : World} (h : Fr2 F G a b) (k : Fr2 F G b c) : Fr2 F G a c :=
  ⟨k.os.trans h.os, k.tape.trans h.tape, k.output.trans h.output, Nat.le_trans h.size k.size, fun i hi h1 h2 => (k.block i (Nat.lt_of_lt_of_le hi h.size) h1 h2).trans (h.block i hi h1 h2)⟩
theorem Fr2.below {F G B : Nat} {a b c : World} (h : Below B a b) (k : Fr2 F G b c) (hF : B ≤ F) (hG : B ≤ G) (hB : B ≤ b.heap.size) : Below B a c :=
  h.trans ⟨k.os, k.tape, k.output, k.size, fun i hi => k.block i (by omega) (by omega) (by omega)⟩
theorem Fr2.setF {F G : Nat} {w : World} (_ : F < w.heap.size) (k : Nat) (v : Value) : Fr2 F G w (w.setCell ⟨F, k, none⟩ v) :=
  ⟨rfl, rfl, rfl, by simp, fun i _ h1 _ => heap_setCell_other w ⟨F, k, none⟩ i v h1⟩
theorem Fr2.setG {F G : Nat} {w : World} (_ : G < w.heap.size) (k : Nat) (v : Value) : Fr2 F G w (w.setCell ⟨G, k, none⟩ v) :=
  ⟨rfl, rfl, rfl, by simp, fun i _ _ h2 => heap_setCell_other w ⟨G, k, none⟩ i v h2⟩
theorem Fr2.got {F G lo : Nat} {w w' : World} {v : Value} {L : List Int} (h : Fr2 F G w w') (hg : GotI w lo v L) (hF : F < lo) (hG : G < lo) : GotI w' lo v L := by
  unfold GotI at *
  exact ⟨hg.1, hg.2.imp id fun ⟨g, cap, cur, h1, h2, h3, h4⟩ => ⟨g, cap, cur, h1, h2, (h.block g (block_lt h3) (by omega) (by omega)).trans h3, h4⟩⟩
theorem Fr2.drew {F G : Nat} {a b : World} (h : Fr2 F G a b) (n : Nat) : Fr2 F G a (b.drewN n) := ⟨h.os, h.tape, h.output, h.size, h.block⟩
theorem one_cell_at {w : World} {b : Nat} {v : Value} {T : TypeId} (h : w.heap[b]? = some (.cells #[v] T (0, 0))) : w.cell? ⟨b, 0, none⟩ = some v := by
  rw [cell_of_row w b 0 _ _ _ h]; rfl
theorem one_set {w : World} {b : Nat} {v u : Value} {T : TypeId} (h : w.heap[b]? = some (.cells #[v] T (0, 0))) : (w.setCell ⟨b, 0, none⟩ u).heap[b]? = some (.cells #[u] T (0, 0)) := by
  have := heap_setCell_same w b 0 _ T u h
  simpa using this
def fromOf (w : World) (F : Nat) : Nat := (intOf ((w.cell? ⟨F, 0, none⟩).getD undef)).toNat
theorem c_fill (F C G lo a to : Nat) (v : Value) (L P : List Int) (w : World) (hF : w.heap[F]? = some (.cells #[.int .i64 (a : Int)] 2 (0, 0))) (hC : w.heap[C]? = some (.cells #[v] 58 (0, 0))) (hG : w.heap[G]? = some (.cells (i16s P) 47 (0, 0)))
    (hv : GotI w lo v L) (hFl : F < lo) (hGl : G < lo) (hFG : F ≠ G) (hCF : C ≠ F) (hCG : C ≠ G) (hp : P.length = 24) (hne : 0 < L.length) (hl : L.length ≤ 129) (hat : a ≤ to) (h24 : to ≤ 24) (hd1 : -64 ≤ hd L ∧ hd L ≤ 64) :
    Calls Try.prog 97 #[.int .i64 (to : Int), .pointer (some ⟨F, 0, none⟩), .pointer (some ⟨C, 0, none⟩), .pointer (some ⟨G, 0, none⟩)] w fun e w' => e = .returned (.tuple #[]) ∧ w'.heap[F]? = some (.cells #[.int .i64 (to : Int)] 2 (0, 0)) ∧ w'.heap[G]? = some (.cells (i16s (fillP P a (hd L) (to - a))) 47 (0, 0)) ∧ Fr2 F G w w' := by
  have HF := hid hF
  have HC := hid hC
  have HG := hid hG
  have HV := hid hv
  clear hF hC hG hv
  go_enter Try.func97, Try.ntmps97
  go_wp2_with fail
  go_loopw [] (fun wr => ∃ k : Nat, a + k ≤ to ∧ wr.heap[F]? = some (.cells #[.int .i64 ((a + k : Nat) : Int)] 2 (0, 0)) ∧ wr.heap[G]? = some (.cells (i16s (fillP P a (hd L) k)) 47 (0, 0)) ∧ Fr2 F G w wr) (fun wr => to - fromOf wr F)
  case atStart => exact ⟨0, by omega, HF.out, HG.out, Fr2.refl _ _ _⟩
  case round =>
    obtain ⟨k, hk, hf, hg, hfr⟩ := hrel
    obtain ⟨x, hx⟩ : ∃ x, x = a + k := ⟨_, rfl⟩
    rw [← hx] at hf hk
    have X := hid hx
    have BF := hid hf
    have BG := hid hg
    have FR := hid hfr
    have LN : Hid ((fillP P a (hd L) k).length = 24) := hid (by rw [fillP_len]; exact hp)
    have cF := one_cell_at hf
    have fF := frozen_of_row _ _ 0 _ _ hf
    have FO : Hid (fromOf wr F = x) := hid (by unfold fromOf; rw [cF]; rfl)
    clear hf hg hfr hx
    by_cases hlt : x < to
    · have hC1 := hid ((FR.out.block C (block_lt HC.out) hCF hCG).trans HC.out)
      have HV1 := hid (FR.out.got HV.out hFl hGl)
      obtain ⟨ad, cap, e, _, hat2⟩ := (HV1.out.ints (by omega)).any
      obtain ⟨bb, oo, e2, hcell⟩ := hat2 hne
      have cL := hcell 0 hne
      rw [← hd_iat, Nat.add_zero] at cL
      have cC := one_cell_at hC1.out
      rw [e, e2] at cC
      have cG := (cell_of_row _ _ x _ _ _ BG.out).trans (i16s_at LN.out (by omega))
      have fG := frozen_of_row _ _ x _ _ BG.out
      have hx24 : (x : Int) < 24 := by omega
      have SG := hid (set_oneI (v := hd L) BG.out (show x < (fillP P a (hd L) k).length by rw [LN.out]; omega))
      have SF := hid ((heap_setCell_other wr ⟨G, x, none⟩ F (.int .i16 (hd L)) hFG).trans BF.out)
      have SS := hid (one_set (u := .int .i64 ((x : Int) + 1)) SF.out)
      have SH := hid ((heap_setCell_other (wr.setCell ⟨G, x, none⟩ (.int .i16 (hd L))) ⟨F, 0, none⟩ G (.int .i64 ((x : Int) + 1)) (Ne.symm hFG)).trans SG.out)
      have FN := hid ((FR.out.trans (Fr2.setG (F := F) (block_lt BG.out) x (.int .i16 (hd L)))).trans (Fr2.setF (G := G) (block_lt SF.out) 0 (.int .i64 ((x : Int) + 1))))
      have cF2 := one_cell_at SF.out
      have fF2 := frozen_of_row _ _ 0 _ _ SF.out
      have FO2 : Hid (fromOf ((wr.setCell ⟨G, x, none⟩ (.int .i16 (hd L))).setCell ⟨F, 0, none⟩ (.int .i64 ((x : Int) + 1))) F = x + 1) := hid (by unfold fromOf; rw [one_cell_at SS.out]; simp [intOf])
      have FP : Hid (fillP P a (hd L) (k + 1) = (fillP P a (hd L) k).set x (hd L)) := hid (by rw [fillP, ← X.out])
      clear hcell hat2 e e2
      obtain ⟨h1, h2⟩ := hd1
      generalize hd L = z at *
      go_wp2_with fail
      go_region
      go_wp2_with fail
      refine ⟨⟨k + 1, by have := X.out; omega, ?_, by rw [FP.out]; exact SH.out, ⟨FN.out.os, FN.out.tape, FN.out.output, FN.out.size, FN.out.block⟩⟩, ?_⟩
      · rw [show ((a + (k + 1) : Nat) : Int) = (x : Int) + 1 by have := X.out; omega]; exact SS.out
      · rw [FO.out]
        exact Nat.lt_of_le_of_lt (Nat.le_of_eq (congrArg (to - ·) FO2.out)) (by omega)
    · obtain rfl : x = to := by omega
      go_wp2_with fail
      go_end0
      exact ⟨rfl, BF.out, by rw [show x - a = k by have := X.out; omega]; exact BG.out, FR.out⟩
end Go.Proofs.Ythnffhmefgfnkaa
