/- Walks of eqFloor. -/
import Derived.Test.YthnffhmefgfnkaaFloor
import Derived.Test.YthnffhmefgfnkaaEq
namespace Go.Proofs.Ythnffhmefgfnkaa
set_option maxRecDepth 20000
open Go.RowKit

theorem fin_set {F : List Nat} {k x : Nat} (hF : ∀ j, isFin (fat F j) = true) (hx : isFin x = true) : ∀ j, isFin (fat (F.set k x) j) = true := by
  intro j
  have h := hF j
  unfold fat at h ⊢
  rw [List.getD_eq_getElem?_getD] at h ⊢
  rw [List.getElem?_set]
  split
  · split
    · simpa using hx
    · exact (by decide : isFin 0 = true)
  · exact h
theorem fin_zFl : ∀ j, isFin (fat zFl j) = true := by
  intro j
  unfold fat zFl
  rw [List.getD_eq_getElem?_getD, List.getElem?_replicate]
  split <;> decide
theorem fin_flK {v : Nat → Nat} (hv : ∀ k, isFin (v k) = true) : ∀ k j, isFin (fat (flK v k) j) = true
  | 0 => fin_zFl
  | k + 1 => by rw [flK]; exact fin_set (fin_flK hv k) (hv k)
theorem fin_flL {B : Bld} (wf : WfB B) (h u : Int) : ∀ j, isFin (fat (flL B h u) j) = true := by
  unfold flL
  split
  · next hz =>
    obtain ⟨h1, h2⟩ := codeOf_zero hz
    have hB := OkB.of wf h1
    have hh : 1 ≤ h ∧ h ≤ 64 := by
      have : inB h 1 64 = true := by unfold flR at h2; simp only [Bool.and_eq_true] at h2; exact h2.1
      simpa [inB] using this
    refine fin_flK (fun k => ?_) _
    unfold flV
    split
    · exact (open_in (hungB_ok hB) hh.1 hh.2).fin
    · exact (open_in hB hh.1 hh.2).fin
  · exact fin_zFl
theorem flL_len (B : Bld) (h u : Int) : (flL B h u).length = 24 := by
  unfold flL; split
  · exact flK_len _ _
  · rfl
theorem c_eqFloor (F : List Nat) (lF : F.length = 24) (hF : ∀ j, isFin (fat F j) = true) (w : World) :
    Calls Try.prog 17 #[.agg (f32s F), .agg (f32s F)] w fun e w' => e = .returned (.bool true) ∧ Below w.heap.size w w' := by
  have H0 : Hid (Below w.heap.size w ((w.alloc (.cells (f32s F) 29)).alloc (.cells (f32s F) 29))) := hid (((Below.refl _ _).alloc (Nat.le_refl _) _).alloc (by simp) _)
  have hb1 : ((w.alloc (.cells (f32s F) 29)).alloc (.cells (f32s F) 29)).heap[w.heap.size]? = some (.cells (f32s F) 29 (0, 0)) := (blk_past _ _ _ (by simp)).trans (blk_at _ _ _ rfl)
  have hb2 : ((w.alloc (.cells (f32s F) 29)).alloc (.cells (f32s F) 29)).heap[w.heap.size + 1]? = some (.cells (f32s F) 29 (0, 0)) := blk_at _ _ _ (by simp)
  have X1 : Hid (∀ k, k < 24 → ((w.alloc (.cells (f32s F) 29)).alloc (.cells (f32s F) 29)).cell? ⟨w.heap.size, k, none⟩ = some (.float .f32 (fat F k))) := hid (fun k hk => (cell_of_row _ _ k _ _ _ hb1).trans (f32s_at lF hk))
  have X2 : Hid (∀ k, k < 24 → ((w.alloc (.cells (f32s F) 29)).alloc (.cells (f32s F) 29)).cell? ⟨w.heap.size + 1, k, none⟩ = some (.float .f32 (fat F k))) := hid (fun k hk => (cell_of_row _ _ k _ _ _ hb2).trans (f32s_at lF hk))
  have FF := hid hF
  clear hb1 hb2 lF hF
  go_enter Try.func17, Try.ntmps17
  go_wp2
  go_loopw [5] (fun i wr => ∃ k : Nat, k ≤ 24 ∧ i = .int .i64 k ∧ Below ((w.alloc (.cells (f32s F) 29)).alloc (.cells (f32s F) 29)).heap.size ((w.alloc (.cells (f32s F) 29)).alloc (.cells (f32s F) 29)) wr) (fun i _ => 24 - (intOf i).toNat)
  case atStart => exact ⟨0, by omega, rfl, Below.refl _ _⟩
  case round =>
    obtain ⟨k, hk, rfl, hbel⟩ := hrel
    have Hbel := hid hbel
    clear hbel
    by_cases hlt : k < 24
    · have h1 := cell_stays Hbel.out (X1.out k hlt)
      have h2 := cell_stays Hbel.out (X2.out k hlt)
      have hf := hid (FF.out k)
      have hc := run_toD hf.out
      have hz := hid (finDZero hf.out)
      have hq := same64_self hf.out
      go_wp2
      go_quiet ((go_at_call 30; exact quiet_left (c_sameFloat _ _ hz.out hz.out _)))
      all_goals go_wp2
      all_goals (refine ⟨⟨k + 1, by omega, by go_num, below_drawn Hbel.out _⟩, by simp [intOf]; omega⟩)
    · obtain rfl : k = 24 := by omega
      go_wp2
      go_ret
      exact ⟨rfl, below_trans H0.out Hbel.out H0.out.size⟩
end Go.Proofs.Ythnffhmefgfnkaa
