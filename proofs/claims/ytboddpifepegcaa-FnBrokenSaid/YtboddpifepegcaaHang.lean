/- Walks of how a blind hangs: heights, stripes, a slat that hangs. -/
import Derived.Test.YtboddpifepegcaaOpen
namespace Go.Proofs.Ytboddpifepegcaa
set_option maxRecDepth 20000
open Go.RowKit

def hungB (B : Bld) : Bld := tiltB B (max (-64) (B.ti - 32))
def hungW (B : Bld) (h : Int) : Nat := openW (hungB B) h
def nS (B : Bld) : Nat := (max 0 (min B.sl 24)).toNat
theorem nS_le (B : Bld) : nS B ≤ 24 := by unfold nS; omega
theorem hung_in {B : Bld} (hB : OkB B) : -64 ≤ max (-64) (B.ti - 32) ∧ max (-64) (B.ti - 32) ≤ 64 := by have := hB.ti; omega
theorem hungB_ok {B : Bld} (hB : OkB B) : OkB (hungB B) := ⟨⟨hB.wf.sl, hB.wf.wi, hB.wf.ga, by have := hung_in hB; show -32768 ≤ max (-64) (B.ti - 32) ∧ max (-64) (B.ti - 32) ≤ 32767; omega, hB.wf.sh⟩, hB.sl, hB.wi, hB.ga, hB.gl, hung_in hB, hB.sh⟩
theorem c_stripes (B : Bld) (wf : WfB B) (w : World) :
    Calls Try.prog 71 #[.agg (bcells B)] w fun e w' => e = .returned (.int .i64 (nS B : Int)) ∧ Below w.heap.size w w' := by
  have ws := wf.sl
  have hw : IntKind.i64.wrap B.sl = B.sl := by simp [IntKind.wrap, IntKind.bits, IntKind.signed]; omega
  have hn : (nS B : Int) = max 0 (min B.sl 24) := by unfold nS; omega
  clear wf
  simp only [bcells]
  go_enter Try.func71, Try.ntmps71
  go_wp2
  all_goals (go_ret; exact ⟨ret_int (by omega), (Below.refl _ _).alloc (Nat.le_refl _) _⟩)
theorem c_l07Looked (B : Bld) (b o : Nat) (w : World) (hA : BldAt w b o B) (wf : WfB B) :
    Calls Try.prog 70 #[.pointer (some ⟨b, o, none⟩)] w fun e w' => e = .returned (.int .i64 (min 24 B.sl)) ∧ w = w' := by
  have ws := wf.sl
  have h1 := hA.sl
  have hw : IntKind.i64.wrap B.sl = B.sl := by simp [IntKind.wrap, IntKind.bits, IntKind.signed]; omega
  clear hA wf
  go_enter Try.func70, Try.ntmps70
  go_wp2
  all_goals (go_ret; exact ⟨ret_int (by omega), rfl⟩)
theorem c_hung (B : Bld) (hB : OkB B) (w : World) :
    Calls Try.prog 73 #[.agg (bcells B)] w fun e w' => e = .returned (.agg (bcells (hungB B))) ∧ Below w.heap.size w w' := by
  have h1 := hB.ti
  have C := hid (fun w => c_tilted B _ (hung_in hB) w)
  have hw : IntKind.i64.wrap B.ti = B.ti := by simp [IntKind.wrap, IntKind.bits, IntKind.signed]; omega
  have hw2 : IntKind.i64.wrap (B.ti - 32) = B.ti - 32 := by simp [IntKind.wrap, IntKind.bits, IntKind.signed]; omega
  have hsz0 := size_blind (hungB B)
  have one0 : (bcells (hungB B)).all (·.oneCell') = true := by simp [bcells, Value.oneCell']
  have five0 : (5 : Nat) = (bcells (hungB B)).size := rfl
  rw [show tiltB B (max (-64) (B.ti - 32)) = hungB B from rfl] at C
  have M : ∀ m : Int, m = max (-64) (B.ti - 32) → ∀ w, Calls Try.prog 51 #[.agg (bcells B), .int .i64 m] w fun e w' => e = .returned (.agg (bcells (hungB B))) ∧ Below w.heap.size w w' := by rintro m rfl w; exact C.out w
  clear C
  generalize bcells (hungB B) = V at *
  have C := hid M
  have hsz := hid hsz0
  have one := hid one0
  have five := hid five0
  clear M hsz0 one0 five0
  simp only [bcells] at C ⊢
  go_enter Try.func73, Try.ntmps73
  go_wp2_with fail
  all_goals
    refine (C.out _ (by omega) _).mono ?_
    rintro e w1 ⟨rfl, h1⟩
    have HR := hid ((h1.block (w.heap.size + 1) (by simp)).trans (blk_at _ _ _ (by simp)))
    have H1 := hid (below_trans (((Below.refl _ _).alloc (Nat.le_refl _) _).alloc (by simp) _) h1 (by simp; omega))
    clear h1
    go_wp2_with (refine wpList_store_row rfl 30 _ _ rfl (w.heap.size + 1) V rfl rfl 30 _ HR.out hsz.out five.out one.out ?_)
    refine bodyPost_ret (v := .agg V) (results_cell_row rfl _ _ (w.heap.size + 1) 30 V (0, 0) _ rfl (blk_row_same _ _ _ _ _ _ HR.out) Try.underlying30 rfl hsz.out) rfl ⟨rfl, below_setRow H1.out (by omega) _⟩
theorem c_l07Hanging (B : Bld) (hB : OkB B) (h : Int) (h1 : 1 ≤ h) (h2 : h ≤ 64) (w : World) :
    Calls Try.prog 75 #[.agg (bcells B), .int .i64 h] w fun e w' => e = .returned (.float .f32 (hungW B h)) ∧ Below w.heap.size w w' := by
  have t1 := hB.ti
  have C := hid (fun b w hA => c_l02Open (hungB B) (hungB_ok hB) h h1 h2 b 0 w hA)
  have hw : IntKind.i64.wrap B.ti = B.ti := by simp [IntKind.wrap, IntKind.bits, IntKind.signed]; omega
  have hw2 : IntKind.i64.wrap (B.ti - 32) = B.ti - 32 := by simp [IntKind.wrap, IntKind.bits, IntKind.signed]; omega
  have hw3 : IntKind.i16.wrap (max (-64) (B.ti - 32)) = max (-64) (B.ti - 32) := by simp [IntKind.wrap, IntKind.bits, IntKind.signed]; omega
  rw [show openW (hungB B) h = hungW B h from rfl] at C
  generalize hungW B h = v at *
  simp only [bcells]
  go_enter Try.func75, Try.ntmps75
  go_wp2_with (first | (go_at_call 106; refine (c_l00Max _ _ _).mono ?_; rintro e w1 ⟨rfl, rfl⟩) | (go_at_call 74; refine (C.out _ _ (BldAt.of_block (B := hungB B) (heap_alloc_new w _))).mono ?_; rintro e w1 ⟨rfl, h1⟩))
  go_ret
  exact ⟨rfl, below_trans ((Below.refl _ _).alloc (Nat.le_refl _) _) h1 (by simp)⟩
end Go.Proofs.Ytboddpifepegcaa
