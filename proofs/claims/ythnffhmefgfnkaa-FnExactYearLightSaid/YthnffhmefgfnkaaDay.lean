/- Walks of days: plans, and whether what passes keeps within bounds. -/
import Derived.Test.YthnffhmefgfnkaaOpen
import Derived.Test.YthnffhmefgfnkaaPlan
namespace Go.Proofs.Ythnffhmefgfnkaa
set_option maxRecDepth 20000
open Go.RowKit

def withinW (x fl lo hi : Nat) : Bool := fLe x hi && (fGe x lo || !fGe fl lo)
/-- The first number from k on, among m, for which g does not hold. -/
def firstNo (g : Nat → Bool) : Nat → Nat → Nat
  | 0, k => k
  | m + 1, k => if g k then firstNo g m (k + 1) else k
theorem firstNo_le (g : Nat → Bool) : ∀ m k, firstNo g m k ≤ k + m
  | 0, k => Nat.le_refl _
  | m + 1, k => by unfold firstNo; split; · have := firstNo_le g m (k + 1); omega
                   · omega
theorem firstNo_yes {g : Nat → Bool} {m k n : Nat} (hk : n = m + 1) (h : g k = true) : firstNo g n k = firstNo g m (k + 1) := by subst hk; rw [firstNo, if_pos h]
theorem firstNo_no {g : Nat → Bool} {m k n : Nat} (hk : n = m + 1) (h : g k = false) : firstNo g n k = k := by subst hk; rw [firstNo, if_neg (by simp [h])]
def outsideN (B : Bld) (hs ts : List Int) (f : Int) (p : List Int) (lo hi : Nat) : Nat := firstNo (fun k => withinW (windowW (tiltB B (iat p k)) hs ts k f) (fallW hs ts k f) lo hi) 24 0
/-- A plan in memory. -/
def PlnAt (w : World) (b : Nat) (p : List Int) : Prop := ∀ k, k < 24 → w.cell? ⟨b, k, none⟩ = some (.int .i16 (iat p k))
theorem PlnAt.below {w w' : World} {b : Nat} {p : List Int} (h : PlnAt w b p) (hb : Below w.heap.size w w') : PlnAt w' b p := fun k hk => cell_stays hb (h k hk)
theorem PlnAt.of_block {w : World} {b : Nat} {p : List Int} {T : TypeId} (l : p.length = 24) (hb : w.heap[b]? = some (.cells (i16s p) T (0, 0))) : PlnAt w b p := fun k hk => by
  rw [cell_of_row w b k _ _ _ hb]; exact i16s_at l hk
theorem c_planCode (B : Bld) (wf : WfB B) (hs ts p : List Int) (lh : hs.length = 24) (lt : ts.length = 24) (lp : p.length = 24) (bh : I16 hs) (bt : I16 ts) (bp : I16 p) (r : Bool) (w : World) :
    Calls Try.prog 71 #[.agg (bcells B), .agg (scells hs ts), .agg (i16s p), .bool r] w fun e w' => e = .returned (.int .i64 (codeOf (okB B && okS hs ts && tilts p) r)) ∧ Below w.heap.size w w' := by
  have HB0 : Hid ((((w.alloc (.cells (bcells B) 32)).alloc (.cells (scells hs ts) 45)).alloc (.cells (i16s p) 47)).heap[w.heap.size]? = some (.cells (bcells B) 32 (0, 0))) := hid ((blk_past _ _ _ (by simp; omega)).trans ((blk_past _ _ _ (by simp)).trans (blk_at _ _ _ rfl)))
  have HZ0 : Hid ((Try.prog.info? 32).map (·.size) = some (bcells B).size) := hid (size_blind B)
  have HB1 : Hid ((((w.alloc (.cells (bcells B) 32)).alloc (.cells (scells hs ts) 45)).alloc (.cells (i16s p) 47)).heap[w.heap.size + 1]? = some (.cells (scells hs ts) 45 (0, 0))) := hid ((blk_past _ _ _ (by simp)).trans (blk_at _ _ _ (by simp)))
  have HZ1 : Hid ((Try.prog.info? 45).map (·.size) = some (scells hs ts).size) := hid (by rw [scells_size lh lt]; kernel_rfl)
  have HB2 : Hid ((((w.alloc (.cells (bcells B) 32)).alloc (.cells (scells hs ts) 45)).alloc (.cells (i16s p) 47)).heap[w.heap.size + 1 + 1]? = some (.cells (i16s p) 47 (0, 0))) := hid (blk_at _ _ _ (by simp))
  have HZ2 : Hid ((Try.prog.info? 47).map (·.size) = some (i16s p).size) := hid (by rw [i16s_size, lp]; kernel_rfl)
  have H0 : Hid (Below w.heap.size w (((w.alloc (.cells (bcells B) 32)).alloc (.cells (scells hs ts) 45)).alloc (.cells (i16s p) 47))) := hid ((((Below.refl _ _).alloc (Nat.le_refl _) _).alloc (by simp) _).alloc (by simp; omega) _)
  have C1 := hid (fun w => c_implValidPlan p lp w bp)
  have C2 := hid (fun w => c_windowCode B wf hs ts lh lt bh bt r w)
  clear wf lh lt lp bh bt bp
  cases e1 : tilts p
  · go_enter Try.func71, Try.ntmps71
    go_wp2_with (first | (refine wpList_load_row rfl 47 _ rfl (w.heap.size + 1 + 1) rfl 47 (i16s p) (0, 0) _ HB2.out Try.underlying47 rfl HZ2.out ?_) | (go_at_call 111; refine (C1.out _).mono ?_; rintro e w1 ⟨rfl, h1⟩))
    go_ret
    exact ⟨by simp [codeOf], below_trans H0.out h1 H0.out.size⟩
  · go_enter Try.func71, Try.ntmps71
    go_wp2_with (first | (refine wpList_load_row rfl 47 _ rfl (w.heap.size + 1 + 1) rfl 47 (i16s p) (0, 0) _ HB2.out Try.underlying47 rfl HZ2.out ?_) | (go_at_call 111; refine (C1.out _).mono ?_; rintro e w1 ⟨rfl, h1⟩; have HB3 := hid ((h1.block _ (block_lt HB0.out)).trans HB0.out); have HB4 := hid ((h1.block _ (block_lt HB1.out)).trans HB1.out); have H1 := hid (below_trans H0.out h1 H0.out.size); clear h1) | (refine wpList_load_row rfl 32 _ rfl (w.heap.size) rfl 32 (bcells B) (0, 0) _ HB3.out Try.underlying32 rfl HZ0.out ?_) | (refine wpList_load_row rfl 45 _ rfl (w.heap.size + 1) rfl 45 (scells hs ts) (0, 0) _ HB4.out Try.underlying45 rfl HZ1.out ?_) | (go_at_call 76; refine (C2.out _).mono ?_; rintro e w2 ⟨rfl, h2⟩))
    go_ret
    exact ⟨ret_int (by rw [Bool.and_true, Bool.and_comm (okB B)]), below_trans H1.out h2 H1.out.size⟩
theorem c_l07Asked (B : Bld) (wf : WfB B) (hs ts p : List Int) (bh : I16 hs) (bt : I16 ts) (lp : p.length = 24) (bp : I16 p) (r : Bool) (c q b o d : Nat) (w : World) (hA : BldAt w c q B) (hS : SunAt w b o hs ts) (hP : PlnAt w d p) :
    Calls Try.prog 66 #[.pointer (some ⟨c, q, none⟩), .pointer (some ⟨b, o, none⟩), .pointer (some ⟨d, 0, none⟩), .bool r] w fun e w' => e = .returned (.int .i64 (codeOf (okB B && okS hs ts && tilts p) r)) ∧ w = w' := by
  have C1 := hid (c_l02Ok B wf c q w hA)
  have C2 := hid (c_l01Ok hs ts b o w hS bh bt)
  have C3 := hid (c_l07Plan p lp d w hP bp)
  clear wf bh bt lp bp hA hS hP
  cases e1 : okB B
  · go_enter Try.func66, Try.ntmps66
    go_wp2_with (go_at_call 53; refine C1.out.mono ?_; rintro e w1 ⟨rfl, rfl⟩)
    go_ret
    exact ⟨by simp [codeOf], rfl⟩
  · cases e2 : okS hs ts
    · go_enter Try.func66, Try.ntmps66
      go_wp2_with (first | (go_at_call 53; refine C1.out.mono ?_; rintro e w1 ⟨rfl, rfl⟩) | (go_at_call 108; refine C2.out.mono ?_; rintro e w1 ⟨rfl, rfl⟩))
      go_ret
      exact ⟨by simp [codeOf], rfl⟩
    · cases e3 : tilts p <;> cases r
      all_goals
        go_enter Try.func66, Try.ntmps66
        go_wp2_with (first | (go_at_call 53; refine C1.out.mono ?_; rintro e w1 ⟨rfl, rfl⟩) | (go_at_call 108; refine C2.out.mono ?_; rintro e w1 ⟨rfl, rfl⟩) | (go_at_call 109; refine C3.out.mono ?_; rintro e w1 ⟨rfl, rfl⟩))
        go_ret
        exact ⟨by simp [codeOf], rfl⟩
theorem three {a b c : Bool} : (a = false) ∨ (a = true ∧ b = true) ∨ (a = true ∧ b = false ∧ c = false) ∨ (a = true ∧ b = false ∧ c = true) := by
  cases a <;> cases b <;> cases c <;> simp
theorem c_isWithin (B : Bld) (hB : OkB B) (b o k : Nat) (hs ts : List Int) (f : Int) (lo hi : Nat) (w : World) (hS : SunAt w b o hs ts) (hk : k < 24) (hh : -64 ≤ iat hs k ∧ iat hs k ≤ 64) (ht : 0 ≤ iat ts k ∧ iat ts k ≤ 255) (hf : 0 ≤ f ∧ f ≤ 255) :
    Calls Try.prog 112 #[.agg (bcells B), .pointer (some ⟨b, o, none⟩), .int .i64 f, .int .i64 (k : Int), .float .f32 lo, .float .f32 hi] w fun e w' => e = .returned (.bool (withinW (windowW B hs ts k f) (fallW hs ts k f) lo hi)) ∧ Below w.heap.size w w' := by
  have HB0 : Hid ((w.alloc (.cells (bcells B) 32)).heap[w.heap.size]? = some (.cells (bcells B) 32 (0, 0))) := hid (blk_at _ _ _ rfl)
  have HZ0 : Hid ((Try.prog.info? 32).map (·.size) = some (bcells B).size) := hid (size_blind B)
  have H0 : Hid (Below w.heap.size w (w.alloc (.cells (bcells B) 32))) := hid ((Below.refl _ _).alloc (Nat.le_refl _) _)
  have S := hid (hS.below H0.out)
  have C1 := hid (fun w hS => c_passWindow B hB b o k hs ts f w hS hk hh ht hf)
  have C2 := hid (fun w hS => c_fall b o k hs ts f w hS hk hh ht hf)
  clear hB hS hk hh ht hf
  unfold withinW
  generalize windowW B hs ts k f = x at *
  generalize fallW hs ts k f = fl at *
  rcases three (a := fLe x hi) (b := fGe x lo) (c := fGe fl lo) with e1 | ⟨e1, e2⟩ | ⟨e1, e2, e3⟩ | ⟨e1, e2, e3⟩
  · have a1 : (FloatKind.f32.format.order x hi == some .lt || FloatKind.f32.format.order x hi == some .eq) = false := e1
    go_enter Try.func112, Try.ntmps112
    go_wp2_with (first | (refine wpList_load_row rfl 32 _ rfl (w.heap.size) rfl 32 (bcells B) (0, 0) _ HB0.out Try.underlying32 rfl HZ0.out ?_) | (go_at_call 78; refine (C1.out _ S.out).mono ?_; rintro e w1 ⟨rfl, h1⟩))
    go_ret
    exact ⟨ret_bool (by simp [e1]), below_trans H0.out h1 H0.out.size⟩
  · have a1 : (FloatKind.f32.format.order x hi == some .lt || FloatKind.f32.format.order x hi == some .eq) = true := e1
    have a2 : (FloatKind.f32.format.order x lo == some .gt || FloatKind.f32.format.order x lo == some .eq) = true := e2
    go_enter Try.func112, Try.ntmps112
    go_wp2_with (first | (refine wpList_load_row rfl 32 _ rfl (w.heap.size) rfl 32 (bcells B) (0, 0) _ HB0.out Try.underlying32 rfl HZ0.out ?_) | (go_at_call 78; refine (C1.out _ S.out).mono ?_; rintro e w1 ⟨rfl, h1⟩))
    go_ret
    exact ⟨ret_bool (by simp [e1, e2]), below_trans H0.out h1 H0.out.size⟩
  all_goals
    have a1 : (FloatKind.f32.format.order x hi == some .lt || FloatKind.f32.format.order x hi == some .eq) = true := e1
    have a2 : (FloatKind.f32.format.order x lo == some .gt || FloatKind.f32.format.order x lo == some .eq) = false := e2
    have a3 : (FloatKind.f32.format.order fl lo == some .gt || FloatKind.f32.format.order fl lo == some .eq) = _ := e3
    go_enter Try.func112, Try.ntmps112
    go_wp2_with (first | (refine wpList_load_row rfl 32 _ rfl (w.heap.size) rfl 32 (bcells B) (0, 0) _ HB0.out Try.underlying32 rfl HZ0.out ?_) | (go_at_call 78; refine (C1.out _ S.out).mono ?_; rintro e w1 ⟨rfl, h1⟩; have H1 := hid (below_trans H0.out h1 H0.out.size); have S1 := hid (S.out.below h1); clear h1) | (go_at_call 116; refine (C2.out _ S1.out).mono ?_; rintro e w2 ⟨rfl, h2⟩))
    go_ret
    exact ⟨ret_bool (by simp [e1, e2, e3]), below_trans H1.out h2 H1.out.size⟩
theorem c_l07At (B : Bld) (hB : OkB B) (c q b o k : Nat) (hs ts : List Int) (f t : Int) (w : World) (hA : BldAt w c q B) (hS : SunAt w b o hs ts) (hk : k < 24) (hh : -64 ≤ iat hs k ∧ iat hs k ≤ 64) (ht : 0 ≤ iat ts k ∧ iat ts k ≤ 255) (hf : 0 ≤ f ∧ f ≤ 255) (ht2 : -64 ≤ t ∧ t ≤ 64) :
    Calls Try.prog 75 #[.pointer (some ⟨c, q, none⟩), .pointer (some ⟨b, o, none⟩), .int .i64 f, .int .i64 (k : Int), .int .i64 t] w fun e w' => e = .returned (.float .f32 (windowW (tiltB B t) hs ts k f)) ∧ Below w.heap.size w w' := by
  have q1 := hA.sl
  have q2 := hA.wi
  have q3 := hA.ga
  have q4 := hA.ti
  have q5 := hA.sh
  have S := hid hS
  have C := hid (fun d w hA hS => c_l02Window (tiltB B t) (hB.tilt ht2.1 ht2.2) d 0 b o k hs ts f w hA hS hk hh ht hf)
  clear hA hS hB hk hh ht hf
  go_enter Try.func75, Try.ntmps75
  go_wp2_with fail
  refine (C.out _ _ (BldAt.of_block (B := tiltB B t) (heap_alloc_new w _)) (S.out.below ((Below.refl _ _).alloc (Nat.le_refl _) _))).mono ?_
  rintro e w1 ⟨rfl, h1⟩
  go_wp2
  go_ret
  exact ⟨rfl, below_trans ((Below.refl _ _).alloc (Nat.le_refl _) _) h1 (by simp)⟩
theorem c_l07Within (B : Bld) (hB : OkB B) (c q b o k : Nat) (hs ts : List Int) (f t : Int) (lo hi : Nat) (w : World) (hA : BldAt w c q B) (hS : SunAt w b o hs ts) (hk : k < 24) (hh : -64 ≤ iat hs k ∧ iat hs k ≤ 64) (ht : 0 ≤ iat ts k ∧ iat ts k ≤ 255) (hf : 0 ≤ f ∧ f ≤ 255) (ht2 : -64 ≤ t ∧ t ≤ 64) (hlo : isFin lo = true) (hhi : isFin hi = true) :
    Calls Try.prog 110 #[.pointer (some ⟨c, q, none⟩), .pointer (some ⟨b, o, none⟩), .int .i64 f, .int .i64 (k : Int), .int .i64 t, .float .f32 lo, .float .f32 hi] w fun e w' => e = .returned (.bool (withinW (windowW (tiltB B t) hs ts k f) (fallW hs ts k f) lo hi)) ∧ Below w.heap.size w w' := by
  have fx' := (window_in (hB.tilt ht2.1 ht2.2) hs ts f hh.2 (k := k)).fin
  have ff := (fall_in hs ts k f).fin
  have C1 := hid (c_l07At B hB c q b o k hs ts f t w hA hS hk hh ht hf ht2)
  have C2 := hid (fun w hS => c_l01Fall b o k hs ts f w hS hk hh ht hf)
  have S := hid hS
  clear hB hS hA hk hh ht hf
  unfold withinW
  generalize windowW (tiltB B t) hs ts k f = x at *
  generalize fallW hs ts k f = fl at *
  have g1 := hid (fLe_gt fx' hhi)
  have g2 := hid (fGe_lt ff hlo)
  clear fx' ff hlo hhi
  rcases three (a := fLe x hi) (b := fGe x lo) (c := fGe fl lo) with e1 | ⟨e1, e2⟩ | ⟨e1, e2, e3⟩ | ⟨e1, e2, e3⟩
  · have a1 : (FloatKind.f32.format.order x hi == some .gt) = true := by have := g1.out; rw [e1] at this; simpa [fGt] using this.symm
    go_enter Try.func110, Try.ntmps110
    go_wp2_with (go_at_call 75; refine C1.out.mono ?_; rintro e w1 ⟨rfl, h1⟩)
    go_ret
    exact ⟨ret_bool (by simp [e1]), h1⟩
  · have a1 : (FloatKind.f32.format.order x hi == some .gt) = false := by have := g1.out; rw [e1] at this; simpa [fGt] using this.symm
    have a2 : (FloatKind.f32.format.order x lo == some .gt || FloatKind.f32.format.order x lo == some .eq) = true := e2
    go_enter Try.func110, Try.ntmps110
    go_wp2_with (go_at_call 75; refine C1.out.mono ?_; rintro e w1 ⟨rfl, h1⟩)
    go_ret
    exact ⟨ret_bool (by simp [e1, e2]), h1⟩
  all_goals
    have a1 : (FloatKind.f32.format.order x hi == some .gt) = false := by have := g1.out; rw [e1] at this; simpa [fGt] using this.symm
    have a2 : (FloatKind.f32.format.order x lo == some .gt || FloatKind.f32.format.order x lo == some .eq) = false := e2
    have a3 : (FloatKind.f32.format.order fl lo == some .lt) = !fGe fl lo := by rw [g2.out, Bool.not_not]; rfl
    rw [e3] at a3
    simp only [Bool.not_true, Bool.not_false] at a3
    go_enter Try.func110, Try.ntmps110
    go_wp2_with (first | (go_at_call 75; refine C1.out.mono ?_; rintro e w1 ⟨rfl, h1⟩; have H1 := hid h1; have S1 := hid (S.out.below h1); clear h1) | (go_at_call 132; refine (C2.out _ S1.out).mono ?_; rintro e w2 ⟨rfl, h2⟩))
    go_ret
    exact ⟨ret_bool (by simp [e1, e2, e3]), below_trans H1.out h2 H1.out.size⟩
theorem c_outside (B : Bld) (hB : OkB B) (d b o : Nat) (hs ts p : List Int) (f : Int) (lo hi : Nat) (w : World) (hP : PlnAt w d p) (hS : SunAt w b o hs ts) (hs2 : okS hs ts = true) (hp : ∀ k, k < 24 → -64 ≤ iat p k ∧ iat p k ≤ 64) (hf : 0 ≤ f ∧ f ≤ 255) :
    Calls Try.prog 74 #[.pointer (some ⟨d, 0, none⟩), .agg (bcells B), .pointer (some ⟨b, o, none⟩), .int .i64 f, .float .f32 lo, .float .f32 hi] w fun e w' => e = .returned (.int .i64 (outsideN B hs ts f p lo hi : Nat)) ∧ Below w.heap.size w w' := by
  have HB0 : Hid ((w.alloc (.cells (bcells B) 32)).heap[w.heap.size]? = some (.cells (bcells B) 32 (0, 0))) := hid (blk_at _ _ _ rfl)
  have HZ0 : Hid ((Try.prog.info? 32).map (·.size) = some (bcells B).size) := hid (size_blind B)
  have H0 : Hid (Below w.heap.size w (w.alloc (.cells (bcells B) 32))) := hid ((Below.refl _ _).alloc (Nat.le_refl _) _)
  have S := hid (hS.below H0.out)
  have P := hid (hP.below H0.out)
  have HW := hid hs2
  have HPP := hid hp
  have LO : Hid (∀ k, k < 24 → ∀ w, SunAt w b o hs ts → Calls Try.prog 112 #[.agg (bcells (tiltB B (iat p k))), .pointer (some ⟨b, o, none⟩), .int .i64 f, .int .i64 (k : Int), .float .f32 lo, .float .f32 hi] w fun e w' => e = .returned (.bool (withinW (windowW (tiltB B (iat p k)) hs ts k f) (fallW hs ts k f) lo hi)) ∧ Below w.heap.size w w') := hid (fun k hk w hS => by
    have s := okS_at hs2 hk
    exact c_isWithin (tiltB B (iat p k)) (hB.tilt (hp k hk).1 (hp k hk).2) b o k hs ts f lo hi w hS hk ⟨s.1, s.2.1⟩ s.2.2 hf)
  clear hP hS hs2 hp hf hB
  unfold outsideN
  generalize hg : (fun k => withinW (windowW (tiltB B (iat p k)) hs ts k f) (fallW hs ts k f) lo hi) = g
  have G := hid hg
  clear hg
  go_enter Try.func74, Try.ntmps74
  go_wp2_with fail
  go_loopw [14] (fun i wr => ∃ k : Nat, k ≤ 24 ∧ i = .int .i64 k ∧ firstNo g 24 0 = firstNo g (24 - k) k ∧ Bel (w.alloc (.cells (bcells B) 32)) wr) (fun i _ => 24 - (intOf i).toNat)
  case atStart => exact ⟨0, by omega, rfl, rfl, Below.refl _ _⟩
  case round =>
    obtain ⟨k, hk, rfl, hfn, hbel⟩ := hrel
    have FN := hid hfn
    have BE := hid hbel
    clear hfn hbel
    by_cases hlt : k < 24
    · have hki : (k : Int) < 24 := by omega
      have pk := HPP.out k hlt
      have hwr : IntKind.i64.wrap (iat p k) = iat p k := by rw [IntWalk.i64_in] <;> omega
      have S1 := hid (S.out.below BE.out.out)
      have P1 := hid (P.out.below BE.out.out)
      have HB1 := hid ((BE.out.out.block _ (block_lt HB0.out)).trans HB0.out)
      have C1 := hid (fun w => c_tilted B (iat p k) pk w)
      have C2 := LO.out k hlt
      have EG : Hid (withinW (windowW (tiltB B (iat p k)) hs ts k f) (fallW hs ts k f) lo hi = g k) := hid (congrFun G.out k)
      rw [EG.out] at C2
      have C3 := hid C2
      clear C2
      generalize hgk : g k = u at *
      have GK := hid hgk
      clear hgk
      go_wp2_with fail
      refine wp_region_below (by kernel_rfl) (by kernel_rfl) ?_
      repeat (first | (refine wpQuiet_load_row rfl 32 _ rfl (w.heap.size) rfl 32 (bcells B) (0, 0) _ (fun wx hwx => (hwx.out.block _ (block_lt HB1.out)).trans HB1.out) Try.underlying32 rfl HZ0.out ?_) | (refine wpQuiet_load_cell rfl 24 _ rfl ⟨d, k, none⟩ rfl (.int .i16 (iat p k)) _ (fun wx hwx => P1.out.below hwx.out k hlt) Try.underlying24 rfl ?_) | (refine wpQuiet_step (fun K hK => ?_); go_simp; first | (refine hK _ ?_; clear hK K) | (refine ⟨_, fun _ _ => rfl, hK _ ?_⟩; clear hK K) | (apply Exists.intro; refine ⟨fun wx hwx => ?_, hK _ ?_⟩; (first | (with_reducible exact quiet_below hwx (C1.out _)) | (with_reducible exact quiet_below hwx (C3.out _ (S1.out.below hwx.out)))); clear hK K)))
      refine wpQuiet_nil ?_
      intro w2 h2
      replace h2 := h2.out
      have BE2 : Hid (Bel (w.alloc (.cells (bcells B) 32)) w2) := hid (below_trans BE.out.out h2 BE.out.out.size)
      clear h2
      cases u
      · go_wp2
        go_ret
        exact ⟨ret_int (by rw [FN.out, firstNo_no (m := 23 - k) (by omega) GK.out]), below_trans H0.out BE2.out.out H0.out.size⟩
      · go_wp2
        exact ⟨⟨k + 1, by omega, by go_num, by rw [FN.out, firstNo_yes (m := 23 - k) (by omega) GK.out]; congr 1; omega, BE2.out⟩, by simp [intOf]; omega⟩
    · obtain rfl : k = 24 := by omega
      go_wp2
      go_ret
      exact ⟨ret_int (by rw [FN.out]; rfl), below_trans H0.out BE.out.out H0.out.size⟩
end Go.Proofs.Ythnffhmefgfnkaa
