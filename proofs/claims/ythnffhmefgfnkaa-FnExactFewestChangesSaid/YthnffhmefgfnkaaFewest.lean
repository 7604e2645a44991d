/- Walks of FewestChanges. -/
import Derived.Test.YthnffhmefgfnkaaFill
namespace Go.Proofs.Ythnffhmefgfnkaa
set_option maxRecDepth 20000
open Go.RowKit

def tF (B : Bld) (hs ts : List Int) (f : Int) (lo hi : Nat) (h : Nat) : List Int := tiltsK (atG B hs ts f h lo hi) 129
theorem fwC_ne' {T : Nat → List Int} : ∀ {h : Nat}, (∀ j, j ≤ h → T j ≠ []) → fwC T h ≠ []
  | 0, hT => hT 0 (Nat.le_refl _)
  | h + 1, hT => by
    unfold fwC
    split
    · exact hT _ (Nat.le_refl _)
    · next hb => intro e; rw [e] at hb; simp at hb
def fwG (T : Nat → List Int) : Nat → Nat
  | 0 => 0
  | k + 1 => fwF T k
def fwB (T : Nat → List Int) : Nat → List Int
  | 0 => T 0
  | k + 1 => fwC T k
theorem fwB_len {T : Nat → List Int} (hT : ∀ h, (T h).length ≤ 129) : ∀ h, (fwB T h).length ≤ 129
  | 0 => hT 0
  | h + 1 => fwC_len hT h
theorem fwB_ne {T : Nat → List Int} : ∀ {k : Nat}, (bothL (fwB T k) (T k)).isEmpty = false → fwC T k = bothL (fwB T k) (T k) ∧ fwF T k = fwG T k
  | 0, _ => ⟨(bothL_self _).symm, rfl⟩
  | k + 1, h => by
    have h : (bothL (fwC T k) (T (k + 1))).isEmpty = false := h
    exact ⟨by show (if (bothL (fwC T k) (T (k + 1))).isEmpty then _ else _) = _; rw [h]; rfl, by show (if (bothL (fwC T k) (T (k + 1))).isEmpty then _ else _) = _; rw [h]; rfl⟩
theorem fwB_em {T : Nat → List Int} : ∀ {k : Nat}, T k ≠ [] → (bothL (fwB T k) (T k)).isEmpty = true → fwC T k = T k ∧ fwF T k = k
  | 0, _, _ => ⟨rfl, rfl⟩
  | k + 1, _, h => by
    have h : (bothL (fwC T k) (T (k + 1))).isEmpty = true := h
    exact ⟨by show (if (bothL (fwC T k) (T (k + 1))).isEmpty then _ else _) = _; rw [h]; rfl, by show (if (bothL (fwC T k) (T (k + 1))).isEmpty then _ else _) = _; rw [h]; rfl⟩
def fcA (B : Bld) (hs ts : List Int) (f : Int) (lo hi : Nat) : Int := codeOf (okB B && okS hs ts) (kwR f lo hi)
def fcAll (T : Nat → List Int) : Bool := (List.range 24).all fun h => !(T h).isEmpty
def fcC (B : Bld) (hs ts : List Int) (f : Int) (lo hi : Nat) : Int := if fcA B hs ts f lo hi = 0 then (if fcAll (tF B hs ts f lo hi) then 0 else 6) else fcA B hs ts f lo hi
def fcL (B : Bld) (hs ts : List Int) (f : Int) (lo hi : Nat) : List Int := if fcC B hs ts f lo hi = 0 then fwS (tF B hs ts f lo hi) 24 else z24
def fcN (B : Bld) (hs ts : List Int) (f : Int) (lo hi : Nat) : Int := if fcC B hs ts f lo hi = 0 then chg (fwS (tF B hs ts f lo hi) 24) 23 else 0
theorem fcL_len (B : Bld) (hs ts : List Int) (f : Int) (lo hi : Nat) : (fcL B hs ts f lo hi).length = 24 := by
  unfold fcL; split
  · exact fwS_len _ _
  · rfl
theorem fcC_bad {B : Bld} {hs ts : List Int} {f : Int} {lo hi : Nat} (h : ¬ fcA B hs ts f lo hi = 0) : fcC B hs ts f lo hi = fcA B hs ts f lo hi ∧ fcL B hs ts f lo hi = z24 ∧ fcN B hs ts f lo hi = 0 := by
  have e : fcC B hs ts f lo hi = fcA B hs ts f lo hi := if_neg h
  exact ⟨e, by unfold fcL; rw [e]; exact if_neg h, by unfold fcN; rw [e]; exact if_neg h⟩
theorem fcC_none {B : Bld} {hs ts : List Int} {f : Int} {lo hi k : Nat} (h : fcA B hs ts f lo hi = 0) (hk : k < 24) (hn : tF B hs ts f lo hi k = []) : fcC B hs ts f lo hi = 6 ∧ fcL B hs ts f lo hi = z24 ∧ fcN B hs ts f lo hi = 0 := by
  have e : fcC B hs ts f lo hi = 6 := by
    have : fcAll (tF B hs ts f lo hi) = false := by
      rw [Bool.eq_false_iff]; intro ha
      have := List.all_eq_true.1 ha k (List.mem_range.2 hk)
      rw [hn] at this; cases this
    rw [fcC, if_pos h, this]; rfl
  exact ⟨e, by unfold fcL; rw [e]; rfl, by unfold fcN; rw [e]; rfl⟩
theorem fcC_all {B : Bld} {hs ts : List Int} {f : Int} {lo hi : Nat} (h : fcA B hs ts f lo hi = 0) (ha : ∀ k, k < 24 → tF B hs ts f lo hi k ≠ []) : fcC B hs ts f lo hi = 0 ∧ fcL B hs ts f lo hi = fwS (tF B hs ts f lo hi) 24 ∧ fcN B hs ts f lo hi = chg (fwS (tF B hs ts f lo hi) 24) 23 := by
  have e : fcC B hs ts f lo hi = 0 := by
    have : fcAll (tF B hs ts f lo hi) = true := List.all_eq_true.2 fun k hk => by
      have := ha k (List.mem_range.1 hk)
      cases hT : tF B hs ts f lo hi k with
      | nil => exact absurd hT this
      | cons => rfl
    rw [fcC, if_pos h, this]; rfl
  exact ⟨e, if_pos e, if_pos e⟩
set_option maxHeartbeats 1000000 in
theorem c_implFewestChanges (B : Bld) (wf : WfB B) (hs ts : List Int) (lh : hs.length = 24) (lt : ts.length = 24) (bh : I16 hs) (bt : I16 ts) (f : Int) (lo hi : Nat) (w : World) :
    Calls Try.prog 49 #[.agg (bcells B), .agg (scells hs ts), .int .i64 f, .float .f32 lo, .float .f32 hi] w fun e w' => e = .returned (.tuple #[.agg (i16s (fcL B hs ts f lo hi)), .int .i64 (fcN B hs ts f lo hi), .int .i64 (fcC B hs ts f lo hi)]) ∧ Below w.heap.size w w' := by
  have HB0 : Hid ((((w.alloc (.cells (bcells B) 32)).alloc (.cells (scells hs ts) 45)).alloc (.cells (zP) 47)).heap[w.heap.size]? = some (.cells (bcells B) 32 (0, 0))) := hid ((blk_past _ _ _ (by simp; omega)).trans ((blk_past _ _ _ (by simp)).trans (blk_at _ _ _ rfl)))
  have HZ0 : Hid ((Try.prog.info? 32).map (·.size) = some (bcells B).size) := hid (size_blind B)
  have HB1 : Hid ((((w.alloc (.cells (bcells B) 32)).alloc (.cells (scells hs ts) 45)).alloc (.cells (zP) 47)).heap[w.heap.size + 1]? = some (.cells (scells hs ts) 45 (0, 0))) := hid ((blk_past _ _ _ (by simp)).trans (blk_at _ _ _ (by simp)))
  have HZ1 : Hid ((Try.prog.info? 45).map (·.size) = some (scells hs ts).size) := hid (by rw [scells_size lh lt]; kernel_rfl)
  have HB2 : Hid ((((w.alloc (.cells (bcells B) 32)).alloc (.cells (scells hs ts) 45)).alloc (.cells (zP) 47)).heap[w.heap.size + 1 + 1]? = some (.cells (zP) 47 (0, 0))) := hid (blk_at _ _ _ (by simp))
  have HZ2 : Hid ((Try.prog.info? 47).map (·.size) = some (zP).size) := hid (zP_size)
  have H0 : Hid (Below w.heap.size w (((w.alloc (.cells (bcells B) 32)).alloc (.cells (scells hs ts) 45)).alloc (.cells (zP) 47))) := hid ((((Below.refl _ _).alloc (Nat.le_refl _) _).alloc (by simp) _).alloc (by simp; omega) _)
  have CG0 := fun w => c_isFacing f w
  have CG1 := fun w => c_IsPart lo w
  have CG2 := fun w => c_IsPart hi w
  cases e1 : inB f 0 255
  · skip
    have KR : kwR f lo hi = false := by simp [kwR, e1]
    rw [e1] at CG0
    have C1 := hid (fun w => show Calls Try.prog 76 #[.agg (bcells B), .agg (scells hs ts), .bool false] w fun e w' => e = .returned (.int .i64 (fcA B hs ts f lo hi)) ∧ Below w.heap.size w w' from by have := c_windowCode B wf hs ts lh lt bh bt (kwR f lo hi) w; rw [Bool.and_comm] at this; unfold fcA; rw [KR] at this ⊢; exact this)
    have CH0 := hid CG0
    clear CG0 CG1 CG2
    by_cases hz : fcA B hs ts f lo hi = 0
    · have := (codeOf_zero hz).2
      rw [KR] at this; cases this
    · have hz2 : Hid (¬ fcA B hs ts f lo hi = 0) := hid hz
      generalize hcv : fcA B hs ts f lo hi = cv at *
      have CV := hid hcv
      have hne : (cv != 0) = true := by rw [bne_iff_ne]; exact hz
      clear hcv hz
      go_enter Try.func49, Try.ntmps49
      go_wp2_with fail
      refine wp_region_below (by kernel_rfl) (by kernel_rfl) ?_
      repeat (first | (refine wpQuiet_load_row rfl 32 _ rfl (w.heap.size) rfl 32 (bcells B) (0, 0) _ (fun wx hwx => (hwx.out.block _ (block_lt HB0.out)).trans HB0.out) Try.underlying32 rfl HZ0.out ?_) | (refine wpQuiet_load_row rfl 45 _ rfl (w.heap.size + 1) rfl 45 (scells hs ts) (0, 0) _ (fun wx hwx => (hwx.out.block _ (block_lt HB1.out)).trans HB1.out) Try.underlying45 rfl HZ1.out ?_) | (refine wpQuiet_load_row rfl 47 _ rfl (w.heap.size + 1 + 1) rfl 47 (zP) (0, 0) _ (fun wx hwx => (hwx.out.block _ (block_lt HB2.out)).trans HB2.out) Try.underlying47 rfl HZ2.out ?_) | (refine wpQuiet_step (fun K hK => ?_); go_simp; first | (refine hK _ ?_; clear hK K) | (refine ⟨_, fun _ _ => rfl, hK _ ?_⟩; clear hK K) | (apply Exists.intro; refine ⟨fun wx hwx => ?_, hK _ ?_⟩; (first | (with_reducible exact quiet_below_same hwx (CH0.out _)) | (with_reducible exact quiet_below hwx (C1.out _))); clear hK K)))
      refine wpQuiet_nil ?_
      intro w2 h2
      replace h2 := h2.out
      have HC0 := hid ((h2.block _ (block_lt HB0.out)).trans HB0.out)
      have HC1 := hid ((h2.block _ (block_lt HB1.out)).trans HB1.out)
      have HC2 := hid ((h2.block _ (block_lt HB2.out)).trans HB2.out)
      have H2 := hid (below_trans H0.out h2 H0.out.size)
      clear h2
      go_wp2_with (refine wpList_store_row rfl 47 _ _ rfl (w.heap.size + 1 + 1) zP rfl rfl 47 zP HC2.out HZ2.out rfl zP_one ?_)
      refine bodyPost_ret (v := .tuple #[.agg zP, .int .i64 0, .int .i64 cv]) (results_row_tmp2 rfl _ _ (w.heap.size + 1 + 1) 47 zP (0, 0) _ rfl (blk_row_same _ _ _ _ _ _ HC2.out) Try.underlying47 rfl HZ2.out _ _ rfl rfl) rfl ⟨by have Q := fcC_bad (B := B) (hs := hs) (ts := ts) (f := f) (lo := lo) (hi := hi) (by rw [CV.out]; exact hz2.out); rw [Q.1, Q.2.1, Q.2.2, CV.out, zP_is], below_setRow H2.out (by omega) _⟩
  · skip
    cases e2 : isPart lo
    · skip
      have KR : kwR f lo hi = false := by simp [kwR, e1, e2]
      rw [e1] at CG0
      rw [e2] at CG1
      have C1 := hid (fun w => show Calls Try.prog 76 #[.agg (bcells B), .agg (scells hs ts), .bool false] w fun e w' => e = .returned (.int .i64 (fcA B hs ts f lo hi)) ∧ Below w.heap.size w w' from by have := c_windowCode B wf hs ts lh lt bh bt (kwR f lo hi) w; rw [Bool.and_comm] at this; unfold fcA; rw [KR] at this ⊢; exact this)
      have CH0 := hid CG0
      have CH1 := hid CG1
      clear CG0 CG1 CG2
      by_cases hz : fcA B hs ts f lo hi = 0
      · have := (codeOf_zero hz).2
        rw [KR] at this; cases this
      · have hz2 : Hid (¬ fcA B hs ts f lo hi = 0) := hid hz
        generalize hcv : fcA B hs ts f lo hi = cv at *
        have CV := hid hcv
        have hne : (cv != 0) = true := by rw [bne_iff_ne]; exact hz
        clear hcv hz
        go_enter Try.func49, Try.ntmps49
        go_wp2_with fail
        refine wp_region_below (by kernel_rfl) (by kernel_rfl) ?_
        repeat (first | (refine wpQuiet_load_row rfl 32 _ rfl (w.heap.size) rfl 32 (bcells B) (0, 0) _ (fun wx hwx => (hwx.out.block _ (block_lt HB0.out)).trans HB0.out) Try.underlying32 rfl HZ0.out ?_) | (refine wpQuiet_load_row rfl 45 _ rfl (w.heap.size + 1) rfl 45 (scells hs ts) (0, 0) _ (fun wx hwx => (hwx.out.block _ (block_lt HB1.out)).trans HB1.out) Try.underlying45 rfl HZ1.out ?_) | (refine wpQuiet_load_row rfl 47 _ rfl (w.heap.size + 1 + 1) rfl 47 (zP) (0, 0) _ (fun wx hwx => (hwx.out.block _ (block_lt HB2.out)).trans HB2.out) Try.underlying47 rfl HZ2.out ?_) | (refine wpQuiet_step (fun K hK => ?_); go_simp; first | (refine hK _ ?_; clear hK K) | (refine ⟨_, fun _ _ => rfl, hK _ ?_⟩; clear hK K) | (apply Exists.intro; refine ⟨fun wx hwx => ?_, hK _ ?_⟩; (first | (with_reducible exact quiet_below_same hwx (CH0.out _)) | (with_reducible exact quiet_below_same hwx (CH1.out _)) | (with_reducible exact quiet_below hwx (C1.out _))); clear hK K)))
        refine wpQuiet_nil ?_
        intro w2 h2
        replace h2 := h2.out
        have HC0 := hid ((h2.block _ (block_lt HB0.out)).trans HB0.out)
        have HC1 := hid ((h2.block _ (block_lt HB1.out)).trans HB1.out)
        have HC2 := hid ((h2.block _ (block_lt HB2.out)).trans HB2.out)
        have H2 := hid (below_trans H0.out h2 H0.out.size)
        clear h2
        go_wp2_with (refine wpList_store_row rfl 47 _ _ rfl (w.heap.size + 1 + 1) zP rfl rfl 47 zP HC2.out HZ2.out rfl zP_one ?_)
        refine bodyPost_ret (v := .tuple #[.agg zP, .int .i64 0, .int .i64 cv]) (results_row_tmp2 rfl _ _ (w.heap.size + 1 + 1) 47 zP (0, 0) _ rfl (blk_row_same _ _ _ _ _ _ HC2.out) Try.underlying47 rfl HZ2.out _ _ rfl rfl) rfl ⟨by have Q := fcC_bad (B := B) (hs := hs) (ts := ts) (f := f) (lo := lo) (hi := hi) (by rw [CV.out]; exact hz2.out); rw [Q.1, Q.2.1, Q.2.2, CV.out, zP_is], below_setRow H2.out (by omega) _⟩
    · skip
      cases e3 : isPart hi
      · skip
        have KR : kwR f lo hi = false := by simp [kwR, e1, e2, e3]
        rw [e1] at CG0
        rw [e2] at CG1
        rw [e3] at CG2
        have C1 := hid (fun w => show Calls Try.prog 76 #[.agg (bcells B), .agg (scells hs ts), .bool false] w fun e w' => e = .returned (.int .i64 (fcA B hs ts f lo hi)) ∧ Below w.heap.size w w' from by have := c_windowCode B wf hs ts lh lt bh bt (kwR f lo hi) w; rw [Bool.and_comm] at this; unfold fcA; rw [KR] at this ⊢; exact this)
        have CH0 := hid CG0
        have CH1 := hid CG1
        have CH2 := hid CG2
        clear CG0 CG1 CG2
        by_cases hz : fcA B hs ts f lo hi = 0
        · have := (codeOf_zero hz).2
          rw [KR] at this; cases this
        · have hz2 : Hid (¬ fcA B hs ts f lo hi = 0) := hid hz
          generalize hcv : fcA B hs ts f lo hi = cv at *
          have CV := hid hcv
          have hne : (cv != 0) = true := by rw [bne_iff_ne]; exact hz
          clear hcv hz
          go_enter Try.func49, Try.ntmps49
          go_wp2_with fail
          refine wp_region_below (by kernel_rfl) (by kernel_rfl) ?_
          repeat (first | (refine wpQuiet_load_row rfl 32 _ rfl (w.heap.size) rfl 32 (bcells B) (0, 0) _ (fun wx hwx => (hwx.out.block _ (block_lt HB0.out)).trans HB0.out) Try.underlying32 rfl HZ0.out ?_) | (refine wpQuiet_load_row rfl 45 _ rfl (w.heap.size + 1) rfl 45 (scells hs ts) (0, 0) _ (fun wx hwx => (hwx.out.block _ (block_lt HB1.out)).trans HB1.out) Try.underlying45 rfl HZ1.out ?_) | (refine wpQuiet_load_row rfl 47 _ rfl (w.heap.size + 1 + 1) rfl 47 (zP) (0, 0) _ (fun wx hwx => (hwx.out.block _ (block_lt HB2.out)).trans HB2.out) Try.underlying47 rfl HZ2.out ?_) | (refine wpQuiet_step (fun K hK => ?_); go_simp; first | (refine hK _ ?_; clear hK K) | (refine ⟨_, fun _ _ => rfl, hK _ ?_⟩; clear hK K) | (apply Exists.intro; refine ⟨fun wx hwx => ?_, hK _ ?_⟩; (first | (with_reducible exact quiet_below_same hwx (CH0.out _)) | (with_reducible exact quiet_below_same hwx (CH1.out _)) | (with_reducible exact quiet_below_same hwx (CH2.out _)) | (with_reducible exact quiet_below hwx (C1.out _))); clear hK K)))
          refine wpQuiet_nil ?_
          intro w2 h2
          replace h2 := h2.out
          have HC0 := hid ((h2.block _ (block_lt HB0.out)).trans HB0.out)
          have HC1 := hid ((h2.block _ (block_lt HB1.out)).trans HB1.out)
          have HC2 := hid ((h2.block _ (block_lt HB2.out)).trans HB2.out)
          have H2 := hid (below_trans H0.out h2 H0.out.size)
          clear h2
          go_wp2_with (refine wpList_store_row rfl 47 _ _ rfl (w.heap.size + 1 + 1) zP rfl rfl 47 zP HC2.out HZ2.out rfl zP_one ?_)
          refine bodyPost_ret (v := .tuple #[.agg zP, .int .i64 0, .int .i64 cv]) (results_row_tmp2 rfl _ _ (w.heap.size + 1 + 1) 47 zP (0, 0) _ rfl (blk_row_same _ _ _ _ _ _ HC2.out) Try.underlying47 rfl HZ2.out _ _ rfl rfl) rfl ⟨by have Q := fcC_bad (B := B) (hs := hs) (ts := ts) (f := f) (lo := lo) (hi := hi) (by rw [CV.out]; exact hz2.out); rw [Q.1, Q.2.1, Q.2.2, CV.out, zP_is], below_setRow H2.out (by omega) _⟩
      · skip
        have KR : kwR f lo hi = true := by simp [kwR, e1, e2, e3]
        rw [e1] at CG0
        rw [e2] at CG1
        rw [e3] at CG2
        have C1 := hid (fun w => show Calls Try.prog 76 #[.agg (bcells B), .agg (scells hs ts), .bool true] w fun e w' => e = .returned (.int .i64 (fcA B hs ts f lo hi)) ∧ Below w.heap.size w w' from by have := c_windowCode B wf hs ts lh lt bh bt (kwR f lo hi) w; rw [Bool.and_comm] at this; unfold fcA; rw [KR] at this ⊢; exact this)
        have CH0 := hid CG0
        have CH1 := hid CG1
        have CH2 := hid CG2
        clear CG0 CG1 CG2
        by_cases hz : fcA B hs ts f lo hi = 0
        · obtain ⟨hok, -⟩ := codeOf_zero hz
          have hB := OkB.of wf (by simp only [Bool.and_eq_true] at hok; exact hok.1)
          have hS2 : okS hs ts = true := by simp only [Bool.and_eq_true] at hok; exact hok.2
          have hF : 0 ≤ f ∧ f ≤ 255 := by simpa [inB] using e1
          obtain ⟨T, hT⟩ : ∃ T, T = tF B hs ts f lo hi := ⟨_, rfl⟩
          have TT := hid hT
          have TM : Hid (∀ h x, x ∈ T h → -64 ≤ x ∧ x ≤ 64) := hid (fun h x hx => by rw [hT] at hx; exact tiltsK_mem hx)
          have TL : Hid (∀ h, (T h).length ≤ 129) := hid (fun h => by rw [hT]; exact tiltsK_len _ _)
          have TN : Hid (∀ h, (T h).Nodup) := hid (fun h => by rw [hT]; exact tiltsK_nodup _ _)
          have CT := hid (fun (k : Nat) (hk : k < 24) b wx hS => show Calls Try.prog 84 #[.agg (bcells B), .pointer (some ⟨b, 0, none⟩), .int .i64 f, .int .i64 (k : Int), .float .f32 lo, .float .f32 hi] wx fun e w' => (∃ v, e = .returned v ∧ GotI w' wx.heap.size v (T k)) ∧ Below wx.heap.size wx w' from by rw [hT]; exact c_tiltsAt B hB b 0 k hs ts f lo hi wx hS hk ⟨(okS_at hS2 hk).1, (okS_at hS2 hk).2.1⟩ (okS_at hS2 hk).2.2 hF)
          have LH := hid lh
          have LT := hid lt
          clear wf lh lt bh bt hok hB hS2 hF hT
          have hz2 : Hid (fcA B hs ts f lo hi = 0) := hid hz
          rw [hz] at C1
          clear hz
          go_enter Try.func49, Try.ntmps49
          go_wp2_with fail
          refine wp_region_below (by kernel_rfl) (by kernel_rfl) ?_
          repeat (first | (refine wpQuiet_load_row rfl 32 _ rfl (w.heap.size) rfl 32 (bcells B) (0, 0) _ (fun wx hwx => (hwx.out.block _ (block_lt HB0.out)).trans HB0.out) Try.underlying32 rfl HZ0.out ?_) | (refine wpQuiet_load_row rfl 45 _ rfl (w.heap.size + 1) rfl 45 (scells hs ts) (0, 0) _ (fun wx hwx => (hwx.out.block _ (block_lt HB1.out)).trans HB1.out) Try.underlying45 rfl HZ1.out ?_) | (refine wpQuiet_load_row rfl 47 _ rfl (w.heap.size + 1 + 1) rfl 47 (zP) (0, 0) _ (fun wx hwx => (hwx.out.block _ (block_lt HB2.out)).trans HB2.out) Try.underlying47 rfl HZ2.out ?_) | (refine wpQuiet_step (fun K hK => ?_); go_simp; first | (refine hK _ ?_; clear hK K) | (refine ⟨_, fun _ _ => rfl, hK _ ?_⟩; clear hK K) | (apply Exists.intro; refine ⟨fun wx hwx => ?_, hK _ ?_⟩; (first | (with_reducible exact quiet_below_same hwx (CH0.out _)) | (with_reducible exact quiet_below_same hwx (CH1.out _)) | (with_reducible exact quiet_below_same hwx (CH2.out _)) | (with_reducible exact quiet_below hwx (C1.out _))); clear hK K)))
          refine wpQuiet_nil ?_
          intro w2 h2
          replace h2 := h2.out
          have HC0 := hid ((h2.block _ (block_lt HB0.out)).trans HB0.out)
          have HC1 := hid ((h2.block _ (block_lt HB1.out)).trans HB1.out)
          have HC2 := hid ((h2.block _ (block_lt HB2.out)).trans HB2.out)
          have H2 := hid (below_trans H0.out h2 H0.out.size)
          clear h2
          have HO : Hid ((((w2.alloc (.cells zP 47)).alloc (.cells #[.int .i64 0] 2)).alloc (.cells #[.slice none 0 0] 58)).heap[w2.heap.size]? = some (.cells zP 47 (0, 0))) := hid ((blk_past _ _ _ (by simp; omega)).trans ((blk_past _ _ _ (by simp)).trans (blk_at _ _ _ rfl)))
          have HOF : Hid ((((w2.alloc (.cells zP 47)).alloc (.cells #[.int .i64 0] 2)).alloc (.cells #[.slice none 0 0] 58)).heap[w2.heap.size + 1]? = some (.cells #[.int .i64 0] 2 (0, 0))) := hid ((blk_past _ _ _ (by simp)).trans (blk_at _ _ _ (by simp)))
          have HOC : Hid ((((w2.alloc (.cells zP 47)).alloc (.cells #[.int .i64 0] 2)).alloc (.cells #[.slice none 0 0] 58)).heap[w2.heap.size + 1 + 1]? = some (.cells #[.slice none 0 0] 58 (0, 0))) := hid (blk_at _ _ _ (by simp))
          have HB3 : Hid (Below w2.heap.size w2 (((w2.alloc (.cells zP 47)).alloc (.cells #[.int .i64 0] 2)).alloc (.cells #[.slice none 0 0] 58))) := hid ((((Below.refl _ _).alloc (Nat.le_refl _) _).alloc (by simp) _).alloc (by simp; omega) _)
          have Z2 := hid (block_lt HC2.out)
          go_wp2_with (refine wpList_store_row rfl 47 _ _ rfl (w2.heap.size) zP rfl rfl 47 zP HO.out HZ2.out rfl zP_one ?_; refine gen_world (p := wpList _ _ _ _ _) (w0 := (((w2.alloc (.cells zP 47)).alloc (.cells #[.int .i64 0] 2)).alloc (.cells #[.slice none 0 0] 58)).setRow w2.heap.size zP) (fun wA hwA => ?_); have KO := hid (show wA.heap[w2.heap.size]? = some (.cells zP 47 (0, 0)) from hwA ▸ blk_row_same _ _ zP zP _ _ HO.out); have KF := hid (show wA.heap[w2.heap.size + 1]? = some (.cells #[.int .i64 0] 2 (0, 0)) from hwA ▸ (setRow_other _ _ _ _ (by omega)).trans HOF.out); have KC := hid (show wA.heap[w2.heap.size + 1 + 1]? = some (.cells #[.slice none 0 0] 58 (0, 0)) from hwA ▸ (setRow_other _ _ _ _ (by omega)).trans HOC.out); have KB := hid (show Below w2.heap.size w2 wA from hwA ▸ below_setRow HB3.out (Nat.le_refl _) zP); have cF := one_cell_at KF.out; have fF := frozen_of_row _ _ 0 _ _ KF.out; have cC := one_cell_at KC.out; have fC := frozen_of_row _ _ 0 _ _ KC.out; clear hwA)
          refine gen_world (p := fun x => Code.wp _ _ _ _ x) (w0 := (wA.setCell ⟨w2.heap.size + 1, 0, none⟩ (.int .i64 0)).setCell ⟨w2.heap.size + 1 + 1, 0, none⟩ (.slice none 0 0)) (fun wB hwB => ?_)
          have LF : Hid (wB.heap[w2.heap.size + 1]? = some (.cells #[.int .i64 0] 2 (0, 0))) := hid (by rw [hwB]; exact (heap_setCell_other _ ⟨_, _, none⟩ _ _ (by simp)).trans (one_set KF.out))
          have LO : Hid (wB.heap[w2.heap.size]? = some (.cells zP 47 (0, 0))) := hid (by rw [hwB]; exact (heap_setCell_other _ ⟨_, _, none⟩ _ _ (by simp; omega)).trans ((heap_setCell_other _ ⟨_, _, none⟩ _ _ (by simp)).trans KO.out))
          have LC : Hid (wB.heap[w2.heap.size + 1 + 1]? = some (.cells #[.slice none 0 0] 58 (0, 0))) := hid (by rw [hwB]; exact one_set ((heap_setCell_other _ ⟨_, _, none⟩ _ _ (by simp)).trans KC.out))
          have LB : Hid (Below w2.heap.size w2 wB) := hid (by rw [hwB]; exact (KB.out.setCell (p := ⟨w2.heap.size + 1, 0, none⟩) (by simp) _).setCell (p := ⟨w2.heap.size + 1 + 1, 0, none⟩) (by simp; omega) _)
          clear hwB cF fF cC fC KF KC KO KB HO HOF HOC HB3
          have M0 := hid ((LB.out.block _ (block_lt HC0.out)).trans HC0.out)
          have M1 := hid ((LB.out.block _ (block_lt HC1.out)).trans HC1.out)
          have M2 := hid ((LB.out.block _ (block_lt HC2.out)).trans HC2.out)
          have MS : Hid (w2.heap.size + 1 + 1 < wB.heap.size) := hid (block_lt LC.out)
          have Y0 := hid (block_lt HC0.out)
          have Y1 := hid (block_lt HC1.out)
          have YS := hid H2.out.size
          have BI := hid (below_trans H2.out LB.out YS.out)
          go_loopw [40] (fun i wr => ∃ k : Nat, k ≤ 24 ∧ i = .int .i64 k ∧ (∀ j, j < k → T j ≠ []) ∧ wr.heap[w2.heap.size]? = some (.cells (i16s (fwI T k)) 47 (0, 0)) ∧ wr.heap[w2.heap.size + 1]? = some (.cells #[.int .i64 (fwG T k : Nat)] 2 (0, 0)) ∧ (∃ cv, wr.heap[w2.heap.size + 1 + 1]? = some (.cells #[cv] 58 (0, 0)) ∧ (0 < k → GotI wr (w2.heap.size + 1 + 1 + 1) cv (fwC T (k - 1)))) ∧ Below w2.heap.size w2 wr ∧ w2.heap.size + 1 + 1 < wr.heap.size) (fun i _ => 24 - (intOf i).toNat)
          case atStart => exact ⟨0, by omega, rfl, fun j hj => by omega, by have := LO.out; rw [zP_is] at this; exact this, LF.out, ⟨_, LC.out, fun h => by omega⟩, LB.out, MS.out⟩
          case round =>
            obtain ⟨k, hk, rfl, hall, hbo, hbf, ⟨cv, hbc, hgc⟩, hbel, hsz⟩ := hrel
            have AL := hid hall
            have BO := hid hbo
            have BF := hid hbf
            have BC := hid hbc
            have GC := hid hgc
            have BE := hid hbel
            have SZ := hid hsz
            clear hall hbo hbf hbc hgc hbel hsz
            have HJ0 := hid ((BE.out.block _ Y0.out).trans HC0.out)
            have HJ1 := hid ((BE.out.block _ Y1.out).trans HC1.out)
            have HJ2 := hid ((BE.out.block _ Z2.out).trans HC2.out)
            by_cases hlt : k < 24
            · have hki : (k : Int) < 24 := by omega
              have hkd : decide ((k : Int) < 24) = true := by simpa using hki
              go_wp2_with (first | (refine wpList_load_row rfl 32 _ rfl (w.heap.size) rfl 32 (bcells B) (0, 0) _ HJ0.out Try.underlying32 rfl HZ0.out ?_))
              refine (CT.out k hlt _ _ (SunAt.of_block LH.out LT.out HJ1.out)).mono ?_
              rintro e w4 ⟨⟨v, rfl, hv⟩, h4⟩
              have BO4 := hid ((h4.block _ (block_lt BO.out)).trans BO.out)
              have BF4 := hid ((h4.block _ (block_lt BF.out)).trans BF.out)
              have BC4 := hid ((h4.block _ (block_lt BC.out)).trans BC.out)
              have B4 := hid (below_trans BE.out h4 (by have := SZ.out; omega))
              have J2 := hid ((h4.block _ (block_lt HJ2.out)).trans HJ2.out)
              have HV : Hid (GotI w4 (w2.heap.size + 1 + 1 + 1) v (T k)) := hid (ownsRow_from hv (by have := SZ.out; omega))
              have GC4 : Hid (0 < k → GotI w4 (w2.heap.size + 1 + 1 + 1) cv (fwC T (k - 1))) := hid (fun h => ownsRow_below (GC.out h) h4)
              have BI4 := hid (below_trans H2.out B4.out YS.out)
              clear h4 hv
              obtain ⟨ad, cap, hve, _, _⟩ := (HV.out.ints (by have := TL.out k; omega)).any
              obtain ⟨n, hnn⟩ : ∃ n, n = (T k).length := ⟨_, rfl⟩
              rw [← hnn] at hve
              subst hve
              have NV := hid hnn
              have TLn : n ≤ 129 := by rw [hnn]; exact TL.out k
              by_cases hT : T k = []
              · have R3 := hid (fcC_none hz2.out hlt (TT.out ▸ hT))
                have hn0 : n = 0 := by rw [hnn, hT]; rfl
                clear hnn hT
                subst hn0
                go_wp2_with (refine wpList_store_row rfl 47 _ _ rfl (w.heap.size + 1 + 1) zP rfl rfl 47 zP J2.out HZ2.out rfl zP_one ?_)
                refine bodyPost_ret (v := .tuple #[.agg zP, .int .i64 0, .int .i64 6]) (results_row_tmp2 rfl _ _ (w.heap.size + 1 + 1) 47 zP (0, 0) _ rfl (blk_row_same _ _ _ _ _ _ J2.out) Try.underlying47 rfl HZ2.out _ _ rfl rfl) rfl ⟨by rw [R3.out.1, R3.out.2.1, R3.out.2.2, zP_is], below_setRow BI4.out (by omega) _⟩
              · have hn : 0 < n := by rw [hnn]; exact List.length_pos_iff.2 hT
                have hne : ((n : Int) == 0) = false := by simp; omega
                have HTN := hid hT
                clear hnn hT
                rcases Nat.eq_zero_or_pos k with hk0 | hk0
                · have NF : Hid (fwG T (k + 1) = fwG T k) := hid (by rw [hk0]; rfl)
                  have NI : Hid (fwI T (k + 1) = fwI T k) := hid (by rw [hk0]; rfl)
                  have NC : Hid (fwC T k = T k) := hid (by rw [hk0]; rfl)
                  have hk1 : (k : Int) ≤ 0 := by omega
                  have hk2 : decide ((0 : Int) < (k : Int)) = false := by simp; omega
                  have cC := one_cell_at BC4.out
                  have fC := frozen_of_row _ _ 0 _ _ BC4.out
                  have E1 := hid (one_set (u := .slice ad n cap) BC4.out)
                  have E2 := hid ((heap_setCell_other w4 ⟨w2.heap.size + 1 + 1, 0, none⟩ w2.heap.size (.slice ad n cap) (by simp; omega)).trans BO4.out)
                  have E3 := hid ((heap_setCell_other w4 ⟨w2.heap.size + 1 + 1, 0, none⟩ (w2.heap.size + 1) (.slice ad n cap) (by simp)).trans BF4.out)
                  have E4 := hid (B4.out.setCell (p := ⟨w2.heap.size + 1 + 1, 0, none⟩) (by simp; omega) (.slice ad n cap))
                  have E5 : Hid (GotI (w4.setCell ⟨w2.heap.size + 1 + 1, 0, none⟩ (.slice ad n cap)) (w2.heap.size + 1 + 1 + 1) (.slice ad n cap) (fwC T k)) := hid (by rw [NC.out]; exact ((Fr2.setF (F := w2.heap.size + 1 + 1) (G := w2.heap.size + 1 + 1) (block_lt BC4.out) 0 (.slice ad n cap)).got HV.out (by omega) (by omega)))
                  go_wp2_with fail
                  exact ⟨⟨k + 1, by omega, by go_num, fun j hj => (Nat.lt_or_ge j k).elim (fun h => AL.out j h) (fun h => (show j = k by omega) ▸ HTN.out), by rw [NI.out]; exact E2.out, by rw [NF.out]; exact E3.out, ⟨_, E1.out, fun _ => E5.out⟩, E4.out, by have := block_lt BC4.out; simp; exact this⟩, by simp [intOf]; omega⟩
                · obtain ⟨q, rfl⟩ : ∃ q, k = q + 1 := ⟨k - 1, by omega⟩
                  have hk1 : (0 : Int) < (q : Int) + 1 := by omega
                  have GQ : Hid (GotI w4 (w2.heap.size + 1 + 1 + 1) cv (fwC T q)) := hid (GC4.out (by omega))
                  have CL : (fwC T q).length ≤ 129 := fwC_len TL.out q
                  have C5 := hid (c_both cv _ (fwC T q) (T (q + 1)) w4 (GQ.out.ints (by omega)) (HV.out.ints (by omega)) CL (TL.out _) (TN.out _))
                  have cC4 := one_cell_at BC4.out
                  go_wp2_with fail
                  refine C5.out.mono ?_
                  rintro e w5 ⟨⟨r, rfl, hr⟩, h5⟩
                  have BO5 := hid ((h5.block _ (block_lt BO4.out)).trans BO4.out)
                  have BF5 := hid ((h5.block _ (block_lt BF4.out)).trans BF4.out)
                  have BC5 := hid ((h5.block _ (block_lt BC4.out)).trans BC4.out)
                  have B5 := hid (below_trans B4.out h5 B4.out.size)
                  have HR : Hid (GotI w5 (w2.heap.size + 1 + 1 + 1) r (bothL (fwC T q) (T (q + 1)))) := hid (ownsRow_from hr (by have := block_lt BC4.out; omega))
                  have HV5 := hid (show GotI w5 _ _ _ from ownsRow_below HV.out h5)
                  have GQ5 := hid (show GotI w5 _ _ _ from ownsRow_below GQ.out h5)
                  clear h5 hr
                  have BLn := bothL_len (fwC T q) (T (q + 1))
                  obtain ⟨ad2, cap2, hre, _, _⟩ := (HR.out.ints (by omega)).any
                  obtain ⟨n2, hnn2⟩ : ∃ n, n = (bothL (fwC T q) (T (q + 1))).length := ⟨_, rfl⟩
                  rw [← hnn2] at hre
                  subst hre
                  have BLm : n2 ≤ 129 := by omega
                  cases hb : (bothL (fwC T q) (T (q + 1))).isEmpty
                  · have hb1 : 0 < n2 := by rw [hnn2]; exact List.length_pos_iff.2 (by intro e; rw [e] at hb; cases hb)
                    have hbn : ((n2 : Int) == 0) = false := by simp; omega
                    have NF : Hid (fwG T (q + 1 + 1) = fwG T (q + 1)) := hid (by show fwF T (q + 1) = fwF T q; rw [fwF, hb]; rfl)
                    have NI : Hid (fwI T (q + 1 + 1) = fwI T (q + 1)) := hid (by rw [fwI, hb]; rfl)
                    have NC : Hid (fwC T (q + 1) = bothL (fwC T q) (T (q + 1))) := hid (by rw [fwC, hb]; rfl)
                    clear hb hnn2 BLn
                    have cC := one_cell_at BC5.out
                    have fC := frozen_of_row _ _ 0 _ _ BC5.out
                    have E1 := hid (one_set (u := .slice ad2 n2 cap2) BC5.out)
                    have E2 := hid ((heap_setCell_other w5 ⟨w2.heap.size + 1 + 1, 0, none⟩ w2.heap.size (.slice ad2 n2 cap2) (by simp; omega)).trans BO5.out)
                    have E3 := hid ((heap_setCell_other w5 ⟨w2.heap.size + 1 + 1, 0, none⟩ (w2.heap.size + 1) (.slice ad2 n2 cap2) (by simp)).trans BF5.out)
                    have E4 := hid (B5.out.setCell (p := ⟨w2.heap.size + 1 + 1, 0, none⟩) (by simp; omega) (.slice ad2 n2 cap2))
                    have E5 : Hid (GotI (w5.setCell ⟨w2.heap.size + 1 + 1, 0, none⟩ (.slice ad2 n2 cap2)) (w2.heap.size + 1 + 1 + 1) (.slice ad2 n2 cap2) (fwC T (q + 1))) := hid (by rw [NC.out]; exact ((Fr2.setF (F := w2.heap.size + 1 + 1) (G := w2.heap.size + 1 + 1) (block_lt BC5.out) 0 (.slice ad2 n2 cap2)).got HR.out (by omega) (by omega)))
                    go_wp2_with fail
                    exact ⟨⟨q + 1 + 1, by omega, by go_num, fun j hj => (Nat.lt_or_ge j (q + 1)).elim (fun h => AL.out j h) (fun h => (show j = q + 1 by omega) ▸ HTN.out), by rw [NI.out]; exact E2.out, by rw [NF.out]; exact E3.out, ⟨_, E1.out, fun _ => E5.out⟩, E4.out, by have := block_lt BC5.out; simp; exact this⟩, by simp [intOf]; omega⟩
                  · have hb0 : bothL (fwC T q) (T (q + 1)) = [] := List.isEmpty_iff.1 hb
                    have NF : Hid (fwG T (q + 1 + 1) = q + 1) := hid (by show fwF T (q + 1) = q + 1; rw [fwF, hb]; rfl)
                    have NI : Hid (fwI T (q + 1 + 1) = fillP (fwI T (q + 1)) (fwF T q) (hd (fwC T q)) (q + 1 - fwF T q)) := hid (by rw [fwI, hb]; rfl)
                    have NC : Hid (fwC T (q + 1) = T (q + 1)) := hid (by rw [fwC, hb]; rfl)
                    have hn20 : n2 = 0 := by rw [hnn2, hb0]; rfl
                    clear hb BLn hnn2 BLm
                    subst hn20
                    have hCne : fwC T q ≠ [] := fwC_ne' (fun j hj => AL.out j (by omega))
                    have C6 := hid (c_fill (w2.heap.size + 1) (w2.heap.size + 1 + 1) w2.heap.size (w2.heap.size + 1 + 1 + 1) (fwF T q) (q + 1) cv (fwC T q) (fwI T (q + 1)) w5 BF5.out BC5.out BO5.out GQ5.out (by omega) (by omega) (by omega) (by omega) (by omega) (fwI_len _ _) (List.length_pos_iff.2 hCne) CL (by have := fwF_le T q; omega) (by omega) (fwC_mem TM.out q _ (hd_mem hCne)))
                    clear hCne
                    go_wp2_with fail
                    refine C6.out.mono ?_
                    rintro e w6 ⟨rfl, hf6, hg6, hfr⟩
                    have BF6 := hid hf6
                    have BO6 := hid hg6
                    have BC6 := hid ((hfr.block _ (block_lt BC5.out) (by omega) (by omega)).trans BC5.out)
                    have HV6 := hid (hfr.got HV5.out (by omega) (by omega))
                    have B6 := hid (hfr.below B5.out (by omega) (Nat.le_refl _) B5.out.size)
                    clear hf6 hg6 hfr
                    have cC := one_cell_at BC6.out
                    have fC := frozen_of_row _ _ 0 _ _ BC6.out
                    have E1 := hid (one_set (u := .slice ad n cap) BC6.out)
                    have E2 := hid ((heap_setCell_other w6 ⟨w2.heap.size + 1 + 1, 0, none⟩ w2.heap.size (.slice ad n cap) (by simp; omega)).trans BO6.out)
                    have E3 := hid ((heap_setCell_other w6 ⟨w2.heap.size + 1 + 1, 0, none⟩ (w2.heap.size + 1) (.slice ad n cap) (by simp)).trans BF6.out)
                    have E4 := hid (B6.out.setCell (p := ⟨w2.heap.size + 1 + 1, 0, none⟩) (by simp; omega) (.slice ad n cap))
                    have E5 : Hid (GotI (w6.setCell ⟨w2.heap.size + 1 + 1, 0, none⟩ (.slice ad n cap)) (w2.heap.size + 1 + 1 + 1) (.slice ad n cap) (fwC T (q + 1))) := hid (by rw [NC.out]; exact ((Fr2.setF (F := w2.heap.size + 1 + 1) (G := w2.heap.size + 1 + 1) (block_lt BC6.out) 0 (.slice ad n cap)).got HV6.out (by omega) (by omega)))
                    go_wp2_with fail
                    exact ⟨⟨q + 1 + 1, by omega, by go_num, fun j hj => (Nat.lt_or_ge j (q + 1)).elim (fun h => AL.out j h) (fun h => (show j = q + 1 by omega) ▸ HTN.out), by rw [NI.out]; exact E2.out, by rw [NF.out]; exact E3.out, ⟨_, E1.out, fun _ => E5.out⟩, E4.out, by have := block_lt BC6.out; simp; exact this⟩, by simp [intOf]; omega⟩
            · obtain rfl : k = 24 := by omega
              have ANE : Hid (∀ h, h < 24 → T h ≠ []) := hid AL.out
              have R3 := hid (fcC_all hz2.out (fun k hk => TT.out ▸ ANE.out k hk))
              have hCne : fwC T 23 ≠ [] := fwC_ne' (fun j hj => ANE.out j (by omega))
              have GQ : Hid (GotI wr (w2.heap.size + 1 + 1 + 1) cv (fwC T 23)) := hid (GC.out (by omega))
              have C6 := hid (c_fill (w2.heap.size + 1) (w2.heap.size + 1 + 1) w2.heap.size (w2.heap.size + 1 + 1 + 1) (fwF T 23) 24 cv (fwC T 23) (fwI T 24) wr BF.out BC.out BO.out GQ.out (by omega) (by omega) (by omega) (by omega) (by omega) (fwI_len _ _) (List.length_pos_iff.2 hCne) (fwC_len TL.out 23) (by have := fwF_le T 23; omega) (by omega) (fwC_mem TM.out 23 _ (hd_mem hCne)))
              have FS := hid (fw_same T 23)
              clear hCne
              go_wp2_with fail
              refine C6.out.mono ?_
              rintro e w6 ⟨rfl, hf6, hg6, hfr⟩
              rw [← FS.out] at hg6
              have BO6 := hid hg6
              have J2 := hid ((hfr.block _ (block_lt HJ2.out) (by have := Z2.out; omega) (by have := Z2.out; omega)).trans HJ2.out)
              have B6 := hid (hfr.below BE.out (by omega) (Nat.le_refl _) BE.out.size)
              clear hf6 hg6 hfr
              have PL : Hid ((fwS T 24).length = 24) := hid (fwS_len _ _)
              have PS : Hid ((Try.prog.info? 47).map (·.size) = some (i16s (fwS T 24)).size) := hid (by rw [i16s_size, PL.out]; kernel_rfl)
              have PZ : Hid (zP.size = (i16s (fwS T 24)).size) := hid (by rw [i16s_size, PL.out]; rfl)
              have BI6 := hid (below_trans H2.out B6.out YS.out)
              have R4 := hid (show fcC B hs ts f lo hi = 0 ∧ fcL B hs ts f lo hi = fwS T 24 ∧ fcN B hs ts f lo hi = chg (fwS T 24) 23 from TT.out ▸ R3.out)
              have PO := hid (fun k hk => (cell_of_row w6 _ k _ _ _ BO6.out).trans (i16s_at PL.out hk))
              generalize fwS T 24 = PP at *
              go_wp2_with fail
              refine wp_region_held (S := fun wx => wx.heap[w2.heap.size]? = some (.cells (i16s PP) 47 (0, 0))) (by kernel_rfl) ?_
              refine wpAnyH_take (i := 0) (fuel := 4) rfl (by kernel_rfl) (by kernel_rfl) (by kernel_rfl) (fun c a w h => h) (yieldsIf_row rfl _ _ rfl w2.heap.size rfl 47 (i16s PP) (0, 0) _ (fun wx h => h) Try.underlying47 rfl PS.out) BO6.out ?_
              refine wpAnyH_all (rs := [1]) (fuel := 3) (by kernel_rfl) (by simp) ?_
              intro i hi
              obtain rfl : i = 1 := by simpa using hi
              refine wpOp_plain rfl rfl ?_
              go_simp
              go_at_call 99
              refine (c_changes PP w2.heap.size w6.drew (fun k hk => PO.out k hk)).mono ?_
              rintro e w7 ⟨rfl, h7⟩
              have D7 : Hid (Below w6.heap.size w6 w7) := hid ⟨h7.os, h7.tape, h7.output, h7.size, h7.block⟩
              clear h7
              have KO := hid ((D7.out.block _ (block_lt BO6.out)).trans BO6.out)
              have K2 := hid ((D7.out.block _ (block_lt J2.out)).trans J2.out)
              have B7 := hid (below_trans BI6.out D7.out BI6.out.size)
              have ZL : w.heap.size + 1 + 1 < w2.heap.size := Z2.out
              refine ⟨KO.out, ?_⟩
              refine wpAnyH_all (rs := [2]) (fuel := 2) (by kernel_rfl) (by simp) ?_
              intro i hi
              obtain rfl : i = 2 := by simpa using hi
              refine wpOp_plain rfl rfl ?_
              refine wp_store_row 47 _ _ rfl (w.heap.size + 1 + 1) (i16s PP) rfl rfl 47 zP K2.out PS.out PZ.out (i16s_one _) ?_
              have JO := hid ((setRow_other w7 (w.heap.size + 1 + 1) w2.heap.size (i16s PP) (by omega)).trans KO.out)
              refine ⟨JO.out, ?_⟩
              refine wpAnyH_all (rs := [3]) (fuel := 1) (by kernel_rfl) (by simp) ?_
              intro i hi
              obtain rfl : i = 3 := by simpa using hi
              refine wpOp_plain rfl rfl ?_
              go_simp
              refine ⟨JO.out, ?_⟩
              refine wpAnyH_all (rs := [4]) (fuel := 0) (by kernel_rfl) (by simp) ?_
              intro i hi
              obtain rfl : i = 4 := by simpa using hi
              refine wpOp_plain rfl rfl ?_
              go_simp
              refine ⟨JO.out, ?_⟩
              refine wpAnyH_done (by kernel_rfl) ?_ 0
              simp only [Exit.then]
              go_wp2_with fail
              refine bodyPost_ret (v := .tuple #[.agg (i16s PP), .int .i64 (chg PP 23), .int .i64 0]) (results_row_tmp2 rfl _ _ (w.heap.size + 1 + 1) 47 (i16s PP) (0, 0) _ rfl (blk_row_same _ _ zP _ _ _ K2.out) Try.underlying47 rfl PS.out _ _ rfl rfl) rfl ⟨by rw [R4.out.1, R4.out.2.1, R4.out.2.2], below_setRow B7.out (by omega) _⟩
        · have hz2 : Hid (¬ fcA B hs ts f lo hi = 0) := hid hz
          generalize hcv : fcA B hs ts f lo hi = cv at *
          have CV := hid hcv
          have hne : (cv != 0) = true := by rw [bne_iff_ne]; exact hz
          clear hcv hz
          go_enter Try.func49, Try.ntmps49
          go_wp2_with fail
          refine wp_region_below (by kernel_rfl) (by kernel_rfl) ?_
          repeat (first | (refine wpQuiet_load_row rfl 32 _ rfl (w.heap.size) rfl 32 (bcells B) (0, 0) _ (fun wx hwx => (hwx.out.block _ (block_lt HB0.out)).trans HB0.out) Try.underlying32 rfl HZ0.out ?_) | (refine wpQuiet_load_row rfl 45 _ rfl (w.heap.size + 1) rfl 45 (scells hs ts) (0, 0) _ (fun wx hwx => (hwx.out.block _ (block_lt HB1.out)).trans HB1.out) Try.underlying45 rfl HZ1.out ?_) | (refine wpQuiet_load_row rfl 47 _ rfl (w.heap.size + 1 + 1) rfl 47 (zP) (0, 0) _ (fun wx hwx => (hwx.out.block _ (block_lt HB2.out)).trans HB2.out) Try.underlying47 rfl HZ2.out ?_) | (refine wpQuiet_step (fun K hK => ?_); go_simp; first | (refine hK _ ?_; clear hK K) | (refine ⟨_, fun _ _ => rfl, hK _ ?_⟩; clear hK K) | (apply Exists.intro; refine ⟨fun wx hwx => ?_, hK _ ?_⟩; (first | (with_reducible exact quiet_below_same hwx (CH0.out _)) | (with_reducible exact quiet_below_same hwx (CH1.out _)) | (with_reducible exact quiet_below_same hwx (CH2.out _)) | (with_reducible exact quiet_below hwx (C1.out _))); clear hK K)))
          refine wpQuiet_nil ?_
          intro w2 h2
          replace h2 := h2.out
          have HC0 := hid ((h2.block _ (block_lt HB0.out)).trans HB0.out)
          have HC1 := hid ((h2.block _ (block_lt HB1.out)).trans HB1.out)
          have HC2 := hid ((h2.block _ (block_lt HB2.out)).trans HB2.out)
          have H2 := hid (below_trans H0.out h2 H0.out.size)
          clear h2
          go_wp2_with (refine wpList_store_row rfl 47 _ _ rfl (w.heap.size + 1 + 1) zP rfl rfl 47 zP HC2.out HZ2.out rfl zP_one ?_)
          refine bodyPost_ret (v := .tuple #[.agg zP, .int .i64 0, .int .i64 cv]) (results_row_tmp2 rfl _ _ (w.heap.size + 1 + 1) 47 zP (0, 0) _ rfl (blk_row_same _ _ _ _ _ _ HC2.out) Try.underlying47 rfl HZ2.out _ _ rfl rfl) rfl ⟨by have Q := fcC_bad (B := B) (hs := hs) (ts := ts) (f := f) (lo := lo) (hi := hi) (by rw [CV.out]; exact hz2.out); rw [Q.1, Q.2.1, Q.2.2, CV.out, zP_is], below_setRow H2.out (by omega) _⟩
set_option maxHeartbeats 1000000 in
theorem c_specFewestChanges_b0 (B : Bld) (wf : WfB B) (hs ts : List Int) (lh : hs.length = 24) (lt : ts.length = 24) (bh : I16 hs) (bt : I16 ts) (f : Int) (lo hi : Nat) (wl : lo < 4294967296) (wh : hi < 4294967296) (w : World) (e1 : inB f 0 255 = false) (hz : ¬ fcA B hs ts f lo hi = 0) :
    Calls Try.prog 48 #[.agg (bcells B), .agg (scells hs ts), .int .i64 f, .float .f32 lo, .float .f32 hi] w fun e w' => e = .returned (.tuple #[.agg (i16s (fcL B hs ts f lo hi)), .int .i64 (fcN B hs ts f lo hi), .int .i64 (fcC B hs ts f lo hi)]) ∧ Below w.heap.size w w' := by
  have HB0 : Hid (((((w.alloc (.cells (bcells B) 32)).alloc (.cells (scells hs ts) 45)).alloc (.cells (zP) 47)).alloc (.cells (zP) 47)).heap[w.heap.size]? = some (.cells (bcells B) 32 (0, 0))) := hid ((blk_past _ _ _ (by simp <;> omega)).trans ((blk_past _ _ _ (by simp <;> omega)).trans ((blk_past _ _ _ (by simp)).trans (blk_at _ _ _ rfl))))
  have HZ0 : Hid ((Try.prog.info? 32).map (·.size) = some (bcells B).size) := hid (size_blind B)
  have HB1 : Hid (((((w.alloc (.cells (bcells B) 32)).alloc (.cells (scells hs ts) 45)).alloc (.cells (zP) 47)).alloc (.cells (zP) 47)).heap[w.heap.size + 1]? = some (.cells (scells hs ts) 45 (0, 0))) := hid ((blk_past _ _ _ (by simp <;> omega)).trans ((blk_past _ _ _ (by simp)).trans (blk_at _ _ _ (by simp))))
  have HZ1 : Hid ((Try.prog.info? 45).map (·.size) = some (scells hs ts).size) := hid (by rw [scells_size lh lt]; kernel_rfl)
  have HB2 : Hid (((((w.alloc (.cells (bcells B) 32)).alloc (.cells (scells hs ts) 45)).alloc (.cells (zP) 47)).alloc (.cells (zP) 47)).heap[w.heap.size + 1 + 1]? = some (.cells (zP) 47 (0, 0))) := hid ((blk_past _ _ _ (by simp)).trans (blk_at _ _ _ (by simp)))
  have HZ2 : Hid ((Try.prog.info? 47).map (·.size) = some (zP).size) := hid (zP_size)
  have HB3 : Hid (((((w.alloc (.cells (bcells B) 32)).alloc (.cells (scells hs ts) 45)).alloc (.cells (zP) 47)).alloc (.cells (zP) 47)).heap[w.heap.size + 1 + 1 + 1]? = some (.cells (zP) 47 (0, 0))) := hid (blk_at _ _ _ (by simp))
  have HZ3 : Hid ((Try.prog.info? 47).map (·.size) = some (zP).size) := hid (zP_size)
  have H0 : Hid (Below w.heap.size w ((((w.alloc (.cells (bcells B) 32)).alloc (.cells (scells hs ts) 45)).alloc (.cells (zP) 47)).alloc (.cells (zP) 47))) := hid (((((Below.refl _ _).alloc (Nat.le_refl _) _).alloc (by simp) _).alloc (by simp <;> omega) _).alloc (by simp <;> omega) _)
  have LH := hid lh
  have LT := hid lt
  have _wl := wl
  have _wh := wh
  have CG0 := fun w => c_l01Faced f w
  have KR : kwR f lo hi = false := by simp [kwR, e1]
  rw [e1] at CG0
  have C1 := hid (show ∀ wq, BldAt wq w.heap.size 0 B → SunAt wq (w.heap.size + 1) 0 hs ts → PlnAt wq (w.heap.size + 1 + 1 + 1) z24 → Calls Try.prog 66 #[.pointer (some ⟨w.heap.size, 0, none⟩), .pointer (some ⟨w.heap.size + 1, 0, none⟩), .pointer (some ⟨w.heap.size + 1 + 1 + 1, 0, none⟩), .bool false] wq fun e w' => e = .returned (.int .i64 (fcA B hs ts f lo hi)) ∧ wq = w' from by intro wq hA hS hP; have := c_l07Asked B wf hs ts z24 bh bt (by simp [z24]) z24_i16 (kwR f lo hi) _ _ _ _ _ wq hA hS hP; rw [z24_tilts, Bool.and_true] at this; unfold fcA; rw [KR] at this ⊢; exact this)
  have CH0 := hid CG0
  clear CG0
  have hz2 : Hid (¬ fcA B hs ts f lo hi = 0) := hid hz
  generalize hcv : fcA B hs ts f lo hi = cv at *
  have CV := hid hcv
  have hne : (cv != 0) = true := by rw [bne_iff_ne]; exact hz
  clear hcv hz
  have HC0 := hid ((setRow_other ((((w.alloc (.cells (bcells B) 32)).alloc (.cells (scells hs ts) 45)).alloc (.cells (zP) 47)).alloc (.cells (zP) 47)) (w.heap.size + 1 + 1 + 1) (w.heap.size) zP (by omega)).trans HB0.out)
  have HC1 := hid ((setRow_other ((((w.alloc (.cells (bcells B) 32)).alloc (.cells (scells hs ts) 45)).alloc (.cells (zP) 47)).alloc (.cells (zP) 47)) (w.heap.size + 1 + 1 + 1) (w.heap.size + 1) zP (by omega)).trans HB1.out)
  have HC2 := hid ((setRow_other ((((w.alloc (.cells (bcells B) 32)).alloc (.cells (scells hs ts) 45)).alloc (.cells (zP) 47)).alloc (.cells (zP) 47)) (w.heap.size + 1 + 1 + 1) (w.heap.size + 1 + 1) zP (by omega)).trans HB2.out)
  have HC3 := hid (PlnAt.of_block (by simp [z24]) (zP_is ▸ (blk_row_same ((((w.alloc (.cells (bcells B) 32)).alloc (.cells (scells hs ts) 45)).alloc (.cells (zP) 47)).alloc (.cells (zP) 47)) (w.heap.size + 1 + 1 + 1) zP zP _ _ HB3.out)))
  have H2 := hid (below_setRow H0.out (g := w.heap.size + 1 + 1 + 1) (by omega) zP)
  go_enter Try.func48, Try.ntmps48
  go_wp2_with (first | (refine wpList_store_row rfl 47 _ _ rfl (w.heap.size + 1 + 1 + 1) zP rfl rfl 47 zP HB3.out HZ3.out rfl zP_one ?_) | (go_at_call 67; with_reducible refine (CH0.out _).mono ?_; rintro e w' ⟨rfl, rfl⟩) | (go_at_call 66; refine (C1.out _ (BldAt.of_block HC0.out) (SunAt.of_block LH.out LT.out HC1.out) HC3.out).mono ?_; rintro e w' ⟨rfl, rfl⟩) | (refine wpList_store_row rfl 47 _ _ rfl (w.heap.size + 1 + 1) zP rfl rfl 47 zP HC2.out HZ2.out rfl zP_one ?_))
  refine bodyPost_ret (v := .tuple #[.agg zP, .int .i64 0, .int .i64 cv]) (results_row_tmp2 rfl _ _ (w.heap.size + 1 + 1) 47 zP (0, 0) _ rfl (blk_row_same _ _ _ _ _ _ HC2.out) Try.underlying47 rfl HZ2.out _ _ rfl rfl) rfl ⟨by have Q := fcC_bad (B := B) (hs := hs) (ts := ts) (f := f) (lo := lo) (hi := hi) (by rw [CV.out]; exact hz2.out); rw [Q.1, Q.2.1, Q.2.2, CV.out, zP_is], below_setRow H2.out (by omega) _⟩
set_option maxHeartbeats 1000000 in
theorem c_specFewestChanges_b1 (B : Bld) (wf : WfB B) (hs ts : List Int) (lh : hs.length = 24) (lt : ts.length = 24) (bh : I16 hs) (bt : I16 ts) (f : Int) (lo hi : Nat) (wl : lo < 4294967296) (wh : hi < 4294967296) (w : World) (e1 : inB f 0 255 = true) (e2 : isPart lo = false) (hz : ¬ fcA B hs ts f lo hi = 0) :
    Calls Try.prog 48 #[.agg (bcells B), .agg (scells hs ts), .int .i64 f, .float .f32 lo, .float .f32 hi] w fun e w' => e = .returned (.tuple #[.agg (i16s (fcL B hs ts f lo hi)), .int .i64 (fcN B hs ts f lo hi), .int .i64 (fcC B hs ts f lo hi)]) ∧ Below w.heap.size w w' := by
  have HB0 : Hid (((((w.alloc (.cells (bcells B) 32)).alloc (.cells (scells hs ts) 45)).alloc (.cells (zP) 47)).alloc (.cells (zP) 47)).heap[w.heap.size]? = some (.cells (bcells B) 32 (0, 0))) := hid ((blk_past _ _ _ (by simp <;> omega)).trans ((blk_past _ _ _ (by simp <;> omega)).trans ((blk_past _ _ _ (by simp)).trans (blk_at _ _ _ rfl))))
  have HZ0 : Hid ((Try.prog.info? 32).map (·.size) = some (bcells B).size) := hid (size_blind B)
  have HB1 : Hid (((((w.alloc (.cells (bcells B) 32)).alloc (.cells (scells hs ts) 45)).alloc (.cells (zP) 47)).alloc (.cells (zP) 47)).heap[w.heap.size + 1]? = some (.cells (scells hs ts) 45 (0, 0))) := hid ((blk_past _ _ _ (by simp <;> omega)).trans ((blk_past _ _ _ (by simp)).trans (blk_at _ _ _ (by simp))))
  have HZ1 : Hid ((Try.prog.info? 45).map (·.size) = some (scells hs ts).size) := hid (by rw [scells_size lh lt]; kernel_rfl)
  have HB2 : Hid (((((w.alloc (.cells (bcells B) 32)).alloc (.cells (scells hs ts) 45)).alloc (.cells (zP) 47)).alloc (.cells (zP) 47)).heap[w.heap.size + 1 + 1]? = some (.cells (zP) 47 (0, 0))) := hid ((blk_past _ _ _ (by simp)).trans (blk_at _ _ _ (by simp)))
  have HZ2 : Hid ((Try.prog.info? 47).map (·.size) = some (zP).size) := hid (zP_size)
  have HB3 : Hid (((((w.alloc (.cells (bcells B) 32)).alloc (.cells (scells hs ts) 45)).alloc (.cells (zP) 47)).alloc (.cells (zP) 47)).heap[w.heap.size + 1 + 1 + 1]? = some (.cells (zP) 47 (0, 0))) := hid (blk_at _ _ _ (by simp))
  have HZ3 : Hid ((Try.prog.info? 47).map (·.size) = some (zP).size) := hid (zP_size)
  have H0 : Hid (Below w.heap.size w ((((w.alloc (.cells (bcells B) 32)).alloc (.cells (scells hs ts) 45)).alloc (.cells (zP) 47)).alloc (.cells (zP) 47))) := hid (((((Below.refl _ _).alloc (Nat.le_refl _) _).alloc (by simp) _).alloc (by simp <;> omega) _).alloc (by simp <;> omega) _)
  have LH := hid lh
  have LT := hid lt
  have _wl := wl
  have _wh := wh
  have CG0 := fun w => c_l01Faced f w
  have CG1 := fun w => c_l01Part lo w
  have KR : kwR f lo hi = false := by simp [kwR, e1, e2]
  rw [e1] at CG0
  rw [e2] at CG1
  have C1 := hid (show ∀ wq, BldAt wq w.heap.size 0 B → SunAt wq (w.heap.size + 1) 0 hs ts → PlnAt wq (w.heap.size + 1 + 1 + 1) z24 → Calls Try.prog 66 #[.pointer (some ⟨w.heap.size, 0, none⟩), .pointer (some ⟨w.heap.size + 1, 0, none⟩), .pointer (some ⟨w.heap.size + 1 + 1 + 1, 0, none⟩), .bool false] wq fun e w' => e = .returned (.int .i64 (fcA B hs ts f lo hi)) ∧ wq = w' from by intro wq hA hS hP; have := c_l07Asked B wf hs ts z24 bh bt (by simp [z24]) z24_i16 (kwR f lo hi) _ _ _ _ _ wq hA hS hP; rw [z24_tilts, Bool.and_true] at this; unfold fcA; rw [KR] at this ⊢; exact this)
  have CH0 := hid CG0
  have CH1 := hid CG1
  clear CG0 CG1
  have hz2 : Hid (¬ fcA B hs ts f lo hi = 0) := hid hz
  generalize hcv : fcA B hs ts f lo hi = cv at *
  have CV := hid hcv
  have hne : (cv != 0) = true := by rw [bne_iff_ne]; exact hz
  clear hcv hz
  have HC0 := hid ((setRow_other ((((w.alloc (.cells (bcells B) 32)).alloc (.cells (scells hs ts) 45)).alloc (.cells (zP) 47)).alloc (.cells (zP) 47)) (w.heap.size + 1 + 1 + 1) (w.heap.size) zP (by omega)).trans HB0.out)
  have HC1 := hid ((setRow_other ((((w.alloc (.cells (bcells B) 32)).alloc (.cells (scells hs ts) 45)).alloc (.cells (zP) 47)).alloc (.cells (zP) 47)) (w.heap.size + 1 + 1 + 1) (w.heap.size + 1) zP (by omega)).trans HB1.out)
  have HC2 := hid ((setRow_other ((((w.alloc (.cells (bcells B) 32)).alloc (.cells (scells hs ts) 45)).alloc (.cells (zP) 47)).alloc (.cells (zP) 47)) (w.heap.size + 1 + 1 + 1) (w.heap.size + 1 + 1) zP (by omega)).trans HB2.out)
  have HC3 := hid (PlnAt.of_block (by simp [z24]) (zP_is ▸ (blk_row_same ((((w.alloc (.cells (bcells B) 32)).alloc (.cells (scells hs ts) 45)).alloc (.cells (zP) 47)).alloc (.cells (zP) 47)) (w.heap.size + 1 + 1 + 1) zP zP _ _ HB3.out)))
  have H2 := hid (below_setRow H0.out (g := w.heap.size + 1 + 1 + 1) (by omega) zP)
  go_enter Try.func48, Try.ntmps48
  go_wp2_with (first | (refine wpList_store_row rfl 47 _ _ rfl (w.heap.size + 1 + 1 + 1) zP rfl rfl 47 zP HB3.out HZ3.out rfl zP_one ?_) | (go_at_call 67; with_reducible refine (CH0.out _).mono ?_; rintro e w' ⟨rfl, rfl⟩) | (go_at_call 68; with_reducible refine (CH1.out _).mono ?_; rintro e w' ⟨rfl, rfl⟩) | (go_at_call 66; refine (C1.out _ (BldAt.of_block HC0.out) (SunAt.of_block LH.out LT.out HC1.out) HC3.out).mono ?_; rintro e w' ⟨rfl, rfl⟩) | (refine wpList_store_row rfl 47 _ _ rfl (w.heap.size + 1 + 1) zP rfl rfl 47 zP HC2.out HZ2.out rfl zP_one ?_))
  refine bodyPost_ret (v := .tuple #[.agg zP, .int .i64 0, .int .i64 cv]) (results_row_tmp2 rfl _ _ (w.heap.size + 1 + 1) 47 zP (0, 0) _ rfl (blk_row_same _ _ _ _ _ _ HC2.out) Try.underlying47 rfl HZ2.out _ _ rfl rfl) rfl ⟨by have Q := fcC_bad (B := B) (hs := hs) (ts := ts) (f := f) (lo := lo) (hi := hi) (by rw [CV.out]; exact hz2.out); rw [Q.1, Q.2.1, Q.2.2, CV.out, zP_is], below_setRow H2.out (by omega) _⟩
set_option maxHeartbeats 1000000 in
theorem c_specFewestChanges_b2 (B : Bld) (wf : WfB B) (hs ts : List Int) (lh : hs.length = 24) (lt : ts.length = 24) (bh : I16 hs) (bt : I16 ts) (f : Int) (lo hi : Nat) (wl : lo < 4294967296) (wh : hi < 4294967296) (w : World) (e1 : inB f 0 255 = true) (e2 : isPart lo = true) (e3 : isPart hi = false) (hz : ¬ fcA B hs ts f lo hi = 0) :
    Calls Try.prog 48 #[.agg (bcells B), .agg (scells hs ts), .int .i64 f, .float .f32 lo, .float .f32 hi] w fun e w' => e = .returned (.tuple #[.agg (i16s (fcL B hs ts f lo hi)), .int .i64 (fcN B hs ts f lo hi), .int .i64 (fcC B hs ts f lo hi)]) ∧ Below w.heap.size w w' := by
  have HB0 : Hid (((((w.alloc (.cells (bcells B) 32)).alloc (.cells (scells hs ts) 45)).alloc (.cells (zP) 47)).alloc (.cells (zP) 47)).heap[w.heap.size]? = some (.cells (bcells B) 32 (0, 0))) := hid ((blk_past _ _ _ (by simp <;> omega)).trans ((blk_past _ _ _ (by simp <;> omega)).trans ((blk_past _ _ _ (by simp)).trans (blk_at _ _ _ rfl))))
  have HZ0 : Hid ((Try.prog.info? 32).map (·.size) = some (bcells B).size) := hid (size_blind B)
  have HB1 : Hid (((((w.alloc (.cells (bcells B) 32)).alloc (.cells (scells hs ts) 45)).alloc (.cells (zP) 47)).alloc (.cells (zP) 47)).heap[w.heap.size + 1]? = some (.cells (scells hs ts) 45 (0, 0))) := hid ((blk_past _ _ _ (by simp <;> omega)).trans ((blk_past _ _ _ (by simp)).trans (blk_at _ _ _ (by simp))))
  have HZ1 : Hid ((Try.prog.info? 45).map (·.size) = some (scells hs ts).size) := hid (by rw [scells_size lh lt]; kernel_rfl)
  have HB2 : Hid (((((w.alloc (.cells (bcells B) 32)).alloc (.cells (scells hs ts) 45)).alloc (.cells (zP) 47)).alloc (.cells (zP) 47)).heap[w.heap.size + 1 + 1]? = some (.cells (zP) 47 (0, 0))) := hid ((blk_past _ _ _ (by simp)).trans (blk_at _ _ _ (by simp)))
  have HZ2 : Hid ((Try.prog.info? 47).map (·.size) = some (zP).size) := hid (zP_size)
  have HB3 : Hid (((((w.alloc (.cells (bcells B) 32)).alloc (.cells (scells hs ts) 45)).alloc (.cells (zP) 47)).alloc (.cells (zP) 47)).heap[w.heap.size + 1 + 1 + 1]? = some (.cells (zP) 47 (0, 0))) := hid (blk_at _ _ _ (by simp))
  have HZ3 : Hid ((Try.prog.info? 47).map (·.size) = some (zP).size) := hid (zP_size)
  have H0 : Hid (Below w.heap.size w ((((w.alloc (.cells (bcells B) 32)).alloc (.cells (scells hs ts) 45)).alloc (.cells (zP) 47)).alloc (.cells (zP) 47))) := hid (((((Below.refl _ _).alloc (Nat.le_refl _) _).alloc (by simp) _).alloc (by simp <;> omega) _).alloc (by simp <;> omega) _)
  have LH := hid lh
  have LT := hid lt
  have _wl := wl
  have _wh := wh
  have CG0 := fun w => c_l01Faced f w
  have CG1 := fun w => c_l01Part lo w
  have CG2 := fun w => c_l01Part hi w
  have KR : kwR f lo hi = false := by simp [kwR, e1, e2, e3]
  rw [e1] at CG0
  rw [e2] at CG1
  rw [e3] at CG2
  have C1 := hid (show ∀ wq, BldAt wq w.heap.size 0 B → SunAt wq (w.heap.size + 1) 0 hs ts → PlnAt wq (w.heap.size + 1 + 1 + 1) z24 → Calls Try.prog 66 #[.pointer (some ⟨w.heap.size, 0, none⟩), .pointer (some ⟨w.heap.size + 1, 0, none⟩), .pointer (some ⟨w.heap.size + 1 + 1 + 1, 0, none⟩), .bool false] wq fun e w' => e = .returned (.int .i64 (fcA B hs ts f lo hi)) ∧ wq = w' from by intro wq hA hS hP; have := c_l07Asked B wf hs ts z24 bh bt (by simp [z24]) z24_i16 (kwR f lo hi) _ _ _ _ _ wq hA hS hP; rw [z24_tilts, Bool.and_true] at this; unfold fcA; rw [KR] at this ⊢; exact this)
  have CH0 := hid CG0
  have CH1 := hid CG1
  have CH2 := hid CG2
  clear CG0 CG1 CG2
  have hz2 : Hid (¬ fcA B hs ts f lo hi = 0) := hid hz
  generalize hcv : fcA B hs ts f lo hi = cv at *
  have CV := hid hcv
  have hne : (cv != 0) = true := by rw [bne_iff_ne]; exact hz
  clear hcv hz
  have HC0 := hid ((setRow_other ((((w.alloc (.cells (bcells B) 32)).alloc (.cells (scells hs ts) 45)).alloc (.cells (zP) 47)).alloc (.cells (zP) 47)) (w.heap.size + 1 + 1 + 1) (w.heap.size) zP (by omega)).trans HB0.out)
  have HC1 := hid ((setRow_other ((((w.alloc (.cells (bcells B) 32)).alloc (.cells (scells hs ts) 45)).alloc (.cells (zP) 47)).alloc (.cells (zP) 47)) (w.heap.size + 1 + 1 + 1) (w.heap.size + 1) zP (by omega)).trans HB1.out)
  have HC2 := hid ((setRow_other ((((w.alloc (.cells (bcells B) 32)).alloc (.cells (scells hs ts) 45)).alloc (.cells (zP) 47)).alloc (.cells (zP) 47)) (w.heap.size + 1 + 1 + 1) (w.heap.size + 1 + 1) zP (by omega)).trans HB2.out)
  have HC3 := hid (PlnAt.of_block (by simp [z24]) (zP_is ▸ (blk_row_same ((((w.alloc (.cells (bcells B) 32)).alloc (.cells (scells hs ts) 45)).alloc (.cells (zP) 47)).alloc (.cells (zP) 47)) (w.heap.size + 1 + 1 + 1) zP zP _ _ HB3.out)))
  have H2 := hid (below_setRow H0.out (g := w.heap.size + 1 + 1 + 1) (by omega) zP)
  go_enter Try.func48, Try.ntmps48
  go_wp2_with (first | (refine wpList_store_row rfl 47 _ _ rfl (w.heap.size + 1 + 1 + 1) zP rfl rfl 47 zP HB3.out HZ3.out rfl zP_one ?_) | (go_at_call 67; with_reducible refine (CH0.out _).mono ?_; rintro e w' ⟨rfl, rfl⟩) | (go_at_call 68; with_reducible refine (CH1.out _).mono ?_; rintro e w' ⟨rfl, rfl⟩) | (go_at_call 68; with_reducible refine (CH2.out _).mono ?_; rintro e w' ⟨rfl, rfl⟩) | (go_at_call 66; refine (C1.out _ (BldAt.of_block HC0.out) (SunAt.of_block LH.out LT.out HC1.out) HC3.out).mono ?_; rintro e w' ⟨rfl, rfl⟩) | (refine wpList_store_row rfl 47 _ _ rfl (w.heap.size + 1 + 1) zP rfl rfl 47 zP HC2.out HZ2.out rfl zP_one ?_))
  refine bodyPost_ret (v := .tuple #[.agg zP, .int .i64 0, .int .i64 cv]) (results_row_tmp2 rfl _ _ (w.heap.size + 1 + 1) 47 zP (0, 0) _ rfl (blk_row_same _ _ _ _ _ _ HC2.out) Try.underlying47 rfl HZ2.out _ _ rfl rfl) rfl ⟨by have Q := fcC_bad (B := B) (hs := hs) (ts := ts) (f := f) (lo := lo) (hi := hi) (by rw [CV.out]; exact hz2.out); rw [Q.1, Q.2.1, Q.2.2, CV.out, zP_is], below_setRow H2.out (by omega) _⟩
set_option maxHeartbeats 1000000 in
theorem c_specFewestChanges_b3 (B : Bld) (wf : WfB B) (hs ts : List Int) (lh : hs.length = 24) (lt : ts.length = 24) (bh : I16 hs) (bt : I16 ts) (f : Int) (lo hi : Nat) (wl : lo < 4294967296) (wh : hi < 4294967296) (w : World) (e1 : inB f 0 255 = true) (e2 : isPart lo = true) (e3 : isPart hi = true) (hz : ¬ fcA B hs ts f lo hi = 0) :
    Calls Try.prog 48 #[.agg (bcells B), .agg (scells hs ts), .int .i64 f, .float .f32 lo, .float .f32 hi] w fun e w' => e = .returned (.tuple #[.agg (i16s (fcL B hs ts f lo hi)), .int .i64 (fcN B hs ts f lo hi), .int .i64 (fcC B hs ts f lo hi)]) ∧ Below w.heap.size w w' := by
  have HB0 : Hid (((((w.alloc (.cells (bcells B) 32)).alloc (.cells (scells hs ts) 45)).alloc (.cells (zP) 47)).alloc (.cells (zP) 47)).heap[w.heap.size]? = some (.cells (bcells B) 32 (0, 0))) := hid ((blk_past _ _ _ (by simp <;> omega)).trans ((blk_past _ _ _ (by simp <;> omega)).trans ((blk_past _ _ _ (by simp)).trans (blk_at _ _ _ rfl))))
  have HZ0 : Hid ((Try.prog.info? 32).map (·.size) = some (bcells B).size) := hid (size_blind B)
  have HB1 : Hid (((((w.alloc (.cells (bcells B) 32)).alloc (.cells (scells hs ts) 45)).alloc (.cells (zP) 47)).alloc (.cells (zP) 47)).heap[w.heap.size + 1]? = some (.cells (scells hs ts) 45 (0, 0))) := hid ((blk_past _ _ _ (by simp <;> omega)).trans ((blk_past _ _ _ (by simp)).trans (blk_at _ _ _ (by simp))))
  have HZ1 : Hid ((Try.prog.info? 45).map (·.size) = some (scells hs ts).size) := hid (by rw [scells_size lh lt]; kernel_rfl)
  have HB2 : Hid (((((w.alloc (.cells (bcells B) 32)).alloc (.cells (scells hs ts) 45)).alloc (.cells (zP) 47)).alloc (.cells (zP) 47)).heap[w.heap.size + 1 + 1]? = some (.cells (zP) 47 (0, 0))) := hid ((blk_past _ _ _ (by simp)).trans (blk_at _ _ _ (by simp)))
  have HZ2 : Hid ((Try.prog.info? 47).map (·.size) = some (zP).size) := hid (zP_size)
  have HB3 : Hid (((((w.alloc (.cells (bcells B) 32)).alloc (.cells (scells hs ts) 45)).alloc (.cells (zP) 47)).alloc (.cells (zP) 47)).heap[w.heap.size + 1 + 1 + 1]? = some (.cells (zP) 47 (0, 0))) := hid (blk_at _ _ _ (by simp))
  have HZ3 : Hid ((Try.prog.info? 47).map (·.size) = some (zP).size) := hid (zP_size)
  have H0 : Hid (Below w.heap.size w ((((w.alloc (.cells (bcells B) 32)).alloc (.cells (scells hs ts) 45)).alloc (.cells (zP) 47)).alloc (.cells (zP) 47))) := hid (((((Below.refl _ _).alloc (Nat.le_refl _) _).alloc (by simp) _).alloc (by simp <;> omega) _).alloc (by simp <;> omega) _)
  have LH := hid lh
  have LT := hid lt
  have _wl := wl
  have _wh := wh
  have CG0 := fun w => c_l01Faced f w
  have CG1 := fun w => c_l01Part lo w
  have CG2 := fun w => c_l01Part hi w
  have KR : kwR f lo hi = true := by simp [kwR, e1, e2, e3]
  rw [e1] at CG0
  rw [e2] at CG1
  rw [e3] at CG2
  have C1 := hid (show ∀ wq, BldAt wq w.heap.size 0 B → SunAt wq (w.heap.size + 1) 0 hs ts → PlnAt wq (w.heap.size + 1 + 1 + 1) z24 → Calls Try.prog 66 #[.pointer (some ⟨w.heap.size, 0, none⟩), .pointer (some ⟨w.heap.size + 1, 0, none⟩), .pointer (some ⟨w.heap.size + 1 + 1 + 1, 0, none⟩), .bool true] wq fun e w' => e = .returned (.int .i64 (fcA B hs ts f lo hi)) ∧ wq = w' from by intro wq hA hS hP; have := c_l07Asked B wf hs ts z24 bh bt (by simp [z24]) z24_i16 (kwR f lo hi) _ _ _ _ _ wq hA hS hP; rw [z24_tilts, Bool.and_true] at this; unfold fcA; rw [KR] at this ⊢; exact this)
  have CH0 := hid CG0
  have CH1 := hid CG1
  have CH2 := hid CG2
  clear CG0 CG1 CG2
  have hz2 : Hid (¬ fcA B hs ts f lo hi = 0) := hid hz
  generalize hcv : fcA B hs ts f lo hi = cv at *
  have CV := hid hcv
  have hne : (cv != 0) = true := by rw [bne_iff_ne]; exact hz
  clear hcv hz
  have HC0 := hid ((setRow_other ((((w.alloc (.cells (bcells B) 32)).alloc (.cells (scells hs ts) 45)).alloc (.cells (zP) 47)).alloc (.cells (zP) 47)) (w.heap.size + 1 + 1 + 1) (w.heap.size) zP (by omega)).trans HB0.out)
  have HC1 := hid ((setRow_other ((((w.alloc (.cells (bcells B) 32)).alloc (.cells (scells hs ts) 45)).alloc (.cells (zP) 47)).alloc (.cells (zP) 47)) (w.heap.size + 1 + 1 + 1) (w.heap.size + 1) zP (by omega)).trans HB1.out)
  have HC2 := hid ((setRow_other ((((w.alloc (.cells (bcells B) 32)).alloc (.cells (scells hs ts) 45)).alloc (.cells (zP) 47)).alloc (.cells (zP) 47)) (w.heap.size + 1 + 1 + 1) (w.heap.size + 1 + 1) zP (by omega)).trans HB2.out)
  have HC3 := hid (PlnAt.of_block (by simp [z24]) (zP_is ▸ (blk_row_same ((((w.alloc (.cells (bcells B) 32)).alloc (.cells (scells hs ts) 45)).alloc (.cells (zP) 47)).alloc (.cells (zP) 47)) (w.heap.size + 1 + 1 + 1) zP zP _ _ HB3.out)))
  have H2 := hid (below_setRow H0.out (g := w.heap.size + 1 + 1 + 1) (by omega) zP)
  go_enter Try.func48, Try.ntmps48
  go_wp2_with (first | (refine wpList_store_row rfl 47 _ _ rfl (w.heap.size + 1 + 1 + 1) zP rfl rfl 47 zP HB3.out HZ3.out rfl zP_one ?_) | (go_at_call 67; with_reducible refine (CH0.out _).mono ?_; rintro e w' ⟨rfl, rfl⟩) | (go_at_call 68; with_reducible refine (CH1.out _).mono ?_; rintro e w' ⟨rfl, rfl⟩) | (go_at_call 68; with_reducible refine (CH2.out _).mono ?_; rintro e w' ⟨rfl, rfl⟩) | (go_at_call 66; refine (C1.out _ (BldAt.of_block HC0.out) (SunAt.of_block LH.out LT.out HC1.out) HC3.out).mono ?_; rintro e w' ⟨rfl, rfl⟩) | (refine wpList_store_row rfl 47 _ _ rfl (w.heap.size + 1 + 1) zP rfl rfl 47 zP HC2.out HZ2.out rfl zP_one ?_))
  refine bodyPost_ret (v := .tuple #[.agg zP, .int .i64 0, .int .i64 cv]) (results_row_tmp2 rfl _ _ (w.heap.size + 1 + 1) 47 zP (0, 0) _ rfl (blk_row_same _ _ _ _ _ _ HC2.out) Try.underlying47 rfl HZ2.out _ _ rfl rfl) rfl ⟨by have Q := fcC_bad (B := B) (hs := hs) (ts := ts) (f := f) (lo := lo) (hi := hi) (by rw [CV.out]; exact hz2.out); rw [Q.1, Q.2.1, Q.2.2, CV.out, zP_is], below_setRow H2.out (by omega) _⟩
set_option maxHeartbeats 1000000 in
theorem c_specFewestChanges_g (B : Bld) (wf : WfB B) (hs ts : List Int) (lh : hs.length = 24) (lt : ts.length = 24) (bh : I16 hs) (bt : I16 ts) (f : Int) (lo hi : Nat) (wl : lo < 4294967296) (wh : hi < 4294967296) (w : World) (e1 : inB f 0 255 = true) (e2 : isPart lo = true) (e3 : isPart hi = true) (hz : fcA B hs ts f lo hi = 0) :
    Calls Try.prog 48 #[.agg (bcells B), .agg (scells hs ts), .int .i64 f, .float .f32 lo, .float .f32 hi] w fun e w' => e = .returned (.tuple #[.agg (i16s (fcL B hs ts f lo hi)), .int .i64 (fcN B hs ts f lo hi), .int .i64 (fcC B hs ts f lo hi)]) ∧ Below w.heap.size w w' := by
  have HB0 : Hid (((((w.alloc (.cells (bcells B) 32)).alloc (.cells (scells hs ts) 45)).alloc (.cells (zP) 47)).alloc (.cells (zP) 47)).heap[w.heap.size]? = some (.cells (bcells B) 32 (0, 0))) := hid ((blk_past _ _ _ (by simp <;> omega)).trans ((blk_past _ _ _ (by simp <;> omega)).trans ((blk_past _ _ _ (by simp)).trans (blk_at _ _ _ rfl))))
  have HZ0 : Hid ((Try.prog.info? 32).map (·.size) = some (bcells B).size) := hid (size_blind B)
  have HB1 : Hid (((((w.alloc (.cells (bcells B) 32)).alloc (.cells (scells hs ts) 45)).alloc (.cells (zP) 47)).alloc (.cells (zP) 47)).heap[w.heap.size + 1]? = some (.cells (scells hs ts) 45 (0, 0))) := hid ((blk_past _ _ _ (by simp <;> omega)).trans ((blk_past _ _ _ (by simp)).trans (blk_at _ _ _ (by simp))))
  have HZ1 : Hid ((Try.prog.info? 45).map (·.size) = some (scells hs ts).size) := hid (by rw [scells_size lh lt]; kernel_rfl)
  have HB2 : Hid (((((w.alloc (.cells (bcells B) 32)).alloc (.cells (scells hs ts) 45)).alloc (.cells (zP) 47)).alloc (.cells (zP) 47)).heap[w.heap.size + 1 + 1]? = some (.cells (zP) 47 (0, 0))) := hid ((blk_past _ _ _ (by simp)).trans (blk_at _ _ _ (by simp)))
  have HZ2 : Hid ((Try.prog.info? 47).map (·.size) = some (zP).size) := hid (zP_size)
  have HB3 : Hid (((((w.alloc (.cells (bcells B) 32)).alloc (.cells (scells hs ts) 45)).alloc (.cells (zP) 47)).alloc (.cells (zP) 47)).heap[w.heap.size + 1 + 1 + 1]? = some (.cells (zP) 47 (0, 0))) := hid (blk_at _ _ _ (by simp))
  have HZ3 : Hid ((Try.prog.info? 47).map (·.size) = some (zP).size) := hid (zP_size)
  have H0 : Hid (Below w.heap.size w ((((w.alloc (.cells (bcells B) 32)).alloc (.cells (scells hs ts) 45)).alloc (.cells (zP) 47)).alloc (.cells (zP) 47))) := hid (((((Below.refl _ _).alloc (Nat.le_refl _) _).alloc (by simp) _).alloc (by simp <;> omega) _).alloc (by simp <;> omega) _)
  have LH := hid lh
  have LT := hid lt
  have CG0 := fun w => c_l01Faced f w
  have CG1 := fun w => c_l01Part lo w
  have CG2 := fun w => c_l01Part hi w
  have KR : kwR f lo hi = true := by simp [kwR, e1, e2, e3]
  rw [e1] at CG0
  rw [e2] at CG1
  rw [e3] at CG2
  have C1 := hid (show ∀ wq, BldAt wq w.heap.size 0 B → SunAt wq (w.heap.size + 1) 0 hs ts → PlnAt wq (w.heap.size + 1 + 1 + 1) z24 → Calls Try.prog 66 #[.pointer (some ⟨w.heap.size, 0, none⟩), .pointer (some ⟨w.heap.size + 1, 0, none⟩), .pointer (some ⟨w.heap.size + 1 + 1 + 1, 0, none⟩), .bool true] wq fun e w' => e = .returned (.int .i64 (fcA B hs ts f lo hi)) ∧ wq = w' from by intro wq hA hS hP; have := c_l07Asked B wf hs ts z24 bh bt (by simp [z24]) z24_i16 (kwR f lo hi) _ _ _ _ _ wq hA hS hP; rw [z24_tilts, Bool.and_true] at this; unfold fcA; rw [KR] at this ⊢; exact this)
  have CH0 := hid CG0
  have CH1 := hid CG1
  have CH2 := hid CG2
  clear CG0 CG1 CG2
  obtain ⟨hok, -⟩ := codeOf_zero hz
  have hB := OkB.of wf (by simp only [Bool.and_eq_true] at hok; exact hok.1)
  have hS2 : okS hs ts = true := by simp only [Bool.and_eq_true] at hok; exact hok.2
  have hF : 0 ≤ f ∧ f ≤ 255 := by simpa [inB] using e1
  obtain ⟨T, hT⟩ : ∃ T, T = tF B hs ts f lo hi := ⟨_, rfl⟩
  have TT := hid hT
  have TM : Hid (∀ h x, x ∈ T h → -64 ≤ x ∧ x ≤ 64) := hid (fun h x hx => by rw [hT] at hx; exact tiltsK_mem hx)
  have TL : Hid (∀ h, (T h).length ≤ 129) := hid (fun h => by rw [hT]; exact tiltsK_len _ _)
  have TN : Hid (∀ h, (T h).Nodup) := hid (fun h => by rw [hT]; exact tiltsK_nodup _ _)
  have hlo := (part_in wl e2).fin
  have hhi := (part_in wh e3).fin
  have CT := hid (fun (k : Nat) (hk : k < 24) c b wx hA hS => show Calls Try.prog 82 #[.pointer (some ⟨c, 0, none⟩), .pointer (some ⟨b, 0, none⟩), .int .i64 f, .int .i64 (k : Int), .float .f32 lo, .float .f32 hi] wx fun e w' => (∃ v, e = .returned v ∧ GotI w' wx.heap.size v (T k)) ∧ Below wx.heap.size wx w' from by rw [hT]; exact c_l07Tilts B hB c 0 b 0 k hs ts f lo hi wx hA hS hk ⟨(okS_at hS2 hk).1, (okS_at hS2 hk).2.1⟩ (okS_at hS2 hk).2.2 hF hlo hhi)
  clear wf lh lt bh bt hok hB hS2 hF hlo hhi wl wh hT
  have hz2 : Hid (fcA B hs ts f lo hi = 0) := hid hz
  rw [hz] at C1
  clear hz
  have HC0 := hid ((setRow_other ((((w.alloc (.cells (bcells B) 32)).alloc (.cells (scells hs ts) 45)).alloc (.cells (zP) 47)).alloc (.cells (zP) 47)) (w.heap.size + 1 + 1 + 1) (w.heap.size) zP (by omega)).trans HB0.out)
  have HC1 := hid ((setRow_other ((((w.alloc (.cells (bcells B) 32)).alloc (.cells (scells hs ts) 45)).alloc (.cells (zP) 47)).alloc (.cells (zP) 47)) (w.heap.size + 1 + 1 + 1) (w.heap.size + 1) zP (by omega)).trans HB1.out)
  have HC2 := hid ((setRow_other ((((w.alloc (.cells (bcells B) 32)).alloc (.cells (scells hs ts) 45)).alloc (.cells (zP) 47)).alloc (.cells (zP) 47)) (w.heap.size + 1 + 1 + 1) (w.heap.size + 1 + 1) zP (by omega)).trans HB2.out)
  have HC3 := hid (PlnAt.of_block (by simp [z24]) (zP_is ▸ (blk_row_same ((((w.alloc (.cells (bcells B) 32)).alloc (.cells (scells hs ts) 45)).alloc (.cells (zP) 47)).alloc (.cells (zP) 47)) (w.heap.size + 1 + 1 + 1) zP zP _ _ HB3.out)))
  have H2 := hid (below_setRow H0.out (g := w.heap.size + 1 + 1 + 1) (by omega) zP)
  go_enter Try.func48, Try.ntmps48
  go_wp2_with (first | (refine wpList_store_row rfl 47 _ _ rfl (w.heap.size + 1 + 1 + 1) zP rfl rfl 47 zP HB3.out HZ3.out rfl zP_one ?_) | (go_at_call 67; with_reducible refine (CH0.out _).mono ?_; rintro e w' ⟨rfl, rfl⟩) | (go_at_call 68; with_reducible refine (CH1.out _).mono ?_; rintro e w' ⟨rfl, rfl⟩) | (go_at_call 68; with_reducible refine (CH2.out _).mono ?_; rintro e w' ⟨rfl, rfl⟩) | (go_at_call 66; refine (C1.out _ (BldAt.of_block HC0.out) (SunAt.of_block LH.out LT.out HC1.out) HC3.out).mono ?_; rintro e w' ⟨rfl, rfl⟩) | (refine wpList_store_row rfl 47 _ _ rfl (w.heap.size + 1 + 1) zP rfl rfl 47 zP HC2.out HZ2.out rfl zP_one ?_))
  have HEO := hid (blk_row_same ((((w.alloc (.cells (bcells B) 32)).alloc (.cells (scells hs ts) 45)).alloc (.cells (zP) 47)).alloc (.cells (zP) 47)) (w.heap.size + 1 + 1 + 1) zP zP _ _ HB3.out)
  generalize hws : ((((w.alloc (.cells (bcells B) 32)).alloc (.cells (scells hs ts) 45)).alloc (.cells (zP) 47)).alloc (.cells (zP) 47)).setRow (w.heap.size + 1 + 1 + 1) zP = ws at HC0 HC1 HC2 HC3 HEO H2
  have WSE := hid hws
  clear hws
  try rw [show (#[Value.int .i16 0, .int .i16 0, .int .i16 0, .int .i16 0, .int .i16 0, .int .i16 0, .int .i16 0, .int .i16 0, .int .i16 0, .int .i16 0, .int .i16 0, .int .i16 0, .int .i16 0, .int .i16 0, .int .i16 0, .int .i16 0, .int .i16 0, .int .i16 0, .int .i16 0, .int .i16 0, .int .i16 0, .int .i16 0, .int .i16 0, .int .i16 0] : Array Value) = zP from rfl, WSE.out]
  go_wp2_with fail
  refine (CT.out 0 (by omega) _ _ _ (BldAt.of_block HC0.out) (SunAt.of_block LH.out LT.out HC1.out)).mono ?_
  rintro e w3 ⟨⟨v0, rfl, hv0⟩, h3⟩
  have Z3 := hid (block_lt HEO.out)
  have B3 := hid (below_trans (Below.refl _ _) h3 (Nat.le_of_lt Z3.out))
  have BO3 := hid ((h3.block _ Z3.out).trans HEO.out)
  have V0 : Hid (GotI w3 (w.heap.size + 1 + 1 + 1 + 1) v0 (T 0)) := hid (ownsRow_from hv0 (by have := Z3.out; omega))
  have L0 := hid (block_lt HC0.out)
  have L1 := hid (block_lt HC1.out)
  have L2 := hid (block_lt HC2.out)
  clear h3 hv0
  go_wp2_with fail
  go_loopw [15, 16, 17] (fun fv av i wr => ∃ k : Nat, k ≤ 24 ∧ i = .int .i64 k ∧ fv = .int .i64 (fwG T k : Nat) ∧ (∃ a2, a2 = av ∧ GotI wr (w.heap.size + 1 + 1 + 1 + 1) a2 (fwB T k)) ∧ (∀ j, j < k → T j ≠ []) ∧ wr.heap[w.heap.size + 1 + 1 + 1]? = some (.cells (i16s (fwS T k)) 47 (0, 0)) ∧ Below (w.heap.size + 1 + 1 + 1) ws wr) (fun _ _ i _ => 24 - (intOf i).toNat)
  case atStart => exact ⟨0, by omega, rfl, rfl, ⟨_, rfl, V0.out⟩, fun j hj => by omega, by have := BO3.out; rw [zP_is] at this; exact this, B3.out⟩
  case round =>
    obtain ⟨k, hk, rfl, rfl, ⟨av, rfl, hga⟩, hall, hbo, hbel⟩ := hrel
    have AL := hid hall
    have GA := hid hga
    have BO := hid hbo
    have BE := hid hbel
    have ZR := hid (block_lt hbo)
    clear hall hga hbo hbel
    have HJ0 := hid ((BE.out.block _ (by omega)).trans HC0.out)
    have HJ1 := hid ((BE.out.block _ (by omega)).trans HC1.out)
    have HJ2 := hid ((BE.out.block _ (by omega)).trans HC2.out)
    by_cases hlt : k < 24
    · have hki : (k : Int) < 24 := by omega
      have hkd : decide ((k : Int) < 24) = true := by simpa using hki
      go_wp2_with fail
      refine (CT.out k hlt _ _ _ (BldAt.of_block HJ0.out) (SunAt.of_block LH.out LT.out HJ1.out)).mono ?_
      rintro e w4 ⟨⟨v, rfl, hv⟩, h4⟩
      have BO4 := hid ((h4.block _ ZR.out).trans BO.out)
      have B4 := hid (below_trans BE.out h4 (Nat.le_of_lt ZR.out))
      have J2 := hid ((h4.block _ (block_lt HJ2.out)).trans HJ2.out)
      have HV : Hid (GotI w4 (w.heap.size + 1 + 1 + 1 + 1) v (T k)) := hid (ownsRow_from hv (by have := ZR.out; omega))
      have GA4 : Hid (GotI w4 (w.heap.size + 1 + 1 + 1 + 1) av (fwB T k)) := hid (ownsRow_below GA.out h4)
      clear h4 hv
      obtain ⟨ad, cap, hve, _, _⟩ := (HV.out.ints (by have := TL.out k; omega)).any
      obtain ⟨n, hnn⟩ : ∃ n, n = (T k).length := ⟨_, rfl⟩
      rw [← hnn] at hve
      subst hve
      have TLn : n ≤ 129 := by rw [hnn]; exact TL.out k
      by_cases hT : T k = []
      · have R3 := hid (fcC_none hz2.out hlt (TT.out ▸ hT))
        have hn0 : n = 0 := by rw [hnn, hT]; rfl
        have BF := hid (H2.out.trans (B4.out.mono (by omega : w.heap.size ≤ w.heap.size + 1 + 1 + 1)))
        clear hnn hT
        subst hn0
        go_wp2_with (refine wpList_store_row rfl 47 _ _ rfl (w.heap.size + 1 + 1) zP rfl rfl 47 zP J2.out HZ2.out rfl zP_one ?_)
        refine bodyPost_ret (v := .tuple #[.agg zP, .int .i64 0, .int .i64 6]) (results_row_tmp2 rfl _ _ (w.heap.size + 1 + 1) 47 zP (0, 0) _ rfl (blk_row_same _ _ _ _ _ _ J2.out) Try.underlying47 rfl HZ2.out _ _ rfl rfl) rfl ⟨by rw [R3.out.1, R3.out.2.1, R3.out.2.2, zP_is], below_setRow BF.out (by omega) _⟩
      · have hn : 0 < n := by rw [hnn]; exact List.length_pos_iff.2 hT
        have hne : ((n : Int) == 0) = false := by simp; omega
        have HTN := hid hT
        clear hnn hT
        have CB : (fwB T k).length ≤ 129 := fwB_len TL.out k
        have C5 := hid (c_l07Both av _ (fwB T k) (T k) w4 (GA4.out.ints (by omega)) (HV.out.ints (by have := TL.out k; omega)) CB)
        clear CB
        go_wp2_with fail
        refine C5.out.mono ?_
        rintro e w5 ⟨⟨r, rfl, hr⟩, h5⟩
        have BO5 := hid ((h5.block _ (block_lt BO4.out)).trans BO4.out)
        have B5 := hid (below_trans B4.out h5 (Nat.le_of_lt (block_lt BO4.out)))
        have HR : Hid (GotI w5 (w.heap.size + 1 + 1 + 1 + 1) r (bothL (fwB T k) (T k))) := hid (ownsRow_from hr (by have := block_lt BO4.out; omega))
        have HV5 := hid (show GotI w5 _ _ _ from ownsRow_below HV.out h5)
        clear h5 hr
        have BLn := bothL_len (fwB T k) (T k)
        have CB : (fwB T k).length ≤ 129 := fwB_len TL.out k
        obtain ⟨ad2, cap2, hre, _, _⟩ := (HR.out.ints (by omega)).any
        obtain ⟨n2, hnn2⟩ : ∃ n, n = (bothL (fwB T k) (T k)).length := ⟨_, rfl⟩
        rw [← hnn2] at hre
        subst hre
        have hCn : fwC T k ≠ [] := fwC_ne' (fun j hj => (Nat.lt_or_ge j k).elim (fun h => AL.out j h) (fun h => (show j = k by omega) ▸ HTN.out))
        have HDM := hid (fwC_mem TM.out k _ (hd_mem hCn))
        have CP := hid (List.length_pos_iff.2 hCn)
        have CL := hid (fwC_len TL.out k)
        have BLm : n2 ≤ 129 := by omega
        have FL := hid (fwF_le T k)
        clear hCn CB BLn
        have AR : ∀ (ad) (n cap : Nat), GotI w5 (w.heap.size + 1 + 1 + 1 + 1) (.slice ad n cap) (fwC T k) → ∃ b o, ad = some ⟨b, o, none⟩ := by
          intro ad n cap hg
          obtain ⟨a', c', e, _, hat⟩ := (hg.ints (by have := CL.out; omega)).any
          obtain ⟨b, o, e2, _⟩ := hat CP.out
          simp only [Value.slice.injEq] at e
          exact ⟨b, o, e.1.trans e2⟩
        cases hb : (bothL (fwB T k) (T k)).isEmpty
        · have hb1 : 0 < n2 := by rw [hnn2]; exact List.length_pos_iff.2 (by intro e; rw [e] at hb; cases hb)
          have hbn : ((n2 : Int) == 0) = false := by simp; omega
          have N2 := fwB_ne hb
          have NF := hid N2.2
          have GC : Hid (GotI w5 (w.heap.size + 1 + 1 + 1 + 1) (.slice ad2 n2 cap2) (fwC T k)) := hid (by rw [N2.1]; exact HR.out)
          clear hb hnn2 N2
          obtain ⟨pb, po, rfl⟩ := AR _ _ _ GC.out
          clear AR
          rw [← NF.out]
          go_wp2_with fail
          go_loopw [20] (fun kv wr => ∃ m : Nat, fwF T k + m ≤ k + 1 ∧ kv = .int .i64 ((fwF T k + m : Nat) : Int) ∧ GotI wr (w.heap.size + 1 + 1 + 1 + 1) (.slice (some ⟨pb, po, none⟩) n2 cap2) (fwC T k) ∧ wr.heap[w.heap.size + 1 + 1 + 1]? = some (.cells (i16s (fillP (fwS T k) (fwF T k) (hd (fwC T k)) m)) 47 (0, 0)) ∧ Below (w.heap.size + 1 + 1 + 1) ws wr) (fun kv _ => 25 - (intOf kv).toNat)
          case atStart => exact ⟨0, by have := FL.out; omega, rfl, GC.out, BO5.out, B5.out⟩
          case round =>
            obtain ⟨m, hm, rfl, hg, hbo, hbel⟩ := hrel
            obtain ⟨x, hx⟩ : ∃ x, x = fwF T k + m := ⟨_, rfl⟩
            rw [← hx]
            have X := hid hx
            have G6 := hid hg
            have BO6 := hid hbo
            have BE6 := hid hbel
            have LN : Hid ((fillP (fwS T k) (fwF T k) (hd (fwC T k)) m).length = 24) := hid (by rw [fillP_len]; exact fwS_len _ _)
            clear hg hbo hbel
            rw [← hx] at hm
            clear hx
            by_cases hxk : x ≤ k
            · obtain ⟨a', c', e, _, hat⟩ := (G6.out.ints (by have := CL.out; omega)).any
              obtain ⟨b', o', e2, hcell⟩ := hat CP.out
              simp only [Value.slice.injEq] at e
              have e3 := e.1.trans e2
              injection e3 with e4
              injection e4 with e5 e6
              subst e5 e6
              have cL := hcell 0 CP.out
              rw [← hd_iat, Nat.add_zero] at cL
              have cG := (cell_of_row _ _ x _ _ _ BO6.out).trans (i16s_at LN.out (by omega))
              have fG := frozen_of_row _ _ x _ _ BO6.out
              have hx24 : (x : Int) < 24 := by omega
              have hxk2 : (x : Int) ≤ (k : Int) := by omega
              have SG := hid (set_oneI (v := hd (fwC T k)) BO6.out (show x < (fillP (fwS T k) (fwF T k) (hd (fwC T k)) m).length by rw [LN.out]; omega))
              have SB : Hid (Below (w.heap.size + 1 + 1 + 1) ws (wr.setCell ⟨w.heap.size + 1 + 1 + 1, x, none⟩ (.int .i16 (hd (fwC T k))))) := hid (BE6.out.setCell (p := ⟨w.heap.size + 1 + 1 + 1, x, none⟩) (Nat.le_refl _) _)
              have G7 := hid ((Fr2.setF (F := w.heap.size + 1 + 1 + 1) (G := w.heap.size + 1 + 1 + 1) (block_lt BO6.out) x (.int .i16 (hd (fwC T k)))).got G6.out (by omega) (by omega))
              have FP : Hid (fillP (fwS T k) (fwF T k) (hd (fwC T k)) (m + 1) = (fillP (fwS T k) (fwF T k) (hd (fwC T k)) m).set x (hd (fwC T k))) := hid (by rw [fillP, ← X.out])
              obtain ⟨d1, d2⟩ := HDM.out
              clear hcell hat e e2
              generalize hz9 : hd (fwC T k) = z at *
              go_wp2_with fail
              exact ⟨⟨m + 1, by have := X.out; omega, by rw [show ((fwF T k + (m + 1) : Nat) : Int) = (x : Int) + 1 by have := X.out; omega], G7.out, by rw [FP.out]; exact SG.out, SB.out⟩, by simp [intOf]; omega⟩
            · obtain rfl : x = k + 1 := by omega
              have SE : Hid (fillP (fwS T k) (fwF T k) (hd (fwC T k)) m = fwS T (k + 1)) := hid (by rw [fwS, show k + 1 - fwF T k = m by have := X.out; omega])
              go_wp2_with fail
              exact ⟨⟨k + 1, by omega, by go_num, rfl, ⟨_, rfl, G6.out⟩, fun j hj => (Nat.lt_or_ge j k).elim (fun h => AL.out j h) (fun h => (show j = k by omega) ▸ HTN.out), by rw [← SE.out]; exact BO6.out, BE6.out⟩, by simp [intOf]; omega⟩
        · have hb0 : bothL (fwB T k) (T k) = [] := List.isEmpty_iff.1 hb
          have hn20 : n2 = 0 := by rw [hnn2, hb0]; rfl
          have N2 := fwB_em HTN.out hb
          have NF := hid N2.2
          have GC : Hid (GotI w5 (w.heap.size + 1 + 1 + 1 + 1) (.slice ad n cap) (fwC T k)) := hid (by rw [N2.1]; exact HV5.out)
          clear hb hnn2 N2 hb0 BLm
          subst hn20
          obtain ⟨pb, po, rfl⟩ := AR _ _ _ GC.out
          clear AR
          go_wp2_with fail
          go_loopw [20] (fun kv wr => ∃ m : Nat, fwF T k + m ≤ k + 1 ∧ kv = .int .i64 ((fwF T k + m : Nat) : Int) ∧ GotI wr (w.heap.size + 1 + 1 + 1 + 1) (.slice (some ⟨pb, po, none⟩) n cap) (fwC T k) ∧ wr.heap[w.heap.size + 1 + 1 + 1]? = some (.cells (i16s (fillP (fwS T k) (fwF T k) (hd (fwC T k)) m)) 47 (0, 0)) ∧ Below (w.heap.size + 1 + 1 + 1) ws wr) (fun kv _ => 25 - (intOf kv).toNat)
          case atStart => exact ⟨0, by have := FL.out; omega, by rw [NF.out]; rfl, GC.out, BO5.out, B5.out⟩
          case round =>
            obtain ⟨m, hm, rfl, hg, hbo, hbel⟩ := hrel
            obtain ⟨x, hx⟩ : ∃ x, x = fwF T k + m := ⟨_, rfl⟩
            rw [← hx]
            have X := hid hx
            have G6 := hid hg
            have BO6 := hid hbo
            have BE6 := hid hbel
            have LN : Hid ((fillP (fwS T k) (fwF T k) (hd (fwC T k)) m).length = 24) := hid (by rw [fillP_len]; exact fwS_len _ _)
            clear hg hbo hbel
            rw [← hx] at hm
            clear hx
            by_cases hxk : x ≤ k
            · obtain ⟨a', c', e, _, hat⟩ := (G6.out.ints (by have := CL.out; omega)).any
              obtain ⟨b', o', e2, hcell⟩ := hat CP.out
              simp only [Value.slice.injEq] at e
              have e3 := e.1.trans e2
              injection e3 with e4
              injection e4 with e5 e6
              subst e5 e6
              have cL := hcell 0 CP.out
              rw [← hd_iat, Nat.add_zero] at cL
              have cG := (cell_of_row _ _ x _ _ _ BO6.out).trans (i16s_at LN.out (by omega))
              have fG := frozen_of_row _ _ x _ _ BO6.out
              have hx24 : (x : Int) < 24 := by omega
              have hxk2 : (x : Int) ≤ (k : Int) := by omega
              have SG := hid (set_oneI (v := hd (fwC T k)) BO6.out (show x < (fillP (fwS T k) (fwF T k) (hd (fwC T k)) m).length by rw [LN.out]; omega))
              have SB : Hid (Below (w.heap.size + 1 + 1 + 1) ws (wr.setCell ⟨w.heap.size + 1 + 1 + 1, x, none⟩ (.int .i16 (hd (fwC T k))))) := hid (BE6.out.setCell (p := ⟨w.heap.size + 1 + 1 + 1, x, none⟩) (Nat.le_refl _) _)
              have G7 := hid ((Fr2.setF (F := w.heap.size + 1 + 1 + 1) (G := w.heap.size + 1 + 1 + 1) (block_lt BO6.out) x (.int .i16 (hd (fwC T k)))).got G6.out (by omega) (by omega))
              have FP : Hid (fillP (fwS T k) (fwF T k) (hd (fwC T k)) (m + 1) = (fillP (fwS T k) (fwF T k) (hd (fwC T k)) m).set x (hd (fwC T k))) := hid (by rw [fillP, ← X.out])
              obtain ⟨d1, d2⟩ := HDM.out
              clear hcell hat e e2
              generalize hz9 : hd (fwC T k) = z at *
              go_wp2_with fail
              exact ⟨⟨m + 1, by have := X.out; omega, by rw [show ((fwF T k + (m + 1) : Nat) : Int) = (x : Int) + 1 by have := X.out; omega], G7.out, by rw [FP.out]; exact SG.out, SB.out⟩, by simp [intOf]; omega⟩
            · obtain rfl : x = k + 1 := by omega
              have SE : Hid (fillP (fwS T k) (fwF T k) (hd (fwC T k)) m = fwS T (k + 1)) := hid (by rw [fwS, show k + 1 - fwF T k = m by have := X.out; omega])
              go_wp2_with fail
              exact ⟨⟨k + 1, by omega, by go_num, by rw [show fwG T (k + 1) = k from NF.out], ⟨_, rfl, G6.out⟩, fun j hj => (Nat.lt_or_ge j k).elim (fun h => AL.out j h) (fun h => (show j = k by omega) ▸ HTN.out), by rw [← SE.out]; exact BO6.out, BE6.out⟩, by simp [intOf]; omega⟩
    · obtain rfl : k = 24 := by omega
      have ANE : Hid (∀ h, h < 24 → T h ≠ []) := hid AL.out
      have R3 := hid (fcC_all hz2.out (fun k hk => TT.out ▸ ANE.out k hk))
      have PL : Hid ((fwS T 24).length = 24) := hid (fwS_len _ _)
      have PS : Hid ((Try.prog.info? 47).map (·.size) = some (i16s (fwS T 24)).size) := hid (by rw [i16s_size, PL.out]; kernel_rfl)
      have PZ : Hid (zP.size = (i16s (fwS T 24)).size) := hid (by rw [i16s_size, PL.out]; rfl)
      have BF := hid (H2.out.trans (BE.out.mono (by omega : w.heap.size ≤ w.heap.size + 1 + 1 + 1)))
      have R4 := hid (show fcC B hs ts f lo hi = 0 ∧ fcL B hs ts f lo hi = fwS T 24 ∧ fcN B hs ts f lo hi = chg (fwS T 24) 23 from TT.out ▸ R3.out)
      have PO := hid (fun k hk => (cell_of_row wr _ k _ _ _ BO.out).trans (i16s_at PL.out hk))
      clear GA ANE AL R3 CT
      generalize fwS T 24 = PP at *
      go_wp2_with fail
      refine wp_region_held (S := fun wx => wx.heap[(w.heap.size + 1 + 1 + 1)]? = some (.cells (i16s PP) 47 (0, 0))) (by kernel_rfl) ?_
      refine wpAnyH_take (i := 0) (fuel := 4) rfl (by kernel_rfl) (by kernel_rfl) (by kernel_rfl) (fun c a w h => h) (yieldsIf_row rfl _ _ rfl (w.heap.size + 1 + 1 + 1) rfl 47 (i16s PP) (0, 0) _ (fun wx h => h) Try.underlying47 rfl PS.out) BO.out ?_
      refine wpAnyH_all (rs := [1]) (fuel := 3) (by kernel_rfl) (by simp) ?_
      intro i hi
      obtain rfl : i = 1 := by simpa using hi
      refine wpOp_plain rfl rfl ?_
      go_simp
      go_at_call 96
      refine (c_l07Changes PP (w.heap.size + 1 + 1 + 1) wr.drew (fun k hk => PO.out k hk)).mono ?_
      rintro e w7 ⟨rfl, h7⟩
      have D7 : Hid (Below wr.heap.size wr w7) := hid ⟨h7.os, h7.tape, h7.output, h7.size, h7.block⟩
      clear h7
      have KO := hid ((D7.out.block _ (block_lt BO.out)).trans BO.out)
      have K2 := hid ((D7.out.block _ (block_lt HJ2.out)).trans HJ2.out)
      have B7 := hid (below_trans BF.out D7.out BF.out.size)
      have ZL : w.heap.size + 1 + 1 < w.heap.size + 1 + 1 + 1 := by omega
      refine ⟨KO.out, ?_⟩
      refine wpAnyH_all (rs := [2]) (fuel := 2) (by kernel_rfl) (by simp) ?_
      intro i hi
      obtain rfl : i = 2 := by simpa using hi
      refine wpOp_plain rfl rfl ?_
      refine wp_store_row 47 _ _ rfl (w.heap.size + 1 + 1) (i16s PP) rfl rfl 47 zP K2.out PS.out PZ.out (i16s_one _) ?_
      have JO := hid ((setRow_other w7 (w.heap.size + 1 + 1) (w.heap.size + 1 + 1 + 1) (i16s PP) (by omega)).trans KO.out)
      refine ⟨JO.out, ?_⟩
      refine wpAnyH_all (rs := [3]) (fuel := 1) (by kernel_rfl) (by simp) ?_
      intro i hi
      obtain rfl : i = 3 := by simpa using hi
      refine wpOp_plain rfl rfl ?_
      go_simp
      refine ⟨JO.out, ?_⟩
      refine wpAnyH_all (rs := [4]) (fuel := 0) (by kernel_rfl) (by simp) ?_
      intro i hi
      obtain rfl : i = 4 := by simpa using hi
      refine wpOp_plain rfl rfl ?_
      go_simp
      refine ⟨JO.out, ?_⟩
      refine wpAnyH_done (by kernel_rfl) ?_ 0
      simp only [Exit.then]
      go_wp2_with fail
      refine bodyPost_ret (v := .tuple #[.agg (i16s PP), .int .i64 (chg PP 23), .int .i64 0]) (results_row_tmp2 rfl _ _ (w.heap.size + 1 + 1) 47 (i16s PP) (0, 0) _ rfl (blk_row_same _ _ zP _ _ _ K2.out) Try.underlying47 rfl PS.out _ _ rfl rfl) rfl ⟨by rw [R4.out.1, R4.out.2.1, R4.out.2.2], below_setRow B7.out (by omega) _⟩
theorem c_specFewestChanges (B : Bld) (wf : WfB B) (hs ts : List Int) (lh : hs.length = 24) (lt : ts.length = 24) (bh : I16 hs) (bt : I16 ts) (f : Int) (lo hi : Nat) (wl : lo < 4294967296) (wh : hi < 4294967296) (w : World) :
    Calls Try.prog 48 #[.agg (bcells B), .agg (scells hs ts), .int .i64 f, .float .f32 lo, .float .f32 hi] w fun e w' => e = .returned (.tuple #[.agg (i16s (fcL B hs ts f lo hi)), .int .i64 (fcN B hs ts f lo hi), .int .i64 (fcC B hs ts f lo hi)]) ∧ Below w.heap.size w w' := by
  cases e1 : inB f 0 255
  · exact c_specFewestChanges_b0 B wf hs ts lh lt bh bt f lo hi wl wh w e1 (fun hz => by have h := (codeOf_zero hz).2; simp [kwR, e1] at h)
  · skip
    cases e2 : isPart lo
    · exact c_specFewestChanges_b1 B wf hs ts lh lt bh bt f lo hi wl wh w e1 e2 (fun hz => by have h := (codeOf_zero hz).2; simp [kwR, e1, e2] at h)
    · skip
      cases e3 : isPart hi
      · exact c_specFewestChanges_b2 B wf hs ts lh lt bh bt f lo hi wl wh w e1 e2 e3 (fun hz => by have h := (codeOf_zero hz).2; simp [kwR, e1, e2, e3] at h)
      · skip
        by_cases hz : fcA B hs ts f lo hi = 0
        · exact c_specFewestChanges_g B wf hs ts lh lt bh bt f lo hi wl wh w e1 e2 e3 hz
        · exact c_specFewestChanges_b3 B wf hs ts lh lt bh bt f lo hi wl wh w e1 e2 e3 hz
end Go.Proofs.Ythnffhmefgfnkaa
