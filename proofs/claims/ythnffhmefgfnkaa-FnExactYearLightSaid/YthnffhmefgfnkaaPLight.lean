/- Walks of PlanLight. -/
import Derived.Test.YthnffhmefgfnkaaLights
namespace Go.Proofs.Ythnffhmefgfnkaa
set_option maxRecDepth 20000
open Go.RowKit

theorem ownsRow_from {w : World} {lo lo' s n : Nat} {T : TypeId} {v : Value} {l : List Value} (h : w.ownsRow lo T s v n l) (hl : lo' ≤ lo) : w.ownsRow lo' T s v n l :=
  ⟨h.1, h.2.imp id fun ⟨g, cap, cur, h1, h2, h3, h4⟩ => ⟨g, cap, cur, h1, Nat.le_trans hl h2, h3, h4⟩⟩
theorem got_empty (w : World) (n lo : Nat) (hn : n = w.heap.size) (h : lo ≤ n) : GotF (w.alloc (.cells #[] 23)) lo (.slice (some ⟨n, 0, none⟩) 0 0) [] := by
  subst hn; exact ownsRow_from (owns_empty _ _) h
def plR (f : Int) : Bool := inB f 0 255
def plC (B : Bld) (hs ts p : List Int) (f : Int) : Int := codeOf (okB B && okS hs ts && tilts p) (plR f)
def plL (B : Bld) (hs ts p : List Int) (f : Int) : List Nat := if plC B hs ts p f = 0 then lightsK B hs ts f p 24 else []
theorem plC_zero {B : Bld} {hs ts p : List Int} {f : Int} (h : plC B hs ts p f = 0) : okB B = true ∧ okS hs ts = true ∧ tilts p = true ∧ 0 ≤ f ∧ f ≤ 255 := by
  obtain ⟨h1, h2⟩ := codeOf_zero h
  simp only [Bool.and_eq_true] at h1
  exact ⟨h1.1.1, h1.1.2, h1.2, by simpa [plR, inB] using h2⟩
theorem plL_len (B : Bld) (hs ts p : List Int) (f : Int) : (plL B hs ts p f).length ≤ 99 := by
  unfold plL; split
  · rw [lightsK_len]; omega
  · simp
theorem plL_word {B : Bld} (wf : WfB B) {hs ts p : List Int} (lp : p.length = 24) (f : Int) : ∀ k, k < (plL B hs ts p f).length → fat (plL B hs ts p f) k < 4294967296 := by
  unfold plL; split
  · next h =>
    obtain ⟨h1, h2, h3, _⟩ := plC_zero h
    exact lightsK_word (OkB.of wf h1) h2 f (tilts_at lp h3)
  · intro k hk; simp at hk
set_option maxHeartbeats 1000000 in
theorem c_implPlanLight (B : Bld) (wf : WfB B) (hs ts p : List Int) (lh : hs.length = 24) (lt : ts.length = 24) (lp : p.length = 24) (bh : I16 hs) (bt : I16 ts) (bp : I16 p) (f : Int) (w : World) :
    Calls Try.prog 37 #[.agg (bcells B), .agg (scells hs ts), .int .i64 f, .agg (i16s p)] w fun e w' => (∃ v, e = .returned (.tuple #[v, .int .i64 (plC B hs ts p f)]) ∧ GotF w' w.heap.size v (plL B hs ts p f)) ∧ Below w.heap.size w w' := by
  have HB0 : Hid ((((w.alloc (.cells (bcells B) 32)).alloc (.cells (scells hs ts) 45)).alloc (.cells (i16s p) 47)).heap[w.heap.size]? = some (.cells (bcells B) 32 (0, 0))) := hid ((blk_past _ _ _ (by simp; omega)).trans ((blk_past _ _ _ (by simp)).trans (blk_at _ _ _ rfl)))
  have HZ0 : Hid ((Try.prog.info? 32).map (·.size) = some (bcells B).size) := hid (size_blind B)
  have HB1 : Hid ((((w.alloc (.cells (bcells B) 32)).alloc (.cells (scells hs ts) 45)).alloc (.cells (i16s p) 47)).heap[w.heap.size + 1]? = some (.cells (scells hs ts) 45 (0, 0))) := hid ((blk_past _ _ _ (by simp)).trans (blk_at _ _ _ (by simp)))
  have HZ1 : Hid ((Try.prog.info? 45).map (·.size) = some (scells hs ts).size) := hid (by rw [scells_size lh lt]; kernel_rfl)
  have HB2 : Hid ((((w.alloc (.cells (bcells B) 32)).alloc (.cells (scells hs ts) 45)).alloc (.cells (i16s p) 47)).heap[w.heap.size + 1 + 1]? = some (.cells (i16s p) 47 (0, 0))) := hid (blk_at _ _ _ (by simp))
  have HZ2 : Hid ((Try.prog.info? 47).map (·.size) = some (i16s p).size) := hid (by rw [i16s_size, lp]; kernel_rfl)
  have H0 : Hid (Below w.heap.size w (((w.alloc (.cells (bcells B) 32)).alloc (.cells (scells hs ts) 45)).alloc (.cells (i16s p) 47))) := hid ((((Below.refl _ _).alloc (Nat.le_refl _) _).alloc (by simp) _).alloc (by simp; omega) _)
  have CG0 := fun w => c_isFacing f w
  cases e1 : inB f 0 255
  · skip
    have KR : plR f = false := by simp [plR, e1]
    rw [e1] at CG0
    have C1 := hid (fun w => show Calls Try.prog 71 #[.agg (bcells B), .agg (scells hs ts), .agg (i16s p), .bool false] w fun e w' => e = .returned (.int .i64 (plC B hs ts p f)) ∧ Below w.heap.size w w' from by have := c_planCode B wf hs ts p lh lt lp bh bt bp (plR f) w; unfold plC; rw [KR] at this ⊢; exact this)
    have CH0 := hid CG0
    clear CG0
    by_cases hz : plC B hs ts p f = 0
    · have := (codeOf_zero hz).2
      rw [KR] at this; cases this
    · have hz2 : Hid (¬ plC B hs ts p f = 0) := hid hz
      generalize hcv : plC B hs ts p f = cv at *
      have CV := hid hcv
      have hne : (cv != 0) = true := by rw [bne_iff_ne]; exact hz
      clear hcv hz
      go_enter Try.func37, Try.ntmps37
      go_wp2_with fail
      refine wp_region_below (by kernel_rfl) (by kernel_rfl) ?_
      repeat (first | (refine wpQuiet_load_row rfl 32 _ rfl (w.heap.size) rfl 32 (bcells B) (0, 0) _ (fun wx hwx => (hwx.out.block _ (block_lt HB0.out)).trans HB0.out) Try.underlying32 rfl HZ0.out ?_) | (refine wpQuiet_load_row rfl 45 _ rfl (w.heap.size + 1) rfl 45 (scells hs ts) (0, 0) _ (fun wx hwx => (hwx.out.block _ (block_lt HB1.out)).trans HB1.out) Try.underlying45 rfl HZ1.out ?_) | (refine wpQuiet_load_row rfl 47 _ rfl (w.heap.size + 1 + 1) rfl 47 (i16s p) (0, 0) _ (fun wx hwx => (hwx.out.block _ (block_lt HB2.out)).trans HB2.out) Try.underlying47 rfl HZ2.out ?_) | (refine wpQuiet_step (fun K hK => ?_); go_simp; first | (refine hK _ ?_; clear hK K) | (refine ⟨_, fun _ _ => rfl, hK _ ?_⟩; clear hK K) | (apply Exists.intro; refine ⟨fun wx hwx => ?_, hK _ ?_⟩; (first | (with_reducible exact quiet_below_same hwx (CH0.out _)) | (with_reducible exact quiet_below hwx (C1.out _))); clear hK K)))
      refine wpQuiet_nil ?_
      intro w2 h2
      replace h2 := h2.out
      have HC0 := hid ((h2.block _ (block_lt HB0.out)).trans HB0.out)
      have HC1 := hid ((h2.block _ (block_lt HB1.out)).trans HB1.out)
      have HC2 := hid ((h2.block _ (block_lt HB2.out)).trans HB2.out)
      have H2 := hid (below_trans H0.out h2 H0.out.size)
      clear h2
      go_wp2
      go_ret2
      exact ⟨⟨_, rfl, by rw [plL, CV.out, if_neg hz2.out]; exact GotF.nil _ _⟩, H2.out⟩
  · skip
    have KR : plR f = true := by simp [plR, e1]
    rw [e1] at CG0
    have C1 := hid (fun w => show Calls Try.prog 71 #[.agg (bcells B), .agg (scells hs ts), .agg (i16s p), .bool true] w fun e w' => e = .returned (.int .i64 (plC B hs ts p f)) ∧ Below w.heap.size w w' from by have := c_planCode B wf hs ts p lh lt lp bh bt bp (plR f) w; unfold plC; rw [KR] at this ⊢; exact this)
    have CH0 := hid CG0
    clear CG0
    by_cases hz : plC B hs ts p f = 0
    · obtain ⟨hok, -⟩ := codeOf_zero hz
      have hB := OkB.of wf (by simp only [Bool.and_eq_true] at hok; exact hok.1.1)
      have hS2 : okS hs ts = true := by simp only [Bool.and_eq_true] at hok; exact hok.1.2
      have hP2 := tilts_at lp (by simp only [Bool.and_eq_true] at hok; exact hok.2)
      have hF : 0 ≤ f ∧ f ≤ 255 := by simpa [inB] using e1
      have CO := hid (fun d b w hP hS => c_lights B hB d b 0 hs ts p f w hP hS hS2 hP2 hF)
      have LP := hid lp
      have LH := hid lh
      have LT := hid lt
      clear wf lh lt lp bh bt bp hok hB hS2 hP2 hF
      have hz2 : Hid (plC B hs ts p f = 0) := hid hz
      rw [hz] at C1
      clear hz
      go_enter Try.func37, Try.ntmps37
      go_wp2_with fail
      refine wp_region_below (by kernel_rfl) (by kernel_rfl) ?_
      repeat (first | (refine wpQuiet_load_row rfl 32 _ rfl (w.heap.size) rfl 32 (bcells B) (0, 0) _ (fun wx hwx => (hwx.out.block _ (block_lt HB0.out)).trans HB0.out) Try.underlying32 rfl HZ0.out ?_) | (refine wpQuiet_load_row rfl 45 _ rfl (w.heap.size + 1) rfl 45 (scells hs ts) (0, 0) _ (fun wx hwx => (hwx.out.block _ (block_lt HB1.out)).trans HB1.out) Try.underlying45 rfl HZ1.out ?_) | (refine wpQuiet_load_row rfl 47 _ rfl (w.heap.size + 1 + 1) rfl 47 (i16s p) (0, 0) _ (fun wx hwx => (hwx.out.block _ (block_lt HB2.out)).trans HB2.out) Try.underlying47 rfl HZ2.out ?_) | (refine wpQuiet_step (fun K hK => ?_); go_simp; first | (refine hK _ ?_; clear hK K) | (refine ⟨_, fun _ _ => rfl, hK _ ?_⟩; clear hK K) | (apply Exists.intro; refine ⟨fun wx hwx => ?_, hK _ ?_⟩; (first | (with_reducible exact quiet_below_same hwx (CH0.out _)) | (with_reducible exact quiet_below hwx (C1.out _))); clear hK K)))
      refine wpQuiet_nil ?_
      intro w2 h2
      replace h2 := h2.out
      have HC0 := hid ((h2.block _ (block_lt HB0.out)).trans HB0.out)
      have HC1 := hid ((h2.block _ (block_lt HB1.out)).trans HB1.out)
      have HC2 := hid ((h2.block _ (block_lt HB2.out)).trans HB2.out)
      have H2 := hid (below_trans H0.out h2 H0.out.size)
      clear h2
      go_wp2_with (first | (refine wpList_load_row rfl 32 _ rfl (w.heap.size) rfl 32 (bcells B) (0, 0) _ HC0.out Try.underlying32 rfl HZ0.out ?_) | (go_at_call 80; refine (CO.out _ _ _ (PlnAt.of_block LP.out HC2.out) (SunAt.of_block LH.out LT.out HC1.out)).mono ?_; rintro e w3 ⟨⟨v, rfl, hv⟩, h3⟩))
      go_ret2
      exact ⟨⟨v, by rw [hz2.out]; rfl, by rw [plL, if_pos hz2.out]; unfold GotF; rw [lightsK_len]; exact ownsRow_from hv (by have := H2.out.size; omega)⟩, below_trans H2.out h3 H2.out.size⟩
    · have hz2 : Hid (¬ plC B hs ts p f = 0) := hid hz
      generalize hcv : plC B hs ts p f = cv at *
      have CV := hid hcv
      have hne : (cv != 0) = true := by rw [bne_iff_ne]; exact hz
      clear hcv hz
      go_enter Try.func37, Try.ntmps37
      go_wp2_with fail
      refine wp_region_below (by kernel_rfl) (by kernel_rfl) ?_
      repeat (first | (refine wpQuiet_load_row rfl 32 _ rfl (w.heap.size) rfl 32 (bcells B) (0, 0) _ (fun wx hwx => (hwx.out.block _ (block_lt HB0.out)).trans HB0.out) Try.underlying32 rfl HZ0.out ?_) | (refine wpQuiet_load_row rfl 45 _ rfl (w.heap.size + 1) rfl 45 (scells hs ts) (0, 0) _ (fun wx hwx => (hwx.out.block _ (block_lt HB1.out)).trans HB1.out) Try.underlying45 rfl HZ1.out ?_) | (refine wpQuiet_load_row rfl 47 _ rfl (w.heap.size + 1 + 1) rfl 47 (i16s p) (0, 0) _ (fun wx hwx => (hwx.out.block _ (block_lt HB2.out)).trans HB2.out) Try.underlying47 rfl HZ2.out ?_) | (refine wpQuiet_step (fun K hK => ?_); go_simp; first | (refine hK _ ?_; clear hK K) | (refine ⟨_, fun _ _ => rfl, hK _ ?_⟩; clear hK K) | (apply Exists.intro; refine ⟨fun wx hwx => ?_, hK _ ?_⟩; (first | (with_reducible exact quiet_below_same hwx (CH0.out _)) | (with_reducible exact quiet_below hwx (C1.out _))); clear hK K)))
      refine wpQuiet_nil ?_
      intro w2 h2
      replace h2 := h2.out
      have HC0 := hid ((h2.block _ (block_lt HB0.out)).trans HB0.out)
      have HC1 := hid ((h2.block _ (block_lt HB1.out)).trans HB1.out)
      have HC2 := hid ((h2.block _ (block_lt HB2.out)).trans HB2.out)
      have H2 := hid (below_trans H0.out h2 H0.out.size)
      clear h2
      go_wp2
      go_ret2
      exact ⟨⟨_, rfl, by rw [plL, CV.out, if_neg hz2.out]; exact GotF.nil _ _⟩, H2.out⟩
set_option maxHeartbeats 1000000 in
theorem c_specPlanLight (B : Bld) (wf : WfB B) (hs ts p : List Int) (lh : hs.length = 24) (lt : ts.length = 24) (lp : p.length = 24) (bh : I16 hs) (bt : I16 ts) (bp : I16 p) (f : Int) (w : World) :
    Calls Try.prog 36 #[.agg (bcells B), .agg (scells hs ts), .int .i64 f, .agg (i16s p)] w fun e w' => (∃ v, e = .returned (.tuple #[v, .int .i64 (plC B hs ts p f)]) ∧ GotF w' w.heap.size v (plL B hs ts p f)) ∧ Below w.heap.size w w' := by
  have HB0 : Hid ((((w.alloc (.cells (bcells B) 32)).alloc (.cells (scells hs ts) 45)).alloc (.cells (i16s p) 47)).heap[w.heap.size]? = some (.cells (bcells B) 32 (0, 0))) := hid ((blk_past _ _ _ (by simp; omega)).trans ((blk_past _ _ _ (by simp)).trans (blk_at _ _ _ rfl)))
  have HZ0 : Hid ((Try.prog.info? 32).map (·.size) = some (bcells B).size) := hid (size_blind B)
  have HB1 : Hid ((((w.alloc (.cells (bcells B) 32)).alloc (.cells (scells hs ts) 45)).alloc (.cells (i16s p) 47)).heap[w.heap.size + 1]? = some (.cells (scells hs ts) 45 (0, 0))) := hid ((blk_past _ _ _ (by simp)).trans (blk_at _ _ _ (by simp)))
  have HZ1 : Hid ((Try.prog.info? 45).map (·.size) = some (scells hs ts).size) := hid (by rw [scells_size lh lt]; kernel_rfl)
  have HB2 : Hid ((((w.alloc (.cells (bcells B) 32)).alloc (.cells (scells hs ts) 45)).alloc (.cells (i16s p) 47)).heap[w.heap.size + 1 + 1]? = some (.cells (i16s p) 47 (0, 0))) := hid (blk_at _ _ _ (by simp))
  have HZ2 : Hid ((Try.prog.info? 47).map (·.size) = some (i16s p).size) := hid (by rw [i16s_size, lp]; kernel_rfl)
  have H0 : Hid (Below w.heap.size w (((w.alloc (.cells (bcells B) 32)).alloc (.cells (scells hs ts) 45)).alloc (.cells (i16s p) 47))) := hid ((((Below.refl _ _).alloc (Nat.le_refl _) _).alloc (by simp) _).alloc (by simp; omega) _)
  have LP := hid lp
  have LH := hid lh
  have LT := hid lt
  have CG0 := fun w => c_l01Faced f w
  cases e1 : inB f 0 255
  · skip
    have KR : plR f = false := by simp [plR, e1]
    rw [e1] at CG0
    have C1 := hid (show ∀ wq, BldAt wq w.heap.size 0 B → SunAt wq (w.heap.size + 1) 0 hs ts → PlnAt wq (w.heap.size + 1 + 1) p → Calls Try.prog 66 #[.pointer (some ⟨w.heap.size, 0, none⟩), .pointer (some ⟨w.heap.size + 1, 0, none⟩), .pointer (some ⟨w.heap.size + 1 + 1, 0, none⟩), .bool false] wq fun e w' => e = .returned (.int .i64 (plC B hs ts p f)) ∧ wq = w' from by intro wq hA hS hP; have := c_l07Asked B wf hs ts p bh bt lp bp (plR f) _ _ _ _ _ wq hA hS hP; unfold plC; rw [KR] at this ⊢; exact this)
    have CH0 := hid CG0
    clear CG0
    by_cases hz : plC B hs ts p f = 0
    · have := (codeOf_zero hz).2
      rw [KR] at this; cases this
    · have hz2 : Hid (¬ plC B hs ts p f = 0) := hid hz
      generalize hcv : plC B hs ts p f = cv at *
      have CV := hid hcv
      have hne : (cv != 0) = true := by rw [bne_iff_ne]; exact hz
      clear hcv hz
      have HC0 := HB0
      have HC1 := HB1
      have HC2 := HB2
      have H2 := H0
      go_enter Try.func36, Try.ntmps36
      go_wp2_with (first | (go_at_call 67; with_reducible refine (CH0.out _).mono ?_; rintro e w' ⟨rfl, rfl⟩) | (go_at_call 66; refine (C1.out _ (BldAt.of_block HC0.out) (SunAt.of_block LH.out LT.out HC1.out) (PlnAt.of_block LP.out HC2.out)).mono ?_; rintro e w' ⟨rfl, rfl⟩))
      go_ret2
      exact ⟨⟨_, rfl, by rw [plL, CV.out, if_neg hz2.out]; exact got_empty _ _ _ (by simp) (by omega)⟩, H2.out.alloc H2.out.size _⟩
  · skip
    have KR : plR f = true := by simp [plR, e1]
    rw [e1] at CG0
    have C1 := hid (show ∀ wq, BldAt wq w.heap.size 0 B → SunAt wq (w.heap.size + 1) 0 hs ts → PlnAt wq (w.heap.size + 1 + 1) p → Calls Try.prog 66 #[.pointer (some ⟨w.heap.size, 0, none⟩), .pointer (some ⟨w.heap.size + 1, 0, none⟩), .pointer (some ⟨w.heap.size + 1 + 1, 0, none⟩), .bool true] wq fun e w' => e = .returned (.int .i64 (plC B hs ts p f)) ∧ wq = w' from by intro wq hA hS hP; have := c_l07Asked B wf hs ts p bh bt lp bp (plR f) _ _ _ _ _ wq hA hS hP; unfold plC; rw [KR] at this ⊢; exact this)
    have CH0 := hid CG0
    clear CG0
    by_cases hz : plC B hs ts p f = 0
    · obtain ⟨hok, -⟩ := codeOf_zero hz
      have hB := OkB.of wf (by simp only [Bool.and_eq_true] at hok; exact hok.1.1)
      have hS2 : okS hs ts = true := by simp only [Bool.and_eq_true] at hok; exact hok.1.2
      have hP2 := tilts_at lp (by simp only [Bool.and_eq_true] at hok; exact hok.2)
      have hF : 0 ≤ f ∧ f ≤ 255 := by simpa [inB] using e1
      have HPP := hid hP2
      have CO : Hid (∀ k : Nat, k < 24 → ∀ (c q b o : Nat) (w : World), BldAt w c q B → SunAt w b o hs ts → Calls Try.prog 75 #[.pointer (some ⟨c, q, none⟩), .pointer (some ⟨b, o, none⟩), .int .i64 f, .int .i64 (k : Int), .int .i64 (iat p k)] w fun e w' => e = .returned (.float .f32 (windowW (tiltB B (iat p k)) hs ts k f)) ∧ Below w.heap.size w w') := hid (fun k hk c q b o w hA hS => by have s := okS_at hS2 hk; exact c_l07At B hB c q b o k hs ts f (iat p k) w hA hS hk ⟨s.1, s.2.1⟩ s.2.2 hF (hP2 k hk))
      obtain ⟨i0, hi, hz0, hz1, hz9⟩ := info_parts info_f32
      have HI := hid hi
      have HZF0 := hid hz0
      have HZF1 := hid hz1
      have HZF2 := hid hz9
      clear wf lh lt lp bh bt bp hok hB hS2 hP2 hF hi hz0 hz1 hz9
      have hz2 : Hid (plC B hs ts p f = 0) := hid hz
      rw [hz] at C1
      clear hz
      have HC0 := HB0
      have HC1 := HB1
      have HC2 := HB2
      have H2 := H0
      go_enter Try.func36, Try.ntmps36
      go_wp2_with (first | (go_at_call 67; with_reducible refine (CH0.out _).mono ?_; rintro e w' ⟨rfl, rfl⟩) | (go_at_call 66; refine (C1.out _ (BldAt.of_block HC0.out) (SunAt.of_block LH.out LT.out HC1.out) (PlnAt.of_block LP.out HC2.out)).mono ?_; rintro e w' ⟨rfl, rfl⟩))
      go_loopw [11, 12] (fun v i wr => ∃ k : Nat, k ≤ 24 ∧ i = .int .i64 k ∧ wr.ownsRow (w.heap.size + 1 + 1 + 1) 23 1 v k ((lightsK B hs ts f p k).map (Value.float .f32)) ∧ Below (w.heap.size + 1 + 1 + 1) (((w.alloc (.cells (bcells B) 32)).alloc (.cells (scells hs ts) 45)).alloc (.cells (i16s p) 47)) wr) (fun _ i _ => 24 - (intOf i).toNat)
      case atStart => exact ⟨0, by omega, rfl, by have := owns_empty (((w.alloc (.cells (bcells B) 32)).alloc (.cells (scells hs ts) 45)).alloc (.cells (i16s p) 47)) 23; simpa [lightsK] using this, (Below.refl _ _).alloc (by simp) _⟩
      case round =>
        obtain ⟨k, hk, rfl, hown, hbel⟩ := hrel
        have O := hid hown
        have BE := hid hbel
        clear hown hbel
        by_cases hlt : k < 24
        · have hki : (k : Int) < 24 := by omega
          have pk := HPP.out k hlt
          have hwr : IntKind.i64.wrap (iat p k) = iat p k := by rw [IntWalk.i64_in] <;> omega
          have B1 : Hid (Below (((w.alloc (.cells (bcells B) 32)).alloc (.cells (scells hs ts) 45)).alloc (.cells (i16s p) 47)).heap.size (((w.alloc (.cells (bcells B) 32)).alloc (.cells (scells hs ts) 45)).alloc (.cells (i16s p) 47)) wr) := hid (by have := BE.out; simpa using this)
          have A1 := hid (BldAt.of_block ((B1.out.block _ (block_lt HC0.out)).trans HC0.out))
          have S1 := hid (SunAt.of_block LH.out LT.out ((B1.out.block _ (block_lt HC1.out)).trans HC1.out))
          have q6 := PlnAt.of_block LP.out ((B1.out.block _ (block_lt HC2.out)).trans HC2.out) k hlt
          have C4 := hid (CO.out k hlt)
          generalize hx : windowW (tiltB B (iat p k)) hs ts k f = x at *
          have X := hid hx
          clear hx
          go_wp2_with fail
          refine (C4.out _ _ _ _ _ A1.out S1.out).mono ?_
          rintro e w4 ⟨rfl, h4⟩
          have D4 := hid h4
          clear h4
          go_wp2_with (at_builtin; refine wpList_append_own _ rfl _ _ 64 rfl (w.heap.size + 1 + 1 + 1) 23 i0 (.float .f32 0) 1 4 Try.underlying64 HI.out HZF0.out HZF1.out HZF2.out rfl (by decide) _ _ _ rfl ((ownsRow_below O.out D4.out).alloc _) ⟨w4.heap.size, 0, none⟩ 1 1 [.float .f32 x] rfl rfl (one_at _ _ _) (one_cell _) (by unfold maxLen; omega) (by omega) (by have e1 := D4.out.size; have e2 := BE.out.size; simp at e2 ⊢; omega) ?_; intro v' w5 hown' hgrow _)
          have O1 := hid hown'
          have B3 : Hid (Below (w.heap.size + 1 + 1 + 1) (((w.alloc (.cells (bcells B) 32)).alloc (.cells (scells hs ts) 45)).alloc (.cells (i16s p) 47)) w4) := hid (BE.out.trans (D4.out.mono (by have := BE.out.size; simp at this; omega)))
          have B4 := hid (append_below2 B3.out (by have := B3.out.size; simp at this; omega) (ownsRow_below O.out D4.out) hgrow)
          clear hown' hgrow
          go_wp2
          exact ⟨⟨k + 1, by omega, by go_num, by rw [lightsK_succ, List.map_append, X.out]; exact O1.out, B4.out⟩, by simp [intOf]; omega⟩
        · obtain rfl : k = 24 := by omega
          go_wp2
          go_ret2
          exact ⟨⟨_, by rw [hz2.out]; rfl, by rw [plL, if_pos hz2.out]; unfold GotF; rw [lightsK_len]; exact ownsRow_from O.out (by omega)⟩, H2.out.trans (BE.out.mono (by omega))⟩
    · have hz2 : Hid (¬ plC B hs ts p f = 0) := hid hz
      generalize hcv : plC B hs ts p f = cv at *
      have CV := hid hcv
      have hne : (cv != 0) = true := by rw [bne_iff_ne]; exact hz
      clear hcv hz
      have HC0 := HB0
      have HC1 := HB1
      have HC2 := HB2
      have H2 := H0
      go_enter Try.func36, Try.ntmps36
      go_wp2_with (first | (go_at_call 67; with_reducible refine (CH0.out _).mono ?_; rintro e w' ⟨rfl, rfl⟩) | (go_at_call 66; refine (C1.out _ (BldAt.of_block HC0.out) (SunAt.of_block LH.out LT.out HC1.out) (PlnAt.of_block LP.out HC2.out)).mono ?_; rintro e w' ⟨rfl, rfl⟩))
      go_ret2
      exact ⟨⟨_, rfl, by rw [plL, CV.out, if_neg hz2.out]; exact got_empty _ _ _ (by simp) (by omega)⟩, H2.out.alloc H2.out.size _⟩
end Go.Proofs.Ythnffhmefgfnkaa
