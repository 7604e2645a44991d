/- Walks of KeepsWithin and FirstOutside. -/
import Derived.Test.YthnffhmefgfnkaaDay
namespace Go.Proofs.Ythnffhmefgfnkaa
set_option maxRecDepth 20000
open Go.RowKit

def outC (n : Nat) : Int := if n = 24 then -1 else (n : Int)
theorem c_l07Outside (B : Bld) (hB : OkB B) (c q b o d : Nat) (hs ts p : List Int) (f : Int) (lo hi : Nat) (w : World) (hA : BldAt w c q B) (hS : SunAt w b o hs ts) (hP : PlnAt w d p) (hs2 : okS hs ts = true) (hp : ∀ k, k < 24 → -64 ≤ iat p k ∧ iat p k ≤ 64) (hf : 0 ≤ f ∧ f ≤ 255) (hlo : isFin lo = true) (hhi : isFin hi = true) :
    Calls Try.prog 69 #[.pointer (some ⟨c, q, none⟩), .pointer (some ⟨b, o, none⟩), .int .i64 f, .pointer (some ⟨d, 0, none⟩), .float .f32 lo, .float .f32 hi] w fun e w' => e = .returned (.int .i64 (outC (outsideN B hs ts f p lo hi))) ∧ Below w.heap.size w w' := by
  have A := hid hA
  have S := hid hS
  have P := hid hP
  have HPP := hid hp
  have LO : Hid (∀ k : Nat, k < 24 → ∀ w, BldAt w c q B → SunAt w b o hs ts → Calls Try.prog 110 #[.pointer (some ⟨c, q, none⟩), .pointer (some ⟨b, o, none⟩), .int .i64 f, .int .i64 (k : Int), .int .i64 (iat p k), .float .f32 lo, .float .f32 hi] w fun e w' => e = .returned (.bool (withinW (windowW (tiltB B (iat p k)) hs ts k f) (fallW hs ts k f) lo hi)) ∧ Below w.heap.size w w') := hid (fun k hk w hA hS => by
    have s := okS_at hs2 hk
    exact c_l07Within B hB c q b o k hs ts f (iat p k) lo hi w hA hS hk ⟨s.1, s.2.1⟩ s.2.2 hf (hp k hk) hlo hhi)
  clear hA hS hP hs2 hp hf hB hlo hhi
  unfold outsideN
  generalize hg : (fun k => withinW (windowW (tiltB B (iat p k)) hs ts k f) (fallW hs ts k f) lo hi) = g
  have G := hid hg
  clear hg
  go_enter Try.func69, Try.ntmps69
  go_wp2_with fail
  go_loopw [13] (fun i wr => ∃ k : Nat, k ≤ 24 ∧ i = .int .i64 k ∧ firstNo g 24 0 = firstNo g (24 - k) k ∧ Bel w wr) (fun i _ => 24 - (intOf i).toNat)
  case atStart => exact ⟨0, by omega, rfl, rfl, Below.refl _ _⟩
  case round =>
    obtain ⟨k, hk, rfl, hfn, hbel⟩ := hrel
    have FN := hid hfn
    have BE := hid hbel
    clear hfn hbel
    by_cases hlt : k < 24
    · have hki : (k : Int) < 24 := by omega
      have pk := HPP.out k hlt
      have hwr : IntKind.i64.wrap (iat p k) = iat p k := by rw [IntWalk.i64_in] <;> omega
      have A1 := hid (A.out.below BE.out.out)
      have S1 := hid (S.out.below BE.out.out)
      have q1 := P.out.below BE.out.out k hlt
      have C2 := LO.out k hlt
      have EG : Hid (withinW (windowW (tiltB B (iat p k)) hs ts k f) (fallW hs ts k f) lo hi = g k) := hid (congrFun G.out k)
      rw [EG.out] at C2
      have C3 := hid C2
      clear C2
      generalize hgk : g k = u at *
      have GK := hid hgk
      clear hgk
      cases u
      · go_wp2_with (go_at_call 110; refine (C3.out _ A1.out S1.out).mono ?_; rintro e w2 ⟨rfl, h2⟩)
        go_ret
        exact ⟨ret_int (by rw [FN.out, firstNo_no (m := 23 - k) (by omega) GK.out]; unfold outC; rw [if_neg (by omega)]), below_trans BE.out.out h2 BE.out.out.size⟩
      · go_wp2_with (go_at_call 110; refine (C3.out _ A1.out S1.out).mono ?_; rintro e w2 ⟨rfl, h2⟩)
        exact ⟨⟨k + 1, by omega, by go_num, by rw [FN.out, firstNo_yes (m := 23 - k) (by omega) GK.out]; congr 1; omega, below_trans BE.out.out h2 BE.out.out.size⟩, by simp [intOf]; omega⟩
    · obtain rfl : k = 24 := by omega
      go_wp2
      go_ret
      exact ⟨ret_int (by rw [FN.out]; rfl), BE.out.out⟩
theorem tilts_at {p : List Int} (lp : p.length = 24) (h : tilts p = true) : ∀ k, k < 24 → -64 ≤ iat p k ∧ iat p k ≤ 64 := fun k hk => by
  have hk' : k < p.length := by omega
  simp only [tilts, List.all_eq_true] at h
  have := h (iat p k) (by simp [iat, hk'])
  simpa [inB] using this
theorem three3 {a b c : Bool} : (a = false) ∨ (a = true ∧ b = false) ∨ (a = true ∧ b = true ∧ c = false) ∨ (a = true ∧ b = true ∧ c = true) := by
  cases a <;> cases b <;> cases c <;> simp
theorem ret_tup2 {a b c d : Value} (h : a = b) (h' : c = d) : Ending.returned (.tuple #[a, c]) = .returned (.tuple #[b, d]) := by rw [h, h']
def kwR (f : Int) (lo hi : Nat) : Bool := inB f 0 255 && isPart lo && isPart hi
def kwC (B : Bld) (hs ts p : List Int) (f : Int) (lo hi : Nat) : Int := codeOf (okB B && okS hs ts && tilts p) (kwR f lo hi)
theorem codeOf_zero {a r : Bool} (h : codeOf a r = 0) : a = true ∧ r = true := by cases a <;> cases r <;> simp [codeOf] at h ⊢
def kwN (B : Bld) (hs ts p : List Int) (f : Int) (lo hi : Nat) : Bool := if kwC B hs ts p f lo hi = 0 then decide (outsideN B hs ts f p lo hi = 24) else false
def foC (B : Bld) (hs ts p : List Int) (f : Int) (lo hi : Nat) : Int := if kwC B hs ts p f lo hi = 0 then (if outsideN B hs ts f p lo hi = 24 then 6 else 0) else kwC B hs ts p f lo hi
def foN (B : Bld) (hs ts p : List Int) (f : Int) (lo hi : Nat) : Int := if kwC B hs ts p f lo hi = 0 then (if outsideN B hs ts f p lo hi = 24 then 0 else (outsideN B hs ts f p lo hi : Int)) else 0
set_option maxHeartbeats 1000000 in
theorem c_implKeepsWithin (B : Bld) (wf : WfB B) (hs ts p : List Int) (lh : hs.length = 24) (lt : ts.length = 24) (lp : p.length = 24) (bh : I16 hs) (bt : I16 ts) (bp : I16 p) (f : Int) (lo hi : Nat) (w : World) :
    Calls Try.prog 24 #[.agg (bcells B), .agg (scells hs ts), .int .i64 f, .agg (i16s p), .float .f32 lo, .float .f32 hi] w fun e w' => e = .returned (.tuple #[.bool (kwN B hs ts p f lo hi), .int .i64 (kwC B hs ts p f lo hi)]) ∧ Below w.heap.size w w' := by
  have HB0 : Hid ((((w.alloc (.cells (bcells B) 32)).alloc (.cells (scells hs ts) 45)).alloc (.cells (i16s p) 47)).heap[w.heap.size]? = some (.cells (bcells B) 32 (0, 0))) := hid ((blk_past _ _ _ (by simp; omega)).trans ((blk_past _ _ _ (by simp)).trans (blk_at _ _ _ rfl)))
  have HZ0 : Hid ((Try.prog.info? 32).map (·.size) = some (bcells B).size) := hid (size_blind B)
  have HB1 : Hid ((((w.alloc (.cells (bcells B) 32)).alloc (.cells (scells hs ts) 45)).alloc (.cells (i16s p) 47)).heap[w.heap.size + 1]? = some (.cells (scells hs ts) 45 (0, 0))) := hid ((blk_past _ _ _ (by simp)).trans (blk_at _ _ _ (by simp)))
  have HZ1 : Hid ((Try.prog.info? 45).map (·.size) = some (scells hs ts).size) := hid (by rw [scells_size lh lt]; kernel_rfl)
  have HB2 : Hid ((((w.alloc (.cells (bcells B) 32)).alloc (.cells (scells hs ts) 45)).alloc (.cells (i16s p) 47)).heap[w.heap.size + 1 + 1]? = some (.cells (i16s p) 47 (0, 0))) := hid (blk_at _ _ _ (by simp))
  have HZ2 : Hid ((Try.prog.info? 47).map (·.size) = some (i16s p).size) := hid (by rw [i16s_size, lp]; kernel_rfl)
  have H0 : Hid (Below w.heap.size w (((w.alloc (.cells (bcells B) 32)).alloc (.cells (scells hs ts) 45)).alloc (.cells (i16s p) 47))) := hid ((((Below.refl _ _).alloc (Nat.le_refl _) _).alloc (by simp) _).alloc (by simp; omega) _)
  have CF := fun w => c_isFacing f w
  have CL := fun w => c_IsPart lo w
  have CH := fun w => c_IsPart hi w
  rcases three3 (a := inB f 0 255) (b := isPart lo) (c := isPart hi) with e1 | ⟨e1, e2⟩ | ⟨e1, e2, e3⟩ | ⟨e1, e2, e3⟩
  · have KR : kwR f lo hi = false := by simp [kwR, e1]
    rw [e1] at CF
    have C1 := hid (fun w => show Calls Try.prog 71 #[.agg (bcells B), .agg (scells hs ts), .agg (i16s p), .bool false] w fun e w' => e = .returned (.int .i64 (kwC B hs ts p f lo hi)) ∧ Below w.heap.size w w' from by have := c_planCode B wf hs ts p lh lt lp bh bt bp (kwR f lo hi) w; unfold kwC; rw [KR] at this ⊢; exact this)
    have CF2 := hid CF
    clear CF CL CH
    by_cases hz : kwC B hs ts p f lo hi = 0
    · have := (codeOf_zero hz).2
      rw [KR] at this; cases this
    · have hz2 : Hid (¬ kwC B hs ts p f lo hi = 0) := hid hz
      generalize hcv : kwC B hs ts p f lo hi = cv at *
      have CV := hid hcv
      have hne : (cv != 0) = true := by rw [bne_iff_ne]; exact hz
      clear hcv hz
      go_enter Try.func24, Try.ntmps24
      go_wp2_with fail
      refine wp_region_below (by kernel_rfl) (by kernel_rfl) ?_
      repeat (first | (refine wpQuiet_load_row rfl 32 _ rfl (w.heap.size) rfl 32 (bcells B) (0, 0) _ (fun wx hwx => (hwx.out.block _ (block_lt HB0.out)).trans HB0.out) Try.underlying32 rfl HZ0.out ?_) | (refine wpQuiet_load_row rfl 45 _ rfl (w.heap.size + 1) rfl 45 (scells hs ts) (0, 0) _ (fun wx hwx => (hwx.out.block _ (block_lt HB1.out)).trans HB1.out) Try.underlying45 rfl HZ1.out ?_) | (refine wpQuiet_load_row rfl 47 _ rfl (w.heap.size + 1 + 1) rfl 47 (i16s p) (0, 0) _ (fun wx hwx => (hwx.out.block _ (block_lt HB2.out)).trans HB2.out) Try.underlying47 rfl HZ2.out ?_) | (refine wpQuiet_step (fun K hK => ?_); go_simp; first | (refine hK _ ?_; clear hK K) | (refine ⟨_, fun _ _ => rfl, hK _ ?_⟩; clear hK K) | (apply Exists.intro; refine ⟨fun wx hwx => ?_, hK _ ?_⟩; (first | (with_reducible exact quiet_below_same hwx (CF2.out _)) | (with_reducible exact quiet_below hwx (C1.out _))); clear hK K)))
      refine wpQuiet_nil ?_
      intro w2 h2
      replace h2 := h2.out
      have HC0 := hid ((h2.block _ (block_lt HB0.out)).trans HB0.out)
      have HC1 := hid ((h2.block _ (block_lt HB1.out)).trans HB1.out)
      have HC2 := hid ((h2.block _ (block_lt HB2.out)).trans HB2.out)
      have H2 := hid (below_trans H0.out h2 H0.out.size)
      clear h2
      go_wp2
      go_ret2
      exact ⟨ret_tup2 (congrArg Value.bool (show false = kwN B hs ts p f lo hi by rw [kwN, CV.out, if_neg hz2.out])) rfl, H2.out⟩
  · have KR : kwR f lo hi = false := by simp [kwR, e1, e2]
    rw [e1] at CF
    rw [e2] at CL
    have C1 := hid (fun w => show Calls Try.prog 71 #[.agg (bcells B), .agg (scells hs ts), .agg (i16s p), .bool false] w fun e w' => e = .returned (.int .i64 (kwC B hs ts p f lo hi)) ∧ Below w.heap.size w w' from by have := c_planCode B wf hs ts p lh lt lp bh bt bp (kwR f lo hi) w; unfold kwC; rw [KR] at this ⊢; exact this)
    have CF2 := hid CF
    have CL2 := hid CL
    clear CF CL CH
    by_cases hz : kwC B hs ts p f lo hi = 0
    · have := (codeOf_zero hz).2
      rw [KR] at this; cases this
    · have hz2 : Hid (¬ kwC B hs ts p f lo hi = 0) := hid hz
      generalize hcv : kwC B hs ts p f lo hi = cv at *
      have CV := hid hcv
      have hne : (cv != 0) = true := by rw [bne_iff_ne]; exact hz
      clear hcv hz
      go_enter Try.func24, Try.ntmps24
      go_wp2_with fail
      refine wp_region_below (by kernel_rfl) (by kernel_rfl) ?_
      repeat (first | (refine wpQuiet_load_row rfl 32 _ rfl (w.heap.size) rfl 32 (bcells B) (0, 0) _ (fun wx hwx => (hwx.out.block _ (block_lt HB0.out)).trans HB0.out) Try.underlying32 rfl HZ0.out ?_) | (refine wpQuiet_load_row rfl 45 _ rfl (w.heap.size + 1) rfl 45 (scells hs ts) (0, 0) _ (fun wx hwx => (hwx.out.block _ (block_lt HB1.out)).trans HB1.out) Try.underlying45 rfl HZ1.out ?_) | (refine wpQuiet_load_row rfl 47 _ rfl (w.heap.size + 1 + 1) rfl 47 (i16s p) (0, 0) _ (fun wx hwx => (hwx.out.block _ (block_lt HB2.out)).trans HB2.out) Try.underlying47 rfl HZ2.out ?_) | (refine wpQuiet_step (fun K hK => ?_); go_simp; first | (refine hK _ ?_; clear hK K) | (refine ⟨_, fun _ _ => rfl, hK _ ?_⟩; clear hK K) | (apply Exists.intro; refine ⟨fun wx hwx => ?_, hK _ ?_⟩; (first | (with_reducible exact quiet_below_same hwx (CF2.out _)) | (with_reducible exact quiet_below_same hwx (CL2.out _)) | (with_reducible exact quiet_below hwx (C1.out _))); clear hK K)))
      refine wpQuiet_nil ?_
      intro w2 h2
      replace h2 := h2.out
      have HC0 := hid ((h2.block _ (block_lt HB0.out)).trans HB0.out)
      have HC1 := hid ((h2.block _ (block_lt HB1.out)).trans HB1.out)
      have HC2 := hid ((h2.block _ (block_lt HB2.out)).trans HB2.out)
      have H2 := hid (below_trans H0.out h2 H0.out.size)
      clear h2
      go_wp2
      go_ret2
      exact ⟨ret_tup2 (congrArg Value.bool (show false = kwN B hs ts p f lo hi by rw [kwN, CV.out, if_neg hz2.out])) rfl, H2.out⟩
  · have KR : kwR f lo hi = false := by simp [kwR, e1, e2, e3]
    rw [e1] at CF
    rw [e2] at CL
    rw [e3] at CH
    have C1 := hid (fun w => show Calls Try.prog 71 #[.agg (bcells B), .agg (scells hs ts), .agg (i16s p), .bool false] w fun e w' => e = .returned (.int .i64 (kwC B hs ts p f lo hi)) ∧ Below w.heap.size w w' from by have := c_planCode B wf hs ts p lh lt lp bh bt bp (kwR f lo hi) w; unfold kwC; rw [KR] at this ⊢; exact this)
    have CF2 := hid CF
    have CL2 := hid CL
    have CH2 := hid CH
    clear CF CL CH
    by_cases hz : kwC B hs ts p f lo hi = 0
    · have := (codeOf_zero hz).2
      rw [KR] at this; cases this
    · have hz2 : Hid (¬ kwC B hs ts p f lo hi = 0) := hid hz
      generalize hcv : kwC B hs ts p f lo hi = cv at *
      have CV := hid hcv
      have hne : (cv != 0) = true := by rw [bne_iff_ne]; exact hz
      clear hcv hz
      go_enter Try.func24, Try.ntmps24
      go_wp2_with fail
      refine wp_region_below (by kernel_rfl) (by kernel_rfl) ?_
      repeat (first | (refine wpQuiet_load_row rfl 32 _ rfl (w.heap.size) rfl 32 (bcells B) (0, 0) _ (fun wx hwx => (hwx.out.block _ (block_lt HB0.out)).trans HB0.out) Try.underlying32 rfl HZ0.out ?_) | (refine wpQuiet_load_row rfl 45 _ rfl (w.heap.size + 1) rfl 45 (scells hs ts) (0, 0) _ (fun wx hwx => (hwx.out.block _ (block_lt HB1.out)).trans HB1.out) Try.underlying45 rfl HZ1.out ?_) | (refine wpQuiet_load_row rfl 47 _ rfl (w.heap.size + 1 + 1) rfl 47 (i16s p) (0, 0) _ (fun wx hwx => (hwx.out.block _ (block_lt HB2.out)).trans HB2.out) Try.underlying47 rfl HZ2.out ?_) | (refine wpQuiet_step (fun K hK => ?_); go_simp; first | (refine hK _ ?_; clear hK K) | (refine ⟨_, fun _ _ => rfl, hK _ ?_⟩; clear hK K) | (apply Exists.intro; refine ⟨fun wx hwx => ?_, hK _ ?_⟩; (first | (with_reducible exact quiet_below_same hwx (CF2.out _)) | (with_reducible exact quiet_below_same hwx (CL2.out _)) | (with_reducible exact quiet_below_same hwx (CH2.out _)) | (with_reducible exact quiet_below hwx (C1.out _))); clear hK K)))
      refine wpQuiet_nil ?_
      intro w2 h2
      replace h2 := h2.out
      have HC0 := hid ((h2.block _ (block_lt HB0.out)).trans HB0.out)
      have HC1 := hid ((h2.block _ (block_lt HB1.out)).trans HB1.out)
      have HC2 := hid ((h2.block _ (block_lt HB2.out)).trans HB2.out)
      have H2 := hid (below_trans H0.out h2 H0.out.size)
      clear h2
      go_wp2
      go_ret2
      exact ⟨ret_tup2 (congrArg Value.bool (show false = kwN B hs ts p f lo hi by rw [kwN, CV.out, if_neg hz2.out])) rfl, H2.out⟩
  · have KR : kwR f lo hi = true := by simp [kwR, e1, e2, e3]
    rw [e1] at CF
    rw [e2] at CL
    rw [e3] at CH
    have C1 := hid (fun w => show Calls Try.prog 71 #[.agg (bcells B), .agg (scells hs ts), .agg (i16s p), .bool true] w fun e w' => e = .returned (.int .i64 (kwC B hs ts p f lo hi)) ∧ Below w.heap.size w w' from by have := c_planCode B wf hs ts p lh lt lp bh bt bp (kwR f lo hi) w; unfold kwC; rw [KR] at this ⊢; exact this)
    have CF2 := hid CF
    have CL2 := hid CL
    have CH2 := hid CH
    clear CF CL CH
    by_cases hz : kwC B hs ts p f lo hi = 0
    · obtain ⟨hok, -⟩ := codeOf_zero hz
      have hB := OkB.of wf (by simp only [Bool.and_eq_true] at hok; exact hok.1.1)
      have hS2 : okS hs ts = true := by simp only [Bool.and_eq_true] at hok; exact hok.1.2
      have hP2 := tilts_at lp (by simp only [Bool.and_eq_true] at hok; exact hok.2)
      have hF : 0 ≤ f ∧ f ≤ 255 := by simpa [inB] using e1
      have CO := hid (fun d b w hP hS => c_outside B hB d b 0 hs ts p f lo hi w hP hS hS2 hP2 hF)
      have LP := hid lp
      have LH := hid lh
      have LT := hid lt
      clear wf lh lt lp bh bt bp hok hB hS2 hP2 hF
      have hz2 : Hid (kwC B hs ts p f lo hi = 0) := hid hz
      rw [hz] at C1
      clear hz
      go_enter Try.func24, Try.ntmps24
      go_wp2_with fail
      refine wp_region_below (by kernel_rfl) (by kernel_rfl) ?_
      repeat (first | (refine wpQuiet_load_row rfl 32 _ rfl (w.heap.size) rfl 32 (bcells B) (0, 0) _ (fun wx hwx => (hwx.out.block _ (block_lt HB0.out)).trans HB0.out) Try.underlying32 rfl HZ0.out ?_) | (refine wpQuiet_load_row rfl 45 _ rfl (w.heap.size + 1) rfl 45 (scells hs ts) (0, 0) _ (fun wx hwx => (hwx.out.block _ (block_lt HB1.out)).trans HB1.out) Try.underlying45 rfl HZ1.out ?_) | (refine wpQuiet_load_row rfl 47 _ rfl (w.heap.size + 1 + 1) rfl 47 (i16s p) (0, 0) _ (fun wx hwx => (hwx.out.block _ (block_lt HB2.out)).trans HB2.out) Try.underlying47 rfl HZ2.out ?_) | (refine wpQuiet_step (fun K hK => ?_); go_simp; first | (refine hK _ ?_; clear hK K) | (refine ⟨_, fun _ _ => rfl, hK _ ?_⟩; clear hK K) | (apply Exists.intro; refine ⟨fun wx hwx => ?_, hK _ ?_⟩; (first | (with_reducible exact quiet_below_same hwx (CF2.out _)) | (with_reducible exact quiet_below_same hwx (CL2.out _)) | (with_reducible exact quiet_below_same hwx (CH2.out _)) | (with_reducible exact quiet_below hwx (C1.out _))); clear hK K)))
      refine wpQuiet_nil ?_
      intro w2 h2
      replace h2 := h2.out
      have HC0 := hid ((h2.block _ (block_lt HB0.out)).trans HB0.out)
      have HC1 := hid ((h2.block _ (block_lt HB1.out)).trans HB1.out)
      have HC2 := hid ((h2.block _ (block_lt HB2.out)).trans HB2.out)
      have H2 := hid (below_trans H0.out h2 H0.out.size)
      clear h2
      go_wp2_with (first | (refine wpList_load_row rfl 32 _ rfl (w.heap.size) rfl 32 (bcells B) (0, 0) _ HC0.out Try.underlying32 rfl HZ0.out ?_) | (go_at_call 74; refine (CO.out _ _ _ (PlnAt.of_block LP.out HC2.out) (SunAt.of_block LH.out LT.out HC1.out)).mono ?_; rintro e w3 ⟨rfl, h3⟩))
      go_ret2
      exact ⟨ret_tup2 (congrArg Value.bool (show ((outsideN B hs ts f p lo hi : Int) == 24) = kwN B hs ts p f lo hi by rw [kwN, if_pos hz2.out, Bool.eq_iff_iff, beq_iff_eq, decide_eq_true_eq]; omega)) (congrArg (Value.int .i64) (show (0 : Int) = kwC B hs ts p f lo hi from hz2.out.symm)), below_trans H2.out h3 H2.out.size⟩
    · have hz2 : Hid (¬ kwC B hs ts p f lo hi = 0) := hid hz
      generalize hcv : kwC B hs ts p f lo hi = cv at *
      have CV := hid hcv
      have hne : (cv != 0) = true := by rw [bne_iff_ne]; exact hz
      clear hcv hz
      go_enter Try.func24, Try.ntmps24
      go_wp2_with fail
      refine wp_region_below (by kernel_rfl) (by kernel_rfl) ?_
      repeat (first | (refine wpQuiet_load_row rfl 32 _ rfl (w.heap.size) rfl 32 (bcells B) (0, 0) _ (fun wx hwx => (hwx.out.block _ (block_lt HB0.out)).trans HB0.out) Try.underlying32 rfl HZ0.out ?_) | (refine wpQuiet_load_row rfl 45 _ rfl (w.heap.size + 1) rfl 45 (scells hs ts) (0, 0) _ (fun wx hwx => (hwx.out.block _ (block_lt HB1.out)).trans HB1.out) Try.underlying45 rfl HZ1.out ?_) | (refine wpQuiet_load_row rfl 47 _ rfl (w.heap.size + 1 + 1) rfl 47 (i16s p) (0, 0) _ (fun wx hwx => (hwx.out.block _ (block_lt HB2.out)).trans HB2.out) Try.underlying47 rfl HZ2.out ?_) | (refine wpQuiet_step (fun K hK => ?_); go_simp; first | (refine hK _ ?_; clear hK K) | (refine ⟨_, fun _ _ => rfl, hK _ ?_⟩; clear hK K) | (apply Exists.intro; refine ⟨fun wx hwx => ?_, hK _ ?_⟩; (first | (with_reducible exact quiet_below_same hwx (CF2.out _)) | (with_reducible exact quiet_below_same hwx (CL2.out _)) | (with_reducible exact quiet_below_same hwx (CH2.out _)) | (with_reducible exact quiet_below hwx (C1.out _))); clear hK K)))
      refine wpQuiet_nil ?_
      intro w2 h2
      replace h2 := h2.out
      have HC0 := hid ((h2.block _ (block_lt HB0.out)).trans HB0.out)
      have HC1 := hid ((h2.block _ (block_lt HB1.out)).trans HB1.out)
      have HC2 := hid ((h2.block _ (block_lt HB2.out)).trans HB2.out)
      have H2 := hid (below_trans H0.out h2 H0.out.size)
      clear h2
      go_wp2
      go_ret2
      exact ⟨ret_tup2 (congrArg Value.bool (show false = kwN B hs ts p f lo hi by rw [kwN, CV.out, if_neg hz2.out])) rfl, H2.out⟩
set_option maxHeartbeats 1000000 in
theorem c_implFirstOutside (B : Bld) (wf : WfB B) (hs ts p : List Int) (lh : hs.length = 24) (lt : ts.length = 24) (lp : p.length = 24) (bh : I16 hs) (bt : I16 ts) (bp : I16 p) (f : Int) (lo hi : Nat) (w : World) :
    Calls Try.prog 26 #[.agg (bcells B), .agg (scells hs ts), .int .i64 f, .agg (i16s p), .float .f32 lo, .float .f32 hi] w fun e w' => e = .returned (.tuple #[.int .i64 (foN B hs ts p f lo hi), .int .i64 (foC B hs ts p f lo hi)]) ∧ Below w.heap.size w w' := by
  have HB0 : Hid ((((w.alloc (.cells (bcells B) 32)).alloc (.cells (scells hs ts) 45)).alloc (.cells (i16s p) 47)).heap[w.heap.size]? = some (.cells (bcells B) 32 (0, 0))) := hid ((blk_past _ _ _ (by simp; omega)).trans ((blk_past _ _ _ (by simp)).trans (blk_at _ _ _ rfl)))
  have HZ0 : Hid ((Try.prog.info? 32).map (·.size) = some (bcells B).size) := hid (size_blind B)
  have HB1 : Hid ((((w.alloc (.cells (bcells B) 32)).alloc (.cells (scells hs ts) 45)).alloc (.cells (i16s p) 47)).heap[w.heap.size + 1]? = some (.cells (scells hs ts) 45 (0, 0))) := hid ((blk_past _ _ _ (by simp)).trans (blk_at _ _ _ (by simp)))
  have HZ1 : Hid ((Try.prog.info? 45).map (·.size) = some (scells hs ts).size) := hid (by rw [scells_size lh lt]; kernel_rfl)
  have HB2 : Hid ((((w.alloc (.cells (bcells B) 32)).alloc (.cells (scells hs ts) 45)).alloc (.cells (i16s p) 47)).heap[w.heap.size + 1 + 1]? = some (.cells (i16s p) 47 (0, 0))) := hid (blk_at _ _ _ (by simp))
  have HZ2 : Hid ((Try.prog.info? 47).map (·.size) = some (i16s p).size) := hid (by rw [i16s_size, lp]; kernel_rfl)
  have H0 : Hid (Below w.heap.size w (((w.alloc (.cells (bcells B) 32)).alloc (.cells (scells hs ts) 45)).alloc (.cells (i16s p) 47))) := hid ((((Below.refl _ _).alloc (Nat.le_refl _) _).alloc (by simp) _).alloc (by simp; omega) _)
  have CF := fun w => c_isFacing f w
  have CL := fun w => c_IsPart lo w
  have CH := fun w => c_IsPart hi w
  rcases three3 (a := inB f 0 255) (b := isPart lo) (c := isPart hi) with e1 | ⟨e1, e2⟩ | ⟨e1, e2, e3⟩ | ⟨e1, e2, e3⟩
  · have KR : kwR f lo hi = false := by simp [kwR, e1]
    rw [e1] at CF
    have C1 := hid (fun w => show Calls Try.prog 71 #[.agg (bcells B), .agg (scells hs ts), .agg (i16s p), .bool false] w fun e w' => e = .returned (.int .i64 (kwC B hs ts p f lo hi)) ∧ Below w.heap.size w w' from by have := c_planCode B wf hs ts p lh lt lp bh bt bp (kwR f lo hi) w; unfold kwC; rw [KR] at this ⊢; exact this)
    have CF2 := hid CF
    clear CF CL CH
    by_cases hz : kwC B hs ts p f lo hi = 0
    · have := (codeOf_zero hz).2
      rw [KR] at this; cases this
    · have hz2 : Hid (¬ kwC B hs ts p f lo hi = 0) := hid hz
      generalize hcv : kwC B hs ts p f lo hi = cv at *
      have CV := hid hcv
      have hne : (cv != 0) = true := by rw [bne_iff_ne]; exact hz
      clear hcv hz
      go_enter Try.func26, Try.ntmps26
      go_wp2_with fail
      refine wp_region_below (by kernel_rfl) (by kernel_rfl) ?_
      repeat (first | (refine wpQuiet_load_row rfl 32 _ rfl (w.heap.size) rfl 32 (bcells B) (0, 0) _ (fun wx hwx => (hwx.out.block _ (block_lt HB0.out)).trans HB0.out) Try.underlying32 rfl HZ0.out ?_) | (refine wpQuiet_load_row rfl 45 _ rfl (w.heap.size + 1) rfl 45 (scells hs ts) (0, 0) _ (fun wx hwx => (hwx.out.block _ (block_lt HB1.out)).trans HB1.out) Try.underlying45 rfl HZ1.out ?_) | (refine wpQuiet_load_row rfl 47 _ rfl (w.heap.size + 1 + 1) rfl 47 (i16s p) (0, 0) _ (fun wx hwx => (hwx.out.block _ (block_lt HB2.out)).trans HB2.out) Try.underlying47 rfl HZ2.out ?_) | (refine wpQuiet_step (fun K hK => ?_); go_simp; first | (refine hK _ ?_; clear hK K) | (refine ⟨_, fun _ _ => rfl, hK _ ?_⟩; clear hK K) | (apply Exists.intro; refine ⟨fun wx hwx => ?_, hK _ ?_⟩; (first | (with_reducible exact quiet_below_same hwx (CF2.out _)) | (with_reducible exact quiet_below hwx (C1.out _))); clear hK K)))
      refine wpQuiet_nil ?_
      intro w2 h2
      replace h2 := h2.out
      have HC0 := hid ((h2.block _ (block_lt HB0.out)).trans HB0.out)
      have HC1 := hid ((h2.block _ (block_lt HB1.out)).trans HB1.out)
      have HC2 := hid ((h2.block _ (block_lt HB2.out)).trans HB2.out)
      have H2 := hid (below_trans H0.out h2 H0.out.size)
      clear h2
      go_wp2
      go_ret2
      exact ⟨ret_tup2 (congrArg (Value.int .i64) (show (0 : Int) = foN B hs ts p f lo hi by rw [foN, CV.out, if_neg hz2.out])) (congrArg (Value.int .i64) (show cv = foC B hs ts p f lo hi by rw [foC, CV.out, if_neg hz2.out])), H2.out⟩
  · have KR : kwR f lo hi = false := by simp [kwR, e1, e2]
    rw [e1] at CF
    rw [e2] at CL
    have C1 := hid (fun w => show Calls Try.prog 71 #[.agg (bcells B), .agg (scells hs ts), .agg (i16s p), .bool false] w fun e w' => e = .returned (.int .i64 (kwC B hs ts p f lo hi)) ∧ Below w.heap.size w w' from by have := c_planCode B wf hs ts p lh lt lp bh bt bp (kwR f lo hi) w; unfold kwC; rw [KR] at this ⊢; exact this)
    have CF2 := hid CF
    have CL2 := hid CL
    clear CF CL CH
    by_cases hz : kwC B hs ts p f lo hi = 0
    · have := (codeOf_zero hz).2
      rw [KR] at this; cases this
    · have hz2 : Hid (¬ kwC B hs ts p f lo hi = 0) := hid hz
      generalize hcv : kwC B hs ts p f lo hi = cv at *
      have CV := hid hcv
      have hne : (cv != 0) = true := by rw [bne_iff_ne]; exact hz
      clear hcv hz
      go_enter Try.func26, Try.ntmps26
      go_wp2_with fail
      refine wp_region_below (by kernel_rfl) (by kernel_rfl) ?_
      repeat (first | (refine wpQuiet_load_row rfl 32 _ rfl (w.heap.size) rfl 32 (bcells B) (0, 0) _ (fun wx hwx => (hwx.out.block _ (block_lt HB0.out)).trans HB0.out) Try.underlying32 rfl HZ0.out ?_) | (refine wpQuiet_load_row rfl 45 _ rfl (w.heap.size + 1) rfl 45 (scells hs ts) (0, 0) _ (fun wx hwx => (hwx.out.block _ (block_lt HB1.out)).trans HB1.out) Try.underlying45 rfl HZ1.out ?_) | (refine wpQuiet_load_row rfl 47 _ rfl (w.heap.size + 1 + 1) rfl 47 (i16s p) (0, 0) _ (fun wx hwx => (hwx.out.block _ (block_lt HB2.out)).trans HB2.out) Try.underlying47 rfl HZ2.out ?_) | (refine wpQuiet_step (fun K hK => ?_); go_simp; first | (refine hK _ ?_; clear hK K) | (refine ⟨_, fun _ _ => rfl, hK _ ?_⟩; clear hK K) | (apply Exists.intro; refine ⟨fun wx hwx => ?_, hK _ ?_⟩; (first | (with_reducible exact quiet_below_same hwx (CF2.out _)) | (with_reducible exact quiet_below_same hwx (CL2.out _)) | (with_reducible exact quiet_below hwx (C1.out _))); clear hK K)))
      refine wpQuiet_nil ?_
      intro w2 h2
      replace h2 := h2.out
      have HC0 := hid ((h2.block _ (block_lt HB0.out)).trans HB0.out)
      have HC1 := hid ((h2.block _ (block_lt HB1.out)).trans HB1.out)
      have HC2 := hid ((h2.block _ (block_lt HB2.out)).trans HB2.out)
      have H2 := hid (below_trans H0.out h2 H0.out.size)
      clear h2
      go_wp2
      go_ret2
      exact ⟨ret_tup2 (congrArg (Value.int .i64) (show (0 : Int) = foN B hs ts p f lo hi by rw [foN, CV.out, if_neg hz2.out])) (congrArg (Value.int .i64) (show cv = foC B hs ts p f lo hi by rw [foC, CV.out, if_neg hz2.out])), H2.out⟩
  · have KR : kwR f lo hi = false := by simp [kwR, e1, e2, e3]
    rw [e1] at CF
    rw [e2] at CL
    rw [e3] at CH
    have C1 := hid (fun w => show Calls Try.prog 71 #[.agg (bcells B), .agg (scells hs ts), .agg (i16s p), .bool false] w fun e w' => e = .returned (.int .i64 (kwC B hs ts p f lo hi)) ∧ Below w.heap.size w w' from by have := c_planCode B wf hs ts p lh lt lp bh bt bp (kwR f lo hi) w; unfold kwC; rw [KR] at this ⊢; exact this)
    have CF2 := hid CF
    have CL2 := hid CL
    have CH2 := hid CH
    clear CF CL CH
    by_cases hz : kwC B hs ts p f lo hi = 0
    · have := (codeOf_zero hz).2
      rw [KR] at this; cases this
    · have hz2 : Hid (¬ kwC B hs ts p f lo hi = 0) := hid hz
      generalize hcv : kwC B hs ts p f lo hi = cv at *
      have CV := hid hcv
      have hne : (cv != 0) = true := by rw [bne_iff_ne]; exact hz
      clear hcv hz
      go_enter Try.func26, Try.ntmps26
      go_wp2_with fail
      refine wp_region_below (by kernel_rfl) (by kernel_rfl) ?_
      repeat (first | (refine wpQuiet_load_row rfl 32 _ rfl (w.heap.size) rfl 32 (bcells B) (0, 0) _ (fun wx hwx => (hwx.out.block _ (block_lt HB0.out)).trans HB0.out) Try.underlying32 rfl HZ0.out ?_) | (refine wpQuiet_load_row rfl 45 _ rfl (w.heap.size + 1) rfl 45 (scells hs ts) (0, 0) _ (fun wx hwx => (hwx.out.block _ (block_lt HB1.out)).trans HB1.out) Try.underlying45 rfl HZ1.out ?_) | (refine wpQuiet_load_row rfl 47 _ rfl (w.heap.size + 1 + 1) rfl 47 (i16s p) (0, 0) _ (fun wx hwx => (hwx.out.block _ (block_lt HB2.out)).trans HB2.out) Try.underlying47 rfl HZ2.out ?_) | (refine wpQuiet_step (fun K hK => ?_); go_simp; first | (refine hK _ ?_; clear hK K) | (refine ⟨_, fun _ _ => rfl, hK _ ?_⟩; clear hK K) | (apply Exists.intro; refine ⟨fun wx hwx => ?_, hK _ ?_⟩; (first | (with_reducible exact quiet_below_same hwx (CF2.out _)) | (with_reducible exact quiet_below_same hwx (CL2.out _)) | (with_reducible exact quiet_below_same hwx (CH2.out _)) | (with_reducible exact quiet_below hwx (C1.out _))); clear hK K)))
      refine wpQuiet_nil ?_
      intro w2 h2
      replace h2 := h2.out
      have HC0 := hid ((h2.block _ (block_lt HB0.out)).trans HB0.out)
      have HC1 := hid ((h2.block _ (block_lt HB1.out)).trans HB1.out)
      have HC2 := hid ((h2.block _ (block_lt HB2.out)).trans HB2.out)
      have H2 := hid (below_trans H0.out h2 H0.out.size)
      clear h2
      go_wp2
      go_ret2
      exact ⟨ret_tup2 (congrArg (Value.int .i64) (show (0 : Int) = foN B hs ts p f lo hi by rw [foN, CV.out, if_neg hz2.out])) (congrArg (Value.int .i64) (show cv = foC B hs ts p f lo hi by rw [foC, CV.out, if_neg hz2.out])), H2.out⟩
  · have KR : kwR f lo hi = true := by simp [kwR, e1, e2, e3]
    rw [e1] at CF
    rw [e2] at CL
    rw [e3] at CH
    have C1 := hid (fun w => show Calls Try.prog 71 #[.agg (bcells B), .agg (scells hs ts), .agg (i16s p), .bool true] w fun e w' => e = .returned (.int .i64 (kwC B hs ts p f lo hi)) ∧ Below w.heap.size w w' from by have := c_planCode B wf hs ts p lh lt lp bh bt bp (kwR f lo hi) w; unfold kwC; rw [KR] at this ⊢; exact this)
    have CF2 := hid CF
    have CL2 := hid CL
    have CH2 := hid CH
    clear CF CL CH
    by_cases hz : kwC B hs ts p f lo hi = 0
    · obtain ⟨hok, -⟩ := codeOf_zero hz
      have hB := OkB.of wf (by simp only [Bool.and_eq_true] at hok; exact hok.1.1)
      have hS2 : okS hs ts = true := by simp only [Bool.and_eq_true] at hok; exact hok.1.2
      have hP2 := tilts_at lp (by simp only [Bool.and_eq_true] at hok; exact hok.2)
      have hF : 0 ≤ f ∧ f ≤ 255 := by simpa [inB] using e1
      have CO := hid (fun d b w hP hS => c_outside B hB d b 0 hs ts p f lo hi w hP hS hS2 hP2 hF)
      have LP := hid lp
      have LH := hid lh
      have LT := hid lt
      clear wf lh lt lp bh bt bp hok hB hS2 hP2 hF
      have hz2 : Hid (kwC B hs ts p f lo hi = 0) := hid hz
      rw [hz] at C1
      clear hz
      go_enter Try.func26, Try.ntmps26
      go_wp2_with fail
      refine wp_region_below (by kernel_rfl) (by kernel_rfl) ?_
      repeat (first | (refine wpQuiet_load_row rfl 32 _ rfl (w.heap.size) rfl 32 (bcells B) (0, 0) _ (fun wx hwx => (hwx.out.block _ (block_lt HB0.out)).trans HB0.out) Try.underlying32 rfl HZ0.out ?_) | (refine wpQuiet_load_row rfl 45 _ rfl (w.heap.size + 1) rfl 45 (scells hs ts) (0, 0) _ (fun wx hwx => (hwx.out.block _ (block_lt HB1.out)).trans HB1.out) Try.underlying45 rfl HZ1.out ?_) | (refine wpQuiet_load_row rfl 47 _ rfl (w.heap.size + 1 + 1) rfl 47 (i16s p) (0, 0) _ (fun wx hwx => (hwx.out.block _ (block_lt HB2.out)).trans HB2.out) Try.underlying47 rfl HZ2.out ?_) | (refine wpQuiet_step (fun K hK => ?_); go_simp; first | (refine hK _ ?_; clear hK K) | (refine ⟨_, fun _ _ => rfl, hK _ ?_⟩; clear hK K) | (apply Exists.intro; refine ⟨fun wx hwx => ?_, hK _ ?_⟩; (first | (with_reducible exact quiet_below_same hwx (CF2.out _)) | (with_reducible exact quiet_below_same hwx (CL2.out _)) | (with_reducible exact quiet_below_same hwx (CH2.out _)) | (with_reducible exact quiet_below hwx (C1.out _))); clear hK K)))
      refine wpQuiet_nil ?_
      intro w2 h2
      replace h2 := h2.out
      have HC0 := hid ((h2.block _ (block_lt HB0.out)).trans HB0.out)
      have HC1 := hid ((h2.block _ (block_lt HB1.out)).trans HB1.out)
      have HC2 := hid ((h2.block _ (block_lt HB2.out)).trans HB2.out)
      have H2 := hid (below_trans H0.out h2 H0.out.size)
      clear h2
      generalize hN : outsideN B hs ts f p lo hi = N at *
      have NN := hid hN
      clear hN
      by_cases h24 : N = 24
      · have t24 : ((N : Int) == 24) = true := by simp; omega
        go_wp2_with (first | (refine wpList_load_row rfl 32 _ rfl (w.heap.size) rfl 32 (bcells B) (0, 0) _ HC0.out Try.underlying32 rfl HZ0.out ?_) | (go_at_call 74; refine (CO.out _ _ _ (PlnAt.of_block LP.out HC2.out) (SunAt.of_block LH.out LT.out HC1.out)).mono ?_; rintro e w3 ⟨rfl, h3⟩))
        go_ret2
        exact ⟨ret_tup2 (congrArg (Value.int .i64) (show (0 : Int) = foN B hs ts p f lo hi by rw [foN, if_pos hz2.out, NN.out, if_pos h24])) (congrArg (Value.int .i64) (show (6 : Int) = foC B hs ts p f lo hi by rw [foC, if_pos hz2.out, NN.out, if_pos h24])), below_trans H2.out h3 H2.out.size⟩
      · have t24 : ((N : Int) == 24) = false := by simp; omega
        go_wp2_with (first | (refine wpList_load_row rfl 32 _ rfl (w.heap.size) rfl 32 (bcells B) (0, 0) _ HC0.out Try.underlying32 rfl HZ0.out ?_) | (go_at_call 74; refine (CO.out _ _ _ (PlnAt.of_block LP.out HC2.out) (SunAt.of_block LH.out LT.out HC1.out)).mono ?_; rintro e w3 ⟨rfl, h3⟩))
        go_ret2
        exact ⟨ret_tup2 (congrArg (Value.int .i64) (show (N : Int) = foN B hs ts p f lo hi by rw [foN, if_pos hz2.out, NN.out, if_neg h24])) (congrArg (Value.int .i64) (show (0 : Int) = foC B hs ts p f lo hi by rw [foC, if_pos hz2.out, NN.out, if_neg h24])), below_trans H2.out h3 H2.out.size⟩
    · have hz2 : Hid (¬ kwC B hs ts p f lo hi = 0) := hid hz
      generalize hcv : kwC B hs ts p f lo hi = cv at *
      have CV := hid hcv
      have hne : (cv != 0) = true := by rw [bne_iff_ne]; exact hz
      clear hcv hz
      go_enter Try.func26, Try.ntmps26
      go_wp2_with fail
      refine wp_region_below (by kernel_rfl) (by kernel_rfl) ?_
      repeat (first | (refine wpQuiet_load_row rfl 32 _ rfl (w.heap.size) rfl 32 (bcells B) (0, 0) _ (fun wx hwx => (hwx.out.block _ (block_lt HB0.out)).trans HB0.out) Try.underlying32 rfl HZ0.out ?_) | (refine wpQuiet_load_row rfl 45 _ rfl (w.heap.size + 1) rfl 45 (scells hs ts) (0, 0) _ (fun wx hwx => (hwx.out.block _ (block_lt HB1.out)).trans HB1.out) Try.underlying45 rfl HZ1.out ?_) | (refine wpQuiet_load_row rfl 47 _ rfl (w.heap.size + 1 + 1) rfl 47 (i16s p) (0, 0) _ (fun wx hwx => (hwx.out.block _ (block_lt HB2.out)).trans HB2.out) Try.underlying47 rfl HZ2.out ?_) | (refine wpQuiet_step (fun K hK => ?_); go_simp; first | (refine hK _ ?_; clear hK K) | (refine ⟨_, fun _ _ => rfl, hK _ ?_⟩; clear hK K) | (apply Exists.intro; refine ⟨fun wx hwx => ?_, hK _ ?_⟩; (first | (with_reducible exact quiet_below_same hwx (CF2.out _)) | (with_reducible exact quiet_below_same hwx (CL2.out _)) | (with_reducible exact quiet_below_same hwx (CH2.out _)) | (with_reducible exact quiet_below hwx (C1.out _))); clear hK K)))
      refine wpQuiet_nil ?_
      intro w2 h2
      replace h2 := h2.out
      have HC0 := hid ((h2.block _ (block_lt HB0.out)).trans HB0.out)
      have HC1 := hid ((h2.block _ (block_lt HB1.out)).trans HB1.out)
      have HC2 := hid ((h2.block _ (block_lt HB2.out)).trans HB2.out)
      have H2 := hid (below_trans H0.out h2 H0.out.size)
      clear h2
      go_wp2
      go_ret2
      exact ⟨ret_tup2 (congrArg (Value.int .i64) (show (0 : Int) = foN B hs ts p f lo hi by rw [foN, CV.out, if_neg hz2.out])) (congrArg (Value.int .i64) (show cv = foC B hs ts p f lo hi by rw [foC, CV.out, if_neg hz2.out])), H2.out⟩
set_option maxHeartbeats 1000000 in
theorem c_specKeepsWithin (B : Bld) (wf : WfB B) (hs ts p : List Int) (lh : hs.length = 24) (lt : ts.length = 24) (lp : p.length = 24) (bh : I16 hs) (bt : I16 ts) (bp : I16 p) (f : Int) (lo hi : Nat) (wl : lo < 4294967296) (wh : hi < 4294967296) (w : World) :
    Calls Try.prog 21 #[.agg (bcells B), .agg (scells hs ts), .int .i64 f, .agg (i16s p), .float .f32 lo, .float .f32 hi] w fun e w' => e = .returned (.tuple #[.bool (kwN B hs ts p f lo hi), .int .i64 (kwC B hs ts p f lo hi)]) ∧ Below w.heap.size w w' := by
  have HB0 : Hid ((((w.alloc (.cells (bcells B) 32)).alloc (.cells (scells hs ts) 45)).alloc (.cells (i16s p) 47)).heap[w.heap.size]? = some (.cells (bcells B) 32 (0, 0))) := hid ((blk_past _ _ _ (by simp; omega)).trans ((blk_past _ _ _ (by simp)).trans (blk_at _ _ _ rfl)))
  have HZ0 : Hid ((Try.prog.info? 32).map (·.size) = some (bcells B).size) := hid (size_blind B)
  have HB1 : Hid ((((w.alloc (.cells (bcells B) 32)).alloc (.cells (scells hs ts) 45)).alloc (.cells (i16s p) 47)).heap[w.heap.size + 1]? = some (.cells (scells hs ts) 45 (0, 0))) := hid ((blk_past _ _ _ (by simp)).trans (blk_at _ _ _ (by simp)))
  have HZ1 : Hid ((Try.prog.info? 45).map (·.size) = some (scells hs ts).size) := hid (by rw [scells_size lh lt]; kernel_rfl)
  have HB2 : Hid ((((w.alloc (.cells (bcells B) 32)).alloc (.cells (scells hs ts) 45)).alloc (.cells (i16s p) 47)).heap[w.heap.size + 1 + 1]? = some (.cells (i16s p) 47 (0, 0))) := hid (blk_at _ _ _ (by simp))
  have HZ2 : Hid ((Try.prog.info? 47).map (·.size) = some (i16s p).size) := hid (by rw [i16s_size, lp]; kernel_rfl)
  have H0 : Hid (Below w.heap.size w (((w.alloc (.cells (bcells B) 32)).alloc (.cells (scells hs ts) 45)).alloc (.cells (i16s p) 47))) := hid ((((Below.refl _ _).alloc (Nat.le_refl _) _).alloc (by simp) _).alloc (by simp; omega) _)
  have LP := hid lp
  have LH := hid lh
  have LT := hid lt
  have CF := fun w => c_l01Faced f w
  have CL := fun w => c_l01Part lo w
  have CH := fun w => c_l01Part hi w
  rcases three3 (a := inB f 0 255) (b := isPart lo) (c := isPart hi) with e1 | ⟨e1, e2⟩ | ⟨e1, e2, e3⟩ | ⟨e1, e2, e3⟩
  · have KR : kwR f lo hi = false := by simp [kwR, e1]
    rw [e1] at CF
    have C1 := hid (show ∀ wq, BldAt wq w.heap.size 0 B → SunAt wq (w.heap.size + 1) 0 hs ts → PlnAt wq (w.heap.size + 1 + 1) p → Calls Try.prog 66 #[.pointer (some ⟨w.heap.size, 0, none⟩), .pointer (some ⟨(w.heap.size + 1), 0, none⟩), .pointer (some ⟨(w.heap.size + 1 + 1), 0, none⟩), .bool false] wq fun e w' => e = .returned (.int .i64 (kwC B hs ts p f lo hi)) ∧ wq = w' from by intro wq hA hS hP; have := c_l07Asked B wf hs ts p bh bt lp bp (kwR f lo hi) _ _ _ _ _ wq hA hS hP; unfold kwC; rw [KR] at this ⊢; exact this)
    have CF2 := hid CF
    clear CF CL CH
    by_cases hz : kwC B hs ts p f lo hi = 0
    · have := (codeOf_zero hz).2
      rw [KR] at this; cases this
    · have hz2 : Hid (¬ kwC B hs ts p f lo hi = 0) := hid hz
      generalize hcv : kwC B hs ts p f lo hi = cv at *
      have CV := hid hcv
      have hne : (cv != 0) = true := by rw [bne_iff_ne]; exact hz
      clear hcv hz
      have HC0 := HB0
      have HC1 := HB1
      have HC2 := HB2
      have H2 := H0
      go_enter Try.func21, Try.ntmps21
      go_wp2_with (first | (go_at_call 67; with_reducible refine (CF2.out _).mono ?_; rintro e w' ⟨rfl, rfl⟩) | (go_at_call 66; with_reducible refine (C1.out _ (BldAt.of_block HC0.out) (SunAt.of_block LH.out LT.out HC1.out) (PlnAt.of_block LP.out HC2.out)).mono ?_; rintro e w' ⟨rfl, rfl⟩))
      go_ret2
      exact ⟨ret_tup2 (congrArg Value.bool (show false = kwN B hs ts p f lo hi by rw [kwN, CV.out, if_neg hz2.out])) rfl, H2.out⟩
  · have KR : kwR f lo hi = false := by simp [kwR, e1, e2]
    rw [e1] at CF
    rw [e2] at CL
    have C1 := hid (show ∀ wq, BldAt wq w.heap.size 0 B → SunAt wq (w.heap.size + 1) 0 hs ts → PlnAt wq (w.heap.size + 1 + 1) p → Calls Try.prog 66 #[.pointer (some ⟨w.heap.size, 0, none⟩), .pointer (some ⟨(w.heap.size + 1), 0, none⟩), .pointer (some ⟨(w.heap.size + 1 + 1), 0, none⟩), .bool false] wq fun e w' => e = .returned (.int .i64 (kwC B hs ts p f lo hi)) ∧ wq = w' from by intro wq hA hS hP; have := c_l07Asked B wf hs ts p bh bt lp bp (kwR f lo hi) _ _ _ _ _ wq hA hS hP; unfold kwC; rw [KR] at this ⊢; exact this)
    have CF2 := hid CF
    have CL2 := hid CL
    clear CF CL CH
    by_cases hz : kwC B hs ts p f lo hi = 0
    · have := (codeOf_zero hz).2
      rw [KR] at this; cases this
    · have hz2 : Hid (¬ kwC B hs ts p f lo hi = 0) := hid hz
      generalize hcv : kwC B hs ts p f lo hi = cv at *
      have CV := hid hcv
      have hne : (cv != 0) = true := by rw [bne_iff_ne]; exact hz
      clear hcv hz
      have HC0 := HB0
      have HC1 := HB1
      have HC2 := HB2
      have H2 := H0
      go_enter Try.func21, Try.ntmps21
      go_wp2_with (first | (go_at_call 67; with_reducible refine (CF2.out _).mono ?_; rintro e w' ⟨rfl, rfl⟩) | (go_at_call 68; with_reducible refine (CL2.out _).mono ?_; rintro e w' ⟨rfl, rfl⟩) | (go_at_call 66; with_reducible refine (C1.out _ (BldAt.of_block HC0.out) (SunAt.of_block LH.out LT.out HC1.out) (PlnAt.of_block LP.out HC2.out)).mono ?_; rintro e w' ⟨rfl, rfl⟩))
      go_ret2
      exact ⟨ret_tup2 (congrArg Value.bool (show false = kwN B hs ts p f lo hi by rw [kwN, CV.out, if_neg hz2.out])) rfl, H2.out⟩
  · have KR : kwR f lo hi = false := by simp [kwR, e1, e2, e3]
    rw [e1] at CF
    rw [e2] at CL
    rw [e3] at CH
    have C1 := hid (show ∀ wq, BldAt wq w.heap.size 0 B → SunAt wq (w.heap.size + 1) 0 hs ts → PlnAt wq (w.heap.size + 1 + 1) p → Calls Try.prog 66 #[.pointer (some ⟨w.heap.size, 0, none⟩), .pointer (some ⟨(w.heap.size + 1), 0, none⟩), .pointer (some ⟨(w.heap.size + 1 + 1), 0, none⟩), .bool false] wq fun e w' => e = .returned (.int .i64 (kwC B hs ts p f lo hi)) ∧ wq = w' from by intro wq hA hS hP; have := c_l07Asked B wf hs ts p bh bt lp bp (kwR f lo hi) _ _ _ _ _ wq hA hS hP; unfold kwC; rw [KR] at this ⊢; exact this)
    have CF2 := hid CF
    have CL2 := hid CL
    have CH2 := hid CH
    clear CF CL CH
    by_cases hz : kwC B hs ts p f lo hi = 0
    · have := (codeOf_zero hz).2
      rw [KR] at this; cases this
    · have hz2 : Hid (¬ kwC B hs ts p f lo hi = 0) := hid hz
      generalize hcv : kwC B hs ts p f lo hi = cv at *
      have CV := hid hcv
      have hne : (cv != 0) = true := by rw [bne_iff_ne]; exact hz
      clear hcv hz
      have HC0 := HB0
      have HC1 := HB1
      have HC2 := HB2
      have H2 := H0
      go_enter Try.func21, Try.ntmps21
      go_wp2_with (first | (go_at_call 67; with_reducible refine (CF2.out _).mono ?_; rintro e w' ⟨rfl, rfl⟩) | (go_at_call 68; with_reducible refine (CL2.out _).mono ?_; rintro e w' ⟨rfl, rfl⟩) | (go_at_call 68; with_reducible refine (CH2.out _).mono ?_; rintro e w' ⟨rfl, rfl⟩) | (go_at_call 66; with_reducible refine (C1.out _ (BldAt.of_block HC0.out) (SunAt.of_block LH.out LT.out HC1.out) (PlnAt.of_block LP.out HC2.out)).mono ?_; rintro e w' ⟨rfl, rfl⟩))
      go_ret2
      exact ⟨ret_tup2 (congrArg Value.bool (show false = kwN B hs ts p f lo hi by rw [kwN, CV.out, if_neg hz2.out])) rfl, H2.out⟩
  · have KR : kwR f lo hi = true := by simp [kwR, e1, e2, e3]
    rw [e1] at CF
    rw [e2] at CL
    rw [e3] at CH
    have C1 := hid (show ∀ wq, BldAt wq w.heap.size 0 B → SunAt wq (w.heap.size + 1) 0 hs ts → PlnAt wq (w.heap.size + 1 + 1) p → Calls Try.prog 66 #[.pointer (some ⟨w.heap.size, 0, none⟩), .pointer (some ⟨(w.heap.size + 1), 0, none⟩), .pointer (some ⟨(w.heap.size + 1 + 1), 0, none⟩), .bool true] wq fun e w' => e = .returned (.int .i64 (kwC B hs ts p f lo hi)) ∧ wq = w' from by intro wq hA hS hP; have := c_l07Asked B wf hs ts p bh bt lp bp (kwR f lo hi) _ _ _ _ _ wq hA hS hP; unfold kwC; rw [KR] at this ⊢; exact this)
    have CF2 := hid CF
    have CL2 := hid CL
    have CH2 := hid CH
    clear CF CL CH
    by_cases hz : kwC B hs ts p f lo hi = 0
    · obtain ⟨hok, -⟩ := codeOf_zero hz
      have hB := OkB.of wf (by simp only [Bool.and_eq_true] at hok; exact hok.1.1)
      have hS2 : okS hs ts = true := by simp only [Bool.and_eq_true] at hok; exact hok.1.2
      have hP2 := tilts_at lp (by simp only [Bool.and_eq_true] at hok; exact hok.2)
      have hF : 0 ≤ f ∧ f ≤ 255 := by simpa [inB] using e1
      have hlo := (part_in wl e2).fin
      have hhi := (part_in wh e3).fin
      have CO := hid (fun c b d w hA hS hP => c_l07Outside B hB c 0 b 0 d hs ts p f lo hi w hA hS hP hS2 hP2 hF hlo hhi)
      clear wf lh lt lp bh bt bp hok hB hS2 hP2 hF hlo hhi
      have hz2 : Hid (kwC B hs ts p f lo hi = 0) := hid hz
      rw [hz] at C1
      clear hz
      have HC0 := HB0
      have HC1 := HB1
      have HC2 := HB2
      have H2 := H0
      go_enter Try.func21, Try.ntmps21
      go_wp2_with (first | (go_at_call 67; with_reducible refine (CF2.out _).mono ?_; rintro e w' ⟨rfl, rfl⟩) | (go_at_call 68; with_reducible refine (CL2.out _).mono ?_; rintro e w' ⟨rfl, rfl⟩) | (go_at_call 68; with_reducible refine (CH2.out _).mono ?_; rintro e w' ⟨rfl, rfl⟩) | (go_at_call 66; with_reducible refine (C1.out _ (BldAt.of_block HC0.out) (SunAt.of_block LH.out LT.out HC1.out) (PlnAt.of_block LP.out HC2.out)).mono ?_; rintro e w' ⟨rfl, rfl⟩) | (go_at_call 69; refine (CO.out _ _ _ _ (BldAt.of_block HC0.out) (SunAt.of_block LH.out LT.out HC1.out) (PlnAt.of_block LP.out HC2.out)).mono ?_; rintro e w3 ⟨rfl, h3⟩))
      go_ret2
      exact ⟨ret_tup2 (congrArg Value.bool (show decide (outC (outsideN B hs ts f p lo hi) < 0) = kwN B hs ts p f lo hi by rw [kwN, if_pos hz2.out, Bool.eq_iff_iff, decide_eq_true_eq, decide_eq_true_eq, outC]; split <;> omega)) (congrArg (Value.int .i64) (show (0 : Int) = kwC B hs ts p f lo hi from hz2.out.symm)), below_trans H2.out h3 H2.out.size⟩
    · have hz2 : Hid (¬ kwC B hs ts p f lo hi = 0) := hid hz
      generalize hcv : kwC B hs ts p f lo hi = cv at *
      have CV := hid hcv
      have hne : (cv != 0) = true := by rw [bne_iff_ne]; exact hz
      clear hcv hz
      have HC0 := HB0
      have HC1 := HB1
      have HC2 := HB2
      have H2 := H0
      go_enter Try.func21, Try.ntmps21
      go_wp2_with (first | (go_at_call 67; with_reducible refine (CF2.out _).mono ?_; rintro e w' ⟨rfl, rfl⟩) | (go_at_call 68; with_reducible refine (CL2.out _).mono ?_; rintro e w' ⟨rfl, rfl⟩) | (go_at_call 68; with_reducible refine (CH2.out _).mono ?_; rintro e w' ⟨rfl, rfl⟩) | (go_at_call 66; with_reducible refine (C1.out _ (BldAt.of_block HC0.out) (SunAt.of_block LH.out LT.out HC1.out) (PlnAt.of_block LP.out HC2.out)).mono ?_; rintro e w' ⟨rfl, rfl⟩))
      go_ret2
      exact ⟨ret_tup2 (congrArg Value.bool (show false = kwN B hs ts p f lo hi by rw [kwN, CV.out, if_neg hz2.out])) rfl, H2.out⟩
set_option maxHeartbeats 1000000 in
theorem c_specFirstOutside (B : Bld) (wf : WfB B) (hs ts p : List Int) (lh : hs.length = 24) (lt : ts.length = 24) (lp : p.length = 24) (bh : I16 hs) (bt : I16 ts) (bp : I16 p) (f : Int) (lo hi : Nat) (wl : lo < 4294967296) (wh : hi < 4294967296) (w : World) :
    Calls Try.prog 25 #[.agg (bcells B), .agg (scells hs ts), .int .i64 f, .agg (i16s p), .float .f32 lo, .float .f32 hi] w fun e w' => e = .returned (.tuple #[.int .i64 (foN B hs ts p f lo hi), .int .i64 (foC B hs ts p f lo hi)]) ∧ Below w.heap.size w w' := by
  have HB0 : Hid ((((w.alloc (.cells (bcells B) 32)).alloc (.cells (scells hs ts) 45)).alloc (.cells (i16s p) 47)).heap[w.heap.size]? = some (.cells (bcells B) 32 (0, 0))) := hid ((blk_past _ _ _ (by simp; omega)).trans ((blk_past _ _ _ (by simp)).trans (blk_at _ _ _ rfl)))
  have HZ0 : Hid ((Try.prog.info? 32).map (·.size) = some (bcells B).size) := hid (size_blind B)
  have HB1 : Hid ((((w.alloc (.cells (bcells B) 32)).alloc (.cells (scells hs ts) 45)).alloc (.cells (i16s p) 47)).heap[w.heap.size + 1]? = some (.cells (scells hs ts) 45 (0, 0))) := hid ((blk_past _ _ _ (by simp)).trans (blk_at _ _ _ (by simp)))
  have HZ1 : Hid ((Try.prog.info? 45).map (·.size) = some (scells hs ts).size) := hid (by rw [scells_size lh lt]; kernel_rfl)
  have HB2 : Hid ((((w.alloc (.cells (bcells B) 32)).alloc (.cells (scells hs ts) 45)).alloc (.cells (i16s p) 47)).heap[w.heap.size + 1 + 1]? = some (.cells (i16s p) 47 (0, 0))) := hid (blk_at _ _ _ (by simp))
  have HZ2 : Hid ((Try.prog.info? 47).map (·.size) = some (i16s p).size) := hid (by rw [i16s_size, lp]; kernel_rfl)
  have H0 : Hid (Below w.heap.size w (((w.alloc (.cells (bcells B) 32)).alloc (.cells (scells hs ts) 45)).alloc (.cells (i16s p) 47))) := hid ((((Below.refl _ _).alloc (Nat.le_refl _) _).alloc (by simp) _).alloc (by simp; omega) _)
  have LP := hid lp
  have LH := hid lh
  have LT := hid lt
  have CF := fun w => c_l01Faced f w
  have CL := fun w => c_l01Part lo w
  have CH := fun w => c_l01Part hi w
  rcases three3 (a := inB f 0 255) (b := isPart lo) (c := isPart hi) with e1 | ⟨e1, e2⟩ | ⟨e1, e2, e3⟩ | ⟨e1, e2, e3⟩
  · have KR : kwR f lo hi = false := by simp [kwR, e1]
    rw [e1] at CF
    have C1 := hid (show ∀ wq, BldAt wq w.heap.size 0 B → SunAt wq (w.heap.size + 1) 0 hs ts → PlnAt wq (w.heap.size + 1 + 1) p → Calls Try.prog 66 #[.pointer (some ⟨w.heap.size, 0, none⟩), .pointer (some ⟨(w.heap.size + 1), 0, none⟩), .pointer (some ⟨(w.heap.size + 1 + 1), 0, none⟩), .bool false] wq fun e w' => e = .returned (.int .i64 (kwC B hs ts p f lo hi)) ∧ wq = w' from by intro wq hA hS hP; have := c_l07Asked B wf hs ts p bh bt lp bp (kwR f lo hi) _ _ _ _ _ wq hA hS hP; unfold kwC; rw [KR] at this ⊢; exact this)
    have CF2 := hid CF
    clear CF CL CH
    by_cases hz : kwC B hs ts p f lo hi = 0
    · have := (codeOf_zero hz).2
      rw [KR] at this; cases this
    · have hz2 : Hid (¬ kwC B hs ts p f lo hi = 0) := hid hz
      generalize hcv : kwC B hs ts p f lo hi = cv at *
      have CV := hid hcv
      have hne : (cv != 0) = true := by rw [bne_iff_ne]; exact hz
      clear hcv hz
      have HC0 := HB0
      have HC1 := HB1
      have HC2 := HB2
      have H2 := H0
      go_enter Try.func25, Try.ntmps25
      go_wp2_with (first | (go_at_call 67; with_reducible refine (CF2.out _).mono ?_; rintro e w' ⟨rfl, rfl⟩) | (go_at_call 66; with_reducible refine (C1.out _ (BldAt.of_block HC0.out) (SunAt.of_block LH.out LT.out HC1.out) (PlnAt.of_block LP.out HC2.out)).mono ?_; rintro e w' ⟨rfl, rfl⟩))
      go_ret2
      exact ⟨ret_tup2 (congrArg (Value.int .i64) (show (0 : Int) = foN B hs ts p f lo hi by rw [foN, CV.out, if_neg hz2.out])) (congrArg (Value.int .i64) (show cv = foC B hs ts p f lo hi by rw [foC, CV.out, if_neg hz2.out])), H2.out⟩
  · have KR : kwR f lo hi = false := by simp [kwR, e1, e2]
    rw [e1] at CF
    rw [e2] at CL
    have C1 := hid (show ∀ wq, BldAt wq w.heap.size 0 B → SunAt wq (w.heap.size + 1) 0 hs ts → PlnAt wq (w.heap.size + 1 + 1) p → Calls Try.prog 66 #[.pointer (some ⟨w.heap.size, 0, none⟩), .pointer (some ⟨(w.heap.size + 1), 0, none⟩), .pointer (some ⟨(w.heap.size + 1 + 1), 0, none⟩), .bool false] wq fun e w' => e = .returned (.int .i64 (kwC B hs ts p f lo hi)) ∧ wq = w' from by intro wq hA hS hP; have := c_l07Asked B wf hs ts p bh bt lp bp (kwR f lo hi) _ _ _ _ _ wq hA hS hP; unfold kwC; rw [KR] at this ⊢; exact this)
    have CF2 := hid CF
    have CL2 := hid CL
    clear CF CL CH
    by_cases hz : kwC B hs ts p f lo hi = 0
    · have := (codeOf_zero hz).2
      rw [KR] at this; cases this
    · have hz2 : Hid (¬ kwC B hs ts p f lo hi = 0) := hid hz
      generalize hcv : kwC B hs ts p f lo hi = cv at *
      have CV := hid hcv
      have hne : (cv != 0) = true := by rw [bne_iff_ne]; exact hz
      clear hcv hz
      have HC0 := HB0
      have HC1 := HB1
      have HC2 := HB2
      have H2 := H0
      go_enter Try.func25, Try.ntmps25
      go_wp2_with (first | (go_at_call 67; with_reducible refine (CF2.out _).mono ?_; rintro e w' ⟨rfl, rfl⟩) | (go_at_call 68; with_reducible refine (CL2.out _).mono ?_; rintro e w' ⟨rfl, rfl⟩) | (go_at_call 66; with_reducible refine (C1.out _ (BldAt.of_block HC0.out) (SunAt.of_block LH.out LT.out HC1.out) (PlnAt.of_block LP.out HC2.out)).mono ?_; rintro e w' ⟨rfl, rfl⟩))
      go_ret2
      exact ⟨ret_tup2 (congrArg (Value.int .i64) (show (0 : Int) = foN B hs ts p f lo hi by rw [foN, CV.out, if_neg hz2.out])) (congrArg (Value.int .i64) (show cv = foC B hs ts p f lo hi by rw [foC, CV.out, if_neg hz2.out])), H2.out⟩
  · have KR : kwR f lo hi = false := by simp [kwR, e1, e2, e3]
    rw [e1] at CF
    rw [e2] at CL
    rw [e3] at CH
    have C1 := hid (show ∀ wq, BldAt wq w.heap.size 0 B → SunAt wq (w.heap.size + 1) 0 hs ts → PlnAt wq (w.heap.size + 1 + 1) p → Calls Try.prog 66 #[.pointer (some ⟨w.heap.size, 0, none⟩), .pointer (some ⟨(w.heap.size + 1), 0, none⟩), .pointer (some ⟨(w.heap.size + 1 + 1), 0, none⟩), .bool false] wq fun e w' => e = .returned (.int .i64 (kwC B hs ts p f lo hi)) ∧ wq = w' from by intro wq hA hS hP; have := c_l07Asked B wf hs ts p bh bt lp bp (kwR f lo hi) _ _ _ _ _ wq hA hS hP; unfold kwC; rw [KR] at this ⊢; exact this)
    have CF2 := hid CF
    have CL2 := hid CL
    have CH2 := hid CH
    clear CF CL CH
    by_cases hz : kwC B hs ts p f lo hi = 0
    · have := (codeOf_zero hz).2
      rw [KR] at this; cases this
    · have hz2 : Hid (¬ kwC B hs ts p f lo hi = 0) := hid hz
      generalize hcv : kwC B hs ts p f lo hi = cv at *
      have CV := hid hcv
      have hne : (cv != 0) = true := by rw [bne_iff_ne]; exact hz
      clear hcv hz
      have HC0 := HB0
      have HC1 := HB1
      have HC2 := HB2
      have H2 := H0
      go_enter Try.func25, Try.ntmps25
      go_wp2_with (first | (go_at_call 67; with_reducible refine (CF2.out _).mono ?_; rintro e w' ⟨rfl, rfl⟩) | (go_at_call 68; with_reducible refine (CL2.out _).mono ?_; rintro e w' ⟨rfl, rfl⟩) | (go_at_call 68; with_reducible refine (CH2.out _).mono ?_; rintro e w' ⟨rfl, rfl⟩) | (go_at_call 66; with_reducible refine (C1.out _ (BldAt.of_block HC0.out) (SunAt.of_block LH.out LT.out HC1.out) (PlnAt.of_block LP.out HC2.out)).mono ?_; rintro e w' ⟨rfl, rfl⟩))
      go_ret2
      exact ⟨ret_tup2 (congrArg (Value.int .i64) (show (0 : Int) = foN B hs ts p f lo hi by rw [foN, CV.out, if_neg hz2.out])) (congrArg (Value.int .i64) (show cv = foC B hs ts p f lo hi by rw [foC, CV.out, if_neg hz2.out])), H2.out⟩
  · have KR : kwR f lo hi = true := by simp [kwR, e1, e2, e3]
    rw [e1] at CF
    rw [e2] at CL
    rw [e3] at CH
    have C1 := hid (show ∀ wq, BldAt wq w.heap.size 0 B → SunAt wq (w.heap.size + 1) 0 hs ts → PlnAt wq (w.heap.size + 1 + 1) p → Calls Try.prog 66 #[.pointer (some ⟨w.heap.size, 0, none⟩), .pointer (some ⟨(w.heap.size + 1), 0, none⟩), .pointer (some ⟨(w.heap.size + 1 + 1), 0, none⟩), .bool true] wq fun e w' => e = .returned (.int .i64 (kwC B hs ts p f lo hi)) ∧ wq = w' from by intro wq hA hS hP; have := c_l07Asked B wf hs ts p bh bt lp bp (kwR f lo hi) _ _ _ _ _ wq hA hS hP; unfold kwC; rw [KR] at this ⊢; exact this)
    have CF2 := hid CF
    have CL2 := hid CL
    have CH2 := hid CH
    clear CF CL CH
    by_cases hz : kwC B hs ts p f lo hi = 0
    · obtain ⟨hok, -⟩ := codeOf_zero hz
      have hB := OkB.of wf (by simp only [Bool.and_eq_true] at hok; exact hok.1.1)
      have hS2 : okS hs ts = true := by simp only [Bool.and_eq_true] at hok; exact hok.1.2
      have hP2 := tilts_at lp (by simp only [Bool.and_eq_true] at hok; exact hok.2)
      have hF : 0 ≤ f ∧ f ≤ 255 := by simpa [inB] using e1
      have hlo := (part_in wl e2).fin
      have hhi := (part_in wh e3).fin
      have CO := hid (fun c b d w hA hS hP => c_l07Outside B hB c 0 b 0 d hs ts p f lo hi w hA hS hP hS2 hP2 hF hlo hhi)
      clear wf lh lt lp bh bt bp hok hB hS2 hP2 hF hlo hhi
      have hz2 : Hid (kwC B hs ts p f lo hi = 0) := hid hz
      rw [hz] at C1
      clear hz
      generalize hN : outsideN B hs ts f p lo hi = N at *
      have NN := hid hN
      clear hN
      by_cases h24 : N = 24
      · rw [outC, if_pos h24] at CO
        have HC0 := HB0
        have HC1 := HB1
        have HC2 := HB2
        have H2 := H0
        go_enter Try.func25, Try.ntmps25
        go_wp2_with (first | (go_at_call 67; with_reducible refine (CF2.out _).mono ?_; rintro e w' ⟨rfl, rfl⟩) | (go_at_call 68; with_reducible refine (CL2.out _).mono ?_; rintro e w' ⟨rfl, rfl⟩) | (go_at_call 68; with_reducible refine (CH2.out _).mono ?_; rintro e w' ⟨rfl, rfl⟩) | (go_at_call 66; with_reducible refine (C1.out _ (BldAt.of_block HC0.out) (SunAt.of_block LH.out LT.out HC1.out) (PlnAt.of_block LP.out HC2.out)).mono ?_; rintro e w' ⟨rfl, rfl⟩) | (go_at_call 69; refine (CO.out _ _ _ _ (BldAt.of_block HC0.out) (SunAt.of_block LH.out LT.out HC1.out) (PlnAt.of_block LP.out HC2.out)).mono ?_; rintro e w3 ⟨rfl, h3⟩))
        go_ret2
        exact ⟨ret_tup2 (congrArg (Value.int .i64) (show (0 : Int) = foN B hs ts p f lo hi by rw [foN, if_pos hz2.out, NN.out, if_pos h24])) (congrArg (Value.int .i64) (show (6 : Int) = foC B hs ts p f lo hi by rw [foC, if_pos hz2.out, NN.out, if_pos h24])), below_trans H2.out h3 H2.out.size⟩
      · rw [outC, if_neg h24] at CO
        have HC0 := HB0
        have HC1 := HB1
        have HC2 := HB2
        have H2 := H0
        go_enter Try.func25, Try.ntmps25
        go_wp2_with (first | (go_at_call 67; with_reducible refine (CF2.out _).mono ?_; rintro e w' ⟨rfl, rfl⟩) | (go_at_call 68; with_reducible refine (CL2.out _).mono ?_; rintro e w' ⟨rfl, rfl⟩) | (go_at_call 68; with_reducible refine (CH2.out _).mono ?_; rintro e w' ⟨rfl, rfl⟩) | (go_at_call 66; with_reducible refine (C1.out _ (BldAt.of_block HC0.out) (SunAt.of_block LH.out LT.out HC1.out) (PlnAt.of_block LP.out HC2.out)).mono ?_; rintro e w' ⟨rfl, rfl⟩) | (go_at_call 69; refine (CO.out _ _ _ _ (BldAt.of_block HC0.out) (SunAt.of_block LH.out LT.out HC1.out) (PlnAt.of_block LP.out HC2.out)).mono ?_; rintro e w3 ⟨rfl, h3⟩))
        go_ret2
        exact ⟨ret_tup2 (congrArg (Value.int .i64) (show (N : Int) = foN B hs ts p f lo hi by rw [foN, if_pos hz2.out, NN.out, if_neg h24])) (congrArg (Value.int .i64) (show (0 : Int) = foC B hs ts p f lo hi by rw [foC, if_pos hz2.out, NN.out, if_neg h24])), below_trans H2.out h3 H2.out.size⟩
    · have hz2 : Hid (¬ kwC B hs ts p f lo hi = 0) := hid hz
      generalize hcv : kwC B hs ts p f lo hi = cv at *
      have CV := hid hcv
      have hne : (cv != 0) = true := by rw [bne_iff_ne]; exact hz
      clear hcv hz
      have HC0 := HB0
      have HC1 := HB1
      have HC2 := HB2
      have H2 := H0
      go_enter Try.func25, Try.ntmps25
      go_wp2_with (first | (go_at_call 67; with_reducible refine (CF2.out _).mono ?_; rintro e w' ⟨rfl, rfl⟩) | (go_at_call 68; with_reducible refine (CL2.out _).mono ?_; rintro e w' ⟨rfl, rfl⟩) | (go_at_call 68; with_reducible refine (CH2.out _).mono ?_; rintro e w' ⟨rfl, rfl⟩) | (go_at_call 66; with_reducible refine (C1.out _ (BldAt.of_block HC0.out) (SunAt.of_block LH.out LT.out HC1.out) (PlnAt.of_block LP.out HC2.out)).mono ?_; rintro e w' ⟨rfl, rfl⟩))
      go_ret2
      exact ⟨ret_tup2 (congrArg (Value.int .i64) (show (0 : Int) = foN B hs ts p f lo hi by rw [foN, CV.out, if_neg hz2.out])) (congrArg (Value.int .i64) (show cv = foC B hs ts p f lo hi by rw [foC, CV.out, if_neg hz2.out])), H2.out⟩
end Go.Proofs.Ythnffhmefgfnkaa
