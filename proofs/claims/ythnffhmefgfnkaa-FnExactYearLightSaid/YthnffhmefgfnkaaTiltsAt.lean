/- Walks of TiltsAt. -/
import Derived.Test.YthnffhmefgfnkaaTilts
namespace Go.Proofs.Ythnffhmefgfnkaa
set_option maxRecDepth 20000
open Go.RowKit

theorem z24_tilts : tilts z24 = true := by decide
theorem z24_i16 : I16 z24 := fun k hk => by
  have h := List.all_eq_true.1 (show ((List.range 24).all fun k => iat z24 k == 0) = true by decide) k (List.mem_range.2 hk)
  have : iat z24 k = 0 := by simpa using h
  omega
def zP : Array Value := #[.int .i16 0, .int .i16 0, .int .i16 0, .int .i16 0, .int .i16 0, .int .i16 0, .int .i16 0, .int .i16 0, .int .i16 0, .int .i16 0, .int .i16 0, .int .i16 0, .int .i16 0, .int .i16 0, .int .i16 0, .int .i16 0, .int .i16 0, .int .i16 0, .int .i16 0, .int .i16 0, .int .i16 0, .int .i16 0, .int .i16 0, .int .i16 0]
theorem zP_is : zP = i16s z24 := by kernel_rfl
theorem zP_one : zP.all (·.oneCell') = true := by rw [zP_is]; exact i16s_one _
theorem zP_size : (Try.prog.info? 47).map (·.size) = some zP.size := by kernel_rfl
def tlR (f g : Int) (lo hi : Nat) : Bool := inB f 0 255 && inB g 0 23 && isPart lo && isPart hi
def tlC (B : Bld) (hs ts : List Int) (f g : Int) (lo hi : Nat) : Int := codeOf (okB B && okS hs ts) (tlR f g lo hi)
def tlL (B : Bld) (hs ts : List Int) (f g : Int) (lo hi : Nat) : List Int := if tlC B hs ts f g lo hi = 0 then tiltsK (atG B hs ts f g.toNat lo hi) 129 else []
theorem tlL_len (B : Bld) (hs ts : List Int) (f g : Int) (lo hi : Nat) : (tlL B hs ts f g lo hi).length ≤ 199 := by
  unfold tlL; split
  · have := tiltsK_len (atG B hs ts f g.toNat lo hi) 129; omega
  · simp
theorem ints_of_got {P : Program} {f : FuncId} {args : Array Value} {w : World} {C : Int} {L : List Int} (h : Calls P f args w fun e w' => (∃ v, e = .returned (.tuple #[v, .int .i64 C]) ∧ GotI w' w.heap.size v L) ∧ Below w.heap.size w w') (hl : L.length ≤ 999) :
    Calls P f args w fun e w' => (∃ v, e = .returned (.tuple #[v, .int .i64 C]) ∧ Ints w' v L) ∧ Below w.heap.size w w' :=
  h.mono fun _ _ ⟨⟨v, he, hg⟩, hb⟩ => ⟨⟨v, he, hg.reads hl⟩, hb⟩
theorem goti_empty (w : World) (n lo : Nat) (hn : n = w.heap.size) (h : lo ≤ n) : GotI (w.alloc (.cells #[] 2)) lo (.slice (some ⟨n, 0, none⟩) 0 0) [] := by
  subst hn; exact ownsRow_from (owns_empty _ _) h
set_option maxHeartbeats 1000000 in
theorem c_implTiltsAt (B : Bld) (wf : WfB B) (hs ts : List Int) (lh : hs.length = 24) (lt : ts.length = 24) (bh : I16 hs) (bt : I16 ts) (f g : Int) (lo hi : Nat) (w : World) :
    Calls Try.prog 32 #[.agg (bcells B), .agg (scells hs ts), .int .i64 f, .int .i64 g, .float .f32 lo, .float .f32 hi] w fun e w' => (∃ v, e = .returned (.tuple #[v, .int .i64 (tlC B hs ts f g lo hi)]) ∧ GotI w' w.heap.size v (tlL B hs ts f g lo hi)) ∧ Below w.heap.size w w' := by
  have HB0 : Hid (((w.alloc (.cells (bcells B) 32)).alloc (.cells (scells hs ts) 45)).heap[w.heap.size]? = some (.cells (bcells B) 32 (0, 0))) := hid ((blk_past _ _ _ (by simp)).trans (blk_at _ _ _ rfl))
  have HZ0 : Hid ((Try.prog.info? 32).map (·.size) = some (bcells B).size) := hid (size_blind B)
  have HB1 : Hid (((w.alloc (.cells (bcells B) 32)).alloc (.cells (scells hs ts) 45)).heap[w.heap.size + 1]? = some (.cells (scells hs ts) 45 (0, 0))) := hid (blk_at _ _ _ (by simp))
  have HZ1 : Hid ((Try.prog.info? 45).map (·.size) = some (scells hs ts).size) := hid (by rw [scells_size lh lt]; kernel_rfl)
  have H0 : Hid (Below w.heap.size w ((w.alloc (.cells (bcells B) 32)).alloc (.cells (scells hs ts) 45))) := hid (((Below.refl _ _).alloc (Nat.le_refl _) _).alloc (by simp) _)
  have CG0 := fun w => c_isFacing f w
  have CG1 := fun w => c_isHour g w
  have CG2 := fun w => c_IsPart lo w
  have CG3 := fun w => c_IsPart hi w
  cases e1 : inB f 0 255
  · skip
    have KR : tlR f g lo hi = false := by simp [tlR, e1]
    rw [e1] at CG0
    have C1 := hid (fun w => show Calls Try.prog 76 #[.agg (bcells B), .agg (scells hs ts), .bool false] w fun e w' => e = .returned (.int .i64 (tlC B hs ts f g lo hi)) ∧ Below w.heap.size w w' from by have := c_windowCode B wf hs ts lh lt bh bt (tlR f g lo hi) w; rw [Bool.and_comm] at this; unfold tlC; rw [KR] at this ⊢; exact this)
    have CH0 := hid CG0
    clear CG0 CG1 CG2 CG3
    by_cases hz : tlC B hs ts f g lo hi = 0
    · have := (codeOf_zero hz).2
      rw [KR] at this; cases this
    · have hz2 : Hid (¬ tlC B hs ts f g lo hi = 0) := hid hz
      generalize hcv : tlC B hs ts f g lo hi = cv at *
      have CV := hid hcv
      have hne : (cv != 0) = true := by rw [bne_iff_ne]; exact hz
      clear hcv hz
      go_enter Try.func32, Try.ntmps32
      go_wp2_with fail
      refine wp_region_below (by kernel_rfl) (by kernel_rfl) ?_
      repeat (first | (refine wpQuiet_load_row rfl 32 _ rfl (w.heap.size) rfl 32 (bcells B) (0, 0) _ (fun wx hwx => (hwx.out.block _ (block_lt HB0.out)).trans HB0.out) Try.underlying32 rfl HZ0.out ?_) | (refine wpQuiet_load_row rfl 45 _ rfl (w.heap.size + 1) rfl 45 (scells hs ts) (0, 0) _ (fun wx hwx => (hwx.out.block _ (block_lt HB1.out)).trans HB1.out) Try.underlying45 rfl HZ1.out ?_) | (refine wpQuiet_step (fun K hK => ?_); go_simp; first | (refine hK _ ?_; clear hK K) | (refine ⟨_, fun _ _ => rfl, hK _ ?_⟩; clear hK K) | (apply Exists.intro; refine ⟨fun wx hwx => ?_, hK _ ?_⟩; (first | (with_reducible exact quiet_below_same hwx (CH0.out _)) | (with_reducible exact quiet_below hwx (C1.out _))); clear hK K)))
      refine wpQuiet_nil ?_
      intro w2 h2
      replace h2 := h2.out
      have HC0 := hid ((h2.block _ (block_lt HB0.out)).trans HB0.out)
      have HC1 := hid ((h2.block _ (block_lt HB1.out)).trans HB1.out)
      have H2 := hid (below_trans H0.out h2 H0.out.size)
      clear h2
      go_wp2
      go_ret2
      exact ⟨⟨_, rfl, by rw [tlL, CV.out, if_neg hz2.out]; exact GotI.nil _ _⟩, H2.out⟩
  · skip
    cases e2 : inB g 0 23
    · skip
      have KR : tlR f g lo hi = false := by simp [tlR, e1, e2]
      rw [e1] at CG0
      rw [e2] at CG1
      have C1 := hid (fun w => show Calls Try.prog 76 #[.agg (bcells B), .agg (scells hs ts), .bool false] w fun e w' => e = .returned (.int .i64 (tlC B hs ts f g lo hi)) ∧ Below w.heap.size w w' from by have := c_windowCode B wf hs ts lh lt bh bt (tlR f g lo hi) w; rw [Bool.and_comm] at this; unfold tlC; rw [KR] at this ⊢; exact this)
      have CH0 := hid CG0
      have CH1 := hid CG1
      clear CG0 CG1 CG2 CG3
      by_cases hz : tlC B hs ts f g lo hi = 0
      · have := (codeOf_zero hz).2
        rw [KR] at this; cases this
      · have hz2 : Hid (¬ tlC B hs ts f g lo hi = 0) := hid hz
        generalize hcv : tlC B hs ts f g lo hi = cv at *
        have CV := hid hcv
        have hne : (cv != 0) = true := by rw [bne_iff_ne]; exact hz
        clear hcv hz
        go_enter Try.func32, Try.ntmps32
        go_wp2_with fail
        refine wp_region_below (by kernel_rfl) (by kernel_rfl) ?_
        repeat (first | (refine wpQuiet_load_row rfl 32 _ rfl (w.heap.size) rfl 32 (bcells B) (0, 0) _ (fun wx hwx => (hwx.out.block _ (block_lt HB0.out)).trans HB0.out) Try.underlying32 rfl HZ0.out ?_) | (refine wpQuiet_load_row rfl 45 _ rfl (w.heap.size + 1) rfl 45 (scells hs ts) (0, 0) _ (fun wx hwx => (hwx.out.block _ (block_lt HB1.out)).trans HB1.out) Try.underlying45 rfl HZ1.out ?_) | (refine wpQuiet_step (fun K hK => ?_); go_simp; first | (refine hK _ ?_; clear hK K) | (refine ⟨_, fun _ _ => rfl, hK _ ?_⟩; clear hK K) | (apply Exists.intro; refine ⟨fun wx hwx => ?_, hK _ ?_⟩; (first | (with_reducible exact quiet_below_same hwx (CH0.out _)) | (with_reducible exact quiet_below_same hwx (CH1.out _)) | (with_reducible exact quiet_below hwx (C1.out _))); clear hK K)))
        refine wpQuiet_nil ?_
        intro w2 h2
        replace h2 := h2.out
        have HC0 := hid ((h2.block _ (block_lt HB0.out)).trans HB0.out)
        have HC1 := hid ((h2.block _ (block_lt HB1.out)).trans HB1.out)
        have H2 := hid (below_trans H0.out h2 H0.out.size)
        clear h2
        go_wp2
        go_ret2
        exact ⟨⟨_, rfl, by rw [tlL, CV.out, if_neg hz2.out]; exact GotI.nil _ _⟩, H2.out⟩
    · skip
      cases e3 : isPart lo
      · skip
        have KR : tlR f g lo hi = false := by simp [tlR, e1, e2, e3]
        rw [e1] at CG0
        rw [e2] at CG1
        rw [e3] at CG2
        have C1 := hid (fun w => show Calls Try.prog 76 #[.agg (bcells B), .agg (scells hs ts), .bool false] w fun e w' => e = .returned (.int .i64 (tlC B hs ts f g lo hi)) ∧ Below w.heap.size w w' from by have := c_windowCode B wf hs ts lh lt bh bt (tlR f g lo hi) w; rw [Bool.and_comm] at this; unfold tlC; rw [KR] at this ⊢; exact this)
        have CH0 := hid CG0
        have CH1 := hid CG1
        have CH2 := hid CG2
        clear CG0 CG1 CG2 CG3
        by_cases hz : tlC B hs ts f g lo hi = 0
        · have := (codeOf_zero hz).2
          rw [KR] at this; cases this
        · have hz2 : Hid (¬ tlC B hs ts f g lo hi = 0) := hid hz
          generalize hcv : tlC B hs ts f g lo hi = cv at *
          have CV := hid hcv
          have hne : (cv != 0) = true := by rw [bne_iff_ne]; exact hz
          clear hcv hz
          go_enter Try.func32, Try.ntmps32
          go_wp2_with fail
          refine wp_region_below (by kernel_rfl) (by kernel_rfl) ?_
          repeat (first | (refine wpQuiet_load_row rfl 32 _ rfl (w.heap.size) rfl 32 (bcells B) (0, 0) _ (fun wx hwx => (hwx.out.block _ (block_lt HB0.out)).trans HB0.out) Try.underlying32 rfl HZ0.out ?_) | (refine wpQuiet_load_row rfl 45 _ rfl (w.heap.size + 1) rfl 45 (scells hs ts) (0, 0) _ (fun wx hwx => (hwx.out.block _ (block_lt HB1.out)).trans HB1.out) Try.underlying45 rfl HZ1.out ?_) | (refine wpQuiet_step (fun K hK => ?_); go_simp; first | (refine hK _ ?_; clear hK K) | (refine ⟨_, fun _ _ => rfl, hK _ ?_⟩; clear hK K) | (apply Exists.intro; refine ⟨fun wx hwx => ?_, hK _ ?_⟩; (first | (with_reducible exact quiet_below_same hwx (CH0.out _)) | (with_reducible exact quiet_below_same hwx (CH1.out _)) | (with_reducible exact quiet_below_same hwx (CH2.out _)) | (with_reducible exact quiet_below hwx (C1.out _))); clear hK K)))
          refine wpQuiet_nil ?_
          intro w2 h2
          replace h2 := h2.out
          have HC0 := hid ((h2.block _ (block_lt HB0.out)).trans HB0.out)
          have HC1 := hid ((h2.block _ (block_lt HB1.out)).trans HB1.out)
          have H2 := hid (below_trans H0.out h2 H0.out.size)
          clear h2
          go_wp2
          go_ret2
          exact ⟨⟨_, rfl, by rw [tlL, CV.out, if_neg hz2.out]; exact GotI.nil _ _⟩, H2.out⟩
      · skip
        cases e4 : isPart hi
        · skip
          have KR : tlR f g lo hi = false := by simp [tlR, e1, e2, e3, e4]
          rw [e1] at CG0
          rw [e2] at CG1
          rw [e3] at CG2
          rw [e4] at CG3
          have C1 := hid (fun w => show Calls Try.prog 76 #[.agg (bcells B), .agg (scells hs ts), .bool false] w fun e w' => e = .returned (.int .i64 (tlC B hs ts f g lo hi)) ∧ Below w.heap.size w w' from by have := c_windowCode B wf hs ts lh lt bh bt (tlR f g lo hi) w; rw [Bool.and_comm] at this; unfold tlC; rw [KR] at this ⊢; exact this)
          have CH0 := hid CG0
          have CH1 := hid CG1
          have CH2 := hid CG2
          have CH3 := hid CG3
          clear CG0 CG1 CG2 CG3
          by_cases hz : tlC B hs ts f g lo hi = 0
          · have := (codeOf_zero hz).2
            rw [KR] at this; cases this
          · have hz2 : Hid (¬ tlC B hs ts f g lo hi = 0) := hid hz
            generalize hcv : tlC B hs ts f g lo hi = cv at *
            have CV := hid hcv
            have hne : (cv != 0) = true := by rw [bne_iff_ne]; exact hz
            clear hcv hz
            go_enter Try.func32, Try.ntmps32
            go_wp2_with fail
            refine wp_region_below (by kernel_rfl) (by kernel_rfl) ?_
            repeat (first | (refine wpQuiet_load_row rfl 32 _ rfl (w.heap.size) rfl 32 (bcells B) (0, 0) _ (fun wx hwx => (hwx.out.block _ (block_lt HB0.out)).trans HB0.out) Try.underlying32 rfl HZ0.out ?_) | (refine wpQuiet_load_row rfl 45 _ rfl (w.heap.size + 1) rfl 45 (scells hs ts) (0, 0) _ (fun wx hwx => (hwx.out.block _ (block_lt HB1.out)).trans HB1.out) Try.underlying45 rfl HZ1.out ?_) | (refine wpQuiet_step (fun K hK => ?_); go_simp; first | (refine hK _ ?_; clear hK K) | (refine ⟨_, fun _ _ => rfl, hK _ ?_⟩; clear hK K) | (apply Exists.intro; refine ⟨fun wx hwx => ?_, hK _ ?_⟩; (first | (with_reducible exact quiet_below_same hwx (CH0.out _)) | (with_reducible exact quiet_below_same hwx (CH1.out _)) | (with_reducible exact quiet_below_same hwx (CH2.out _)) | (with_reducible exact quiet_below_same hwx (CH3.out _)) | (with_reducible exact quiet_below hwx (C1.out _))); clear hK K)))
            refine wpQuiet_nil ?_
            intro w2 h2
            replace h2 := h2.out
            have HC0 := hid ((h2.block _ (block_lt HB0.out)).trans HB0.out)
            have HC1 := hid ((h2.block _ (block_lt HB1.out)).trans HB1.out)
            have H2 := hid (below_trans H0.out h2 H0.out.size)
            clear h2
            go_wp2
            go_ret2
            exact ⟨⟨_, rfl, by rw [tlL, CV.out, if_neg hz2.out]; exact GotI.nil _ _⟩, H2.out⟩
        · skip
          have KR : tlR f g lo hi = true := by simp [tlR, e1, e2, e3, e4]
          rw [e1] at CG0
          rw [e2] at CG1
          rw [e3] at CG2
          rw [e4] at CG3
          have C1 := hid (fun w => show Calls Try.prog 76 #[.agg (bcells B), .agg (scells hs ts), .bool true] w fun e w' => e = .returned (.int .i64 (tlC B hs ts f g lo hi)) ∧ Below w.heap.size w w' from by have := c_windowCode B wf hs ts lh lt bh bt (tlR f g lo hi) w; rw [Bool.and_comm] at this; unfold tlC; rw [KR] at this ⊢; exact this)
          have CH0 := hid CG0
          have CH1 := hid CG1
          have CH2 := hid CG2
          have CH3 := hid CG3
          clear CG0 CG1 CG2 CG3
          by_cases hz : tlC B hs ts f g lo hi = 0
          · obtain ⟨hok, -⟩ := codeOf_zero hz
            have hB := OkB.of wf (by simp only [Bool.and_eq_true] at hok; exact hok.1)
            have hS2 : okS hs ts = true := by simp only [Bool.and_eq_true] at hok; exact hok.2
            have hF : 0 ≤ f ∧ f ≤ 255 := by simpa [inB] using e1
            have hg : 0 ≤ g ∧ g ≤ 23 := by simpa [inB] using e2
            have hk : g.toNat < 24 := by omega
            have hgn : ((g.toNat : Nat) : Int) = g := by omega
            have s := okS_at hS2 hk
            have CO0 := fun b w hS => c_tiltsAt B hB b 0 g.toNat hs ts f lo hi w hS hk ⟨s.1, s.2.1⟩ s.2.2 hF
            rw [hgn] at CO0
            have CO := hid CO0
            clear CO0 hgn hk
            have LH := hid lh
            have LT := hid lt
            clear wf lh lt bh bt hok hB hS2 hF hg s
            have hz2 : Hid (tlC B hs ts f g lo hi = 0) := hid hz
            rw [hz] at C1
            clear hz
            go_enter Try.func32, Try.ntmps32
            go_wp2_with fail
            refine wp_region_below (by kernel_rfl) (by kernel_rfl) ?_
            repeat (first | (refine wpQuiet_load_row rfl 32 _ rfl (w.heap.size) rfl 32 (bcells B) (0, 0) _ (fun wx hwx => (hwx.out.block _ (block_lt HB0.out)).trans HB0.out) Try.underlying32 rfl HZ0.out ?_) | (refine wpQuiet_load_row rfl 45 _ rfl (w.heap.size + 1) rfl 45 (scells hs ts) (0, 0) _ (fun wx hwx => (hwx.out.block _ (block_lt HB1.out)).trans HB1.out) Try.underlying45 rfl HZ1.out ?_) | (refine wpQuiet_step (fun K hK => ?_); go_simp; first | (refine hK _ ?_; clear hK K) | (refine ⟨_, fun _ _ => rfl, hK _ ?_⟩; clear hK K) | (apply Exists.intro; refine ⟨fun wx hwx => ?_, hK _ ?_⟩; (first | (with_reducible exact quiet_below_same hwx (CH0.out _)) | (with_reducible exact quiet_below_same hwx (CH1.out _)) | (with_reducible exact quiet_below_same hwx (CH2.out _)) | (with_reducible exact quiet_below_same hwx (CH3.out _)) | (with_reducible exact quiet_below hwx (C1.out _))); clear hK K)))
            refine wpQuiet_nil ?_
            intro w2 h2
            replace h2 := h2.out
            have HC0 := hid ((h2.block _ (block_lt HB0.out)).trans HB0.out)
            have HC1 := hid ((h2.block _ (block_lt HB1.out)).trans HB1.out)
            have H2 := hid (below_trans H0.out h2 H0.out.size)
            clear h2
            go_wp2_with (first | (refine wpList_load_row rfl 32 _ rfl (w.heap.size) rfl 32 (bcells B) (0, 0) _ HC0.out Try.underlying32 rfl HZ0.out ?_) | (go_at_call 84; refine (CO.out _ _ (SunAt.of_block LH.out LT.out HC1.out)).mono ?_; rintro e w3 ⟨⟨v, rfl, hv⟩, h3⟩))
            go_ret2
            exact ⟨⟨v, by rw [hz2.out]; rfl, by rw [tlL, if_pos hz2.out]; exact ownsRow_from hv H2.out.size⟩, below_trans H2.out h3 H2.out.size⟩
          · have hz2 : Hid (¬ tlC B hs ts f g lo hi = 0) := hid hz
            generalize hcv : tlC B hs ts f g lo hi = cv at *
            have CV := hid hcv
            have hne : (cv != 0) = true := by rw [bne_iff_ne]; exact hz
            clear hcv hz
            go_enter Try.func32, Try.ntmps32
            go_wp2_with fail
            refine wp_region_below (by kernel_rfl) (by kernel_rfl) ?_
            repeat (first | (refine wpQuiet_load_row rfl 32 _ rfl (w.heap.size) rfl 32 (bcells B) (0, 0) _ (fun wx hwx => (hwx.out.block _ (block_lt HB0.out)).trans HB0.out) Try.underlying32 rfl HZ0.out ?_) | (refine wpQuiet_load_row rfl 45 _ rfl (w.heap.size + 1) rfl 45 (scells hs ts) (0, 0) _ (fun wx hwx => (hwx.out.block _ (block_lt HB1.out)).trans HB1.out) Try.underlying45 rfl HZ1.out ?_) | (refine wpQuiet_step (fun K hK => ?_); go_simp; first | (refine hK _ ?_; clear hK K) | (refine ⟨_, fun _ _ => rfl, hK _ ?_⟩; clear hK K) | (apply Exists.intro; refine ⟨fun wx hwx => ?_, hK _ ?_⟩; (first | (with_reducible exact quiet_below_same hwx (CH0.out _)) | (with_reducible exact quiet_below_same hwx (CH1.out _)) | (with_reducible exact quiet_below_same hwx (CH2.out _)) | (with_reducible exact quiet_below_same hwx (CH3.out _)) | (with_reducible exact quiet_below hwx (C1.out _))); clear hK K)))
            refine wpQuiet_nil ?_
            intro w2 h2
            replace h2 := h2.out
            have HC0 := hid ((h2.block _ (block_lt HB0.out)).trans HB0.out)
            have HC1 := hid ((h2.block _ (block_lt HB1.out)).trans HB1.out)
            have H2 := hid (below_trans H0.out h2 H0.out.size)
            clear h2
            go_wp2
            go_ret2
            exact ⟨⟨_, rfl, by rw [tlL, CV.out, if_neg hz2.out]; exact GotI.nil _ _⟩, H2.out⟩
set_option maxHeartbeats 1000000 in
theorem c_specTiltsAt_b0 (B : Bld) (wf : WfB B) (hs ts : List Int) (lh : hs.length = 24) (lt : ts.length = 24) (bh : I16 hs) (bt : I16 ts) (f g : Int) (lo hi : Nat) (wl : lo < 4294967296) (wh : hi < 4294967296) (w : World) (e1 : inB f 0 255 = false) (hz : ¬ tlC B hs ts f g lo hi = 0) :
    Calls Try.prog 31 #[.agg (bcells B), .agg (scells hs ts), .int .i64 f, .int .i64 g, .float .f32 lo, .float .f32 hi] w fun e w' => (∃ v, e = .returned (.tuple #[v, .int .i64 (tlC B hs ts f g lo hi)]) ∧ GotI w' w.heap.size v (tlL B hs ts f g lo hi)) ∧ Below w.heap.size w w' := by
  have HB0 : Hid ((((w.alloc (.cells (bcells B) 32)).alloc (.cells (scells hs ts) 45)).alloc (.cells (zP) 47)).heap[w.heap.size]? = some (.cells (bcells B) 32 (0, 0))) := hid ((blk_past _ _ _ (by simp; omega)).trans ((blk_past _ _ _ (by simp)).trans (blk_at _ _ _ rfl)))
  have HZ0 : Hid ((Try.prog.info? 32).map (·.size) = some (bcells B).size) := hid (size_blind B)
  have HB1 : Hid ((((w.alloc (.cells (bcells B) 32)).alloc (.cells (scells hs ts) 45)).alloc (.cells (zP) 47)).heap[w.heap.size + 1]? = some (.cells (scells hs ts) 45 (0, 0))) := hid ((blk_past _ _ _ (by simp)).trans (blk_at _ _ _ (by simp)))
  have HZ1 : Hid ((Try.prog.info? 45).map (·.size) = some (scells hs ts).size) := hid (by rw [scells_size lh lt]; kernel_rfl)
  have HB2 : Hid ((((w.alloc (.cells (bcells B) 32)).alloc (.cells (scells hs ts) 45)).alloc (.cells (zP) 47)).heap[w.heap.size + 1 + 1]? = some (.cells (zP) 47 (0, 0))) := hid (blk_at _ _ _ (by simp))
  have HZ2 : Hid ((Try.prog.info? 47).map (·.size) = some (zP).size) := hid (zP_size)
  have H0 : Hid (Below w.heap.size w (((w.alloc (.cells (bcells B) 32)).alloc (.cells (scells hs ts) 45)).alloc (.cells (zP) 47))) := hid ((((Below.refl _ _).alloc (Nat.le_refl _) _).alloc (by simp) _).alloc (by simp; omega) _)
  have LH := hid lh
  have LT := hid lt
  have _wl := wl
  have _wh := wh
  have CG0 := fun w => c_l01Faced f w
  have KR : tlR f g lo hi = false := by simp [tlR, e1]
  rw [e1] at CG0
  have C1 := hid (show ∀ wq, BldAt wq w.heap.size 0 B → SunAt wq (w.heap.size + 1) 0 hs ts → PlnAt wq (w.heap.size + 1 + 1) z24 → Calls Try.prog 66 #[.pointer (some ⟨w.heap.size, 0, none⟩), .pointer (some ⟨w.heap.size + 1, 0, none⟩), .pointer (some ⟨w.heap.size + 1 + 1, 0, none⟩), .bool false] wq fun e w' => e = .returned (.int .i64 (tlC B hs ts f g lo hi)) ∧ wq = w' from by intro wq hA hS hP; have := c_l07Asked B wf hs ts z24 bh bt (by simp [z24]) z24_i16 (tlR f g lo hi) _ _ _ _ _ wq hA hS hP; rw [z24_tilts, Bool.and_true] at this; unfold tlC; rw [KR] at this ⊢; exact this)
  have CH0 := hid CG0
  clear CG0
  have hz2 : Hid (¬ tlC B hs ts f g lo hi = 0) := hid hz
  generalize hcv : tlC B hs ts f g lo hi = cv at *
  have CV := hid hcv
  have hne : (cv != 0) = true := by rw [bne_iff_ne]; exact hz
  clear hcv hz
  have HC0 := hid ((setRow_other (((w.alloc (.cells (bcells B) 32)).alloc (.cells (scells hs ts) 45)).alloc (.cells (zP) 47)) (w.heap.size + 1 + 1) (w.heap.size) zP (by omega)).trans HB0.out)
  have HC1 := hid ((setRow_other (((w.alloc (.cells (bcells B) 32)).alloc (.cells (scells hs ts) 45)).alloc (.cells (zP) 47)) (w.heap.size + 1 + 1) (w.heap.size + 1) zP (by omega)).trans HB1.out)
  have HC2 := hid (PlnAt.of_block (by simp [z24]) (zP_is ▸ (blk_row_same (((w.alloc (.cells (bcells B) 32)).alloc (.cells (scells hs ts) 45)).alloc (.cells (zP) 47)) (w.heap.size + 1 + 1) zP zP _ _ HB2.out)))
  have H2 := hid (below_setRow H0.out (g := w.heap.size + 1 + 1) (by omega) zP)
  go_enter Try.func31, Try.ntmps31
  go_wp2_with (first | (refine wpList_store_row rfl 47 _ _ rfl (w.heap.size + 1 + 1) zP rfl rfl 47 zP HB2.out HZ2.out rfl zP_one ?_) | (go_at_call 67; with_reducible refine (CH0.out _).mono ?_; rintro e w' ⟨rfl, rfl⟩) | (go_at_call 66; refine (C1.out _ (BldAt.of_block HC0.out) (SunAt.of_block LH.out LT.out HC1.out) HC2.out).mono ?_; rintro e w' ⟨rfl, rfl⟩))
  go_ret2
  exact ⟨⟨_, rfl, by rw [tlL, CV.out, if_neg hz2.out]; exact goti_empty _ _ _ (by simp) (by omega)⟩, H2.out.alloc H2.out.size _⟩
set_option maxHeartbeats 1000000 in
theorem c_specTiltsAt_b1 (B : Bld) (wf : WfB B) (hs ts : List Int) (lh : hs.length = 24) (lt : ts.length = 24) (bh : I16 hs) (bt : I16 ts) (f g : Int) (lo hi : Nat) (wl : lo < 4294967296) (wh : hi < 4294967296) (w : World) (e1 : inB f 0 255 = true) (e2 : inB g 0 23 = false) (hz : ¬ tlC B hs ts f g lo hi = 0) :
    Calls Try.prog 31 #[.agg (bcells B), .agg (scells hs ts), .int .i64 f, .int .i64 g, .float .f32 lo, .float .f32 hi] w fun e w' => (∃ v, e = .returned (.tuple #[v, .int .i64 (tlC B hs ts f g lo hi)]) ∧ GotI w' w.heap.size v (tlL B hs ts f g lo hi)) ∧ Below w.heap.size w w' := by
  have HB0 : Hid ((((w.alloc (.cells (bcells B) 32)).alloc (.cells (scells hs ts) 45)).alloc (.cells (zP) 47)).heap[w.heap.size]? = some (.cells (bcells B) 32 (0, 0))) := hid ((blk_past _ _ _ (by simp; omega)).trans ((blk_past _ _ _ (by simp)).trans (blk_at _ _ _ rfl)))
  have HZ0 : Hid ((Try.prog.info? 32).map (·.size) = some (bcells B).size) := hid (size_blind B)
  have HB1 : Hid ((((w.alloc (.cells (bcells B) 32)).alloc (.cells (scells hs ts) 45)).alloc (.cells (zP) 47)).heap[w.heap.size + 1]? = some (.cells (scells hs ts) 45 (0, 0))) := hid ((blk_past _ _ _ (by simp)).trans (blk_at _ _ _ (by simp)))
  have HZ1 : Hid ((Try.prog.info? 45).map (·.size) = some (scells hs ts).size) := hid (by rw [scells_size lh lt]; kernel_rfl)
  have HB2 : Hid ((((w.alloc (.cells (bcells B) 32)).alloc (.cells (scells hs ts) 45)).alloc (.cells (zP) 47)).heap[w.heap.size + 1 + 1]? = some (.cells (zP) 47 (0, 0))) := hid (blk_at _ _ _ (by simp))
  have HZ2 : Hid ((Try.prog.info? 47).map (·.size) = some (zP).size) := hid (zP_size)
  have H0 : Hid (Below w.heap.size w (((w.alloc (.cells (bcells B) 32)).alloc (.cells (scells hs ts) 45)).alloc (.cells (zP) 47))) := hid ((((Below.refl _ _).alloc (Nat.le_refl _) _).alloc (by simp) _).alloc (by simp; omega) _)
  have LH := hid lh
  have LT := hid lt
  have _wl := wl
  have _wh := wh
  have CG0 := fun w => c_l01Faced f w
  have CG1 := fun w => c_l01Hour g w
  have KR : tlR f g lo hi = false := by simp [tlR, e1, e2]
  rw [e1] at CG0
  rw [e2] at CG1
  have C1 := hid (show ∀ wq, BldAt wq w.heap.size 0 B → SunAt wq (w.heap.size + 1) 0 hs ts → PlnAt wq (w.heap.size + 1 + 1) z24 → Calls Try.prog 66 #[.pointer (some ⟨w.heap.size, 0, none⟩), .pointer (some ⟨w.heap.size + 1, 0, none⟩), .pointer (some ⟨w.heap.size + 1 + 1, 0, none⟩), .bool false] wq fun e w' => e = .returned (.int .i64 (tlC B hs ts f g lo hi)) ∧ wq = w' from by intro wq hA hS hP; have := c_l07Asked B wf hs ts z24 bh bt (by simp [z24]) z24_i16 (tlR f g lo hi) _ _ _ _ _ wq hA hS hP; rw [z24_tilts, Bool.and_true] at this; unfold tlC; rw [KR] at this ⊢; exact this)
  have CH0 := hid CG0
  have CH1 := hid CG1
  clear CG0 CG1
  have hz2 : Hid (¬ tlC B hs ts f g lo hi = 0) := hid hz
  generalize hcv : tlC B hs ts f g lo hi = cv at *
  have CV := hid hcv
  have hne : (cv != 0) = true := by rw [bne_iff_ne]; exact hz
  clear hcv hz
  have HC0 := hid ((setRow_other (((w.alloc (.cells (bcells B) 32)).alloc (.cells (scells hs ts) 45)).alloc (.cells (zP) 47)) (w.heap.size + 1 + 1) (w.heap.size) zP (by omega)).trans HB0.out)
  have HC1 := hid ((setRow_other (((w.alloc (.cells (bcells B) 32)).alloc (.cells (scells hs ts) 45)).alloc (.cells (zP) 47)) (w.heap.size + 1 + 1) (w.heap.size + 1) zP (by omega)).trans HB1.out)
  have HC2 := hid (PlnAt.of_block (by simp [z24]) (zP_is ▸ (blk_row_same (((w.alloc (.cells (bcells B) 32)).alloc (.cells (scells hs ts) 45)).alloc (.cells (zP) 47)) (w.heap.size + 1 + 1) zP zP _ _ HB2.out)))
  have H2 := hid (below_setRow H0.out (g := w.heap.size + 1 + 1) (by omega) zP)
  go_enter Try.func31, Try.ntmps31
  go_wp2_with (first | (refine wpList_store_row rfl 47 _ _ rfl (w.heap.size + 1 + 1) zP rfl rfl 47 zP HB2.out HZ2.out rfl zP_one ?_) | (go_at_call 67; with_reducible refine (CH0.out _).mono ?_; rintro e w' ⟨rfl, rfl⟩) | (go_at_call 81; with_reducible refine (CH1.out _).mono ?_; rintro e w' ⟨rfl, rfl⟩) | (go_at_call 66; refine (C1.out _ (BldAt.of_block HC0.out) (SunAt.of_block LH.out LT.out HC1.out) HC2.out).mono ?_; rintro e w' ⟨rfl, rfl⟩))
  go_ret2
  exact ⟨⟨_, rfl, by rw [tlL, CV.out, if_neg hz2.out]; exact goti_empty _ _ _ (by simp) (by omega)⟩, H2.out.alloc H2.out.size _⟩
set_option maxHeartbeats 1000000 in
theorem c_specTiltsAt_b2 (B : Bld) (wf : WfB B) (hs ts : List Int) (lh : hs.length = 24) (lt : ts.length = 24) (bh : I16 hs) (bt : I16 ts) (f g : Int) (lo hi : Nat) (wl : lo < 4294967296) (wh : hi < 4294967296) (w : World) (e1 : inB f 0 255 = true) (e2 : inB g 0 23 = true) (e3 : isPart lo = false) (hz : ¬ tlC B hs ts f g lo hi = 0) :
    Calls Try.prog 31 #[.agg (bcells B), .agg (scells hs ts), .int .i64 f, .int .i64 g, .float .f32 lo, .float .f32 hi] w fun e w' => (∃ v, e = .returned (.tuple #[v, .int .i64 (tlC B hs ts f g lo hi)]) ∧ GotI w' w.heap.size v (tlL B hs ts f g lo hi)) ∧ Below w.heap.size w w' := by
  have HB0 : Hid ((((w.alloc (.cells (bcells B) 32)).alloc (.cells (scells hs ts) 45)).alloc (.cells (zP) 47)).heap[w.heap.size]? = some (.cells (bcells B) 32 (0, 0))) := hid ((blk_past _ _ _ (by simp; omega)).trans ((blk_past _ _ _ (by simp)).trans (blk_at _ _ _ rfl)))
  have HZ0 : Hid ((Try.prog.info? 32).map (·.size) = some (bcells B).size) := hid (size_blind B)
  have HB1 : Hid ((((w.alloc (.cells (bcells B) 32)).alloc (.cells (scells hs ts) 45)).alloc (.cells (zP) 47)).heap[w.heap.size + 1]? = some (.cells (scells hs ts) 45 (0, 0))) := hid ((blk_past _ _ _ (by simp)).trans (blk_at _ _ _ (by simp)))
  have HZ1 : Hid ((Try.prog.info? 45).map (·.size) = some (scells hs ts).size) := hid (by rw [scells_size lh lt]; kernel_rfl)
  have HB2 : Hid ((((w.alloc (.cells (bcells B) 32)).alloc (.cells (scells hs ts) 45)).alloc (.cells (zP) 47)).heap[w.heap.size + 1 + 1]? = some (.cells (zP) 47 (0, 0))) := hid (blk_at _ _ _ (by simp))
  have HZ2 : Hid ((Try.prog.info? 47).map (·.size) = some (zP).size) := hid (zP_size)
  have H0 : Hid (Below w.heap.size w (((w.alloc (.cells (bcells B) 32)).alloc (.cells (scells hs ts) 45)).alloc (.cells (zP) 47))) := hid ((((Below.refl _ _).alloc (Nat.le_refl _) _).alloc (by simp) _).alloc (by simp; omega) _)
  have LH := hid lh
  have LT := hid lt
  have _wl := wl
  have _wh := wh
  have CG0 := fun w => c_l01Faced f w
  have CG1 := fun w => c_l01Hour g w
  have CG2 := fun w => c_l01Part lo w
  have KR : tlR f g lo hi = false := by simp [tlR, e1, e2, e3]
  rw [e1] at CG0
  rw [e2] at CG1
  rw [e3] at CG2
  have C1 := hid (show ∀ wq, BldAt wq w.heap.size 0 B → SunAt wq (w.heap.size + 1) 0 hs ts → PlnAt wq (w.heap.size + 1 + 1) z24 → Calls Try.prog 66 #[.pointer (some ⟨w.heap.size, 0, none⟩), .pointer (some ⟨w.heap.size + 1, 0, none⟩), .pointer (some ⟨w.heap.size + 1 + 1, 0, none⟩), .bool false] wq fun e w' => e = .returned (.int .i64 (tlC B hs ts f g lo hi)) ∧ wq = w' from by intro wq hA hS hP; have := c_l07Asked B wf hs ts z24 bh bt (by simp [z24]) z24_i16 (tlR f g lo hi) _ _ _ _ _ wq hA hS hP; rw [z24_tilts, Bool.and_true] at this; unfold tlC; rw [KR] at this ⊢; exact this)
  have CH0 := hid CG0
  have CH1 := hid CG1
  have CH2 := hid CG2
  clear CG0 CG1 CG2
  have hz2 : Hid (¬ tlC B hs ts f g lo hi = 0) := hid hz
  generalize hcv : tlC B hs ts f g lo hi = cv at *
  have CV := hid hcv
  have hne : (cv != 0) = true := by rw [bne_iff_ne]; exact hz
  clear hcv hz
  have HC0 := hid ((setRow_other (((w.alloc (.cells (bcells B) 32)).alloc (.cells (scells hs ts) 45)).alloc (.cells (zP) 47)) (w.heap.size + 1 + 1) (w.heap.size) zP (by omega)).trans HB0.out)
  have HC1 := hid ((setRow_other (((w.alloc (.cells (bcells B) 32)).alloc (.cells (scells hs ts) 45)).alloc (.cells (zP) 47)) (w.heap.size + 1 + 1) (w.heap.size + 1) zP (by omega)).trans HB1.out)
  have HC2 := hid (PlnAt.of_block (by simp [z24]) (zP_is ▸ (blk_row_same (((w.alloc (.cells (bcells B) 32)).alloc (.cells (scells hs ts) 45)).alloc (.cells (zP) 47)) (w.heap.size + 1 + 1) zP zP _ _ HB2.out)))
  have H2 := hid (below_setRow H0.out (g := w.heap.size + 1 + 1) (by omega) zP)
  go_enter Try.func31, Try.ntmps31
  go_wp2_with (first | (refine wpList_store_row rfl 47 _ _ rfl (w.heap.size + 1 + 1) zP rfl rfl 47 zP HB2.out HZ2.out rfl zP_one ?_) | (go_at_call 67; with_reducible refine (CH0.out _).mono ?_; rintro e w' ⟨rfl, rfl⟩) | (go_at_call 81; with_reducible refine (CH1.out _).mono ?_; rintro e w' ⟨rfl, rfl⟩) | (go_at_call 68; with_reducible refine (CH2.out _).mono ?_; rintro e w' ⟨rfl, rfl⟩) | (go_at_call 66; refine (C1.out _ (BldAt.of_block HC0.out) (SunAt.of_block LH.out LT.out HC1.out) HC2.out).mono ?_; rintro e w' ⟨rfl, rfl⟩))
  go_ret2
  exact ⟨⟨_, rfl, by rw [tlL, CV.out, if_neg hz2.out]; exact goti_empty _ _ _ (by simp) (by omega)⟩, H2.out.alloc H2.out.size _⟩
set_option maxHeartbeats 1000000 in
theorem c_specTiltsAt_b3 (B : Bld) (wf : WfB B) (hs ts : List Int) (lh : hs.length = 24) (lt : ts.length = 24) (bh : I16 hs) (bt : I16 ts) (f g : Int) (lo hi : Nat) (wl : lo < 4294967296) (wh : hi < 4294967296) (w : World) (e1 : inB f 0 255 = true) (e2 : inB g 0 23 = true) (e3 : isPart lo = true) (e4 : isPart hi = false) (hz : ¬ tlC B hs ts f g lo hi = 0) :
    Calls Try.prog 31 #[.agg (bcells B), .agg (scells hs ts), .int .i64 f, .int .i64 g, .float .f32 lo, .float .f32 hi] w fun e w' => (∃ v, e = .returned (.tuple #[v, .int .i64 (tlC B hs ts f g lo hi)]) ∧ GotI w' w.heap.size v (tlL B hs ts f g lo hi)) ∧ Below w.heap.size w w' := by
  have HB0 : Hid ((((w.alloc (.cells (bcells B) 32)).alloc (.cells (scells hs ts) 45)).alloc (.cells (zP) 47)).heap[w.heap.size]? = some (.cells (bcells B) 32 (0, 0))) := hid ((blk_past _ _ _ (by simp; omega)).trans ((blk_past _ _ _ (by simp)).trans (blk_at _ _ _ rfl)))
  have HZ0 : Hid ((Try.prog.info? 32).map (·.size) = some (bcells B).size) := hid (size_blind B)
  have HB1 : Hid ((((w.alloc (.cells (bcells B) 32)).alloc (.cells (scells hs ts) 45)).alloc (.cells (zP) 47)).heap[w.heap.size + 1]? = some (.cells (scells hs ts) 45 (0, 0))) := hid ((blk_past _ _ _ (by simp)).trans (blk_at _ _ _ (by simp)))
  have HZ1 : Hid ((Try.prog.info? 45).map (·.size) = some (scells hs ts).size) := hid (by rw [scells_size lh lt]; kernel_rfl)
  have HB2 : Hid ((((w.alloc (.cells (bcells B) 32)).alloc (.cells (scells hs ts) 45)).alloc (.cells (zP) 47)).heap[w.heap.size + 1 + 1]? = some (.cells (zP) 47 (0, 0))) := hid (blk_at _ _ _ (by simp))
  have HZ2 : Hid ((Try.prog.info? 47).map (·.size) = some (zP).size) := hid (zP_size)
  have H0 : Hid (Below w.heap.size w (((w.alloc (.cells (bcells B) 32)).alloc (.cells (scells hs ts) 45)).alloc (.cells (zP) 47))) := hid ((((Below.refl _ _).alloc (Nat.le_refl _) _).alloc (by simp) _).alloc (by simp; omega) _)
  have LH := hid lh
  have LT := hid lt
  have _wl := wl
  have _wh := wh
  have CG0 := fun w => c_l01Faced f w
  have CG1 := fun w => c_l01Hour g w
  have CG2 := fun w => c_l01Part lo w
  have CG3 := fun w => c_l01Part hi w
  have KR : tlR f g lo hi = false := by simp [tlR, e1, e2, e3, e4]
  rw [e1] at CG0
  rw [e2] at CG1
  rw [e3] at CG2
  rw [e4] at CG3
  have C1 := hid (show ∀ wq, BldAt wq w.heap.size 0 B → SunAt wq (w.heap.size + 1) 0 hs ts → PlnAt wq (w.heap.size + 1 + 1) z24 → Calls Try.prog 66 #[.pointer (some ⟨w.heap.size, 0, none⟩), .pointer (some ⟨w.heap.size + 1, 0, none⟩), .pointer (some ⟨w.heap.size + 1 + 1, 0, none⟩), .bool false] wq fun e w' => e = .returned (.int .i64 (tlC B hs ts f g lo hi)) ∧ wq = w' from by intro wq hA hS hP; have := c_l07Asked B wf hs ts z24 bh bt (by simp [z24]) z24_i16 (tlR f g lo hi) _ _ _ _ _ wq hA hS hP; rw [z24_tilts, Bool.and_true] at this; unfold tlC; rw [KR] at this ⊢; exact this)
  have CH0 := hid CG0
  have CH1 := hid CG1
  have CH2 := hid CG2
  have CH3 := hid CG3
  clear CG0 CG1 CG2 CG3
  have hz2 : Hid (¬ tlC B hs ts f g lo hi = 0) := hid hz
  generalize hcv : tlC B hs ts f g lo hi = cv at *
  have CV := hid hcv
  have hne : (cv != 0) = true := by rw [bne_iff_ne]; exact hz
  clear hcv hz
  have HC0 := hid ((setRow_other (((w.alloc (.cells (bcells B) 32)).alloc (.cells (scells hs ts) 45)).alloc (.cells (zP) 47)) (w.heap.size + 1 + 1) (w.heap.size) zP (by omega)).trans HB0.out)
  have HC1 := hid ((setRow_other (((w.alloc (.cells (bcells B) 32)).alloc (.cells (scells hs ts) 45)).alloc (.cells (zP) 47)) (w.heap.size + 1 + 1) (w.heap.size + 1) zP (by omega)).trans HB1.out)
  have HC2 := hid (PlnAt.of_block (by simp [z24]) (zP_is ▸ (blk_row_same (((w.alloc (.cells (bcells B) 32)).alloc (.cells (scells hs ts) 45)).alloc (.cells (zP) 47)) (w.heap.size + 1 + 1) zP zP _ _ HB2.out)))
  have H2 := hid (below_setRow H0.out (g := w.heap.size + 1 + 1) (by omega) zP)
  go_enter Try.func31, Try.ntmps31
  go_wp2_with (first | (refine wpList_store_row rfl 47 _ _ rfl (w.heap.size + 1 + 1) zP rfl rfl 47 zP HB2.out HZ2.out rfl zP_one ?_) | (go_at_call 67; with_reducible refine (CH0.out _).mono ?_; rintro e w' ⟨rfl, rfl⟩) | (go_at_call 81; with_reducible refine (CH1.out _).mono ?_; rintro e w' ⟨rfl, rfl⟩) | (go_at_call 68; with_reducible refine (CH2.out _).mono ?_; rintro e w' ⟨rfl, rfl⟩) | (go_at_call 68; with_reducible refine (CH3.out _).mono ?_; rintro e w' ⟨rfl, rfl⟩) | (go_at_call 66; refine (C1.out _ (BldAt.of_block HC0.out) (SunAt.of_block LH.out LT.out HC1.out) HC2.out).mono ?_; rintro e w' ⟨rfl, rfl⟩))
  go_ret2
  exact ⟨⟨_, rfl, by rw [tlL, CV.out, if_neg hz2.out]; exact goti_empty _ _ _ (by simp) (by omega)⟩, H2.out.alloc H2.out.size _⟩
set_option maxHeartbeats 1000000 in
theorem c_specTiltsAt_b4 (B : Bld) (wf : WfB B) (hs ts : List Int) (lh : hs.length = 24) (lt : ts.length = 24) (bh : I16 hs) (bt : I16 ts) (f g : Int) (lo hi : Nat) (wl : lo < 4294967296) (wh : hi < 4294967296) (w : World) (e1 : inB f 0 255 = true) (e2 : inB g 0 23 = true) (e3 : isPart lo = true) (e4 : isPart hi = true) (hz : ¬ tlC B hs ts f g lo hi = 0) :
    Calls Try.prog 31 #[.agg (bcells B), .agg (scells hs ts), .int .i64 f, .int .i64 g, .float .f32 lo, .float .f32 hi] w fun e w' => (∃ v, e = .returned (.tuple #[v, .int .i64 (tlC B hs ts f g lo hi)]) ∧ GotI w' w.heap.size v (tlL B hs ts f g lo hi)) ∧ Below w.heap.size w w' := by
  have HB0 : Hid ((((w.alloc (.cells (bcells B) 32)).alloc (.cells (scells hs ts) 45)).alloc (.cells (zP) 47)).heap[w.heap.size]? = some (.cells (bcells B) 32 (0, 0))) := hid ((blk_past _ _ _ (by simp; omega)).trans ((blk_past _ _ _ (by simp)).trans (blk_at _ _ _ rfl)))
  have HZ0 : Hid ((Try.prog.info? 32).map (·.size) = some (bcells B).size) := hid (size_blind B)
  have HB1 : Hid ((((w.alloc (.cells (bcells B) 32)).alloc (.cells (scells hs ts) 45)).alloc (.cells (zP) 47)).heap[w.heap.size + 1]? = some (.cells (scells hs ts) 45 (0, 0))) := hid ((blk_past _ _ _ (by simp)).trans (blk_at _ _ _ (by simp)))
  have HZ1 : Hid ((Try.prog.info? 45).map (·.size) = some (scells hs ts).size) := hid (by rw [scells_size lh lt]; kernel_rfl)
  have HB2 : Hid ((((w.alloc (.cells (bcells B) 32)).alloc (.cells (scells hs ts) 45)).alloc (.cells (zP) 47)).heap[w.heap.size + 1 + 1]? = some (.cells (zP) 47 (0, 0))) := hid (blk_at _ _ _ (by simp))
  have HZ2 : Hid ((Try.prog.info? 47).map (·.size) = some (zP).size) := hid (zP_size)
  have H0 : Hid (Below w.heap.size w (((w.alloc (.cells (bcells B) 32)).alloc (.cells (scells hs ts) 45)).alloc (.cells (zP) 47))) := hid ((((Below.refl _ _).alloc (Nat.le_refl _) _).alloc (by simp) _).alloc (by simp; omega) _)
  have LH := hid lh
  have LT := hid lt
  have _wl := wl
  have _wh := wh
  have CG0 := fun w => c_l01Faced f w
  have CG1 := fun w => c_l01Hour g w
  have CG2 := fun w => c_l01Part lo w
  have CG3 := fun w => c_l01Part hi w
  have KR : tlR f g lo hi = true := by simp [tlR, e1, e2, e3, e4]
  rw [e1] at CG0
  rw [e2] at CG1
  rw [e3] at CG2
  rw [e4] at CG3
  have C1 := hid (show ∀ wq, BldAt wq w.heap.size 0 B → SunAt wq (w.heap.size + 1) 0 hs ts → PlnAt wq (w.heap.size + 1 + 1) z24 → Calls Try.prog 66 #[.pointer (some ⟨w.heap.size, 0, none⟩), .pointer (some ⟨w.heap.size + 1, 0, none⟩), .pointer (some ⟨w.heap.size + 1 + 1, 0, none⟩), .bool true] wq fun e w' => e = .returned (.int .i64 (tlC B hs ts f g lo hi)) ∧ wq = w' from by intro wq hA hS hP; have := c_l07Asked B wf hs ts z24 bh bt (by simp [z24]) z24_i16 (tlR f g lo hi) _ _ _ _ _ wq hA hS hP; rw [z24_tilts, Bool.and_true] at this; unfold tlC; rw [KR] at this ⊢; exact this)
  have CH0 := hid CG0
  have CH1 := hid CG1
  have CH2 := hid CG2
  have CH3 := hid CG3
  clear CG0 CG1 CG2 CG3
  have hz2 : Hid (¬ tlC B hs ts f g lo hi = 0) := hid hz
  generalize hcv : tlC B hs ts f g lo hi = cv at *
  have CV := hid hcv
  have hne : (cv != 0) = true := by rw [bne_iff_ne]; exact hz
  clear hcv hz
  have HC0 := hid ((setRow_other (((w.alloc (.cells (bcells B) 32)).alloc (.cells (scells hs ts) 45)).alloc (.cells (zP) 47)) (w.heap.size + 1 + 1) (w.heap.size) zP (by omega)).trans HB0.out)
  have HC1 := hid ((setRow_other (((w.alloc (.cells (bcells B) 32)).alloc (.cells (scells hs ts) 45)).alloc (.cells (zP) 47)) (w.heap.size + 1 + 1) (w.heap.size + 1) zP (by omega)).trans HB1.out)
  have HC2 := hid (PlnAt.of_block (by simp [z24]) (zP_is ▸ (blk_row_same (((w.alloc (.cells (bcells B) 32)).alloc (.cells (scells hs ts) 45)).alloc (.cells (zP) 47)) (w.heap.size + 1 + 1) zP zP _ _ HB2.out)))
  have H2 := hid (below_setRow H0.out (g := w.heap.size + 1 + 1) (by omega) zP)
  go_enter Try.func31, Try.ntmps31
  go_wp2_with (first | (refine wpList_store_row rfl 47 _ _ rfl (w.heap.size + 1 + 1) zP rfl rfl 47 zP HB2.out HZ2.out rfl zP_one ?_) | (go_at_call 67; with_reducible refine (CH0.out _).mono ?_; rintro e w' ⟨rfl, rfl⟩) | (go_at_call 81; with_reducible refine (CH1.out _).mono ?_; rintro e w' ⟨rfl, rfl⟩) | (go_at_call 68; with_reducible refine (CH2.out _).mono ?_; rintro e w' ⟨rfl, rfl⟩) | (go_at_call 68; with_reducible refine (CH3.out _).mono ?_; rintro e w' ⟨rfl, rfl⟩) | (go_at_call 66; refine (C1.out _ (BldAt.of_block HC0.out) (SunAt.of_block LH.out LT.out HC1.out) HC2.out).mono ?_; rintro e w' ⟨rfl, rfl⟩))
  go_ret2
  exact ⟨⟨_, rfl, by rw [tlL, CV.out, if_neg hz2.out]; exact goti_empty _ _ _ (by simp) (by omega)⟩, H2.out.alloc H2.out.size _⟩
set_option maxHeartbeats 1000000 in
theorem c_specTiltsAt_g (B : Bld) (wf : WfB B) (hs ts : List Int) (lh : hs.length = 24) (lt : ts.length = 24) (bh : I16 hs) (bt : I16 ts) (f g : Int) (lo hi : Nat) (wl : lo < 4294967296) (wh : hi < 4294967296) (w : World) (e1 : inB f 0 255 = true) (e2 : inB g 0 23 = true) (e3 : isPart lo = true) (e4 : isPart hi = true) (hz : tlC B hs ts f g lo hi = 0) :
    Calls Try.prog 31 #[.agg (bcells B), .agg (scells hs ts), .int .i64 f, .int .i64 g, .float .f32 lo, .float .f32 hi] w fun e w' => (∃ v, e = .returned (.tuple #[v, .int .i64 (tlC B hs ts f g lo hi)]) ∧ GotI w' w.heap.size v (tlL B hs ts f g lo hi)) ∧ Below w.heap.size w w' := by
  have HB0 : Hid ((((w.alloc (.cells (bcells B) 32)).alloc (.cells (scells hs ts) 45)).alloc (.cells (zP) 47)).heap[w.heap.size]? = some (.cells (bcells B) 32 (0, 0))) := hid ((blk_past _ _ _ (by simp; omega)).trans ((blk_past _ _ _ (by simp)).trans (blk_at _ _ _ rfl)))
  have HZ0 : Hid ((Try.prog.info? 32).map (·.size) = some (bcells B).size) := hid (size_blind B)
  have HB1 : Hid ((((w.alloc (.cells (bcells B) 32)).alloc (.cells (scells hs ts) 45)).alloc (.cells (zP) 47)).heap[w.heap.size + 1]? = some (.cells (scells hs ts) 45 (0, 0))) := hid ((blk_past _ _ _ (by simp)).trans (blk_at _ _ _ (by simp)))
  have HZ1 : Hid ((Try.prog.info? 45).map (·.size) = some (scells hs ts).size) := hid (by rw [scells_size lh lt]; kernel_rfl)
  have HB2 : Hid ((((w.alloc (.cells (bcells B) 32)).alloc (.cells (scells hs ts) 45)).alloc (.cells (zP) 47)).heap[w.heap.size + 1 + 1]? = some (.cells (zP) 47 (0, 0))) := hid (blk_at _ _ _ (by simp))
  have HZ2 : Hid ((Try.prog.info? 47).map (·.size) = some (zP).size) := hid (zP_size)
  have H0 : Hid (Below w.heap.size w (((w.alloc (.cells (bcells B) 32)).alloc (.cells (scells hs ts) 45)).alloc (.cells (zP) 47))) := hid ((((Below.refl _ _).alloc (Nat.le_refl _) _).alloc (by simp) _).alloc (by simp; omega) _)
  have LH := hid lh
  have LT := hid lt
  have CG0 := fun w => c_l01Faced f w
  have CG1 := fun w => c_l01Hour g w
  have CG2 := fun w => c_l01Part lo w
  have CG3 := fun w => c_l01Part hi w
  have KR : tlR f g lo hi = true := by simp [tlR, e1, e2, e3, e4]
  rw [e1] at CG0
  rw [e2] at CG1
  rw [e3] at CG2
  rw [e4] at CG3
  have C1 := hid (show ∀ wq, BldAt wq w.heap.size 0 B → SunAt wq (w.heap.size + 1) 0 hs ts → PlnAt wq (w.heap.size + 1 + 1) z24 → Calls Try.prog 66 #[.pointer (some ⟨w.heap.size, 0, none⟩), .pointer (some ⟨w.heap.size + 1, 0, none⟩), .pointer (some ⟨w.heap.size + 1 + 1, 0, none⟩), .bool true] wq fun e w' => e = .returned (.int .i64 (tlC B hs ts f g lo hi)) ∧ wq = w' from by intro wq hA hS hP; have := c_l07Asked B wf hs ts z24 bh bt (by simp [z24]) z24_i16 (tlR f g lo hi) _ _ _ _ _ wq hA hS hP; rw [z24_tilts, Bool.and_true] at this; unfold tlC; rw [KR] at this ⊢; exact this)
  have CH0 := hid CG0
  have CH1 := hid CG1
  have CH2 := hid CG2
  have CH3 := hid CG3
  clear CG0 CG1 CG2 CG3
  obtain ⟨hok, -⟩ := codeOf_zero hz
  have hB := OkB.of wf (by simp only [Bool.and_eq_true] at hok; exact hok.1)
  have hS2 : okS hs ts = true := by simp only [Bool.and_eq_true] at hok; exact hok.2
  have hF : 0 ≤ f ∧ f ≤ 255 := by simpa [inB] using e1
  have hg : 0 ≤ g ∧ g ≤ 23 := by simpa [inB] using e2
  have hk : g.toNat < 24 := by omega
  have hgn : ((g.toNat : Nat) : Int) = g := by omega
  have s := okS_at hS2 hk
  have hlo := (part_in wl e3).fin
  have hhi := (part_in wh e4).fin
  have CO0 := fun c b w hA hS => c_l07Tilts B hB c 0 b 0 g.toNat hs ts f lo hi w hA hS hk ⟨s.1, s.2.1⟩ s.2.2 hF hlo hhi
  rw [hgn] at CO0
  have CO := hid CO0
  clear CO0 hgn hk
  clear wf lh lt bh bt hok hB hS2 hF hg s hlo hhi wl wh
  have hz2 : Hid (tlC B hs ts f g lo hi = 0) := hid hz
  rw [hz] at C1
  clear hz
  have HC0 := hid ((setRow_other (((w.alloc (.cells (bcells B) 32)).alloc (.cells (scells hs ts) 45)).alloc (.cells (zP) 47)) (w.heap.size + 1 + 1) (w.heap.size) zP (by omega)).trans HB0.out)
  have HC1 := hid ((setRow_other (((w.alloc (.cells (bcells B) 32)).alloc (.cells (scells hs ts) 45)).alloc (.cells (zP) 47)) (w.heap.size + 1 + 1) (w.heap.size + 1) zP (by omega)).trans HB1.out)
  have HC2 := hid (PlnAt.of_block (by simp [z24]) (zP_is ▸ (blk_row_same (((w.alloc (.cells (bcells B) 32)).alloc (.cells (scells hs ts) 45)).alloc (.cells (zP) 47)) (w.heap.size + 1 + 1) zP zP _ _ HB2.out)))
  have H2 := hid (below_setRow H0.out (g := w.heap.size + 1 + 1) (by omega) zP)
  go_enter Try.func31, Try.ntmps31
  go_wp2_with (first | (refine wpList_store_row rfl 47 _ _ rfl (w.heap.size + 1 + 1) zP rfl rfl 47 zP HB2.out HZ2.out rfl zP_one ?_) | (go_at_call 67; with_reducible refine (CH0.out _).mono ?_; rintro e w' ⟨rfl, rfl⟩) | (go_at_call 81; with_reducible refine (CH1.out _).mono ?_; rintro e w' ⟨rfl, rfl⟩) | (go_at_call 68; with_reducible refine (CH2.out _).mono ?_; rintro e w' ⟨rfl, rfl⟩) | (go_at_call 68; with_reducible refine (CH3.out _).mono ?_; rintro e w' ⟨rfl, rfl⟩) | (go_at_call 66; refine (C1.out _ (BldAt.of_block HC0.out) (SunAt.of_block LH.out LT.out HC1.out) HC2.out).mono ?_; rintro e w' ⟨rfl, rfl⟩) | (go_at_call 82; refine (CO.out _ _ _ (BldAt.of_block HC0.out) (SunAt.of_block LH.out LT.out HC1.out)).mono ?_; rintro e w3 ⟨⟨v, rfl, hv⟩, h3⟩))
  go_ret2
  exact ⟨⟨v, by rw [hz2.out]; rfl, by rw [tlL, if_pos hz2.out]; exact ownsRow_from hv H2.out.size⟩, below_trans H2.out h3 H2.out.size⟩
theorem c_specTiltsAt (B : Bld) (wf : WfB B) (hs ts : List Int) (lh : hs.length = 24) (lt : ts.length = 24) (bh : I16 hs) (bt : I16 ts) (f g : Int) (lo hi : Nat) (wl : lo < 4294967296) (wh : hi < 4294967296) (w : World) :
    Calls Try.prog 31 #[.agg (bcells B), .agg (scells hs ts), .int .i64 f, .int .i64 g, .float .f32 lo, .float .f32 hi] w fun e w' => (∃ v, e = .returned (.tuple #[v, .int .i64 (tlC B hs ts f g lo hi)]) ∧ GotI w' w.heap.size v (tlL B hs ts f g lo hi)) ∧ Below w.heap.size w w' := by
  cases e1 : inB f 0 255
  · exact c_specTiltsAt_b0 B wf hs ts lh lt bh bt f g lo hi wl wh w e1 (fun hz => by have h := (codeOf_zero hz).2; simp [tlR, e1] at h)
  · skip
    cases e2 : inB g 0 23
    · exact c_specTiltsAt_b1 B wf hs ts lh lt bh bt f g lo hi wl wh w e1 e2 (fun hz => by have h := (codeOf_zero hz).2; simp [tlR, e1, e2] at h)
    · skip
      cases e3 : isPart lo
      · exact c_specTiltsAt_b2 B wf hs ts lh lt bh bt f g lo hi wl wh w e1 e2 e3 (fun hz => by have h := (codeOf_zero hz).2; simp [tlR, e1, e2, e3] at h)
      · skip
        cases e4 : isPart hi
        · exact c_specTiltsAt_b3 B wf hs ts lh lt bh bt f g lo hi wl wh w e1 e2 e3 e4 (fun hz => by have h := (codeOf_zero hz).2; simp [tlR, e1, e2, e3, e4] at h)
        · skip
          by_cases hz : tlC B hs ts f g lo hi = 0
          · exact c_specTiltsAt_g B wf hs ts lh lt bh bt f g lo hi wl wh w e1 e2 e3 e4 hz
          · exact c_specTiltsAt_b4 B wf hs ts lh lt bh bt f g lo hi wl wh w e1 e2 e3 e4 hz
end Go.Proofs.Ythnffhmefgfnkaa
