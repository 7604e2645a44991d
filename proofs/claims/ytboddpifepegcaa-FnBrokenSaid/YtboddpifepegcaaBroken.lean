/- Walks of BrokenFrom. -/
import Derived.Test.YtboddpifepegcaaHang
import Derived.Test.YtboddpifepegcaaPlan
import Derived.Test.YtboddpifepegcaaKeep
namespace Go.Proofs.Ytboddpifepegcaa
set_option maxRecDepth 20000
open Go.RowKit

/-- One hour of the answer: what is heard of the hours so far, or nothing where one is strange. -/
def brS (l : List Nat) (n W H k : Nat) (o : Int) : Option Int :=
  if n ≤ k then (if sameN (fat l k) 0 then some o else none)
  else if sameN (fat l k) W then some o else if sameN (fat l k) H then some (bits .or .u32 o (2 ^ k % 4294967296)) else none
def brk (l : List Nat) (n W H : Nat) : Nat → Option Int
  | 0 => some 0
  | k + 1 => (brk l n W H k).bind (brS l n W H k)
theorem brk_none {l : List Nat} {n W H k : Nat} (h : brk l n W H k = none) : ∀ m, brk l n W H (k + m) = none
  | 0 => h
  | m + 1 => by rw [← Nat.add_assoc, brk, brk_none h m]; rfl
theorem brk_bad {l : List Nat} {n W H k : Nat} {o : Int} (hk : k < 24) (h : brk l n W H k = some o) (hs : brS l n W H k o = none) : brk l n W H 24 = none := by
  have h1 : brk l n W H (k + 1) = none := by rw [brk, h]; exact hs
  have h2 := brk_none h1 (23 - k)
  rwa [show k + 1 + (23 - k) = 24 by omega] at h2
theorem brk_next {l : List Nat} {n W H k : Nat} {o o2 : Int} (h : brk l n W H k = some o) (hs : brS l n W H k o = some o2) : brk l n W H (k + 1) = some o2 := by rw [brk, h]; exact hs
def brR (h : Int) : Bool := inB h 1 64
def brC (B : Bld) (h : Int) : Int := codeOf (okB B) (brR h)
def brA (B : Bld) (h : Int) (l : List Nat) : Option Int := brk l (nS B) (openW B h) (hungW B h) 24
def brN (B : Bld) (h : Int) (l : List Nat) : Int := if brC B h = 0 then (brA B h l).getD 0 else 0
def brE (B : Bld) (h : Int) (l : List Nat) : Int := if brC B h = 0 then (if (brA B h l).isSome then 0 else 4) else brC B h
set_option maxHeartbeats 1000000 in
theorem c_implBrokenFrom (B : Bld) (wf : WfB B) (l : List Nat) (ll : l.length = 24) (h : Int) (w : World) :
    Calls Try.prog 25 #[.agg (bcells B), .int .i64 h, .agg (f32s l)] w fun e w' => e = .returned (.tuple #[.int .u32 (brN B h l), .int .i64 (brE B h l)]) ∧ Below w.heap.size w w' := by
  have HB0 : Hid (((w.alloc (.cells (bcells B) 30)).alloc (.cells (f32s l) 48)).heap[w.heap.size]? = some (.cells (bcells B) 30 (0, 0))) := hid ((blk_past _ _ _ (by simp)).trans (blk_at _ _ _ rfl))
  have HZ0 : Hid ((Try.prog.info? 30).map (·.size) = some (bcells B).size) := hid (size_blind B)
  have HB1 : Hid (((w.alloc (.cells (bcells B) 30)).alloc (.cells (f32s l) 48)).heap[w.heap.size + 1]? = some (.cells (f32s l) 48 (0, 0))) := hid (blk_at _ _ _ (by simp))
  have HZ1 : Hid ((Try.prog.info? 48).map (·.size) = some (f32s l).size) := hid (by rw [f32s_size, ll]; kernel_rfl)
  have H0 : Hid (Below w.heap.size w ((w.alloc (.cells (bcells B) 30)).alloc (.cells (f32s l) 48))) := hid (((Below.refl _ _).alloc (Nat.le_refl _) _).alloc (by simp) _)
  have CG0 := fun w => c_isHeight h w
  cases e1 : inB h 1 64
  · skip
    have KR : brR h = false := by simp [brR, e1]
    rw [e1] at CG0
    have C1 := hid (fun w => show Calls Try.prog 47 #[.agg (bcells B), .bool false] w fun e w' => e = .returned (.int .i64 (brC B h)) ∧ Below w.heap.size w w' from by have := c_blindCode B wf (brR h) w; unfold brC; rw [KR] at this ⊢; exact this)
    have CH0 := hid CG0
    clear CG0
    by_cases hz : brC B h = 0
    · have := (codeOf_zero hz).2
      rw [KR] at this; cases this
    · have hz2 : Hid (¬ brC B h = 0) := hid hz
      generalize hcv : brC B h = cv at *
      have CV := hid hcv
      have hne : (cv != 0) = true := by rw [bne_iff_ne]; exact hz
      clear hcv hz
      go_enter Try.func25, Try.ntmps25
      go_wp2_with fail
      refine wp_region_below (by kernel_rfl) (by kernel_rfl) ?_
      repeat (first | (refine wpQuiet_load_row rfl 30 _ rfl (w.heap.size) rfl 30 (bcells B) (0, 0) _ (fun wx hwx => (hwx.out.block _ (block_lt HB0.out)).trans HB0.out) Try.underlying30 rfl HZ0.out ?_) | (refine wpQuiet_load_row rfl 48 _ rfl (w.heap.size + 1) rfl 48 (f32s l) (0, 0) _ (fun wx hwx => (hwx.out.block _ (block_lt HB1.out)).trans HB1.out) Try.underlying48 rfl HZ1.out ?_) | (refine wpQuiet_step (fun K hK => ?_); go_simp; first | (refine hK _ ?_; clear hK K) | (refine ⟨_, fun _ _ => rfl, hK _ ?_⟩; clear hK K) | (apply Exists.intro; refine ⟨fun wx hwx => ?_, hK _ ?_⟩; (first | (with_reducible exact quiet_below_same hwx (CH0.out _)) | (with_reducible exact quiet_below hwx (C1.out _))); clear hK K)))
      refine wpQuiet_nil ?_
      intro w2 h2
      replace h2 := h2.out
      have HC0 := hid ((h2.block _ (block_lt HB0.out)).trans HB0.out)
      have HC1 := hid ((h2.block _ (block_lt HB1.out)).trans HB1.out)
      have H2 := hid (below_trans H0.out h2 H0.out.size)
      clear h2
      go_wp2
      go_ret2
      exact ⟨by simp [brN, brE, CV.out, hz2.out], H2.out⟩
  · skip
    have KR : brR h = true := by simp [brR, e1]
    rw [e1] at CG0
    have C1 := hid (fun w => show Calls Try.prog 47 #[.agg (bcells B), .bool true] w fun e w' => e = .returned (.int .i64 (brC B h)) ∧ Below w.heap.size w w' from by have := c_blindCode B wf (brR h) w; unfold brC; rw [KR] at this ⊢; exact this)
    have CH0 := hid CG0
    clear CG0
    by_cases hz : brC B h = 0
    · obtain ⟨hok, -⟩ := codeOf_zero hz
      have hB := OkB.of wf hok
      have hh : 1 ≤ h ∧ h ≤ 64 := by simpa [inB] using e1
      have CO := hid (fun w => c_open B hB h hh.1 hh.2 w)
      have CH := hid (fun w => c_hung B hB w)
      have CQ := hid (fun w => show Calls Try.prog 72 #[.agg (bcells (hungB B)), .int .i64 h] w fun e w' => e = .returned (.float .f32 (hungW B h)) ∧ Below w.heap.size w w' from c_open (hungB B) (hungB_ok hB) h hh.1 hh.2 w)
      have CS := hid (fun w => c_stripes B wf w)
      have L := hid ll
      clear wf ll hok hB hh
      have hix : ∀ (k : Nat), k < 24 → ∀ w', (Instr.index 48 (.agg (f32s l)) (.int .i64 k)).run Try.prog w' = .ok (.float .f32 (fat l k)) w' := by
        intro k hk w'
        exact run_index_arr Try.underlying48 Try.underlying27 rfl (by kernel_rfl) k hk (f32s_at L.out hk) w'
      have Hix := hid hix
      clear hix
      have GN : Hid (brk l (nS B) (openW B h) (hungW B h) 24 = brA B h l) := hid rfl
      generalize nS B = N at *
      generalize openW B h = W at *
      generalize hungW B h = H at *
      have hz2 : Hid (brC B h = 0) := hid hz
      rw [hz] at C1
      clear hz
      go_enter Try.func25, Try.ntmps25
      go_wp2_with fail
      refine wp_region_below (by kernel_rfl) (by kernel_rfl) ?_
      repeat (first | (refine wpQuiet_load_row rfl 30 _ rfl (w.heap.size) rfl 30 (bcells B) (0, 0) _ (fun wx hwx => (hwx.out.block _ (block_lt HB0.out)).trans HB0.out) Try.underlying30 rfl HZ0.out ?_) | (refine wpQuiet_load_row rfl 48 _ rfl (w.heap.size + 1) rfl 48 (f32s l) (0, 0) _ (fun wx hwx => (hwx.out.block _ (block_lt HB1.out)).trans HB1.out) Try.underlying48 rfl HZ1.out ?_) | (refine wpQuiet_step (fun K hK => ?_); go_simp; first | (refine hK _ ?_; clear hK K) | (refine ⟨_, fun _ _ => rfl, hK _ ?_⟩; clear hK K) | (apply Exists.intro; refine ⟨fun wx hwx => ?_, hK _ ?_⟩; (first | (with_reducible exact quiet_below_same hwx (CH0.out _)) | (with_reducible exact quiet_below hwx (C1.out _))); clear hK K)))
      refine wpQuiet_nil ?_
      intro w2 h2
      replace h2 := h2.out
      have HC0 := hid ((h2.block _ (block_lt HB0.out)).trans HB0.out)
      have HC1 := hid ((h2.block _ (block_lt HB1.out)).trans HB1.out)
      have H2 := hid (below_trans H0.out h2 H0.out.size)
      clear h2
      go_wp2_with fail
      refine wp_region_below (by kernel_rfl) (by kernel_rfl) ?_
      repeat (first | (refine wpQuiet_load_row rfl 30 _ rfl (w.heap.size) rfl 30 (bcells B) (0, 0) _ (fun wx hwx => (hwx.out.block _ (block_lt HC0.out)).trans HC0.out) Try.underlying30 rfl HZ0.out ?_) | (refine wpQuiet_step (fun K hK => ?_); go_simp; first | (refine hK _ ?_; clear hK K) | (refine ⟨_, fun _ _ => rfl, hK _ ?_⟩; clear hK K) | (apply Exists.intro; refine ⟨fun wx hwx => ?_, hK _ ?_⟩; (first | (with_reducible exact quiet_below hwx (CO.out _)) | (with_reducible exact quiet_below hwx (CH.out _)) | (with_reducible exact quiet_below hwx (CQ.out _))); clear hK K)))
      refine wpQuiet_nil ?_
      intro w3 h3
      replace h3 := h3.out
      have HD0 := hid ((h3.block _ (block_lt HC0.out)).trans HC0.out)
      have HD1 := hid ((h3.block _ (block_lt HC1.out)).trans HC1.out)
      have H3 := hid (below_trans H2.out h3 H2.out.size)
      clear h3
      go_wp2_with (refine wpList_load_row rfl 48 _ rfl (w.heap.size + 1) rfl 48 (f32s l) (0, 0) _ HD1.out Try.underlying48 rfl HZ1.out ?_)
      go_loopw [9, 29] (fun n i wr => ∃ (k : Nat) (o : Int), k ≤ 24 ∧ i = .int .i64 k ∧ n = .int .u32 o ∧ brk l N W H k = some o ∧ Below w3.heap.size w3 wr) (fun _ i _ => 24 - (intOf i).toNat)
      case atStart => exact ⟨0, 0, by omega, rfl, rfl, rfl, Below.refl _ _⟩
      case round =>
        obtain ⟨k, o, hk, rfl, rfl, hb, hbel⟩ := hrel
        have HK := hid hb
        have BE := hid hbel
        clear hb hbel
        have HE0 := hid ((BE.out.block _ (block_lt HD0.out)).trans HD0.out)
        by_cases hlt : k < 24
        · have IX := Hix.out k hlt
          have HL := hid hlt
          by_cases hle : N ≤ k
          · cases e1 : sameN (fat l k) 0
            · skip
              have CE0 := hid (fun w => show Calls Try.prog 76 #[.float .f32 (fat l k), .float .f32 0] w fun e w' => e = .returned (.bool false) ∧ w = w' from by have := c_SameNumber (fat l k) 0 w; rw [e1] at this; exact this)
              have ST := hid (show brS l N W H k o = none from by simp [brS, hle, e1])
              clear e1
              have hi : (N : Int) ≤ (k : Int) := by omega
              clear hle
              go_wp2_with (first | (refine wpList_load_row rfl 30 _ rfl (w.heap.size) rfl 30 (bcells B) (0, 0) _ HE0.out Try.underlying30 rfl HZ0.out ?_) | (go_at_call 71; refine (CS.out _).mono ?_; rintro e w4 ⟨rfl, h4⟩; have B4 := hid (below_trans BE.out h4 BE.out.size); clear h4) | (go_at_call 76; with_reducible refine (CE0.out _).mono ?_; rintro e wz ⟨rfl, rfl⟩))
              go_ret2
              exact ⟨by simp [brN, brE, hz2.out, ← GN.out, brk_bad HL.out HK.out ST.out], below_trans H3.out B4.out H3.out.size⟩
            · skip
              have CE0 := hid (fun w => show Calls Try.prog 76 #[.float .f32 (fat l k), .float .f32 0] w fun e w' => e = .returned (.bool true) ∧ w = w' from by have := c_SameNumber (fat l k) 0 w; rw [e1] at this; exact this)
              have ST := hid (show brS l N W H k o = some o from by simp [brS, hle, e1])
              clear e1
              have hi : (N : Int) ≤ (k : Int) := by omega
              clear hle
              go_wp2_with (first | (refine wpList_load_row rfl 30 _ rfl (w.heap.size) rfl 30 (bcells B) (0, 0) _ HE0.out Try.underlying30 rfl HZ0.out ?_) | (go_at_call 71; refine (CS.out _).mono ?_; rintro e w4 ⟨rfl, h4⟩; have B4 := hid (below_trans BE.out h4 BE.out.size); clear h4) | (go_at_call 76; with_reducible refine (CE0.out _).mono ?_; rintro e wz ⟨rfl, rfl⟩))
              go_roundw
              case rel => exact ⟨k + 1, _, by omega, by go_num, rfl, brk_next HK.out (by simpa using ST.out), B4.out⟩
              case measure => simp [intOf]; omega
          · cases e2 : sameN (fat l k) W
            · cases e3 : sameN (fat l k) H
              · skip
                have CE0 := hid (fun w => show Calls Try.prog 76 #[.float .f32 (fat l k), .float .f32 W] w fun e w' => e = .returned (.bool false) ∧ w = w' from by have := c_SameNumber (fat l k) W w; rw [e2] at this; exact this)
                have CE1 := hid (fun w => show Calls Try.prog 76 #[.float .f32 (fat l k), .float .f32 H] w fun e w' => e = .returned (.bool false) ∧ w = w' from by have := c_SameNumber (fat l k) H w; rw [e3] at this; exact this)
                have ST := hid (show brS l N W H k o = none from by simp [brS, hle, e2, e3])
                clear e2 e3
                have hi : (k : Int) < (N : Int) := by omega
                clear hle
                go_wp2_with (first | (refine wpList_load_row rfl 30 _ rfl (w.heap.size) rfl 30 (bcells B) (0, 0) _ HE0.out Try.underlying30 rfl HZ0.out ?_) | (go_at_call 71; refine (CS.out _).mono ?_; rintro e w4 ⟨rfl, h4⟩; have B4 := hid (below_trans BE.out h4 BE.out.size); clear h4) | (go_at_call 76; with_reducible refine (CE0.out _).mono ?_; rintro e wz ⟨rfl, rfl⟩) | (go_at_call 76; with_reducible refine (CE1.out _).mono ?_; rintro e wz ⟨rfl, rfl⟩))
                go_ret2
                exact ⟨by simp [brN, brE, hz2.out, ← GN.out, brk_bad HL.out HK.out ST.out], below_trans H3.out B4.out H3.out.size⟩
              · skip
                have CE0 := hid (fun w => show Calls Try.prog 76 #[.float .f32 (fat l k), .float .f32 W] w fun e w' => e = .returned (.bool false) ∧ w = w' from by have := c_SameNumber (fat l k) W w; rw [e2] at this; exact this)
                have CE1 := hid (fun w => show Calls Try.prog 76 #[.float .f32 (fat l k), .float .f32 H] w fun e w' => e = .returned (.bool true) ∧ w = w' from by have := c_SameNumber (fat l k) H w; rw [e3] at this; exact this)
                have ST := hid (show brS l N W H k o = some (bits .or .u32 o (2 ^ k % 4294967296)) from by simp [brS, hle, e2, e3])
                clear e2 e3
                have hi : (k : Int) < (N : Int) := by omega
                clear hle
                go_wp2_with (first | (refine wpList_load_row rfl 30 _ rfl (w.heap.size) rfl 30 (bcells B) (0, 0) _ HE0.out Try.underlying30 rfl HZ0.out ?_) | (go_at_call 71; refine (CS.out _).mono ?_; rintro e w4 ⟨rfl, h4⟩; have B4 := hid (below_trans BE.out h4 BE.out.size); clear h4) | (go_at_call 76; with_reducible refine (CE0.out _).mono ?_; rintro e wz ⟨rfl, rfl⟩) | (go_at_call 76; with_reducible refine (CE1.out _).mono ?_; rintro e wz ⟨rfl, rfl⟩))
                go_roundw
                case rel => exact ⟨k + 1, _, by omega, by go_num, rfl, brk_next HK.out (by simpa using ST.out), B4.out⟩
                case measure => simp [intOf]; omega
            · skip
              have CE0 := hid (fun w => show Calls Try.prog 76 #[.float .f32 (fat l k), .float .f32 W] w fun e w' => e = .returned (.bool true) ∧ w = w' from by have := c_SameNumber (fat l k) W w; rw [e2] at this; exact this)
              have ST := hid (show brS l N W H k o = some o from by simp [brS, hle, e2])
              clear e2
              have hi : (k : Int) < (N : Int) := by omega
              clear hle
              go_wp2_with (first | (refine wpList_load_row rfl 30 _ rfl (w.heap.size) rfl 30 (bcells B) (0, 0) _ HE0.out Try.underlying30 rfl HZ0.out ?_) | (go_at_call 71; refine (CS.out _).mono ?_; rintro e w4 ⟨rfl, h4⟩; have B4 := hid (below_trans BE.out h4 BE.out.size); clear h4) | (go_at_call 76; with_reducible refine (CE0.out _).mono ?_; rintro e wz ⟨rfl, rfl⟩))
              go_roundw
              case rel => exact ⟨k + 1, _, by omega, by go_num, rfl, brk_next HK.out (by simpa using ST.out), B4.out⟩
              case measure => simp [intOf]; omega
        · obtain rfl : k = 24 := by omega
          go_wp2
          go_ret2
          exact ⟨by simp [brN, brE, hz2.out, ← GN.out, HK.out], below_trans H3.out BE.out H3.out.size⟩
    · have hz2 : Hid (¬ brC B h = 0) := hid hz
      generalize hcv : brC B h = cv at *
      have CV := hid hcv
      have hne : (cv != 0) = true := by rw [bne_iff_ne]; exact hz
      clear hcv hz
      go_enter Try.func25, Try.ntmps25
      go_wp2_with fail
      refine wp_region_below (by kernel_rfl) (by kernel_rfl) ?_
      repeat (first | (refine wpQuiet_load_row rfl 30 _ rfl (w.heap.size) rfl 30 (bcells B) (0, 0) _ (fun wx hwx => (hwx.out.block _ (block_lt HB0.out)).trans HB0.out) Try.underlying30 rfl HZ0.out ?_) | (refine wpQuiet_load_row rfl 48 _ rfl (w.heap.size + 1) rfl 48 (f32s l) (0, 0) _ (fun wx hwx => (hwx.out.block _ (block_lt HB1.out)).trans HB1.out) Try.underlying48 rfl HZ1.out ?_) | (refine wpQuiet_step (fun K hK => ?_); go_simp; first | (refine hK _ ?_; clear hK K) | (refine ⟨_, fun _ _ => rfl, hK _ ?_⟩; clear hK K) | (apply Exists.intro; refine ⟨fun wx hwx => ?_, hK _ ?_⟩; (first | (with_reducible exact quiet_below_same hwx (CH0.out _)) | (with_reducible exact quiet_below hwx (C1.out _))); clear hK K)))
      refine wpQuiet_nil ?_
      intro w2 h2
      replace h2 := h2.out
      have HC0 := hid ((h2.block _ (block_lt HB0.out)).trans HB0.out)
      have HC1 := hid ((h2.block _ (block_lt HB1.out)).trans HB1.out)
      have H2 := hid (below_trans H0.out h2 H0.out.size)
      clear h2
      go_wp2
      go_ret2
      exact ⟨by simp [brN, brE, CV.out, hz2.out], H2.out⟩
theorem nS_min {B : Bld} (hB : OkB B) : min 24 B.sl = (nS B : Int) := by have := hB.sl; unfold nS; omega
set_option maxHeartbeats 1000000 in
theorem c_specBrokenFrom (B : Bld) (wf : WfB B) (l : List Nat) (ll : l.length = 24) (h : Int) (w : World) :
    Calls Try.prog 26 #[.agg (bcells B), .int .i64 h, .agg (f32s l)] w fun e w' => e = .returned (.tuple #[.int .u32 (brN B h l), .int .i64 (brE B h l)]) ∧ Below w.heap.size w w' := by
  have HB0 : Hid (((w.alloc (.cells (bcells B) 30)).alloc (.cells (f32s l) 48)).heap[w.heap.size]? = some (.cells (bcells B) 30 (0, 0))) := hid ((blk_past _ _ _ (by simp)).trans (blk_at _ _ _ rfl))
  have HZ0 : Hid ((Try.prog.info? 30).map (·.size) = some (bcells B).size) := hid (size_blind B)
  have HB1 : Hid (((w.alloc (.cells (bcells B) 30)).alloc (.cells (f32s l) 48)).heap[w.heap.size + 1]? = some (.cells (f32s l) 48 (0, 0))) := hid (blk_at _ _ _ (by simp))
  have HZ1 : Hid ((Try.prog.info? 48).map (·.size) = some (f32s l).size) := hid (by rw [f32s_size, ll]; kernel_rfl)
  have H0 : Hid (Below w.heap.size w ((w.alloc (.cells (bcells B) 30)).alloc (.cells (f32s l) 48))) := hid (((Below.refl _ _).alloc (Nat.le_refl _) _).alloc (by simp) _)
  have CG0 := fun w => c_l02Up h w
  cases e1 : inB h 1 64
  · skip
    have KR : brR h = false := by simp [brR, e1]
    rw [e1] at CG0
    have C1 := hid (show ∀ wq, BldAt wq w.heap.size 0 B → Calls Try.prog 54 #[.pointer (some ⟨w.heap.size, 0, none⟩), .bool false] wq fun e w' => e = .returned (.int .i64 (brC B h)) ∧ wq = w' from by intro wq hA; have := c_l02Asked B wf (brR h) _ _ wq hA; unfold brC; rw [KR] at this ⊢; exact this)
    have CH0 := hid CG0
    clear CG0
    by_cases hz : brC B h = 0
    · have := (codeOf_zero hz).2
      rw [KR] at this; cases this
    · have hz2 : Hid (¬ brC B h = 0) := hid hz
      generalize hcv : brC B h = cv at *
      have CV := hid hcv
      have hne : (cv != 0) = true := by rw [bne_iff_ne]; exact hz
      clear hcv hz
      have HC0 := HB0
      have HC1 := HB1
      have H2 := H0
      go_enter Try.func26, Try.ntmps26
      go_wp2_with (first | (go_at_call 55; with_reducible refine (CH0.out _).mono ?_; rintro e w' ⟨rfl, rfl⟩) | (go_at_call 54; refine (C1.out _ (BldAt.of_block HC0.out)).mono ?_; rintro e w' ⟨rfl, rfl⟩))
      go_ret2
      exact ⟨by simp [brN, brE, CV.out, hz2.out], H2.out⟩
  · skip
    have KR : brR h = true := by simp [brR, e1]
    rw [e1] at CG0
    have C1 := hid (show ∀ wq, BldAt wq w.heap.size 0 B → Calls Try.prog 54 #[.pointer (some ⟨w.heap.size, 0, none⟩), .bool true] wq fun e w' => e = .returned (.int .i64 (brC B h)) ∧ wq = w' from by intro wq hA; have := c_l02Asked B wf (brR h) _ _ wq hA; unfold brC; rw [KR] at this ⊢; exact this)
    have CH0 := hid CG0
    clear CG0
    by_cases hz : brC B h = 0
    · obtain ⟨hok, -⟩ := codeOf_zero hz
      have hB := OkB.of wf hok
      have hh : 1 ≤ h ∧ h ≤ 64 := by simpa [inB] using e1
      have CO := hid (fun b w hA => c_l02Open B hB h hh.1 hh.2 b 0 w hA)
      have CH := hid (fun w => c_l07Hanging B hB h hh.1 hh.2 w)
      have CL := hid (fun b w hA => c_l07Looked B b 0 w hA wf)
      rw [nS_min hB] at CL
      have L := hid ll
      clear wf ll hok hB hh
      have GN : Hid (brk l (nS B) (openW B h) (hungW B h) 24 = brA B h l) := hid rfl
      generalize nS B = N at *
      generalize openW B h = W at *
      generalize hungW B h = H at *
      have hz2 : Hid (brC B h = 0) := hid hz
      rw [hz] at C1
      clear hz
      have HC0 := HB0
      have HC1 := HB1
      have H2 := H0
      go_enter Try.func26, Try.ntmps26
      go_wp2_with (first | (go_at_call 55; with_reducible refine (CH0.out _).mono ?_; rintro e w' ⟨rfl, rfl⟩) | (go_at_call 54; refine (C1.out _ (BldAt.of_block HC0.out)).mono ?_; rintro e w' ⟨rfl, rfl⟩) | (go_at_call 74; refine (CO.out _ _ (BldAt.of_block HC0.out)).mono ?_; rintro e w3 ⟨rfl, h3⟩; have HD0 := hid ((h3.block _ (block_lt HC0.out)).trans HC0.out); have HD1 := hid ((h3.block _ (block_lt HC1.out)).trans HC1.out); have H3 := hid (below_trans H2.out h3 H2.out.size); clear h3) | (refine wpList_load_row rfl 30 _ rfl (w.heap.size) rfl 30 (bcells B) (0, 0) _ HD0.out Try.underlying30 rfl HZ0.out ?_) | (go_at_call 75; refine (CH.out _).mono ?_; rintro e w4 ⟨rfl, h4⟩; have HE0 := hid ((h4.block _ (block_lt HD0.out)).trans HD0.out); have HE1 := hid ((h4.block _ (block_lt HD1.out)).trans HD1.out); have H4 := hid (below_trans H3.out h4 H3.out.size); clear h4) | (go_at_call 70; refine (CL.out _ _ (BldAt.of_block HE0.out)).mono ?_; rintro e wz ⟨rfl, rfl⟩))
      have Hc : Hid (∀ k, k < 24 → w4.cell? ⟨w.heap.size + 1, k, none⟩ = some (.float .f32 (fat l k))) := hid (fun k hk => by rw [cell_of_row w4 _ k _ _ _ HE1.out]; exact f32s_at L.out hk)
      go_loop [12, 13] (fun n i => ∃ (k : Nat) (o : Int), k ≤ 24 ∧ i = .int .i64 k ∧ n = .int .u32 o ∧ brk l N W H k = some o) (fun _ i => 24 - (intOf i).toNat)
      case atStart => exact ⟨0, 0, by omega, rfl, rfl, rfl⟩
      case round =>
        obtain ⟨k, o, hk, rfl, rfl, hb⟩ := hrel
        have HK := hid hb
        clear hb
        by_cases hlt : k < 24
        · have IX := Hc.out k hlt
          have HL := hid hlt
          by_cases hle : N ≤ k
          · cases e1 : sameN (fat l k) 0
            · skip
              have CE0 := hid (fun w => show Calls Try.prog 58 #[.float .f32 (fat l k), .float .f32 0] w fun e w' => e = .returned (.bool false) ∧ w = w' from by have := c_l01Same (fat l k) 0 w; rw [e1] at this; exact this)
              have ST := hid (show brS l N W H k o = none from by simp [brS, hle, e1])
              clear e1
              have hi : (N : Int) ≤ (k : Int) := by omega
              clear hle
              go_wp2_with (first | (go_at_call 58; with_reducible refine (CE0.out _).mono ?_; rintro e wz ⟨rfl, rfl⟩))
              go_ret2
              exact ⟨by simp [brN, brE, hz2.out, ← GN.out, brk_bad HL.out HK.out ST.out], H4.out⟩
            · skip
              have CE0 := hid (fun w => show Calls Try.prog 58 #[.float .f32 (fat l k), .float .f32 0] w fun e w' => e = .returned (.bool true) ∧ w = w' from by have := c_l01Same (fat l k) 0 w; rw [e1] at this; exact this)
              have ST := hid (show brS l N W H k o = some o from by simp [brS, hle, e1])
              clear e1
              have hi : (N : Int) ≤ (k : Int) := by omega
              clear hle
              go_wp2_with (first | (go_at_call 58; with_reducible refine (CE0.out _).mono ?_; rintro e wz ⟨rfl, rfl⟩))
              go_round
              case rel => exact ⟨k + 1, _, by omega, by go_num, rfl, brk_next HK.out (by simpa using ST.out)⟩
              case measure => simp [intOf]; omega
          · cases e2 : sameN (fat l k) W
            · cases e3 : sameN (fat l k) H
              · skip
                have CE0 := hid (fun w => show Calls Try.prog 58 #[.float .f32 (fat l k), .float .f32 W] w fun e w' => e = .returned (.bool false) ∧ w = w' from by have := c_l01Same (fat l k) W w; rw [e2] at this; exact this)
                have CE1 := hid (fun w => show Calls Try.prog 58 #[.float .f32 (fat l k), .float .f32 H] w fun e w' => e = .returned (.bool false) ∧ w = w' from by have := c_l01Same (fat l k) H w; rw [e3] at this; exact this)
                have ST := hid (show brS l N W H k o = none from by simp [brS, hle, e2, e3])
                clear e2 e3
                have hi : (k : Int) < (N : Int) := by omega
                clear hle
                go_wp2_with (first | (go_at_call 58; with_reducible refine (CE0.out _).mono ?_; rintro e wz ⟨rfl, rfl⟩) | (go_at_call 58; with_reducible refine (CE1.out _).mono ?_; rintro e wz ⟨rfl, rfl⟩))
                go_ret2
                exact ⟨by simp [brN, brE, hz2.out, ← GN.out, brk_bad HL.out HK.out ST.out], H4.out⟩
              · skip
                have CE0 := hid (fun w => show Calls Try.prog 58 #[.float .f32 (fat l k), .float .f32 W] w fun e w' => e = .returned (.bool false) ∧ w = w' from by have := c_l01Same (fat l k) W w; rw [e2] at this; exact this)
                have CE1 := hid (fun w => show Calls Try.prog 58 #[.float .f32 (fat l k), .float .f32 H] w fun e w' => e = .returned (.bool true) ∧ w = w' from by have := c_l01Same (fat l k) H w; rw [e3] at this; exact this)
                have ST := hid (show brS l N W H k o = some (bits .or .u32 o (2 ^ k % 4294967296)) from by simp [brS, hle, e2, e3])
                clear e2 e3
                have hi : (k : Int) < (N : Int) := by omega
                clear hle
                go_wp2_with (first | (go_at_call 58; with_reducible refine (CE0.out _).mono ?_; rintro e wz ⟨rfl, rfl⟩) | (go_at_call 58; with_reducible refine (CE1.out _).mono ?_; rintro e wz ⟨rfl, rfl⟩))
                go_round
                case rel => exact ⟨k + 1, _, by omega, by go_num, rfl, brk_next HK.out (by simpa using ST.out)⟩
                case measure => simp [intOf]; omega
            · skip
              have CE0 := hid (fun w => show Calls Try.prog 58 #[.float .f32 (fat l k), .float .f32 W] w fun e w' => e = .returned (.bool true) ∧ w = w' from by have := c_l01Same (fat l k) W w; rw [e2] at this; exact this)
              have ST := hid (show brS l N W H k o = some o from by simp [brS, hle, e2])
              clear e2
              have hi : (k : Int) < (N : Int) := by omega
              clear hle
              go_wp2_with (first | (go_at_call 58; with_reducible refine (CE0.out _).mono ?_; rintro e wz ⟨rfl, rfl⟩))
              go_round
              case rel => exact ⟨k + 1, _, by omega, by go_num, rfl, brk_next HK.out (by simpa using ST.out)⟩
              case measure => simp [intOf]; omega
        · obtain rfl : k = 24 := by omega
          go_wp2
          go_ret2
          exact ⟨by simp [brN, brE, hz2.out, ← GN.out, HK.out], H4.out⟩
    · have hz2 : Hid (¬ brC B h = 0) := hid hz
      generalize hcv : brC B h = cv at *
      have CV := hid hcv
      have hne : (cv != 0) = true := by rw [bne_iff_ne]; exact hz
      clear hcv hz
      have HC0 := HB0
      have HC1 := HB1
      have H2 := H0
      go_enter Try.func26, Try.ntmps26
      go_wp2_with (first | (go_at_call 55; with_reducible refine (CH0.out _).mono ?_; rintro e w' ⟨rfl, rfl⟩) | (go_at_call 54; refine (C1.out _ (BldAt.of_block HC0.out)).mono ?_; rintro e w' ⟨rfl, rfl⟩))
      go_ret2
      exact ⟨by simp [brN, brE, CV.out, hz2.out], H2.out⟩
end Go.Proofs.Ytboddpifepegcaa
