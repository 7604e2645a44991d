/- Days and years: the sums, the codes, and the walks of what both sides share. -/
import Derived.Test.YtboddpifepegcaaSuns
import Derived.Test.YtboddpifepegcaaPLight
namespace Go.Proofs.Ytboddpifepegcaa
set_option maxRecDepth 20000
open Go.RowKit

/-! ### Sums -/
def sumY (Y : Nat → Nat) : Nat → Nat
  | 0 => 0
  | k + 1 => fadd (sumY Y k) (Y k)
def bdS (A : Nat) : Nat → Nat
  | 0 => 0
  | k + 1 => fadd (bdS A k) A + 1
theorem bdS_ok : ∀ k, k ≤ 24 → bdS WP k < 2139095040 := by
  have h : ((List.range 25).all fun k => decide (bdS WP k < 2139095040)) = true := by decide +kernel
  intro k hk
  have := List.all_eq_true.1 h k (List.mem_range.2 (by omega))
  simpa using this
theorem sum_in {Y : Nat → Nat} {n : Nat} (h : ∀ k, k < n → In0 (Y k) WP) (hn : n ≤ 24) : ∀ k, k ≤ n → In0 (sumY Y k) (bdS WP k)
  | 0, _ => In0.zero _ (by decide)
  | k + 1, hk => (sum_in h hn k (by omega)).add (h k (by omega)) (bdS_ok (k + 1) (by omega))
theorem bdS_24 : bdS WP 24 ≤ W64 := by decide +kernel
def dayY (B : Bld) (hs ts : List Int) (f : Int) (k : Nat) : Nat := windowW B hs ts k f
def dayW (B : Bld) (hs ts : List Int) (f : Int) : Nat := sumY (dayY B hs ts f) 24
theorem dayY_in {B : Bld} (hB : OkB B) {hs ts : List Int} (hs2 : okS hs ts = true) (f : Int) {k : Nat} (hk : k < 24) : In0 (dayY B hs ts f k) WP :=
  window_in hB hs ts f (okS_at hs2 hk).2.1
theorem day_fin {B : Bld} (hB : OkB B) {hs ts : List Int} (hs2 : okS hs ts = true) (f : Int) {k : Nat} (hk : k ≤ 24) : isFin (sumY (dayY B hs ts f) k) = true :=
  (sum_in (fun _ hk => dayY_in hB hs2 f hk) (Nat.le_refl _) k hk).fin
theorem day_in {B : Bld} (hB : OkB B) {hs ts : List Int} (hs2 : okS hs ts = true) (f : Int) : In0 (dayW B hs ts f) W64 :=
  (sum_in (fun _ hk => dayY_in hB hs2 f hk) (Nat.le_refl _) 24 (Nat.le_refl _)).mono bdS_24 (by decide)
def okSs (H T : Nat → List Int) (n : Nat) : Bool := (List.range n).all fun i => okS (H i) (T i)
theorem okSs_yes {H T : Nat → List Int} {n : Nat} (h : ∀ i, i < n → okS (H i) (T i) = true) : okSs H T n = true := by
  simp only [okSs, List.all_eq_true, List.mem_range]; exact h
theorem okSs_at {H T : Nat → List Int} {n i : Nat} (h : okSs H T n = true) (hi : i < n) : okS (H i) (T i) = true :=
  List.all_eq_true.1 h i (List.mem_range.2 hi)
theorem okSs_no {H T : Nat → List Int} {n i : Nat} (hi : i < n) (h : okS (H i) (T i) = false) : okSs H T n = false := by
  simp only [okSs, List.all_eq_false, List.mem_range]; exact ⟨i, hi, by simp [h]⟩
/-- The code of a blind, suns, and whether numbers are right. -/
def yrC (ok : Bool) (n : Nat) (right : Bool) : Int := if ok then (if 1 ≤ n ∧ n ≤ 12 then (if right then 0 else 2) else 3) else 1
theorem yrC_zero {ok r : Bool} {n : Nat} (h : yrC ok n r = 0) : ok = true ∧ 1 ≤ n ∧ n ≤ 12 ∧ r = true := by
  unfold yrC at h
  cases ok
  · simp at h
  · simp only [if_true] at h
    by_cases hn : 1 ≤ n ∧ n ≤ 12
    · rw [if_pos hn] at h
      cases r
      · simp at h
      · exact ⟨rfl, hn.1, hn.2, rfl⟩
    · rw [if_neg hn] at h; cases h
theorem in_n {n : Nat} (h : 1 ≤ n ∧ n ≤ 12) : inB (n : Int) 1 12 = true := by simp [inB]; omega
theorem out_n {n : Nat} (h : ¬ (1 ≤ n ∧ n ≤ 12)) : inB (n : Int) 1 12 = false := by simp [inB]; omega
theorem c_l07Day (B : Bld) (hB : OkB B) (c q b o : Nat) (hs ts : List Int) (f : Int) (w : World) (hA : BldAt w c q B) (hS : SunAt w b o hs ts) (hs2 : okS hs ts = true) (hf : 0 ≤ f ∧ f ≤ 255) :
    Calls Try.prog 86 #[.pointer (some ⟨c, q, none⟩), .pointer (some ⟨b, o, none⟩), .int .i64 f] w fun e w' => e = .returned (.float .f32 (dayW B hs ts f)) ∧ Below w.heap.size w w' := by
  have A := hid hA
  have S := hid hS
  have LO : Hid (∀ k : Nat, k < 24 → ∀ w, BldAt w c q B → SunAt w b o hs ts → Calls Try.prog 111 #[.pointer (some ⟨c, q, none⟩), .pointer (some ⟨b, o, none⟩), .int .i64 (k : Int), .int .i64 f] w fun e w' => e = .returned (.float .f32 (dayY B hs ts f k)) ∧ Below w.heap.size w w') := hid (fun k hk w hA hS => by
    have s := okS_at hs2 hk
    exact c_l02Window B hB c q b o k hs ts f w hA hS hk ⟨s.1, s.2.1⟩ s.2.2 hf)
  have FS := hid (fun (k : Nat) hk => day_fin hB hs2 f (k := k) hk)
  have FW := hid (fun (k : Nat) hk => (dayY_in hB hs2 f (k := k) hk).fin)
  have E := hid (show dayW B hs ts f = sumY (dayY B hs ts f) 24 from rfl)
  clear hA hS hs2 hf hB
  generalize dayY B hs ts f = Y at *
  go_enter Try.func86, Try.ntmps86
  go_wp2
  go_loopw [7, 8] (fun s i wr => ∃ k : Nat, k ≤ 24 ∧ i = .int .i64 k ∧ s = .float .f32 (sumY Y k) ∧ Below w.heap.size w wr) (fun _ i _ => 24 - (intOf i).toNat)
  case atStart => exact ⟨0, by omega, rfl, rfl, Below.refl _ _⟩
  case round =>
    obtain ⟨k, hk, rfl, rfl, hb⟩ := hrel
    have Bl := hid hb
    clear hb
    by_cases hlt : k < 24
    · have ra := fun wx => run_add (T := 27) (FS.out k hk) (FW.out k hlt) wx
      have hki : (k : Int) < 24 := by omega
      have C1 := hid (LO.out k hlt _ (A.out.below Bl.out) (S.out.below Bl.out))
      have X : Hid (sumY Y (k + 1) = fadd (sumY Y k) (Y k)) := hid rfl
      generalize Y k = y at *
      generalize sumY Y k = s at *
      go_wp2_with (go_at_call 111; refine C1.out.mono ?_; rintro e w1 ⟨rfl, h1⟩)
      exact ⟨⟨k + 1, by omega, by go_num, by rw [X.out], below_trans Bl.out h1 Bl.out.size⟩, by simp [intOf]; omega⟩
    · obtain rfl : k = 24 := by omega
      go_wp2
      go_ret
      exact ⟨ret_float E.out.symm, Bl.out⟩
theorem c_l07Year (B : Bld) (wf : WfB B) (c q : Nat) (a : Option Addr) (n ca : Nat) (H T : Nat → List Int) (r : Bool) (w : World) (hA : BldAt w c q B) (hok : SunsOk H T n) (hx : Rws w a n 48 (scs H T)) :
    Calls Try.prog 84 #[.pointer (some ⟨c, q, none⟩), .slice a n ca, .bool r] w fun e w' => e = .returned (.int .i64 (yrC (okB B && okSs H T n) n r)) ∧ w = w' := by
  have C0 := hid (c_l02Ok B wf c q w hA)
  have hn := hx.small
  have X := hid hx
  have OK := hid hok
  clear hA hok hx wf
  cases e1 : okB B
  · go_enter Try.func84, Try.ntmps84
    go_wp2_with (go_at_call 65; refine C0.out.mono ?_; rintro e w' ⟨rfl, rfl⟩)
    go_ret
    exact ⟨by simp [yrC], rfl⟩
  · go_enter Try.func84, Try.ntmps84
    go_wp2_with (go_at_call 65; refine C0.out.mono ?_; rintro e w' ⟨rfl, rfl⟩)
    go_loop [7] (fun i => ∃ k : Nat, k ≤ n ∧ i = .int .i64 k ∧ ∀ j, j < k → okS (H j) (T j) = true) (fun i => n - (intOf i).toNat)
    case atStart => exact ⟨0, by omega, rfl, by omega⟩
    case round =>
      obtain ⟨k, hk, rfl, hall⟩ := hrel
      have Hall := hid hall
      clear hall
      by_cases hlt : k < n
      · obtain ⟨b, o, rfl, hc⟩ := X.out.at_ (by omega)
        have C1 := hid (c_l01Ok (H k) (T k) b (o + k * 48) w (sun_of_range OK.out hlt (hc k hlt)) (OK.out k hlt).2.2.1 (OK.out k hlt).2.2.2)
        clear hc
        cases e2 : okS (H k) (T k)
        · rw [e2] at C1
          go_wp2_with (go_at_call 110; refine C1.out.mono ?_; rintro e w' ⟨rfl, rfl⟩)
          go_ret
          exact ⟨ret_int (by rw [okSs_no hlt e2]; rfl), rfl⟩
        · rw [e2] at C1
          go_wp2_with (go_at_call 110; refine C1.out.mono ?_; rintro e w' ⟨rfl, rfl⟩)
          refine ⟨⟨k + 1, by omega, by go_num, fun j hj => ?_⟩, by simp [intOf]; omega⟩
          rcases Nat.lt_or_ge j k with h | h
          · exact Hall.out j h
          · obtain rfl : j = k := by omega
            exact e2
      · obtain rfl : k = n := by omega
        have E := hid (okSs_yes Hall.out)
        have CI := hid (fun w => c_l00In (k : Int) 1 12 w)
        by_cases hr : 1 ≤ k ∧ k ≤ 12
        · rw [in_n hr] at CI
          have HR := hid hr
          cases r
          all_goals
            go_wp2_with (go_at_call 66; refine (CI.out _).mono ?_; rintro e w' ⟨rfl, rfl⟩)
            go_ret
            exact ⟨ret_int (by rw [E.out, yrC]; simp only [Bool.and_self, if_true]; rw [if_pos HR.out]; try rfl), rfl⟩
        · rw [out_n hr] at CI
          have HR := hid hr
          go_wp2_with (go_at_call 66; refine (CI.out _).mono ?_; rintro e w' ⟨rfl, rfl⟩)
          go_ret
          exact ⟨ret_int (by rw [E.out, yrC]; simp only [Bool.and_self, if_true]; rw [if_neg HR.out]), rfl⟩
/-- 'PassDay' at a blind and a sun that are right. -/
theorem c_PassDay1 (B : Bld) (hB : OkB B) (p b q k : Nat) (hs ts : List Int) (f : Int) (w : World) (hA : w.heap[p]? = some (.cells (bcells B) 30 (0, 0))) (hF : w.cell? ⟨q, 0, none⟩ = some (.int .i64 f)) (hS : SunAt w b 0 hs ts) (hs2 : okS hs ts = true) (hk : k < 24) (hf : 0 ≤ f ∧ f ≤ 255) :
    Calls Try.prog 91 #[.int .i64 (k : Int), .pointer (some ⟨p, 0, none⟩), .pointer (some ⟨b, 0, none⟩), .pointer (some ⟨q, 0, none⟩)] w fun e w' => e = .returned (.float .f32 (dayY B hs ts f k)) ∧ Below w.heap.size w w' := by
  have hsz := hid (size_blind B)
  have A := hid hA
  have s := okS_at hs2 hk
  have C1 := hid (c_passWindow B hB b 0 k hs ts f w hS hk ⟨s.1, s.2.1⟩ s.2.2 hf)
  have E := hid (show dayY B hs ts f k = windowW B hs ts k f from rfl)
  clear hA hS hs2 hk hf hB s
  go_enter Try.func91, Try.ntmps91
  go_wp2_with (first | (refine wpList_load_row rfl 30 _ rfl p rfl 30 (bcells B) (0, 0) _ A.out Try.underlying30 rfl hsz.out ?_) | (go_at_call 92; refine C1.out.mono ?_; rintro e w2 ⟨rfl, h2⟩))
  go_ret
  exact ⟨ret_float E.out.symm, h2⟩
theorem c_overDay (c1 c2 c3 : Value) (Y : Nat → Nat) (w : World) (fs : ∀ k, k ≤ 24 → isFin (sumY Y k) = true) (fw : ∀ k, k < 24 → isFin (Y k) = true)
    (hso : ∀ (k : Nat) w', k < 24 → Below w.heap.size w w' → Calls Try.prog 91 #[.int .i64 (k : Int), c1, c2, c3] w' fun e w2 => e = .returned (.float .f32 (Y k)) ∧ Below w'.heap.size w' w2) :
    Calls Try.prog 90 #[.func (.func 91) #[] #[c1, c2, c3]] w fun e w' => e = .returned (.float .f32 (sumY Y 24)) ∧ Below w.heap.size w w' := by
  have FS := hid fs
  have FW := hid fw
  have SO := hid hso
  clear fs fw hso
  go_enter Try.func90, Try.ntmps90
  go_wp2
  go_loopw [3, 5] (fun s i wr => ∃ k : Nat, k ≤ 24 ∧ i = .int .i64 k ∧ s = .float .f32 (sumY Y k) ∧ Below w.heap.size w wr) (fun _ i _ => 24 - (intOf i).toNat)
  case atStart => exact ⟨0, by omega, rfl, rfl, Below.refl _ _⟩
  case round =>
    obtain ⟨k, hk, rfl, rfl, hb⟩ := hrel
    have Bl := hid hb
    clear hb
    by_cases hlt : k < 24
    · have ra := fun wx => run_add (T := 27) (FS.out k hk) (FW.out k hlt) wx
      have hki : (k : Int) < 24 := by omega
      have C1 := hid (SO.out k _ hlt Bl.out)
      have X : Hid (sumY Y (k + 1) = fadd (sumY Y k) (Y k)) := hid rfl
      generalize Y k = y at *
      generalize sumY Y k = s at *
      go_wp2_with (go_at_call 91; refine C1.out.mono ?_; rintro e w1 ⟨rfl, h1⟩)
      exact ⟨⟨k + 1, by omega, by go_num, by rw [X.out], below_trans Bl.out h1 Bl.out.size⟩, by simp [intOf]; omega⟩
    · obtain rfl : k = 24 := by omega
      go_wp2
      go_ret
      exact ⟨rfl, Bl.out⟩
set_option maxHeartbeats 1000000 in
theorem c_implPassDay (B : Bld) (hB : OkB B) (b0 : okB B = true) (hs ts : List Int) (lh : hs.length = 24) (lt : ts.length = 24) (bh : I16 hs) (bt : I16 ts) (hs2 : okS hs ts = true) (f : Int) (hf : 0 ≤ f ∧ f ≤ 255) (w : World) :
    Calls Try.prog 37 #[.agg (bcells B), .agg (scells hs ts), .int .i64 f] w fun e w' => e = .returned (.tuple #[.float .f32 (dayW B hs ts f), .int .i64 0]) ∧ Below w.heap.size w w' := by
  have HB0 : Hid ((((w.alloc (.cells (bcells B) 30)).alloc (.cells (scells hs ts) 59)).alloc (.cells #[.int .i64 f] 2)).heap[w.heap.size]? = some (.cells (bcells B) 30 (0, 0))) := hid ((blk_past _ _ _ (by simp; omega)).trans ((blk_past _ _ _ (by simp)).trans (blk_at _ _ _ rfl)))
  have HB1 : Hid ((((w.alloc (.cells (bcells B) 30)).alloc (.cells (scells hs ts) 59)).alloc (.cells #[.int .i64 f] 2)).heap[w.heap.size + 1]? = some (.cells (scells hs ts) 59 (0, 0))) := hid ((blk_past _ _ _ (by simp)).trans (blk_at _ _ _ (by simp)))
  have HB2 : Hid ((((w.alloc (.cells (bcells B) 30)).alloc (.cells (scells hs ts) 59)).alloc (.cells #[.int .i64 f] 2)).heap[w.heap.size + 1 + 1]? = some (.cells #[.int .i64 f] 2 (0, 0))) := hid (blk_at _ _ _ (by simp))
  have H0 : Hid (Below w.heap.size w (((w.alloc (.cells (bcells B) 30)).alloc (.cells (scells hs ts) 59)).alloc (.cells #[.int .i64 f] 2))) := hid ((((Below.refl _ _).alloc (Nat.le_refl _) _).alloc (by simp) _).alloc (by simp; omega) _)
  have HZ0 := hid (size_blind B)
  have HZ1 : Hid ((Try.prog.info? 59).map (·.size) = some (scells hs ts).size) := hid (by rw [scells_size lh lt]; kernel_rfl)
  have X2 := hid (cell_of_row _ (w.heap.size + 1 + 1) 0 _ _ _ HB2.out)
  have CF := hid (fun w => show Calls Try.prog 80 #[.int .i64 f] w fun e w' => e = .returned (.bool true) ∧ w = w' from by have := c_isFacing f w; rwa [show inB f 0 255 = true by simp [inB]; omega] at this)
  have CW := hid (fun w => show Calls Try.prog 89 #[.agg (bcells B), .agg (scells hs ts), .bool true] w fun e w' => e = .returned (.int .i64 0) ∧ Below w.heap.size w w' from by have := c_windowCode B hB.wf hs ts lh lt bh bt true w; rwa [show codeOf (okS hs ts && okB B) true = 0 by rw [hs2, b0]; rfl] at this)
  have FS := hid (fun (k : Nat) hk => day_fin hB hs2 f (k := k) hk)
  have FW := hid (fun (k : Nat) hk => (dayY_in hB hs2 f (k := k) hk).fin)
  have HH := hid hs2
  have HF := hid hf
  have OB := hid hB
  have LH := hid lh
  have LT := hid lt
  clear hB b0 lh lt bh bt hs2 hf
  go_enter Try.func37, Try.ntmps37
  go_wp2_with fail
  refine wp_region_below (by kernel_rfl) (by kernel_rfl) ?_
  repeat (first | (refine wpQuiet_load_row rfl 30 _ rfl (w.heap.size) rfl 30 (bcells B) (0, 0) _ (fun wx hwx => (hwx.out.block _ (block_lt HB0.out)).trans HB0.out) Try.underlying30 rfl HZ0.out ?_) | (refine wpQuiet_load_row rfl 59 _ rfl (w.heap.size + 1) rfl 59 (scells hs ts) (0, 0) _ (fun wx hwx => (hwx.out.block _ (block_lt HB1.out)).trans HB1.out) Try.underlying59 rfl HZ1.out ?_) | (refine wpQuiet_load_cell rfl 2 _ rfl ⟨w.heap.size + 1 + 1, 0, none⟩ rfl (.int .i64 f) _ (fun wx hwx => cell_stays hwx.out X2.out) Try.underlying2 rfl ?_) | (refine wpQuiet_step (fun K hK => ?_); go_simp; first | (refine hK _ ?_; clear hK K) | (refine ⟨_, fun _ _ => rfl, hK _ ?_⟩; clear hK K) | (apply Exists.intro; refine ⟨fun wx hwx => ?_, hK _ ?_⟩; (first | (with_reducible exact quiet_below_same hwx (CF.out _)) | (with_reducible exact quiet_below hwx (CW.out _))); clear hK K)))
  refine wpQuiet_nil ?_
  intro w2 h2
  replace h2 := h2.out
  have HC0 := hid ((h2.block _ (block_lt HB0.out)).trans HB0.out)
  have HC1 := hid ((h2.block _ (block_lt HB1.out)).trans HB1.out)
  have HC2 := hid (cell_stays h2 X2.out)
  have H2 := hid (below_trans H0.out h2 H0.out.size)
  clear h2
  have CO := hid (c_overDay (.pointer (some ⟨w.heap.size, 0, none⟩)) (.pointer (some ⟨w.heap.size + 1, 0, none⟩)) (.pointer (some ⟨w.heap.size + 1 + 1, 0, none⟩)) (dayY B hs ts f) w2 FS.out FW.out (fun k w' hk hb => c_PassDay1 B OB.out w.heap.size (w.heap.size + 1) (w.heap.size + 1 + 1) k hs ts f w' ((hb.block _ (block_lt HC0.out)).trans HC0.out) (cell_stays hb HC2.out) (SunAt.of_block LH.out LT.out ((hb.block _ (block_lt HC1.out)).trans HC1.out)) HH.out hk HF.out))
  go_wp2_with (go_at_call 90; refine CO.out.mono ?_; rintro e w3 ⟨rfl, h3⟩)
  go_ret2
  exact ⟨rfl, below_trans H2.out h3 H2.out.size⟩
end Go.Proofs.Ytboddpifepegcaa
