/- Walks of YearFacing, both sides. -/
import Derived.Test.YtboddpifepegcaaYearL
namespace Go.Proofs.Ytboddpifepegcaa
set_option maxRecDepth 20000
open Go.RowKit

theorem in64_plain {x : Nat} (h : In0 x W64) : x < 4294967296 ∧ isPlain x = true := by
  have h1 := h.ge
  have h2 := h.le
  have h3 : (magOf W64 : Int) ≤ fx 1233125376 := by decide +kernel
  have h4 : fx 3380609024 ≤ 0 := by decide +kernel
  refine ⟨h.word, ?_⟩
  simp only [isPlain, Bool.and_eq_true]
  exact ⟨by rw [fGe_fin h.fin (by decide)]; exact decide_eq_true (by omega), by rw [fLe_fin h.fin (by decide)]; exact decide_eq_true (by omega)⟩
theorem year_plains {B : Bld} (hB : OkB B) {H T : Nat → List Int} {n : Nat} (h : okSs H T n = true) (f : Int) : Plains (yearK B H T f n) := fun k hk => by
  rw [yearK_len] at hk
  rw [yearK_at _ _ _ _ hk]
  exact in64_plain (day_in hB (okSs_at h hk) f)
theorem own_vln {w : World} {lo n : Nat} {v : Value} {xs : List Nat} (hn : 1 ≤ n) (hn2 : n ≤ 48) (h : w.ownsRow lo 27 1 v n (xs.map (Value.float .f32))) (hl : xs.length = n) (hp : Plains xs) : ∃ g cap, v = .slice (some ⟨g, 0, none⟩) n cap ∧ VL w (some ⟨g, 0, none⟩) n xs := by
  rcases h.2 with e | ⟨g, cap, cur, e, _⟩
  · exfalso; have := e.2; omega
  · subst e
    refine ⟨g, cap, rfl, ⟨hl, by omega, fun k hk => (hp k (by omega)).1, fun _ => ⟨g, 0, rfl, fun k hk => ?_⟩⟩, hp, by omega⟩
    rw [Nat.zero_add, h.cellAt k (by omega)]
    have : k < xs.length := by omega
    simp [fat, this]
/-- The sum over the year. -/
def bdY : Nat → Nat
  | 0 => 0
  | k + 1 => fadd (bdY k) W64 + 1
theorem bdY_ok : ∀ k, k ≤ 12 → bdY k < 2139095040 := by
  have h : ((List.range 13).all fun k => decide (bdY k < 2139095040)) = true := by decide +kernel
  intro k hk
  have := List.all_eq_true.1 h k (List.mem_range.2 (by omega))
  simpa using this
theorem left_in {xs : List Nat} {n : Nat} (hl : xs.length = n) (h : ∀ k, k < n → In0 (fat xs k) W64) (hn : n ≤ 12) : ∀ k, k ≤ n → In0 (leftK xs k) (bdY k)
  | 0, _ => In0.zero _ (by decide)
  | k + 1, hk => (left_in hl h hn k (by omega)).add (h k (by omega)) (bdY_ok (k + 1) (by omega))
theorem year_in {B : Bld} (hB : OkB B) {H T : Nat → List Int} {n : Nat} (h : okSs H T n = true) (hn : n ≤ 12) (f : Int) {k : Nat} (hk : k ≤ n) : In0 (leftK (yearK B H T f n) k) (bdY k) :=
  left_in (yearK_len B H T f n) (fun i hi => by rw [yearK_at _ _ _ _ hi]; exact day_in hB (okSs_at h hi) f) hn k hk
def yfG (B : Bld) (H T : Nat → List Int) (n st k : Nat) : Nat := leftK (yearK B H T ((k * st : Nat) : Int) n) n
theorem yfG_in {B : Bld} (hB : OkB B) {H T : Nat → List Int} {n : Nat} (h : okSs H T n = true) (hn : n ≤ 12) (st k : Nat) : In0 (yfG B H T n st k) (bdY n) := year_in hB h hn _ (Nat.le_refl _)
def yfC (B : Bld) (H T : Nat → List Int) (n : Nat) (step : Int) : Int := yrC (okB B && okSs H T n) n (inB step 8 255)
def yfI (B : Bld) (H T : Nat → List Int) (n : Nat) (step : Int) : Int := if yfC B H T n step = 0 then (((bestG (yfG B H T n step.toNat) (255 / step.toNat)).1 * step.toNat : Nat) : Int) else 0
def yfV (B : Bld) (H T : Nat → List Int) (n : Nat) (step : Int) : Nat := if yfC B H T n step = 0 then (bestG (yfG B H T n step.toNat) (255 / step.toNat)).2 else 0
theorem yfC_zero {B : Bld} {H T : Nat → List Int} {n : Nat} {step : Int} (h : yfC B H T n step = 0) : okB B = true ∧ okSs H T n = true ∧ 1 ≤ n ∧ n ≤ 12 ∧ ∃ st : Nat, step = (st : Int) ∧ 8 ≤ st ∧ st ≤ 255 := by
  obtain ⟨h1, h2, h3, h4⟩ := yrC_zero h
  simp only [Bool.and_eq_true] at h1
  have : 8 ≤ step ∧ step ≤ 255 := by simpa [inB] using h4
  exact ⟨h1.1, h1.2, h2, h3, step.toNat, by omega, by omega, by omega⟩
theorem fin_yfV {B : Bld} (wf : WfB B) (H T : Nat → List Int) (n : Nat) (step : Int) : isFin (yfV B H T n step) = true := by
  unfold yfV; split
  · next h =>
    obtain ⟨h1, h2, h3, h4, _⟩ := yfC_zero h
    obtain ⟨e1, e2⟩ := bestG_at (yfG B H T n step.toNat) (255 / step.toNat)
    rw [e2]
    exact (yfG_in (OkB.of wf h1) h2 h4 _ _).fin
  · decide
/-- The reference's state when k facings have been looked at. -/
def bestS (G : Nat → Nat) (st : Nat) : Nat → Nat × Nat
  | 0 => (0, 3212836864)
  | k + 1 => if fGt (G k) (bestS G st k).2 then (k * st, G k) else bestS G st k
theorem bestS_succ (G : Nat → Nat) (st k : Nat) : bestS G st (k + 1) = if fGt (G k) (bestS G st k).2 then (k * st, G k) else bestS G st k := rfl
theorem bestS_is {G : Nat → Nat} {st : Nat} (h0 : fGt (G 0) 3212836864 = true) : ∀ k, bestS G st (k + 1) = ((bestG G k).1 * st, (bestG G k).2)
  | 0 => by rw [bestS_succ]; show (if fGt (G 0) 3212836864 then _ else _) = _; rw [if_pos h0]; rfl
  | k + 1 => by
    rw [bestS_succ, bestS_is h0 k, bestG_succ]
    by_cases h : fGt (G (k + 1)) (bestG G k).2 = true
    · rw [if_pos h, if_pos h]
    · rw [if_neg h, if_neg h]
set_option maxHeartbeats 1000000 in
theorem c_YearFacing1 (B : Bld) (hB : OkB B) (b0 : okB B = true) (p q r : Nat) (a : Option Addr) (n ca : Nat) (H T : Nat → List Int) (st k : Nat) (hk : k * st ≤ 255) (_hst : st ≤ 255) (_hk2 : k ≤ 31) (hn : 1 ≤ n) (hn2 : n ≤ 12) (w : World) (hP : w.heap[p]? = some (.cells (bcells B) 30 (0, 0))) (hQ : w.cell? ⟨q, 0, none⟩ = some (.slice a n ca)) (hR : w.cell? ⟨r, 0, none⟩ = some (.int .i64 (st : Int))) (hok : SunsOk H T n) (hx : Rws w a n 48 (scs H T)) (hs2 : okSs H T n = true) :
    Calls Try.prog 87 #[.int .i64 (k : Int), .pointer (some ⟨p, 0, none⟩), .pointer (some ⟨q, 0, none⟩), .pointer (some ⟨r, 0, none⟩)] w fun e w' => e = .returned (.float .f32 (yfG B H T n st k)) ∧ Below w.heap.size w w' := by
  have hsz := hid (size_blind B)
  have P := hid hP
  have hm : IntKind.i64.wrap ((k : Int) * (st : Int)) = ((k * st : Nat) : Int) := by rw [← Int.natCast_mul, IntWalk.i64_in] <;> omega
  have hm0 : (0 : Int) ≤ ((k * st : Nat) : Int) := by omega
  have hm1 : ((k * st : Nat) : Int) ≤ 255 := by omega
  have CY := hid (c_year B hB b0 a n ca H T ((k * st : Nat) : Int) ⟨hm0, hm1⟩ w hok hx hs2)
  have PL := hid (year_plains hB hs2 ((k * st : Nat) : Int))
  have E : Hid (leftOf (yearK B H T ((k * st : Nat) : Int) n) = yfG B H T n st k) := hid (by rw [leftOf, yearK_len]; rfl)
  have EN := hid (yearK_len B H T ((k * st : Nat) : Int) n)
  clear hP hok hx hs2 hB b0 hk _hst _hk2
  generalize ((k * st : Nat) : Int) = m at *
  go_enter Try.func87, Try.ntmps87
  go_wp2_with (first | (refine wpList_load_row rfl 30 _ rfl p rfl 30 (bcells B) (0, 0) _ P.out Try.underlying30 rfl hsz.out ?_))
  refine CY.out.mono ?_
  rintro e w2 ⟨⟨v, rfl, hv⟩, h2⟩
  obtain ⟨g, cap, rfl, hl⟩ := own_vln hn (by omega) hv EN.out PL.out
  have CL := hid (c_left _ _ cap _ _ hl)
  clear hv hl
  go_wp2_with (go_at_call 88; refine CL.out.mono ?_; rintro e w3 ⟨rfl, rfl⟩)
  go_ret
  exact ⟨ret_float E.out, h2⟩
set_option maxHeartbeats 1000000 in
theorem c_implYearFacing (B : Bld) (wf : WfB B) (a : Option Addr) (n ca : Nat) (H T : Nat → List Int) (step : Int) (w : World) (hok : SunsOk H T n) (hx : Rws w a n 48 (scs H T)) :
    Calls Try.prog 35 #[.agg (bcells B), .slice a n ca, .int .i64 step] w fun e w' => e = .returned (.tuple #[.int .i64 (yfI B H T n step), .float .f32 (yfV B H T n step), .int .i64 (yfC B H T n step)]) ∧ Below w.heap.size w w' := by
  have HB0 : Hid ((((w.alloc (.cells (bcells B) 30)).alloc (.cells #[.slice a n ca] 61)).alloc (.cells #[.int .i64 step] 2)).heap[w.heap.size]? = some (.cells (bcells B) 30 (0, 0))) := hid ((blk_past _ _ _ (by simp; omega)).trans ((blk_past _ _ _ (by simp)).trans (blk_at _ _ _ rfl)))
  have X1 : Hid ((((w.alloc (.cells (bcells B) 30)).alloc (.cells #[.slice a n ca] 61)).alloc (.cells #[.int .i64 step] 2)).cell? ⟨w.heap.size + 1, 0, none⟩ = some (.slice a n ca)) := hid (cell_of_row _ (w.heap.size + 1) 0 _ _ _ ((blk_past _ _ _ (by simp)).trans (blk_at _ _ _ (by simp))))
  have X2 : Hid ((((w.alloc (.cells (bcells B) 30)).alloc (.cells #[.slice a n ca] 61)).alloc (.cells #[.int .i64 step] 2)).cell? ⟨w.heap.size + 1 + 1, 0, none⟩ = some (.int .i64 step)) := hid (cell_of_row _ (w.heap.size + 1 + 1) 0 _ _ _ (blk_at _ _ _ (by simp)))
  have H0 : Hid (Below w.heap.size w (((w.alloc (.cells (bcells B) 30)).alloc (.cells #[.slice a n ca] 61)).alloc (.cells #[.int .i64 step] 2))) := hid ((((Below.refl _ _).alloc (Nat.le_refl _) _).alloc (by simp) _).alloc (by simp; omega) _)
  have HZ0 := hid (size_blind B)
  have CF := hid (fun w => c_within step 8 255 w)
  have CW : ∀ w, Rws w a n 48 (scs H T) → Calls Try.prog 79 #[.agg (bcells B), .slice a n ca, .bool (inB step 8 255)] w fun e w' => e = .returned (.int .i64 (yfC B H T n step)) ∧ Below w.heap.size w w' := fun w hx => c_yearCode B wf a n ca H T (inB step 8 255) w hok hx
  have X := hid (hx.below H0.out)
  by_cases hz : yfC B H T n step = 0
  · obtain ⟨z1, z2, z3, z4, st, rfl, s1, s2⟩ := yfC_zero hz
    rw [hz] at CW
    have CW2 := hid CW
    have hz2 := hid hz
    have EI := hid (show yfI B H T n (st : Int) = (((bestG (yfG B H T n st) (255 / st)).1 * st : Nat) : Int) by rw [yfI, if_pos hz]; rfl)
    have EV := hid (show yfV B H T n (st : Int) = (bestG (yfG B H T n st) (255 / st)).2 by rw [yfV, if_pos hz]; rfl)
    have hM : 255 / st ≤ 31 := by
      have : 255 / st ≤ 255 / 8 := Nat.div_le_div_left s1 (by omega)
      omega
    have hMM := Nat.div_mul_le_self 255 st
    have CO := hid (fun k wq (hk : k < 255 / st + 1) hP hQ hR hx => c_YearFacing1 B (OkB.of wf z1) z1 w.heap.size (w.heap.size + 1) (w.heap.size + 1 + 1) a n ca H T st k (Nat.le_trans (Nat.mul_le_mul_right st (by omega)) hMM) s2 (by omega) z3 z4 wq hP hQ hR hok hx z2)
    have hd : (255 : Int) / (st : Int) = ((255 / st : Nat) : Int) := by rw [Int.natCast_ediv]; rfl
    have hst0 : (8 : Int) ≤ (st : Int) := by omega
    have hst1 : (st : Int) ≤ 255 := by omega
    have hbest := (bestG_at (yfG B H T n st) (255 / st)).1
    have hmul : (bestG (yfG B H T n st) (255 / st)).1 * st ≤ 255 := Nat.le_trans (Nat.mul_le_mul_right st hbest) hMM
    have HD := hid hd
    have HW : Hid (IntKind.i64.wrap (((bestG (yfG B H T n st) (255 / st)).1 : Int) * (st : Int)) = (((bestG (yfG B H T n st) (255 / st)).1 * st : Nat) : Int)) := hid (by rw [← Int.natCast_mul, IntWalk.i64_in] <;> omega)
    clear CW hz hok hx wf z1 z2 hd hbest hmul hMM s1 s2
    generalize yfG B H T n st = G at *
    generalize 255 / st = M at *
    go_enter Try.func35, Try.ntmps35
    go_wp2_with fail
    refine wp_region_below (by kernel_rfl) (by kernel_rfl) ?_
    repeat (first | (refine wpQuiet_load_row rfl 30 _ rfl (w.heap.size) rfl 30 (bcells B) (0, 0) _ (fun wx hwx => (hwx.out.block _ (block_lt HB0.out)).trans HB0.out) Try.underlying30 rfl HZ0.out ?_) | (refine wpQuiet_load_cell rfl 61 _ rfl ⟨w.heap.size + 1, 0, none⟩ rfl (.slice a n ca) _ (fun wx hwx => cell_stays hwx.out X1.out) Try.underlying61 rfl ?_) | (refine wpQuiet_load_cell rfl 2 _ rfl ⟨w.heap.size + 1 + 1, 0, none⟩ rfl (.int .i64 _) _ (fun wx hwx => cell_stays hwx.out X2.out) Try.underlying2 rfl ?_) | (refine wpQuiet_step (fun K hK => ?_); go_simp; first | (refine hK _ ?_; clear hK K) | (refine ⟨_, fun _ _ => rfl, hK _ ?_⟩; clear hK K) | (apply Exists.intro; refine ⟨fun wx hwx => ?_, hK _ ?_⟩; (first | (with_reducible exact quiet_below_same hwx (CF.out _)) | (with_reducible exact quiet_below hwx (CW2.out _ (X.out.below hwx.out)))); clear hK K)))
    refine wpQuiet_nil ?_
    intro w2 h2
    replace h2 := h2.out
    have HC0 := hid ((h2.block _ (block_lt HB0.out)).trans HB0.out)
    have HC1 := hid (cell_stays h2 X1.out)
    have HC2 := hid (cell_stays h2 X2.out)
    have X2b := hid (X.out.below h2)
    have H2 := hid (below_trans H0.out h2 H0.out.size)
    clear h2
    have CG := hid (show Calls Try.prog 82 #[.int .i64 ((M : Int) + 1), .func (.func 87) #[] #[.pointer (some ⟨w.heap.size, 0, none⟩), .pointer (some ⟨w.heap.size + 1, 0, none⟩), .pointer (some ⟨w.heap.size + 1 + 1, 0, none⟩)]] w2 fun e w' => e = .returned (.tuple #[.int .i64 ((bestG G M).1 : Int), .float .f32 (bestG G M).2]) ∧ Below w2.heap.size w2 w' from c_greatest_f _ _ _ G (M + 1) (by omega) (by omega) w2 (fun k w' hk hb => CO.out k w' hk ((hb.block _ (block_lt HC0.out)).trans HC0.out) (cell_stays hb HC1.out) (cell_stays hb HC2.out) (X2b.out.below hb)))
    have hc2 := HC2.out
    have hd := HD.out
    go_wp2_with fail
    refine CG.out.mono ?_
    rintro e w3 ⟨rfl, h3⟩
    have hc3 := cell_stays h3 HC2.out
    have hw := HW.out
    clear hd
    go_wp2
    go_ret3
    exact ⟨by rw [hz2.out, EI.out, EV.out]; rfl, below_trans H2.out h3 H2.out.size⟩
  · have hz2 : Hid (¬ yfC B H T n step = 0) := hid hz
    generalize hcv : yfC B H T n step = cv at *
    have CV := hid hcv
    have hne : (cv != 0) = true := by rw [bne_iff_ne]; exact hz
    have CW2 := hid CW
    clear CW hcv hz hok hx wf
    go_enter Try.func35, Try.ntmps35
    go_wp2_with fail
    refine wp_region_below (by kernel_rfl) (by kernel_rfl) ?_
    repeat (first | (refine wpQuiet_load_row rfl 30 _ rfl (w.heap.size) rfl 30 (bcells B) (0, 0) _ (fun wx hwx => (hwx.out.block _ (block_lt HB0.out)).trans HB0.out) Try.underlying30 rfl HZ0.out ?_) | (refine wpQuiet_load_cell rfl 61 _ rfl ⟨w.heap.size + 1, 0, none⟩ rfl (.slice a n ca) _ (fun wx hwx => cell_stays hwx.out X1.out) Try.underlying61 rfl ?_) | (refine wpQuiet_load_cell rfl 2 _ rfl ⟨w.heap.size + 1 + 1, 0, none⟩ rfl (.int .i64 _) _ (fun wx hwx => cell_stays hwx.out X2.out) Try.underlying2 rfl ?_) | (refine wpQuiet_step (fun K hK => ?_); go_simp; first | (refine hK _ ?_; clear hK K) | (refine ⟨_, fun _ _ => rfl, hK _ ?_⟩; clear hK K) | (apply Exists.intro; refine ⟨fun wx hwx => ?_, hK _ ?_⟩; (first | (with_reducible exact quiet_below_same hwx (CF.out _)) | (with_reducible exact quiet_below hwx (CW2.out _ (X.out.below hwx.out)))); clear hK K)))
    refine wpQuiet_nil ?_
    intro w2 h2
    replace h2 := h2.out
    have HC0 := hid ((h2.block _ (block_lt HB0.out)).trans HB0.out)
    have HC1 := hid (cell_stays h2 X1.out)
    have HC2 := hid (cell_stays h2 X2.out)
    have X2b := hid (X.out.below h2)
    have H2 := hid (below_trans H0.out h2 H0.out.size)
    clear h2
    go_wp2
    go_ret3
    exact ⟨by rw [yfI, yfV, CV.out, if_neg hz2.out, if_neg hz2.out]; rfl, H2.out⟩
set_option maxHeartbeats 1000000 in
theorem c_specYearFacing (B : Bld) (wf : WfB B) (a : Option Addr) (n ca : Nat) (H T : Nat → List Int) (step : Int) (w : World) (hok : SunsOk H T n) (hx : Rws w a n 48 (scs H T)) :
    Calls Try.prog 36 #[.agg (bcells B), .slice a n ca, .int .i64 step] w fun e w' => e = .returned (.tuple #[.int .i64 (yfI B H T n step), .float .f32 (yfV B H T n step), .int .i64 (yfC B H T n step)]) ∧ Below w.heap.size w w' := by
  have HB0 : Hid ((w.alloc (.cells (bcells B) 30)).heap[w.heap.size]? = some (.cells (bcells B) 30 (0, 0))) := hid (blk_at _ _ _ rfl)
  have H0 : Hid (Below w.heap.size w (w.alloc (.cells (bcells B) 30))) := hid ((Below.refl _ _).alloc (Nat.le_refl _) _)
  have CF := hid (fun w => c_l00In step 8 255 w)
  have X := hid (hx.below H0.out)
  have CW : Calls Try.prog 84 #[.pointer (some ⟨w.heap.size, 0, none⟩), .slice a n ca, .bool (inB step 8 255)] (w.alloc (.cells (bcells B) 30)) fun e w' => e = .returned (.int .i64 (yfC B H T n step)) ∧ (w.alloc (.cells (bcells B) 30)) = w' := c_l07Year B wf w.heap.size 0 a n ca H T (inB step 8 255) _ (BldAt.of_block HB0.out) hok X.out
  have OK := hid hok
  by_cases hz : yfC B H T n step = 0
  · obtain ⟨z1, z2, z3, z4, st, rfl, s1, s2⟩ := yfC_zero hz
    rw [hz] at CW
    have CW2 := hid CW
    have hz2 := hid hz
    have EI := hid (show yfI B H T n (st : Int) = (((bestG (yfG B H T n st) (255 / st)).1 * st : Nat) : Int) by rw [yfI, if_pos hz]; rfl)
    have EV := hid (show yfV B H T n (st : Int) = (bestG (yfG B H T n st) (255 / st)).2 by rw [yfV, if_pos hz]; rfl)
    have hM : 255 / st ≤ 31 := by
      have : 255 / st ≤ 255 / 8 := Nat.div_le_div_left s1 (by omega)
      omega
    have KL := hid (fun k => Nat.le_div_iff_mul_le (x := k) (y := 255) (show 0 < st by omega))
    have hB := OkB.of wf z1
    have CD := hid (fun (m : Nat) (hm : m ≤ 255) k (hk : k < n) c q b o w hA hS => c_l07Day B hB c q b o (H k) (T k) (m : Int) w hA hS (okSs_at z2 hk) ⟨by omega, by omega⟩)
    have LF := hid (fun (f : Int) k (hk : k ≤ n) => (year_in hB z2 z4 f hk).fin)
    have DF := hid (fun (f : Int) k (hk : k < n) => (day_in hB (okSs_at z2 hk) f).fin)
    have GT := hid (bestS_is (G := yfG B H T n st) (st := st) (gt_minus (yfG_in hB z2 z4 st 0)))
    have GD := hid (fun k => show yfG B H T n st k = leftK (yearK B H T ((k * st : Nat) : Int) n) n from rfl)
    clear CW hz hok hx wf z1 z2 hB
    generalize yfG B H T n st = G at *
    have S0 : Hid (bestS G st 0 = (0, 3212836864)) := hid rfl
    go_enter Try.func36, Try.ntmps36
    go_wp2_with (first | (go_at_call 66; refine (CF.out _).mono ?_; rintro e w' ⟨rfl, rfl⟩) | (go_at_call 84; refine CW2.out.mono ?_; rintro e w' ⟨rfl, rfl⟩))
    go_loopw [10, 11, 12] (fun bb m i wr => ∃ k : Nat, k ≤ 255 / st + 1 ∧ i = .int .i64 ((k * st : Nat) : Int) ∧ bb = .int .i64 ((bestS G st k).1 : Int) ∧ m = .float .f32 (bestS G st k).2 ∧ Below (w.alloc (.cells (bcells B) 30)).heap.size (w.alloc (.cells (bcells B) 30)) wr) (fun _ _ i _ => 256 - (intOf i).toNat)
    case atStart => exact ⟨0, Nat.zero_le _, by simp, by rw [S0.out]; rfl, by rw [S0.out], Below.refl _ _⟩
    case round =>
      obtain ⟨k, hk, rfl, rfl, rfl, hb⟩ := hrel
      have Bl := hid hb
      clear hb
      have hsucc : (k + 1) * st = k * st + st := Nat.succ_mul k st
      by_cases hlt : k < 255 / st + 1
      · have hks : k * st ≤ 255 := (KL.out k).1 (by omega)
        have C1 := hid (CD.out (k * st) hks)
        have LF1 := hid (LF.out ((k * st : Nat) : Int))
        have DF1 := hid (DF.out ((k * st : Nat) : Int))
        have XX := hid (bestS_succ G st k)
        have GD1 := hid (GD.out k)
        have Hs := hid hsucc
        clear hsucc
        generalize hm : k * st = m at *
        have MM := hid hm
        clear hm
        have hmi : (m : Int) < 256 := by omega
        obtain ⟨wo, rfl⟩ : ∃ wo : World, wo = wr := ⟨_, rfl⟩
        go_wp2
        go_loopw [13, 14] (fun s j wr => ∃ q : Nat, q ≤ n ∧ j = .int .i64 q ∧ s = .float .f32 (leftK (yearK B H T (m : Int) n) q) ∧ Below (w.alloc (.cells (bcells B) 30)).heap.size (w.alloc (.cells (bcells B) 30)) wr) (fun _ j _ => n - (intOf j).toNat)
        case atStart => exact ⟨0, by omega, rfl, rfl, Bl.out⟩
        case round =>
          obtain ⟨q, hq, rfl, rfl, hb⟩ := hrel
          have B2 := hid hb
          clear hb
          by_cases hlq : q < n
          · obtain ⟨b, o, rfl, hc⟩ := (X.out.below B2.out).at_ (by omega)
            have S1 := hid (sun_of_range OK.out hlq (hc q hlq))
            have D1 := hid (C1.out q hlq _ _ _ _ _ (BldAt.of_block ((B2.out.block _ (block_lt HB0.out)).trans HB0.out)) S1.out)
            have YS : Hid (leftK (yearK B H T (m : Int) n) (q + 1) = fadd (leftK (yearK B H T (m : Int) n) q) (dayW B (H q) (T q) (m : Int))) := hid (by rw [leftK, yearK_at _ _ _ _ hlq])
            have ra := fun wx => run_add (T := 27) (LF1.out q hq) (DF1.out q hlq) wx
            clear hc
            generalize dayW B (H q) (T q) (m : Int) = x at *
            generalize leftK (yearK B H T (m : Int) n) q = y at *
            go_wp2_with (go_at_call 86; refine D1.out.mono ?_; rintro e w2 ⟨rfl, h2⟩)
            exact ⟨⟨q + 1, by omega, by go_num, by rw [YS.out], below_trans B2.out h2 B2.out.size⟩, by simp [intOf]; omega⟩
          · obtain rfl : q = n := by omega
            have hw1 : IntKind.i64.wrap ((m : Int) + (st : Int)) = ((m + st : Nat) : Int) := by rw [← Int.natCast_add, IntWalk.i64_in] <;> omega
            rw [← GD1.out]
            generalize G k = x at *
            generalize hqq : bestS G st k = qq at *
            obtain ⟨i0, y⟩ := qq
            have Q := hid hqq
            clear hqq
            simp only at XX ⊢
            cases hg : fGt x y
            · have hg' : (FloatKind.f32.format.order x y == some .gt) = false := hg
              go_wp2
              exact ⟨⟨k + 1, by omega, by rw [Hs.out]; go_num, by rw [XX.out, hg]; rfl, by rw [XX.out, hg]; rfl, B2.out⟩, by simp [intOf]; omega⟩
            · have hg' : (FloatKind.f32.format.order x y == some .gt) = true := hg
              go_wp2
              exact ⟨⟨k + 1, by omega, by rw [Hs.out]; go_num, by rw [XX.out, hg]; rfl, by rw [XX.out, hg]; rfl, B2.out⟩, by simp [intOf]; omega⟩
      · obtain rfl : k = 255 / st + 1 := by omega
        have hge : 256 ≤ (255 / st + 1) * st := by
          rcases Nat.lt_or_ge ((255 / st + 1) * st) 256 with h | h
          · have := (KL.out (255 / st + 1)).2 (by omega); omega
          · exact h
        have EE := hid (GT.out (255 / st))
        have hge2 : (256 : Int) ≤ (((255 / st + 1) * st : Nat) : Int) := by omega
        clear hsucc hge
        generalize (255 / st + 1) * st = mm at *
        go_wp2
        go_ret3
        exact ⟨by rw [hz2.out, EI.out, EV.out, EE.out]; rfl, below_trans H0.out Bl.out H0.out.size⟩
  · have hz2 : Hid (¬ yfC B H T n step = 0) := hid hz
    generalize hcv : yfC B H T n step = cv at *
    have CV := hid hcv
    have hne : (cv != 0) = true := by rw [bne_iff_ne]; exact hz
    have CW2 := hid CW
    clear CW hcv hz hok hx wf
    go_enter Try.func36, Try.ntmps36
    go_wp2_with (first | (go_at_call 66; refine (CF.out _).mono ?_; rintro e w' ⟨rfl, rfl⟩) | (go_at_call 84; refine CW2.out.mono ?_; rintro e w' ⟨rfl, rfl⟩))
    go_ret3
    exact ⟨by rw [yfI, yfV, CV.out, if_neg hz2.out, if_neg hz2.out]; rfl, H0.out⟩
end Go.Proofs.Ytboddpifepegcaa
