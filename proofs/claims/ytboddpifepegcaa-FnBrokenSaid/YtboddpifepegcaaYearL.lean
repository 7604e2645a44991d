/- Walks of YearLight, BestMonth and YearFacing. -/
import Derived.Test.YtboddpifepegcaaYears
import Derived.Test.YtboddpifepegcaaBest
namespace Go.Proofs.Ytboddpifepegcaa
set_option maxRecDepth 20000
open Go.RowKit

/-- The first of the numbers up to k at which G is greatest, and G there. -/
def bestG (G : Nat → Nat) : Nat → Nat × Nat
  | 0 => (0, G 0)
  | k + 1 => if fGt (G (k + 1)) (bestG G k).2 then (k + 1, G (k + 1)) else bestG G k
theorem bestG_succ (G : Nat → Nat) (k : Nat) : bestG G (k + 1) = if fGt (G (k + 1)) (bestG G k).2 then (k + 1, G (k + 1)) else bestG G k := rfl
theorem bestG_at (G : Nat → Nat) : ∀ k, (bestG G k).1 ≤ k ∧ (bestG G k).2 = G (bestG G k).1
  | 0 => ⟨Nat.le_refl _, rfl⟩
  | k + 1 => by
    obtain ⟨h1, h2⟩ := bestG_at G k
    rw [bestG_succ]; split
    · exact ⟨Nat.le_refl _, rfl⟩
    · exact ⟨by omega, h2⟩
theorem bestG_congr {G G' : Nat → Nat} : ∀ {k : Nat}, (∀ i, i ≤ k → G i = G' i) → bestG G k = bestG G' k
  | 0, h => by show (0, G 0) = (0, G' 0); rw [h 0 (Nat.le_refl _)]
  | k + 1, h => by rw [bestG_succ, bestG_succ, bestG_congr (k := k) (fun i hi => h i (by omega)), h (k + 1) (Nat.le_refl _)]
theorem c_greatest_m (c1 : Value) (G : Nat → Nat) (N : Nat) (hN : 1 ≤ N) (hN2 : N ≤ 1000) (w : World)
    (hso : ∀ (k : Nat) w', k < N → Below w.heap.size w w' → Calls Try.prog 83 #[.int .i64 (k : Int), c1] w' fun e w2 => e = .returned (.float .f32 (G k)) ∧ Below w'.heap.size w' w2) :
    Calls Try.prog 82 #[.int .i64 (N : Int), .func (.func 83) #[] #[c1]] w fun e w' => e = .returned (.tuple #[.int .i64 ((bestG G (N - 1)).1 : Int), .float .f32 (bestG G (N - 1)).2]) ∧ Below w.heap.size w w' := by
  have SO := hid hso
  have C0 := hid (hso 0 w (by omega) (Below.refl _ _))
  clear hso
  have G0 : Hid (bestG G 0 = (0, G 0)) := hid rfl
  go_enter Try.func82, Try.ntmps82
  go_wp2_with (go_at_call 83; refine C0.out.mono ?_; rintro e w1 ⟨rfl, h1⟩)
  go_loopw [6, 7, 8] (fun b m i wr => ∃ k : Nat, k + 1 ≤ N ∧ i = .int .i64 ((k + 1 : Nat) : Int) ∧ b = .int .i64 ((bestG G k).1 : Int) ∧ m = .float .f32 (bestG G k).2 ∧ Below w.heap.size w wr) (fun _ _ i _ => N - (intOf i).toNat)
  case atStart => exact ⟨0, by omega, rfl, by rw [G0.out]; rfl, by rw [G0.out], h1⟩
  case round =>
    obtain ⟨k, hk, rfl, rfl, rfl, hb⟩ := hrel
    have Bl := hid hb
    clear hb h1
    by_cases hlt : k + 1 < N
    · have C1 := hid (SO.out (k + 1) _ hlt Bl.out)
      have X := hid (bestG_succ G k)
      have hki : ((k + 1 : Nat) : Int) < (N : Int) := by omega
      generalize G (k + 1) = x at *
      generalize hq : bestG G k = q at *
      obtain ⟨i0, y⟩ := q
      have Q := hid hq
      clear hq
      simp only at X ⊢
      cases hg : fGt x y
      · have hg' : (FloatKind.f32.format.order x y == some .gt) = false := hg
        go_wp2_with (go_at_call 83; refine C1.out.mono ?_; rintro e w2 ⟨rfl, h2⟩)
        exact ⟨⟨k + 1, by omega, by go_num, by rw [X.out, hg]; rfl, by rw [X.out, hg]; rfl, below_trans Bl.out h2 Bl.out.size⟩, by simp [intOf]; omega⟩
      · have hg' : (FloatKind.f32.format.order x y == some .gt) = true := hg
        go_wp2_with (go_at_call 83; refine C1.out.mono ?_; rintro e w2 ⟨rfl, h2⟩)
        exact ⟨⟨k + 1, by omega, by go_num, by rw [X.out, hg]; rfl, by rw [X.out, hg]; rfl, below_trans Bl.out h2 Bl.out.size⟩, by simp [intOf]; omega⟩
    · obtain rfl : N = k + 1 := by omega
      go_wp2
      go_ret2
      exact ⟨rfl, Bl.out⟩
theorem c_greatest_f (c1 c2 c3 : Value) (G : Nat → Nat) (N : Nat) (hN : 1 ≤ N) (hN2 : N ≤ 1000) (w : World)
    (hso : ∀ (k : Nat) w', k < N → Below w.heap.size w w' → Calls Try.prog 87 #[.int .i64 (k : Int), c1, c2, c3] w' fun e w2 => e = .returned (.float .f32 (G k)) ∧ Below w'.heap.size w' w2) :
    Calls Try.prog 82 #[.int .i64 (N : Int), .func (.func 87) #[] #[c1, c2, c3]] w fun e w' => e = .returned (.tuple #[.int .i64 ((bestG G (N - 1)).1 : Int), .float .f32 (bestG G (N - 1)).2]) ∧ Below w.heap.size w w' := by
  have SO := hid hso
  have C0 := hid (hso 0 w (by omega) (Below.refl _ _))
  clear hso
  have G0 : Hid (bestG G 0 = (0, G 0)) := hid rfl
  go_enter Try.func82, Try.ntmps82
  go_wp2_with (go_at_call 87; refine C0.out.mono ?_; rintro e w1 ⟨rfl, h1⟩)
  go_loopw [6, 7, 8] (fun b m i wr => ∃ k : Nat, k + 1 ≤ N ∧ i = .int .i64 ((k + 1 : Nat) : Int) ∧ b = .int .i64 ((bestG G k).1 : Int) ∧ m = .float .f32 (bestG G k).2 ∧ Below w.heap.size w wr) (fun _ _ i _ => N - (intOf i).toNat)
  case atStart => exact ⟨0, by omega, rfl, by rw [G0.out]; rfl, by rw [G0.out], h1⟩
  case round =>
    obtain ⟨k, hk, rfl, rfl, rfl, hb⟩ := hrel
    have Bl := hid hb
    clear hb h1
    by_cases hlt : k + 1 < N
    · have C1 := hid (SO.out (k + 1) _ hlt Bl.out)
      have X := hid (bestG_succ G k)
      have hki : ((k + 1 : Nat) : Int) < (N : Int) := by omega
      generalize G (k + 1) = x at *
      generalize hq : bestG G k = q at *
      obtain ⟨i0, y⟩ := q
      have Q := hid hq
      clear hq
      simp only at X ⊢
      cases hg : fGt x y
      · have hg' : (FloatKind.f32.format.order x y == some .gt) = false := hg
        go_wp2_with (go_at_call 87; refine C1.out.mono ?_; rintro e w2 ⟨rfl, h2⟩)
        exact ⟨⟨k + 1, by omega, by go_num, by rw [X.out, hg]; rfl, by rw [X.out, hg]; rfl, below_trans Bl.out h2 Bl.out.size⟩, by simp [intOf]; omega⟩
      · have hg' : (FloatKind.f32.format.order x y == some .gt) = true := hg
        go_wp2_with (go_at_call 87; refine C1.out.mono ?_; rintro e w2 ⟨rfl, h2⟩)
        exact ⟨⟨k + 1, by omega, by go_num, by rw [X.out, hg]; rfl, by rw [X.out, hg]; rfl, below_trans Bl.out h2 Bl.out.size⟩, by simp [intOf]; omega⟩
    · obtain rfl : N = k + 1 := by omega
      go_wp2
      go_ret2
      exact ⟨rfl, Bl.out⟩
set_option maxHeartbeats 1000000 in
theorem c_implYearLight (B : Bld) (wf : WfB B) (a : Option Addr) (n ca : Nat) (H T : Nat → List Int) (f : Int) (w : World) (hok : SunsOk H T n) (hx : Rws w a n 48 (scs H T)) :
    Calls Try.prog 32 #[.agg (bcells B), .slice a n ca, .int .i64 f] w fun e w' => (∃ v, e = .returned (.tuple #[v, .int .i64 (ylC B H T n f)]) ∧ GotF w' w.heap.size v (ylL B H T n f)) ∧ Below w.heap.size w w' := by
  have HB0 : Hid ((w.alloc (.cells (bcells B) 30)).heap[w.heap.size]? = some (.cells (bcells B) 30 (0, 0))) := hid (blk_at _ _ _ rfl)
  have H0 : Hid (Below w.heap.size w (w.alloc (.cells (bcells B) 30))) := hid ((Below.refl _ _).alloc (Nat.le_refl _) _)
  have HZ0 := hid (size_blind B)
  have CF := hid (fun w => c_isFacing f w)
  have CW : ∀ w, Rws w a n 48 (scs H T) → Calls Try.prog 79 #[.agg (bcells B), .slice a n ca, .bool (inB f 0 255)] w fun e w' => e = .returned (.int .i64 (ylC B H T n f)) ∧ Below w.heap.size w w' := fun w hx => c_yearCode B wf a n ca H T (inB f 0 255) w hok hx
  have X := hid (hx.below H0.out)
  have CY := hid (fun w (h : ylC B H T n f = 0) (hx : Rws w a n 48 (scs H T)) => c_year B (OkB.of wf (ylC_zero h).1) (ylC_zero h).1 a n ca H T f (ylC_zero h).2.2.2.2 w hok hx (ylC_zero h).2.1)
  clear hok hx wf
  by_cases hz : ylC B H T n f = 0
  · rw [hz] at CW
    have CW2 := hid CW
    have hz2 := hid hz
    clear CW hz
    go_enter Try.func32, Try.ntmps32
    go_wp2_with fail
    refine wp_region_below (by kernel_rfl) (by kernel_rfl) ?_
    repeat (first | (refine wpQuiet_load_row rfl 30 _ rfl (w.heap.size) rfl 30 (bcells B) (0, 0) _ (fun wx hwx => (hwx.out.block _ (block_lt HB0.out)).trans HB0.out) Try.underlying30 rfl HZ0.out ?_) | (refine wpQuiet_step (fun K hK => ?_); go_simp; first | (refine hK _ ?_; clear hK K) | (refine ⟨_, fun _ _ => rfl, hK _ ?_⟩; clear hK K) | (apply Exists.intro; refine ⟨fun wx hwx => ?_, hK _ ?_⟩; (first | (with_reducible exact quiet_below_same hwx (CF.out _)) | (with_reducible exact quiet_below hwx (CW2.out _ (X.out.below hwx.out)))); clear hK K)))
    refine wpQuiet_nil ?_
    intro w2 h2
    replace h2 := h2.out
    have HC0 := hid ((h2.block _ (block_lt HB0.out)).trans HB0.out)
    have X2 := hid (X.out.below h2)
    have H2 := hid (below_trans H0.out h2 H0.out.size)
    clear h2
    have CY2 := hid (CY.out w2 hz2.out X2.out)
    go_wp2_with (first | (refine wpList_load_row rfl 30 _ rfl (w.heap.size) rfl 30 (bcells B) (0, 0) _ HC0.out Try.underlying30 rfl HZ0.out ?_) | (go_at_call 81; refine CY2.out.mono ?_; rintro e w3 ⟨⟨v, rfl, hv⟩, h3⟩))
    go_ret2
    refine ⟨⟨v, by rw [hz2.out]; rfl, ?_⟩, below_trans H2.out h3 H2.out.size⟩
    rw [ylL, if_pos hz2.out]; unfold GotF; rw [yearK_len]
    exact ownsRow_from hv (by have := H2.out.size; omega)
  · have hz2 : Hid (¬ ylC B H T n f = 0) := hid hz
    generalize hcv : ylC B H T n f = cv at *
    have CV := hid hcv
    have hne : (cv != 0) = true := by rw [bne_iff_ne]; exact hz
    have CW2 := hid CW
    clear CW hcv hz
    go_enter Try.func32, Try.ntmps32
    go_wp2_with fail
    refine wp_region_below (by kernel_rfl) (by kernel_rfl) ?_
    repeat (first | (refine wpQuiet_load_row rfl 30 _ rfl (w.heap.size) rfl 30 (bcells B) (0, 0) _ (fun wx hwx => (hwx.out.block _ (block_lt HB0.out)).trans HB0.out) Try.underlying30 rfl HZ0.out ?_) | (refine wpQuiet_step (fun K hK => ?_); go_simp; first | (refine hK _ ?_; clear hK K) | (refine ⟨_, fun _ _ => rfl, hK _ ?_⟩; clear hK K) | (apply Exists.intro; refine ⟨fun wx hwx => ?_, hK _ ?_⟩; (first | (with_reducible exact quiet_below_same hwx (CF.out _)) | (with_reducible exact quiet_below hwx (CW2.out _ (X.out.below hwx.out)))); clear hK K)))
    refine wpQuiet_nil ?_
    intro w2 h2
    replace h2 := h2.out
    have HC0 := hid ((h2.block _ (block_lt HB0.out)).trans HB0.out)
    have X2 := hid (X.out.below h2)
    have H2 := hid (below_trans H0.out h2 H0.out.size)
    clear h2
    go_wp2
    go_ret2
    exact ⟨⟨_, rfl, by rw [ylL, CV.out, if_neg hz2.out]; exact GotF.nil _ _⟩, H2.out⟩
def bmG (B : Bld) (H T : Nat → List Int) (f : Int) (i : Nat) : Nat := dayW B (H i) (T i) f
def bmI (B : Bld) (H T : Nat → List Int) (n : Nat) (f : Int) : Int := if ylC B H T n f = 0 then ((bestG (bmG B H T f) (n - 1)).1 : Int) else 0
def bmV (B : Bld) (H T : Nat → List Int) (n : Nat) (f : Int) : Nat := if ylC B H T n f = 0 then (bestG (bmG B H T f) (n - 1)).2 else 0
theorem fin_bmV {B : Bld} (wf : WfB B) (H T : Nat → List Int) (n : Nat) (f : Int) : isFin (bmV B H T n f) = true := by
  unfold bmV; split
  · next h =>
    obtain ⟨h1, h2, h3, _⟩ := ylC_zero h
    obtain ⟨e1, e2⟩ := bestG_at (bmG B H T f) (n - 1)
    rw [e2]
    exact (day_in (OkB.of wf h1) (okSs_at h2 (by omega)) f).fin
  · decide
theorem c_BestMonth1 (q g cap k n : Nat) (L : List Nat) (w : World) (hq : w.cell? ⟨q, 0, none⟩ = some (.slice (some ⟨g, 0, none⟩) n cap)) (hk : k < n) (_hn : n ≤ 1000) (hL : w.cell? ⟨g, k, none⟩ = some (.float .f32 (fat L k))) :
    Calls Try.prog 83 #[.int .i64 (k : Int), .pointer (some ⟨q, 0, none⟩)] w fun e w' => e = .returned (.float .f32 (fat L k)) ∧ w = w' := by
  have hkn : (k : Int) < (n : Int) := by omega
  go_enter Try.func83, Try.ntmps83
  go_wp2
  go_ret
  exact ⟨rfl, rfl⟩
set_option maxHeartbeats 1000000 in
theorem c_implBestMonth (B : Bld) (wf : WfB B) (a : Option Addr) (n ca : Nat) (H T : Nat → List Int) (f : Int) (w : World) (hok : SunsOk H T n) (hx : Rws w a n 48 (scs H T)) :
    Calls Try.prog 33 #[.agg (bcells B), .slice a n ca, .int .i64 f] w fun e w' => e = .returned (.tuple #[.int .i64 (bmI B H T n f), .float .f32 (bmV B H T n f), .int .i64 (ylC B H T n f)]) ∧ Below w.heap.size w w' := by
  have HB0 : Hid ((w.alloc (.cells (bcells B) 30)).heap[w.heap.size]? = some (.cells (bcells B) 30 (0, 0))) := hid (blk_at _ _ _ rfl)
  have H0 : Hid (Below w.heap.size w (w.alloc (.cells (bcells B) 30))) := hid ((Below.refl _ _).alloc (Nat.le_refl _) _)
  have HZ0 := hid (size_blind B)
  have X := hid (hx.below H0.out)
  have CY := hid (c_implYearLight B wf a n ca H T f _ hok X.out)
  clear hok hx wf X
  by_cases hz : ylC B H T n f = 0
  · have hz2 := hid hz
    rw [hz] at CY
    have hn := (ylC_zero hz).2.2.1
    have hn2 := (ylC_zero hz).2.2.2.1
    have EI := hid (show bmI B H T n f = ((bestG (fun i => fat (yearK B H T f n) i) (n - 1)).1 : Int) by rw [bmI, if_pos hz, bestG_congr (G' := fun i => fat (yearK B H T f n) i) (fun i hi => by show _ = fat _ _; rw [yearK_at _ _ _ _ (by omega)]; rfl)])
    have EV := hid (show bmV B H T n f = (bestG (fun i => fat (yearK B H T f n) i) (n - 1)).2 by rw [bmV, if_pos hz, bestG_congr (G' := fun i => fat (yearK B H T f n) i) (fun i hi => by show _ = fat _ _; rw [yearK_at _ _ _ _ (by omega)]; rfl)])
    have EL := hid (show ylL B H T n f = yearK B H T f n by rw [ylL, if_pos hz])
    have EN := hid (yearK_len B H T f n)
    clear hz
    go_enter Try.func33, Try.ntmps33
    go_wp2_with (refine wpList_load_row rfl 30 _ rfl (w.heap.size) rfl 30 (bcells B) (0, 0) _ HB0.out Try.underlying30 rfl HZ0.out ?_)
    refine CY.out.mono ?_
    rintro e w2 ⟨⟨v, rfl, hv⟩, h2⟩
    have H2 := hid (below_trans H0.out h2 H0.out.size)
    clear h2
    rw [EL.out] at hv
    generalize yearK B H T f n = L at *
    unfold GotF at hv
    rw [EN.out] at hv
    rcases hv.2 with e | ⟨g, cap, cur, e, hlo, hblk, _⟩
    · exfalso; have := e.2; omega
    · subst e
      have GL := hid (block_lt hblk)
      have CE := hid (fun k (hk : k < n) => show w2.cell? ⟨g, k, none⟩ = some (.float .f32 (fat L k)) by rw [hv.cellAt k (by omega)]; exact f32_at (by have := EN.out; omega))
      clear hv hblk hlo
      have H3 := hid (H2.out.alloc H2.out.size (.cells #[.slice (some ⟨g, 0, none⟩) n cap] 24))
      have CG := hid (c_greatest_m (.pointer (some ⟨w2.heap.size, 0, none⟩)) (fun i => fat L i) n hn (by omega) (w2.alloc (.cells #[.slice (some ⟨g, 0, none⟩) n cap] 24)) (fun k w' hk hb => (c_BestMonth1 w2.heap.size g cap k n L w' (cell_stays hb (by rw [World.cell?_alloc_new]; rfl)) hk (by omega) (cell_stays hb (by rw [World.cell?_alloc_past _ _ _ GL.out]; exact CE.out k hk))).mono fun _ _ ⟨h1, h2⟩ => ⟨h1, h2 ▸ Below.refl _ _⟩))
      go_wp2_with (go_at_call 82; refine CG.out.mono ?_; rintro e w3 ⟨rfl, h3⟩)
      go_ret3
      exact ⟨by rw [hz2.out, EI.out, EV.out]; rfl, below_trans H3.out h3 H3.out.size⟩
  · have hz2 : Hid (¬ ylC B H T n f = 0) := hid hz
    generalize hcv : ylC B H T n f = cv at *
    have CV := hid hcv
    have hne : (cv != 0) = true := by rw [bne_iff_ne]; exact hz
    clear hcv hz
    go_enter Try.func33, Try.ntmps33
    go_wp2_with (refine wpList_load_row rfl 30 _ rfl (w.heap.size) rfl 30 (bcells B) (0, 0) _ HB0.out Try.underlying30 rfl HZ0.out ?_)
    refine CY.out.mono ?_
    rintro e w2 ⟨⟨v, rfl, hv⟩, h2⟩
    have H2 := hid (below_trans H0.out h2 H0.out.size)
    clear h2
    obtain ⟨p1, p2, p3, rfl⟩ : ∃ p1 p2 p3, v = .slice p1 p2 p3 := by
      rcases hv.2 with e | ⟨g, cap, cur, e, _⟩
      · exact ⟨_, _, _, e.1⟩
      · exact ⟨_, _, _, e⟩
    clear hv
    go_wp2
    go_ret3
    exact ⟨by rw [bmI, bmV, CV.out, if_neg hz2.out, if_neg hz2.out]; rfl, H2.out.alloc H2.out.size _⟩
set_option maxHeartbeats 1000000 in
theorem c_specBestMonth (B : Bld) (wf : WfB B) (a : Option Addr) (n ca : Nat) (H T : Nat → List Int) (f : Int) (w : World) (hok : SunsOk H T n) (hx : Rws w a n 48 (scs H T)) :
    Calls Try.prog 34 #[.agg (bcells B), .slice a n ca, .int .i64 f] w fun e w' => e = .returned (.tuple #[.int .i64 (bmI B H T n f), .float .f32 (bmV B H T n f), .int .i64 (ylC B H T n f)]) ∧ Below w.heap.size w w' := by
  have HB0 : Hid ((w.alloc (.cells (bcells B) 30)).heap[w.heap.size]? = some (.cells (bcells B) 30 (0, 0))) := hid (blk_at _ _ _ rfl)
  have H0 : Hid (Below w.heap.size w (w.alloc (.cells (bcells B) 30))) := hid ((Below.refl _ _).alloc (Nat.le_refl _) _)
  have CF := hid (fun w => c_l01Faced f w)
  have X := hid (hx.below H0.out)
  have CW : Calls Try.prog 84 #[.pointer (some ⟨w.heap.size, 0, none⟩), .slice a n ca, .bool (inB f 0 255)] (w.alloc (.cells (bcells B) 30)) fun e w' => e = .returned (.int .i64 (ylC B H T n f)) ∧ (w.alloc (.cells (bcells B) 30)) = w' := c_l07Year B wf w.heap.size 0 a n ca H T (inB f 0 255) _ (BldAt.of_block HB0.out) hok X.out
  have CD := hid (fun (h : ylC B H T n f = 0) k (hk : k < n) c q b o w hA hS => show Calls Try.prog 86 #[.pointer (some ⟨c, q, none⟩), .pointer (some ⟨b, o, none⟩), .int .i64 f] w fun e w' => e = .returned (.float .f32 (bmG B H T f k)) ∧ Below w.heap.size w w' from c_l07Day B (OkB.of wf (ylC_zero h).1) c q b o (H k) (T k) f w hA hS (okSs_at (ylC_zero h).2.1 hk) (ylC_zero h).2.2.2.2)
  have OK := hid hok
  clear hok hx wf
  by_cases hz : ylC B H T n f = 0
  · rw [hz] at CW
    have CW2 := hid CW
    have hz2 := hid hz
    have hn := (ylC_zero hz).2.2.1
    have hn2 := (ylC_zero hz).2.2.2.1
    have EI := hid (show bmI B H T n f = ((bestG (bmG B H T f) (n - 1)).1 : Int) by rw [bmI, if_pos hz])
    have EV := hid (show bmV B H T n f = (bestG (bmG B H T f) (n - 1)).2 by rw [bmV, if_pos hz])
    obtain ⟨b, o, rfl, hc⟩ := X.out.at_ (by omega)
    have RR := hid hc
    have S0 := hid (show SunAt (w.alloc (.cells (bcells B) 30)) b o (H 0) (T 0) by have := sun_of_range OK.out (by omega) (hc 0 (by omega)); simpa using this)
    have C0 := hid (CD.out hz 0 (by omega) _ _ _ _ _ (BldAt.of_block HB0.out) S0.out)
    have hn0 : (0 : Int) < (n : Int) := by omega
    have hn1 : 0 < n := by omega
    clear CW hz hc
    generalize bmG B H T f = G at *
    have G0 : Hid (bestG G 0 = (0, G 0)) := hid rfl
    go_enter Try.func34, Try.ntmps34
    go_wp2_with (first | (go_at_call 85; refine (CF.out _).mono ?_; rintro e w' ⟨rfl, rfl⟩) | (go_at_call 84; refine CW2.out.mono ?_; rintro e w' ⟨rfl, rfl⟩) | (go_at_call 86; refine C0.out.mono ?_; rintro e w1 ⟨rfl, h1⟩))
    go_loopw [10, 11, 12] (fun bb m i wr => ∃ k : Nat, k + 1 ≤ n ∧ i = .int .i64 ((k + 1 : Nat) : Int) ∧ bb = .int .i64 ((bestG G k).1 : Int) ∧ m = .float .f32 (bestG G k).2 ∧ Below (w.alloc (.cells (bcells B) 30)).heap.size (w.alloc (.cells (bcells B) 30)) wr) (fun _ _ i _ => n - (intOf i).toNat)
    case atStart => exact ⟨0, by omega, rfl, by rw [G0.out]; rfl, by rw [G0.out], h1⟩
    case round =>
      obtain ⟨k, hk, rfl, rfl, rfl, hb⟩ := hrel
      have Bl := hid hb
      clear hb h1
      by_cases hlt : k + 1 < n
      · have S1 := hid ((sun_of_range OK.out hlt (RR.out (k + 1) hlt)).below Bl.out)
        have C1 := hid (CD.out hz2.out (k + 1) hlt _ _ _ _ _ (BldAt.of_block ((Bl.out.block _ (block_lt HB0.out)).trans HB0.out)) S1.out)
        have XX := hid (bestG_succ G k)
        have hki : ((k + 1 : Nat) : Int) < (n : Int) := by omega
        generalize G (k + 1) = x at *
        generalize hq : bestG G k = q at *
        obtain ⟨i0, y⟩ := q
        have Q := hid hq
        clear hq
        simp only at XX ⊢
        cases hg : fGt x y
        · have hg' : (FloatKind.f32.format.order x y == some .gt) = false := hg
          go_wp2_with (go_at_call 86; refine C1.out.mono ?_; rintro e w2 ⟨rfl, h2⟩)
          exact ⟨⟨k + 1, by omega, by go_num, by rw [XX.out, hg]; rfl, by rw [XX.out, hg]; rfl, below_trans Bl.out h2 Bl.out.size⟩, by simp [intOf]; omega⟩
        · have hg' : (FloatKind.f32.format.order x y == some .gt) = true := hg
          go_wp2_with (go_at_call 86; refine C1.out.mono ?_; rintro e w2 ⟨rfl, h2⟩)
          exact ⟨⟨k + 1, by omega, by go_num, by rw [XX.out, hg]; rfl, by rw [XX.out, hg]; rfl, below_trans Bl.out h2 Bl.out.size⟩, by simp [intOf]; omega⟩
      · obtain rfl : n = k + 1 := by omega
        go_wp2
        go_ret3
        exact ⟨by rw [hz2.out, EI.out, EV.out]; rfl, below_trans H0.out Bl.out H0.out.size⟩
  · have hz2 : Hid (¬ ylC B H T n f = 0) := hid hz
    generalize hcv : ylC B H T n f = cv at *
    have CV := hid hcv
    have hne : (cv != 0) = true := by rw [bne_iff_ne]; exact hz
    have CW2 := hid CW
    clear CW hcv hz
    go_enter Try.func34, Try.ntmps34
    go_wp2_with (first | (go_at_call 85; refine (CF.out _).mono ?_; rintro e w' ⟨rfl, rfl⟩) | (go_at_call 84; refine CW2.out.mono ?_; rintro e w' ⟨rfl, rfl⟩))
    go_ret3
    exact ⟨by rw [bmI, bmV, CV.out, if_neg hz2.out, if_neg hz2.out]; rfl, H0.out⟩
end Go.Proofs.Ytboddpifepegcaa
