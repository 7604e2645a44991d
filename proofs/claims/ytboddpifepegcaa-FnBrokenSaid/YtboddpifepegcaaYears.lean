/- Walks of YearLight, both sides. -/
import Derived.Test.YtboddpifepegcaaYear
namespace Go.Proofs.Ytboddpifepegcaa
set_option maxRecDepth 20000
open Go.RowKit

def yearK (B : Bld) (H T : Nat → List Int) (f : Int) (k : Nat) : List Nat := (List.range k).map fun i => dayW B (H i) (T i) f
theorem yearK_succ (B : Bld) (H T : Nat → List Int) (f : Int) (k : Nat) : yearK B H T f (k + 1) = yearK B H T f k ++ [dayW B (H k) (T k) f] := by simp [yearK, List.range_succ]
theorem yearK_len (B : Bld) (H T : Nat → List Int) (f : Int) (k : Nat) : (yearK B H T f k).length = k := by simp [yearK]
theorem yearK_at (B : Bld) (H T : Nat → List Int) (f : Int) {k i : Nat} (h : i < k) : fat (yearK B H T f k) i = dayW B (H i) (T i) f := by simp [yearK, fat, h]
def ylC (B : Bld) (H T : Nat → List Int) (n : Nat) (f : Int) : Int := yrC (okB B && okSs H T n) n (inB f 0 255)
def ylL (B : Bld) (H T : Nat → List Int) (n : Nat) (f : Int) : List Nat := if ylC B H T n f = 0 then yearK B H T f n else []
theorem ylC_zero {B : Bld} {H T : Nat → List Int} {n : Nat} {f : Int} (h : ylC B H T n f = 0) : okB B = true ∧ okSs H T n = true ∧ 1 ≤ n ∧ n ≤ 12 ∧ 0 ≤ f ∧ f ≤ 255 := by
  obtain ⟨h1, h2, h3, h4⟩ := yrC_zero h
  simp only [Bool.and_eq_true] at h1
  exact ⟨h1.1, h1.2, h2, h3, by simpa [inB] using h4⟩
theorem ylL_len (B : Bld) (H T : Nat → List Int) (n : Nat) (f : Int) : (ylL B H T n f).length ≤ 99 := by
  unfold ylL; split
  · next h => have := ylC_zero h; rw [yearK_len]; omega
  · simp
theorem ylL_word {B : Bld} (wf : WfB B) (H T : Nat → List Int) (n : Nat) (f : Int) : ∀ k, k < (ylL B H T n f).length → fat (ylL B H T n f) k < 4294967296 := by
  unfold ylL; split
  · next h =>
    obtain ⟨h1, h2, _⟩ := ylC_zero h
    intro k hk
    rw [yearK_len] at hk
    rw [yearK_at _ _ _ _ hk]
    exact (day_in (OkB.of wf h1) (okSs_at h2 hk) f).word
  · intro k hk; simp at hk
theorem z48 {w : World} : (w.alloc (.cells (scells z24 z24) 59)).heap[w.heap.size]? = some (.cells (scells z24 z24) 59 (0, 0)) := blk_at _ _ _ rfl
set_option maxHeartbeats 1000000 in
theorem c_yearCode (B : Bld) (wf : WfB B) (a : Option Addr) (n ca : Nat) (H T : Nat → List Int) (r : Bool) (w : World) (hok : SunsOk H T n) (hx : Rws w a n 48 (scs H T)) :
    Calls Try.prog 79 #[.agg (bcells B), .slice a n ca, .bool r] w fun e w' => e = .returned (.int .i64 (yrC (okB B && okSs H T n) n r)) ∧ Below w.heap.size w w' := by
  have HB0 : Hid ((w.alloc (.cells (bcells B) 30)).heap[w.heap.size]? = some (.cells (bcells B) 30 (0, 0))) := hid (blk_at _ _ _ rfl)
  have H0 : Hid (Below w.heap.size w (w.alloc (.cells (bcells B) 30))) := hid ((Below.refl _ _).alloc (Nat.le_refl _) _)
  have HZ0 := hid (size_blind B)
  have CB := hid (fun w => c_ValidBlind B wf w)
  have hn := hx.small
  have X := hid hx
  have OK := hid hok
  clear hok hx wf
  go_enter Try.func79, Try.ntmps79
  go_wp2
  go_loopw [11] (fun i wr => ∃ k : Nat, k ≤ n ∧ i = .int .i64 k ∧ (∀ j, j < k → okS (H j) (T j) = true) ∧ Below (w.alloc (.cells (bcells B) 30)).heap.size (w.alloc (.cells (bcells B) 30)) wr) (fun i _ => n - (intOf i).toNat)
  case atStart => exact ⟨0, by omega, rfl, by omega, Below.refl _ _⟩
  case round =>
    obtain ⟨k, hk, rfl, hall, hb⟩ := hrel
    have Hall := hid hall
    have Bl := hid hb
    have BW := hid (below_trans H0.out hb H0.out.size)
    clear hall hb
    by_cases hlt : k < n
    · obtain ⟨b, o, rfl, hc⟩ := (X.out.below BW.out).at_ (by omega)
      have R := hid (hc k hlt)
      have C1 := hid (fun w => c_ValidSun (H k) (T k) (OK.out k hlt).1 (OK.out k hlt).2.1 w (OK.out k hlt).2.2.1 (OK.out k hlt).2.2.2)
      have S1 : Hid ((Try.prog.info? 59).map (·.size) = some (scs H T k).length) := hid (by rw [scs_len OK.out hlt]; kernel_rfl)
      have S2 : Hid ((Try.prog.info? 59).map (·.size) = some (scells (H k) (T k)).size) := hid (by rw [scells_size (OK.out k hlt).1 (OK.out k hlt).2.1]; kernel_rfl)
      have S3 : Hid ((scells z24 z24).size = (scells (H k) (T k)).size) := hid (by rw [scells_size (by simp [z24]) (by simp [z24]), scells_size (OK.out k hlt).1 (OK.out k hlt).2.1])
      have ZA := hid (z48 (w := wr))
      have ZB := hid (blk_row_same _ _ (scells z24 z24) (scells (H k) (T k)) _ _ ZA.out)
      have B2 := hid (below_setRow (Bl.out.alloc Bl.out.size (.cells (scells z24 z24) 59)) (g := wr.heap.size) Bl.out.size (scells (H k) (T k)))
      clear hc
      cases e2 : okS (H k) (T k)
      all_goals
        rw [e2] at C1
        go_wp2_with (first | (refine wpList_load_mid rfl 59 _ rfl b (o + k * 48) rfl (scs H T k) _ R.out Try.underlying59 rfl S1.out ?_) | (refine wpList_store_row rfl 59 _ _ rfl wr.heap.size (scells (H k) (T k)) rfl rfl 59 (scells z24 z24) ZA.out S2.out S3.out (scells_one _ _) ?_) | (refine wpList_load_row rfl 59 _ rfl wr.heap.size rfl 59 (scells (H k) (T k)) (0, 0) _ ZB.out Try.underlying59 rfl S2.out ?_) | (go_at_call 109; refine (C1.out _).mono ?_; rintro e w1 ⟨rfl, h1⟩; have B3 := hid (below_trans B2.out h1 B2.out.size); clear h1))
      · go_ret
        exact ⟨ret_int (by rw [okSs_no hlt e2, Bool.and_false]; rfl), below_trans H0.out B3.out H0.out.size⟩
      · refine ⟨⟨k + 1, by omega, by go_num, fun j hj => ?_, B3.out⟩, by simp [intOf]; omega⟩
        rcases Nat.lt_or_ge j k with h | h
        · exact Hall.out j h
        · obtain rfl : j = k := by omega
          exact e2
    · obtain rfl : k = n := by omega
      have E := hid (okSs_yes Hall.out)
      have HB1 := hid ((Bl.out.block _ (block_lt HB0.out)).trans HB0.out)
      have CI := hid (fun w => c_within (k : Int) 1 12 w)
      cases e1 : okB B
      · rw [e1] at CB
        go_wp2_with (first | (refine wpList_load_row rfl 30 _ rfl w.heap.size rfl 30 (bcells B) (0, 0) _ HB1.out Try.underlying30 rfl HZ0.out ?_) | (go_at_call 61; refine (CB.out _).mono ?_; rintro e w1 ⟨rfl, h1⟩; have B3 := hid (below_trans BW.out h1 BW.out.size); clear h1))
        go_ret
        exact ⟨ret_int (by simp [yrC, e1]), B3.out⟩
      · rw [e1] at CB
        by_cases hr : 1 ≤ k ∧ k ≤ 12
        · rw [in_n hr] at CI
          have HR := hid hr
          cases r
          all_goals
            go_wp2_with (first | (refine wpList_load_row rfl 30 _ rfl w.heap.size rfl 30 (bcells B) (0, 0) _ HB1.out Try.underlying30 rfl HZ0.out ?_) | (go_at_call 61; refine (CB.out _).mono ?_; rintro e w1 ⟨rfl, h1⟩; have B3 := hid (below_trans BW.out h1 BW.out.size); clear h1) | (go_at_call 62; refine (CI.out _).mono ?_; rintro e w' ⟨rfl, rfl⟩))
            go_ret
            exact ⟨ret_int (by rw [E.out, e1, yrC]; simp only [Bool.and_self, if_true]; rw [if_pos HR.out]; try rfl), B3.out⟩
        · rw [out_n hr] at CI
          have HR := hid hr
          go_wp2_with (first | (refine wpList_load_row rfl 30 _ rfl w.heap.size rfl 30 (bcells B) (0, 0) _ HB1.out Try.underlying30 rfl HZ0.out ?_) | (go_at_call 61; refine (CB.out _).mono ?_; rintro e w1 ⟨rfl, h1⟩; have B3 := hid (below_trans BW.out h1 BW.out.size); clear h1) | (go_at_call 62; refine (CI.out _).mono ?_; rintro e w' ⟨rfl, rfl⟩))
          go_ret
          exact ⟨ret_int (by rw [E.out, e1, yrC]; simp only [Bool.and_self, if_true]; rw [if_neg HR.out]), B3.out⟩
set_option maxHeartbeats 1000000 in
theorem c_year (B : Bld) (hB : OkB B) (b0 : okB B = true) (a : Option Addr) (n ca : Nat) (H T : Nat → List Int) (f : Int) (hf : 0 ≤ f ∧ f ≤ 255) (w : World) (hok : SunsOk H T n) (hx : Rws w a n 48 (scs H T)) (hs2 : okSs H T n = true) :
    Calls Try.prog 81 #[.agg (bcells B), .slice a n ca, .int .i64 f] w fun e w' => (∃ v, e = .returned v ∧ w'.ownsRow (w.heap.size + 1) 27 1 v n ((yearK B H T f n).map (Value.float .f32))) ∧ Below w.heap.size w w' := by
  have HB0 : Hid ((w.alloc (.cells (bcells B) 30)).heap[w.heap.size]? = some (.cells (bcells B) 30 (0, 0))) := hid (blk_at _ _ _ rfl)
  have H0 : Hid (Below w.heap.size w (w.alloc (.cells (bcells B) 30))) := hid ((Below.refl _ _).alloc (Nat.le_refl _) _)
  have HZ0 := hid (size_blind B)
  have CP := hid (fun k (hk : k < n) w => c_implPassDay B hB b0 (H k) (T k) (hok k hk).1 (hok k hk).2.1 (hok k hk).2.2.1 (hok k hk).2.2.2 (okSs_at hs2 hk) f hf w)
  have hn := hx.small
  have X := hid hx
  have OK := hid hok
  obtain ⟨i0, hi, hz0, hz1, hz2⟩ := info_parts info_f32
  have HI := hid hi
  have HF0 := hid hz0
  have HF1 := hid hz1
  have HF2 := hid hz2
  clear hok hx hs2 hf hB b0 hi hz0 hz1 hz2
  go_enter Try.func81, Try.ntmps81
  go_wp2
  go_loopw [7, 15] (fun v i wr => ∃ k : Nat, k ≤ n ∧ i = .int .i64 k ∧ wr.ownsRow (w.heap.size + 1) 27 1 v k ((yearK B H T f k).map (Value.float .f32)) ∧ Below (w.heap.size + 1) (w.alloc (.cells (bcells B) 30)) wr) (fun _ i _ => n - (intOf i).toNat)
  case atStart => exact ⟨0, by omega, rfl, by have := owns_empty (w.alloc (.cells (bcells B) 30)) 27; simpa [yearK] using this, (Below.refl _ _).alloc (by simp) _⟩
  case round =>
    obtain ⟨k, hk, rfl, hown, hb⟩ := hrel
    have O := hid hown
    have BE := hid hb
    have BW := hid (H0.out.trans (hb.mono (by omega)))
    clear hown hb
    by_cases hlt : k < n
    · obtain ⟨b, o, rfl, hc⟩ := (X.out.below BW.out).at_ (by omega)
      have R := hid (hc k hlt)
      have C1 := hid (CP.out k hlt)
      have S1 : Hid ((Try.prog.info? 59).map (·.size) = some (scs H T k).length) := hid (by rw [scs_len OK.out hlt]; kernel_rfl)
      have S2 : Hid ((Try.prog.info? 59).map (·.size) = some (scells (H k) (T k)).size) := hid (by rw [scells_size (OK.out k hlt).1 (OK.out k hlt).2.1]; kernel_rfl)
      have S3 : Hid ((scells z24 z24).size = (scells (H k) (T k)).size) := hid (by rw [scells_size (by simp [z24]) (by simp [z24]), scells_size (OK.out k hlt).1 (OK.out k hlt).2.1])
      have B1 : Hid (Below (w.alloc (.cells (bcells B) 30)).heap.size (w.alloc (.cells (bcells B) 30)) wr) := hid (by have := BE.out; simpa using this)
      have ZA := hid (z48 (w := wr))
      have ZB := hid (blk_row_same _ _ (scells z24 z24) (scells (H k) (T k)) _ _ ZA.out)
      have D2 : Hid (Below wr.heap.size wr ((wr.alloc (.cells (scells z24 z24) 59)).setRow wr.heap.size (scells (H k) (T k)))) := hid (below_setRow ((Below.refl _ _).alloc (Nat.le_refl _) _) (Nat.le_refl _) _)
      have HB1 := hid ((B1.out.block _ (block_lt HB0.out)).trans HB0.out)
      have HB2 := hid ((D2.out.block _ (block_lt HB1.out)).trans HB1.out)
      clear hc
      generalize hxx : dayW B (H k) (T k) f = x at *
      have XX := hid hxx
      clear hxx
      go_wp2_with (first | (refine wpList_load_mid rfl 59 _ rfl b (o + k * 48) rfl (scs H T k) _ R.out Try.underlying59 rfl S1.out ?_) | (refine wpList_store_row rfl 59 _ _ rfl wr.heap.size (scells (H k) (T k)) rfl rfl 59 (scells z24 z24) ZA.out S2.out S3.out (scells_one _ _) ?_) | (refine wpList_load_row rfl 59 _ rfl wr.heap.size rfl 59 (scells (H k) (T k)) (0, 0) _ ZB.out Try.underlying59 rfl S2.out ?_) | (refine wpList_load_row rfl 30 _ rfl w.heap.size rfl 30 (bcells B) (0, 0) _ HB2.out Try.underlying30 rfl HZ0.out ?_) | (go_at_call 37; refine (C1.out _).mono ?_; rintro e w2 ⟨rfl, h2⟩; have D3 := hid (below_trans D2.out h2 D2.out.size); clear h2) | (at_builtin; refine wpList_append_own _ rfl _ _ 24 rfl (w.heap.size + 1) 27 i0 (.float .f32 0) 1 4 Try.underlying24 HI.out HF0.out HF1.out HF2.out rfl (by decide) _ _ _ rfl ((ownsRow_below O.out D3.out).alloc _) ⟨w2.heap.size, 0, none⟩ 1 1 [.float .f32 x] rfl rfl (one_at _ _ _) (one_cell _) (by unfold maxLen; omega) (by omega) (by have e1 := D3.out.size; have e2 := BE.out.size; simp at e2 ⊢; omega) ?_; intro v' w3 hown' hgrow _))
      have O1 := hid hown'
      have B3 : Hid (Below (w.heap.size + 1) (w.alloc (.cells (bcells B) 30)) w2) := hid (BE.out.trans (D3.out.mono (by have := BE.out.size; simp at this; omega)))
      have B4 := hid (append_below2 B3.out (by have := B3.out.size; simp at this; omega) (ownsRow_below O.out D3.out) hgrow)
      clear hown' hgrow
      go_wp2
      exact ⟨⟨k + 1, by omega, by go_num, by rw [yearK_succ, List.map_append, XX.out]; exact O1.out, B4.out⟩, by simp [intOf]; omega⟩
    · obtain rfl : k = n := by omega
      go_wp2
      go_ret
      exact ⟨⟨_, rfl, O.out⟩, BW.out⟩
end Go.Proofs.Ytboddpifepegcaa
