/- The text of a plan: the reference's side. -/
import Derived.Test.YtdcjoafagalejaaDoorPText
namespace Go.Proofs.YtdcjoafagalejaaDoor
set_option maxRecDepth 20000
open Go.RowKit

set_option maxHeartbeats 4000000 in
theorem c_l07Text (p : List Int) (b : Nat) (w : World) (hc : ∀ k, k < 24 → w.cell? ⟨b, k, none⟩ = some (.int .i16 (iat p k))) (hp : ∀ k, k < 24 → -64 ≤ iat p k ∧ iat p k ≤ 64) :
    Calls Tryd.prog 34 #[.pointer (some ⟨b, 0, none⟩)] w fun e w' => e = .returned (txt (Lib.join (runW p 24).2 [32])) ∧ Below w.heap.size w w' := by
  have HC := hid hc
  have TI := hid hp
  clear hc hp
  go_enter Tryd.func34, Tryd.ntmps34
  go_wp2_with fail
  go_loopw [3, 4, 5] (fun o f h wr => ∃ k : Nat, k ≤ 24 ∧ h = .int .i64 ((k + 1 : Nat) : Int) ∧ f = .int .i64 ((runW p k).1 : Int) ∧ o = txt (Lib.join (runW p k).2 [32]) ∧ Below w.heap.size w wr) (fun _ _ h _ => 25 - (intOf h).toNat)
  case atStart => exact ⟨0, by omega, rfl, rfl, rfl, Below.refl _ _⟩
  case round =>
    obtain ⟨k, hk, rfl, rfl, rfl, hbel⟩ := hrel
    have BE := hid hbel
    clear hbel
    by_cases hlt : k < 24
    · obtain ⟨hfk, hiv⟩ := runW_inv p k hlt
      have cells : ∀ j, j < 24 → wr.cell? ⟨b, j, none⟩ = some (.int .i16 (iat p j)) := fun j hj => cell_stays BE.out (HC.out j hj)
      have q3 := cells (runW p k).1 (by omega)
      have tk := TI.out (runW p k).1 (by omega)
      have hf24 : ((runW p k).1 : Int) < 24 := by omega
      clear hiv
      have JL := hid (join_short (runW p k).2 (runW_words (fun j hj => by have := TI.out j hj; omega) k hk))
      have WL := hid (runW_len p k)
      have hj0 : (Lib.join (runW p k).2 [32]).length ≤ 43 * 24 := by have h1 := JL.out; have h2 := WL.out; omega
      have JN : Hid ((runW p k).2 = [] → Lib.join ((runW p k).2 ++ [wordOf (k + 1 - (runW p k).1) (iat p (runW p k).1)]) [32] = wordOf (k + 1 - (runW p k).1) (iat p (runW p k).1)) := hid (fun h => by rw [h, List.nil_append, Lib.join_one])
      have JS : Hid ((runW p k).2 ≠ [] → Lib.join ((runW p k).2 ++ [wordOf (k + 1 - (runW p k).1) (iat p (runW p k).1)]) [32] = Lib.join (runW p k).2 [32] ++ ([32] ++ wordOf (k + 1 - (runW p k).1) (iat p (runW p k).1))) := hid (join_snoc _ _)
      have J0 : Hid ((runW p k).2 = [] → Lib.join (runW p k).2 [32] = []) := hid (fun h => by rw [h]; rfl)
      have RF := hid (runW_none p k)
      by_cases hfl : k + 1 = 24 ∨ iat p (k + 1) ≠ iat p (runW p k).1
      · have R := hid (runW_yes hfl)
        have GD : Hid ((k + 1 = 24) ∨ (k + 1 < 24 ∧ iat p (k + 1) ≠ iat p (runW p k).1)) := hid (by omega)
        clear hfl
        have C1 : Hid (∀ w2, Calls Tryd.prog 60 #[.int .i64 ((k + 1 - (runW p k).1 : Nat) : Int)] w2 fun e w' => e = .returned (txt (Lib.decDigits (k + 1 - (runW p k).1))) ∧ Below w2.heap.size w2 w') := hid (fun w2 => c_Decimal _ w2 (by omega))
        have C2 : Hid (∀ w2, Calls Tryd.prog 61 #[.int .i64 (iat p (runW p k).1)] w2 fun e w' => e = .returned (txt (Lib.itoa (iat p (runW p k).1))) ∧ Below w2.heap.size w2 w') := hid (fun w2 => c_l01Signed _ (by omega) w2)
        have hd0 : (Lib.decDigits (k + 1 - (runW p k).1)).length ≤ 20 := decDigits_short (by omega)
        have hi0 : (Lib.itoa (iat p (runW p k).1)).length ≤ 21 := itoa_short (by omega)
        have k1 : IntKind.i64.wrap ((k : Int) + 1 - ((runW p k).1 : Int)) = ((k + 1 - (runW p k).1 : Nat) : Int) := by rw [IntWalk.i64_in] <;> omega
        have k2 : IntKind.i64.wrap (iat p (runW p k).1) = iat p (runW p k).1 := by rw [IntWalk.i64_in] <;> omega
        have WD : Hid (wordOf (k + 1 - (runW p k).1) (iat p (runW p k).1) = Lib.decDigits (k + 1 - (runW p k).1) ++ ([120] ++ Lib.itoa (iat p (runW p k).1))) := hid rfl
        generalize Lib.decDigits (k + 1 - (runW p k).1) = ds at *
        generalize hit : Lib.itoa (iat p (runW p k).1) = it at *
        clear hit
        generalize hjs : Lib.join (runW p k).2 [32] = js at *
        clear hjs
        have hc1 : ¬ (9223372036854775807 < ds.length + 1) := by omega
        have hc2 : ¬ (9223372036854775807 < ds.length + 1 + it.length) := by omega
        have hc3 : ¬ (9223372036854775807 < js.length + (ds.length + 1 + it.length)) := by omega
        have hc4 : ¬ (9223372036854775807 < js.length + 1) := by omega
        have hc5 : ¬ (9223372036854775807 < js.length + 1 + (ds.length + 1 + it.length)) := by omega
        clear hj0 hd0 hi0 JL WL
        have BEN : Hid (∀ nq, Below w.heap.size w (wr.drewN nq)) := hid (fun nq => below_drawn BE.out nq)
        generalize (runW p k).1 = f at *
        generalize (runW p k).2 = ws at *
        rcases GD.out with h24 | ⟨h24, he⟩
        · have H24 := hid h24
          have h25 : decide ((k : Int) + 1 < 24) = false := by simp; omega
          clear h24 cells
          by_cases h0 : f = 0
          · have N0 := hid (RF.out.2 h0)
            have JZ := hid (J0.out N0.out)
            have hg0 : ¬ (0 < (f : Int)) := by omega
            clear h0
            go_wp2_with fail
            go_quiet (fail)
            go_wp2_with fail
            go_region_law (first | (go_simp; go_at_call 60; refine (C1.out _).mono ?_; rintro e w2 ⟨rfl, h2⟩; have D1 := hid (below_trans (below_drawn (Below.refl _ _) _) h2 (Nat.le_refl _)); have q4 := cell_stays D1.out q3; have D2 := hid (below_trans BE.out D1.out BE.out.size); clear h2) | (go_simp; go_at_call 61; refine (C2.out _).mono ?_; rintro e w3 ⟨rfl, h3⟩; have D3 := hid (below_trans D2.out h3 D2.out.size); clear h3))
            all_goals
              go_wp2
              refine ⟨⟨k + 1, by omega, by go_num, by rw [R.out]; go_num, ?_, D3.out⟩, by simp [intOf]; omega⟩
              rw [R.out]
              rw [JZ.out, JN.out N0.out, WD.out]
              simp [cat_bytes, List.append_assoc]
          · have N0 : Hid (ws ≠ []) := hid (fun h => h0 (RF.out.1 h))
            have hg0 : 0 < (f : Int) := by omega
            clear h0
            go_wp2_with fail
            go_quiet (fail)
            go_wp2_with fail
            go_region_law (first | (go_simp; go_at_call 60; refine (C1.out _).mono ?_; rintro e w2 ⟨rfl, h2⟩; have D1 := hid (below_trans (below_drawn (Below.refl _ _) _) h2 (Nat.le_refl _)); have q4 := cell_stays D1.out q3; have D2 := hid (below_trans BE.out D1.out BE.out.size); clear h2) | (go_simp; go_at_call 61; refine (C2.out _).mono ?_; rintro e w3 ⟨rfl, h3⟩; have D3 := hid (below_trans D2.out h3 D2.out.size); clear h3))
            all_goals
              go_wp2
              refine ⟨⟨k + 1, by omega, by go_num, by rw [R.out]; go_num, ?_, D3.out⟩, by simp [intOf]; omega⟩
              rw [R.out]
              rw [JS.out N0.out, WD.out]
              simp [cat_bytes, List.append_assoc]
        · have q1 := cells (k + 1) (by omega)
          have he2 : (iat p (k + 1) == iat p f) = false := by simp [he]
          have h25 : decide ((k : Int) + 1 < 24) = true := by simp; omega
          clear cells he
          generalize iat p (k + 1) = y at *
          by_cases h0 : f = 0
          · have N0 := hid (RF.out.2 h0)
            have JZ := hid (J0.out N0.out)
            have hg0 : ¬ (0 < (f : Int)) := by omega
            clear h0
            go_wp2_with fail
            go_quiet (fail)
            go_wp2_with fail
            go_region_law (first | (go_simp; go_at_call 60; refine (C1.out _).mono ?_; rintro e w2 ⟨rfl, h2⟩; have D1 := hid (below_trans (below_drawn (Below.refl _ _) _) h2 (Nat.le_refl _)); have q4 := cell_stays D1.out q3; have D2 := hid (below_trans BE.out D1.out BE.out.size); clear h2) | (go_simp; go_at_call 61; refine (C2.out _).mono ?_; rintro e w3 ⟨rfl, h3⟩; have D3 := hid (below_trans D2.out h3 D2.out.size); clear h3))
            all_goals
              go_wp2
              refine ⟨⟨k + 1, by omega, by go_num, by rw [R.out]; go_num, ?_, D3.out⟩, by simp [intOf]; omega⟩
              rw [R.out]
              rw [JZ.out, JN.out N0.out, WD.out]
              simp [cat_bytes, List.append_assoc]
          · have N0 : Hid (ws ≠ []) := hid (fun h => h0 (RF.out.1 h))
            have hg0 : 0 < (f : Int) := by omega
            clear h0
            go_wp2_with fail
            go_quiet (fail)
            go_wp2_with fail
            go_region_law (first | (go_simp; go_at_call 60; refine (C1.out _).mono ?_; rintro e w2 ⟨rfl, h2⟩; have D1 := hid (below_trans (below_drawn (Below.refl _ _) _) h2 (Nat.le_refl _)); have q4 := cell_stays D1.out q3; have D2 := hid (below_trans BE.out D1.out BE.out.size); clear h2) | (go_simp; go_at_call 61; refine (C2.out _).mono ?_; rintro e w3 ⟨rfl, h3⟩; have D3 := hid (below_trans D2.out h3 D2.out.size); clear h3))
            all_goals
              go_wp2
              refine ⟨⟨k + 1, by omega, by go_num, by rw [R.out]; go_num, ?_, D3.out⟩, by simp [intOf]; omega⟩
              rw [R.out]
              rw [JS.out N0.out, WD.out]
              simp [cat_bytes, List.append_assoc]
      · have he : iat p (k + 1) = iat p (runW p k).1 := Decidable.byContradiction fun hx => hfl (.inr hx)
        have h24 : k + 1 ≠ 24 := fun hx => hfl (.inl hx)
        have R := hid (runW_no h24 he)
        have q1 := cells (k + 1) (by omega)
        have he2 : (iat p (k + 1) == iat p (runW p k).1) = true := by simp [he]
        have h25 : decide ((k : Int) + 1 < 24) = true := by simp; omega
        clear cells hfl JN JS J0 RF JL WL hj0
        generalize iat p (k + 1) = y at *
        generalize iat p (runW p k).1 = x at *
        clear he
        generalize hf : (runW p k).1 = f at *
        have HF := hid hf
        clear hf
        go_wp2
        go_quiet (fail)
        go_wp2
        exact ⟨⟨k + 1, by omega, by go_num, by rw [R.out, HF.out], by rw [R.out], below_drawn BE.out _⟩, by simp [intOf]; omega⟩
    · obtain rfl : k = 24 := by omega
      go_wp2
      go_ret
      exact ⟨rfl, BE.out⟩
theorem c_specPlanText (p : List Int) (lp : p.length = 24) (w : World) (hb : ∀ k, k < 24 → -32768 ≤ iat p k ∧ iat p k ≤ 32767) :
    Calls Tryd.prog 10 #[.agg (i16s p)] w fun e w' => e = .returned (txt (planT p)) ∧ Below w.heap.size w w' := by
  have H0 : Hid (Below w.heap.size w (w.alloc (.cells (i16s p) 25))) := hid ((Below.refl _ _).alloc (Nat.le_refl _) _)
  have hc : ∀ k, k < 24 → (w.alloc (.cells (i16s p) 25)).cell? ⟨w.heap.size, k, none⟩ = some (.int .i16 (iat p k)) := fun k hk => (cell_of_row _ w.heap.size k _ _ _ (blk_at _ _ _ rfl)).trans (i16s_at lp hk)
  have CV := hid (c_l07Plan p lp w.heap.size _ hc hb)
  cases hv : tilts p
  · have E : Hid (planT p = []) := hid (by rw [planT, hv]; rfl)
    rw [hv] at CV
    clear hc hv hb lp
    go_enter Tryd.func10, Tryd.ntmps10
    go_wp2_with (go_at_call 33; refine CV.out.mono ?_; rintro e w1 ⟨rfl, rfl⟩)
    go_ret
    exact ⟨by rw [E.out]; rfl, H0.out⟩
  · have E : Hid (planT p = Lib.join (runW p 24).2 [32]) := hid (by rw [planT, hv]; rfl)
    have CT := hid (c_l07Text p w.heap.size _ hc (tilts_in lp hv))
    rw [hv] at CV
    clear hc hv hb lp
    go_enter Tryd.func10, Tryd.ntmps10
    go_wp2_with (first | (go_at_call 33; refine CV.out.mono ?_; rintro e w1 ⟨rfl, rfl⟩) | (go_at_call 34; refine CT.out.mono ?_; rintro e w1 ⟨rfl, h1⟩; have D1 := hid (below_trans H0.out h1 H0.out.size); clear h1))
    go_ret
    exact ⟨by rw [E.out]; rfl, D1.out⟩
end Go.Proofs.YtdcjoafagalejaaDoor
