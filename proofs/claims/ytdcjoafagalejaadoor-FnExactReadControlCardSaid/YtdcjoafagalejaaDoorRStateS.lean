/- States read from texts: the reference's side. -/
import Derived.Test.YtdcjoafagalejaaDoorRState
namespace Go.Proofs.YtdcjoafagalejaaDoor
set_option maxRecDepth 20000
open Go.RowKit

theorem c_minus_none {s : List UInt8} (h : minusOf s = none) (hL : s.length ≤ 1048576) (w : World) :
    Calls Tryd.prog 51 #[txt s] w fun e w' => (∃ r : Int, e = .returned (.tuple #[.int .i64 r, .bool false])) ∧ w = w' :=
  (c_l01Minus s hL w).mono fun e w' ⟨⟨r, he, _⟩, hw⟩ => ⟨⟨r, by rw [he, h]; rfl⟩, hw⟩
theorem c_minus_some {s : List UInt8} {a : Int} (h : minusOf s = some a) (hL : s.length ≤ 1048576) (w : World) :
    Calls Tryd.prog 51 #[txt s] w fun e w' => e = .returned (.tuple #[.int .i64 a, .bool true]) ∧ w = w' :=
  (c_l01Minus s hL w).mono fun e w' ⟨⟨r, he, hr⟩, hw⟩ => ⟨by rw [he, h, hr a h]; rfl, hw⟩
theorem c_number_none {s : List UInt8} (h : numOf s = none) (hL : s.length ≤ 1048576) (w : World) :
    Calls Tryd.prog 52 #[txt s] w fun e w' => (∃ r : Int, e = .returned (.tuple #[.int .i64 r, .bool false])) ∧ w = w' :=
  (c_l01Number s hL w).mono fun e w' ⟨⟨r, he, _⟩, hw⟩ => ⟨⟨r, by rw [he, h]; rfl⟩, hw⟩
theorem c_number_some {s : List UInt8} {a : Nat} (h : numOf s = some a) (hL : s.length ≤ 1048576) (w : World) :
    Calls Tryd.prog 52 #[txt s] w fun e w' => e = .returned (.tuple #[.int .i64 (a : Int), .bool true]) ∧ w = w' :=
  (c_l01Number s hL w).mono fun e w' ⟨⟨r, he, hr⟩, hw⟩ => ⟨by rw [he, h, hr a h]; rfl, hw⟩
theorem num_itoa {v : Int} (h0 : 0 ≤ v) (h : v < 1000000000) : numOf (Lib.itoa v) = some v.toNat := by
  obtain ⟨u, rfl⟩ := Int.eq_ofNat_of_zero_le h0
  rw [Lib.itoa_nonneg]
  exact (numOf_iff _ _).2 ⟨by omega, rfl⟩
theorem isSt_words {s : List UInt8} {X : Sta} (h : IsSt s X) : minusOf (wat (cuts 32 s) 0) = some X.ti ∧ numOf (wat (cuts 32 s) 1) = some X.wa.toNat ∧ numOf (wat (cuts 32 s) 2) = some X.so.toNat ∧ (cuts 32 s).length = 3 := by
  obtain ⟨h1, h2⟩ := h
  rw [okSt_iff] at h2
  rw [h1]
  exact ⟨(minusOf_iff _ _).2 ⟨by omega, rfl⟩, num_itoa (by omega) (by omega), num_itoa (by omega) (by omega), rfl⟩
theorem isSt_of {s : List UInt8} {a : Int} {b c : Nat} (h3 : (cuts 32 s).length = 3) (h0 : minusOf (wat (cuts 32 s) 0) = some a) (h1 : numOf (wat (cuts 32 s) 1) = some b) (h2 : numOf (wat (cuts 32 s) 2) = some c)
    (ha : inB a (-64) 64 = true) (hb : b ≤ 20) (hc : c ≤ 20) : IsSt s ⟨a, b, c⟩ := by
  have e0 := ((minusOf_iff _ _).1 h0).2
  have e1 := ((numOf_iff _ _).1 h1).2
  have e2 := ((numOf_iff _ _).1 h2).2
  refine ⟨?_, ?_⟩
  · rw [three h3, e0, e1, e2, Lib.itoa_nonneg, Lib.itoa_nonneg]
  · simp only [inB, Bool.and_eq_true, decide_eq_true_eq] at ha
    rw [okSt_iff]; simp only; omega
set_option maxHeartbeats 2000000 in
theorem c_specReadState (s : List UInt8) (hs : s.length ≤ 1048576) (w : World) :
    Calls Tryd.prog 24 #[txt s] w fun e w' => StRet s e ∧ Below w.heap.size w w' := by
  have HB0 : Hid ((w.alloc (.cells (stcells staZ) 46)).heap[w.heap.size]? = some (.cells (stcells staZ) 46 (0, 0))) := hid (blk_at _ _ _ rfl)
  have H0 : Hid (Below w.heap.size w (w.alloc (.cells (stcells staZ) 46))) := hid ((Below.refl _ _).alloc (Nat.le_refl _) _)
  have CS := hid (fun w2 => c_l01Split s 32 hs w2)
  have NL := hid (fun h => not_isSt_len (s := s) h)
  have WS := hid (fun X h => isSt_words (s := s) (X := X) h)
  have OF := hid (fun (a : Int) (b c : Nat) => isSt_of (s := s) (a := a) (b := b) (c := c))
  have ZZ : Hid ((Tryd.prog.info? 46).map (·.size) = some (stcells staZ).size) := hid (by kernel_rfl)
  have L0 := hid (fun k (h : k < (cuts 32 s).length) => Nat.le_trans (wat_short (c := 32) (s := s) h) hs)
  clear hs
  go_enter Tryd.func24, Tryd.ntmps24
  go_wp2_with fail
  refine (CS.out _).mono ?_
  rintro e w1 ⟨⟨g, ca, rfl, ha⟩, h1⟩
  have D1 := hid (below_trans H0.out h1 H0.out.size)
  have B1 := hid ((h1.block _ (block_lt HB0.out)).trans HB0.out)
  clear h1
  by_cases h3 : (cuts 32 s).length = 3
  · have c0 : w1.cell? ⟨g, 0, none⟩ = some (txt (wat (cuts 32 s) 0)) := by have := ha 0 (by omega); simpa using this
    have c1 : w1.cell? ⟨g, 1, none⟩ = some (txt (wat (cuts 32 s) 1)) := by have := ha 1 (by omega); simpa using this
    have c2 : w1.cell? ⟨g, 2, none⟩ = some (txt (wat (cuts 32 s) 2)) := by have := ha 2 (by omega); simpa using this
    have k0 := L0.out 0 (by omega)
    have k1 := L0.out 1 (by omega)
    have k2 := L0.out 2 (by omega)
    have OF2 := hid (fun (a : Int) (b c : Nat) => OF.out a b c h3)
    clear ha L0 CS NL OF
    generalize (cuts 32 s).length = n at *
    subst h3
    generalize wat (cuts 32 s) 0 = u0 at *
    generalize wat (cuts 32 s) 1 = u1 at *
    generalize wat (cuts 32 s) 2 = u2 at *
    cases e0 : minusOf u0 with
    | none =>
      have BAD : Hid (∀ X, ¬ IsSt s X) := hid (fun X h => by have := (WS.out X h).1; rw [e0] at this; cases this)
      have C0 := hid (c_minus_none e0 k0)
      have C1 := hid (c_l01Number u1 k1)
      have C2 := hid (c_l01Number u2 k2)
      clear e0 k0 k1 k2 WS OF2
      generalize (numOf u1).isSome = q1 at *
      generalize (numOf u2).isSome = q2 at *
      go_wp2_with (first | (go_at_call 51; refine (C0.out _).mono ?_; (first | (rintro e w2 ⟨rfl, rfl⟩) | (rintro e w2 ⟨⟨r, rfl⟩, rfl⟩) | (rintro e w2 ⟨⟨r, rfl, _⟩, rfl⟩))) | (go_at_call 52; with_reducible refine (C1.out _).mono ?_; (first | (rintro e w2 ⟨rfl, rfl⟩) | (rintro e w2 ⟨⟨r, rfl⟩, rfl⟩) | (rintro e w2 ⟨⟨r, rfl, _⟩, rfl⟩))) | (go_at_call 52; with_reducible refine (C2.out _).mono ?_; (first | (rintro e w2 ⟨rfl, rfl⟩) | (rintro e w2 ⟨⟨r, rfl⟩, rfl⟩) | (rintro e w2 ⟨⟨r, rfl, _⟩, rfl⟩))) | (go_at_call 53; refine (c_l02Tilt _ _).mono ?_; rintro e w' ⟨rfl, rfl⟩; rw [TI]) | (refine wpList_store_row rfl 46 _ _ rfl (w.heap.size) (stcells staZ) rfl rfl 46 (stcells staZ) B1.out ZZ.out rfl (st_one _) ?_))
      refine bodyPost_ret (v := .tuple #[.agg (stcells staZ), .int .i64 5]) (results_row_tmp rfl _ _ (w.heap.size) 46 (stcells staZ) (0, 0) _ rfl (blk_row_same _ _ _ _ _ _ B1.out) Tryd.underlying46 rfl ZZ.out _ rfl) rfl ⟨.inr ⟨BAD.out, rfl⟩, below_setRow D1.out (Nat.le_refl _) _⟩
    | some a =>
      cases e1 : numOf u1 with
      | none =>
        have BAD : Hid (∀ X, ¬ IsSt s X) := hid (fun X h => by have := (WS.out X h).2.1; rw [e1] at this; cases this)
        have C0 := hid (c_minus_some e0 k0)
        have C1 := hid (c_number_none e1 k1)
        have C2 := hid (c_l01Number u2 k2)
        clear e0 e1 k0 k1 k2 WS OF2
        generalize (numOf u2).isSome = q2 at *
        go_wp2_with (first | (go_at_call 51; refine (C0.out _).mono ?_; (first | (rintro e w2 ⟨rfl, rfl⟩) | (rintro e w2 ⟨⟨r, rfl⟩, rfl⟩) | (rintro e w2 ⟨⟨r, rfl, _⟩, rfl⟩))) | (go_at_call 52; with_reducible refine (C1.out _).mono ?_; (first | (rintro e w2 ⟨rfl, rfl⟩) | (rintro e w2 ⟨⟨r, rfl⟩, rfl⟩) | (rintro e w2 ⟨⟨r, rfl, _⟩, rfl⟩))) | (go_at_call 52; with_reducible refine (C2.out _).mono ?_; (first | (rintro e w2 ⟨rfl, rfl⟩) | (rintro e w2 ⟨⟨r, rfl⟩, rfl⟩) | (rintro e w2 ⟨⟨r, rfl, _⟩, rfl⟩))) | (go_at_call 53; refine (c_l02Tilt _ _).mono ?_; rintro e w' ⟨rfl, rfl⟩; rw [TI]) | (refine wpList_store_row rfl 46 _ _ rfl (w.heap.size) (stcells staZ) rfl rfl 46 (stcells staZ) B1.out ZZ.out rfl (st_one _) ?_))
        refine bodyPost_ret (v := .tuple #[.agg (stcells staZ), .int .i64 5]) (results_row_tmp rfl _ _ (w.heap.size) 46 (stcells staZ) (0, 0) _ rfl (blk_row_same _ _ _ _ _ _ B1.out) Tryd.underlying46 rfl ZZ.out _ rfl) rfl ⟨.inr ⟨BAD.out, rfl⟩, below_setRow D1.out (Nat.le_refl _) _⟩
      | some b =>
        cases e2 : numOf u2 with
        | none =>
          have BAD : Hid (∀ X, ¬ IsSt s X) := hid (fun X h => by have := (WS.out X h).2.2.1; rw [e2] at this; cases this)
          have C0 := hid (c_minus_some e0 k0)
          have C1 := hid (c_number_some e1 k1)
          have C2 := hid (c_number_none e2 k2)
          clear e0 e1 e2 k0 k1 k2 WS OF2
          go_wp2_with (first | (go_at_call 51; refine (C0.out _).mono ?_; (first | (rintro e w2 ⟨rfl, rfl⟩) | (rintro e w2 ⟨⟨r, rfl⟩, rfl⟩) | (rintro e w2 ⟨⟨r, rfl, _⟩, rfl⟩))) | (go_at_call 52; with_reducible refine (C1.out _).mono ?_; (first | (rintro e w2 ⟨rfl, rfl⟩) | (rintro e w2 ⟨⟨r, rfl⟩, rfl⟩) | (rintro e w2 ⟨⟨r, rfl, _⟩, rfl⟩))) | (go_at_call 52; with_reducible refine (C2.out _).mono ?_; (first | (rintro e w2 ⟨rfl, rfl⟩) | (rintro e w2 ⟨⟨r, rfl⟩, rfl⟩) | (rintro e w2 ⟨⟨r, rfl, _⟩, rfl⟩))) | (go_at_call 53; refine (c_l02Tilt _ _).mono ?_; rintro e w' ⟨rfl, rfl⟩; rw [TI]) | (refine wpList_store_row rfl 46 _ _ rfl (w.heap.size) (stcells staZ) rfl rfl 46 (stcells staZ) B1.out ZZ.out rfl (st_one _) ?_))
          refine bodyPost_ret (v := .tuple #[.agg (stcells staZ), .int .i64 5]) (results_row_tmp rfl _ _ (w.heap.size) 46 (stcells staZ) (0, 0) _ rfl (blk_row_same _ _ _ _ _ _ B1.out) Tryd.underlying46 rfl ZZ.out _ rfl) rfl ⟨.inr ⟨BAD.out, rfl⟩, below_setRow D1.out (Nat.le_refl _) _⟩
        | some c =>
          have C0 := hid (c_minus_some e0 k0)
          have C1 := hid (c_number_some e1 k1)
          have C2 := hid (c_number_some e2 k2)
          have NO : Hid (∀ X, IsSt s X → a = X.ti ∧ b = X.wa.toNat ∧ c = X.so.toNat ∧ okSt X = true) := hid (fun X h => by
            have := WS.out X h
            rw [e0, e1, e2] at this
            exact ⟨Option.some.inj this.1, Option.some.inj this.2.1, Option.some.inj this.2.2.1, h.2⟩)
          cases ti : inB a (-64) 64 with
          | false =>
            have BAD : Hid (∀ X, ¬ IsSt s X) := hid (fun X h => by
              obtain ⟨rfl, _, _, h4⟩ := NO.out X h
              rw [okSt_iff] at h4
              simp [inB] at ti; omega)
            have TI := ti
            clear e0 e1 e2 k0 k1 k2 WS OF2 NO ti
            go_wp2_with (first | (go_at_call 51; refine (C0.out _).mono ?_; (first | (rintro e w2 ⟨rfl, rfl⟩) | (rintro e w2 ⟨⟨r, rfl⟩, rfl⟩) | (rintro e w2 ⟨⟨r, rfl, _⟩, rfl⟩))) | (go_at_call 52; with_reducible refine (C1.out _).mono ?_; (first | (rintro e w2 ⟨rfl, rfl⟩) | (rintro e w2 ⟨⟨r, rfl⟩, rfl⟩) | (rintro e w2 ⟨⟨r, rfl, _⟩, rfl⟩))) | (go_at_call 52; with_reducible refine (C2.out _).mono ?_; (first | (rintro e w2 ⟨rfl, rfl⟩) | (rintro e w2 ⟨⟨r, rfl⟩, rfl⟩) | (rintro e w2 ⟨⟨r, rfl, _⟩, rfl⟩))) | (go_at_call 53; refine (c_l02Tilt _ _).mono ?_; rintro e w' ⟨rfl, rfl⟩; rw [TI]) | (refine wpList_store_row rfl 46 _ _ rfl (w.heap.size) (stcells staZ) rfl rfl 46 (stcells staZ) B1.out ZZ.out rfl (st_one _) ?_))
            refine bodyPost_ret (v := .tuple #[.agg (stcells staZ), .int .i64 5]) (results_row_tmp rfl _ _ (w.heap.size) 46 (stcells staZ) (0, 0) _ rfl (blk_row_same _ _ _ _ _ _ B1.out) Tryd.underlying46 rfl ZZ.out _ rfl) rfl ⟨.inr ⟨BAD.out, rfl⟩, below_setRow D1.out (Nat.le_refl _) _⟩
          | true =>
            have TI := ti
            by_cases hb : (20 : Int) < b
            · have BAD : Hid (∀ X, ¬ IsSt s X) := hid (fun X h => by
                obtain ⟨_, rfl, _, h4⟩ := NO.out X h
                rw [okSt_iff] at h4
                omega)
              clear e0 e1 e2 k0 k1 k2 WS OF2 NO ti
              go_wp2_with (first | (go_at_call 51; refine (C0.out _).mono ?_; (first | (rintro e w2 ⟨rfl, rfl⟩) | (rintro e w2 ⟨⟨r, rfl⟩, rfl⟩) | (rintro e w2 ⟨⟨r, rfl, _⟩, rfl⟩))) | (go_at_call 52; with_reducible refine (C1.out _).mono ?_; (first | (rintro e w2 ⟨rfl, rfl⟩) | (rintro e w2 ⟨⟨r, rfl⟩, rfl⟩) | (rintro e w2 ⟨⟨r, rfl, _⟩, rfl⟩))) | (go_at_call 52; with_reducible refine (C2.out _).mono ?_; (first | (rintro e w2 ⟨rfl, rfl⟩) | (rintro e w2 ⟨⟨r, rfl⟩, rfl⟩) | (rintro e w2 ⟨⟨r, rfl, _⟩, rfl⟩))) | (go_at_call 53; refine (c_l02Tilt _ _).mono ?_; rintro e w' ⟨rfl, rfl⟩; rw [TI]) | (refine wpList_store_row rfl 46 _ _ rfl (w.heap.size) (stcells staZ) rfl rfl 46 (stcells staZ) B1.out ZZ.out rfl (st_one _) ?_))
              refine bodyPost_ret (v := .tuple #[.agg (stcells staZ), .int .i64 5]) (results_row_tmp rfl _ _ (w.heap.size) 46 (stcells staZ) (0, 0) _ rfl (blk_row_same _ _ _ _ _ _ B1.out) Tryd.underlying46 rfl ZZ.out _ rfl) rfl ⟨.inr ⟨BAD.out, rfl⟩, below_setRow D1.out (Nat.le_refl _) _⟩
            · by_cases hc : (20 : Int) < c
              · have BAD : Hid (∀ X, ¬ IsSt s X) := hid (fun X h => by
                  obtain ⟨_, _, rfl, h4⟩ := NO.out X h
                  rw [okSt_iff] at h4
                  omega)
                clear e0 e1 e2 k0 k1 k2 WS OF2 NO ti
                go_wp2_with (first | (go_at_call 51; refine (C0.out _).mono ?_; (first | (rintro e w2 ⟨rfl, rfl⟩) | (rintro e w2 ⟨⟨r, rfl⟩, rfl⟩) | (rintro e w2 ⟨⟨r, rfl, _⟩, rfl⟩))) | (go_at_call 52; with_reducible refine (C1.out _).mono ?_; (first | (rintro e w2 ⟨rfl, rfl⟩) | (rintro e w2 ⟨⟨r, rfl⟩, rfl⟩) | (rintro e w2 ⟨⟨r, rfl, _⟩, rfl⟩))) | (go_at_call 52; with_reducible refine (C2.out _).mono ?_; (first | (rintro e w2 ⟨rfl, rfl⟩) | (rintro e w2 ⟨⟨r, rfl⟩, rfl⟩) | (rintro e w2 ⟨⟨r, rfl, _⟩, rfl⟩))) | (go_at_call 53; refine (c_l02Tilt _ _).mono ?_; rintro e w' ⟨rfl, rfl⟩; rw [TI]) | (refine wpList_store_row rfl 46 _ _ rfl (w.heap.size) (stcells staZ) rfl rfl 46 (stcells staZ) B1.out ZZ.out rfl (st_one _) ?_))
                refine bodyPost_ret (v := .tuple #[.agg (stcells staZ), .int .i64 5]) (results_row_tmp rfl _ _ (w.heap.size) 46 (stcells staZ) (0, 0) _ rfl (blk_row_same _ _ _ _ _ _ B1.out) Tryd.underlying46 rfl ZZ.out _ rfl) rfl ⟨.inr ⟨BAD.out, rfl⟩, below_setRow D1.out (Nat.le_refl _) _⟩
              · have GOOD := hid (OF2.out a b c e0 e1 e2 ti (by omega) (by omega))
                have ta : -64 ≤ a ∧ a ≤ 64 := by simpa [inB] using ti
                have wa : IntKind.i16.wrap a = a := IntWalk.i16_in _ (by omega)
                have wb : IntKind.i8.wrap (b : Int) = b := IntWalk.i8_in _ (by omega)
                have wc : IntKind.i8.wrap (c : Int) = c := IntWalk.i8_in _ (by omega)
                clear e0 e1 e2 k0 k1 k2 WS OF2 NO ti ta
                go_wp2_with (first | (go_at_call 51; refine (C0.out _).mono ?_; (first | (rintro e w2 ⟨rfl, rfl⟩) | (rintro e w2 ⟨⟨r, rfl⟩, rfl⟩) | (rintro e w2 ⟨⟨r, rfl, _⟩, rfl⟩))) | (go_at_call 52; with_reducible refine (C1.out _).mono ?_; (first | (rintro e w2 ⟨rfl, rfl⟩) | (rintro e w2 ⟨⟨r, rfl⟩, rfl⟩) | (rintro e w2 ⟨⟨r, rfl, _⟩, rfl⟩))) | (go_at_call 52; with_reducible refine (C2.out _).mono ?_; (first | (rintro e w2 ⟨rfl, rfl⟩) | (rintro e w2 ⟨⟨r, rfl⟩, rfl⟩) | (rintro e w2 ⟨⟨r, rfl, _⟩, rfl⟩))) | (go_at_call 53; refine (c_l02Tilt _ _).mono ?_; rintro e w' ⟨rfl, rfl⟩; rw [TI]) | (refine wpList_store_row rfl 46 _ _ rfl (w.heap.size) (stcells ⟨a, b, c⟩) rfl rfl 46 (stcells staZ) B1.out ZZ.out rfl (st_one _) ?_))
                refine bodyPost_ret (v := .tuple #[.agg (stcells ⟨a, b, c⟩), .int .i64 0]) (results_row_tmp rfl _ _ (w.heap.size) 46 (stcells ⟨a, b, c⟩) (0, 0) _ rfl (blk_row_same _ _ _ _ _ _ B1.out) Tryd.underlying46 rfl ZZ.out _ rfl) rfl ⟨.inl ⟨_, GOOD.out, rfl⟩, below_setRow D1.out (Nat.le_refl _) _⟩
  · have BAD := hid (NL.out h3)
    have l3 : ¬ ((cuts 32 s).length : Int) = 3 := by omega
    clear ha L0 NL WS OF CS h3
    generalize (cuts 32 s).length = n at *
    go_wp2_with (refine wpList_store_row rfl 46 _ _ rfl (w.heap.size) (stcells staZ) rfl rfl 46 (stcells staZ) B1.out ZZ.out rfl (st_one _) ?_)
    refine bodyPost_ret (v := .tuple #[.agg (stcells staZ), .int .i64 5]) (results_row_tmp rfl _ _ (w.heap.size) 46 (stcells staZ) (0, 0) _ rfl (blk_row_same _ _ _ _ _ _ B1.out) Tryd.underlying46 rfl ZZ.out _ rfl) rfl ⟨.inr ⟨BAD.out, rfl⟩, below_setRow D1.out (Nat.le_refl _) _⟩
end Go.Proofs.YtdcjoafagalejaaDoor
