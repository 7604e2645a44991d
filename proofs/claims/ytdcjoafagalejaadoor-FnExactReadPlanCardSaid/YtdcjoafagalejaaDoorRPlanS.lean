/- Plans read from texts: the reference's side. -/
import Derived.Test.YtdcjoafagalejaaDoorRPlan
import Derived.Test.YtdcjoafagalejaaDoorRStateS
namespace Go.Proofs.YtdcjoafagalejaaDoor
set_option maxRecDepth 20000
open Go.RowKit

theorem map_word_inj : ∀ {a b : List (Nat × Int)}, okR a → okR b → a.map wordR = b.map wordR → a = b
  | [], [], _, _, _ => rfl
  | [], y :: b, _, _, h => by simp at h
  | x :: a, [], _, _, h => by simp at h
  | x :: a, y :: b, ha, hb, h => by
    simp only [List.map_cons, List.cons.injEq] at h
    have hx := ha x (by simp)
    have hy := hb y (by simp)
    have c1 := word_cuts x
    rw [h.1, word_cuts y] at c1
    simp only [List.cons.injEq, and_true] at c1
    have e1 : numOf (Lib.decDigits y.1) = some y.1 := numOf_dec (by omega)
    rw [c1.1, numOf_dec (by omega)] at e1
    have e2 := itoa_inj (by omega) (by omega) c1.2
    rw [Prod.ext (Option.some.inj e1) e2.symm, map_word_inj (fun r hr => ha r (by simp [hr])) (fun r hr => hb r (by simp [hr])) h.2]
theorem diffR_last {r : Nat × Int} {b : List (Nat × Int)} : ∀ {a : List (Nat × Int)}, diffR (a ++ r :: b) → lastR a ≠ some r.2
  | [], _ => by simp [lastR]
  | [x], h => by simp only [lastR, ne_eq, Option.some.injEq]; exact h.1
  | x :: y :: a, h => diffR_last (a := y :: a) h.2
theorem okR_take {rs : List (Nat × Int)} (h : okR rs) (k : Nat) : okR (rs.take k) := fun r hr => h r (List.mem_of_mem_take hr)
/-- Where a text is that of a plan, each of its words is that of a run that fits. -/
theorem fits_nextS {s : List UInt8} {p : List Int} (h : IsPl s p) {rs : List (Nat × Int)} {k : Nat} (hk : k < (cuts 32 s).length) (ho : okR rs) (hm : rs.map wordR = (cuts 32 s).take k) :
    ∃ r : Nat × Int, wat (cuts 32 s) k = wordR r ∧ (1 ≤ r.1 ∧ (ex rs).length + r.1 ≤ 24) ∧ (-64 ≤ r.2 ∧ r.2 ≤ 64) ∧ lastR rs ≠ some r.2 := by
  obtain ⟨rs0, h1, h2, h3, h4, h5⟩ := isPl_runs h
  have hl : k < rs0.length := by rw [h1] at hk; simpa using hk
  have e0 : rs = rs0.take k := by
    rw [h1, ← List.map_take] at hm
    exact map_word_inj ho (okR_take h3 k) hm
  have hr := h3 _ (rat_mem hl)
  have e : rs0.take (k + 1) = rs ++ [rat rs0 k] := by
    rw [List.take_add_one, ← e0, List.getElem?_eq_getElem hl]
    simp [rat, hl]
  refine ⟨rat rs0 k, wat_word h1 hl, ⟨by omega, ?_⟩, by omega, ?_⟩
  · have l := ex_take_le rs0 (k + 1)
    rw [e, ex_app, ex_one, h5] at l
    simpa using l
  · have e1 : rs0 = rs ++ rat rs0 k :: rs0.drop (k + 1) := by
      have := List.take_append_drop (k + 1) rs0
      rw [e, List.append_assoc, List.singleton_append] at this
      exact this.symm
    rw [e1] at h4
    have e2 : rat (rs ++ rat rs0 k :: rs0.drop (k + 1)) k = rat rs0 k := by rw [← e1]
    exact diffR_last h4
theorem fits_word {w : List UInt8} {r : Nat × Int} (h : w = wordR r) (h1 : r.1 ≤ 24) (h2 : -64 ≤ r.2 ∧ r.2 ≤ 64) : (cuts 120 w).length = 2 ∧ numOf (wat (cuts 120 w) 0) = some r.1 ∧ minusOf (wat (cuts 120 w) 1) = some r.2 := by
  rw [h, word_cuts]
  exact ⟨rfl, numOf_dec (by omega), (minusOf_iff _ _).2 ⟨by omega, rfl⟩⟩
theorem word_of {w : List UInt8} {n : Nat} {t : Int} (h : (cuts 120 w).length = 2) (h0 : numOf (wat (cuts 120 w) 0) = some n) (h1 : minusOf (wat (cuts 120 w) 1) = some t) : w = wordR (n, t) := by
  have e0 := ((numOf_iff _ _).1 h0).2
  have e1 := ((minusOf_iff _ _).1 h1).2
  have e : cuts 120 w = [wat (cuts 120 w) 0, wat (cuts 120 w) 1] := by
    match hc : cuts 120 w, h with
    | [a, b], _ => rfl
  have := cuts_two e
  rw [this, e0, e1]
  simp [wordR, wordOf]
theorem ends_not {s : List UInt8} {rs : List (Nat × Int)} (ho : okR rs) (hm : rs.map wordR = cuts 32 s) (hn : (ex rs).length ≠ 24) (p : List Int) : ¬ IsPl s p := fun h => by
  obtain ⟨rs0, h1, h2, h3, _, h5⟩ := isPl_runs h
  rw [h1] at hm
  rw [map_word_inj ho h3 hm] at hn
  exact hn h5
theorem last_pad {rs : List (Nat × Int)} (ho : okR rs) (h : 0 < (ex rs).length) : lastR rs = some (iat (pad rs) ((ex rs).length - 1)) := by
  cases hl : lastR rs with
  | none =>
    exfalso
    cases rs with
    | nil => simp [ex] at h
    | cons x a => exact lastR_none (by simp) hl
  | some t =>
    obtain ⟨m, h1, h2⟩ := ex_last ho hl
    rw [h1, Nat.add_sub_cancel, ← h2]
    unfold pad iat
    rw [List.getD_eq_getElem?_getD, List.getD_eq_getElem?_getD, List.getElem?_append_left (by omega)]
theorem last_zero {rs : List (Nat × Int)} (ho : okR rs) (h : (ex rs).length = 0) : lastR rs = none := by
  cases rs with
  | nil => rfl
  | cons x a =>
    have := ho x (by simp)
    simp [ex] at h; omega
/-- What a round of the reading keeps. -/
structure KpQ (w : World) (g q : Nat) (ws : List (List UInt8)) (p : List Int) (wx : World) : Prop where
  z : wx.heap[w.heap.size]? = some (.cells zP 25 (0, 0))
  b : wx.heap[q]? = some (.cells (i16s p) 25 (0, 0))
  t : TxtAt wx g 0 ws
  d : Below w.heap.size w wx
theorem KpQ.below {w : World} {g q : Nat} {ws : List (List UInt8)} {p : List Int} {wx wy : World} (h : KpQ w g q ws p wx) (hb : Below wx.heap.size wx wy) : KpQ w g q ws p wy :=
  ⟨(hb.block _ (block_lt h.z)).trans h.z, (hb.block _ (block_lt h.b)).trans h.b, h.t.below hb, below_trans h.d hb h.d.size⟩
theorem KpQ.set {w : World} {g q : Nat} {ws : List (List UInt8)} {p : List Int} {wx : World} (h : KpQ w g q ws p wx) (hq : w.heap.size < q) (hg : g < q) {k : Nat} (hk : k < p.length) (t : Int) : KpQ w g q ws (p.set k t) (wx.setCell ⟨q, k, none⟩ (.int .i16 t)) :=
  ⟨(heap_setCell_other wx ⟨q, k, none⟩ _ _ (by simp; omega)).trans h.z, set_oneI h.b hk, fun j hj => (World.cell?_of_block (heap_setCell_other wx ⟨q, k, none⟩ _ _ (by simp; omega))).trans (h.t j hj), below_setCell h.d (by omega) _ _⟩
set_option maxHeartbeats 4000000 in
theorem c_specReadPlan (s : List UInt8) (hs : s.length ≤ 1048576) (w : World) :
    Calls Tryd.prog 30 #[txt s] w fun e w' => PlRet s e ∧ Below w.heap.size w w' := by
  have HB0 : Hid ((w.alloc (.cells zP 25)).heap[w.heap.size]? = some (.cells zP 25 (0, 0))) := hid (blk_at _ _ _ rfl)
  have H0 : Hid (Below w.heap.size w (w.alloc (.cells zP 25))) := hid ((Below.refl _ _).alloc (Nat.le_refl _) _)
  have ZZ := hid zP_size
  have CS : Hid (Calls Tryd.prog 43 #[txt s, .int .u8 32] (w.alloc (.cells zP 25)) fun e w' => (∃ g ca, e = .returned (.slice (some ⟨g, 0, none⟩) (cuts 32 s).length ca) ∧ TxtAt w' g 0 (cuts 32 s) ∧ g < w'.heap.size) ∧ Below w.heap.size w w' ∧ w'.heap[w.heap.size]? = some (.cells zP 25 (0, 0))) := hid (
    (c_l01Split s 32 hs (w.alloc (.cells zP 25))).mono fun e w' ⟨⟨g, ca, he, ha⟩, hb⟩ => ⟨⟨g, ca, he, ha, by
      have := ha 0 (by have := cuts_ne 32 s; exact List.length_pos_iff.2 this)
      exact block_lt_of_cell this⟩, below_trans H0.out hb H0.out.size, (hb.block _ (block_lt HB0.out)).trans HB0.out⟩)
  have WS := hid (fun k (h : k < (cuts 32 s).length) => Nat.le_trans (wat_short (c := 32) (s := s) h) hs)
  have NL : Hid ((cuts 32 s).length ≤ 1048577) := hid (by have := cuts_len 32 s; omega)
  have FN := hid (fun (rs : List (Nat × Int)) k h1 h2 h3 p (h : IsPl s p) => fits_nextS h (rs := rs) (k := k) h1 h2 h3)
  have EN := hid (fun (rs : List (Nat × Int)) h1 h2 h3 => ends_not (s := s) (rs := rs) h1 h2 h3)
  have EY := hid (fun (rs : List (Nat × Int)) h1 h2 h3 h4 => isPl_of (s := s) (rs := rs) h1 h2 h3 h4)
  clear hs
  go_enter Tryd.func30, Tryd.ntmps30
  go_wp2_with fail
  refine CS.out.mono ?_
  rintro e w1 ⟨⟨g, ca, rfl, ha, hg⟩, hb, h0⟩
  have HQ1 : Hid ((w1.alloc (.cells zP 25)).heap[w1.heap.size]? = some (.cells zP 25 (0, 0))) := hid (blk_at _ _ _ rfl)
  have LW : Hid (w.heap.size < w1.heap.size) := hid (block_lt h0)
  have GQ : Hid (g < w1.heap.size) := hid hg
  have K0 : Hid (KpQ w g w1.heap.size (cuts 32 s) (pad []) ((w1.alloc (.cells zP 25)).setRow w1.heap.size zP)) := hid
    ⟨(setRow_other _ _ _ _ (by have := LW.out; omega)).trans ((blk_past _ _ _ LW.out).trans h0), by rw [← zP_pad]; exact blk_row_same _ _ _ _ _ _ HQ1.out,
      (fun j hj => (World.cell?_of_block ((setRow_other _ _ _ _ (by simp only; omega)).trans (blk_past _ _ _ hg))).trans (ha j hj)), below_setRow (hb.alloc hb.size _) (Nat.le_of_lt LW.out) _⟩
  clear ha hg hb h0 HB0 H0 CS
  generalize cuts 32 s = ws at *
  go_wp2_with (refine wpList_store_row rfl 25 _ _ rfl (w1.heap.size) zP rfl rfl 25 zP HQ1.out ZZ.out rfl zP_one ?_)
  generalize w1.heap.size = q at *
  go_loopw [6, 7] (fun h i wr => ∃ (k : Nat) (rs : List (Nat × Int)), k ≤ ws.length ∧ rs.map wordR = ws.take k ∧ i = .int .i64 k ∧ h = .int .i64 ((ex rs).length : Nat) ∧ (ex rs).length ≤ 24 ∧ okR rs ∧ diffR rs ∧ KpQ w g q ws (pad rs) wr) (fun _ i _ => ws.length - (intOf i).toNat)
  case atStart => exact ⟨0, [], by omega, by simp, rfl, rfl, by simp [ex], (fun r hr => nomatch hr), trivial, K0.out⟩
  case round =>
    obtain ⟨k, rs, hk, hmap, rfl, rfl, hle, hok, hdi, hkp⟩ := hrel
    have KP := hid hkp
    have LE := hid hle
    have OK := hid hok
    have DI := hid hdi
    have MP := hid hmap
    clear hkp hok hdi hmap
    by_cases hlt : k < ws.length
    · have LT := hid hlt
      have c1 := KP.out.t k hlt
      rw [Nat.zero_add] at c1
      have s0 := WS.out k hlt
      have CC := hid (fun w => c_l01Split (wat ws k) 120 s0 w)
      have SH := hid (fun j (h : j < (cuts 120 (wat ws k)).length) => Nat.le_trans (wat_short (c := 120) (s := wat ws k) h) s0)
      have FK : Hid (∀ p, IsPl s p → (cuts 120 (wat ws k)).length = 2 ∧ ∃ r : Nat × Int, (numOf (wat (cuts 120 (wat ws k)) 0) = some r.1 ∧ minusOf (wat (cuts 120 (wat ws k)) 1) = some r.2) ∧ (1 ≤ r.1 ∧ (ex rs).length + r.1 ≤ 24) ∧ (-64 ≤ r.2 ∧ r.2 ≤ 64) ∧ lastR rs ≠ some r.2) := hid (fun p h => by
        obtain ⟨r, h1, h2, h3, h4⟩ := FN.out rs k hlt OK.out MP.out p h
        obtain ⟨a, b, c⟩ := fits_word h1 (by omega) h3
        exact ⟨a, r, ⟨b, c⟩, h2, h3, h4⟩)
      have PN := hid (fun (n : Nat) (t : Int) h1 h2 h3 => word_of (w := wat ws k) (n := n) (t := t) h1 h2 h3)
      clear s0 FN EN EY WS
      generalize hx : wat ws k = x at *
      have HX := hid hx
      clear hx
      go_wp2_with fail
      refine (CC.out _).mono ?_
      rintro e w2 ⟨⟨g2, ca2, rfl, ha2⟩, h2⟩
      have KK := hid (KP.out.below h2)
      clear h2
      by_cases h2l : (cuts 120 x).length = 2
      · have p0 : w2.cell? ⟨g2, 0, none⟩ = some (txt (wat (cuts 120 x) 0)) := by have := ha2 0 (by omega); simpa using this
        have p1 : w2.cell? ⟨g2, 1, none⟩ = some (txt (wat (cuts 120 x) 1)) := by have := ha2 1 (by omega); simpa using this
        have k0 := SH.out 0 (by omega)
        have k1 := SH.out 1 (by omega)
        have PM := hid (fun (n : Nat) (t : Int) => PN.out n t h2l)
        clear ha2 SH PN CC
        generalize (cuts 120 x).length = n2 at *
        subst h2l
        generalize wat (cuts 120 x) 0 = u at *
        generalize wat (cuts 120 x) 1 = v at *
        cases hu : numOf u with
        | none =>
          have BAD : Hid (∀ p, ¬ IsPl s p) := hid (fun p h => by obtain ⟨_, r, h1, _⟩ := FK.out p h; rw [hu] at h1; cases h1.1)
          have C0 := hid (c_number_none hu k0)
          have C1 := hid (c_l01Minus v k1)
          clear FK PM hu k0 k1
          generalize (minusOf v).isSome = ov at *
          go_wp2_with (first | (go_at_call 52; refine (C0.out _).mono ?_; (first | (rintro e w3 ⟨rfl, rfl⟩) | (rintro e w3 ⟨⟨r, rfl⟩, rfl⟩) | (rintro e w3 ⟨⟨r, rfl, _⟩, rfl⟩))) | (go_at_call 51; refine (C1.out _).mono ?_; (first | (rintro e w3 ⟨rfl, rfl⟩) | (rintro e w3 ⟨⟨r, rfl⟩, rfl⟩) | (rintro e w3 ⟨⟨r, rfl, _⟩, rfl⟩))) | (go_at_call 53; refine (c_l02Tilt _ _).mono ?_; rintro e w' ⟨rfl, rfl⟩; rw [TI.out]) | (refine wpList_store_row rfl 25 _ _ rfl (w.heap.size) zP rfl rfl 25 zP KK.out.z ZZ.out rfl zP_one ?_))
          refine bodyPost_ret (v := .tuple #[.agg zP, .int .i64 5]) (results_row_tmp rfl _ _ (w.heap.size) 25 zP (0, 0) _ rfl (blk_row_same _ _ _ _ _ _ KK.out.z) Tryd.underlying25 rfl ZZ.out _ rfl) rfl ⟨.inr ⟨BAD.out, rfl⟩, below_setRow KK.out.d (Nat.le_refl _) _⟩
        | some n =>
          cases hv : minusOf v with
          | none =>
            have BAD : Hid (∀ p, ¬ IsPl s p) := hid (fun p h => by obtain ⟨_, r, h1, _⟩ := FK.out p h; rw [hv] at h1; cases h1.2)
            have C0 := hid (c_number_some hu k0)
            have C1 := hid (c_minus_none hv k1)
            clear FK PM hu hv k0 k1
            go_wp2_with (first | (go_at_call 52; refine (C0.out _).mono ?_; (first | (rintro e w3 ⟨rfl, rfl⟩) | (rintro e w3 ⟨⟨r, rfl⟩, rfl⟩) | (rintro e w3 ⟨⟨r, rfl, _⟩, rfl⟩))) | (go_at_call 51; refine (C1.out _).mono ?_; (first | (rintro e w3 ⟨rfl, rfl⟩) | (rintro e w3 ⟨⟨r, rfl⟩, rfl⟩) | (rintro e w3 ⟨⟨r, rfl, _⟩, rfl⟩))) | (go_at_call 53; refine (c_l02Tilt _ _).mono ?_; rintro e w' ⟨rfl, rfl⟩; rw [TI.out]) | (refine wpList_store_row rfl 25 _ _ rfl (w.heap.size) zP rfl rfl 25 zP KK.out.z ZZ.out rfl zP_one ?_))
            refine bodyPost_ret (v := .tuple #[.agg zP, .int .i64 5]) (results_row_tmp rfl _ _ (w.heap.size) 25 zP (0, 0) _ rfl (blk_row_same _ _ _ _ _ _ KK.out.z) Tryd.underlying25 rfl ZZ.out _ rfl) rfl ⟨.inr ⟨BAD.out, rfl⟩, below_setRow KK.out.d (Nat.le_refl _) _⟩
          | some t =>
            have C0 := hid (c_number_some hu k0)
            have C1 := hid (c_minus_some hv k1)
            have FR : Hid (∀ p, IsPl s p → (1 ≤ n ∧ (ex rs).length + n ≤ 24) ∧ inB t (-64) 64 = true ∧ lastR rs ≠ some t) := hid (fun p h => by
              obtain ⟨_, r, h1, h2, h3, h4⟩ := FK.out p h
              rw [hu, hv] at h1
              rw [Option.some.inj h1.1, Option.some.inj h1.2]
              exact ⟨h2, by simp [inB]; omega, h4⟩)
            have PK := hid (PM.out n t hu hv)
            have nb := numOf_lt hu
            clear FK PM hu hv k0 k1
            by_cases hn1 : (n : Int) < 1
            · have BAD : Hid (∀ p, ¬ IsPl s p) := hid (fun p h => by have := (FR.out p h).1; omega)
              clear FR
              generalize (ex rs).length = l at *
              go_wp2_with (first | (go_at_call 52; refine (C0.out _).mono ?_; (first | (rintro e w3 ⟨rfl, rfl⟩) | (rintro e w3 ⟨⟨r, rfl⟩, rfl⟩) | (rintro e w3 ⟨⟨r, rfl, _⟩, rfl⟩))) | (go_at_call 51; refine (C1.out _).mono ?_; (first | (rintro e w3 ⟨rfl, rfl⟩) | (rintro e w3 ⟨⟨r, rfl⟩, rfl⟩) | (rintro e w3 ⟨⟨r, rfl, _⟩, rfl⟩))) | (go_at_call 53; refine (c_l02Tilt _ _).mono ?_; rintro e w' ⟨rfl, rfl⟩; rw [TI.out]) | (refine wpList_store_row rfl 25 _ _ rfl (w.heap.size) zP rfl rfl 25 zP KK.out.z ZZ.out rfl zP_one ?_))
              refine bodyPost_ret (v := .tuple #[.agg zP, .int .i64 5]) (results_row_tmp rfl _ _ (w.heap.size) 25 zP (0, 0) _ rfl (blk_row_same _ _ _ _ _ _ KK.out.z) Tryd.underlying25 rfl ZZ.out _ rfl) rfl ⟨.inr ⟨BAD.out, rfl⟩, below_setRow KK.out.d (Nat.le_refl _) _⟩
            · by_cases hn2 : (24 : Int) < ((ex rs).length : Int) + n
              · have BAD : Hid (∀ p, ¬ IsPl s p) := hid (fun p h => by have := (FR.out p h).1; omega)
                have k3 : IntKind.i64.wrap (((ex rs).length : Int) + n) = ((ex rs).length : Int) + n := by rw [IntWalk.i64_in] <;> omega
                clear FR
                generalize (ex rs).length = l at *
                go_wp2_with (first | (go_at_call 52; refine (C0.out _).mono ?_; (first | (rintro e w3 ⟨rfl, rfl⟩) | (rintro e w3 ⟨⟨r, rfl⟩, rfl⟩) | (rintro e w3 ⟨⟨r, rfl, _⟩, rfl⟩))) | (go_at_call 51; refine (C1.out _).mono ?_; (first | (rintro e w3 ⟨rfl, rfl⟩) | (rintro e w3 ⟨⟨r, rfl⟩, rfl⟩) | (rintro e w3 ⟨⟨r, rfl, _⟩, rfl⟩))) | (go_at_call 53; refine (c_l02Tilt _ _).mono ?_; rintro e w' ⟨rfl, rfl⟩; rw [TI.out]) | (refine wpList_store_row rfl 25 _ _ rfl (w.heap.size) zP rfl rfl 25 zP KK.out.z ZZ.out rfl zP_one ?_))
                refine bodyPost_ret (v := .tuple #[.agg zP, .int .i64 5]) (results_row_tmp rfl _ _ (w.heap.size) 25 zP (0, 0) _ rfl (blk_row_same _ _ _ _ _ _ KK.out.z) Tryd.underlying25 rfl ZZ.out _ rfl) rfl ⟨.inr ⟨BAD.out, rfl⟩, below_setRow KK.out.d (Nat.le_refl _) _⟩
              · have k3 : IntKind.i64.wrap (((ex rs).length : Int) + n) = ((ex rs).length : Int) + n := by rw [IntWalk.i64_in] <;> omega
                cases hti : inB t (-64) 64 with
                | false =>
                  have TI := hid hti
                  have BAD : Hid (∀ p, ¬ IsPl s p) := hid (fun p h => by have := (FR.out p h).2.1; rw [hti] at this; cases this)
                  clear FR hti
                  generalize (ex rs).length = l at *
                  go_wp2_with (first | (go_at_call 52; refine (C0.out _).mono ?_; (first | (rintro e w3 ⟨rfl, rfl⟩) | (rintro e w3 ⟨⟨r, rfl⟩, rfl⟩) | (rintro e w3 ⟨⟨r, rfl, _⟩, rfl⟩))) | (go_at_call 51; refine (C1.out _).mono ?_; (first | (rintro e w3 ⟨rfl, rfl⟩) | (rintro e w3 ⟨⟨r, rfl⟩, rfl⟩) | (rintro e w3 ⟨⟨r, rfl, _⟩, rfl⟩))) | (go_at_call 53; refine (c_l02Tilt _ _).mono ?_; rintro e w' ⟨rfl, rfl⟩; rw [TI.out]) | (refine wpList_store_row rfl 25 _ _ rfl (w.heap.size) zP rfl rfl 25 zP KK.out.z ZZ.out rfl zP_one ?_))
                  refine bodyPost_ret (v := .tuple #[.agg zP, .int .i64 5]) (results_row_tmp rfl _ _ (w.heap.size) 25 zP (0, 0) _ rfl (blk_row_same _ _ _ _ _ _ KK.out.z) Tryd.underlying25 rfl ZZ.out _ rfl) rfl ⟨.inr ⟨BAD.out, rfl⟩, below_setRow KK.out.d (Nat.le_refl _) _⟩
                | true =>
                  have TI := hid hti
                  have TG : Hid (-64 ≤ t ∧ t ≤ 64) := hid (by simp [inB] at hti; omega)
                  have RG : Hid (1 ≤ n ∧ (ex rs).length + n ≤ 24) := hid (by omega)
                  clear hti
                  have FR2 := hid (fun p (h : IsPl s p) => (FR.out p h).2.2)
                  clear FR
                  have PL0 := hid (pad_len (rs := rs) LE.out)
                  by_cases hl0 : (ex rs).length = 0
                  · have LA : Hid (lastR rs ≠ some t) := hid (by rw [last_zero OK.out hl0]; simp)
                    have hl0' : ¬ (0 : Int) < ((ex rs).length : Int) := by omega
                    clear hl0
                    go_wp2_with (first | (go_at_call 52; refine (C0.out _).mono ?_; (first | (rintro e w3 ⟨rfl, rfl⟩) | (rintro e w3 ⟨⟨r, rfl⟩, rfl⟩) | (rintro e w3 ⟨⟨r, rfl, _⟩, rfl⟩))) | (go_at_call 51; refine (C1.out _).mono ?_; (first | (rintro e w3 ⟨rfl, rfl⟩) | (rintro e w3 ⟨⟨r, rfl⟩, rfl⟩) | (rintro e w3 ⟨⟨r, rfl, _⟩, rfl⟩))) | (go_at_call 53; refine (c_l02Tilt _ _).mono ?_; rintro e w' ⟨rfl, rfl⟩; rw [TI.out]))
                    go_loopw [13] (fun j wx => ∃ m : Nat, m ≤ n ∧ j = .int .i64 (((ex rs).length + m : Nat) : Int) ∧ KpQ w g q ws (pad (rs ++ [(m, t)])) wx) (fun j _ => (ex rs).length + n - (intOf j).toNat)
                    case atStart => exact ⟨0, by omega, rfl, by rw [pad_zero]; exact KK.out⟩
                    case round =>
                      obtain ⟨m, hm, rfl, hkm⟩ := hrel
                      have KM := hid hkm
                      clear hkm
                      by_cases hmn : m < n
                      · have rg := RG.out
                        have tg := TG.out
                        have PL := hid (pad_len (rs := rs ++ [(m, t)]) (by rw [ex_len]; omega))
                        have cH := (cell_of_row _ _ ((ex rs).length + m) _ _ _ KM.out.b).trans (i16s_at PL.out (show (ex rs).length + m < 24 by omega))
                        have fH := frozen_of_row _ _ ((ex rs).length + m) _ _ KM.out.b
                        have KN := hid (KM.out.set LW.out GQ.out (k := (ex rs).length + m) (by rw [PL.out]; omega) t)
                        have PS := hid (pad_set rs m t (by omega))
                        have wt : IntKind.i16.wrap t = t := IntWalk.i16_in _ (by omega)
                        have hlt2 : (((ex rs).length + m : Nat) : Int) < ((ex rs).length : Int) + n := by omega
                        generalize hq2 : (ex rs).length + m = q2 at *
                        have q24 : (q2 : Int) < 24 := by omega
                        clear tg
                        go_wp2
                        refine ⟨⟨m + 1, by omega, ?_, by rw [PS.out]; exact KN.out⟩, by simp [intOf]; omega⟩
                        rw [show ((q2 : Int) + 1) = (((ex rs).length + (m + 1) : Nat) : Int) by omega]
                      · obtain rfl : m = n := by omega
                        have hlt2 : ¬ (((ex rs).length + m : Nat) : Int) < ((ex rs).length : Int) + m := by omega
                        go_wp2
                        have lt := LT.out
                        have nl := NL.out
                        have rg := RG.out
                        have e1 : wrap64 ((k : Int) + 1) = ((k + 1 : Nat) : Int) := by unfold wrap64; omega
                        rw [e1]
                        refine ⟨⟨k + 1, rs ++ [(m, t)], by omega, ?_, rfl, by rw [ex_len]; go_num, by rw [ex_len]; omega, okR_app.2 ⟨OK.out, ?_⟩, diffR_app DI.out LA.out, KM.out⟩, by simp [intOf]; omega⟩
                        · rw [List.map_append, MP.out, List.take_add_one, List.getElem?_eq_getElem lt]
                          have e2 := HX.out
                          unfold wat at e2
                          rw [List.getD_eq_getElem?_getD, List.getElem?_eq_getElem lt] at e2
                          simp only [Option.getD_some] at e2
                          rw [e2, PK.out]; rfl
                        · intro r hr
                          simp at hr; subst hr
                          have := TG.out
                          simp only; omega
                  · have h1 := last_pad OK.out (by omega)
                    have cG := (cell_of_row _ _ ((ex rs).length - 1) _ _ _ KK.out.b).trans (i16s_at PL0.out (show (ex rs).length - 1 < 24 by omega))
                    have rg := RG.out
                    have pin := pad_in OK.out ((ex rs).length - 1)
                    have wy : IntKind.i64.wrap (iat (pad rs) ((ex rs).length - 1)) = iat (pad rs) ((ex rs).length - 1) := by rw [IntWalk.i64_in] <;> omega
                    have k4 : IntKind.i64.wrap (((ex rs).length : Int) - 1) = (((ex rs).length - 1 : Nat) : Int) := by rw [IntWalk.i64_in] <;> omega
                    have k5 : (((ex rs).length - 1 : Nat) : Int) < 24 := by omega
                    have k6 : (0 : Int) < ((ex rs).length : Int) := by omega
                    clear pin
                    by_cases hy : iat (pad rs) ((ex rs).length - 1) = t
                    · have BAD : Hid (∀ p, ¬ IsPl s p) := hid (fun p h => by have := (FR2.out p h); rw [h1, hy] at this; exact this rfl)
                      clear FR2 h1 rg
                      generalize iat (pad rs) ((ex rs).length - 1) = y at *
                      subst hy
                      generalize (ex rs).length - 1 = l1 at *
                      generalize (ex rs).length = l at *
                      go_wp2_with (first | (go_at_call 52; refine (C0.out _).mono ?_; (first | (rintro e w3 ⟨rfl, rfl⟩) | (rintro e w3 ⟨⟨r, rfl⟩, rfl⟩) | (rintro e w3 ⟨⟨r, rfl, _⟩, rfl⟩))) | (go_at_call 51; refine (C1.out _).mono ?_; (first | (rintro e w3 ⟨rfl, rfl⟩) | (rintro e w3 ⟨⟨r, rfl⟩, rfl⟩) | (rintro e w3 ⟨⟨r, rfl, _⟩, rfl⟩))) | (go_at_call 53; refine (c_l02Tilt _ _).mono ?_; rintro e w' ⟨rfl, rfl⟩; rw [TI.out]) | (refine wpList_store_row rfl 25 _ _ rfl (w.heap.size) zP rfl rfl 25 zP KK.out.z ZZ.out rfl zP_one ?_))
                      refine bodyPost_ret (v := .tuple #[.agg zP, .int .i64 5]) (results_row_tmp rfl _ _ (w.heap.size) 25 zP (0, 0) _ rfl (blk_row_same _ _ _ _ _ _ KK.out.z) Tryd.underlying25 rfl ZZ.out _ rfl) rfl ⟨.inr ⟨BAD.out, rfl⟩, below_setRow KK.out.d (Nat.le_refl _) _⟩
                    · have LA : Hid (lastR rs ≠ some t) := hid (by rw [h1]; simpa using hy)
                      clear h1 rg FR2
                      generalize iat (pad rs) ((ex rs).length - 1) = y at *
                      generalize (ex rs).length - 1 = l1 at *
                      have hyb : (y == t) = false := by simpa using hy
                      have k7 : 0 < (ex rs).length := by omega
                      go_wp2_with (first | (go_at_call 52; refine (C0.out _).mono ?_; (first | (rintro e w3 ⟨rfl, rfl⟩) | (rintro e w3 ⟨⟨r, rfl⟩, rfl⟩) | (rintro e w3 ⟨⟨r, rfl, _⟩, rfl⟩))) | (go_at_call 51; refine (C1.out _).mono ?_; (first | (rintro e w3 ⟨rfl, rfl⟩) | (rintro e w3 ⟨⟨r, rfl⟩, rfl⟩) | (rintro e w3 ⟨⟨r, rfl, _⟩, rfl⟩))) | (go_at_call 53; refine (c_l02Tilt _ _).mono ?_; rintro e w' ⟨rfl, rfl⟩; rw [TI.out]))
                      go_loopw [13] (fun j wx => ∃ m : Nat, m ≤ n ∧ j = .int .i64 (((ex rs).length + m : Nat) : Int) ∧ KpQ w g q ws (pad (rs ++ [(m, t)])) wx) (fun j _ => (ex rs).length + n - (intOf j).toNat)
                      case atStart => exact ⟨0, by omega, rfl, by rw [pad_zero]; exact KK.out⟩
                      case round =>
                        obtain ⟨m, hm, rfl, hkm⟩ := hrel
                        have KM := hid hkm
                        clear hkm
                        by_cases hmn : m < n
                        · have rg := RG.out
                          have tg := TG.out
                          have PL := hid (pad_len (rs := rs ++ [(m, t)]) (by rw [ex_len]; omega))
                          have cH := (cell_of_row _ _ ((ex rs).length + m) _ _ _ KM.out.b).trans (i16s_at PL.out (show (ex rs).length + m < 24 by omega))
                          have fH := frozen_of_row _ _ ((ex rs).length + m) _ _ KM.out.b
                          have KN := hid (KM.out.set LW.out GQ.out (k := (ex rs).length + m) (by rw [PL.out]; omega) t)
                          have PS := hid (pad_set rs m t (by omega))
                          have wt : IntKind.i16.wrap t = t := IntWalk.i16_in _ (by omega)
                          have hlt2 : (((ex rs).length + m : Nat) : Int) < ((ex rs).length : Int) + n := by omega
                          generalize hq2 : (ex rs).length + m = q2 at *
                          have q24 : (q2 : Int) < 24 := by omega
                          clear tg
                          go_wp2
                          refine ⟨⟨m + 1, by omega, ?_, by rw [PS.out]; exact KN.out⟩, by simp [intOf]; omega⟩
                          rw [show ((q2 : Int) + 1) = (((ex rs).length + (m + 1) : Nat) : Int) by omega]
                        · obtain rfl : m = n := by omega
                          have hlt2 : ¬ (((ex rs).length + m : Nat) : Int) < ((ex rs).length : Int) + m := by omega
                          go_wp2
                          have lt := LT.out
                          have nl := NL.out
                          have rg := RG.out
                          have e1 : wrap64 ((k : Int) + 1) = ((k + 1 : Nat) : Int) := by unfold wrap64; omega
                          rw [e1]
                          refine ⟨⟨k + 1, rs ++ [(m, t)], by omega, ?_, rfl, by rw [ex_len]; go_num, by rw [ex_len]; omega, okR_app.2 ⟨OK.out, ?_⟩, diffR_app DI.out LA.out, KM.out⟩, by simp [intOf]; omega⟩
                          · rw [List.map_append, MP.out, List.take_add_one, List.getElem?_eq_getElem lt]
                            have e2 := HX.out
                            unfold wat at e2
                            rw [List.getD_eq_getElem?_getD, List.getElem?_eq_getElem lt] at e2
                            simp only [Option.getD_some] at e2
                            rw [e2, PK.out]; rfl
                          · intro r hr
                            simp at hr; subst hr
                            have := TG.out
                            simp only; omega
      · have BAD : Hid (∀ p, ¬ IsPl s p) := hid (fun p h => h2l (FK.out p h).1)
        clear FK SH PN CC ha2
        generalize (cuts 120 x).length = n2 at *
        have l2 : ¬ (n2 : Int) = 2 := by omega
        go_wp2_with (first | (go_at_call 52; refine (C0.out _).mono ?_; (first | (rintro e w3 ⟨rfl, rfl⟩) | (rintro e w3 ⟨⟨r, rfl⟩, rfl⟩) | (rintro e w3 ⟨⟨r, rfl, _⟩, rfl⟩))) | (go_at_call 51; refine (C1.out _).mono ?_; (first | (rintro e w3 ⟨rfl, rfl⟩) | (rintro e w3 ⟨⟨r, rfl⟩, rfl⟩) | (rintro e w3 ⟨⟨r, rfl, _⟩, rfl⟩))) | (go_at_call 53; refine (c_l02Tilt _ _).mono ?_; rintro e w' ⟨rfl, rfl⟩; rw [TI.out]) | (refine wpList_store_row rfl 25 _ _ rfl (w.heap.size) zP rfl rfl 25 zP KK.out.z ZZ.out rfl zP_one ?_))
        refine bodyPost_ret (v := .tuple #[.agg zP, .int .i64 5]) (results_row_tmp rfl _ _ (w.heap.size) 25 zP (0, 0) _ rfl (blk_row_same _ _ _ _ _ _ KK.out.z) Tryd.underlying25 rfl ZZ.out _ rfl) rfl ⟨.inr ⟨BAD.out, rfl⟩, below_setRow KK.out.d (Nat.le_refl _) _⟩
    · obtain rfl : k = ws.length := by omega
      have m := MP.out
      rw [List.take_length] at m
      by_cases he : (ex rs).length = 24
      · have GOOD := hid (EY.out rs m.symm OK.out DI.out he)
        rw [← pad_full he] at GOOD
        have SE : Hid (zP.size = (i16s (pad rs)).size) := hid (by rw [show (i16s (pad rs)).size = 24 by simp [i16s, pad_len LE.out]]; rfl)
        have ZI : Hid ((Tryd.prog.info? 25).map (·.size) = some (i16s (pad rs)).size) := hid (by rw [show (i16s (pad rs)).size = 24 by simp [i16s, pad_len LE.out]]; kernel_rfl)
        clear m EY EN FN WS
        generalize hlx : (ex rs).length = l at *
        clear hlx
        subst he
        go_wp2_with (first | (refine wpList_load_row rfl 25 _ rfl q rfl 25 (i16s (pad rs)) (0, 0) _ KP.out.b Tryd.underlying25 rfl ZI.out ?_) | (refine wpList_store_row rfl 25 _ _ rfl (w.heap.size) (i16s (pad rs)) rfl rfl 25 zP KP.out.z ZI.out SE.out (i16s_all _) ?_))
        refine bodyPost_ret (v := .tuple #[.agg (i16s (pad rs)), .int .i64 0]) (results_row_tmp rfl _ _ (w.heap.size) 25 (i16s (pad rs)) (0, 0) _ rfl (blk_row_same _ _ _ _ _ _ KP.out.z) Tryd.underlying25 rfl ZI.out _ rfl) rfl ⟨.inl ⟨_, GOOD.out, rfl⟩, below_setRow KP.out.d (Nat.le_refl _) _⟩
      · have BAD := hid (EN.out rs OK.out m he)
        have he' : ¬ ((ex rs).length : Int) = 24 := by omega
        clear m EY EN FN WS
        generalize (ex rs).length = l at *
        go_wp2_with (refine wpList_store_row rfl 25 _ _ rfl (w.heap.size) zP rfl rfl 25 zP KP.out.z ZZ.out rfl zP_one ?_)
        refine bodyPost_ret (v := .tuple #[.agg zP, .int .i64 5]) (results_row_tmp rfl _ _ (w.heap.size) 25 zP (0, 0) _ rfl (blk_row_same _ _ _ _ _ _ KP.out.z) Tryd.underlying25 rfl ZZ.out _ rfl) rfl ⟨.inr ⟨BAD.out, rfl⟩, below_setRow KP.out.d (Nat.le_refl _) _⟩
end Go.Proofs.YtdcjoafagalejaaDoor
