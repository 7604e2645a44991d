/- Controls read from texts: both sides. -/
import Derived.Test.YtdcjoafagalejaaDoorRList
import Derived.Test.YtdcjoafagalejaaDoorRStateS
import Derived.Test.YtdcjoafagalejaaDoorCtl
namespace Go.Proofs.YtdcjoafagalejaaDoor
set_option maxRecDepth 20000
open Go.RowKit

/-- A text is that of a control. -/
structure IsCt (s : List UInt8) (X : Ctl) : Prop where
  len : (cuts 32 s).length = 6
  lo : IsNum (wat (cuts 32 s) 0) X.lo
  hi : IsNum (wat (cuts 32 s) 1) X.hi
  wi : IsNum (wat (cuts 32 s) 2) X.wi
  st : wat (cuts 32 s) 3 = Lib.itoa X.st
  de : wat (cuts 32 s) 4 = Lib.itoa X.de
  ca : wat (cuts 32 s) 5 = Lib.itoa X.ca
  ok : okC X = true
def ctZ : Ctl := ⟨0, 0, 0, 0, 0, 0⟩
theorem okC_in {X : Ctl} (h : okC X = true) : (1 ≤ X.st ∧ X.st ≤ 64) ∧ (0 ≤ X.de ∧ X.de ≤ 20) ∧ (1 ≤ X.ca ∧ X.ca ≤ 20) := by
  simp only [okC, Bool.and_eq_true, inB, decide_eq_true_eq] at h
  omega
theorem isCt_one {s : List UInt8} {X Y : Ctl} (hx : IsCt s X) (hy : IsCt s Y) : X = Y := by
  have a := okC_in hx.ok
  have b := okC_in hy.ok
  have e0 := isNum_one hx.lo hy.lo
  have e1 := isNum_one hx.hi hy.hi
  have e2 := isNum_one hx.wi hy.wi
  have e3 := itoa_inj (by omega) (by omega) (hx.st.symm.trans hy.st)
  have e4 := itoa_inj (by omega) (by omega) (hx.de.symm.trans hy.de)
  have e5 := itoa_inj (by omega) (by omega) (hx.ca.symm.trans hy.ca)
  cases X; cases Y; simp only at *
  subst e0 e1 e2 e3 e4 e5; rfl
def CtRet (s : List UInt8) (e : Ending) : Prop := (∃ X, IsCt s X ∧ e = .returned (.tuple #[.agg (ccells X), .int .i64 0])) ∨ ((∀ X, ¬ IsCt s X) ∧ e = .returned (.tuple #[.agg (ccells ctZ), .int .i64 5]))
theorem wat_drop (ws : List (List UInt8)) (o k : Nat) : wat (ws.drop o) k = wat ws (o + k) := by
  unfold wat; rw [List.getD_eq_getElem?_getD, List.getD_eq_getElem?_getD, List.getElem?_drop]
theorem TxtAt.drop {w : World} {g : Nat} {ws : List (List UInt8)} (h : TxtAt w g 0 ws) (o : Nat) : TxtAt w g o (ws.drop o) := fun k hk => by
  have := h (o + k) (by rw [List.length_drop] at hk; omega)
  rw [Nat.zero_add] at this
  rw [wat_drop]; exact this
theorem c_RNum (s : List UInt8) (w : World) (hE : Errs w) (hD : D64 w) :
    Calls Tryd.prog 46 #[txt s] w fun e w' => (∃ (a : Nat) (d : Int), e = .returned (.tuple #[.float .f32 a, .int .i64 d]) ∧ ((d = 0 ∧ IsNum s a) ∨ (d = 5 ∧ ∀ y, ¬ IsNum s y))) ∧ Below w.heap.size w w' :=
  (c_ReadNumber s w hE hD).mono fun e w' ⟨h, hb⟩ => ⟨by
    rcases h with ⟨y, hy, he⟩ | ⟨hn, he⟩
    · exact ⟨y, 0, he, .inl ⟨rfl, hy⟩⟩
    · exact ⟨0, 5, he, .inr ⟨rfl, hn⟩⟩, hb⟩
theorem c_LNum (s : List UInt8) (w : World) :
    Calls Tryd.prog 44 #[txt s] w fun e w' => (∃ (a : Nat) (b : Bool), e = .returned (.tuple #[.float .f32 a, .bool b]) ∧ ((b = true ∧ IsNum s a) ∨ (b = false ∧ ∀ y, ¬ IsNum s y))) ∧ w = w' :=
  (c_l01Read s w).mono fun e w' ⟨h, hb⟩ => ⟨by
    rcases h with ⟨y, hy, he⟩ | ⟨hn, a, he⟩
    · exact ⟨y, true, he, .inl ⟨rfl, hy⟩⟩
    · exact ⟨a, false, he, .inr ⟨rfl, hn⟩⟩, hb⟩
set_option maxHeartbeats 4000000 in
theorem c_implReadControl (s : List UInt8) (hs : s.length ≤ 1048576) (w : World) (hM : MaxL w) (hT : Tab w) (hE : Errs w) (hD : D64 w) :
    Calls Tryd.prog 28 #[txt s] w fun e w' => CtRet s e ∧ Below w.heap.size w w' := by
  have HB0 : Hid ((w.alloc (.cells (ccells ctZ) 42)).heap[w.heap.size]? = some (.cells (ccells ctZ) 42 (0, 0))) := hid (blk_at _ _ _ rfl)
  have H0 : Hid (Below w.heap.size w (w.alloc (.cells (ccells ctZ) 42))) := hid ((Below.refl _ _).alloc (Nat.le_refl _) _)
  have ZZ : Hid ((Tryd.prog.info? 42).map (·.size) = some (ccells ctZ).size) := hid (by kernel_rfl)
  have CS := hid (fun w2 (h : Below w.heap.size w w2) => let ⟨m, hm⟩ := hM.below h; c_Split s 32 hs m w2 hm)
  have TT := hid hT
  have EE := hid hE
  have DD := hid hD
  have CR := hid (fun g w2 (h : Below w.heap.size w w2) (hA : TxtAt w2 g 0 (cuts 32 s)) => c_readWholes g 3 ((cuts 32 s).length - 3) ((cuts 32 s).drop 3) 0 64 w2 (hA.drop 3) (fun k hk => by rw [wat_drop]; exact Nat.le_trans (wat_short (by rw [List.length_drop] at hk; omega)) hs) (by rw [List.length_drop]; have := cuts_len 32 s; omega) (hT.below h) (hE.below h))
  have NLEN : Hid ((cuts 32 s).length ≠ 6 → ∀ X, ¬ IsCt s X) := hid (fun h X hx => h hx.len)
  have N0 : Hid ((∀ y, ¬ IsNum (wat (cuts 32 s) 0) y) → ∀ X, ¬ IsCt s X) := hid (fun h X hx => h _ hx.lo)
  have N1 : Hid ((∀ y, ¬ IsNum (wat (cuts 32 s) 1) y) → ∀ X, ¬ IsCt s X) := hid (fun h X hx => h _ hx.hi)
  have N2 : Hid ((∀ y, ¬ IsNum (wat (cuts 32 s) 2) y) → ∀ X, ¬ IsCt s X) := hid (fun h X hx => h _ hx.wi)
  have NW : Hid ((∃ k, k < ((cuts 32 s).drop 3).length ∧ inR 0 64 (wat ((cuts 32 s).drop 3) k) = none) → ∀ X, ¬ IsCt s X) := hid (fun ⟨k, hk, h⟩ X hx => by
    have a := okC_in hx.ok
    have e : ∀ v : Int, 0 ≤ v ∧ v ≤ 64 → inR 0 64 (Lib.itoa v) = some v := fun v hv => (inR_itoa (by omega) (by omega)).2 ⟨rfl, hv⟩
    rw [List.length_drop, hx.len] at hk
    rw [wat_drop] at h
    rcases (by omega : k = 0 ∨ k = 1 ∨ k = 2) with rfl | rfl | rfl
    · rw [show 3 + 0 = 3 from rfl, hx.st, e _ (by omega)] at h; cases h
    · rw [show 3 + 1 = 4 from rfl, hx.de, e _ (by omega)] at h; cases h
    · rw [show 3 + 2 = 5 from rfl, hx.ca, e _ (by omega)] at h; cases h)
  have YES : Hid (∀ (a b c : Nat) (x y z : Int), (cuts 32 s).length = 6 → IsNum (wat (cuts 32 s) 0) a → IsNum (wat (cuts 32 s) 1) b → IsNum (wat (cuts 32 s) 2) c → (cuts 32 s).drop 3 = [Lib.itoa x, Lib.itoa y, Lib.itoa z] → (0 ≤ x ∧ x ≤ 64) → (0 ≤ y ∧ y ≤ 64) → (0 ≤ z ∧ z ≤ 64) → (okC ⟨a, b, c, x, y, z⟩ = true → IsCt s ⟨a, b, c, x, y, z⟩) ∧ (okC ⟨a, b, c, x, y, z⟩ = false → ∀ X, ¬ IsCt s X)) := hid (fun a b c x y z h6 ha hb hc hd hx hy hz => by
    have w3 : wat (cuts 32 s) 3 = Lib.itoa x := by have := wat_drop (cuts 32 s) 3 0; rw [hd] at this; exact this.symm
    have w4 : wat (cuts 32 s) 4 = Lib.itoa y := by have := wat_drop (cuts 32 s) 3 1; rw [hd] at this; exact this.symm
    have w5 : wat (cuts 32 s) 5 = Lib.itoa z := by have := wat_drop (cuts 32 s) 3 2; rw [hd] at this; exact this.symm
    refine ⟨fun ho => ⟨h6, ha, hb, hc, w3, w4, w5, ho⟩, fun ho X h => ?_⟩
    have o := okC_in h.ok
    have e3 := itoa_inj (by omega) (by omega) (h.st.symm.trans w3)
    have e4 := itoa_inj (by omega) (by omega) (h.de.symm.trans w4)
    have e5 := itoa_inj (by omega) (by omega) (h.ca.symm.trans w5)
    have e0 := isNum_one h.lo ha
    have e1 := isNum_one h.hi hb
    have e2 := isNum_one h.wi hc
    have ok := h.ok
    cases X
    simp only at *
    subst e0 e1 e2 e3 e4 e5
    rw [ho] at ok; cases ok)
  clear hM hT hE hD hs
  go_enter Tryd.func28, Tryd.ntmps28
  go_wp2_with fail
  refine (CS.out _ H0.out).mono ?_
  rintro e w1 ⟨rfl, ha, h1⟩
  have A1 := hid (show TxtAt w1 (w.alloc (.cells (ccells ctZ) 42)).heap.size 0 (cuts 32 s) from ha)
  have D1 := hid (below_trans H0.out h1 H0.out.size)
  have B1 := hid ((h1.block _ (block_lt HB0.out)).trans HB0.out)
  clear h1 ha CS
  generalize (w.alloc (.cells (ccells ctZ) 42)).heap.size = g at *
  generalize cuts 32 s = ws at *
  by_cases h6 : ws.length = 6
  · have c0 : w1.cell? ⟨g, 0, none⟩ = some (txt (wat ws 0)) := by have := A1.out 0 (by omega); simpa using this
    have c1 : w1.cell? ⟨g, 1, none⟩ = some (txt (wat ws 1)) := by have := A1.out 1 (by omega); simpa using this
    have c2 : w1.cell? ⟨g, 2, none⟩ = some (txt (wat ws 2)) := by have := A1.out 2 (by omega); simpa using this
    have Q1 := hid c1
    have Q2 := hid c2
    have DL : Hid ((ws.drop 3).length = 3) := hid (by rw [List.length_drop, h6])
    have Y6 := hid (fun a b c x y z => YES.out a b c x y z h6)
    have CR2 := hid (fun w2 h hA => CR.out g w2 h hA)
    rw [DL.out, h6] at CR2
    clear CR YES NLEN c1 c2
    generalize ws.length = n at *
    subst h6
    go_wp2_with fail
    refine (c_RNum (wat ws 0) _ (EE.out.below D1.out) (DD.out.below D1.out)).mono ?_
    rintro e w2 ⟨⟨a0, d0, rfl, f0⟩, h2⟩
    have F0 := hid f0
    have D2 := hid (below_trans D1.out h2 D1.out.size)
    have B2 := hid ((h2.block _ (block_lt B1.out)).trans B1.out)
    have A2 := hid (A1.out.below h2)
    have c1 := cell_stays h2 Q1.out
    have Q22 := hid (cell_stays h2 Q2.out)
    clear h2 f0 c0
    go_wp2_with fail
    refine (c_RNum (wat ws 1) _ (EE.out.below D2.out) (DD.out.below D2.out)).mono ?_
    rintro e w3 ⟨⟨a1, d1, rfl, f1⟩, h3⟩
    have F1 := hid f1
    have D3 := hid (below_trans D2.out h3 D2.out.size)
    have B3 := hid ((h3.block _ (block_lt B2.out)).trans B2.out)
    have A3 := hid (A2.out.below h3)
    have c2 := cell_stays h3 Q22.out
    clear h3 f1 c1
    go_wp2_with fail
    refine (c_RNum (wat ws 2) _ (EE.out.below D3.out) (DD.out.below D3.out)).mono ?_
    rintro e w4 ⟨⟨a2, d2, rfl, f2⟩, h4⟩
    have F2 := hid f2
    have D4 := hid (below_trans D3.out h4 D3.out.size)
    have B4 := hid ((h4.block _ (block_lt B3.out)).trans B3.out)
    have A4 := hid (A3.out.below h4)
    clear h4 f2 c2
    go_wp2_with fail
    refine (CR2.out _ D4.out A4.out).mono ?_
    rintro e w5 ⟨hr, h5⟩
    have D5 := hid (below_trans D4.out h5 D4.out.size)
    have B5 := hid ((h5.block _ (block_lt B4.out)).trans B4.out)
    clear h5 CR2
    rcases hr with ⟨zs, b, cb, hm, rfl, hc⟩ | ⟨hk, rfl⟩
    · obtain ⟨x, y, z, rfl, hw, hx, hy, hz⟩ := map_three hm DL.out (by omega) (by omega)
      have z0 : w5.cell? ⟨b, 0, none⟩ = some (.int .i64 x) := hc 0 (by omega)
      have z1 : w5.cell? ⟨b, 1, none⟩ = some (.int .i64 y) := hc 1 (by omega)
      have z2 : w5.cell? ⟨b, 2, none⟩ = some (.int .i64 z) := hc 2 (by omega)
      rcases F0.out with ⟨rfl, i0⟩ | ⟨rfl, n0⟩
      · rcases F1.out with ⟨rfl, i1⟩ | ⟨rfl, n1⟩
        · rcases F2.out with ⟨rfl, i2⟩ | ⟨rfl, n2⟩
          · have YY := hid (Y6.out a0 a1 a2 x y z i0 i1 i2 hw hx hy hz)
            have wx : IntKind.i8.wrap x = x := IntWalk.i8_in _ (by omega)
            have wy : IntKind.i8.wrap y = y := IntWalk.i8_in _ (by omega)
            have wz : IntKind.i8.wrap z = z := IntWalk.i8_in _ (by omega)
            have CV := hid (fun w => show Calls Tryd.prog 49 #[.agg #[.float .f32 a0, .float .f32 a1, .float .f32 a2, .int .i8 x, .int .i8 y, .int .i8 z]] w fun e w' => e = .returned (.bool (okC ⟨a0, a1, a2, x, y, z⟩)) ∧ Below w.heap.size w w' from c_ValidCtl ⟨a0, a1, a2, x, y, z⟩ ⟨i0.1, i1.1, i2.1, by simp; omega, by simp; omega, by simp; omega⟩ w)
            have d0_ : (w5.alloc (.cells #[.float .f32 0, .float .f32 0, .float .f32 0, .int .i8 0, .int .i8 0, .int .i8 0] 42)).cell? ⟨b, 0, none⟩ = some (.int .i64 x) := (World.cell?_alloc_past _ _ _ (block_lt_of_cell z0)).trans z0
            have d1_ : (w5.alloc (.cells #[.float .f32 0, .float .f32 0, .float .f32 0, .int .i8 0, .int .i8 0, .int .i8 0] 42)).cell? ⟨b, 1, none⟩ = some (.int .i64 y) := (World.cell?_alloc_past _ _ _ (block_lt_of_cell z1)).trans z1
            have d2_ : (w5.alloc (.cells #[.float .f32 0, .float .f32 0, .float .f32 0, .int .i8 0, .int .i8 0, .int .i8 0] 42)).cell? ⟨b, 2, none⟩ = some (.int .i64 z) := (World.cell?_alloc_past _ _ _ (block_lt_of_cell z2)).trans z2
            have H3 : Hid (Below w.heap.size w (w5.alloc (.cells #[.float .f32 a0, .float .f32 a1, .float .f32 a2, .int .i8 x, .int .i8 y, .int .i8 z] 42)).drew) := hid (below_drawn (D5.out.alloc D5.out.size _) _)
            have LT2 := block_lt B5.out
            have K3 : Hid ((w5.alloc (.cells #[.float .f32 a0, .float .f32 a1, .float .f32 a2, .int .i8 x, .int .i8 y, .int .i8 z] 42)).drew.heap[w.heap.size]? = some (.cells (ccells ctZ) 42 (0, 0))) := hid ((blk_past _ _ _ LT2).trans B5.out)
            have N3 : Hid ((w5.alloc (.cells #[.float .f32 a0, .float .f32 a1, .float .f32 a2, .int .i8 x, .int .i8 y, .int .i8 z] 42)).drew.heap[w5.heap.size]? = some (.cells (ccells ⟨a0, a1, a2, x, y, z⟩) 42 (0, 0))) := hid (blk_at _ _ _ rfl)
            clear LT2
            clear i0 i1 i2 hm hw hx hy hz hc NW N0 N1 N2 Y6
            go_wp2_with fail
            go_region
            cases ho : okC ⟨a0, a1, a2, x, y, z⟩
            · have BAD := hid (YY.out.2 ho)
              have HO := hid ho
              clear ho z0 z1 z2 d0_ d1_ d2_
              go_wp2_with (first | (go_at_call 49; refine (CV.out _).mono ?_; rintro e w6 ⟨rfl, h6⟩; have D6 := hid (below_trans H3.out h6 H3.out.size); have B6 := hid ((h6.block _ (block_lt K3.out)).trans K3.out); have N6 := hid ((h6.block _ (block_lt N3.out)).trans N3.out); clear h6; rw [HO.out]) | (refine wpList_load_row rfl 42 _ rfl (w5.heap.size) rfl 42 (ccells ⟨a0, a1, a2, x, y, z⟩) (0, 0) _ N6.out Tryd.underlying42 rfl ZZ.out ?_) | (refine wpList_store_row rfl 42 _ _ rfl (w.heap.size) (ccells ctZ) rfl rfl 42 (ccells ctZ) B6.out ZZ.out rfl (ccells_one _) ?_))
              refine bodyPost_ret (v := .tuple #[.agg (ccells ctZ), .int .i64 5]) (results_row_tmp rfl _ _ (w.heap.size) 42 (ccells ctZ) (0, 0) _ rfl (blk_row_same _ _ _ _ _ _ B6.out) Tryd.underlying42 rfl ZZ.out _ rfl) rfl ⟨.inr ⟨BAD.out, rfl⟩, below_setRow D6.out (Nat.le_refl _) _⟩
            · have GOOD := hid (YY.out.1 ho)
              have HO := hid ho
              clear ho z0 z1 z2 d0_ d1_ d2_
              go_wp2_with (first | (go_at_call 49; refine (CV.out _).mono ?_; rintro e w6 ⟨rfl, h6⟩; have D6 := hid (below_trans H3.out h6 H3.out.size); have B6 := hid ((h6.block _ (block_lt K3.out)).trans K3.out); have N6 := hid ((h6.block _ (block_lt N3.out)).trans N3.out); clear h6; rw [HO.out]) | (refine wpList_load_row rfl 42 _ rfl (w5.heap.size) rfl 42 (ccells ⟨a0, a1, a2, x, y, z⟩) (0, 0) _ N6.out Tryd.underlying42 rfl ZZ.out ?_) | (refine wpList_store_row rfl 42 _ _ rfl (w.heap.size) (ccells ⟨a0, a1, a2, x, y, z⟩) rfl rfl 42 (ccells ctZ) B6.out ZZ.out rfl (ccells_one _) ?_))
              refine bodyPost_ret (v := .tuple #[.agg (ccells ⟨a0, a1, a2, x, y, z⟩), .int .i64 0]) (results_row_tmp rfl _ _ (w.heap.size) 42 (ccells ⟨a0, a1, a2, x, y, z⟩) (0, 0) _ rfl (blk_row_same _ _ _ _ _ _ B6.out) Tryd.underlying42 rfl ZZ.out _ rfl) rfl ⟨.inl ⟨_, GOOD.out, rfl⟩, below_setRow D6.out (Nat.le_refl _) _⟩
          · have BAD := hid (N2.out n2)
            clear z0 z1 z2 hm hw hx hy hz hc NW N0 N1 N2 Y6
            go_wp2_with (first | (refine wpList_store_row rfl 42 _ _ rfl (w.heap.size) (ccells ctZ) rfl rfl 42 (ccells ctZ) B5.out ZZ.out rfl (ccells_one _) ?_))
            refine bodyPost_ret (v := .tuple #[.agg (ccells ctZ), .int .i64 5]) (results_row_tmp rfl _ _ (w.heap.size) 42 (ccells ctZ) (0, 0) _ rfl (blk_row_same _ _ _ _ _ _ B5.out) Tryd.underlying42 rfl ZZ.out _ rfl) rfl ⟨.inr ⟨BAD.out, rfl⟩, below_setRow D5.out (Nat.le_refl _) _⟩
        · have BAD := hid (N1.out n1)
          clear z0 z1 z2 hm hw hx hy hz hc NW N0 N1 N2 Y6
          go_wp2_with (first | (refine wpList_store_row rfl 42 _ _ rfl (w.heap.size) (ccells ctZ) rfl rfl 42 (ccells ctZ) B5.out ZZ.out rfl (ccells_one _) ?_))
          refine bodyPost_ret (v := .tuple #[.agg (ccells ctZ), .int .i64 5]) (results_row_tmp rfl _ _ (w.heap.size) 42 (ccells ctZ) (0, 0) _ rfl (blk_row_same _ _ _ _ _ _ B5.out) Tryd.underlying42 rfl ZZ.out _ rfl) rfl ⟨.inr ⟨BAD.out, rfl⟩, below_setRow D5.out (Nat.le_refl _) _⟩
      · have BAD := hid (N0.out n0)
        clear z0 z1 z2 hm hw hx hy hz hc NW N0 N1 N2 Y6
        go_wp2_with (first | (refine wpList_store_row rfl 42 _ _ rfl (w.heap.size) (ccells ctZ) rfl rfl 42 (ccells ctZ) B5.out ZZ.out rfl (ccells_one _) ?_))
        refine bodyPost_ret (v := .tuple #[.agg (ccells ctZ), .int .i64 5]) (results_row_tmp rfl _ _ (w.heap.size) 42 (ccells ctZ) (0, 0) _ rfl (blk_row_same _ _ _ _ _ _ B5.out) Tryd.underlying42 rfl ZZ.out _ rfl) rfl ⟨.inr ⟨BAD.out, rfl⟩, below_setRow D5.out (Nat.le_refl _) _⟩
    · have BAD := hid (NW.out (by rw [DL.out]; exact hk))
      clear hk NW N0 N1 N2 Y6
      rcases F0.out with ⟨rfl, _⟩ | ⟨rfl, _⟩
      · rcases F1.out with ⟨rfl, _⟩ | ⟨rfl, _⟩
        · rcases F2.out with ⟨rfl, _⟩ | ⟨rfl, _⟩
          · skip
            go_wp2_with (first | (refine wpList_store_row rfl 42 _ _ rfl (w.heap.size) (ccells ctZ) rfl rfl 42 (ccells ctZ) B5.out ZZ.out rfl (ccells_one _) ?_))
            refine bodyPost_ret (v := .tuple #[.agg (ccells ctZ), .int .i64 5]) (results_row_tmp rfl _ _ (w.heap.size) 42 (ccells ctZ) (0, 0) _ rfl (blk_row_same _ _ _ _ _ _ B5.out) Tryd.underlying42 rfl ZZ.out _ rfl) rfl ⟨.inr ⟨BAD.out, rfl⟩, below_setRow D5.out (Nat.le_refl _) _⟩
          · skip
            go_wp2_with (first | (refine wpList_store_row rfl 42 _ _ rfl (w.heap.size) (ccells ctZ) rfl rfl 42 (ccells ctZ) B5.out ZZ.out rfl (ccells_one _) ?_))
            refine bodyPost_ret (v := .tuple #[.agg (ccells ctZ), .int .i64 5]) (results_row_tmp rfl _ _ (w.heap.size) 42 (ccells ctZ) (0, 0) _ rfl (blk_row_same _ _ _ _ _ _ B5.out) Tryd.underlying42 rfl ZZ.out _ rfl) rfl ⟨.inr ⟨BAD.out, rfl⟩, below_setRow D5.out (Nat.le_refl _) _⟩
        · skip
          go_wp2_with (first | (refine wpList_store_row rfl 42 _ _ rfl (w.heap.size) (ccells ctZ) rfl rfl 42 (ccells ctZ) B5.out ZZ.out rfl (ccells_one _) ?_))
          refine bodyPost_ret (v := .tuple #[.agg (ccells ctZ), .int .i64 5]) (results_row_tmp rfl _ _ (w.heap.size) 42 (ccells ctZ) (0, 0) _ rfl (blk_row_same _ _ _ _ _ _ B5.out) Tryd.underlying42 rfl ZZ.out _ rfl) rfl ⟨.inr ⟨BAD.out, rfl⟩, below_setRow D5.out (Nat.le_refl _) _⟩
      · skip
        go_wp2_with (first | (refine wpList_store_row rfl 42 _ _ rfl (w.heap.size) (ccells ctZ) rfl rfl 42 (ccells ctZ) B5.out ZZ.out rfl (ccells_one _) ?_))
        refine bodyPost_ret (v := .tuple #[.agg (ccells ctZ), .int .i64 5]) (results_row_tmp rfl _ _ (w.heap.size) 42 (ccells ctZ) (0, 0) _ rfl (blk_row_same _ _ _ _ _ _ B5.out) Tryd.underlying42 rfl ZZ.out _ rfl) rfl ⟨.inr ⟨BAD.out, rfl⟩, below_setRow D5.out (Nat.le_refl _) _⟩
  · have BAD := hid (NLEN.out h6)
    have l6 : ¬ (ws.length : Int) = 6 := by omega
    clear NLEN N0 N1 N2 NW YES CR A1 h6
    generalize ws.length = n at *
    go_wp2_with (first | (refine wpList_store_row rfl 42 _ _ rfl (w.heap.size) (ccells ctZ) rfl rfl 42 (ccells ctZ) B1.out ZZ.out rfl (ccells_one _) ?_))
    refine bodyPost_ret (v := .tuple #[.agg (ccells ctZ), .int .i64 5]) (results_row_tmp rfl _ _ (w.heap.size) 42 (ccells ctZ) (0, 0) _ rfl (blk_row_same _ _ _ _ _ _ B1.out) Tryd.underlying42 rfl ZZ.out _ rfl) rfl ⟨.inr ⟨BAD.out, rfl⟩, below_setRow D1.out (Nat.le_refl _) _⟩
theorem c_LNm (s : List UInt8) (hL : s.length ≤ 1048576) (w : World) :
    Calls Tryd.prog 52 #[txt s] w fun e w' => (∃ (r : Int) (q : Bool), e = .returned (.tuple #[.int .i64 r, .bool q]) ∧ ((q = true ∧ ∃ v : Nat, numOf s = some v ∧ r = v) ∨ (q = false ∧ numOf s = none))) ∧ w = w' :=
  (c_l01Number s hL w).mono fun e w' ⟨⟨r, he, hr⟩, hw⟩ => ⟨⟨r, _, he, by
    cases h : numOf s with
    | none => exact .inr ⟨rfl, rfl⟩
    | some v => exact .inl ⟨rfl, v, rfl, hr v h⟩⟩, hw⟩
set_option maxHeartbeats 4000000 in
theorem c_specReadControl (s : List UInt8) (hs : s.length ≤ 1048576) (w : World) :
    Calls Tryd.prog 27 #[txt s] w fun e w' => CtRet s e ∧ Below w.heap.size w w' := by
  have HB0 : Hid ((w.alloc (.cells (ccells ctZ) 42)).heap[w.heap.size]? = some (.cells (ccells ctZ) 42 (0, 0))) := hid (blk_at _ _ _ rfl)
  have H0 : Hid (Below w.heap.size w (w.alloc (.cells (ccells ctZ) 42))) := hid ((Below.refl _ _).alloc (Nat.le_refl _) _)
  have ZZ : Hid ((Tryd.prog.info? 42).map (·.size) = some (ccells ctZ).size) := hid (by kernel_rfl)
  have CS := hid (fun w2 => c_l01Split s 32 hs w2)
  have WS := hid (fun k (h : k < (cuts 32 s).length) => Nat.le_trans (wat_short (c := 32) (s := s) h) hs)
  have NLEN : Hid ((cuts 32 s).length ≠ 6 → ∀ X, ¬ IsCt s X) := hid (fun h X hx => h hx.len)
  have N0 : Hid ((∀ y, ¬ IsNum (wat (cuts 32 s) 0) y) → ∀ X, ¬ IsCt s X) := hid (fun h X hx => h _ hx.lo)
  have N1 : Hid ((∀ y, ¬ IsNum (wat (cuts 32 s) 1) y) → ∀ X, ¬ IsCt s X) := hid (fun h X hx => h _ hx.hi)
  have N2 : Hid ((∀ y, ¬ IsNum (wat (cuts 32 s) 2) y) → ∀ X, ¬ IsCt s X) := hid (fun h X hx => h _ hx.wi)
  have N3 : Hid (∀ X, IsCt s X → numOf (wat (cuts 32 s) 3) = some X.st.toNat ∧ X.st ≤ 64) := hid (fun X hx => by
    have a := okC_in hx.ok
    rw [hx.st]; exact ⟨num_itoa (by omega) (by omega), by omega⟩)
  have N4 : Hid (∀ X, IsCt s X → numOf (wat (cuts 32 s) 4) = some X.de.toNat ∧ X.de ≤ 64) := hid (fun X hx => by
    have a := okC_in hx.ok
    rw [hx.de]; exact ⟨num_itoa (by omega) (by omega), by omega⟩)
  have N5 : Hid (∀ X, IsCt s X → numOf (wat (cuts 32 s) 5) = some X.ca.toNat ∧ X.ca ≤ 64) := hid (fun X hx => by
    have a := okC_in hx.ok
    rw [hx.ca]; exact ⟨num_itoa (by omega) (by omega), by omega⟩)
  have YES : Hid (∀ (a b c x y z : Nat), (cuts 32 s).length = 6 → IsNum (wat (cuts 32 s) 0) a → IsNum (wat (cuts 32 s) 1) b → IsNum (wat (cuts 32 s) 2) c → numOf (wat (cuts 32 s) 3) = some x → numOf (wat (cuts 32 s) 4) = some y → numOf (wat (cuts 32 s) 5) = some z → (okC ⟨a, b, c, x, y, z⟩ = true → IsCt s ⟨a, b, c, x, y, z⟩) ∧ (okC ⟨a, b, c, x, y, z⟩ = false → ∀ X, ¬ IsCt s X)) := hid (fun a b c x y z h6 ha hb hc hx hy hz => by
    have w3 : wat (cuts 32 s) 3 = Lib.itoa x := by rw [((numOf_iff _ _).1 hx).2, Lib.itoa_nonneg]
    have w4 : wat (cuts 32 s) 4 = Lib.itoa y := by rw [((numOf_iff _ _).1 hy).2, Lib.itoa_nonneg]
    have w5 : wat (cuts 32 s) 5 = Lib.itoa z := by rw [((numOf_iff _ _).1 hz).2, Lib.itoa_nonneg]
    have bx := numOf_lt hx
    have bY := numOf_lt hy
    have bz := numOf_lt hz
    refine ⟨fun ho => ⟨h6, ha, hb, hc, w3, w4, w5, ho⟩, fun ho X h => ?_⟩
    have o := okC_in h.ok
    have e3 := itoa_inj (by omega) (by omega) (h.st.symm.trans w3)
    have e4 := itoa_inj (by omega) (by omega) (h.de.symm.trans w4)
    have e5 := itoa_inj (by omega) (by omega) (h.ca.symm.trans w5)
    have e0 := isNum_one h.lo ha
    have e1 := isNum_one h.hi hb
    have e2 := isNum_one h.wi hc
    have ok := h.ok
    cases X
    simp only at *
    subst e0 e1 e2 e3 e4 e5
    rw [ho] at ok; cases ok)
  clear hs
  go_enter Tryd.func27, Tryd.ntmps27
  go_wp2_with fail
  refine (CS.out _).mono ?_
  rintro e w1 ⟨⟨g, cg, rfl, ha⟩, h1⟩
  have A1 := hid ha
  have D1 := hid (below_trans H0.out h1 H0.out.size)
  have B1 := hid ((h1.block _ (block_lt HB0.out)).trans HB0.out)
  clear h1 ha CS HB0 H0
  generalize cuts 32 s = ws at *
  by_cases h6 : ws.length = 6
  · have c0 : w1.cell? ⟨g, 0, none⟩ = some (txt (wat ws 0)) := by have := A1.out 0 (by omega); simpa using this
    have c1 : w1.cell? ⟨g, 1, none⟩ = some (txt (wat ws 1)) := by have := A1.out 1 (by omega); simpa using this
    have c2 : w1.cell? ⟨g, 2, none⟩ = some (txt (wat ws 2)) := by have := A1.out 2 (by omega); simpa using this
    have c3 : w1.cell? ⟨g, 3, none⟩ = some (txt (wat ws 3)) := by have := A1.out 3 (by omega); simpa using this
    have c4 : w1.cell? ⟨g, 4, none⟩ = some (txt (wat ws 4)) := by have := A1.out 4 (by omega); simpa using this
    have c5 : w1.cell? ⟨g, 5, none⟩ = some (txt (wat ws 5)) := by have := A1.out 5 (by omega); simpa using this
    have S3 := hid (WS.out 3 (by omega))
    have S4 := hid (WS.out 4 (by omega))
    have S5 := hid (WS.out 5 (by omega))
    have Y6 := hid (fun a b c x y z => YES.out a b c x y z h6)
    clear YES NLEN WS A1
    generalize ws.length = n at *
    subst h6
    go_wp2_with fail
    refine (c_LNum (wat ws 0) _).mono ?_
    rintro e w2 ⟨⟨a0, b0, rfl, f0⟩, rfl⟩
    have F0 := hid f0
    clear f0
    go_wp2_with fail
    refine (c_LNum (wat ws 1) _).mono ?_
    rintro e w2 ⟨⟨a1, b1, rfl, f1⟩, rfl⟩
    have F1 := hid f1
    clear f1
    go_wp2_with fail
    refine (c_LNum (wat ws 2) _).mono ?_
    rintro e w2 ⟨⟨a2, b2, rfl, f2⟩, rfl⟩
    have F2 := hid f2
    clear f2
    go_wp2_with fail
    refine (c_LNm (wat ws 3) S3.out _).mono ?_
    rintro e w2 ⟨⟨r3, q3, rfl, f3⟩, rfl⟩
    have F3 := hid f3
    clear f3
    go_wp2_with fail
    refine (c_LNm (wat ws 4) S4.out _).mono ?_
    rintro e w2 ⟨⟨r4, q4, rfl, f4⟩, rfl⟩
    have F4 := hid f4
    clear f4
    go_wp2_with fail
    refine (c_LNm (wat ws 5) S5.out _).mono ?_
    rintro e w2 ⟨⟨r5, q5, rfl, f5⟩, rfl⟩
    have F5 := hid f5
    clear f5 S3 S4 S5 c0 c1 c2 c3 c4 c5
    rcases F0.out with ⟨rfl, i0⟩ | ⟨rfl, n0⟩
    case inr =>
      have BAD := hid (N0.out n0)
      clear N0 N1 N2 N3 N4 N5 Y6 n0
      go_wp2_with (first | (refine wpList_store_row rfl 42 _ _ rfl (w.heap.size) (ccells ctZ) rfl rfl 42 (ccells ctZ) B1.out ZZ.out rfl (ccells_one _) ?_))
      refine bodyPost_ret (v := .tuple #[.agg (ccells ctZ), .int .i64 5]) (results_row_tmp rfl _ _ (w.heap.size) 42 (ccells ctZ) (0, 0) _ rfl (blk_row_same _ _ _ _ _ _ B1.out) Tryd.underlying42 rfl ZZ.out _ rfl) rfl ⟨.inr ⟨BAD.out, rfl⟩, below_setRow D1.out (Nat.le_refl _) _⟩
    rcases F1.out with ⟨rfl, i1⟩ | ⟨rfl, n1⟩
    case inr =>
      have BAD := hid (N1.out n1)
      clear N0 N1 N2 N3 N4 N5 Y6 n1
      go_wp2_with (first | (refine wpList_store_row rfl 42 _ _ rfl (w.heap.size) (ccells ctZ) rfl rfl 42 (ccells ctZ) B1.out ZZ.out rfl (ccells_one _) ?_))
      refine bodyPost_ret (v := .tuple #[.agg (ccells ctZ), .int .i64 5]) (results_row_tmp rfl _ _ (w.heap.size) 42 (ccells ctZ) (0, 0) _ rfl (blk_row_same _ _ _ _ _ _ B1.out) Tryd.underlying42 rfl ZZ.out _ rfl) rfl ⟨.inr ⟨BAD.out, rfl⟩, below_setRow D1.out (Nat.le_refl _) _⟩
    rcases F2.out with ⟨rfl, i2⟩ | ⟨rfl, n2⟩
    case inr =>
      have BAD := hid (N2.out n2)
      clear N0 N1 N2 N3 N4 N5 Y6 n2
      go_wp2_with (first | (refine wpList_store_row rfl 42 _ _ rfl (w.heap.size) (ccells ctZ) rfl rfl 42 (ccells ctZ) B1.out ZZ.out rfl (ccells_one _) ?_))
      refine bodyPost_ret (v := .tuple #[.agg (ccells ctZ), .int .i64 5]) (results_row_tmp rfl _ _ (w.heap.size) 42 (ccells ctZ) (0, 0) _ rfl (blk_row_same _ _ _ _ _ _ B1.out) Tryd.underlying42 rfl ZZ.out _ rfl) rfl ⟨.inr ⟨BAD.out, rfl⟩, below_setRow D1.out (Nat.le_refl _) _⟩
    rcases F3.out with ⟨rfl, x, e3, rfl⟩ | ⟨rfl, n3⟩
    case inr =>
      have BAD : Hid (∀ X, ¬ IsCt s X) := hid (fun X h => by have := (N3.out X h).1; rw [n3] at this; cases this)
      clear N0 N1 N2 N3 N4 N5 Y6 n3
      go_wp2_with (first | (refine wpList_store_row rfl 42 _ _ rfl (w.heap.size) (ccells ctZ) rfl rfl 42 (ccells ctZ) B1.out ZZ.out rfl (ccells_one _) ?_))
      refine bodyPost_ret (v := .tuple #[.agg (ccells ctZ), .int .i64 5]) (results_row_tmp rfl _ _ (w.heap.size) 42 (ccells ctZ) (0, 0) _ rfl (blk_row_same _ _ _ _ _ _ B1.out) Tryd.underlying42 rfl ZZ.out _ rfl) rfl ⟨.inr ⟨BAD.out, rfl⟩, below_setRow D1.out (Nat.le_refl _) _⟩
    rcases F4.out with ⟨rfl, y, e4, rfl⟩ | ⟨rfl, n4⟩
    case inr =>
      have BAD : Hid (∀ X, ¬ IsCt s X) := hid (fun X h => by have := (N4.out X h).1; rw [n4] at this; cases this)
      clear N0 N1 N2 N3 N4 N5 Y6 n4
      go_wp2_with (first | (refine wpList_store_row rfl 42 _ _ rfl (w.heap.size) (ccells ctZ) rfl rfl 42 (ccells ctZ) B1.out ZZ.out rfl (ccells_one _) ?_))
      refine bodyPost_ret (v := .tuple #[.agg (ccells ctZ), .int .i64 5]) (results_row_tmp rfl _ _ (w.heap.size) 42 (ccells ctZ) (0, 0) _ rfl (blk_row_same _ _ _ _ _ _ B1.out) Tryd.underlying42 rfl ZZ.out _ rfl) rfl ⟨.inr ⟨BAD.out, rfl⟩, below_setRow D1.out (Nat.le_refl _) _⟩
    rcases F5.out with ⟨rfl, z, e5, rfl⟩ | ⟨rfl, n5⟩
    case inr =>
      have BAD : Hid (∀ X, ¬ IsCt s X) := hid (fun X h => by have := (N5.out X h).1; rw [n5] at this; cases this)
      clear N0 N1 N2 N3 N4 N5 Y6 n5
      go_wp2_with (first | (refine wpList_store_row rfl 42 _ _ rfl (w.heap.size) (ccells ctZ) rfl rfl 42 (ccells ctZ) B1.out ZZ.out rfl (ccells_one _) ?_))
      refine bodyPost_ret (v := .tuple #[.agg (ccells ctZ), .int .i64 5]) (results_row_tmp rfl _ _ (w.heap.size) 42 (ccells ctZ) (0, 0) _ rfl (blk_row_same _ _ _ _ _ _ B1.out) Tryd.underlying42 rfl ZZ.out _ rfl) rfl ⟨.inr ⟨BAD.out, rfl⟩, below_setRow D1.out (Nat.le_refl _) _⟩
    by_cases hx : (100 : Int) < x
    · have BAD : Hid (∀ X, ¬ IsCt s X) := hid (fun X h => by
        have := N3.out X h
        rw [e3] at this
        have e := Option.some.inj this.1
        omega)
      clear N0 N1 N2 N3 N4 N5 Y6
      go_wp2_with (first | (refine wpList_store_row rfl 42 _ _ rfl (w.heap.size) (ccells ctZ) rfl rfl 42 (ccells ctZ) B1.out ZZ.out rfl (ccells_one _) ?_))
      refine bodyPost_ret (v := .tuple #[.agg (ccells ctZ), .int .i64 5]) (results_row_tmp rfl _ _ (w.heap.size) 42 (ccells ctZ) (0, 0) _ rfl (blk_row_same _ _ _ _ _ _ B1.out) Tryd.underlying42 rfl ZZ.out _ rfl) rfl ⟨.inr ⟨BAD.out, rfl⟩, below_setRow D1.out (Nat.le_refl _) _⟩
    by_cases hy : (100 : Int) < y
    · have BAD : Hid (∀ X, ¬ IsCt s X) := hid (fun X h => by
        have := N4.out X h
        rw [e4] at this
        have e := Option.some.inj this.1
        omega)
      clear N0 N1 N2 N3 N4 N5 Y6
      go_wp2_with (first | (refine wpList_store_row rfl 42 _ _ rfl (w.heap.size) (ccells ctZ) rfl rfl 42 (ccells ctZ) B1.out ZZ.out rfl (ccells_one _) ?_))
      refine bodyPost_ret (v := .tuple #[.agg (ccells ctZ), .int .i64 5]) (results_row_tmp rfl _ _ (w.heap.size) 42 (ccells ctZ) (0, 0) _ rfl (blk_row_same _ _ _ _ _ _ B1.out) Tryd.underlying42 rfl ZZ.out _ rfl) rfl ⟨.inr ⟨BAD.out, rfl⟩, below_setRow D1.out (Nat.le_refl _) _⟩
    by_cases hz : (100 : Int) < z
    · have BAD : Hid (∀ X, ¬ IsCt s X) := hid (fun X h => by
        have := N5.out X h
        rw [e5] at this
        have e := Option.some.inj this.1
        omega)
      clear N0 N1 N2 N3 N4 N5 Y6
      go_wp2_with (first | (refine wpList_store_row rfl 42 _ _ rfl (w.heap.size) (ccells ctZ) rfl rfl 42 (ccells ctZ) B1.out ZZ.out rfl (ccells_one _) ?_))
      refine bodyPost_ret (v := .tuple #[.agg (ccells ctZ), .int .i64 5]) (results_row_tmp rfl _ _ (w.heap.size) 42 (ccells ctZ) (0, 0) _ rfl (blk_row_same _ _ _ _ _ _ B1.out) Tryd.underlying42 rfl ZZ.out _ rfl) rfl ⟨.inr ⟨BAD.out, rfl⟩, below_setRow D1.out (Nat.le_refl _) _⟩
    have YY := hid (Y6.out a0 a1 a2 x y z i0 i1 i2 e3 e4 e5)
    have wx : IntKind.i8.wrap (x : Int) = x := IntWalk.i8_in _ (by omega)
    have wy : IntKind.i8.wrap (y : Int) = y := IntWalk.i8_in _ (by omega)
    have wz : IntKind.i8.wrap (z : Int) = z := IntWalk.i8_in _ (by omega)
    have WF : Hid (WfC ⟨a0, a1, a2, x, y, z⟩) := hid ⟨i0.1, i1.1, i2.1, by simp; omega, by simp; omega, by simp; omega⟩
    have LT1 := block_lt B1.out
    have H3 : Hid (Below w.heap.size w (w1.alloc (.cells #[.float .f32 a0, .float .f32 a1, .float .f32 a2, .int .i8 x, .int .i8 y, .int .i8 z] 42))) := hid (D1.out.alloc D1.out.size _)
    have K3 : Hid ((w1.alloc (.cells #[.float .f32 a0, .float .f32 a1, .float .f32 a2, .int .i8 x, .int .i8 y, .int .i8 z] 42)).heap[w.heap.size]? = some (.cells (ccells ctZ) 42 (0, 0))) := hid ((blk_past _ _ _ LT1).trans B1.out)
    have N3b : Hid ((w1.alloc (.cells #[.float .f32 a0, .float .f32 a1, .float .f32 a2, .int .i8 x, .int .i8 y, .int .i8 z] 42)).heap[w1.heap.size]? = some (.cells (ccells ⟨a0, a1, a2, x, y, z⟩) 42 (0, 0))) := hid (blk_at _ _ _ rfl)
    have CV := hid (c_okCtl ⟨a0, a1, a2, x, y, z⟩ WF.out w1.heap.size _ (CtlAt.of_block N3b.out))
    clear N0 N1 N2 N3 N4 N5 Y6 i0 i1 i2 e3 e4 e5 LT1
    cases ho : okC ⟨a0, a1, a2, x, y, z⟩
    · have BAD := hid (YY.out.2 ho)
      have HO := hid ho
      rw [ho] at CV
      clear ho
      go_wp2_with (first | (go_at_call 47; refine CV.out.mono ?_; rintro e w6 ⟨rfl, h6⟩; have D6 := hid (below_trans H3.out h6 H3.out.size); have B6 := hid ((h6.block _ (block_lt K3.out)).trans K3.out); have N6 := hid ((h6.block _ (block_lt N3b.out)).trans N3b.out); clear h6) | (refine wpList_load_row rfl 42 _ rfl (w1.heap.size) rfl 42 (ccells ⟨a0, a1, a2, x, y, z⟩) (0, 0) _ N6.out Tryd.underlying42 rfl ZZ.out ?_) | (refine wpList_store_row rfl 42 _ _ rfl (w.heap.size) (ccells ctZ) rfl rfl 42 (ccells ctZ) B6.out ZZ.out rfl (ccells_one _) ?_))
      refine bodyPost_ret (v := .tuple #[.agg (ccells ctZ), .int .i64 5]) (results_row_tmp rfl _ _ (w.heap.size) 42 (ccells ctZ) (0, 0) _ rfl (blk_row_same _ _ _ _ _ _ B6.out) Tryd.underlying42 rfl ZZ.out _ rfl) rfl ⟨.inr ⟨BAD.out, rfl⟩, below_setRow D6.out (Nat.le_refl _) _⟩
    · have GOOD := hid (YY.out.1 ho)
      have HO := hid ho
      rw [ho] at CV
      clear ho
      go_wp2_with (first | (go_at_call 47; refine CV.out.mono ?_; rintro e w6 ⟨rfl, h6⟩; have D6 := hid (below_trans H3.out h6 H3.out.size); have B6 := hid ((h6.block _ (block_lt K3.out)).trans K3.out); have N6 := hid ((h6.block _ (block_lt N3b.out)).trans N3b.out); clear h6) | (refine wpList_load_row rfl 42 _ rfl (w1.heap.size) rfl 42 (ccells ⟨a0, a1, a2, x, y, z⟩) (0, 0) _ N6.out Tryd.underlying42 rfl ZZ.out ?_) | (refine wpList_store_row rfl 42 _ _ rfl (w.heap.size) (ccells ⟨a0, a1, a2, x, y, z⟩) rfl rfl 42 (ccells ctZ) B6.out ZZ.out rfl (ccells_one _) ?_))
      refine bodyPost_ret (v := .tuple #[.agg (ccells ⟨a0, a1, a2, x, y, z⟩), .int .i64 0]) (results_row_tmp rfl _ _ (w.heap.size) 42 (ccells ⟨a0, a1, a2, x, y, z⟩) (0, 0) _ rfl (blk_row_same _ _ _ _ _ _ B6.out) Tryd.underlying42 rfl ZZ.out _ rfl) rfl ⟨.inl ⟨_, GOOD.out, rfl⟩, below_setRow D6.out (Nat.le_refl _) _⟩
  · have BAD := hid (NLEN.out h6)
    have l6 : ¬ (ws.length : Int) = 6 := by omega
    clear NLEN N0 N1 N2 N3 N4 N5 YES A1 WS h6
    generalize ws.length = n at *
    go_wp2_with (first | (refine wpList_store_row rfl 42 _ _ rfl (w.heap.size) (ccells ctZ) rfl rfl 42 (ccells ctZ) B1.out ZZ.out rfl (ccells_one _) ?_))
    refine bodyPost_ret (v := .tuple #[.agg (ccells ctZ), .int .i64 5]) (results_row_tmp rfl _ _ (w.heap.size) 42 (ccells ctZ) (0, 0) _ rfl (blk_row_same _ _ _ _ _ _ B1.out) Tryd.underlying42 rfl ZZ.out _ rfl) rfl ⟨.inr ⟨BAD.out, rfl⟩, below_setRow D1.out (Nat.le_refl _) _⟩
end Go.Proofs.YtdcjoafagalejaaDoor
