/- States read from texts: both sides. -/
import Derived.Test.YtdcjoafagalejaaDoorWholes
import Derived.Test.YtdcjoafagalejaaDoorTickV
import Derived.Lib.ParseIntBCases
namespace Go.Proofs.YtdcjoafagalejaaDoor
set_option maxRecDepth 20000
open Go.RowKit

theorem parse_snoc (M : Nat) (hM : 1000000000000000000 ≤ M) (c : UInt8) (hc : 48 ≤ c.toNat ∧ c.toNat ≤ 57) : ∀ (l : List UInt8) (acc u : Nat), Lib.parseUintM M acc l = .ok u → u < 100000000000000000 → Lib.parseUintM M acc (l ++ [c]) = .ok (u * 10 + (c.toNat - 48))
  | [], acc, u, h, hu => by
    simp only [Lib.parseUintM] at h
    injection h with h
    subst h
    rw [List.nil_append, Lib.parseUintM, if_pos hc, if_neg (by omega), if_neg (by omega)]; rfl
  | b :: r, acc, u, h, hu => by
    rw [List.cons_append]
    simp only [Lib.parseUintM] at h ⊢
    split at h
    · rename_i h1; rw [if_pos h1]
      split at h
      · cases h
      · rename_i h2; rw [if_neg h2]
        split at h
        · cases h
        · rename_i h3; rw [if_neg h3]
          exact parse_snoc M hM c hc r _ u h hu
    · cases h
theorem parse_dec (M : Nat) (hM : 1000000000000000000 ≤ M) : ∀ n : Nat, n < 1000000000 → Lib.parseUintM M 0 (Lib.decDigits n) = .ok n := by
  intro n
  induction n using Nat.strongRecOn with
  | ind n ih =>
    intro hn
    by_cases h : n < 10
    · have hb := dig_byte h
      have := parse_snoc M hM (UInt8.ofNat (48 + n)) (by omega) [] 0 0 rfl (by omega)
      rw [Lib.decDigits_one h]
      rw [List.nil_append] at this
      rw [this, hb]; congr 1; omega
    · have hb := dig_byte (d := n % 10) (by omega)
      rw [decDigits_more h, parse_snoc M hM _ (by omega) _ 0 _ (ih (n / 10) (by omega) (by omega)) (by omega), hb]
      congr 1; omega
theorem dec_ne (n : Nat) : Lib.decDigits n ≠ [] := fun e => by have := (dec_holds n).2.2.1; rw [e] at this; simp at this
theorem parse_itoa {v : Int} (h : -1000000000 < v ∧ v < 1000000000) : Lib.parseIntB 64 (Lib.itoa v) = .ok v := by
  have hp : ∀ n : Nat, n < 1000000000 → Lib.parseUintB 64 (Lib.decDigits n) = .ok n := fun n hn => by
    rw [Lib.parseUintB, if_neg (dec_ne n)]
    exact parse_dec _ (by decide) n hn
  by_cases hv : v < 0
  · obtain ⟨u, rfl⟩ : ∃ u : Nat, v = -(u : Int) := ⟨v.natAbs, by omega⟩
    rw [Lib.itoa_neg u (by omega), Lib.parseIntB_minus, hp u (by omega)]
    simp only [Lib.signedC]
    rw [if_neg (by omega)]
  · obtain ⟨u, rfl⟩ := Int.eq_ofNat_of_zero_le (Int.not_lt.mp hv)
    rw [Lib.itoa_nonneg]
    have hh := dec_head u
    have hq := hp u (by omega)
    cases hd : Lib.decDigits u with
    | nil => exact absurd hd (dec_ne u)
    | cons c r =>
      rw [hd] at hh hq
      rw [bat_cons_zero] at hh
      rw [Lib.parseIntB_plain 64 c r (by omega) (by omega), hq]
      simp only [Lib.signlessC]
      rw [if_neg (by omega)]
theorem whole_itoa {s : List UInt8} {v : Int} (h : wholeOf s = some v) : s = Lib.itoa v := by
  unfold wholeOf at h
  split at h
  · split at h
    · rename_i h2; rw [← h2]; injection h with h; rw [h]
    · cases h
  · cases h
theorem wholeOf_iff {s : List UInt8} {v : Int} (hb : -1000000000 < v ∧ v < 1000000000) : wholeOf s = some v ↔ s = Lib.itoa v :=
  ⟨whole_itoa, fun h => by
    rw [h]; unfold wholeOf; rw [parse_itoa hb]; simp⟩
theorem inR_itoa {lo hi : Int} {s : List UInt8} {v : Int} (h1 : -1000000000 < lo) (h2 : hi < 1000000000) : inR lo hi s = some v ↔ s = Lib.itoa v ∧ lo ≤ v ∧ v ≤ hi := by
  rw [inR_iff]
  constructor
  · rintro ⟨h, h3⟩; exact ⟨whole_itoa h, h3⟩
  · rintro ⟨h, h3⟩; exact ⟨(wholeOf_iff (by omega)).2 h, h3⟩
theorem itoa_inj {a b : Int} (ha : -1000000000 < a ∧ a < 1000000000) (hb : -1000000000 < b ∧ b < 1000000000) (h : Lib.itoa a = Lib.itoa b) : a = b := by
  have h1 := (minusOf_iff (Lib.itoa a) a).2 ⟨ha, rfl⟩
  have h2 := (minusOf_iff (Lib.itoa a) b).2 ⟨hb, h⟩
  rw [h1] at h2; exact Option.some.inj h2
/-- A text is that of a state. -/
def IsSt (s : List UInt8) (X : Sta) : Prop := cuts 32 s = [Lib.itoa X.ti, Lib.itoa X.wa, Lib.itoa X.so] ∧ okSt X = true
def staZ : Sta := ⟨0, 0, 0⟩
theorem okSt_iff (X : Sta) : okSt X = true ↔ (-64 ≤ X.ti ∧ X.ti ≤ 64) ∧ (0 ≤ X.wa ∧ X.wa ≤ 20) ∧ (0 ≤ X.so ∧ X.so ≤ 20) := by
  simp [okSt, inB, and_assoc]
theorem three {ws : List (List UInt8)} (h : ws.length = 3) : ws = [wat ws 0, wat ws 1, wat ws 2] := by
  match ws, h with | [a, b, c], _ => rfl
theorem isSt_one {s : List UInt8} {X Y : Sta} (hx : IsSt s X) (hy : IsSt s Y) : X = Y := by
  obtain ⟨h1, h2⟩ := hx
  obtain ⟨h3, h4⟩ := hy
  rw [okSt_iff] at h2 h4
  rw [h1] at h3
  simp only [List.cons.injEq, and_true] at h3
  obtain ⟨a, b, c⟩ := h3
  cases X; cases Y
  simp only at *
  rw [itoa_inj (by omega) (by omega) a, itoa_inj (by omega) (by omega) b, itoa_inj (by omega) (by omega) c]
/-- What both sides return: the state and 0, or none and 5. -/
def StRet (s : List UInt8) (e : Ending) : Prop := (∃ X, IsSt s X ∧ e = .returned (.tuple #[.agg (stcells X), .int .i64 0])) ∨ ((∀ X, ¬ IsSt s X) ∧ e = .returned (.tuple #[.agg (stcells staZ), .int .i64 5]))
theorem map_three {lo hi : Int} {ws : List (List UInt8)} {zs : List Int} (h : ws.map (inR lo hi) = zs.map some) (h3 : ws.length = 3) (h1 : -1000000000 < lo) (h2 : hi < 1000000000) :
    ∃ a b c, zs = [a, b, c] ∧ ws = [Lib.itoa a, Lib.itoa b, Lib.itoa c] ∧ (lo ≤ a ∧ a ≤ hi) ∧ (lo ≤ b ∧ b ≤ hi) ∧ (lo ≤ c ∧ c ≤ hi) := by
  match ws, h3 with
  | [u, v, w], _ =>
    match zs, h with
    | [], h => simp at h
    | [a], h => simp at h
    | [a, b], h => simp at h
    | [a, b, c], h =>
      simp only [List.map_cons, List.map_nil, List.cons.injEq, and_true] at h
      rw [inR_itoa h1 h2, inR_itoa h1 h2, inR_itoa h1 h2] at h
      obtain ⟨⟨rfl, h4⟩, ⟨rfl, h5⟩, rfl, h6⟩ := h
      exact ⟨a, b, c, rfl, rfl, h4, h5, h6⟩
    | a :: b :: c :: d :: t, h => simp at h
theorem not_isSt_len {s : List UInt8} (h : (cuts 32 s).length ≠ 3) (X : Sta) : ¬ IsSt s X := fun hx => h (by rw [hx.1]; rfl)
theorem not_isSt_word {s : List UInt8} {k : Nat} (hk : k < (cuts 32 s).length) (h : inR (-64) 64 (wat (cuts 32 s) k) = none) (X : Sta) : ¬ IsSt s X := fun hx => by
  have ok := (okSt_iff X).1 hx.2
  have e : ∀ v, (-64 : Int) ≤ v ∧ v ≤ 64 → inR (-64) 64 (Lib.itoa v) = some v := fun v hv => (inR_itoa (by omega) (by omega)).2 ⟨rfl, hv⟩
  rw [hx.1] at hk h
  simp only [List.length_cons, List.length_nil] at hk
  rcases (by omega : k = 0 ∨ k = 1 ∨ k = 2) with rfl | rfl | rfl
  · rw [show wat [Lib.itoa X.ti, Lib.itoa X.wa, Lib.itoa X.so] 0 = Lib.itoa X.ti from rfl, e _ (by omega)] at h; cases h
  · rw [show wat [Lib.itoa X.ti, Lib.itoa X.wa, Lib.itoa X.so] 1 = Lib.itoa X.wa from rfl, e _ (by omega)] at h; cases h
  · rw [show wat [Lib.itoa X.ti, Lib.itoa X.wa, Lib.itoa X.so] 2 = Lib.itoa X.so from rfl, e _ (by omega)] at h; cases h
theorem not_isSt_ok {s : List UInt8} {a b c : Int} (h : cuts 32 s = [Lib.itoa a, Lib.itoa b, Lib.itoa c]) (ha : -64 ≤ a ∧ a ≤ 64) (hb : -64 ≤ b ∧ b ≤ 64) (hc : -64 ≤ c ∧ c ≤ 64) (ho : okSt ⟨a, b, c⟩ = false) (X : Sta) : ¬ IsSt s X := fun hx => by
  have ok := (okSt_iff X).1 hx.2
  have := hx.1
  rw [h] at this
  simp only [List.cons.injEq, and_true] at this
  obtain ⟨p, q, r⟩ := this
  have e1 := itoa_inj (by omega) (by omega) p
  have e2 := itoa_inj (by omega) (by omega) q
  have e3 := itoa_inj (by omega) (by omega) r
  have : okSt X = true := hx.2
  cases X
  simp only at e1 e2 e3
  subst e1; subst e2; subst e3
  rw [ho] at this; cases this
theorem results_row_tmp {P : Program} {fn : Func} {p q : Tmp} {ty : TypeId} (h : fn.results = #[.cell p ty, .tmp q]) (tmps : Array Value) (w : World) (g : Nat) (t : TypeId) (cs : Array Value) (fr : Nat × Nat) (d : TypeDesc)
    (hp : tmps.getD p undef = .pointer (some ⟨g, 0, none⟩)) (hg : w.heap[g]? = some (.cells cs t fr))
    (hu : P.underlying ty = some d) (hd : (match d with | .struct _ | .array _ _ => true | _ => false) = true) (hi : (P.info? ty).map (·.size) = some cs.size) (v : Value) (hv : tmps.getD q undef = v) :
    (results fn tmps).run P w = .ok (.tuple #[.agg cs, v]) w := by
  have hp' : tmps[p]?.getD undef = .pointer (some ⟨g, 0, none⟩) := by simpa using hp
  subst hv
  simp [results, h, hp', asAddr, run_loadVar_row w g t ty cs fr d hg hu hd hi]
theorem st_one (X : Sta) : (stcells X).all (·.oneCell') = true := by simp [stcells]; exact ⟨rfl, rfl, rfl⟩
theorem c_ValidSta (X : Sta) (wf : WfS X) (w : World) :
    Calls Tryd.prog 55 #[.agg (stcells X)] w fun e w' => e = .returned (.bool (okSt X)) ∧ Below w.heap.size w w' := by
  have ws0 := wf.ti
  have ws1 := wf.wa
  have ws2 := wf.so
  simp only [stcells]
  rcases ways3 (a := inB X.ti (-64) 64) (b := inB X.wa 0 20) (c := inB X.so 0 20) with e1 | ⟨e1, e2⟩ | ⟨e1, e2, e3⟩ | ⟨e1, e2, e3⟩
  all_goals
    have WF := hid wf
    clear wf
    go_enter Tryd.func55, Tryd.ntmps55
    go_wp2_with (first | (go_at_call 58; refine (c_within _ _ _ _).mono ?_; rintro e w' ⟨rfl, rfl⟩) | (go_at_call 59; refine (c_isTilt _ _).mono ?_; rintro e w' ⟨rfl, rfl⟩))
    go_ret
    exact ⟨ret_bool (by simp only [okSt, Bool.and_true, Bool.and_false, Bool.false_and, *]), (Below.refl _ _).alloc (Nat.le_refl _) _⟩
/-- The library's greatest length lies. -/
def MaxL (w : World) : Prop := ∃ m, w.cell? ⟨1, 0, none⟩ = some (.int .i64 m)
theorem MaxL.below {w w' : World} (h : MaxL w) (hb : Below w.heap.size w w') : MaxL w' := let ⟨m, hm⟩ := h; ⟨m, cell_stays hb hm⟩
set_option maxHeartbeats 2000000 in
theorem c_implReadState (s : List UInt8) (hs : s.length ≤ 1048576) (w : World) (hM : MaxL w) (hT : Tab w) (hE : Errs w) :
    Calls Tryd.prog 25 #[txt s] w fun e w' => StRet s e ∧ Below w.heap.size w w' := by
  have HB0 : Hid ((w.alloc (.cells (stcells staZ) 46)).heap[w.heap.size]? = some (.cells (stcells staZ) 46 (0, 0))) := hid (blk_at _ _ _ rfl)
  have H0 : Hid (Below w.heap.size w (w.alloc (.cells (stcells staZ) 46))) := hid ((Below.refl _ _).alloc (Nat.le_refl _) _)
  have CS := hid (fun w2 (h : Below w.heap.size w w2) => let ⟨m, hm⟩ := hM.below h; c_Split s 32 hs m w2 hm)
  have CR := hid (fun g w2 (h : Below w.heap.size w w2) (hA : TxtAt w2 g 0 (cuts 32 s)) => c_readWholes g 0 (cuts 32 s).length (cuts 32 s) (-64) 64 w2 hA (fun k hk => Nat.le_trans (wat_short hk) hs) (by have := cuts_len 32 s; omega) (hT.below h) (hE.below h))
  have NL := hid (fun h => not_isSt_len (s := s) h)
  have NW := hid (fun k hk h => not_isSt_word (s := s) (k := k) hk h)
  have ZZ : Hid ((Tryd.prog.info? 46).map (·.size) = some (stcells staZ).size) := hid (by kernel_rfl)
  clear hM hT hE
  go_enter Tryd.func25, Tryd.ntmps25
  go_wp2_with (first | (go_at_call 45; refine (CS.out _ H0.out).mono ?_; rintro e w1 ⟨rfl, ha, h1⟩; have A1 := hid ha; have D1 := hid (below_trans H0.out h1 H0.out.size); have B1 := hid ((h1.block _ (block_lt HB0.out)).trans HB0.out); clear h1 ha))
  refine (CR.out _ _ D1.out (by have := A1.out; simpa using this)).mono ?_
  rintro e w2 ⟨hr, h2⟩
  have D2 := hid (below_trans D1.out h2 D1.out.size)
  have B2 := hid ((h2.block _ (block_lt B1.out)).trans B1.out)
  clear h2
  rcases hr with ⟨zs, b, cb, hm, rfl, hc⟩ | ⟨⟨k, hk, hn⟩, rfl⟩
  · by_cases h3 : (cuts 32 s).length = 3
    · obtain ⟨x, y, z, rfl, hw, hx, hy, hz⟩ := map_three hm h3 (by omega) (by omega)
      have c0 : w2.cell? ⟨b, 0, none⟩ = some (.int .i64 x) := hc 0 (by omega)
      have c1 : w2.cell? ⟨b, 1, none⟩ = some (.int .i64 y) := hc 1 (by omega)
      have c2 : w2.cell? ⟨b, 2, none⟩ = some (.int .i64 z) := hc 2 (by omega)
      have d0 : (w2.alloc (.cells #[.int .i16 0, .int .i8 0, .int .i8 0] 46)).cell? ⟨b, 0, none⟩ = some (.int .i64 x) := (World.cell?_alloc_past _ _ _ (block_lt_of_cell c0)).trans c0
      have d1 : (w2.alloc (.cells #[.int .i16 0, .int .i8 0, .int .i8 0] 46)).cell? ⟨b, 1, none⟩ = some (.int .i64 y) := (World.cell?_alloc_past _ _ _ (block_lt_of_cell c1)).trans c1
      have d2 : (w2.alloc (.cells #[.int .i16 0, .int .i8 0, .int .i8 0] 46)).cell? ⟨b, 2, none⟩ = some (.int .i64 z) := (World.cell?_alloc_past _ _ _ (block_lt_of_cell c2)).trans c2
      have HW := hid hw
      have HX := hid hx
      have HY := hid hy
      have HZ := hid hz
      have wx : IntKind.i16.wrap x = x := IntWalk.i16_in _ (by omega)
      have wy : IntKind.i8.wrap y = y := IntWalk.i8_in _ (by omega)
      have wz : IntKind.i8.wrap z = z := IntWalk.i8_in _ (by omega)
      have CV := hid (fun w => show Calls Tryd.prog 55 #[.agg #[.int .i16 x, .int .i8 y, .int .i8 z]] w fun e w' => e = .returned (.bool (okSt ⟨x, y, z⟩)) ∧ Below w.heap.size w w' from c_ValidSta ⟨x, y, z⟩ ⟨by simp; omega, by simp; omega, by simp; omega⟩ w)
      have H3 : Hid (Below w.heap.size w (w2.alloc (.cells #[.int .i16 x, .int .i8 y, .int .i8 z] 46)).drew) := hid (below_drawn (D2.out.alloc D2.out.size _) _)
      have LT2 := block_lt B2.out
      have B3 : Hid ((w2.alloc (.cells #[.int .i16 x, .int .i8 y, .int .i8 z] 46)).drew.heap[w.heap.size]? = some (.cells (stcells staZ) 46 (0, 0))) := hid ((blk_past _ _ _ LT2).trans B2.out)
      have N3 : Hid ((w2.alloc (.cells #[.int .i16 x, .int .i8 y, .int .i8 z] 46)).drew.heap[w2.heap.size]? = some (.cells (stcells ⟨x, y, z⟩) 46 (0, 0))) := hid (blk_at _ _ _ rfl)
      clear LT2
      clear hc hm hw hx hy hz NL NW CR CS
      generalize (cuts 32 s).length = n at *
      subst h3
      go_wp2_with fail
      go_region
      cases ho : okSt ⟨x, y, z⟩
      · have BAD := hid (not_isSt_ok HW.out HX.out HY.out HZ.out ho)
        have HO := hid ho
        clear ho c0 c1 c2 d0 d1 d2
        go_wp2_with (first | (go_at_call 55; refine (CV.out _).mono ?_; rintro e w4 ⟨rfl, h4⟩; have D4 := hid (below_trans H3.out h4 H3.out.size); have B4 := hid ((h4.block _ (block_lt B3.out)).trans B3.out); have N4 := hid ((h4.block _ (block_lt N3.out)).trans N3.out); clear h4; rw [HO.out]) | (refine wpList_load_row rfl 46 _ rfl (w2.heap.size) rfl 46 (stcells ⟨x, y, z⟩) (0, 0) _ N4.out Tryd.underlying46 rfl ZZ.out ?_) | (refine wpList_store_row rfl 46 _ _ rfl (w.heap.size) (stcells staZ) rfl rfl 46 (stcells staZ) B4.out ZZ.out rfl (st_one _) ?_))
        refine bodyPost_ret (v := .tuple #[.agg (stcells staZ), .int .i64 5]) (results_row_tmp rfl _ _ (w.heap.size) 46 (stcells staZ) (0, 0) _ rfl (blk_row_same _ _ _ _ _ _ B4.out) Tryd.underlying46 rfl ZZ.out _ rfl) rfl ⟨.inr ⟨BAD.out, rfl⟩, below_setRow D4.out (Nat.le_refl _) _⟩
      · have GOOD : Hid (IsSt s ⟨x, y, z⟩) := hid ⟨HW.out, ho⟩
        have HO := hid ho
        clear ho c0 c1 c2 d0 d1 d2
        go_wp2_with (first | (go_at_call 55; refine (CV.out _).mono ?_; rintro e w4 ⟨rfl, h4⟩; have D4 := hid (below_trans H3.out h4 H3.out.size); have B4 := hid ((h4.block _ (block_lt B3.out)).trans B3.out); have N4 := hid ((h4.block _ (block_lt N3.out)).trans N3.out); clear h4; rw [HO.out]) | (refine wpList_load_row rfl 46 _ rfl (w2.heap.size) rfl 46 (stcells ⟨x, y, z⟩) (0, 0) _ N4.out Tryd.underlying46 rfl ZZ.out ?_) | (refine wpList_store_row rfl 46 _ _ rfl (w.heap.size) (stcells ⟨x, y, z⟩) rfl rfl 46 (stcells staZ) B4.out ZZ.out rfl (st_one _) ?_))
        refine bodyPost_ret (v := .tuple #[.agg (stcells ⟨x, y, z⟩), .int .i64 0]) (results_row_tmp rfl _ _ (w.heap.size) 46 (stcells ⟨x, y, z⟩) (0, 0) _ rfl (blk_row_same _ _ _ _ _ _ B4.out) Tryd.underlying46 rfl ZZ.out _ rfl) rfl ⟨.inl ⟨_, GOOD.out, rfl⟩, below_setRow D4.out (Nat.le_refl _) _⟩
    · have BAD := hid (NL.out h3)
      have l3 : ¬ ((cuts 32 s).length : Int) = 3 := by omega
      clear hc hm NL NW CR CS h3
      generalize (cuts 32 s).length = n at *
      go_wp2_with (refine wpList_store_row rfl 46 _ _ rfl (w.heap.size) (stcells staZ) rfl rfl 46 (stcells staZ) B2.out ZZ.out rfl (st_one _) ?_)
      refine bodyPost_ret (v := .tuple #[.agg (stcells staZ), .int .i64 5]) (results_row_tmp rfl _ _ (w.heap.size) 46 (stcells staZ) (0, 0) _ rfl (blk_row_same _ _ _ _ _ _ B2.out) Tryd.underlying46 rfl ZZ.out _ rfl) rfl ⟨.inr ⟨BAD.out, rfl⟩, below_setRow D2.out (Nat.le_refl _) _⟩
  · have BAD := hid (NW.out k hk hn)
    clear hk hn NL NW CR CS
    go_wp2_with (refine wpList_store_row rfl 46 _ _ rfl (w.heap.size) (stcells staZ) rfl rfl 46 (stcells staZ) B2.out ZZ.out rfl (st_one _) ?_)
    refine bodyPost_ret (v := .tuple #[.agg (stcells staZ), .int .i64 5]) (results_row_tmp rfl _ _ (w.heap.size) 46 (stcells staZ) (0, 0) _ rfl (blk_row_same _ _ _ _ _ _ B2.out) Tryd.underlying46 rfl ZZ.out _ rfl) rfl ⟨.inr ⟨BAD.out, rfl⟩, below_setRow D2.out (Nat.le_refl _) _⟩
end Go.Proofs.YtdcjoafagalejaaDoor
