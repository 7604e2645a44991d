/- Plans read from texts: the program's side. -/
import Derived.Test.YtdcjoafagalejaaDoorRuns
import Derived.Test.YtdcjoafagalejaaDoorShelfD
import Derived.Test.YtdcjoafagalejaaDoorPlan
namespace Go.Proofs.YtdcjoafagalejaaDoor
set_option maxRecDepth 20000
open Go.RowKit

def zP : Array Value := #[.int .i16 0, .int .i16 0, .int .i16 0, .int .i16 0, .int .i16 0, .int .i16 0, .int .i16 0, .int .i16 0, .int .i16 0, .int .i16 0, .int .i16 0, .int .i16 0, .int .i16 0, .int .i16 0, .int .i16 0, .int .i16 0, .int .i16 0, .int .i16 0, .int .i16 0, .int .i16 0, .int .i16 0, .int .i16 0, .int .i16 0, .int .i16 0]
theorem zP_pad : zP = i16s (pad []) := by kernel_rfl
theorem i16s_all (l : List Int) : (i16s l).all (·.oneCell') = true := by
  simp [i16s]; intro x _; rfl
theorem zP_one : zP.all (·.oneCell') = true := by rw [zP_pad]; exact i16s_all _
theorem zP_size : (Tryd.prog.info? 25).map (·.size) = some zP.size := by kernel_rfl
theorem set_oneI {w : World} {b k : Nat} {v : Int} {F : List Int} {T : TypeId} (hb : w.heap[b]? = some (.cells (i16s F) T (0, 0))) (hk : k < F.length) : (w.setCell ⟨b, k, none⟩ (.int .i16 v)).heap[b]? = some (.cells (i16s (F.set k v)) T (0, 0)) := by
  have h := heap_setCells b T [.int .i16 v] k w _ hb (by simp [i16s]; omega)
  rw [World.setCells, World.setCells] at h
  rw [h]
  congr 2
  apply Array.toList_inj.1
  simp only [i16s, List.toList_toArray]
  rw [List.map_set, List.set_eq_take_append_cons_drop, if_pos (by simpa using hk)]
  simp
/-- strings.Cut at one byte, as lists. -/
theorem c_Cut (s : List UInt8) (hs : s.length ≤ 1048576) (w : World) (hM : MaxL w) :
    Calls Tryd.prog 56 #[txt s, .string ⟨#[120]⟩] w fun e w' => e = .returned (.tuple #[txt (Lib.cut s [120]).1, txt (Lib.cut s [120]).2.1, .bool (Lib.cut s [120]).2.2]) ∧ Below w.heap.size w w' := by
  obtain ⟨m, hm⟩ := hM
  have e1 : (⟨s.toArray⟩ : ByteArray).data.toList = s := by simp
  have e2 : (⟨s.toArray⟩ : ByteArray).size = s.length := by simp [ByteArray.size]
  have C := Tryd.strings_Cut ⟨s.toArray⟩ ⟨#[120]⟩ m w (by rw [e2]; omega) hm
  rw [e1] at C
  exact C.mono fun e w' ⟨he, n, hw⟩ => ⟨he, by rw [hw]; exact ⟨rfl, rfl, rfl, Nat.le_refl _, fun _ _ => rfl⟩⟩
theorem cut_short (s : List UInt8) : (Lib.cut s [120]).1.length ≤ s.length ∧ (Lib.cut s [120]).2.1.length ≤ s.length := by
  unfold Lib.cut; split <;> simp; omega
theorem ex_len (rs : List (Nat × Int)) (j : Nat) (t : Int) : (ex (rs ++ [(j, t)])).length = (ex rs).length + j := by rw [ex_app, ex_one]; simp
theorem pad_zero (rs : List (Nat × Int)) (t : Int) : pad (rs ++ [(0, t)]) = pad rs := by unfold pad; rw [ex_app, ex_one]; simp
theorem pad_set (rs : List (Nat × Int)) (j : Nat) (t : Int) (h : (ex rs).length + j < 24) : pad (rs ++ [(j + 1, t)]) = (pad (rs ++ [(j, t)])).set ((ex rs).length + j) t := by
  unfold pad
  rw [ex_len, ex_len, ex_app, ex_app, ex_one, ex_one]
  simp only
  rw [show 24 - ((ex rs).length + j) = 24 - ((ex rs).length + (j + 1)) + 1 by omega, List.replicate_succ (n := 24 - ((ex rs).length + (j + 1))), List.set_append_right _ _ (by simp), show (ex rs).length + j - (ex rs ++ List.replicate j t).length = 0 by simp, List.set_cons_zero, show List.replicate (j + 1) t = List.replicate j t ++ [t] from List.replicate_succ']
  simp [List.append_assoc]
theorem pad_in {rs : List (Nat × Int)} (ho : okR rs) (k : Nat) : -64 ≤ iat (pad rs) k ∧ iat (pad rs) k ≤ 64 := by
  simp only [iat, List.getD_eq_getElem?_getD]
  cases h : (pad rs)[k]? with
  | none => simp
  | some x =>
    have hm := List.mem_of_getElem? h
    unfold pad at hm
    simp only [Option.getD_some]
    rcases List.mem_append.1 hm with h2 | h2
    · exact ex_in ho x h2
    · rw [(List.mem_replicate.1 h2).2]; omega
/-- What a word tells the program. -/
def parI (w : List UInt8) (r : Nat × Int) : Prop := wholeOf (Lib.cut w [120]).1 = some (r.1 : Int) ∧ wholeOf (Lib.cut w [120]).2.1 = some r.2
theorem parI_word {r : Nat × Int} (h1 : r.1 ≤ 24) (h2 : -64 ≤ r.2 ∧ r.2 ≤ 64) : parI (wordR r) r := by
  unfold parI
  rw [word_cut]
  exact ⟨(wholeOf_iff (by omega)).2 (itoa_nat _).symm, (wholeOf_iff (by omega)).2 rfl⟩
def rat (rs : List (Nat × Int)) (k : Nat) : Nat × Int := rs.getD k (0, 0)
theorem rat_mem {rs : List (Nat × Int)} {k : Nat} (h : k < rs.length) : rat rs k ∈ rs := by
  unfold rat; rw [List.getD_eq_getElem?_getD, List.getElem?_eq_getElem h]; simp
theorem wat_word {ws : List (List UInt8)} {rs : List (Nat × Int)} (h : ws = rs.map wordR) {k : Nat} (hk : k < rs.length) : wat ws k = wordR (rat rs k) := by
  rw [h]; unfold wat rat; rw [List.getD_eq_getElem?_getD, List.getD_eq_getElem?_getD, List.getElem?_map, List.getElem?_eq_getElem hk]; rfl
theorem par_take {ws : List (List UInt8)} {rs rs0 : List (Nat × Int)} (hw : ws = rs0.map wordR) (ho : okR rs0) (hl : rs.length ≤ rs0.length) (hp : ∀ j, j < rs.length → parI (wat ws j) (rat rs j)) : rs = rs0.take rs.length := by
  apply List.ext_getElem
  · simp; omega
  · intro j h1 h2
    have p := hp j h1
    have hr := ho _ (rat_mem (show j < rs0.length by omega))
    have q := parI_word (r := rat rs0 j) (by omega) (by omega)
    rw [wat_word hw (show j < rs0.length by omega)] at p
    have e : rat rs j = rat rs0 j := Prod.ext (by have := Option.some.inj (p.1.symm.trans q.1); omega) (Option.some.inj (p.2.symm.trans q.2))
    rw [List.getElem_take]
    simpa [rat, h1, show j < rs0.length by omega] using e
theorem ex_take_le (rs : List (Nat × Int)) (k : Nat) : (ex (rs.take k)).length ≤ (ex rs).length := by
  have := congrArg List.length (ex_app (rs.take k) (rs.drop k))
  rw [List.take_append_drop] at this
  simp at this; omega
/-- Where a text is that of a plan, each of its words tells a run that fits. -/
theorem fits_next {s : List UInt8} {p : List Int} (h : IsPl s p) {rs : List (Nat × Int)} (hk : rs.length < (cuts 32 s).length) (hp : ∀ j, j < rs.length → parI (wat (cuts 32 s) j) (rat rs j)) :
    ∃ r, parI (wat (cuts 32 s) rs.length) r ∧ inB (r.1 : Int) 1 (24 - ((ex rs).length : Int)) = true ∧ inB r.2 (-64) 64 = true := by
  obtain ⟨rs0, h1, h2, h3, _, h5⟩ := isPl_runs h
  have hl : rs.length < rs0.length := by rw [h1] at hk; simpa using hk
  have ht := par_take h1 h3 (Nat.le_of_lt hl) hp
  have hr := h3 _ (rat_mem hl)
  refine ⟨rat rs0 rs.length, ?_, ?_, ?_⟩
  · rw [wat_word h1 hl]; exact parI_word (by omega) (by omega)
  · have e : rs0.take (rs.length + 1) = rs ++ [rat rs0 rs.length] := by
      rw [List.take_add_one, ← ht, List.getElem?_eq_getElem hl]
      simp [rat, hl]
    have l := ex_take_le rs0 (rs.length + 1)
    rw [e, ex_app, ex_one, h5] at l
    simp at l
    simp [inB]; omega
  · simp [inB]; omega
theorem ends_full {s : List UInt8} {p : List Int} (h : IsPl s p) {rs : List (Nat × Int)} (hk : rs.length = (cuts 32 s).length) (hp : ∀ j, j < rs.length → parI (wat (cuts 32 s) j) (rat rs j)) : pad rs = p := by
  obtain ⟨rs0, h1, h2, h3, _, h5⟩ := isPl_runs h
  have hl : rs.length = rs0.length := by rw [hk, h1]; simp
  have ht := par_take h1 h3 (by omega) hp
  rw [hl, List.take_length] at ht
  subst ht
  rw [pad_full h5, h2]
/-- What both sides return: the plan and 0, or none and 5. -/
def PlRet (s : List UInt8) (e : Ending) : Prop := (∃ p, IsPl s p ∧ e = .returned (.tuple #[.agg (i16s p), .int .i64 0])) ∨ ((∀ p, ¬ IsPl s p) ∧ e = .returned (.tuple #[.agg zP, .int .i64 5]))
/-- What a round of the reading keeps. -/
structure KpP (w : World) (g : Nat) (ws : List (List UInt8)) (p : List Int) (wx : World) : Prop where
  z : wx.heap[w.heap.size]? = some (.cells zP 25 (0, 0))
  b : wx.heap[w.heap.size + 1]? = some (.cells (i16s p) 25 (0, 0))
  t : TxtAt wx g 0 ws
  d : Below w.heap.size w wx
theorem KpP.below {w : World} {g : Nat} {ws : List (List UInt8)} {p : List Int} {wx wy : World} (h : KpP w g ws p wx) (hb : Below wx.heap.size wx wy) : KpP w g ws p wy :=
  ⟨(hb.block _ (block_lt h.z)).trans h.z, (hb.block _ (block_lt h.b)).trans h.b, h.t.below hb, below_trans h.d hb h.d.size⟩
theorem below_setCell {B : Nat} {a w : World} (h : Below B a w) {g : Nat} (hg : B ≤ g) (k : Nat) (v : Value) : Below B a (w.setCell ⟨g, k, none⟩ v) :=
  h.trans ⟨rfl, rfl, rfl, by simp, fun j hj => heap_setCell_other w ⟨g, k, none⟩ j v (by simp; omega)⟩
theorem KpP.set {w : World} {g : Nat} {ws : List (List UInt8)} {p : List Int} {wx : World} (h : KpP w g ws p wx) (hg : w.heap.size + 2 ≤ g) {k : Nat} (hk : k < p.length) (t : Int) : KpP w g ws (p.set k t) (wx.setCell ⟨w.heap.size + 1, k, none⟩ (.int .i16 t)) :=
  ⟨(heap_setCell_other wx ⟨w.heap.size + 1, k, none⟩ _ _ (by simp)).trans h.z, set_oneI h.b hk, fun j hj => (World.cell?_of_block (heap_setCell_other wx ⟨w.heap.size + 1, k, none⟩ _ _ (by simp; omega))).trans (h.t j hj), below_setCell h.d (by omega) _ _⟩
set_option maxHeartbeats 4000000 in
theorem c_implReadPlan (s : List UInt8) (hs : s.length ≤ 1048576) (w : World) (hM : MaxL w) (hT : Tab w) (hE : Errs w) :
    Calls Tryd.prog 31 #[txt s] w fun e w' => PlRet s e ∧ Below w.heap.size w w' := by
  have HBA : Hid (((w.alloc (.cells zP 25)).alloc (.cells zP 25)).heap[w.heap.size + 1]? = some (.cells zP 25 (0, 0))) := hid (blk_at _ _ _ (by simp))
  obtain ⟨wa, hwa⟩ : ∃ wa, wa = ((w.alloc (.cells zP 25)).alloc (.cells zP 25)).setRow (w.heap.size + 1) zP := ⟨_, rfl⟩
  have SZ : Hid (wa.heap.size = w.heap.size + 2) := hid (by rw [hwa]; simp)
  have HB0 : Hid (wa.heap[w.heap.size]? = some (.cells zP 25 (0, 0))) := hid (by rw [hwa]; exact (setRow_other _ _ _ _ (by omega)).trans ((blk_past _ _ _ (by simp)).trans (blk_at _ _ _ rfl)))
  have HB1 : Hid (wa.heap[w.heap.size + 1]? = some (.cells zP 25 (0, 0))) := hid (by rw [hwa]; exact blk_row_same _ _ _ _ _ _ HBA.out)
  have H0 : Hid (Below w.heap.size w wa) := hid (by rw [hwa]; exact below_setRow (((Below.refl _ _).alloc (Nat.le_refl _) _).alloc (by simp) _) (by omega) _)
  have WA : Hid (((w.alloc (.cells zP 25)).alloc (.cells zP 25)).setRow (w.heap.size + 1) zP = wa) := hid hwa.symm
  have ZZ := hid zP_size
  clear hwa
  have MM := hid hM
  have TT := hid hT
  have EE := hid hE
  have HS := hid hs
  have CS : Hid (Calls Tryd.prog 45 #[txt s, txt [32]] (((w.alloc (.cells zP 25)).alloc (.cells zP 25)).setRow (w.heap.size + 1) zP) fun e w' => (∃ g, e = .returned (.slice (some ⟨g, 0, none⟩) (cuts 32 s).length (cuts 32 s).length) ∧ TxtAt w' g 0 (cuts 32 s) ∧ w.heap.size + 2 ≤ g) ∧ Below w.heap.size w w' ∧ w'.heap[w.heap.size]? = some (.cells zP 25 (0, 0)) ∧ w'.heap[w.heap.size + 1]? = some (.cells zP 25 (0, 0))) := hid (by
    rw [WA.out]
    obtain ⟨m, hm⟩ := hM.below H0.out
    exact (c_Split s 32 hs m wa hm).mono fun e w' ⟨he, ha, hb⟩ => ⟨⟨_, he, ha, by rw [SZ.out]; exact Nat.le_refl _⟩, below_trans H0.out hb H0.out.size, (hb.block _ (block_lt HB0.out)).trans HB0.out, (hb.block _ (block_lt HB1.out)).trans HB1.out⟩)
  clear hM hT hE
  go_enter Tryd.func31, Tryd.ntmps31
  go_wp2_with (refine wpList_store_row rfl 25 _ _ rfl (w.heap.size + 1) zP rfl rfl 25 zP HBA.out ZZ.out rfl zP_one ?_)
  refine CS.out.mono ?_
  rintro e w1 ⟨⟨g, rfl, ha, hg⟩, hb, h0, h1⟩
  have AA := hid ha
  have GG := hid hg
  have D1 := hid hb
  have B0 := hid h0
  have B1 := hid h1
  have WS := hid (fun k (h : k < (cuts 32 s).length) => Nat.le_trans (wat_short (c := 32) (s := s) h) HS.out)
  have NL : Hid ((cuts 32 s).length ≤ 1048577) := hid (by have := cuts_len 32 s; have := HS.out; omega)
  have FN := hid (fun (rs : List (Nat × Int)) h1 h2 p (h : IsPl s p) => fits_next h (rs := rs) h1 h2)
  have EF := hid (fun (rs : List (Nat × Int)) h1 h2 p (h : IsPl s p) => ends_full h (rs := rs) h1 h2)
  clear ha hg hb h0 h1 CS HBA WA HB0 HB1 H0 SZ hs
  generalize hws : cuts 32 s = ws at *
  clear hws
  go_wp2_with fail
  go_loopw [5, 19] (fun h i wr => ∃ (k : Nat) (rs : List (Nat × Int)), k ≤ ws.length ∧ rs.length = k ∧ i = .int .i64 k ∧ h = .int .i64 ((ex rs).length : Nat) ∧ (ex rs).length ≤ 24 ∧ okR rs ∧ (∀ j, j < rs.length → parI (wat ws j) (rat rs j)) ∧ KpP w g ws (pad rs) wr) (fun _ i _ => ws.length - (intOf i).toNat)
  case atStart => exact ⟨0, [], by omega, rfl, rfl, rfl, by simp [ex], (fun r hr => nomatch hr), (fun j hj => absurd hj (Nat.not_lt_zero j)), ⟨B0.out, by rw [← zP_pad]; exact B1.out, AA.out, D1.out⟩⟩
  case round =>
    obtain ⟨k, rs, hk, hlen, rfl, rfl, hle, hok, hpar, hkp⟩ := hrel
    have KP := hid hkp
    have LE := hid hle
    have OK := hid hok
    have PA := hid hpar
    have LN := hid hlen
    clear hkp hok hpar hlen
    by_cases hlt : k < ws.length
    · have LT := hid hlt
      have c1 := KP.out.t k hlt
      rw [Nat.zero_add] at c1
      have s0 := WS.out k hlt
      have s1 := cut_short (wat ws k)
      have CC := hid (c_Cut (wat ws k) s0 wr (MM.out.below KP.out.d))
      have CU := hid (fun w2 (h : KpP w g ws (pad rs) w2) => c_readWhole (Lib.cut (wat ws k) [120]).1 (Nat.le_trans s1.1 s0) w2 (TT.out.below h.d) (EE.out.below h.d))
      have CV := hid (fun w2 (h : KpP w g ws (pad rs) w2) => c_readWhole (Lib.cut (wat ws k) [120]).2.1 (Nat.le_trans s1.2 s0) w2 (TT.out.below h.d) (EE.out.below h.d))
      have FK : Hid (∀ p, IsPl s p → ∃ r : Nat × Int, (wholeOf (Lib.cut (wat ws k) [120]).1 = some (r.1 : Int) ∧ wholeOf (Lib.cut (wat ws k) [120]).2.1 = some r.2) ∧ inB (r.1 : Int) 1 (24 - ((ex rs).length : Int)) = true ∧ inB r.2 (-64) 64 = true) := hid (fun p h => by
        obtain ⟨r, h1, h2⟩ := FN.out rs (by rw [LN.out]; exact hlt) PA.out p h
        rw [LN.out] at h1
        exact ⟨r, h1, h2⟩)
      have PN : Hid (∀ r : Nat × Int, wholeOf (Lib.cut (wat ws k) [120]).1 = some (r.1 : Int) → wholeOf (Lib.cut (wat ws k) [120]).2.1 = some r.2 → parI (wat ws k) r) := hid (fun r h1 h2 => ⟨h1, h2⟩)
      clear s0 s1 FN EF WS
      generalize hx : wat ws k = x at *
      have HX := hid hx
      clear hx
      generalize (Lib.cut x [120]).1 = u at *
      generalize (Lib.cut x [120]).2.1 = v at *
      generalize (Lib.cut x [120]).2.2 = bb at *
      cases hu : wholeOf u with
      | none =>
        have BAD : Hid (∀ p, ¬ IsPl s p) := hid (fun p h => by obtain ⟨r, h1, _⟩ := FK.out p h; rw [hu] at h1; cases h1.1)
        rw [hu] at CU
        generalize wholeOf v = ov at *
        clear FK PN hu
        go_wp2_with (first | (go_at_call 56; refine CC.out.mono ?_; rintro e w2 ⟨rfl, h2⟩; have K2 := hid (KP.out.below h2); clear h2) | (go_at_call 57; with_reducible refine (CU.out _ K2.out).mono ?_; rintro e w3 ⟨⟨r1, rfl, _⟩, h3⟩; have K3 := hid (K2.out.below h3); clear h3) | (go_at_call 57; with_reducible refine (CV.out _ K3.out).mono ?_; rintro e w4 ⟨⟨r2, rfl, _⟩, h4⟩; have K4 := hid (K3.out.below h4); clear h4) | (refine wpList_store_row rfl 25 _ _ rfl (w.heap.size) zP rfl rfl 25 zP K4.out.z ZZ.out rfl zP_one ?_))
        refine bodyPost_ret (v := .tuple #[.agg zP, .int .i64 5]) (results_row_tmp rfl _ _ (w.heap.size) 25 zP (0, 0) _ rfl (blk_row_same _ _ _ _ _ _ K4.out.z) Tryd.underlying25 rfl ZZ.out _ rfl) rfl ⟨.inr ⟨BAD.out, rfl⟩, below_setRow K4.out.d (Nat.le_refl _) _⟩
      | some n0 =>
        cases hv : wholeOf v with
        | none =>
          have BAD : Hid (∀ p, ¬ IsPl s p) := hid (fun p h => by obtain ⟨r, h1, _⟩ := FK.out p h; rw [hv] at h1; cases h1.2)
          rw [hu] at CU
          rw [hv] at CV
          clear FK PN hu hv
          go_wp2_with (first | (go_at_call 56; refine CC.out.mono ?_; rintro e w2 ⟨rfl, h2⟩; have K2 := hid (KP.out.below h2); clear h2) | (go_at_call 57; with_reducible refine (CU.out _ K2.out).mono ?_; rintro e w3 ⟨⟨r1, rfl, q1⟩, h3⟩; have e1 := (q1 n0 rfl).symm; subst e1; have K3 := hid (K2.out.below h3); clear h3 q1) | (go_at_call 57; with_reducible refine (CV.out _ K3.out).mono ?_; rintro e w4 ⟨⟨r2, rfl, _⟩, h4⟩; have K4 := hid (K3.out.below h4); clear h4) | (refine wpList_store_row rfl 25 _ _ rfl (w.heap.size) zP rfl rfl 25 zP K4.out.z ZZ.out rfl zP_one ?_))
          refine bodyPost_ret (v := .tuple #[.agg zP, .int .i64 5]) (results_row_tmp rfl _ _ (w.heap.size) 25 zP (0, 0) _ rfl (blk_row_same _ _ _ _ _ _ K4.out.z) Tryd.underlying25 rfl ZZ.out _ rfl) rfl ⟨.inr ⟨BAD.out, rfl⟩, below_setRow K4.out.d (Nat.le_refl _) _⟩
        | some t =>
          rw [hu] at CU
          rw [hv] at CV
          have k3 : IntKind.i64.wrap (24 - ((ex rs).length : Int)) = 24 - ((ex rs).length : Int) := by rw [IntWalk.i64_in] <;> omega
          cases hin : inB n0 1 (24 - ((ex rs).length : Int)) with
          | false =>
            have IN := hid hin
            have BAD : Hid (∀ p, ¬ IsPl s p) := hid (fun p h => by
              obtain ⟨r, h1, h2, _⟩ := FK.out p h
              rw [hu] at h1
              rw [← Option.some.inj h1.1, hin] at h2; cases h2)
            clear FK PN hu hv hin
            generalize (ex rs).length = l at *
            go_wp2_with (first | (go_at_call 56; refine CC.out.mono ?_; rintro e w2 ⟨rfl, h2⟩; have K2 := hid (KP.out.below h2); clear h2) | (go_at_call 57; with_reducible refine (CU.out _ K2.out).mono ?_; rintro e w3 ⟨⟨r1, rfl, q1⟩, h3⟩; have e1 := (q1 n0 rfl).symm; subst e1; have K3 := hid (K2.out.below h3); clear h3 q1) | (go_at_call 57; with_reducible refine (CV.out _ K3.out).mono ?_; rintro e w4 ⟨⟨r2, rfl, q2⟩, h4⟩; have e2 := (q2 t rfl).symm; subst e2; have K4 := hid (K3.out.below h4); clear h4 q2) | (go_at_call 58; refine (c_within _ _ _ _).mono ?_; rintro e w' ⟨rfl, rfl⟩; rw [IN.out]) | (go_at_call 59; refine (c_isTilt _ _).mono ?_; rintro e w' ⟨rfl, rfl⟩; rw [TI.out]) | (refine wpList_store_row rfl 25 _ _ rfl (w.heap.size) zP rfl rfl 25 zP K4.out.z ZZ.out rfl zP_one ?_))
            refine bodyPost_ret (v := .tuple #[.agg zP, .int .i64 5]) (results_row_tmp rfl _ _ (w.heap.size) 25 zP (0, 0) _ rfl (blk_row_same _ _ _ _ _ _ K4.out.z) Tryd.underlying25 rfl ZZ.out _ rfl) rfl ⟨.inr ⟨BAD.out, rfl⟩, below_setRow K4.out.d (Nat.le_refl _) _⟩
          | true =>
            have IN := hid hin
            cases hti : inB t (-64) 64 with
            | false =>
              have TI := hid hti
              have BAD : Hid (∀ p, ¬ IsPl s p) := hid (fun p h => by
                obtain ⟨r, h1, _, h2⟩ := FK.out p h
                rw [hv] at h1
                rw [← Option.some.inj h1.2, hti] at h2; cases h2)
              clear FK PN hu hv hin hti
              generalize (ex rs).length = l at *
              go_wp2_with (first | (go_at_call 56; refine CC.out.mono ?_; rintro e w2 ⟨rfl, h2⟩; have K2 := hid (KP.out.below h2); clear h2) | (go_at_call 57; with_reducible refine (CU.out _ K2.out).mono ?_; rintro e w3 ⟨⟨r1, rfl, q1⟩, h3⟩; have e1 := (q1 n0 rfl).symm; subst e1; have K3 := hid (K2.out.below h3); clear h3 q1) | (go_at_call 57; with_reducible refine (CV.out _ K3.out).mono ?_; rintro e w4 ⟨⟨r2, rfl, q2⟩, h4⟩; have e2 := (q2 t rfl).symm; subst e2; have K4 := hid (K3.out.below h4); clear h4 q2) | (go_at_call 58; refine (c_within _ _ _ _).mono ?_; rintro e w' ⟨rfl, rfl⟩; rw [IN.out]) | (go_at_call 59; refine (c_isTilt _ _).mono ?_; rintro e w' ⟨rfl, rfl⟩; rw [TI.out]) | (refine wpList_store_row rfl 25 _ _ rfl (w.heap.size) zP rfl rfl 25 zP K4.out.z ZZ.out rfl zP_one ?_))
              refine bodyPost_ret (v := .tuple #[.agg zP, .int .i64 5]) (results_row_tmp rfl _ _ (w.heap.size) 25 zP (0, 0) _ rfl (blk_row_same _ _ _ _ _ _ K4.out.z) Tryd.underlying25 rfl ZZ.out _ rfl) rfl ⟨.inr ⟨BAD.out, rfl⟩, below_setRow K4.out.d (Nat.le_refl _) _⟩
            | true =>
              have TI := hid hti
              obtain ⟨n, rfl⟩ : ∃ n : Nat, n0 = n := ⟨n0.toNat, by simp [inB] at hin; omega⟩
              have RG : Hid (1 ≤ n ∧ (ex rs).length + n ≤ 24) := hid (by simp [inB] at hin; omega)
              have TG : Hid (-64 ≤ t ∧ t ≤ 64) := hid (by simp [inB] at hti; omega)
              have PK := hid (PN.out (n, t) hu hv)
              clear FK PN hu hv hin hti
              go_wp2_with (first | (go_at_call 56; refine CC.out.mono ?_; rintro e w2 ⟨rfl, h2⟩; have K2 := hid (KP.out.below h2); clear h2) | (go_at_call 57; with_reducible refine (CU.out _ K2.out).mono ?_; rintro e w3 ⟨⟨r1, rfl, q1⟩, h3⟩; have e1 := (q1 n rfl).symm; subst e1; have K3 := hid (K2.out.below h3); clear h3 q1) | (go_at_call 57; with_reducible refine (CV.out _ K3.out).mono ?_; rintro e w4 ⟨⟨r2, rfl, q2⟩, h4⟩; have e2 := (q2 t rfl).symm; subst e2; have K4 := hid (K3.out.below h4); clear h4 q2) | (go_at_call 58; refine (c_within _ _ _ _).mono ?_; rintro e w' ⟨rfl, rfl⟩; rw [IN.out]) | (go_at_call 59; refine (c_isTilt _ _).mono ?_; rintro e w' ⟨rfl, rfl⟩; rw [TI.out]))
              go_loopw [5, 59] (fun h j wx => ∃ m : Nat, m ≤ n ∧ j = .int .i64 m ∧ h = .int .i64 (((ex rs).length + m : Nat) : Int) ∧ KpP w g ws (pad (rs ++ [(m, t)])) wx) (fun _ j _ => n - (intOf j).toNat)
              case atStart => exact ⟨0, by omega, rfl, rfl, by rw [pad_zero]; exact K4.out⟩
              case round =>
                obtain ⟨m, hm, rfl, rfl, hkm⟩ := hrel
                have KM := hid hkm
                clear hkm
                by_cases hmn : m < n
                · have rg := RG.out
                  have tg := TG.out
                  have PL := hid (pad_len (rs := rs ++ [(m, t)]) (by rw [ex_len]; omega))
                  have cG := (cell_of_row _ _ ((ex rs).length + m) _ _ _ KM.out.b).trans (i16s_at PL.out (show (ex rs).length + m < 24 by omega))
                  have fG := frozen_of_row _ _ ((ex rs).length + m) _ _ KM.out.b
                  have KN := hid (KM.out.set GG.out (k := (ex rs).length + m) (by rw [PL.out]; omega) t)
                  have PS := hid (pad_set rs m t (by omega))
                  have wt : IntKind.i16.wrap t = t := IntWalk.i16_in _ (by omega)
                  generalize hq : (ex rs).length + m = q at *
                  have q24 : (q : Int) < 24 := by omega
                  clear tg
                  go_wp2
                  refine ⟨⟨m + 1, by omega, by go_num, ?_, by rw [PS.out]; exact KN.out⟩, by simp [intOf]; omega⟩
                  rw [show ((q : Int) + 1) = (((ex rs).length + (m + 1) : Nat) : Int) by have := hq; omega]
                · obtain rfl : m = n := by omega
                  go_wp2
                  have lt := LT.out
                  have nl := NL.out
                  have rg := RG.out
                  have ln := LN.out
                  have e1 : wrap64 ((k : Int) + 1) = ((k + 1 : Nat) : Int) := by unfold wrap64; omega
                  rw [e1]
                  refine ⟨⟨k + 1, rs ++ [(m, t)], by omega, by simp [LN.out], rfl, by rw [ex_len], by rw [ex_len]; omega, okR_app.2 ⟨OK.out, ?_⟩, ?_, KM.out⟩, by simp [intOf]; omega⟩
                  · intro r hr
                    simp at hr; subst hr
                    have := TG.out
                    simp only; omega
                  · intro j hj
                    by_cases hjk : j < k
                    · have e : rat (rs ++ [(m, t)]) j = rat rs j := by unfold rat; rw [List.getD_eq_getElem?_getD, List.getD_eq_getElem?_getD, List.getElem?_append_left (by omega)]
                      rw [e]; exact PA.out j (by omega)
                    · have hj2 : j = k := by simp at hj; omega
                      subst hj2
                      have e : rat (rs ++ [(m, t)]) j = (m, t) := by unfold rat; rw [List.getD_eq_getElem?_getD, List.getElem?_append_right (by omega)]; simp [ln]
                      rw [e, HX.out]; exact PK.out
    · obtain rfl : k = ws.length := by omega
      have PL := hid (pad_len (rs := rs) LE.out)
      have CP := hid (c_implPlanText (pad rs) PL.out wr (fun j _ => by have := pad_in OK.out j; omega) (TT.out.below KP.out.d))
      have ZI : Hid ((Tryd.prog.info? 25).map (·.size) = some (i16s (pad rs)).size) := hid (by rw [show (i16s (pad rs)).size = 24 by simp [i16s, PL.out]]; kernel_rfl)
      have TI : Hid (tilts (pad rs) = true) := hid (tilts_of (fun j _ => pad_in OK.out j))
      have EN := hid (EF.out rs LN.out PA.out)
      by_cases he : planT (pad rs) = s
      · have GOOD : Hid (IsPl s (pad rs)) := hid ⟨PL.out, TI.out, he⟩
        rw [he] at CP
        clear he FN EF WS
        have SE : Hid (zP.size = (i16s (pad rs)).size) := hid (by rw [show (i16s (pad rs)).size = 24 by simp [i16s, PL.out]]; rfl)
        go_wp2_with (first | (refine wpList_load_row rfl 25 _ rfl (w.heap.size + 1) rfl 25 (i16s (pad rs)) (0, 0) _ KP.out.b Tryd.underlying25 rfl ZI.out ?_) | (go_at_call 12; refine CP.out.mono ?_; rintro e w2 ⟨rfl, h2⟩; have K2 := hid (KP.out.below h2); clear h2) | (refine wpList_load_row rfl 25 _ rfl (w.heap.size + 1) rfl 25 (i16s (pad rs)) (0, 0) _ K2.out.b Tryd.underlying25 rfl ZI.out ?_) | (refine wpList_store_row rfl 25 _ _ rfl (w.heap.size) (i16s (pad rs)) rfl rfl 25 zP K2.out.z ZI.out SE.out (i16s_all _) ?_))
        refine bodyPost_ret (v := .tuple #[.agg (i16s (pad rs)), .int .i64 0]) (results_row_tmp rfl _ _ (w.heap.size) 25 (i16s (pad rs)) (0, 0) _ rfl (blk_row_same _ _ _ _ _ _ K2.out.z) Tryd.underlying25 rfl ZI.out _ rfl) rfl ⟨.inl ⟨_, GOOD.out, rfl⟩, below_setRow K2.out.d (Nat.le_refl _) _⟩
      · have BAD : Hid (∀ p, ¬ IsPl s p) := hid (fun p h => he (by rw [EN.out p h]; exact h.2.2))
        generalize planT (pad rs) = tx at *
        have hne : (!(tx == s)) = true := by simp [he]
        clear FN EF WS
        go_wp2_with (first | (refine wpList_load_row rfl 25 _ rfl (w.heap.size + 1) rfl 25 (i16s (pad rs)) (0, 0) _ KP.out.b Tryd.underlying25 rfl ZI.out ?_) | (go_at_call 12; refine CP.out.mono ?_; rintro e w2 ⟨rfl, h2⟩; have K2 := hid (KP.out.below h2); clear h2) | (refine wpList_store_row rfl 25 _ _ rfl (w.heap.size) zP rfl rfl 25 zP K2.out.z ZZ.out rfl zP_one ?_))
        refine bodyPost_ret (v := .tuple #[.agg (zP), .int .i64 5]) (results_row_tmp rfl _ _ (w.heap.size) 25 (zP) (0, 0) _ rfl (blk_row_same _ _ _ _ _ _ K2.out.z) Tryd.underlying25 rfl ZZ.out _ rfl) rfl ⟨.inr ⟨BAD.out, rfl⟩, below_setRow K2.out.d (Nat.le_refl _) _⟩
end Go.Proofs.YtdcjoafagalejaaDoor
