/- Lists read from texts: both sides. -/
import Derived.Test.YtdcjoafagalejaaDoorHexRd
import Derived.Test.YtdcjoafagalejaaDoorRState
import Derived.Test.YtdcjoafagalejaaDoorRuns
import Derived.Test.YtdcjoafagalejaaDoorMarks
import Derived.Test.YtdcjoafagalejaaDoorLText
namespace Go.Proofs.YtdcjoafagalejaaDoor
set_option maxRecDepth 20000
open Go.RowKit

/-! ### Plain -/
def IsLi (s : List UInt8) (xs : List Nat) : Prop := validL xs = true ∧ (∀ k, k < xs.length → IsNum (hex8 (fat xs k)) (fat xs k)) ∧ s = Lib.join (xs.map hex8) [32]
open Classical in
noncomputable def liOf (s : List UInt8) : List Nat × Int := if h : ∃ xs, IsLi s xs then (Classical.choose h, 0) else ([], 5)
theorem hex8_free (x : Nat) : (32 : UInt8) ∉ hex8 x := by
  intro h
  obtain ⟨k, hk, e⟩ := List.mem_iff_getElem.1 h
  have h8 : k < 8 := by rw [show (hex8 x).length = 8 from hexL_len x 8] at hk; exact hk
  have := (hex8_low (x := x) h8).1
  rw [show bat (hex8 x) k = 32 from by unfold bat; rw [List.getD_eq_getElem?_getD, List.getElem?_eq_getElem hk]; exact e] at this
  revert this; decide
theorem isLi_words {s : List UInt8} {xs : List Nat} (h : IsLi s xs) (hs : s ≠ []) : cuts 32 s = xs.map hex8 := by
  obtain ⟨_, _, h3⟩ := h
  rw [h3]
  refine cuts_join (fun e => hs ?_) (fun x hx => ?_)
  · rw [h3, e]; rfl
  · obtain ⟨y, _, rfl⟩ := List.mem_map.1 hx; exact hex8_free y
theorem isLi_nil {xs : List Nat} (h : IsLi [] xs) : xs = [] := by
  cases xs with
  | nil => rfl
  | cons x xs =>
    have := congrArg List.length h.2.2
    rw [List.map_cons, Lib.join_cons, List.length_append, show (hex8 x).length = 8 from hexL_len x 8] at this
    simp at this
    omega
theorem isLi_wat {s : List UInt8} {xs : List Nat} (h : IsLi s xs) (hs : s ≠ []) {k : Nat} (hk : k < (cuts 32 s).length) : IsNum (wat (cuts 32 s) k) (fat xs k) := by
  have e := isLi_words h hs
  rw [e] at hk ⊢
  have hk' : k < xs.length := by simpa using hk
  have : wat (xs.map hex8) k = hex8 (fat xs k) := by unfold wat fat; rw [List.getD_eq_getElem?_getD, List.getD_eq_getElem?_getD, List.getElem?_map, List.getElem?_eq_getElem hk']; rfl
  rw [this]; exact h.2.1 k hk'
theorem isLi_len {s : List UInt8} {xs : List Nat} (h : IsLi s xs) (hs : s ≠ []) : xs.length = (cuts 32 s).length := by rw [isLi_words h hs]; simp
theorem fat_ext {xs ys : List Nat} (h : xs.length = ys.length) (h2 : ∀ k, k < xs.length → fat xs k = fat ys k) : xs = ys := by
  apply List.ext_getElem h
  intro k h1 h3
  have := h2 k h1
  simpa [fat, h1, h3] using this
theorem isLi_of_nums {s : List UInt8} {xs ys : List Nat} (h : IsLi s xs) (hs : s ≠ []) (hl : ys.length = (cuts 32 s).length) (hy : ∀ k, k < ys.length → IsNum (wat (cuts 32 s) k) (fat ys k)) : xs = ys :=
  fat_ext (by rw [isLi_len h hs, hl]) (fun k hk => by
    have hk' : k < (cuts 32 s).length := by rw [← isLi_len h hs]; exact hk
    exact isNum_one (isLi_wat h hs hk') (hy k (by rw [hl]; exact hk')))
theorem nums_isLi {s : List UInt8} {ys : List Nat} (hl : ys.length = (cuts 32 s).length) (hy : ∀ k, k < ys.length → IsNum (wat (cuts 32 s) k) (fat ys k)) (hv : validL ys = true) : IsLi s ys := by
  refine ⟨hv, fun k hk => ⟨(hy k hk).1, (hy k hk).2.1, rfl⟩, ?_⟩
  have e : ys.map hex8 = cuts 32 s := by
    apply List.ext_getElem (by simpa using hl)
    intro k h1 h2
    have hk : k < ys.length := by simpa using h1
    have := (hy k hk).2.2
    rw [List.getElem_map]
    simpa [fat, wat, hk, h2] using this.symm
  rw [e, join_cuts]
theorem liOf_yes {s : List UInt8} {xs : List Nat} (h : IsLi s xs) : liOf s = (xs, 0) := by
  have hx : ∃ xs, IsLi s xs := ⟨xs, h⟩
  unfold liOf
  rw [dif_pos hx]
  have hc := Classical.choose_spec hx
  by_cases hs : s = []
  · subst hs; rw [isLi_nil hc, isLi_nil h]
  · have : Classical.choose hx = xs := isLi_of_nums hc hs (isLi_len h hs) (fun k hk => isLi_wat h hs (by rw [← isLi_len h hs]; exact hk))
    rw [this]
theorem liOf_no {s : List UInt8} (h : ∀ xs, ¬ IsLi s xs) : liOf s = ([], 5) := by
  unfold liOf; rw [dif_neg (fun ⟨xs, hx⟩ => h xs hx)]
theorem liOf_nil : liOf [] = ([], 0) := liOf_yes ⟨by decide, fun k hk => absurd hk (Nat.not_lt_zero k), rfl⟩
theorem liOf_len (s : List UInt8) : (liOf s).1.length ≤ 99 := by
  by_cases h : ∃ xs, IsLi s xs
  · obtain ⟨xs, h⟩ := h
    rw [liOf_yes h]
    have := h.1
    simp only [validL, Bool.and_eq_true, decide_eq_true_eq] at this
    simp only; omega
  · rw [liOf_no (fun xs hx => h ⟨xs, hx⟩)]; simp
theorem liOf_word (s : List UInt8) : ∀ k, k < (liOf s).1.length → fat (liOf s).1 k < 4294967296 := by
  by_cases h : ∃ xs, IsLi s xs
  · obtain ⟨xs, h⟩ := h
    rw [liOf_yes h]
    exact fun k hk => (h.2.1 k hk).1
  · rw [liOf_no (fun xs hx => h ⟨xs, hx⟩)]; intro k hk; simp at hk
/-- What both sides return. -/
def LiRet (s : List UInt8) (lo : Nat) (e : Ending) (w' : World) : Prop := ∃ v, e = .returned (.tuple #[v, .int .i64 (liOf s).2]) ∧ GotF w' lo v (liOf s).1
theorem ret_li {s : List UInt8} {lo : Nat} {e : Ending} {w' : World} {v : Value} {xs : List Nat} {c : Int} (hl : liOf s = (xs, c)) (he : e = .returned (.tuple #[v, .int .i64 c])) (hg : GotF w' lo v xs) : LiRet s lo e w' :=
  ⟨v, by rw [he, hl], by rw [hl]; exact hg⟩
theorem info_fl : (Tryd.prog.info? 37).map (fun i => (i.zero, i.size, i.bytes)) = some (some (.float .f32 0), 1, 4) := by kernel_rfl
theorem one_cellF (x : Nat) : ∀ u ∈ [Value.float .f32 x], u.oneCell' = true := by intro u hu; simp at hu; subst hu; rfl
theorem gotF_empty (w : World) (lo : Nat) (h : lo ≤ w.heap.size) : GotF (w.alloc (.cells #[] 37)) lo (.slice (some ⟨w.heap.size, 0, none⟩) 0 0) [] := ownsS_from (ownsS_empty _ _) h
theorem gotF_flts {w : World} {lo : Nat} {v : Value} {l : List Nat} (h : GotF w lo v l) (hl : l.length ≤ 1048577) (hw : ∀ k, k < l.length → fat l k < 4294967296) : ∃ a ca, v = .slice a l.length ca ∧ Flts w a l.length l := by
  have h' := h
  unfold GotF at h'
  rcases h.2 with ⟨rfl, h0⟩ | ⟨g, cap, cur, rfl, hlo, hb, _⟩
  · obtain rfl := List.length_eq_zero_iff.1 h0
    exact ⟨none, 0, rfl, ⟨rfl, by simp, fun k hk => by simp at hk, fun hk => by simp at hk⟩⟩
  · exact ⟨_, cap, rfl, ⟨rfl, by omega, hw, fun _ => ⟨g, 0, rfl, fun j hj => by rw [Nat.zero_add, h'.cellAt j (by omega)]; exact f32_at hj⟩⟩⟩
set_option maxHeartbeats 2000000 in
theorem c_implReadList (s : List UInt8) (hs : s.length ≤ 1048576) (w : World) (hM : MaxL w) (hE : Errs w) (hD : D64 w) :
    Calls Tryd.prog 18 #[txt s] w fun e w' => LiRet s w.heap.size e w' ∧ Below w.heap.size w w' := by
  have O0 : Hid (GotF (w.alloc (.cells #[] 37)) w.heap.size (.slice (some ⟨w.heap.size, 0, none⟩) 0 0) []) := hid (gotF_empty w _ (Nat.le_refl _))
  have H0 : Hid (Below w.heap.size w (w.alloc (.cells #[] 37))) := hid ((Below.refl _ _).alloc (Nat.le_refl _) _)
  by_cases he : s = []
  · subst he
    have L0 := hid liOf_nil
    clear hM hE hD
    go_enter Tryd.func18, Tryd.ntmps18
    go_wp2
    go_ret2
    exact ⟨ret_li L0.out rfl O0.out, H0.out⟩
  · obtain ⟨i0, hi, hz0, hz1, hz2⟩ := info_parts info_fl
    have HI := hid hi
    have HZ0 := hid hz0
    have HZ1 := hid hz1
    have HZ2 := hid hz2
    have EE := hid hE
    have DD := hid hD
    have CS := hid (fun w2 (h : Below w.heap.size w w2) => let ⟨m, hm⟩ := hM.below h; c_SplitB s 32 hs m w2 hm)
    have WS := hid (fun k (h : k < (cuts 32 s).length) => Nat.le_trans (wat_short (c := 32) (s := s) h) hs)
    have NL : Hid ((cuts 32 s).length ≤ 1048577) := hid (by have := cuts_len 32 s; omega)
    have LWL := hid (fun xs (h : IsLi s xs) => isLi_len h he)
    have LWW := hid (fun xs (h : IsLi s xs) k hk => isLi_wat h he (k := k) hk)
    have LWV := hid (fun xs (h : IsLi s xs) => h.1)
    have LY := hid (fun xs (h : IsLi s xs) => liOf_yes h)
    have LNO := hid (liOf_no (s := s))
    have NI := hid (fun (ys : List Nat) h1 h2 h3 => nums_isLi (s := s) (ys := ys) h1 h2 h3)
    have NU := hid (fun (xs ys : List Nat) h h1 h2 => isLi_of_nums (s := s) (xs := xs) (ys := ys) h he h1 h2)
    have hne : (s == []) = false := by cases s with | nil => exact absurd rfl he | cons _ _ => rfl
    clear hM hE hD hi hz0 hz1 hz2 he
    go_enter Tryd.func18, Tryd.ntmps18
    go_wp2_with fail
    refine (CS.out _ H0.out).mono ?_
    rintro e w1 ⟨rfl, ha, h1⟩
    have AA := hid ha
    have D1 := hid (below_trans H0.out h1 H0.out.size)
    have O1 : Hid (GotF w1 w.heap.size (.slice (some ⟨w.heap.size, 0, none⟩) 0 0) []) := hid (ownsS_below O0.out h1)
    clear ha h1 CS
    generalize (w.alloc (.cells #[] 37)).heap.size = g at *
    generalize cuts 32 s = ws at *
    go_wp2_with fail
    go_loopw [4, 16] (fun v i wr => ∃ (k : Nat) (ys : List Nat), k ≤ ws.length ∧ ys.length = k ∧ k ≤ 48 ∧ i = .int .i64 k ∧ GotF wr w.heap.size v ys ∧ v ≠ .slice none 0 0 ∧ (∀ j, j < ys.length → IsNum (wat ws j) (fat ys j)) ∧ TxtBlk wr g ws ∧ Below w.heap.size w wr) (fun _ i _ => ws.length - (intOf i).toNat)
    case atStart => exact ⟨0, [], by omega, rfl, by omega, rfl, O1.out, by simp, (fun j hj => absurd hj (Nat.not_lt_zero j)), AA.out, D1.out⟩
    case round =>
      obtain ⟨k, ys, hk, hyl, h48, rfl, hgo, hnv, hnum, htx, hbel⟩ := hrel
      obtain ⟨a, ca, hv0, hfl⟩ := gotF_flts hgo (by omega) (fun j hj => (hnum j hj).1)
      rw [hyl] at hv0 hfl
      subst hv0
      have hgo2 : wr.ownsRow w.heap.size 37 1 (.slice a k ca) k (ys.map (Value.float .f32)) := by have := hgo; unfold GotF at this; rw [hyl] at this; exact this
      have OW := hid hgo2
      have FL := hid hfl
      clear hgo2 hfl
      have O := hid hgo
      have NE := hid hnv
      have NM := hid hnum
      have TX := hid htx
      have B := hid hbel
      have YL := hid hyl
      clear hgo hnv hnum htx hbel hyl
      by_cases hlt : k < ws.length
      · have LT := hid hlt
        have c1 := TX.out.at_ k hlt
        rw [Nat.zero_add] at c1
        have CR := hid (c_ReadNumber (wat ws k) wr (EE.out.below B.out) (DD.out.below B.out))
        have BADW : Hid ((∀ y, ¬ IsNum (wat ws k) y) → ∀ xs, ¬ IsLi s xs) := hid (fun h xs hx => h _ (LWW.out xs hx k hlt))
        have BADL : Hid (k = 48 → ∀ xs, ¬ IsLi s xs) := hid (fun h xs hx => by
          have h1 := LWL.out xs hx
          have h2 := LWV.out xs hx
          simp only [validL, Bool.and_eq_true, decide_eq_true_eq] at h2
          omega)
        clear LWL LWW LWV LY NI NU
        go_wp2_with fail
        refine CR.out.mono ?_
        rintro e w2 ⟨hr, h2⟩
        have D2 := hid (below_trans B.out h2 B.out.size)
        have D2' := hid h2
        clear h2 CR
        rcases hr with ⟨y, hy, rfl⟩ | ⟨hn, rfl⟩
        · have HY := hid hy
          clear hy
          by_cases hk48 : k = 48
          · have L5 := hid (LNO.out (BADL.out hk48))
            clear BADW BADL LNO
            subst hk48
            go_wp2
            go_ret2
            exact ⟨ret_li L5.out rfl (GotF.nil _ _), D2.out⟩
          · have yl : ¬ (k : Int) = 48 := by omega
            clear BADW BADL LNO
            go_wp2_with (at_builtin; refine wpList_append_own _ rfl _ _ 28 rfl w.heap.size 37 i0 (.float .f32 0) 1 4 Tryd.underlying28 HI.out HZ0.out HZ1.out HZ2.out rfl (by decide) _ _ _ rfl ((ownsS_below OW.out D2'.out).alloc _) ⟨w2.heap.size, 0, none⟩ 1 1 [.float .f32 y] rfl rfl (one_at _ _ _) (one_cellF _) (by unfold maxLen; omega) (by omega) (by have h1 := B.out.size; have h2 := D2'.out.size; simp; omega) ?_; intro v' w3 hown' hgrow hnil; have NE2 : Hid (v' ≠ .slice none 0 0) := hid (fun e => NE.out (hnil.1 e).1); have O1 := hid hown'; have T1 := hid (((TX.out.below D2'.out).alloc _).kept ((ownsS_below OW.out D2'.out).alloc _) (by decide) hgrow); have B1 := hid (appT D2.out (Nat.le_trans B.out.size D2'.out.size) (ownsS_below OW.out D2'.out) hgrow); clear hown' hgrow hnil)
            refine ⟨⟨k + 1, ys ++ [y], by have := LT.out; omega, by simp [YL.out], by omega, rfl, ?_, NE2.out, ?_, T1.out, B1.out⟩, by have := LT.out; simp [intOf]; omega⟩
            · unfold GotF
              rw [show (ys ++ [y]).map (Value.float .f32) = ys.map (Value.float .f32) ++ [.float .f32 y] by simp, show (ys ++ [y]).length = k + 1 by simp [YL.out]]
              exact O1.out
            · intro j hj
              by_cases hjk : j < ys.length
              · rw [show fat (ys ++ [y]) j = fat ys j by unfold fat; rw [List.getD_eq_getElem?_getD, List.getD_eq_getElem?_getD, List.getElem?_append_left hjk]]
                exact NM.out j hjk
              · have hj2 : j = ys.length := by simp at hj; omega
                subst hj2
                rw [show fat (ys ++ [y]) ys.length = y by unfold fat; rw [List.getD_eq_getElem?_getD, List.getElem?_append_right (Nat.le_refl _)]; simp]
                have := HY.out
                rw [YL.out]; exact this
        · have L5 := hid (LNO.out (BADW.out hn))
          clear BADW BADL LNO hn
          go_wp2
          go_ret2
          exact ⟨ret_li L5.out rfl (GotF.nil _ _), D2.out⟩
      · obtain rfl : k = ws.length := by omega
        have CV := hid (c_implValidList a ws.length ca ys wr FL.out)
        cases hv : validL ys with
        | true =>
          have LI := hid (LY.out _ (NI.out ys YL.out NM.out hv))
          rw [hv] at CV
          clear hv LWL LWW LWV LY LNO NI NU
          go_wp2_with (go_at_call 40; refine CV.out.mono ?_; rintro e w2 ⟨rfl, rfl⟩)
          go_ret2
          exact ⟨ret_li LI.out rfl O.out, B.out⟩
        | false =>
          have L5 := hid (LNO.out (fun xs hx => by
            have := NU.out xs ys hx YL.out NM.out
            have h2 := LWV.out xs hx
            rw [this, hv] at h2; cases h2))
          rw [hv] at CV
          clear hv LWL LWW LWV LY LNO NI NU
          go_wp2_with (go_at_call 40; refine CV.out.mono ?_; rintro e w2 ⟨rfl, rfl⟩)
          go_ret2
          exact ⟨ret_li L5.out rfl (GotF.nil _ _), B.out⟩
set_option maxHeartbeats 2000000 in
theorem c_specReadList (s : List UInt8) (hs : s.length ≤ 1048576) (w : World) :
    Calls Tryd.prog 17 #[txt s] w fun e w' => LiRet s w.heap.size e w' ∧ Below w.heap.size w w' := by
  have O0 : Hid (GotF (w.alloc (.cells #[] 37)) w.heap.size (.slice (some ⟨w.heap.size, 0, none⟩) 0 0) []) := hid (gotF_empty w _ (Nat.le_refl _))
  have H0 : Hid (Below w.heap.size w (w.alloc (.cells #[] 37))) := hid ((Below.refl _ _).alloc (Nat.le_refl _) _)
  by_cases he : s = []
  · subst he
    have L0 := hid liOf_nil
    go_enter Tryd.func17, Tryd.ntmps17
    go_wp2
    go_ret2
    exact ⟨ret_li L0.out rfl O0.out, H0.out⟩
  · obtain ⟨i0, hi, hz0, hz1, hz2⟩ := info_parts info_fl
    have HI := hid hi
    have HZ0 := hid hz0
    have HZ1 := hid hz1
    have HZ2 := hid hz2
    have CS := hid (fun w2 => c_l01SplitB s 32 hs w2)
    have NL : Hid ((cuts 32 s).length ≤ 1048577) := hid (by have := cuts_len 32 s; omega)
    have LWW := hid (fun xs (h : IsLi s xs) k hk => isLi_wat h he (k := k) hk)
    have LWV := hid (fun xs (h : IsLi s xs) => h.1)
    have LY := hid (fun xs (h : IsLi s xs) => liOf_yes h)
    have LNO := hid (liOf_no (s := s))
    have NI := hid (fun (ys : List Nat) h1 h2 h3 => nums_isLi (s := s) (ys := ys) h1 h2 h3)
    have NU := hid (fun (xs ys : List Nat) h h1 h2 => isLi_of_nums (s := s) (xs := xs) (ys := ys) h he h1 h2)
    have hne : (s == []) = false := by cases s with | nil => exact absurd rfl he | cons _ _ => rfl
    clear hi hz0 hz1 hz2 he
    go_enter Tryd.func17, Tryd.ntmps17
    go_wp2_with fail
    refine (CS.out _).mono ?_
    rintro e w1 ⟨⟨g, cg, rfl, ha⟩, h1⟩
    have AA := hid ha
    have D1 := hid (below_trans H0.out h1 H0.out.size)
    have O1 : Hid (GotF w1 w.heap.size (.slice (some ⟨w.heap.size, 0, none⟩) 0 0) []) := hid (ownsS_below O0.out h1)
    clear ha h1 CS
    generalize cuts 32 s = ws at *
    go_wp2_with fail
    go_loopw [4, 6] (fun v i wr => ∃ (k : Nat) (ys : List Nat), k ≤ ws.length ∧ ys.length = k ∧ i = .int .i64 k ∧ GotF wr w.heap.size v ys ∧ v ≠ .slice none 0 0 ∧ (∀ j, j < ys.length → IsNum (wat ws j) (fat ys j)) ∧ TxtBlk wr g ws ∧ Below w.heap.size w wr) (fun _ i _ => ws.length - (intOf i).toNat)
    case atStart => exact ⟨0, [], by omega, rfl, rfl, O1.out, by simp, (fun j hj => absurd hj (Nat.not_lt_zero j)), AA.out, D1.out⟩
    case round =>
      obtain ⟨k, ys, hk, hyl, rfl, hgo, hnv, hnum, htx, hbel⟩ := hrel
      obtain ⟨a, ca, hv0, hfl⟩ := gotF_flts hgo (by have := NL.out; omega) (fun j hj => (hnum j hj).1)
      rw [hyl] at hv0 hfl
      subst hv0
      have hgo2 : wr.ownsRow w.heap.size 37 1 (.slice a k ca) k (ys.map (Value.float .f32)) := by have := hgo; unfold GotF at this; rw [hyl] at this; exact this
      have OW := hid hgo2
      have FL := hid hfl
      clear hgo2 hfl
      have O := hid hgo
      have NE := hid hnv
      have NM := hid hnum
      have TX := hid htx
      have B := hid hbel
      have YL := hid hyl
      clear hgo hnv hnum htx hbel hyl
      by_cases hlt : k < ws.length
      · have LT := hid hlt
        have c1 := TX.out.at_ k hlt
        rw [Nat.zero_add] at c1
        have CR := hid (c_l01Read (wat ws k) wr)
        have BADW : Hid ((∀ y, ¬ IsNum (wat ws k) y) → ∀ xs, ¬ IsLi s xs) := hid (fun h xs hx => h _ (LWW.out xs hx k hlt))
        clear LWW LWV LY NI NU
        go_wp2_with fail
        refine CR.out.mono ?_
        rintro e w2 ⟨hr, rfl⟩
        clear CR
        rcases hr with ⟨y, hy, rfl⟩ | ⟨hn, y, rfl⟩
        · have HY := hid hy
          clear hy BADW LNO
          have nl := NL.out
          go_wp2_with (at_builtin; refine wpList_append_own _ rfl _ _ 28 rfl w.heap.size 37 i0 (.float .f32 0) 1 4 Tryd.underlying28 HI.out HZ0.out HZ1.out HZ2.out rfl (by decide) _ _ _ rfl (OW.out.alloc _) ⟨wr.heap.size, 0, none⟩ 1 1 [.float .f32 y] rfl rfl (one_at _ _ _) (one_cellF _) (by unfold maxLen; omega) (by omega) (by have h1 := B.out.size; simp; omega) ?_; intro v' w3 hown' hgrow hnil; have NE2 : Hid (v' ≠ .slice none 0 0) := hid (fun e => NE.out (hnil.1 e).1); have O1 := hid hown'; have T1 := hid ((TX.out.alloc _).kept (OW.out.alloc _) (by decide) hgrow); have B1 := hid (appT B.out B.out.size OW.out hgrow); clear hown' hgrow hnil)
          try rw [show wrap64 ((k : Int) + 1) = ((k + 1 : Nat) : Int) by unfold wrap64; omega]
          refine ⟨⟨k + 1, ys ++ [y], by have := LT.out; omega, by simp [YL.out], rfl, ?_, NE2.out, ?_, T1.out, B1.out⟩, by have := LT.out; simp [intOf]; omega⟩
          · unfold GotF
            rw [show (ys ++ [y]).map (Value.float .f32) = ys.map (Value.float .f32) ++ [.float .f32 y] by simp, show (ys ++ [y]).length = k + 1 by simp [YL.out]]
            exact O1.out
          · intro j hj
            by_cases hjk : j < ys.length
            · rw [show fat (ys ++ [y]) j = fat ys j by unfold fat; rw [List.getD_eq_getElem?_getD, List.getD_eq_getElem?_getD, List.getElem?_append_left hjk]]
              exact NM.out j hjk
            · have hj2 : j = ys.length := by simp at hj; omega
              subst hj2
              rw [show fat (ys ++ [y]) ys.length = y by unfold fat; rw [List.getD_eq_getElem?_getD, List.getElem?_append_right (Nat.le_refl _)]; simp]
              have := HY.out
              rw [YL.out]; exact this
        · have L5 := hid (LNO.out (BADW.out hn))
          have E0 : Hid (GotF (wr.alloc (.cells #[] 37)) w.heap.size (.slice (some ⟨wr.heap.size, 0, none⟩) 0 0) []) := hid (ownsS_from (ownsS_empty _ _) B.out.size)
          have D3 : Hid (Below w.heap.size w (wr.alloc (.cells #[] 37))) := hid (B.out.alloc B.out.size _)
          clear BADW LNO hn
          go_wp2
          go_ret2
          exact ⟨ret_li L5.out rfl E0.out, D3.out⟩
      · obtain rfl : k = ws.length := by omega
        have CV := hid (c_l06Ok a ws.length ca ys wr FL.out)
        cases hv : validL ys with
        | true =>
          have LI := hid (LY.out _ (NI.out ys YL.out NM.out hv))
          rw [hv] at CV
          clear hv LWW LWV LY LNO NI NU
          go_wp2_with (go_at_call 38; refine CV.out.mono ?_; rintro e w2 ⟨rfl, rfl⟩)
          go_ret2
          exact ⟨ret_li LI.out rfl O.out, B.out⟩
        | false =>
          have L5 := hid (LNO.out (fun xs hx => by
            have := NU.out xs ys hx YL.out NM.out
            have h2 := LWV.out xs hx
            rw [this, hv] at h2; cases h2))
          have E0 : Hid (GotF (wr.alloc (.cells #[] 37)) w.heap.size (.slice (some ⟨wr.heap.size, 0, none⟩) 0 0) []) := hid (ownsS_from (ownsS_empty _ _) B.out.size)
          have D3 : Hid (Below w.heap.size w (wr.alloc (.cells #[] 37))) := hid (B.out.alloc B.out.size _)
          rw [hv] at CV
          clear hv LWW LWV LY LNO NI NU
          go_wp2_with (go_at_call 38; refine CV.out.mono ?_; rintro e w2 ⟨rfl, rfl⟩)
          go_ret2
          exact ⟨ret_li L5.out rfl E0.out, D3.out⟩
end Go.Proofs.YtdcjoafagalejaaDoor
