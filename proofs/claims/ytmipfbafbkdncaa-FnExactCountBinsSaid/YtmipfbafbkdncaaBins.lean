/- Walks of the counts of numbers between bounds. -/
import Derived.Test.YtmipfbafbkdncaaMisc
import Derived.Test.YtmipfbafbkdncaaMarks
namespace Go.Proofs.Ytmipfbafbkdncaa
open Go.RowKit

/-- The bin of a number, looked for from the k-th bound on. -/
def binFrom (bs : List Nat) (x : Nat) : Nat → Nat → Nat
  | 0, k => k
  | f + 1, k => if fGe x (fat bs k) then binFrom bs x f (k + 1) else k
def binOf (bs : List Nat) (x : Nat) : Nat := binFrom bs x bs.length 0
theorem binFrom_le (bs : List Nat) (x : Nat) : ∀ f k, binFrom bs x f k ≤ f + k
  | 0, k => by simp [binFrom]
  | f + 1, k => by
    unfold binFrom
    split
    · have := binFrom_le bs x f (k + 1); omega
    · omega
def binsK (xs bs : List Nat) : Nat → List Int
  | 0 => List.replicate (bs.length + 1) 0
  | i + 1 => (binsK xs bs i).set (binOf bs (fat xs i)) (iat (binsK xs bs i) (binOf bs (fat xs i)) + 1)
theorem binsK_len (xs bs : List Nat) : ∀ i, (binsK xs bs i).length = bs.length + 1
  | 0 => by simp [binsK]
  | i + 1 => by rw [binsK, List.length_set, binsK_len xs bs i]
theorem iat_set (l : List Int) (j k : Nat) (v : Int) : iat (l.set j v) k = if j = k ∧ j < l.length then v else iat l k := by
  unfold iat
  rw [List.getD_eq_getElem?_getD, List.getD_eq_getElem?_getD, List.getElem?_set]
  by_cases h : j = k
  · subst h
    by_cases h2 : j < l.length
    · simp [h2]
    · simp [h2]
  · simp [h]
theorem binsK_bd (xs bs : List Nat) : ∀ i j, 0 ≤ iat (binsK xs bs i) j ∧ iat (binsK xs bs i) j ≤ i
  | 0, j => by
    unfold binsK iat
    rw [List.getD_eq_getElem?_getD, List.getElem?_replicate]
    split <;> simp
  | i + 1, j => by
    have h1 := binsK_bd xs bs i j
    have h2 := binsK_bd xs bs i (binOf bs (fat xs i))
    rw [binsK, iat_set]
    split <;> omega
theorem fLe_fGe {x y : Nat} (hx : isFin x = true) (hy : isFin y = true) : fLe y x = fGe x y := by
  have e1 : FloatKind.f32.format.order x y = some (compare (fx x) (fx y)) := order_fin hx hy
  have e2 : FloatKind.f32.format.order y x = some (compare (fx y) (fx x)) := order_fin hy hx
  rw [Bool.eq_iff_iff]
  simp only [fLe, fGe, e1, e2, Bool.or_eq_true, beq_iff_eq, Option.some.injEq, cmp_gt, cmp_eq, cmp_lt]
  omega
def rises (bs : List Nat) : Bool := (List.range (bs.length - 1)).all fun i => !fGe (fat bs i) (fat bs (i + 1))
theorem rises_no {bs : List Nat} {i : Nat} (h : i + 1 < bs.length) (h2 : fGe (fat bs i) (fat bs (i + 1)) = true) : rises bs = false := by
  simp only [rises, List.all_eq_false, List.mem_range]; exact ⟨i, by omega, by simp [h2]⟩
theorem rises_yes {bs : List Nat} (h : ∀ i, i + 1 < bs.length → fGe (fat bs i) (fat bs (i + 1)) = false) : rises bs = true := by
  simp only [rises, List.all_eq_true, List.mem_range]; exact fun i hi => by rw [h i (by omega)]; rfl
def cbC (xs bs : List Nat) : Int := if validL xs && validL bs then (if decide (bs.length ≤ 16) && rises bs then 0 else 2) else 1
def cbL (xs bs : List Nat) : List Int := if cbC xs bs = 0 then binsK xs bs xs.length else []
theorem bins_next {xs bs : List Nat} {i k : Nat} (h : binOf bs (fat xs i) = k) : ((binsK xs bs i).map (Value.int .i64)).set k (.int .i64 (iat (binsK xs bs i) k + 1)) = (binsK xs bs (i + 1)).map (Value.int .i64) := by
  rw [binsK, h, List.map_set]
theorem cbL_len (xs bs : List Nat) : (cbL xs bs).length ≤ 99 := by
  unfold cbL
  split
  · next h =>
    rw [binsK_len]
    unfold cbC at h
    split at h
    · split at h
      · next h2 => simp only [Bool.and_eq_true, decide_eq_true_eq] at h2; omega
      · omega
    · omega
  · simp
theorem c_implCountBins (a b : Option Addr) (n m ca cb : Nat) (xs bs : List Nat) (w : World) (hx : Flts w a n xs) (hy : Flts w b m bs) :
    Calls Try.prog 41 #[.slice a n ca, .slice b m cb] w fun e w' => (∃ v, e = .returned (.tuple #[v, .int .i64 (cbC xs bs)]) ∧ GotI w' w.heap.size v (cbL xs bs)) ∧ Below w.heap.size w w' := by
  have hs := hx.small
  have hs2 := hy.small
  have X := hid hx
  have Y := hid hy
  clear hx hy
  cases hv : validL xs
  case false =>
    go_enter Try.func41, Try.ntmps41
    go_wp2_with (go_at_call 58; refine (c_implValidList _ _ _ _ _ X.out).mono ?_; rintro e w' ⟨rfl, rfl⟩)
    go_ret2
    exact ⟨⟨_, by simp [cbC, hv]; rfl, by simp [cbL, cbC, hv]; exact GotI.nil _ _⟩, Below.refl _ _⟩
  case true =>
    cases hv2 : validL bs
    case false =>
      go_enter Try.func41, Try.ntmps41
      go_wp2_with fail
      refine (c_implValidList _ _ _ _ _ X.out).mono ?_
      rintro e w' ⟨rfl, rfl⟩
      go_wp2_with fail
      refine (c_implValidList _ _ _ _ _ Y.out).mono ?_
      rintro e w' ⟨rfl, rfl⟩
      go_wp2
      go_ret2
      exact ⟨⟨_, by simp [cbC, hv, hv2]; rfl, by simp [cbL, cbC, hv, hv2]; exact GotI.nil _ _⟩, Below.refl _ _⟩
    case true =>
      have V := hid (VL.of X.out hv)
      have V2 := hid (VL.of Y.out hv2)
      have hn := V.out.le
      have hm := V2.out.le
      by_cases h16 : m ≤ 16
      case neg =>
        go_enter Try.func41, Try.ntmps41
        go_wp2_with fail
        refine (c_implValidList _ _ _ _ _ X.out).mono ?_
        rintro e w' ⟨rfl, rfl⟩
        go_wp2_with fail
        refine (c_implValidList _ _ _ _ _ Y.out).mono ?_
        rintro e w' ⟨rfl, rfl⟩
        go_wp2
        go_ret2
        have e := V2.out.len
        exact ⟨⟨_, by simp [cbC, hv, hv2, e, h16]; rfl, by simp [cbL, cbC, hv, hv2, e, h16]; exact GotI.nil _ _⟩, Below.refl _ _⟩
      case pos =>
        go_enter Try.func41, Try.ntmps41
        go_wp2_with fail
        refine (c_implValidList _ _ _ _ _ X.out).mono ?_
        rintro e w' ⟨rfl, rfl⟩
        go_wp2_with fail
        refine (c_implValidList _ _ _ _ _ Y.out).mono ?_
        rintro e w' ⟨rfl, rfl⟩
        go_wp2
        go_loopw [6] (fun i wr => ∃ k : Nat, 1 ≤ k ∧ (k ≤ m ∨ k = 1) ∧ i = .int .i64 k ∧ (∀ j, j + 1 < k → fGe (fat bs j) (fat bs (j + 1)) = false) ∧ Below w.heap.size w wr) (fun i _ => m - (intOf i).toNat)
        case atStart => exact ⟨1, by omega, .inr rfl, rfl, fun j hj => by omega, Below.refl _ _⟩
        case round =>
          obtain ⟨k, h1k, hk, rfl, hall, hbel⟩ := hrel
          have A := hid hall
          have B := hid hbel
          clear hall hbel
          by_cases hlt : k < m
          · obtain ⟨j, rfl⟩ : ∃ j, k = j + 1 := ⟨k - 1, by omega⟩
            obtain ⟨b2, o2, rfl, hc2⟩ := (V2.out.fl.below B.out).at_ (by omega)
            have h1 := hc2 j (by omega)
            have h2 := hc2 (j + 1) (by omega)
            clear hc2
            cases hg : fGe (fat bs j) (fat bs (j + 1))
            · have hg' := hg
              simp only [fGe] at hg'
              go_wp2
              go_quiet (fail)
              go_wp2
              refine ⟨⟨j + 2, by omega, by omega, by go_num, fun i hi => ?_, below_drawn B.out _⟩, by simp [intOf]; omega⟩
              rcases Nat.lt_or_ge (i + 1) (j + 1) with h | h
              · exact A.out i h
              · obtain rfl : i = j := by omega
                exact hg
            · have hg' := hg
              simp only [fGe] at hg'
              go_wp2
              go_quiet (fail)
              go_wp2
              go_ret2
              have e := V2.out.len
              have r := rises_no (bs := bs) (i := j) (by omega) hg
              exact ⟨⟨_, by simp [cbC, hv, hv2, e, h16, r]; rfl, by simp [cbL, cbC, hv, hv2, e, h16, r]; exact GotI.nil _ _⟩, below_drawn B.out _⟩
          · have R := hid (rises_yes (bs := bs) fun i hi => A.out i (by have := V2.out.len; omega))
            have hz : Hid (cbC xs bs = 0) := hid (by have e := V2.out.len; simp [cbC, hv, hv2, e, h16, R.out])
            have hmk : ∀ wx, (Instr.makeSlice 38 (.int .i64 ((m : Int) + 1)) (.int .i64 ((m : Int) + 1))).run Try.prog wx = .ok (.slice (some ⟨wx.heap.size, 0, none⟩) (m + 1) (m + 1)) (wx.alloc (.cells (((binsK xs bs 0).map (Value.int .i64)).toArray) 2)) := by
              intro wx
              have h := run_make_row' (P := Try.prog) 38 2 (.int .i64 0) 8 Try.underlying38 (by kernel_rfl) rfl .i64 .i64 (m + 1) (by omega) (by omega) wx
              have e : madeCells #[Value.int .i64 0] (m + 1) = ((binsK xs bs 0).map (Value.int .i64)).toArray := by
                apply Array.toList_inj.1
                rw [toList_madeCells_one]
                simp [binsK, V2.out.len]
              rw [e] at h
              exact_mod_cast h
            go_wp2
            have hb0 : Below w.heap.size w (wr.alloc (.cells (((binsK xs bs 0).map (Value.int .i64)).toArray) 2)) := B.out.alloc B.out.size _
            have ho0 : (wr.alloc (.cells (((binsK xs bs 0).map (Value.int .i64)).toArray) 2)).ownsRow w.heap.size 2 1 (.slice (some ⟨wr.heap.size, 0, none⟩) (m + 1) (m + 1)) (m + 1) ((binsK xs bs 0).map (Value.int .i64)) :=
              ⟨by simp [binsK_len, V2.out.len], .inr ⟨_, _, _, rfl, B.out.size, heap_alloc_new wr _, Nat.le_refl _, by unfold maxLen; omega, by simp [binsK_len, V2.out.len], by simp [binsK_len, V2.out.len, List.take_of_length_le]⟩⟩
            have hgl : w.heap.size ≤ wr.heap.size := B.out.size
            have HB0 := hid hb0
            have HO0 := hid ho0
            clear hb0 ho0 hmk
            generalize wr.alloc (.cells (((binsK xs bs 0).map (Value.int .i64)).toArray) 2) = wa at *
            generalize wr.heap.size = g at *
            clear A B
            go_loopw [46] (fun i wr => ∃ k : Nat, k ≤ n ∧ i = .int .i64 k ∧ wr.ownsRow w.heap.size 2 1 (.slice (some ⟨g, 0, none⟩) (m + 1) (m + 1)) (m + 1) ((binsK xs bs k).map (Value.int .i64)) ∧ Below w.heap.size w wr) (fun i _ => n - (intOf i).toNat)
            case atStart => exact ⟨0, by omega, rfl, HO0.out, HB0.out⟩
            case round =>
              obtain ⟨i, hi, rfl, hown, hbel⟩ := hrel
              have O := hid hown
              have B := hid hbel
              clear hown hbel
              by_cases hli : i < n
              · obtain ⟨b1, o1, rfl, hc1⟩ := (V.out.fl.below B.out).at_ (by omega)
                have h1 := hc1 i hli
                clear hc1
                go_wp2
                have D : Hid (binFrom bs (fat xs i) m 0 = binOf bs (fat xs i)) := hid (by rw [binOf, V2.out.len])
                go_loopw [10] (fun j wr => ∃ k : Nat, k ≤ m ∧ j = .int .i64 k ∧ binFrom bs (fat xs i) (m - k) k = binOf bs (fat xs i) ∧ wr.ownsRow w.heap.size 2 1 (.slice (some ⟨g, 0, none⟩) (m + 1) (m + 1)) (m + 1) ((binsK xs bs i).map (Value.int .i64)) ∧ Below w.heap.size w wr) (fun j _ => m - (intOf j).toNat)
                case atStart => exact ⟨0, by omega, rfl, D.out, O.out, B.out⟩
                case round =>
                  obtain ⟨k, hk, rfl, hbin, hown, hbel⟩ := hrel
                  have N := hid hbin
                  have O := hid hown
                  have B := hid hbel
                  clear hbin hown hbel
                  by_cases hlk : k < m
                  · obtain ⟨b2, o2, rfl, hc2⟩ := (V2.out.fl.below B.out).at_ (by omega)
                    have h2 := hc2 k hlk
                    clear hc2
                    cases hg : fGe (fat xs i) (fat bs k)
                    · have hg' := hg
                      simp only [fGe] at hg'
                      have hb : binOf bs (fat xs i) = k := by
                        have := N.out
                        rw [show m - k = (m - (k + 1)) + 1 by omega, binFrom, if_neg (by simp [hg])] at this
                        exact this.symm
                      have hc := O.out.cellAt k (by omega)
                      rw [i64_at (by rw [binsK_len, V2.out.len]; omega)] at hc
                      have hfz := O.out.frozenAt k
                      have hst := O.out.stored k (.int .i64 (iat (binsK xs bs i) k + 1))
                      rw [bins_next hb] at hst
                      have S := hid hst
                      have hbd := binsK_bd xs bs i k
                      have G : Hid (Below w.heap.size w (wr.setCell ⟨g, k, none⟩ (.int .i64 (iat (binsK xs bs i) k + 1)))) := hid (B.out.grown hst.2 B.out.size (fun _ e => by cases e; exact hgl))
                      clear hst hb
                      go_wp2
                      exact ⟨⟨i + 1, by omega, by go_num, S.out.1, G.out⟩, by simp [intOf]; omega⟩
                    · have hg' := hg
                      simp only [fGe] at hg'
                      go_wp2
                      refine ⟨⟨k + 1, by omega, by go_num, ?_, O.out, B.out⟩, by simp [intOf]; omega⟩
                      have := N.out
                      rw [show m - k = (m - (k + 1)) + 1 by omega, binFrom, if_pos hg] at this
                      exact this
                  · obtain rfl : k = m := by omega
                    have hb : binOf bs (fat xs i) = k := by
                      have := N.out
                      rw [Nat.sub_self, binFrom] at this
                      exact this.symm
                    have hc := O.out.cellAt k (by omega)
                    rw [i64_at (by rw [binsK_len, V2.out.len]; omega)] at hc
                    have hfz := O.out.frozenAt k
                    have hst := O.out.stored k (.int .i64 (iat (binsK xs bs i) k + 1))
                    rw [bins_next hb] at hst
                    have S := hid hst
                    have hbd := binsK_bd xs bs i k
                    have G : Hid (Below w.heap.size w (wr.setCell ⟨g, k, none⟩ (.int .i64 (iat (binsK xs bs i) k + 1)))) := hid (B.out.grown hst.2 B.out.size (fun _ e => by cases e; exact hgl))
                    clear hst hb
                    go_wp2
                    exact ⟨⟨i + 1, by omega, by go_num, S.out.1, G.out⟩, by simp [intOf]; omega⟩
              · obtain rfl : i = n := by omega
                go_wp2
                go_ret2
                have e := V.out.len
                exact ⟨⟨_, by rw [hz.out]; rfl, by rw [cbL, if_pos hz.out, e]; unfold GotI; rw [binsK_len, V2.out.len]; exact O.out⟩, B.out⟩
theorem c_specCountBins (a b : Option Addr) (n m ca cb : Nat) (xs bs : List Nat) (w : World) (hx : Flts w a n xs) (hy : Flts w b m bs) :
    Calls Try.prog 40 #[.slice a n ca, .slice b m cb] w fun e w' => (∃ v, e = .returned (.tuple #[v, .int .i64 (cbC xs bs)]) ∧ Ints w' v (cbL xs bs)) ∧ Below w.heap.size w w' := by
  have hs := hx.small
  have hs2 := hy.small
  have X := hid hx
  have Y := hid hy
  clear hx hy
  cases hv : validL xs
  case false =>
    go_enter Try.func40, Try.ntmps40
    go_wp2_with (go_at_call 57; refine (c_l06Ok _ _ _ _ _ X.out).mono ?_; rintro e w' ⟨rfl, rfl⟩)
    go_ret2
    exact ⟨⟨_, by simp [cbC, hv]; rfl, by simp [cbL, cbC, hv]; exact Ints.empty _ _ _⟩, (Below.refl _ _).alloc (Nat.le_refl _) _⟩
  case true =>
    cases hv2 : validL bs
    case false =>
      go_enter Try.func40, Try.ntmps40
      go_wp2_with fail
      refine (c_l06Ok _ _ _ _ _ X.out).mono ?_
      rintro e w' ⟨rfl, rfl⟩
      go_wp2_with fail
      refine (c_l06Ok _ _ _ _ _ Y.out).mono ?_
      rintro e w' ⟨rfl, rfl⟩
      go_wp2
      go_ret2
      exact ⟨⟨_, by simp [cbC, hv, hv2]; rfl, by simp [cbL, cbC, hv, hv2]; exact Ints.empty _ _ _⟩, (Below.refl _ _).alloc (Nat.le_refl _) _⟩
    case true =>
      have V := hid (VL.of X.out hv)
      have V2 := hid (VL.of Y.out hv2)
      have hn := V.out.le
      have hm := V2.out.le
      go_enter Try.func40, Try.ntmps40
      go_wp2_with fail
      refine (c_l06Ok _ _ _ _ _ X.out).mono ?_
      rintro e w' ⟨rfl, rfl⟩
      go_wp2_with fail
      refine (c_l06Ok _ _ _ _ _ Y.out).mono ?_
      rintro e w' ⟨rfl, rfl⟩
      go_wp2
      go_loopw [6] (fun i wr => ∃ k : Nat, 1 ≤ k ∧ (k ≤ m ∨ k = 1) ∧ i = .int .i64 k ∧ (∀ j, j + 1 < k → fGe (fat bs j) (fat bs (j + 1)) = false) ∧ Below w.heap.size w wr) (fun i _ => m - (intOf i).toNat)
      case atStart => exact ⟨1, by omega, .inr rfl, rfl, fun j hj => by omega, Below.refl _ _⟩
      case round =>
        obtain ⟨k, h1k, hk, rfl, hall, hbel⟩ := hrel
        have A := hid hall
        have B := hid hbel
        clear hall hbel
        by_cases hlt : k < m
        · obtain ⟨j, rfl⟩ : ∃ j, k = j + 1 := ⟨k - 1, by omega⟩
          obtain ⟨b2, o2, rfl, hc2⟩ := (V2.out.fl.below B.out).at_ (by omega)
          have h1 := hc2 j (by omega)
          have h2 := hc2 (j + 1) (by omega)
          clear hc2
          cases hg : fGe (fat bs j) (fat bs (j + 1))
          · have hg' := hg
            rw [← fLe_fGe (V2.out.pl.abs (k := j) (by have := V2.out.len; omega)).fin (V2.out.pl.abs (k := j + 1) (by have := V2.out.len; omega)).fin] at hg'
            simp only [fLe] at hg'
            go_wp2
            go_quiet (fail)
            go_wp2
            refine ⟨⟨j + 2, by omega, by omega, by go_num, fun i hi => ?_, below_drawn B.out _⟩, by simp [intOf]; omega⟩
            rcases Nat.lt_or_ge (i + 1) (j + 1) with h | h
            · exact A.out i h
            · obtain rfl : i = j := by omega
              exact hg
          · have hg' := hg
            rw [← fLe_fGe (V2.out.pl.abs (k := j) (by have := V2.out.len; omega)).fin (V2.out.pl.abs (k := j + 1) (by have := V2.out.len; omega)).fin] at hg'
            simp only [fLe] at hg'
            go_wp2
            go_quiet (fail)
            go_wp2
            go_ret2
            have e := V2.out.len
            have r := rises_no (bs := bs) (i := j) (by omega) hg
            exact ⟨⟨_, by simp [cbC, hv, hv2, r]; rfl, by simp [cbL, cbC, hv, hv2, r]; exact Ints.empty _ _ _⟩, (below_drawn B.out _).alloc B.out.size _⟩
        · have R := hid (rises_yes (bs := bs) fun i hi => A.out i (by have := V2.out.len; omega))
          by_cases h16 : m ≤ 16
          case neg =>
            go_wp2
            go_ret2
            have e := V2.out.len
            exact ⟨⟨_, by simp [cbC, hv, hv2, e, h16]; rfl, by simp [cbL, cbC, hv, hv2, e, h16]; exact Ints.empty _ _ _⟩, B.out.alloc B.out.size _⟩
          have hz : Hid (cbC xs bs = 0) := hid (by have e := V2.out.len; simp [cbC, hv, hv2, e, h16, R.out])
          have hmk : ∀ wx, (Instr.makeSlice 38 (.int .i64 ((m : Int) + 1)) (.int .i64 ((m : Int) + 1))).run Try.prog wx = .ok (.slice (some ⟨wx.heap.size, 0, none⟩) (m + 1) (m + 1)) (wx.alloc (.cells (((binsK xs bs 0).map (Value.int .i64)).toArray) 2)) := by
            intro wx
            have h := run_make_row' (P := Try.prog) 38 2 (.int .i64 0) 8 Try.underlying38 (by kernel_rfl) rfl .i64 .i64 (m + 1) (by omega) (by omega) wx
            have e : madeCells #[Value.int .i64 0] (m + 1) = ((binsK xs bs 0).map (Value.int .i64)).toArray := by
              apply Array.toList_inj.1
              rw [toList_madeCells_one]
              simp [binsK, V2.out.len]
            rw [e] at h
            exact_mod_cast h
          go_wp2
          have hb0 : Below w.heap.size w (wr.alloc (.cells (((binsK xs bs 0).map (Value.int .i64)).toArray) 2)) := B.out.alloc B.out.size _
          have ho0 : (wr.alloc (.cells (((binsK xs bs 0).map (Value.int .i64)).toArray) 2)).ownsRow w.heap.size 2 1 (.slice (some ⟨wr.heap.size, 0, none⟩) (m + 1) (m + 1)) (m + 1) ((binsK xs bs 0).map (Value.int .i64)) :=
            ⟨by simp [binsK_len, V2.out.len], .inr ⟨_, _, _, rfl, B.out.size, heap_alloc_new wr _, Nat.le_refl _, by unfold maxLen; omega, by simp [binsK_len, V2.out.len], by simp [binsK_len, V2.out.len, List.take_of_length_le]⟩⟩
          have hgl : w.heap.size ≤ wr.heap.size := B.out.size
          have HB0 := hid hb0
          have HO0 := hid ho0
          clear hb0 ho0 hmk
          generalize wr.alloc (.cells (((binsK xs bs 0).map (Value.int .i64)).toArray) 2) = wa at *
          generalize wr.heap.size = g at *
          clear A B
          go_loopw [8] (fun i wr => ∃ k : Nat, k ≤ n ∧ i = .int .i64 k ∧ wr.ownsRow w.heap.size 2 1 (.slice (some ⟨g, 0, none⟩) (m + 1) (m + 1)) (m + 1) ((binsK xs bs k).map (Value.int .i64)) ∧ Below w.heap.size w wr) (fun i _ => n - (intOf i).toNat)
          case atStart => exact ⟨0, by omega, rfl, HO0.out, HB0.out⟩
          case round =>
            obtain ⟨i, hi, rfl, hown, hbel⟩ := hrel
            have O := hid hown
            have B := hid hbel
            clear hown hbel
            by_cases hli : i < n
            · obtain ⟨b1, o1, rfl, hc0⟩ := V.out.fl.at_ (by omega)
              have hc1 : Hid (w.cell? ⟨b1, o1 + i, none⟩ = some (.float .f32 (fat xs i))) := hid (hc0 i hli)
              clear hc0
              go_wp2
              have D : Hid (binFrom bs (fat xs i) m 0 = binOf bs (fat xs i)) := hid (by rw [binOf, V2.out.len])
              go_loopw [9] (fun j wr => ∃ k : Nat, k ≤ m ∧ j = .int .i64 k ∧ binFrom bs (fat xs i) (m - k) k = binOf bs (fat xs i) ∧ wr.ownsRow w.heap.size 2 1 (.slice (some ⟨g, 0, none⟩) (m + 1) (m + 1)) (m + 1) ((binsK xs bs i).map (Value.int .i64)) ∧ Below w.heap.size w wr) (fun j _ => m - (intOf j).toNat)
              case atStart => exact ⟨0, by omega, rfl, D.out, O.out, B.out⟩
              case round =>
                obtain ⟨k, hk, rfl, hbin, hown, hbel⟩ := hrel
                have N := hid hbin
                have O := hid hown
                have B := hid hbel
                clear hbin hown hbel
                have h1 := cell_stays B.out hc1.out
                by_cases hlk : k < m
                · obtain ⟨b2, o2, rfl, hc2⟩ := (V2.out.fl.below B.out).at_ (by omega)
                  have h2 := hc2 k hlk
                  clear hc2
                  cases hg : fGe (fat xs i) (fat bs k)
                  · have hg' := hg
                    simp only [fGe] at hg'
                    have hb : binOf bs (fat xs i) = k := by
                      have := N.out
                      rw [show m - k = (m - (k + 1)) + 1 by omega, binFrom, if_neg (by simp [hg])] at this
                      exact this.symm
                    have hc : ∀ q, (wr.drewN q).cell? ⟨g, k, none⟩ = some (.int .i64 (iat (binsK xs bs i) k)) := fun q => (O.out.cellAt k (by omega)).trans (i64_at (by rw [binsK_len, V2.out.len]; omega))
                    have hfz : ∀ q, (wr.drewN q).frozen? ⟨g, k, none⟩ = false := fun q => O.out.frozenAt k
                    have hst : ∀ q, _ := fun q => (show (wr.drewN q).ownsRow w.heap.size 2 1 (.slice (some ⟨g, 0, none⟩) _ _) _ ((binsK xs bs i).map (Value.int .i64)) from O.out).stored k (.int .i64 (iat (binsK xs bs i) k + 1))
                    simp only [bins_next hb] at hst
                    have S := hid hst
                    have hbd := binsK_bd xs bs i k
                    have G : Hid (∀ q, Below w.heap.size w ((wr.drewN q).setCell ⟨g, k, none⟩ (.int .i64 (iat (binsK xs bs i) k + 1)))) := hid (fun q => (below_drawn B.out q).grown (hst q).2 B.out.size (fun _ e => by cases e; exact hgl))
                    clear hst hb
                    go_wp2
                    go_quiet (fail)
                    go_wp2
                    exact ⟨⟨i + 1, by omega, by go_num, (S.out _).1, G.out _⟩, by simp [intOf]; omega⟩
                  · have hg' := hg
                    simp only [fGe] at hg'
                    go_wp2
                    go_quiet (fail)
                    go_wp2
                    refine ⟨⟨k + 1, by omega, by go_num, ?_, O.out, below_drawn B.out _⟩, by simp [intOf]; omega⟩
                    have := N.out
                    rw [show m - k = (m - (k + 1)) + 1 by omega, binFrom, if_pos hg] at this
                    exact this
                · obtain rfl : k = m := by omega
                  have hb : binOf bs (fat xs i) = k := by
                    have := N.out
                    rw [Nat.sub_self, binFrom] at this
                    exact this.symm
                  have hc : ∀ q, (wr.drewN q).cell? ⟨g, k, none⟩ = some (.int .i64 (iat (binsK xs bs i) k)) := fun q => (O.out.cellAt k (by omega)).trans (i64_at (by rw [binsK_len, V2.out.len]; omega))
                  have hfz : ∀ q, (wr.drewN q).frozen? ⟨g, k, none⟩ = false := fun q => O.out.frozenAt k
                  have hst : ∀ q, _ := fun q => (show (wr.drewN q).ownsRow w.heap.size 2 1 (.slice (some ⟨g, 0, none⟩) _ _) _ ((binsK xs bs i).map (Value.int .i64)) from O.out).stored k (.int .i64 (iat (binsK xs bs i) k + 1))
                  simp only [bins_next hb] at hst
                  have S := hid hst
                  have hbd := binsK_bd xs bs i k
                  have G : Hid (∀ q, Below w.heap.size w ((wr.drewN q).setCell ⟨g, k, none⟩ (.int .i64 (iat (binsK xs bs i) k + 1)))) := hid (fun q => (below_drawn B.out q).grown (hst q).2 B.out.size (fun _ e => by cases e; exact hgl))
                  clear hst hb
                  go_wp2
                  go_quiet (fail)
                  go_wp2
                  exact ⟨⟨i + 1, by omega, by go_num, (S.out _).1, G.out _⟩, by simp [intOf]; omega⟩
            · obtain rfl : i = n := by omega
              go_wp2
              go_ret2
              have e := V.out.len
              exact ⟨⟨_, by rw [hz.out]; rfl, by rw [cbL, if_pos hz.out, e]; refine GotI.ints (lo := w.heap.size) ?_ (by rw [binsK_len, V2.out.len]; omega); unfold GotI; rw [binsK_len, V2.out.len]; exact O.out⟩, B.out⟩
end Go.Proofs.Ytmipfbafbkdncaa
