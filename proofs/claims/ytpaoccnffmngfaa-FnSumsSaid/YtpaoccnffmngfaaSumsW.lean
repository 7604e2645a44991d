/- Contracts wanted for the law of sums: lists that are drawn, both sums of a list at once. -/
import Derived.Test.YtpaoccnffmngfaaSumsC
import Derived.Test.YtpaoccnffmngfaaSumR
import Derived.Test.YtpaoccnffmngfaaSortX
import Derived.Test.YtpaoccnffmngfaaOap
import Derived.Test.YtpaoccnffmngfaaRuns
namespace Go.Proofs.Ytpaoccnffmngfaa
set_option maxRecDepth 20000
open Go.RowKit

theorem c_list (w : World) (a : Option Addr) (n ca : Nat) (m : Nat) (hm : 1 ≤ m ∧ m ≤ 40) (hn : n ≤ 4096) (hb : Bts w a n) :
    Calls Try.prog 5 #[.slice a n ca, .int .i64 (m : Int)] w fun e w' => (∃ g k cb xs, e = .returned (.slice (some ⟨g, 0, none⟩) k cb) ∧ k ≤ cb ∧ k ≤ m ∧ Flts w' (some ⟨g, 0, none⟩) k xs ∧ validL xs = true) ∧ Below w.heap.size w w' := by
  refine (c_P6List w a n ca m hm hn hb).mono ?_
  rintro e w' ⟨⟨v, xs, rfl, G, hv, hl, hd⟩, hB⟩
  obtain ⟨g, cb, rfl, hc, F⟩ := gotF_parts G hv (by omega) (fun k hk => (hd k hk).word)
  exact ⟨⟨g, _, cb, xs, rfl, hc, hl, F, drawn_valid hl (by omega) hd⟩, hB⟩
theorem c_whole (w : World) (a : Option Addr) (n ca : Nat) (hn : n ≤ 4096) (hb : Bts w a n) :
    Calls Try.prog 19 #[.slice a n ca] w fun e w' => (∃ g k cb xs zs, e = .returned (.slice (some ⟨g, 0, none⟩) k cb) ∧ k ≤ cb ∧ k ≤ 8 ∧ Flts w' (some ⟨g, 0, none⟩) k xs ∧ validL xs = true ∧ Ints500 xs zs) ∧ Below w.heap.size w w' := by
  refine (c_P6Whole w a n ca hn hb).mono ?_
  rintro e w' ⟨⟨v, xs, zs, rfl, G, hv, hl, hd⟩, hB⟩
  obtain ⟨g, cb, rfl, hc, F⟩ := gotF_parts G hv (by omega) (fun k hk => (hd.at_ k hk).word)
  exact ⟨⟨g, _, cb, xs, zs, rfl, hc, hl, F, by simp only [validL, Bool.and_eq_true, decide_eq_true_eq]; exact ⟨by omega, plains_yes (fun j hj => (hd.plains j hj).2)⟩, hd⟩, hB⟩
theorem both_Left {w0 : World} {ad : Addr} {n : Nat} (ca : Nat) {xs : List Nat} (h0 : Flts w0 (some ad) n xs) (hv : validL xs = true) :
    isFin (leftOf xs) = true ∧
    (∀ w, Flts w (some ad) n xs → Calls Try.prog 6 #[.slice (some ad) n ca] w fun e w' => e = .returned (.tuple #[.float .f32 (leftOf xs), .int .i64 0]) ∧ Below w.heap.size w w') ∧
    (∀ w, Flts w (some ad) n xs → Calls Try.prog 12 #[.slice (some ad) n ca] w fun e w' => e = .returned (.tuple #[.float .f32 (leftOf xs), .int .i64 0]) ∧ Below w.heap.size w w') := by
  have e : sumN leftOf xs = leftOf xs := sumN_yes hv
  have c := code_yes hv
  refine ⟨by rw [← e]; exact fin_left h0, fun w h => ?_, fun w h => ?_⟩
  · have := c_implSumLeft _ n ca xs w h
    rwa [e, c] at this
  · have := c_specSumLeft _ n ca xs w h
    rwa [e, c] at this
theorem both_Right {w0 : World} {ad : Addr} {n : Nat} (ca : Nat) {xs : List Nat} (h0 : Flts w0 (some ad) n xs) (hv : validL xs = true) :
    isFin (rightOf xs) = true ∧
    (∀ w, Flts w (some ad) n xs → Calls Try.prog 7 #[.slice (some ad) n ca] w fun e w' => e = .returned (.tuple #[.float .f32 (rightOf xs), .int .i64 0]) ∧ Below w.heap.size w w') ∧
    (∀ w, Flts w (some ad) n xs → Calls Try.prog 13 #[.slice (some ad) n ca] w fun e w' => e = .returned (.tuple #[.float .f32 (rightOf xs), .int .i64 0]) ∧ Below w.heap.size w w') := by
  have e : sumN rightOf xs = rightOf xs := sumN_yes hv
  have c := code_yes hv
  refine ⟨by rw [← e]; exact fin_right h0, fun w h => ?_, fun w h => ?_⟩
  · have := c_implSumRight _ n ca xs w h
    rwa [e, c] at this
  · have := c_specSumRight _ n ca xs w h
    rwa [e, c] at this
theorem both_Pairs {w0 : World} {ad : Addr} {n : Nat} (ca : Nat) {xs : List Nat} (h0 : Flts w0 (some ad) n xs) (hv : validL xs = true) (hc : n ≤ ca) :
    isFin (pairsOf xs) = true ∧
    (∀ w, Flts w (some ad) n xs → Calls Try.prog 8 #[.slice (some ad) n ca] w fun e w' => e = .returned (.tuple #[.float .f32 (pairsOf xs), .int .i64 0]) ∧ Below w.heap.size w w') ∧
    (∀ w, Flts w (some ad) n xs → Calls Try.prog 14 #[.slice (some ad) n ca] w fun e w' => e = .returned (.tuple #[.float .f32 (pairsOf xs), .int .i64 0]) ∧ Below w.heap.size w w') := by
  have e : sumN pairsOf xs = pairsOf xs := sumN_yes hv
  have c := code_yes hv
  refine ⟨by rw [← e]; exact fin_pairs h0, fun w h => ?_, fun w h => ?_⟩
  · have := c_implSumPairs _ n ca xs w h hc
    rwa [e, c] at this
  · have := c_specSumPairs _ n ca xs w h hc
    rwa [e, c] at this
theorem both_Kept {w0 : World} {ad : Addr} {n : Nat} (ca : Nat) {xs : List Nat} (h0 : Flts w0 (some ad) n xs) (hv : validL xs = true) :
    isFin (keptOf xs) = true ∧
    (∀ w, Flts w (some ad) n xs → Calls Try.prog 9 #[.slice (some ad) n ca] w fun e w' => e = .returned (.tuple #[.float .f32 (keptOf xs), .int .i64 0]) ∧ Below w.heap.size w w') ∧
    (∀ w, Flts w (some ad) n xs → Calls Try.prog 15 #[.slice (some ad) n ca] w fun e w' => e = .returned (.tuple #[.float .f32 (keptOf xs), .int .i64 0]) ∧ Below w.heap.size w w') := by
  have e : sumN keptOf xs = keptOf xs := sumN_yes hv
  have c := code_yes hv
  refine ⟨by rw [← e]; exact fin_kept h0, fun w h => ?_, fun w h => ?_⟩
  · have := c_implSumKept _ n ca xs w h
    rwa [e, c] at this
  · have := c_specSumKept _ n ca xs w h
    rwa [e, c] at this
theorem both_Wide {w0 : World} {ad : Addr} {n : Nat} (ca : Nat) {xs : List Nat} (h0 : Flts w0 (some ad) n xs) (hv : validL xs = true) :
    isFin (wideOf xs) = true ∧
    (∀ w, Flts w (some ad) n xs → Calls Try.prog 10 #[.slice (some ad) n ca] w fun e w' => e = .returned (.tuple #[.float .f32 (wideOf xs), .int .i64 0]) ∧ Below w.heap.size w w') ∧
    (∀ w, Flts w (some ad) n xs → Calls Try.prog 16 #[.slice (some ad) n ca] w fun e w' => e = .returned (.tuple #[.float .f32 (wideOf xs), .int .i64 0]) ∧ Below w.heap.size w w') := by
  have e : sumN wideOf xs = wideOf xs := sumN_yes hv
  have c := code_yes hv
  refine ⟨by rw [← e]; exact fin_wide h0, fun w h => ?_, fun w h => ?_⟩
  · have := c_implSumWide _ n ca xs w h
    rwa [e, c] at this
  · have := c_specSumWide _ n ca xs w h
    rwa [e, c] at this
theorem both_Small {w0 : World} {ad : Addr} {n : Nat} (ca : Nat) {xs : List Nat} (h0 : Flts w0 (some ad) n xs) (hv : validL xs = true) :
    isFin (smallOf xs) = true ∧
    (∀ w, Flts w (some ad) n xs → Calls Try.prog 11 #[.slice (some ad) n ca] w fun e w' => e = .returned (.tuple #[.float .f32 (smallOf xs), .int .i64 0]) ∧ Below w.heap.size w w') ∧
    (∀ w, Flts w (some ad) n xs → Calls Try.prog 17 #[.slice (some ad) n ca] w fun e w' => e = .returned (.tuple #[.float .f32 (smallOf xs), .int .i64 0]) ∧ Below w.heap.size w w') := by
  have e : sumN smallOf xs = smallOf xs := sumN_yes hv
  have c := code_yes hv
  refine ⟨by rw [← e]; exact fin_small h0, fun w h => ?_, fun w h => ?_⟩
  · have := c_implSumSmall _ n ca xs w h
    rwa [e, c] at this
  · have := c_specSumSmall _ n ca xs w h
    rwa [e, c] at this
theorem bts_below {w w' : World} {a : Option Addr} {n : Nat} (h : Bts w a n) (hb : Below w.heap.size w w') : Bts w' a n := fun hn => by
  obtain ⟨g, off, e, hc⟩ := h hn
  refine ⟨g, off, e, fun k hk => ?_⟩
  obtain ⟨c, c1, c2⟩ := hc k hk
  exact ⟨c, c1, cell_stays hb c2⟩
theorem oaN_ge (xs : List Nat) : 0 ≤ oaN xs := by
  unfold oaN
  split
  · unfold oaM
    exact ((mxQ_le (fun i k => apartOf (fat (sumsOf xs) i) (fat (sumsOf xs) k)) (fun _ => 6) _ 6).1 (Int.le_refl _)).1
  · exact Int.le_refl _
theorem gotF_flts {w : World} {lo : Nat} {v : Value} {l : List Nat} (h : GotF w lo v l) (hl : l.length ≤ 99) (hw : ∀ k, k < l.length → fat l k < 4294967296) : ∃ a ca, v = .slice a l.length ca ∧ Flts w a l.length l := by
  by_cases hv : v = .slice none 0 0
  · subst hv
    rcases h.2 with ⟨_, h0⟩ | ⟨g, cap, cur, e, _⟩
    · refine ⟨none, 0, by rw [h0], ⟨rfl, by omega, hw, fun hp => absurd hp (by omega)⟩⟩
    · exact absurd e (by simp)
  · obtain ⟨g, ca, rfl, _, F⟩ := gotF_parts h hv (by omega) hw
    exact ⟨_, _, rfl, F⟩
theorem both_Run {w0 : World} {ad : Addr} {n : Nat} (ca : Nat) {xs : List Nat} (h0 : Flts w0 (some ad) n xs) (hv : validL xs = true) (hc : n ≤ ca) :
    ∃ ys, ys.length = n ∧ sameL ys ys = true ∧ (0 < n → fat ys (n - 1) = leftOf xs) ∧
    (∀ w, Flts w (some ad) n xs → Calls Try.prog 22 #[.slice (some ad) n ca] w fun e w' => (∃ a cb, e = .returned (.tuple #[.slice a n cb, .int .i64 0]) ∧ Flts w' a n ys) ∧ Below w.heap.size w w') ∧
    (∀ w, Flts w (some ad) n xs → Calls Try.prog 23 #[.slice (some ad) n ca] w fun e w' => (∃ a cb, e = .returned (.tuple #[.slice a n cb, .int .i64 0]) ∧ Flts w' a n ys) ∧ Below w.heap.size w w') := by
  have c := code_yes hv
  have el : (rsL xs).length = n := by rw [rsL, hv, if_pos rfl, runK_len, h0.len]
  have hl := rsL_len h0
  have hw := rsL_word h0
  refine ⟨rsL xs, el, sameL_refl rfl hw, fun hn => ?_, fun w h => ?_, fun w h => ?_⟩
  · rw [rsL, hv, if_pos rfl]
    unfold leftOf
    rw [h0.len]
    simp [runK, fat, show n - 1 < n by omega, show n - 1 + 1 = n by omega]
  · refine (c_implRunningSums _ n ca xs w h hc).mono ?_
    rintro e w' ⟨⟨v, rfl, G⟩, hB⟩
    obtain ⟨a, cb, rfl, F⟩ := gotF_flts G hl hw
    rw [c, el] at *
    exact ⟨⟨a, cb, rfl, F⟩, hB⟩
  · refine (c_specRunningSums _ n ca xs w h).mono ?_
    rintro e w' ⟨⟨v, rfl, G⟩, hB⟩
    obtain ⟨a, cb, rfl, F⟩ := gotF_flts G hl hw
    rw [c, el] at *
    exact ⟨⟨a, cb, rfl, F⟩, hB⟩
theorem both_Great {w0 : World} {ad : Addr} {n : Nat} (ca : Nat) {xs : List Nat} (h0 : Flts w0 (some ad) n xs) (hv : validL xs = true) (hn : n ≤ 6) :
    ∃ p s, Prefix n p ∧ p.length = n ∧ leftOf (picks xs p) = s ∧ isFin s = true ∧ Plains (picks xs p) ∧ validL (picks xs p) = true ∧ fx (leftOf xs) ≤ fx s ∧ fx (rightOf xs) ≤ fx s ∧
    (∀ w, Flts w (some ad) n xs → Calls Try.prog 25 #[.slice (some ad) n ca] w fun e w' => (∃ v, e = .returned (.tuple #[v, .float .f32 s, .int .i64 0]) ∧ Ints w' v p) ∧ Below w.heap.size w w') ∧
    (∀ w, Flts w (some ad) n xs → Calls Try.prog 26 #[.slice (some ad) n ca] w fun e w' => (∃ v, e = .returned (.tuple #[v, .float .f32 s, .int .i64 0]) ∧ Ints w' v p) ∧ Below w.heap.size w w') := by
  have V := VL.of h0 hv
  have el := h0.len
  have hn' : xs.length ≤ 6 := by omega
  obtain ⟨⟨b1, b2, b3, b4⟩, b5⟩ := best_law V.pl hn'
  have hc : goC xs = 0 := by unfold goC; rw [hv, if_pos rfl, if_pos hn']
  have es : goS xs = (bestI xs).1 := by unfold goS; rw [if_pos hc]
  have ef : goF xs = (bestI xs).2 := by unfold goF; rw [if_pos hc]
  have nd : (rangeI xs.length).Nodup := by
    unfold rangeI
    exact (List.pairwise_map).2 ((List.nodup_range).imp (fun {a b} h e => h (by exact_mod_cast e)))
  refine ⟨(bestI xs).1, (bestI xs).2, by rw [← el]; exact b1, by rw [b2, el], b3.symm, b4, picks_plain V.pl b1, ?_, ?_, ?_, fun w h => ?_, fun w h => ?_⟩
  · have hp := picks_plain V.pl b1
    simp only [validL, Bool.and_eq_true, decide_eq_true_eq]
    exact ⟨by rw [picks_len, b2]; omega, plains_yes (fun j hj => (hp j hj).2)⟩
  · rw [← psum_id]
    exact b5 _ (rangeI_prefix (Nat.le_refl _)) (rangeI_len _) nd
  · rw [← psum_rev]
    refine b5 _ ⟨by rw [List.length_reverse, rangeI_len]; exact Nat.le_refl _, fun x hx => (rangeI_prefix (Nat.le_refl _)).mem x (List.mem_reverse.1 hx)⟩ (by rw [List.length_reverse, rangeI_len]) ?_
    exact List.pairwise_reverse.2 (nd.imp (fun h e => h e.symm))
  · have := c_implGreatestOrder _ n ca xs w h
    rw [hc, es, ef] at this
    refine this.mono ?_
    rintro e w' ⟨⟨v, rfl, G⟩, hB⟩
    exact ⟨⟨v, rfl, G.ints (by rw [b2]; omega)⟩, hB⟩
  · have := c_specGreatestOrder _ n ca xs w h
    rw [hc, es, ef] at this
    refine this.mono ?_
    rintro e w' ⟨⟨v, rfl, G⟩, hB⟩
    exact ⟨⟨v, rfl, G.ints (by rw [b2]; omega)⟩, hB⟩
theorem both_Dot {w0 : World} {ad : Addr} {n : Nat} (ca : Nat) {xs : List Nat} (h0 : Flts w0 (some ad) n xs) (hv : validL xs = true) :
    ∃ d, isFin d = true ∧ 0 ≤ fx d ∧
    (∀ w, Flts w (some ad) n xs → Calls Try.prog 28 #[.slice (some ad) n ca, .slice (some ad) n ca] w fun e w' => e = .returned (.tuple #[.float .f32 d, .int .i64 0]) ∧ Below w.heap.size w w') ∧
    (∀ w, Flts w (some ad) n xs → Calls Try.prog 29 #[.slice (some ad) n ca, .slice (some ad) n ca] w fun e w' => e = .returned (.tuple #[.float .f32 d, .int .i64 0]) ∧ Below w.heap.size w w') := by
  have V := VL.of h0 hv
  have hc : doC xs xs = 0 := by simp [doC, hv]
  have en : doN xs xs = dotK xs xs xs.length := by unfold doN; rw [if_pos hc]
  refine ⟨dotK xs xs xs.length, by rw [← en]; exact doN_fin h0 h0, dot_ge V.pl (by rw [V.len]; exact V.le) _ (Nat.le_refl _), fun w h => ?_, fun w h => ?_⟩
  · have := c_implDotOf _ _ n n ca ca xs xs w h h
    rwa [hc, en] at this
  · have := c_specDotOf _ _ n n ca ca xs xs w h h
    rwa [hc, en] at this
theorem dot_again {w0 : World} {a : Option Addr} {n : Nat} {xs : List Nat} (h0 : Flts w0 a n xs) (hv : validL xs = true) : doC xs (onesL n) = 0 ∧ doN xs (onesL n) = leftOf xs := by
  have V := VL.of h0 hv
  have hl := V.le
  have v1 : validL (onesL n) = true := by
    simp only [validL, Bool.and_eq_true, decide_eq_true_eq]
    refine ⟨by simp [onesL]; omega, plains_yes (fun j hj => ?_)⟩
    have : j < n := by simpa [onesL] using hj
    have e : fat (onesL n) j = 1065353216 := by simp [onesL, fat, this]
    rw [e]; decide
  have hc : doC xs (onesL n) = 0 := by
    have hl2 : (onesL n).length = n := by simp [onesL]
    unfold doC; rw [hv, v1, h0.len, hl2]; simp
  refine ⟨hc, ?_⟩
  unfold doN
  rw [if_pos hc, ← h0.len]
  exact dot_ones V.pl _ (Nat.le_refl _)
theorem whole_words {w0 : World} {ad : Addr} {n : Nat} (ca : Nat) {xs : List Nat} {zs : List Int} (h0 : Flts w0 (some ad) n xs) (hv : validL xs = true) (hz : Ints500 xs zs) (hn : n ≤ 8) (hc : n ≤ ca) :
    ∃ x0 x3 x2 t, sumK zs n = t ∧ IsI x0 t ∧ IsI x3 t ∧ IsI x2 t ∧ (-4000 ≤ t ∧ t ≤ 4000) ∧
    (∀ w, Flts w (some ad) n xs → Calls Try.prog 6 #[.slice (some ad) n ca] w fun e w' => e = .returned (.tuple #[.float .f32 x0, .int .i64 0]) ∧ Below w.heap.size w w') ∧
    (∀ w, Flts w (some ad) n xs → Calls Try.prog 9 #[.slice (some ad) n ca] w fun e w' => e = .returned (.tuple #[.float .f32 x3, .int .i64 0]) ∧ Below w.heap.size w w') ∧
    (∀ w, Flts w (some ad) n xs → Calls Try.prog 8 #[.slice (some ad) n ca] w fun e w' => e = .returned (.tuple #[.float .f32 x2, .int .i64 0]) ∧ Below w.heap.size w w') ∧
    (∀ w, Flts w (some ad) n xs → Calls Try.prog 20 #[.slice (some ad) n ca] w fun e w' => e = .returned (.tuple #[.int .i64 0, .int .i64 0]) ∧ Below w.heap.size w w') := by
  have el := h0.len
  have S := sums_I hz (by omega)
  have es : sumI zs = sumK zs n := by unfold sumI; rw [← hz.len, el]
  rw [es] at S
  have b := sumK_bnd hz.bnd n (by omega)
  obtain ⟨a1, a2⟩ := apart_zero hz (by omega) hv
  refine ⟨leftOf xs, keptOf xs, pairsOf xs, sumK zs n, rfl, S 0 (by omega), S 3 (by omega), S 2 (by omega), by omega, (both_Left ca h0 hv).2.1, (both_Kept ca h0 hv).2.1, (both_Pairs ca h0 hv hc).2.1, fun w h => ?_⟩
  have := c_implOrdersApart _ n ca xs w h hc
  rwa [a1, a2] at this
theorem both_Apart {w0 : World} {ad : Addr} {n : Nat} (ca : Nat) {xs : List Nat} (_h0 : Flts w0 (some ad) n xs) (hc : n ≤ ca) :
    ∃ o q : Int, 0 ≤ o ∧
    (∀ w, Flts w (some ad) n xs → Calls Try.prog 20 #[.slice (some ad) n ca] w fun e w' => e = .returned (.tuple #[.int .i64 o, .int .i64 q]) ∧ Below w.heap.size w w') ∧
    (∀ w, Flts w (some ad) n xs → Calls Try.prog 21 #[.slice (some ad) n ca] w fun e w' => e = .returned (.tuple #[.int .i64 o, .int .i64 q]) ∧ Below w.heap.size w w') :=
  ⟨oaN xs, oaC xs, oaN_ge xs, fun w h => c_implOrdersApart _ n ca xs w h hc, fun w h => c_specOrdersApart _ n ca xs w h hc⟩
end Go.Proofs.Ytpaoccnffmngfaa
