/- Walks of the functions that order a list: by size, by value; the spread and the median. -/
import Derived.Test.YtpaoccnffmngfaaBelow
import Derived.Test.YtpaoccnffmngfaaSums
import Derived.Test.YtpaoccnffmngfaaMean
namespace Go.Proofs.Ytpaoccnffmngfaa
set_option maxRecDepth 20000
open Go.RowKit

theorem smallOf_nil : smallOf [] = leftOf [] := rfl
theorem fin_small {w : World} {a : Option Addr} {n : Nat} {xs : List Nat} (h : Flts w a n xs) : isFin (sumN smallOf xs) = true := by
  cases hv : validL xs
  · rw [sumN_no hv]; exact fin_zero
  · have V := VL.of h hv
    have hl : (sortZ (sortK xs)).length = n := by rw [sortZ_len, sortK_len]; exact V.len
    have hp : Plains (sortZ (sortK xs)) := (V.pl.perm (sortK_perm xs)).perm (sortZ_perm _)
    rw [sumN_yes hv]
    exact (left_abs hp (by rw [hl]; exact V.le) _ (Nat.le_refl _)).fin
def soL (xs : List Nat) : List Nat := if validL xs then sortK xs else []
theorem valid48 {xs : List Nat} (h : validL xs = true) : xs.length ≤ 48 := by
  simp only [validL, Bool.and_eq_true, decide_eq_true_eq] at h; exact h.1
theorem soL_len (xs : List Nat) : (soL xs).length ≤ 99 := by
  unfold soL; split
  · next h => rw [sortK_len]; have := valid48 h; omega
  · simp
theorem soL_word {w : World} {a : Option Addr} {n : Nat} {xs : List Nat} (h : Flts w a n xs) : ∀ k, k < (soL xs).length → fat (soL xs) k < 4294967296 := by
  unfold soL; split
  · next hv => exact fun k hk => ((VL.of h hv).pl.perm (sortK_perm xs) k hk).1
  · intro k hk; simp at hk
def spreadOf (xs : List Nat) : Nat := fsub (fat (sortK xs) (xs.length - 1)) (fat (sortK xs) 0)
def midOf (xs : List Nat) : Nat := fadd (fat (sortK xs) (xs.length / 2 - 1)) (fat (sortK xs) (xs.length / 2))
def medianOf (xs : List Nat) : Nat := if xs.length % 2 = 1 then fat (sortK xs) (xs.length / 2) else fdiv (midOf xs) W2
theorem VL.sk {w : World} {a : Option Addr} {n : Nat} {xs : List Nat} (h : VL w a n xs) {k : Nat} (hk : k < n) : AbsLe (fat (sortK xs) k) PW :=
  (h.pl.perm (sortK_perm xs)).abs (by rw [sortK_len, h.len]; exact hk)
theorem mid_abs {w : World} {a : Option Addr} {n : Nat} {xs : List Nat} (h : VL w a n xs) (hp : 1 ≤ n) : AbsLe (midOf xs) (fadd PW PW + 1) := by
  have hl := h.len
  exact (h.sk (by omega)).add (h.sk (by omega)) (by decide +kernel)
theorem fx_W2_le : (2 : Int) ^ 149 ≤ fx W2 := by rw [fx_W2]; have : (0 : Int) < 2 ^ 149 := Int.pow_pos (by omega); omega
theorem fin_spread {w : World} {a : Option Addr} {n : Nat} {xs : List Nat} (h : Flts w a n xs) : isFin (someN spreadOf xs) = true := by
  unfold someN
  split
  · next hc =>
    obtain ⟨hv, hp⟩ := code_one h.len hc
    have V := VL.of h hv
    have hl := V.len
    exact ((V.sk (k := xs.length - 1) (by omega)).sub (V.sk (k := 0) (by omega)) (by decide +kernel)).fin
  · exact fin_zero
theorem fin_median {w : World} {a : Option Addr} {n : Nat} {xs : List Nat} (h : Flts w a n xs) : isFin (someN medianOf xs) = true := by
  unfold someN
  split
  · next hc =>
    obtain ⟨hv, hp⟩ := code_one h.len hc
    have V := VL.of h hv
    have hl := V.len
    unfold medianOf
    split
    · exact (V.sk (k := xs.length / 2) (by omega)).fin
    · exact ((mid_abs V hp).div (y := W2) (by decide) fx_W2_le).fin
  · exact fin_zero
theorem c_small (a : Option Addr) (n ca : Nat) (xs : List Nat) (w : World) (hv : VL w a n xs) :
    Calls Try.prog 38 #[.slice a n ca] w fun e w' => e = .returned (.float .f32 (smallOf xs)) ∧ Below w.heap.size w w' := by
  have C := hid (c_ordered a n ca xs w hv)
  have hn := hv.le
  have PL : Hid (Plains (sortK xs)) := hid (hv.pl.perm (sortK_perm xs))
  have LEN : Hid ((sortK xs).length = n) := hid (by rw [sortK_len]; exact hv.len)
  have KS : Hid (Srt leK (sortK xs) 0 n) := hid (by rw [← hv.len]; exact sortK_srt xs)
  clear hv
  go_enter Try.func38, Try.ntmps38
  go_wp2_with fail
  refine C.out.mono ?_
  rintro e w1 ⟨⟨v, rfl, ho⟩, hb⟩
  rcases ho with ⟨rfl, he⟩ | ⟨g, q, cap, rfl, hR⟩
  · have B := hid hb
    have HE := hid he
    clear hb he
    have V0 : VL w1 none 0 [] := ⟨⟨rfl, by omega, fun k hk => by omega, fun h => by omega⟩, fun k hk => by simp at hk, by omega⟩
    have V := hid V0
    have S : Hid (smallOf xs = leftOf []) := hid (by show leftOf (sortZ (sortK xs)) = _; rw [HE.out]; rfl)
    clear V0
    go_wp2_with fail
    refine (c_SortStable_nil _ _).mono ?_
    rintro e w2 ⟨rfl, rfl⟩
    go_wp2_with fail
    refine (c_left _ _ _ _ _ V.out).mono ?_
    rintro e w2 ⟨rfl, rfl⟩
    go_wp2_with fail
    go_ret
    exact ⟨ret_float S.out.symm, B.out⟩
  · have hq : q = n := by rw [← LEN.out]; exact hR.len.symm
    subst hq
    have B := hid hb
    have R := hid hR
    have TZ : Hid (∀ i j, i < j → j < q → Tells leZ (lessBy sizC) (fat (sortK xs) j) (fat (sortK xs) i)) := hid (fun i j h1 h2 => siz_tells (hR.ok i).abs (hR.ok j).abs (KS.out i j (Nat.zero_le _) (by omega) h2))
    clear hb hR
    go_wp2_with fail
    refine (c_SortStable leZ ordZ _ sizC c_small1 _ g q cap _ _ R.out hn TZ.out).mono ?_
    rintro e w2 ⟨rfl, m, hp, hs, hr, hg⟩
    have E := sized_is hp (by rw [LEN.out]; exact hs)
    have V := hid (hr.vl (PL.out.perm hp) hn)
    have BB := hid (B.out.grown hg B.out.size (fun r e => by cases e; exact (R.out.own.lt _ rfl).1))
    have EE := hid (show leftOf m = smallOf xs by rw [E]; rfl)
    clear E hp hs hr hg
    go_wp2_with fail
    refine (c_left _ _ _ _ _ V.out).mono ?_
    rintro e w3 ⟨rfl, rfl⟩
    go_wp2_with fail
    go_ret
    exact ⟨ret_float EE.out, BB.out⟩
theorem c_summed_Small (a : Option Addr) (n ca : Nat) (xs : List Nat) (w : World) (hx : Flts w a n xs) :
    Calls Try.prog 32 #[.slice a n ca, .func (.func 38) #[] #[]] w fun e w' => e = .returned (.tuple #[.float .f32 (sumN smallOf xs), .int .i64 (codeL xs 0)]) ∧ Below w.heap.size w w' := by
  have X := hid hx
  clear hx
  cases hv : validL xs
  · have C := hid (code_no (k := 0) hv)
    go_enter Try.func32, Try.ntmps32
    go_wp2_with fail
    refine (c_listCode a n ca xs _ X.out).mono ?_
    rintro e w' ⟨rfl, rfl⟩
    rw [C.out]
    go_wp2
    go_ret2
    exact ⟨by rw [sumN_no hv, C.out]; rfl, Below.refl _ _⟩
  · have C := hid (code_yes hv)
    have V := hid (VL.of X.out hv)
    go_enter Try.func32, Try.ntmps32
    go_wp2_with fail
    refine (c_listCode a n ca xs _ X.out).mono ?_
    rintro e w' ⟨rfl, rfl⟩
    rw [C.out]
    go_wp2_with (go_at_call 38; refine (c_small a n ca xs _ (V.out)).mono ?_; rintro e w' ⟨rfl, hb⟩)
    go_ret2
    exact ⟨by rw [sumN_yes hv, C.out]; rfl, (by assumption)⟩
theorem c_specSumSmall (ad : Addr) (n ca : Nat) (xs : List Nat) (w : World) (hx : Flts w (some ad) n xs) :
    Calls Try.prog 17 #[.slice (some ad) n ca] w fun e w' => e = .returned (.tuple #[.float .f32 (sumN smallOf xs), .int .i64 (codeL xs 0)]) ∧ Below w.heap.size w w' := by
  have X := hid hx
  clear hx
  cases hv : validL xs
  · have C := hid (code_no (k := 0) hv)
    go_enter Try.func17, Try.ntmps17
    go_wp2_with fail
    refine (c_l06Code _ n ca xs 0 (by omega) _ X.out).mono ?_
    rintro e w' ⟨rfl, rfl⟩
    rw [C.out]
    go_wp2
    go_ret2
    exact ⟨by rw [sumN_no hv, C.out]; rfl, Below.refl _ _⟩
  · have C := hid (code_yes hv)
    have V := hid (VL.of X.out hv)
    go_enter Try.func17, Try.ntmps17
    go_wp2_with fail
    refine (c_l06Code _ n ca xs 0 (by omega) _ X.out).mono ?_
    rintro e w' ⟨rfl, rfl⟩
    rw [C.out]
    go_wp2_with (go_at_call 45; refine (c_l06Small ad n ca xs _ (V.out)).mono ?_; rintro e w' ⟨rfl, hb⟩)
    go_ret2
    exact ⟨by rw [sumN_yes hv, C.out]; rfl, (by assumption)⟩
theorem c_implSumSmall (a : Option Addr) (n ca : Nat) (xs : List Nat) (w : World) (hx : Flts w a n xs) :
    Calls Try.prog 11 #[.slice a n ca] w fun e w' => e = .returned (.tuple #[.float .f32 (sumN smallOf xs), .int .i64 (codeL xs 0)]) ∧ Below w.heap.size w w' := by
  have X := hid hx
  clear hx
  go_enter Try.func11, Try.ntmps11
  go_wp2_with fail
  refine (c_summed_Small a n ca xs _ X.out).mono ?_
  rintro e w' ⟨rfl, hb⟩
  have Hb := hid hb
  clear hb
  go_wp2
  go_ret2
  exact ⟨rfl, Hb.out⟩
end Go.Proofs.Ytpaoccnffmngfaa
