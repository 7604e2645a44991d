/- Walks of the functions that give a sum of a list and its code, the program's and the reference's. -/
import Derived.Test.YtmjmgfojdomhlaaSumW
namespace Go.Proofs.Ytmjmgfojdomhlaa
set_option maxRecDepth 20000
open Go.RowKit

def sumN (f : List Nat → Nat) (xs : List Nat) : Nat := if validL xs then f xs else 0
theorem sumN_yes {f : List Nat → Nat} {xs : List Nat} (h : validL xs = true) : sumN f xs = f xs := by simp [sumN, h]
theorem sumN_no {f : List Nat → Nat} {xs : List Nat} (h : validL xs = false) : sumN f xs = 0 := by simp [sumN, h]
theorem fin_zero : isFin 0 = true := by decide
theorem fin_left {w : World} {a : Option Addr} {n : Nat} {xs : List Nat} (h : Flts w a n xs) : isFin (sumN leftOf xs) = true := by
  cases hv : validL xs
  · rw [sumN_no hv]; exact fin_zero
  · have V := VL.of h hv
    rw [sumN_yes hv]; exact (left_abs V.pl (by rw [V.len]; exact V.le) _ (Nat.le_refl _)).fin
theorem fin_right {w : World} {a : Option Addr} {n : Nat} {xs : List Nat} (h : Flts w a n xs) : isFin (sumN rightOf xs) = true := by
  cases hv : validL xs
  · rw [sumN_no hv]; exact fin_zero
  · have V := VL.of h hv
    rw [sumN_yes hv]; exact (right_abs V.pl (by rw [V.len]; exact V.le) _ (Nat.le_refl _)).fin
theorem fin_kept {w : World} {a : Option Addr} {n : Nat} {xs : List Nat} (h : Flts w a n xs) : isFin (sumN keptOf xs) = true := by
  cases hv : validL xs
  · rw [sumN_no hv]; exact fin_zero
  · have V := VL.of h hv
    rw [sumN_yes hv]; exact (kept_abs V.pl (by rw [V.len]; exact V.le) _ (Nat.le_refl _)).1.fin
theorem fin_wide {w : World} {a : Option Addr} {n : Nat} {xs : List Nat} (h : Flts w a n xs) : isFin (sumN wideOf xs) = true := by
  cases hv : validL xs
  · rw [sumN_no hv]; exact fin_zero
  · have V := VL.of h hv
    rw [sumN_yes hv]; exact (wide_fin V.pl (by rw [V.len]; exact V.le)).2.fin
theorem fin_pairs {w : World} {a : Option Addr} {n : Nat} {xs : List Nat} (h : Flts w a n xs) : isFin (sumN pairsOf xs) = true := by
  cases hv : validL xs
  · rw [sumN_no hv]; exact fin_zero
  · have V := VL.of h hv
    rw [sumN_yes hv]; exact (pairs_abs _ V.len V.pl V.le).fin
theorem code_no {xs : List Nat} {k : Nat} (h : validL xs = false) : codeL xs k = 1 := by simp [codeL, h]
theorem code_yes {xs : List Nat} (h : validL xs = true) : codeL xs 0 = 0 := by simp [codeL, h]
end Go.Proofs.Ytmjmgfojdomhlaa
