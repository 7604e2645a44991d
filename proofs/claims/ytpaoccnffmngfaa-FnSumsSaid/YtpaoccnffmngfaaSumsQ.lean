/- Plain laws on sums of whole numbers: all of them are the same; as integers. -/
import Derived.Test.YtpaoccnffmngfaaSumsP
import Derived.Test.YtpaoccnffmngfaaDraw
namespace Go.Proofs.Ytpaoccnffmngfaa
set_option maxRecDepth 20000
open Ieee Go.RowKit

theorem toInt_I {x : Nat} {z : Int} (h : IsI x z) : (single.read x).toInt .zero = some z := by
  obtain ⟨s, m, i, hr, hm, hi, hi2, hv⟩ := single_mag h.fin
  rw [hr]
  rw [h.val] at hv
  have key : signed s (Toward.zero.cut s (m <<< i.toNat) (-i).toNat) 0 = z := by
    unfold Toward.cut
    simp only [Nat.shiftLeft_eq, Bool.toNat_false, Nat.add_zero, Nat.one_mul]
    unfold valAt at hv
    rcases Int.le_total 0 i with h0 | h0
    · rw [show (-i).toNat = 0 by omega, Nat.zero_min, Nat.pow_zero, Nat.div_one]
      rw [show (i - -149).toNat = i.toNat + 149 by omega, signed_mul] at hv
      have e := Int.eq_of_mul_eq_mul_right (Int.ne_of_gt (Int.pow_pos (show (0 : Int) < 2 by omega))) hv
      unfold signed at e ⊢
      simp only [Nat.shiftLeft_eq, Nat.pow_zero, Nat.mul_one] at e ⊢
      exact e
    · obtain ⟨d, rfl⟩ : ∃ d : Nat, i = -(d : Int) := ⟨(-i).toNat, by omega⟩
      rw [show (- -(d : Int)).toNat = d by omega, show (-(d : Int)).toNat = 0 by omega, Nat.pow_zero, Nat.mul_one]
      rw [show (-(d : Int) - -149).toNat = 149 - d by omega, show (149 : Nat) = d + (149 - d) by omega, Int.pow_add, ← Int.mul_assoc, show d + (149 - d) - d = 149 - d by omega] at hv
      have hs : signed s m (149 - d) = signed s m 0 * 2 ^ (149 - d) := by rw [← signed_mul, Nat.zero_add]
      rw [hs] at hv
      have e := Int.eq_of_mul_eq_mul_right (Int.ne_of_gt (Int.pow_pos (show (0 : Int) < 2 by omega))) hv
      have em : m = z.natAbs * 2 ^ d := by
        have e2 := congrArg Int.natAbs e
        rw [Int.natAbs_mul, Int.natAbs_pow] at e2
        unfold signed at e2
        simp only [Nat.shiftLeft_eq, Nat.pow_zero, Nat.mul_one] at e2
        split at e2 <;> simpa using e2
      have low : m / 2 ^ min d (m.log2 + 2) = z.natAbs := by
        by_cases hz : z = 0
        · subst hz; simp at em; subst em; simp
        · have : 2 ^ d ≤ m := by rw [em]; exact Nat.le_mul_of_pos_left _ (by omega)
          have h2 : d ≤ m.log2 := (Nat.le_log2 (by have := Nat.two_pow_pos d; omega)).2 this
          rw [Nat.min_eq_left (by omega), em, Nat.mul_div_cancel _ (Nat.two_pow_pos d)]
      rw [low]
      unfold signed at e ⊢
      simp only [Nat.shiftLeft_eq, Nat.pow_zero, Nat.mul_one] at e ⊢
      have hp : (0 : Int) < 2 ^ d := Int.pow_pos (by omega)
      by_cases hz : z = 0
      · subst hz; simp
      · cases s
        · simp only [Bool.false_eq_true, if_false] at e ⊢
          have : 0 ≤ z * 2 ^ d := by rw [← e]; omega
          have : 0 ≤ z := by
            by_cases hn : z < 0
            · have := Int.mul_neg_of_neg_of_pos hn hp; omega
            · omega
          omega
        · simp only [if_true] at e ⊢
          have : z * 2 ^ d ≤ 0 := by rw [← e]; omega
          have : z ≤ 0 := by
            by_cases hn : 0 < z
            · have := Int.mul_pos hn hp; omega
            · omega
          omega
  unfold Datum.toInt Datum.integral
  simp only
  rw [key]
theorem toI_val {x : Nat} {z : Int} (h : IsI x z) (hz : -100000000 ≤ z ∧ z ≤ 100000000) : floatToIntVal .f32 x .i64 = some z := by
  have e : (FloatKind.f32.decode x).toInt .zero = some z := toInt_I h
  unfold floatToIntVal
  rw [e]
  simp only
  rw [if_pos]
  exact ⟨by simp [IntKind.min, IntKind.signed, IntKind.bits]; omega, by simp [IntKind.max, IntKind.signed, IntKind.bits]; omega⟩
theorem run_toI {x : Nat} {z : Int} (h : IsI x z) (hz : -100000000 ≤ z ∧ z ≤ 100000000) (w : World) : (convert 26 2 (.float .f32 x)).run Try.prog w = .ok (.int .i64 z) w :=
  run_convert_float_int (P := Try.prog) (w := w) 26 2 .f32 .i64 x z (by rw [Try.underlying26]; rfl) Try.underlying2 (toI_val h hz)
/-! ### In double words -/
theorem rep_word {v : Int} (hv : -16777216 ≤ v ∧ v ≤ 16777216) : ∃ t, isFin t = true ∧ isOrd t ∧ fx t = v * 2 ^ 149 := by
  obtain ⟨R, hR, hm⟩ := rep_mag (m := v.natAbs) (by omega)
  have hmI : (magOf R : Int) = (v.natAbs : Int) * 2 ^ 149 := by rw [hm]; exact pow_cast _ _
  by_cases hn : v < 0
  · refine ⟨R + 2147483648, by simp [isFin]; omega, by unfold isOrd; omega, ?_⟩
    rw [fx_flip (by omega), hmI, ← Int.neg_mul, show -(v.natAbs : Int) = v by omega]
  · refine ⟨R, by simp [isFin]; omega, by unfold isOrd; omega, ?_⟩
    rw [fx_pos (by omega), hmI, show (v.natAbs : Int) = v by omega]
theorem ordD_fin {x : Nat} (h : isFinD x = true) : isOrdD x := by
  have : x % 9223372036854775808 < 9218868437227405312 := by simpa [isFinD] using h
  unfold isOrdD; omega
theorem pow_split : (2 : Int) ^ 1074 = 2 ^ 149 * 2 ^ 925 := by rw [← Int.pow_add]
theorem dx_exact {z : Nat} {V v : Int} (h : NearD z 0 V) (hV : V = v * 2 ^ 1074) (hv : -16777216 ≤ v ∧ v ≤ 16777216) : dx z = v * 2 ^ 1074 := by
  obtain ⟨t, h1, h2, h3⟩ := rep_word hv
  obtain ⟨d1, d2, d3⟩ := toD_dx h1
  have e : dx (toD t) = V := by rw [d2, h3, hV, pow_split, Int.mul_assoc]
  have hle := h.le (toD t) (ordD_fin d1)
  have hge := h.ge (toD t) (ordD_fin d1)
  simp only [Int.pow_zero, Int.mul_one] at hle hge
  rw [e] at hle hge
  have a := hle (Int.le_refl _)
  have b := hge (Int.le_refl _)
  rw [← hV]; omega
theorem Ints500.plains {xs : List Nat} {zs : List Int} (h : Ints500 xs zs) : Plains xs := fun k hk => by
  have b := h.bnd k hk
  have a := (h.at_ k hk).abs (by omega)
  exact ⟨a.word, abs_plain a⟩
theorem wide_I {xs : List Nat} {zs : List Int} (h : Ints500 xs zs) (hn : xs.length ≤ 48) : ∀ k, k ≤ xs.length → dx (wideK xs k) = sumK zs k * 2 ^ 1074
  | 0, _ => by rw [wideK, sumK, Int.zero_mul]; decide
  | k + 1, hk => by
    have ih := wide_I h hn k (by omega)
    have f1 := (wide_abs h.plains hn k (by omega)).fin
    have I := h.at_ k (by omega)
    obtain ⟨d1, d2, _⟩ := toD_dx I.fin
    have n := (add_finD f1 d1).2
    have b := sumK_bnd h.bnd (k + 1) hk
    exact dx_exact n (by rw [ih, d2, I.val, Int.mul_assoc, ← pow_split, ← Int.add_mul]; rfl) (by omega)
theorem wideOf_I {xs : List Nat} {zs : List Int} (h : Ints500 xs zs) (hn : xs.length ≤ 48) : IsI (wideOf xs) (sumI zs) := by
  have e := wide_I h hn xs.length (Nat.le_refl _)
  have ab := wide_abs h.plains hn xs.length (Nat.le_refl _)
  have b := sumK_bnd h.bnd xs.length (Nat.le_refl _)
  obtain ⟨t, h1, h2, h3⟩ := rep_word (v := sumK zs xs.length) (by omega)
  have bx := (bw_ok xs.length hn).2
  have e2 : ((magD (bw xs.length) : Nat) : Int) ≤ (magOf 1300234240 : Int) * 2 ^ 925 := by
    rw [← pow_cast (magOf 1300234240) 925]
    exact_mod_cast bx
  obtain ⟨_, n, ab2⟩ := toS_fin (A := 1300234240) ab.fin (by omega) (Int.le_trans ab.le e2) (Int.le_trans (Int.neg_le_neg e2) ab.ge)
  have ev : dx (wideK xs xs.length) = fx t * 2 ^ 925 := by rw [e, h3, pow_split, Int.mul_assoc]
  have k1 := n.le t h2 (by rw [ev]; exact Int.le_refl _)
  have k2 := n.ge t h2 (by rw [ev]; exact Int.le_refl _)
  refine ⟨ab2.word, ab2.fin, ?_⟩
  show fx (toS (wideK xs xs.length)) = sumI zs * 2 ^ 149
  rw [show fx (toS (wideK xs xs.length)) = fx t by omega, h3]
  unfold sumI; rw [← h.len]
/-! ### In another order -/
/-- The whole number that a word holds. -/
def zOf (x : Nat) : Int := fx x / 2 ^ 149
theorem IsI.zOf {x : Nat} {z : Int} (h : IsI x z) : zOf x = z := by
  unfold Go.Proofs.Ytpaoccnffmngfaa.zOf
  rw [h.val]
  exact Int.mul_ediv_cancel _ (Int.ne_of_gt (Int.pow_pos (by omega)))
def All500 (xs : List Nat) : Prop := ∀ x ∈ xs, IsI x (zOf x) ∧ -500 ≤ zOf x ∧ zOf x ≤ 500
theorem Ints500.all {xs : List Nat} {zs : List Int} (h : Ints500 xs zs) : All500 xs := fun x hx => by
  obtain ⟨k, hk, e⟩ := List.mem_iff_getElem.1 hx
  have ef : fat xs k = x := by simp [fat, hk, e]
  have a := h.at_ k hk
  have b := h.bnd k hk
  rw [ef] at a
  rw [a.zOf]; exact ⟨a, b⟩
theorem All500.ints {xs : List Nat} (h : All500 xs) : Ints500 xs (xs.map zOf) := by
  have key : ∀ k, k < xs.length → iat (xs.map zOf) k = zOf (fat xs k) ∧ fat xs k ∈ xs := fun k hk => ⟨by simp [iat, fat, hk], by simp [fat, hk]⟩
  refine ⟨by simp, fun k hk => ?_, fun k hk => ?_⟩
  · rw [(key k hk).1]; exact (h _ (key k hk).2).1
  · rw [(key k hk).1]; exact (h _ (key k hk).2).2
def sumL : List Int → Int
  | [] => 0
  | z :: r => z + sumL r
theorem sumL_app : ∀ a b : List Int, sumL (a ++ b) = sumL a + sumL b
  | [], b => by simp [sumL]
  | z :: a, b => by rw [List.cons_append, sumL, sumL, sumL_app a b]; omega
theorem sumK_take' (zs : List Int) : ∀ k, k ≤ zs.length → sumK zs k = sumL (zs.take k)
  | 0, _ => rfl
  | k + 1, hk => by
    rw [sumK, sumK_take' zs k (by omega), List.take_add_one, List.getElem?_eq_getElem (by omega), sumL_app]
    simp [sumL, iat, show k < zs.length by omega]
theorem sumI_L (zs : List Int) : sumI zs = sumL zs := by
  unfold sumI; rw [sumK_take' zs _ (Nat.le_refl _), List.take_length]
theorem sumL_perm {a b : List Int} (h : a.Perm b) : sumL a = sumL b := by
  induction h with
  | nil => rfl
  | cons x _ ih => rw [sumL, sumL, ih]
  | swap x y l => rw [sumL, sumL, sumL, sumL]; omega
  | trans _ _ h1 h2 => rw [h1, h2]
theorem ints_map {xs : List Nat} {zs : List Int} (h : Ints500 xs zs) : xs.map zOf = zs := by
  apply List.ext_getElem
  · rw [List.length_map, h.len]
  · intro k h1 h2
    have hk : k < xs.length := by simpa using h1
    have := (h.at_ k hk).zOf
    simpa [fat, iat, hk, h2] using this
theorem small_I {xs : List Nat} {zs : List Int} (h : Ints500 xs zs) (hn : xs.length ≤ 48) : IsI (smallOf xs) (sumI zs) := by
  have hp : (sortZ (sortK xs)).Perm xs := (sortZ_perm _).trans (sortK_perm _)
  have ha : All500 (sortZ (sortK xs)) := fun x hx => h.all x (hp.mem_iff.1 hx)
  have hl : (sortZ (sortK xs)).length ≤ 48 := by rw [hp.length_eq]; exact hn
  have := left_I ha.ints hl _ (Nat.le_refl _)
  have e : sumK ((sortZ (sortK xs)).map zOf) (sortZ (sortK xs)).length = sumI zs := by
    have : sumI ((sortZ (sortK xs)).map zOf) = sumI zs := by
      rw [sumI_L, sumI_L, ← ints_map h]
      exact sumL_perm (hp.map _)
    unfold sumI at this
    rw [List.length_map] at this
    exact this
  rw [e] at this
  exact this
/-! ### How far apart -/
theorem step_same {x y : Nat} {z : Int} (hx : IsI x z) (hy : IsI y z) : stepOf x = stepOf y := by
  by_cases h0 : fx x = 0
  · have h1 : fx y = 0 := by rw [hy.val, ← hx.val]; exact h0
    rcases fx_zero hx.word h0 with rfl | rfl <;> rcases fx_zero hy.word h1 with rfl | rfl <;> rfl
  · rw [fx_inj hx.word hy.word (by rw [hx.val, hy.val]) h0]
theorem sums_I {xs : List Nat} {zs : List Int} (h : Ints500 xs zs) (hn : xs.length ≤ 48) : ∀ k, k < 6 → IsI (fat (sumsOf xs) k) (sumI zs) := by
  have l := left_I h hn _ (Nat.le_refl _)
  have r := right_I h hn _ (Nat.le_refl _)
  have rr := sumR_add zs xs.length xs.length (Nat.le_refl _)
  rw [Nat.sub_self, sumK, Int.zero_add] at rr
  rw [rr] at r
  rw [h.len] at l r rr
  have kp := (kept_I h hn _ (Nat.le_refl _)).1
  rw [h.len] at kp
  have p := pairs_I _ rfl h hn
  intro k hk
  match k, hk with
  | 0, _ => show IsI (leftOf xs) _; unfold leftOf; rw [h.len]; exact l
  | 1, _ => show IsI (rightOf xs) _; unfold rightOf; rw [h.len]; exact r
  | 2, _ => exact p
  | 3, _ => show IsI (keptOf xs) _; unfold keptOf; rw [h.len]; exact kp
  | 4, _ => exact wideOf_I h hn
  | 5, _ => exact small_I h hn
theorem apart_zero {xs : List Nat} {zs : List Int} (h : Ints500 xs zs) (hn : xs.length ≤ 8) (hv : validL xs = true) : oaC xs = 0 ∧ oaN xs = 0 := by
  have S := sums_I h (by omega)
  have b := sumK_bnd h.bnd xs.length (Nat.le_refl _)
  have hs : sumI zs = sumK zs xs.length := by unfold sumI; rw [h.len]
  have hv2 : validL (sumsOf xs) = true := by
    simp only [validL, Bool.and_eq_true, decide_eq_true_eq]
    refine ⟨by simp [sumsOf], plains_yes (fun j hj => ?_)⟩
    have hj6 : j < 6 := by simpa [sumsOf] using hj
    exact abs_plain ((S j hj6).abs (by rw [hs]; omega))
  have c : oaC xs = 0 := by unfold oaC; rw [hv, hv2]; rfl
  refine ⟨c, ?_⟩
  unfold oaN oaM
  rw [if_pos c]
  have up := (mxQ_le (fun i k => apartOf (fat (sumsOf xs) i) (fat (sumsOf xs) k)) (fun _ => 6) 0 6).2 ⟨Int.le_refl _, fun i hi k hk => by
    show apartOf _ _ ≤ 0
    unfold apartOf
    rw [step_same (S i hi) (S k hk)]; omega⟩
  have lo := ((mxQ_le (fun i k => apartOf (fat (sumsOf xs) i) (fat (sumsOf xs) k)) (fun _ => 6) _ 6).1 (Int.le_refl _)).1
  omega
end Go.Proofs.Ytpaoccnffmngfaa
