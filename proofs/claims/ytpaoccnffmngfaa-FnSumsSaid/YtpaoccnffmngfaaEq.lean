/- The laws' own comparison of two slices of float32, NaN among them: 'float64(x)' of a NaN is whatever the tape says. -/
import Derived.Test.YtpaoccnffmngfaaList
import Derived.Deep.RegionWith
namespace Go.Proofs.Ytpaoccnffmngfaa
set_option maxRecDepth 20000
open Go.RowKit

/-- The double word that a NaN becomes: whatever the tape says. -/
def nanD (x : Nat) (w : World) : Nat := (Question.nanConv .f64 x).cut (w.tape w.drawn (.nanConv .f64 x))
theorem nanD_nan (x : Nat) (w : World) (y : Nat) : FloatKind.f64.format.order (nanD x w) y = none ∧ FloatKind.f64.format.order y (nanD x w) = none := by
  generalize hn : nanD x w = n
  have hb : 9218868437227405313 ≤ n % 9223372036854775808 ∧ n / 9223372036854775808 ≤ 1 := by
    unfold nanD Question.cut at hn
    simp only at hn
    generalize w.tape w.drawn (.nanConv .f64 x) = t at hn
    have h1 : t % 2 < 2 := Nat.mod_lt _ (by omega)
    have h2 : t / 2 % (2 ^ 52 - 1) < 2 ^ 52 - 1 := Nat.mod_lt _ (by omega)
    generalize t % 2 = u at hn h1
    generalize t / 2 % (2 ^ 52 - 1) = v at hn h2
    omega
  have hr : ∃ s t, Ieee.double.read n = .nan s t := by
    have e1 : Ieee.double.signWeight = 9223372036854775808 := by decide
    have e2 : Ieee.double.binade = 4503599627370496 := by decide
    have e3 : Ieee.double.infRung = 9218868437227405312 := by decide
    unfold Ieee.Format.read
    simp only [e1, e2, e3]
    rw [if_neg (by omega), if_neg (by omega), if_neg (by omega)]
    exact ⟨_, _, rfl⟩
  obtain ⟨s, t, hr⟩ := hr
  show Ieee.double.order n y = none ∧ Ieee.double.order y n = none
  unfold Ieee.Format.order; rw [hr]
  exact ⟨rfl, by cases Ieee.double.read y <;> rfl⟩
/-- A single word as a double one. -/
def conv (x : Nat) (w : World) : Nat := if isWord x then toD x else nanD x w
theorem run_conv (x : Nat) (w : World) : (convert 26 54 (.float .f32 x)).run Try.prog w = .ok (.float .f64 (conv x w)) (if isWord x then w else w.drew) := by
  cases h : isWord x
  · have h1 : isFin x = false := by cases hf : isFin x <;> simp_all [isWord]
    have h2 : isInf x = false := by cases hf : isInf x <;> simp_all [isWord]
    obtain ⟨s, t, hr⟩ := read_nan h1 h2
    have hd : FloatKind.f32.decode x = .nan s t := hr
    simp [convert, run_underlying Try.underlying26, run_underlying Try.underlying54, Conv.floatToFloat, hd, conv, h]
    rw [if_neg (by simp [Question.forced])]
    rfl
  · have he : floatToFloatBits .f32 x .f64 = some (toD x) := by
      cases hf : isFin x
      · exact toD_inf_write (by simpa [isWord, hf] using h)
      · exact toD_fin_write hf
    rw [run_convert_float_float w _ _ .f32 .f64 x _ (by kernel_rfl) Try.underlying54 he]
    simp [conv, h]
theorem conv_DZero {x : Nat} (hx : x < 4294967296) (w : World) : DZero (conv x w) := by
  intro h
  unfold conv at h ⊢
  cases hw : isWord x
  · rw [hw] at h
    have := (nanD_nan x w 0).1
    simp only [Bool.false_eq_true, if_false] at h
    rw [this] at h; cases h
  · rw [hw] at h
    simp only [if_true] at h ⊢
    cases hf : isFin x
    · have hi : isInf x = true := by simpa [isWord, hf] using hw
      have := (order_inf_fin (y := 0) hi (by decide)).2.2.1
      rw [show toD 0 = 0 by decide] at this
      exact absurd h this
    · rcases toD_zero hx hf h with ⟨_, e⟩ | ⟨_, e⟩ <;> simp [e]
theorem isNum_isWord (x : Nat) : isNum x = isWord x := by
  show (Ieee.single.order x x == some .eq) = isWord x
  rw [order_self]
  cases isWord x <;> rfl
theorem same64_conv {x y : Nat} (hx : x < 4294967296) (hy : y < 4294967296) (w w' : World) : same64 (conv x w) (conv y w') = sameN x y := by
  have nself : ∀ z (wx : World), (FloatKind.f64.format.order (nanD z wx) (nanD z wx) == some .eq) = false := by
    intro z wx; rw [(nanD_nan z wx _).1]; rfl
  have wself : ∀ z, isWord z = true → (FloatKind.f64.format.order (toD z) (toD z) == some .eq) = true := by
    intro z hz
    show (Ieee.double.order (toD z) (toD z) == some .eq) = true
    cases hf : isFin z
    · have hi : isInf z = true := by simpa [isWord, hf] using hz
      unfold Ieee.Format.order; rw [toD_inf_read hi]; simp [Ieee.Datum.order]
    · rw [toD_order hf hf, order_self_fin hf]; rfl
  unfold sameN
  rw [isNum_isWord, isNum_isWord]
  unfold conv
  cases h1 : isWord x
  · simp only [Bool.false_eq_true, if_false, Bool.not_false, Bool.true_or, Bool.true_and, if_true]
    rw [same64_nan1 (nself x w)]
    cases h2 : isWord y
    · simp [nself y w', bne]
    · simp [wself y h2, bne]
  · cases h2 : isWord y
    · simp only [Bool.false_eq_true, if_false, if_true]
      rw [same64_nan2 (wself x h1) (nself y w')]
      rfl
    · simp only [if_true]
      rw [same64_word hx hy h1 h2]
      rfl
theorem run_conv_word {x : Nat} (h : isWord x = true) (w : World) : (convert 26 54 (.float .f32 x)).run Try.prog w = .ok (.float .f64 (toD x)) w := by
  rw [run_conv, conv, if_pos h, if_pos h]
theorem run_conv_nan {x : Nat} (h : isWord x = false) (w : World) : (convert 26 54 (.float .f32 x)).run Try.prog w = .ok (.float .f64 (nanD x w)) w.drew := by
  rw [run_conv, conv, if_neg (by simp [h]), if_neg (by simp [h])]
theorem conv_word {x : Nat} (h : isWord x = true) (w : World) : conv x w = toD x := by rw [conv, if_pos h]
theorem conv_nan {x : Nat} (h : isWord x = false) (w : World) : conv x w = nanD x w := by rw [conv, if_neg (by simp [h])]
theorem finDZero {x : Nat} (h : isFin x = true) : DZero (toD x) := by
  intro h0
  have hz : fx x = 0 := by
    have e : Ieee.double.order (toD x) (toD 0) = some .eq := by rw [show toD 0 = 0 by decide]; exact h0
    rw [toD_order h (by decide), order_fin h (by decide)] at e
    exact cmp_eq.1 (Option.some.inj e)
  have hm : magOf (x % 2147483648) = 0 := by unfold fx at hz; split at hz <;> omega
  have hr := magOf_zero hm
  have hs : Ieee.single.read x = .number (x / 2147483648 % 2 == 1) 0 (-149) := by
    have e1 : Ieee.single.signWeight = 2147483648 := by decide
    have e2 : Ieee.single.binade = 8388608 := by decide
    have e4 : Ieee.single.leastPlace = -149 := by decide
    unfold Ieee.Format.read
    simp only [e1, e2, e4]
    rw [if_pos (by omega), hr]
  unfold toD
  rw [hs]
  cases (x / 2147483648 % 2 == 1)
  · exact .inl (by decide)
  · exact .inr (by decide)
theorem same64_self {x : Nat} (h : isFin x = true) : same64 (toD x) (toD x) = true := by
  have h1 : (FloatKind.f64.format.order (toD x) (toD x) == some .eq) = true := by
    show (Ieee.double.order (toD x) (toD x) == some .eq) = true
    rw [toD_order h h, order_self_fin h]; rfl
  cases h3 : (FloatKind.f64.format.order (toD x) 0 == some .eq)
  · rw [same64_else h1 h1 (by rw [h3]; rfl)]; exact h1
  · rw [same64_zero h1 h1 h3 h3]; simp
end Go.Proofs.Ytpaoccnffmngfaa
