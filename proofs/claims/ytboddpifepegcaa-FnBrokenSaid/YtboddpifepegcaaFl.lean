/- Plain laws on floating point words: what a word stands for as a whole number of least units, order, exact writing. No program in sight. -/
import Derived.Test.YtboddpifepegcaaRows
import Derived.Laws.FloatArith
namespace Go.Proofs.Ytboddpifepegcaa
set_option maxRecDepth 20000
open Ieee

/-! ### What a number is worth in units of '2 ^ L' -/
/-- 'number s m i' in units of '2 ^ L' (for 'L ≤ i'). -/
def valAt (L : Int) (s : Bool) (m : Nat) (i : Int) : Int := signed s m (i - L).toNat

theorem signed_mul (s : Bool) (m a b : Nat) : signed s m (a + b) = signed s m a * 2 ^ b := by
  unfold signed
  cases s
  · simp [Nat.shiftLeft_eq, Nat.pow_add, Int.mul_assoc]
  · simp [Nat.shiftLeft_eq, Nat.pow_add, Int.mul_assoc, Int.neg_mul]

theorem valAt_step {L L' i : Int} (s : Bool) (m : Nat) (h : L ≤ L') (h' : L' ≤ i) : valAt L s m i = valAt L' s m i * 2 ^ (L' - L).toNat := by
  unfold valAt
  rw [show (i - L).toNat = (i - L').toNat + (L' - L).toNat by omega, signed_mul]

theorem compare_mul (a b : Int) (k : Nat) : compare (a * 2 ^ k) (b * 2 ^ k) = compare a b := by
  have hp : (0 : Int) < 2 ^ k := Int.pow_pos (by omega)
  simp only [Int.compare_eq_ite_lt] <;> skip
  by_cases h1 : a < b
  · have : a * 2 ^ k < b * 2 ^ k := Int.mul_lt_mul_of_pos_right h1 hp
    simp [h1, this]
  · by_cases h2 : b < a
    · have : b * 2 ^ k < a * 2 ^ k := Int.mul_lt_mul_of_pos_right h2 hp
      have h3 : ¬ a * 2 ^ k < b * 2 ^ k := by omega
      simp [h1, h2, this, h3]
    · have : a = b := by omega
      subst this
      simp

theorem cmp_eq {a b : Int} : compare a b = .eq ↔ a = b := by
  rw [Int.compare_eq_ite_lt]
  by_cases h1 : a < b
  · rw [if_pos h1]; exact ⟨fun h => (by cases h), fun h => by omega⟩
  · rw [if_neg h1]
    by_cases h2 : b < a
    · rw [if_pos h2]; exact ⟨fun h => (by cases h), fun h => by omega⟩
    · rw [if_neg h2]; exact ⟨fun _ => by omega, fun _ => rfl⟩
theorem cmp_lt {a b : Int} : compare a b = .lt ↔ a < b := by
  rw [Int.compare_eq_ite_lt]
  by_cases h1 : a < b
  · rw [if_pos h1]; exact ⟨fun _ => h1, fun _ => rfl⟩
  · rw [if_neg h1]
    by_cases h2 : b < a
    · rw [if_pos h2]; exact ⟨fun h => (by cases h), fun h => absurd h h1⟩
    · rw [if_neg h2]; exact ⟨fun h => (by cases h), fun h => absurd h h1⟩
theorem cmp_gt {a b : Int} : compare a b = .gt ↔ b < a := by
  rw [Int.compare_eq_ite_lt]
  by_cases h1 : a < b
  · rw [if_pos h1]; exact ⟨fun h => (by cases h), fun h => by omega⟩
  · rw [if_neg h1]
    by_cases h2 : b < a
    · rw [if_pos h2]; exact ⟨fun _ => h2, fun _ => rfl⟩
    · rw [if_neg h2]; exact ⟨fun h => (by cases h), fun h => absurd h h2⟩

/-- Order is the order of what the numbers are worth. -/
theorem order_val {L i j : Int} (s t : Bool) (m n : Nat) (hi : L ≤ i) (hj : L ≤ j) :
    Datum.order (.number s m i) (.number t n j) = some (compare (valAt L s m i) (valAt L t n j)) := by
  have h1 := valAt_step (L := L) (L' := min i j) (i := i) s m (by omega) (by omega)
  have h2 := valAt_step (L := L) (L' := min i j) (i := j) t n (by omega) (by omega)
  rw [h1, h2, compare_mul]
  rfl

/-! ### Single words -/
/-- The magnitude of a rung, in units of 2 ^ -149. -/
def magOf (r : Nat) : Nat := if r < 8388608 then r else (8388608 + r % 8388608) * 2 ^ (r / 8388608 - 1)
def isFin (x : Nat) : Bool := decide (x % 2147483648 < 2139095040)
/-- What a finite word is worth, in units of 2 ^ -149. -/
def fx (x : Nat) : Int := if x / 2147483648 % 2 = 1 then -(magOf (x % 2147483648) : Int) else (magOf (x % 2147483648) : Int)

theorem read_fin {x : Nat} (h : isFin x = true) : ∃ s m i, single.read x = .number s m i ∧ (-149 : Int) ≤ i ∧ valAt (-149) s m i = fx x := by
  have hf : x % 2147483648 < 2139095040 := by simpa [isFin] using h
  have e1 : single.signWeight = 2147483648 := by decide
  have e2 : single.binade = 8388608 := by decide
  have e3 : single.infRung = 2139095040 := by decide
  have e4 : single.leastPlace = -149 := by decide
  unfold Format.read
  simp only [e1, e2, e3, e4]
  by_cases hs : x % 2147483648 < 8388608
  · rw [if_pos hs]
    refine ⟨_, _, _, rfl, by omega, ?_⟩
    simp only [valAt, signed, fx, magOf, hs, if_true]
    by_cases hb : x / 2147483648 % 2 = 1 <;> simp [hb]
  · rw [if_neg hs, if_pos hf]
    refine ⟨_, _, _, rfl, by omega, ?_⟩
    simp only [valAt, signed, fx, magOf, hs, if_false]
    rw [show (-149 + ((x % 2147483648 / 8388608 - 1 : Nat) : Int) - -149).toNat = x % 2147483648 / 8388608 - 1 by omega]
    by_cases hb : x / 2147483648 % 2 = 1 <;> simp [hb, Nat.shiftLeft_eq]

theorem order_fin {x y : Nat} (hx : isFin x = true) (hy : isFin y = true) : single.order x y = some (compare (fx x) (fx y)) := by
  obtain ⟨s, m, i, hr, hi, hv⟩ := read_fin hx
  obtain ⟨t, n, j, hr', hj, hv'⟩ := read_fin hy
  unfold Format.order
  rw [hr, hr', order_val (L := -149) s t m n hi hj, hv, hv']

/-! ### Writing a number that the format has -/
section
variable (f : Format)

theorem leastPlace_le_of (mag : Nat) (place : Int) (hm : mag < 2 ^ (f.fractionBits + 1)) (hp : f.leastPlace ≤ place) (h0 : mag ≠ 0) :
    max (place + mag.log2 - f.fractionBits) f.leastPlace ≤ place := by
  have := (Nat.log2_lt h0).2 hm
  omega

/-- 'nearest' of a number that the format has: the very number, in its own form. -/
theorem nearest_exact (neg : Bool) (mag : Nat) (place : Int) (h0 : mag ≠ 0) (hm : mag < 2 ^ (f.fractionBits + 1)) (hp : f.leastPlace ≤ place)
    (last : Int) (hl : last = max (place + mag.log2 - f.fractionBits) f.leastPlace)
    (kept : Nat) (hk : kept = mag * 2 ^ (place - last).toNat) (hfin : (last - f.leastPlace).toNat * f.binade + kept ≤ f.infRung) :
    f.nearest neg mag place = f.word neg ((last - f.leastPlace).toNat * f.binade + kept) := by
  have hle := leastPlace_le_of f mag place hm hp h0
  rw [← hl] at hle
  unfold Format.nearest
  rw [if_neg h0]
  simp only [← hl]
  have e : (last - place).toNat = 0 := by omega
  have ec : Toward.even.cut neg (mag <<< (place - last).toNat) (last - place).toNat = kept := by
    rw [e, hk]
    simp [Toward.cut, Nat.shiftLeft_eq, Nat.mod_one]
  rw [ec, Nat.min_eq_left hfin]

theorem kept_bounds (mag : Nat) (place : Int) (h0 : mag ≠ 0) (hm : mag < 2 ^ (f.fractionBits + 1)) (hp : f.leastPlace ≤ place)
    (last : Int) (hl : last = max (place + mag.log2 - f.fractionBits) f.leastPlace) :
    mag * 2 ^ (place - last).toNat < 2 ^ (f.fractionBits + 1) ∧ (f.leastPlace < last → 2 ^ f.fractionBits ≤ mag * 2 ^ (place - last).toNat) := by
  have hle := leastPlace_le_of f mag place hm hp h0
  have h1 : 2 ^ mag.log2 ≤ mag := Nat.log2_self_le h0
  have h2 : mag < 2 ^ (mag.log2 + 1) := Nat.lt_log2_self
  constructor
  · have hb : (place - last).toNat + mag.log2 ≤ f.fractionBits := by omega
    calc mag * 2 ^ (place - last).toNat < 2 ^ (mag.log2 + 1) * 2 ^ (place - last).toNat := Nat.mul_lt_mul_of_pos_right h2 (Nat.two_pow_pos _)
      _ = 2 ^ (mag.log2 + 1 + (place - last).toNat) := by rw [← Nat.pow_add]
      _ ≤ 2 ^ (f.fractionBits + 1) := Nat.pow_le_pow_right (by omega) (by omega)
  · intro hlt
    have hb : (place - last).toNat + mag.log2 = f.fractionBits := by omega
    calc 2 ^ f.fractionBits = 2 ^ (mag.log2 + (place - last).toNat) := by rw [← hb, Nat.add_comm]
      _ = 2 ^ mag.log2 * 2 ^ (place - last).toNat := by rw [Nat.pow_add]
      _ ≤ mag * 2 ^ (place - last).toNat := Nat.mul_le_mul_right _ h1

/-- Reading what was written of a number that the format has. -/
theorem read_word (neg : Bool) (u kept : Nat) (hk : kept < 2 ^ (f.fractionBits + 1)) (hu : 0 < u → 2 ^ f.fractionBits ≤ kept) (hfin : u * f.binade + kept < f.infRung) :
    f.read (f.word neg (u * f.binade + kept)) = .number neg kept (f.leastPlace + u) := by
  have hb : f.binade = 2 ^ f.fractionBits := rfl
  have hbp : 0 < f.binade := Nat.two_pow_pos _
  have hsw : f.infRung < f.signWeight := f.infRung_lt
  have h2 : 2 ^ (f.fractionBits + 1) = 2 * f.binade := by rw [Nat.pow_succ, hb]; omega
  generalize hr : u * f.binade + kept = r at *
  have hmod : f.word neg r % f.signWeight = r := by
    unfold Format.word; split
    · rw [Nat.add_mod_left, Nat.mod_eq_of_lt (by omega)]
    · rw [Nat.mod_eq_of_lt (by omega)]
  have hdiv : (f.word neg r / f.signWeight % 2 == 1) = neg := by
    have hp : 0 < f.signWeight := by omega
    unfold Format.word; cases neg
    · simp [Nat.div_eq_of_lt (show r < f.signWeight by omega)]
    · simp [Nat.add_div_left _ hp, Nat.div_eq_of_lt (show r < f.signWeight by omega)]
  unfold Format.read
  simp only [hmod, hdiv]
  by_cases hlt : r < f.binade
  · rw [if_pos hlt]
    have hu0 : u = 0 := by
      rcases Nat.eq_zero_or_pos u with h | h
      · exact h
      · have := Nat.le_mul_of_pos_left f.binade h; omega
    subst hu0
    simp at hr
    simp [hr]
  · rw [if_neg hlt, if_pos (by omega)]
    have hkb : f.binade ≤ kept := by
      rcases Nat.eq_zero_or_pos u with h | h
      · subst h; simp at hr; omega
      · exact hu h
    have hd : r / f.binade = u + 1 := by
      rw [← hr, Nat.add_comm, Nat.add_mul_div_right _ _ hbp]
      have : kept / f.binade = 1 := by
        apply Nat.div_eq_of_lt_le <;> omega
      omega
    have hm : r % f.binade = kept - f.binade := by
      rw [← hr, Nat.add_comm, Nat.add_mul_mod_self_right]
      rw [Nat.mod_eq_sub_mod hkb, Nat.mod_eq_of_lt (by omega)]
    rw [hd, hm]
    congr 1
    omega

end

/-- A number that the format has is written and read as itself, up to its form. -/
theorem read_write (f : Format) (neg : Bool) (mag : Nat) (place : Int) (hm : mag < 2 ^ (f.fractionBits + 1)) (hp : f.leastPlace ≤ place)
    (hfin : (place - f.leastPlace).toNat + 2 ≤ 2 ^ f.exponentBits - 1) :
    ∃ m i, f.read (f.nearest neg mag place) = .number neg m i ∧ f.leastPlace ≤ i ∧ ∀ L, L ≤ f.leastPlace → valAt L neg m i = valAt L neg mag place := by
  by_cases h0 : mag = 0
  · subst h0
    refine ⟨0, f.leastPlace, ?_, Int.le_refl _, fun L hL => by simp [valAt, signed]⟩
    have := read_word f neg 0 0 (Nat.two_pow_pos _) (by omega) (by
      have : 0 < f.binade := Nat.two_pow_pos _
      have : 0 < 2 ^ f.exponentBits - 1 := by omega
      simp only [Format.infRung, Nat.zero_mul, Nat.zero_add]
      exact Nat.mul_pos (by omega) (Nat.two_pow_pos _))
    simpa [Format.nearest] using this
  · obtain ⟨b1, b2⟩ := kept_bounds f mag place h0 hm hp _ rfl
    have hle := leastPlace_le_of f mag place hm hp h0
    generalize hlast : max (place + (mag.log2 : Int) - f.fractionBits) f.leastPlace = last at *
    generalize hkept : mag * 2 ^ (place - last).toNat = kept at *
    have hl2 : f.leastPlace ≤ last := by omega
    have hb : 2 ^ (f.fractionBits + 1) = 2 * f.binade := by rw [Nat.pow_succ]; simp [Format.binade]; omega
    have hinf : (last - f.leastPlace).toNat * f.binade + kept < f.infRung := by
      have h1 : (last - f.leastPlace).toNat + 2 ≤ 2 ^ f.exponentBits - 1 := by omega
      have h2 : ((last - f.leastPlace).toNat + 2) * f.binade ≤ f.infRung := Nat.mul_le_mul_right _ h1
      rw [Nat.add_mul] at h2
      omega
    rw [nearest_exact f neg mag place h0 hm hp last hlast.symm kept hkept.symm (by omega)]
    rw [read_word f neg _ kept b1 (fun hu => b2 (by omega)) hinf]
    refine ⟨_, _, rfl, by omega, fun L hL => ?_⟩
    rw [show f.leastPlace + ((last - f.leastPlace).toNat : Int) = last by omega]
    unfold valAt signed
    rw [← hkept]
    simp only [Nat.shiftLeft_eq]
    rw [show (place - L).toNat = (place - last).toNat + (last - L).toNat by omega, Nat.pow_add]
    simp [Int.mul_assoc]

/-! ### From single to double -/
theorem single_mag {x : Nat} (h : isFin x = true) : ∃ s m i, single.read x = .number s m i ∧ m < 2 ^ 24 ∧ (-149 : Int) ≤ i ∧ i ≤ 104 ∧ valAt (-149) s m i = fx x := by
  have hf : x % 2147483648 < 2139095040 := by simpa [isFin] using h
  have e1 : single.signWeight = 2147483648 := by decide
  have e2 : single.binade = 8388608 := by decide
  have e3 : single.infRung = 2139095040 := by decide
  have e4 : single.leastPlace = -149 := by decide
  unfold Format.read
  simp only [e1, e2, e3, e4]
  by_cases hs : x % 2147483648 < 8388608
  · rw [if_pos hs]
    refine ⟨_, _, _, rfl, by omega, by omega, by omega, ?_⟩
    simp only [valAt, signed, fx, magOf, hs, if_true]
    by_cases hb : x / 2147483648 % 2 = 1 <;> simp [hb]
  · rw [if_neg hs, if_pos hf]
    refine ⟨_, _, _, rfl, by omega, by omega, by omega, ?_⟩
    simp only [valAt, signed, fx, magOf, hs, if_false]
    rw [show (-149 + ((x % 2147483648 / 8388608 - 1 : Nat) : Int) - -149).toNat = x % 2147483648 / 8388608 - 1 by omega]
    by_cases hb : x / 2147483648 % 2 = 1 <;> simp [hb, Nat.shiftLeft_eq]

/-- The double word of a finite single word. -/
def toD (x : Nat) : Nat := double.write (single.read x)

theorem toD_read {x : Nat} (h : isFin x = true) : ∃ s m i, double.read (toD x) = .number s m i ∧ (-1074 : Int) ≤ i ∧ valAt (-1074) s m i = fx x * 2 ^ 925 := by
  obtain ⟨s, m, i, hr, hm, hi, hi2, hv⟩ := single_mag h
  have el : double.leastPlace = -1074 := by decide
  have ef : double.fractionBits = 52 := rfl
  have ee : double.exponentBits = 11 := rfl
  obtain ⟨m', i', h1, h2, h3⟩ := read_write double s m i (by rw [ef]; omega) (by rw [el]; omega) (by rw [el, ee]; omega)
  refine ⟨s, m', i', ?_, by rw [el] at h2; exact h2, ?_⟩
  · unfold toD Format.write; rw [hr]; exact h1
  · rw [h3 (-1074) (by rw [el]; omega), valAt_step (L := -1074) (L' := -149) (i := i) s m (by omega) hi, hv]
    rfl

theorem toD_order {x y : Nat} (hx : isFin x = true) (hy : isFin y = true) : double.order (toD x) (toD y) = single.order x y := by
  obtain ⟨s, m, i, h1, h2, h3⟩ := toD_read hx
  obtain ⟨t, n, j, k1, k2, k3⟩ := toD_read hy
  unfold Format.order
  rw [h1, k1, order_val (L := -1074) s t m n h2 k2, h3, k3, compare_mul]
  exact (order_fin hx hy).symm

/-! ### Classes of single words; sameness -/
theorem magOf_lt {a b : Nat} (h : a < b) : magOf a < magOf b := by
  have step : ∀ r, magOf r < magOf (r + 1) := by
    intro r
    unfold magOf
    by_cases h1 : r + 1 < 8388608
    · rw [if_pos (by omega), if_pos h1]; omega
    · rw [if_neg h1]
      by_cases h2 : r < 8388608
      · rw [if_pos h2]
        have : r = 8388607 := by omega
        subst this; decide
      · rw [if_neg h2]
        by_cases h3 : r % 8388608 = 8388607
        · have e1 : (r + 1) % 8388608 = 0 := by omega
          have e2 : (r + 1) / 8388608 - 1 = (r / 8388608 - 1) + 1 := by omega
          rw [e1, e2, h3, Nat.pow_succ]
          have hp : 0 < 2 ^ (r / 8388608 - 1) := Nat.two_pow_pos _
          omega
        · have e1 : (r + 1) % 8388608 = r % 8388608 + 1 := by omega
          have e2 : (r + 1) / 8388608 = r / 8388608 := by omega
          rw [e1, e2]
          exact Nat.mul_lt_mul_of_pos_right (by omega) (Nat.two_pow_pos _)
  induction b with
  | zero => omega
  | succ b ih =>
    rcases Nat.lt_or_ge a b with h' | h'
    · exact Nat.lt_trans (ih h') (step b)
    · have : a = b := by omega
      subst this; exact step a

theorem magOf_inj {a b : Nat} (h : magOf a = magOf b) : a = b := by
  rcases Nat.lt_trichotomy a b with h' | h' | h'
  · have := magOf_lt h'; omega
  · exact h'
  · have := magOf_lt h'; omega

theorem magOf_zero {r : Nat} (h : magOf r = 0) : r = 0 := magOf_inj (a := r) (b := 0) (by rw [h]; rfl)

theorem fx_inj {x y : Nat} (hx : x < 4294967296) (hy : y < 4294967296) (h : fx x = fx y) (hz : fx x ≠ 0) : x = y := by
  unfold fx at h hz
  split at h <;> split at h
  · have := magOf_inj (a := x % 2147483648) (b := y % 2147483648) (by omega); omega
  · omega
  · omega
  · have := magOf_inj (a := x % 2147483648) (b := y % 2147483648) (by omega); omega

theorem fx_zero {x : Nat} (hx : x < 4294967296) (h : fx x = 0) : x = 0 ∨ x = 2147483648 := by
  have : magOf (x % 2147483648) = 0 := by
    unfold fx at h; split at h <;> omega
  have := magOf_zero this
  omega

/-- A word that stands for an infinity. -/
def isInf (x : Nat) : Bool := decide (x % 2147483648 = 2139095040)
theorem read_inf {x : Nat} (h : isInf x = true) : single.read x = .infinity (x / 2147483648 % 2 == 1) := by
  have hf : x % 2147483648 = 2139095040 := by simpa [isInf] using h
  have e1 : single.signWeight = 2147483648 := by decide
  have e2 : single.binade = 8388608 := by decide
  have e3 : single.infRung = 2139095040 := by decide
  unfold Format.read
  simp only [e1, e2, e3]
  rw [if_neg (by omega), if_neg (by omega), if_pos hf]
theorem read_nan {x : Nat} (h : isFin x = false) (h' : isInf x = false) : ∃ s t, single.read x = .nan s t := by
  have hf : ¬ x % 2147483648 < 2139095040 := by simpa [isFin] using h
  have hg : ¬ x % 2147483648 = 2139095040 := by simpa [isInf] using h'
  have e1 : single.signWeight = 2147483648 := by decide
  have e2 : single.binade = 8388608 := by decide
  have e3 : single.infRung = 2139095040 := by decide
  unfold Format.read
  simp only [e1, e2, e3]
  rw [if_neg (by omega), if_neg (by omega), if_neg hg]
  exact ⟨_, _, rfl⟩

theorem order_self_fin {x : Nat} (h : isFin x = true) : single.order x x = some .eq := by
  rw [order_fin h h]; simp
theorem order_self_inf {x : Nat} (h : isInf x = true) : single.order x x = some .eq := by
  unfold Format.order; rw [read_inf h]; simp [Datum.order]
theorem order_self_nan {x : Nat} (h : isFin x = false) (h' : isInf x = false) (y : Nat) : single.order x y = none ∧ single.order y x = none := by
  obtain ⟨s, t, hr⟩ := read_nan h h'
  unfold Format.order; rw [hr]
  exact ⟨rfl, by cases single.read y <;> rfl⟩

theorem toD_fin_write {x : Nat} (h : isFin x = true) : floatToFloatBits .f32 x .f64 = some (toD x) := by
  obtain ⟨s, m, i, hr, _⟩ := single_mag h
  obtain ⟨s', m', i', h1, _⟩ := toD_read h
  unfold floatToFloatBits
  have hd : FloatKind.f32.decode x = .number s m i := hr
  rw [if_neg (by decide), hd]
  simp only
  have e : FloatKind.f64.encode (.number s m i) = toD x := by unfold toD; rw [hr]; rfl
  rw [e]
  have e2 : FloatKind.f64.decode (toD x) = .number s' m' i' := h1
  rw [e2]
  rfl
theorem toD_inf_write {x : Nat} (h : isInf x = true) : floatToFloatBits .f32 x .f64 = some (toD x) := by
  unfold floatToFloatBits
  have hd : FloatKind.f32.decode x = .infinity _ := read_inf h
  rw [if_neg (by decide), hd]
  simp only
  unfold toD; rw [read_inf h]; rfl
theorem toD_inf_read {x : Nat} (h : isInf x = true) : double.read (toD x) = .infinity (x / 2147483648 % 2 == 1) := by
  unfold toD Format.write; rw [read_inf h]
  cases (x / 2147483648 % 2 == 1) <;> decide

/-- The sameness that the laws ask of two double words. -/
def same64 (a b : Nat) : Bool :=
  if double.order a a != some .eq || double.order b b != some .eq then double.order a a != some .eq && double.order b b != some .eq
  else if double.order a 0 == some .eq && double.order b 0 == some .eq then a == b
  else double.order a b == some .eq

theorem toD_zero {x : Nat} (hx : x < 4294967296) (h : isFin x = true) (h0 : double.order (toD x) 0 = some .eq) : (x = 0 ∧ toD x = 0) ∨ (x = 2147483648 ∧ toD x = 9223372036854775808) := by
  have e : double.order (toD x) (toD 0) = some .eq := by rw [show toD 0 = 0 by decide]; exact h0
  rw [toD_order h (by decide), order_fin h (by decide)] at e
  have hz : fx x = 0 := by
    have : fx 0 = 0 := by decide
    rw [this] at e
    exact cmp_eq.1 (Option.some.inj e)
  rcases fx_zero hx hz with rfl | rfl
  · exact .inl ⟨rfl, by decide⟩
  · exact .inr ⟨rfl, by decide⟩

theorem order_inf_fin {x y : Nat} (hx : isInf x = true) (hy : isFin y = true) : single.order x y ≠ some .eq ∧ single.order y x ≠ some .eq ∧ double.order (toD x) (toD y) ≠ some .eq ∧ double.order (toD y) (toD x) ≠ some .eq := by
  obtain ⟨s, m, i, hr, _⟩ := single_mag hy
  obtain ⟨s', m', i', hr', _⟩ := toD_read hy
  unfold Format.order
  rw [read_inf hx, hr, toD_inf_read hx, hr']
  cases (x / 2147483648 % 2 == 1) <;> simp [Datum.order]
theorem inf_eq {x y : Nat} (hx : x < 4294967296) (hy : y < 4294967296) (h : isInf x = true) (h' : isInf y = true) : (double.order (toD x) (toD y) == some .eq) = (x == y) := by
  have e1 : x % 2147483648 = 2139095040 := by simpa [isInf] using h
  have e2 : y % 2147483648 = 2139095040 := by simpa [isInf] using h'
  have c1 : x = 2139095040 ∨ x = 4286578688 := by omega
  have c2 : y = 2139095040 ∨ y = 4286578688 := by omega
  rcases c1 with rfl | rfl <;> rcases c2 with rfl | rfl <;> decide

/-- Whether a word stands for a number or an infinity. -/
def isWord (x : Nat) : Bool := isFin x || isInf x
theorem order_self {x : Nat} : single.order x x = if isWord x then some .eq else none := by
  unfold isWord
  cases h : isFin x
  · cases h' : isInf x
    · simpa using (order_self_nan h h' x).1
    · simpa using order_self_inf h'
  · simpa using order_self_fin h

/-- Of words that are no NaN the laws' sameness of double words is sameness of the single ones. -/
theorem same64_word {x y : Nat} (hx : x < 4294967296) (hy : y < 4294967296) (h : isWord x = true) (h' : isWord y = true) : same64 (toD x) (toD y) = (x == y) := by
  have self : ∀ z, isWord z = true → double.order (toD z) (toD z) = some .eq := by
    intro z hz
    cases hf : isFin z
    · have hi : isInf z = true := by simpa [isWord, hf] using hz
      unfold Format.order; rw [toD_inf_read hi]; simp [Datum.order]
    · rw [toD_order hf hf]; exact order_self_fin hf
  have nozero : ∀ z, isInf z = true → double.order (toD z) 0 ≠ some .eq := by
    intro z hz
    have := (order_inf_fin (y := 0) hz (by decide)).2.2.1
    rwa [show toD 0 = 0 by decide] at this
  unfold same64
  rw [self x h, self y h']
  simp only [bne_self_eq_false, Bool.or_self, Bool.false_eq_true, if_false]
  cases hf : isFin x
  · have hi : isInf x = true := by simpa [isWord, hf] using h
    rw [if_neg (by simp [nozero x hi])]
    cases hg : isFin y
    · have hj : isInf y = true := by simpa [isWord, hg] using h'
      exact inf_eq hx hy hi hj
    · have := (order_inf_fin hi hg).2.2.1
      have hne : x ≠ y := fun e => by subst e; rw [hf] at hg; cases hg
      rw [Bool.eq_iff_iff]; simp only [beq_iff_eq]; exact ⟨fun h => absurd h this, fun h => absurd h hne⟩
  · cases hg : isFin y
    · have hj : isInf y = true := by simpa [isWord, hg] using h'
      rw [if_neg (by simp [nozero y hj])]
      have := (order_inf_fin hj hf).2.2.2
      have hne : x ≠ y := fun e => by subst e; rw [hf] at hg; cases hg
      rw [Bool.eq_iff_iff]; simp only [beq_iff_eq]; exact ⟨fun h => absurd h this, fun h => absurd h hne⟩
    · by_cases hz : double.order (toD x) 0 = some .eq ∧ double.order (toD y) 0 = some .eq
      · rw [if_pos (by simp [hz.1, hz.2])]
        rcases toD_zero hx hf hz.1 with ⟨rfl, e1⟩ | ⟨rfl, e1⟩ <;> rcases toD_zero hy hg hz.2 with ⟨rfl, e2⟩ | ⟨rfl, e2⟩ <;> simp only [e1, e2] <;> decide
      · rw [if_neg (by simpa using hz), toD_order hf hg, order_fin hf hg]
        have zero_of : ∀ z, isFin z = true → fx z = 0 → double.order (toD z) 0 = some .eq := by
          intro z hz hz0
          have : double.order (toD z) (toD 0) = some .eq := by
            rw [toD_order hz (by decide), order_fin hz (by decide), hz0]; decide
          rwa [show toD 0 = 0 by decide] at this
        rw [Bool.eq_iff_iff]
        simp only [beq_iff_eq, Option.some.injEq, cmp_eq]
        constructor
        · intro he
          by_cases h0 : fx x = 0
          · exact absurd ⟨zero_of x hf h0, zero_of y hg (by rw [← he]; exact h0)⟩ hz
          · exact fx_inj hx hy he h0
        · rintro rfl; rfl

section
variable {a b : Nat}
theorem same64_nan1 (h : (FloatKind.f64.format.order a a == some .eq) = false) : same64 a b = (FloatKind.f64.format.order b b != some .eq) := by
  have h' : (double.order a a == some .eq) = false := h
  show same64 a b = (double.order b b != some .eq)
  simp [same64, bne, h']
theorem same64_nan2 (h : (FloatKind.f64.format.order a a == some .eq) = true) (h2 : (FloatKind.f64.format.order b b == some .eq) = false) : same64 a b = false := by
  have h' : (double.order a a == some .eq) = true := h
  have h2' : (double.order b b == some .eq) = false := h2
  simp [same64, bne, h', h2']
theorem same64_zero (h : (FloatKind.f64.format.order a a == some .eq) = true) (h2 : (FloatKind.f64.format.order b b == some .eq) = true)
    (h3 : (FloatKind.f64.format.order a 0 == some .eq) = true) (h4 : (FloatKind.f64.format.order b 0 == some .eq) = true) : same64 a b = (a == b) := by
  have h' : (double.order a a == some .eq) = true := h
  have h2' : (double.order b b == some .eq) = true := h2
  have h3' : (double.order a 0 == some .eq) = true := h3
  have h4' : (double.order b 0 == some .eq) = true := h4
  simp [same64, bne, h', h2', h3', h4']
theorem same64_else (h : (FloatKind.f64.format.order a a == some .eq) = true) (h2 : (FloatKind.f64.format.order b b == some .eq) = true)
    (h3 : ((FloatKind.f64.format.order a 0 == some .eq) && (FloatKind.f64.format.order b 0 == some .eq)) = false) : same64 a b = (FloatKind.f64.format.order a b == some .eq) := by
  have h' : (double.order a a == some .eq) = true := h
  have h2' : (double.order b b == some .eq) = true := h2
  have h3' : ((double.order a 0 == some .eq) && (double.order b 0 == some .eq)) = false := h3
  show same64 a b = (double.order a b == some .eq)
  unfold same64
  rw [if_neg (by simp [bne, h', h2']), if_neg (by rw [h3']; simp)]
end

end Go.Proofs.Ytboddpifepegcaa
