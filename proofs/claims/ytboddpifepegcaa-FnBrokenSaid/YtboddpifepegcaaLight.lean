/- Light through blinds: the table of sines, what a blind blocks, leaves open and lets pass; that all of it is finite. No program in sight. -/
import Derived.Test.YtboddpifepegcaaDiv
namespace Go.Proofs.Ytboddpifepegcaa
set_option maxRecDepth 20000
open Ieee

/-- x is a finite word, worth from 0 to what the word A is worth. -/
structure In0 (x A : Nat) : Prop where
  word : x < 4294967296
  fin : isFin x = true
  bnd : A < 2139095040
  ge : 0 ≤ fx x
  le : fx x ≤ (magOf A : Int)
theorem In0.abs {x A : Nat} (h : In0 x A) : AbsLe x A := ⟨h.word, h.fin, h.bnd, h.le, by have := h.ge; omega⟩
theorem In0.mono {x A B : Nat} (h : In0 x A) (hAB : A ≤ B) (hB : B < 2139095040) : In0 x B := by
  have := magOf_le_iff.2 hAB
  have := h.le
  exact ⟨h.word, h.fin, hB, h.ge, by omega⟩
theorem fx_0 : fx 0 = 0 := by decide
theorem In0.zero (A : Nat) (hA : A < 2139095040) : In0 0 A := ⟨by omega, by decide, hA, by rw [fx_0]; omega, by rw [fx_0]; omega⟩
theorem In0.of_near {z b A : Nat} {V : Int} (h : Near z b V) (hA : A < 2139095040) (h0 : 0 ≤ V) (h1 : V ≤ (magOf A : Int) * 2 ^ b) : In0 z A := by
  have a := AbsLe.of_near h hA h1 (by omega)
  have g := h.ge 0 (by unfold isOrd; omega) (by rw [fx_0]; omega)
  exact ⟨a.word, a.fin, hA, by rw [fx_0] at g; exact g, a.le⟩
theorem In0.of_nearQ {z A : Nat} {X Y : Int} (h : NearQ z X Y) (hA : A < 2139095040) (hX : 0 ≤ X) (h1 : X * 2 ^ 149 ≤ (magOf A : Int) * Y) : In0 z A := by
  have hp : (0 : Int) ≤ X * 2 ^ 149 := Int.mul_nonneg hX (Int.le_of_lt (Int.pow_pos (by omega)))
  have a := AbsLe.of_nearQ h hA h1 (by omega)
  have g := h.ge 0 (by unfold isOrd; omega) (by rw [fx_0]; omega)
  exact ⟨a.word, a.fin, hA, by rw [fx_0] at g; exact g, a.le⟩
theorem In0.mul {x y A B C : Nat} (hx : In0 x A) (hy : In0 y B) (hC : C < 2139095040) (hm : magOf A * magOf B ≤ magOf C * 2 ^ 149) : In0 (fmul x y) C := by
  have a := hx.abs.mul hy.abs hC hm
  have g := (mul_fin hx.fin hy.fin).2.ge 0 (by unfold isOrd; omega) (by rw [fx_0]; have := Int.mul_nonneg hx.ge hy.ge; omega)
  exact ⟨a.word, a.fin, hC, by rw [fx_0] at g; exact g, a.le⟩
theorem In0.add {x y A B : Nat} (hx : In0 x A) (hy : In0 y B) (hC : fadd A B + 1 < 2139095040) : In0 (fadd x y) (fadd A B + 1) := by
  have a := hx.abs.add hy.abs hC
  have g := (add_fin hx.fin hy.fin).2.ge 0 (by unfold isOrd; omega) (by rw [fx_0]; have := hx.ge; have := hy.ge; omega)
  exact ⟨a.word, a.fin, hC, by rw [fx_0] at g; exact g, a.le⟩
/-- 1, 2 and 64 as words; the least length; 2 ^ -6, 2 ^ -10 and 2 ^ 17. -/
def W1 : Nat := 1065353216
def W2 : Nat := 1073741824
def W64 : Nat := 1115684864
def WL : Nat := 1031798784
def WC : Nat := 1015021568
def WD : Nat := 981467136
def WB : Nat := 1207959552
theorem mag_W1 : (magOf W1 : Int) = 2 ^ 149 := by decide +kernel
theorem fx_W1 : fx W1 = 2 ^ 149 := by decide +kernel
theorem fx_W2 : fx W2 = 2 * 2 ^ 149 := by decide +kernel
theorem In0.one_sub {x : Nat} (hx : In0 x W1) : In0 (fsub W1 x) W1 := by
  have h := (sub_fin (x := W1) (y := x) (by decide) hx.fin).2
  have hl := hx.le
  have hg := hx.ge
  rw [mag_W1] at hl
  refine .of_near h (by decide) (by rw [fx_W1]; omega) ?_
  rw [fx_W1, mag_W1]
  omega
theorem In0.half {x A : Nat} (hx : In0 x A) : In0 (fdiv x W2) A := by
  have h := (div_fin (x := x) (y := W2) hx.fin (by decide) (by rw [fx_W2]; exact Int.mul_pos (by omega) (Int.pow_pos (by omega)))).2
  refine .of_nearQ h hx.bnd hx.ge ?_
  rw [fx_W2]
  have hp : (0 : Int) ≤ 2 ^ 149 := Int.le_of_lt (Int.pow_pos (by omega))
  have h1 := Int.mul_le_mul_of_nonneg_right hx.le hp
  have h0 : (0 : Int) ≤ (magOf A : Int) * 2 ^ 149 := Int.mul_nonneg (by omega) hp
  rw [show (magOf A : Int) * (2 * 2 ^ 149) = 2 * ((magOf A : Int) * 2 ^ 149) by rw [Int.mul_left_comm]]
  omega

/-! ### Words within bounds -/
theorem fin_of_ge {x y : Nat} (h : fGe x y = true) (h' : isInf x = false) : isFin x = true := by
  cases hf : isFin x
  · exfalso
    have := (order_self_nan hf h' y).1
    simp only [fGe, Bool.or_eq_true, beq_iff_eq] at h
    have h1 : single.order x y = some .gt ∨ single.order x y = some .eq := h
    rw [this] at h1
    rcases h1 with h1 | h1 <;> cases h1
  · rfl
theorem between {x A B : Nat} (hx : x < 4294967296) (hA : A < 2139095040) (hB : B < 2139095040) (h1 : fGe x A = true) (h2 : fLe x B = true) (hi : fLe 2139095040 B = false) (hj : fGe 4286578688 A = false) : In0 x B ∧ (magOf A : Int) ≤ fx x := by
  have hinf : isInf x = false := by
    cases hi' : isInf x
    · rfl
    · have e1 : x % 2147483648 = 2139095040 := by simpa [isInf] using hi'
      have c1 : x = 2139095040 ∨ x = 4286578688 := by omega
      rcases c1 with rfl | rfl
      · rw [hi] at h2; cases h2
      · rw [hj] at h1; cases h1
  have hf := fin_of_ge h1 hinf
  have e1 : single.order x A = some (compare (fx x) (fx A)) := order_fin hf (isFin_of_lt hA)
  have e2 : single.order x B = some (compare (fx x) (fx B)) := order_fin hf (isFin_of_lt hB)
  simp only [fGe, fLe, Bool.or_eq_true, beq_iff_eq] at h1 h2
  have h1' : single.order x A = some .gt ∨ single.order x A = some .eq := h1
  have h2' : single.order x B = some .lt ∨ single.order x B = some .eq := h2
  rw [e1] at h1'
  rw [e2] at h2'
  simp only [Option.some.injEq, cmp_gt, cmp_eq, cmp_lt] at h1' h2'
  rw [fx_pos (A := A) (by omega)] at h1'
  rw [fx_pos (A := B) (by omega)] at h2'
  exact ⟨⟨hx, hf, hB, by omega, by omega⟩, by omega⟩
theorem part_in {x : Nat} (hx : x < 4294967296) (h : isPart x = true) : In0 x W1 := by
  simp only [isPart, Bool.and_eq_true] at h
  exact (between hx (A := 0) (B := W1) (by omega) (by decide) h.1 h.2 (by decide) (by decide)).1
def isLen (x : Nat) : Bool := fGe x WL && fLe x W64
theorem len_in {x : Nat} (hx : x < 4294967296) (h : isLen x = true) : In0 x W64 ∧ (magOf WL : Int) ≤ fx x := by
  simp only [isLen, Bool.and_eq_true] at h
  exact between hx (by decide) (by decide) h.1 h.2 (by decide) (by decide)
/-- Comparisons of finite words, by what they are worth. -/
theorem fLt_fin {x y : Nat} (hx : isFin x = true) (hy : isFin y = true) : fLt x y = decide (fx x < fx y) := by
  have e : single.order x y = _ := order_fin hx hy
  unfold fLt
  rw [show FloatKind.f32.format.order x y = _ from e, Bool.eq_iff_iff]
  simp [cmp_lt]
theorem fGt_fin {x y : Nat} (hx : isFin x = true) (hy : isFin y = true) : fGt x y = decide (fx y < fx x) := by
  have e : single.order x y = _ := order_fin hx hy
  unfold fGt
  rw [show FloatKind.f32.format.order x y = _ from e, Bool.eq_iff_iff]
  simp [cmp_gt]
theorem fLe_fin {x y : Nat} (hx : isFin x = true) (hy : isFin y = true) : fLe x y = decide (fx x ≤ fx y) := by
  have e : single.order x y = _ := order_fin hx hy
  unfold fLe
  rw [show FloatKind.f32.format.order x y = _ from e, Bool.eq_iff_iff]
  simp [cmp_lt]; omega
theorem fGe_fin {x y : Nat} (hx : isFin x = true) (hy : isFin y = true) : fGe x y = decide (fx y ≤ fx x) := by
  have e : single.order x y = _ := order_fin hx hy
  unfold fGe
  rw [show FloatKind.f32.format.order x y = _ from e, Bool.eq_iff_iff]
  simp [cmp_gt]; omega
theorem fEq_fin {x y : Nat} (hx : isFin x = true) (hy : isFin y = true) : fEq x y = decide (fx x = fx y) := by
  have e : single.order x y = _ := order_fin hx hy
  unfold fEq
  rw [show FloatKind.f32.format.order x y = _ from e, Bool.eq_iff_iff]
  simp
theorem fLe_gt {x y : Nat} (hx : isFin x = true) (hy : isFin y = true) : fLe x y = !fGt x y := by
  rw [fLe_fin hx hy, fGt_fin hx hy, Bool.eq_iff_iff]; simp
theorem fGe_lt {x y : Nat} (hx : isFin x = true) (hy : isFin y = true) : fGe x y = !fLt x y := by
  rw [fGe_fin hx hy, fLt_fin hx hy, Bool.eq_iff_iff]; simp

/-! ### Sines -/
def qx (n : Nat) : Nat := fdiv (floatOfInt .f32 (n : Int)) W64
def qy (n : Nat) : Nat := fmul (qx n) (qx n)
def qp (n : Nat) : Nat := fsub 1059356672 (fmul (qy n) 1033109504)
def qq (n : Nat) : Nat := fsub 1070137344 (fmul (qy n) (qp n))
def quart (n : Nat) : Nat := fmul (qx n) (qq n)
def sineN (n : Nat) : Nat := if 192 < n then fsub 0 (quart (256 - n)) else if 128 < n then fsub 0 (quart (n - 128)) else if 64 < n then quart (128 - n) else quart n
def sineI (a : Int) : Nat := sineN (a % 256).toNat
def cosI (a : Int) : Nat := sineI (a % 256 + 64)
def sizeW (x : Nat) : Nat := if fLt x 0 then fsub 0 x else x
def okIn (x A : Nat) : Bool := decide (x < 4294967296) && isFin x && decide (0 ≤ fx x) && decide (fx x ≤ (magOf A : Int))
theorem okIn_in {x A : Nat} (hA : A < 2139095040) (h : okIn x A = true) : In0 x A := by
  simp only [okIn, Bool.and_eq_true, decide_eq_true_eq] at h
  exact ⟨h.1.1.1, h.1.1.2, hA, h.1.2, h.2⟩
structure QuartFin (n : Nat) : Prop where
  a : isFin (floatOfInt .f32 (n : Int)) = true
  x : isFin (qx n) = true
  y : isFin (qy n) = true
  yc : isFin (fmul (qy n) 1033109504) = true
  p : isFin (qp n) = true
  yp : isFin (fmul (qy n) (qp n)) = true
  q : isFin (qq n) = true
  all : In0 (quart n) W1
theorem quart_tab : ((List.range 65).all fun n => isFin (floatOfInt .f32 (n : Int)) && isFin (qx n) && isFin (qy n) && isFin (fmul (qy n) 1033109504) && isFin (qp n) && isFin (fmul (qy n) (qp n)) && isFin (qq n) && okIn (quart n) W1) = true := by decide +kernel
theorem quart_fin {n : Nat} (h : n ≤ 64) : QuartFin n := by
  have t := List.all_eq_true.1 quart_tab n (List.mem_range.2 (by omega))
  simp only [Bool.and_eq_true] at t
  obtain ⟨⟨⟨⟨⟨⟨⟨t1, t2⟩, t3⟩, t4⟩, t5⟩, t6⟩, t7⟩, t8⟩ := t
  exact ⟨t1, t2, t3, t4, t5, t6, t7, okIn_in (by decide) t8⟩
/-- The word of the other sign. -/
def flip (x : Nat) : Nat := if x < 2147483648 then x + 2147483648 else x - 2147483648
theorem sub_flip {x : Nat} (hw : x < 4294967296) (hx : isFin x = true) (h : fx x < 0) : fsub 0 x = x - 2147483648 ∧ 2147483648 ≤ x ∧ fx (fsub 0 x) = -fx x := by
  have hn := (sub_fin (x := 0) (y := x) (by decide) hx).2
  rw [fx_0] at hn
  have hb : 2147483648 ≤ x := by
    rcases Nat.lt_or_ge x 2147483648 with h' | h'
    · rw [fx_pos h'] at h; omega
    · exact h'
  have hf : x % 2147483648 < 2139095040 := by simpa [isFin] using hx
  obtain ⟨y, rfl⟩ : ∃ y, x = y + 2147483648 := ⟨x - 2147483648, by omega⟩
  have hy : y < 2139095040 := by omega
  rw [fx_flip (A := y) (by omega)] at hn h ⊢
  have k1 := hn.le y (by unfold isOrd; omega) (by rw [fx_pos (A := y) (by omega)]; omega)
  have k2 := hn.ge y (by unfold isOrd; omega) (by rw [fx_pos (A := y) (by omega)]; omega)
  have e : fx (fsub 0 (y + 2147483648)) = fx y := by omega
  rw [fx_pos (A := y) (by omega)] at e
  refine ⟨?_, by omega, by rw [e]; omega⟩
  have := fx_inj hn.word (y := y) (by omega) (by rw [e, fx_pos (A := y) (by omega)]) (by rw [e]; omega)
  omega
theorem size_in {x A : Nat} (h : AbsLe x A) : In0 (sizeW x) A := by
  unfold sizeW
  rw [fLt_fin h.fin (by decide), fx_0]
  by_cases hlt : fx x < 0
  · rw [if_pos (by simpa using hlt)]
    obtain ⟨e, hb, e2⟩ := sub_flip h.word h.fin hlt
    have hw := h.word
    have hf : x % 2147483648 < 2139095040 := by simpa [isFin] using h.fin
    refine ⟨by omega, by rw [e]; exact isFin_of_lt (by omega), h.bnd, by omega, by have := h.ge; omega⟩
  · rw [if_neg (by simpa using hlt)]
    exact ⟨h.word, h.fin, h.bnd, by omega, h.le⟩
def okAbs (x A : Nat) : Bool := decide (x < 4294967296) && isFin x && decide (-(magOf A : Int) ≤ fx x) && decide (fx x ≤ (magOf A : Int))
theorem sine_tab : ((List.range 256).all fun n => okAbs (sineN n) W1) = true := by decide +kernel
theorem sineN_abs {n : Nat} (h : n < 256) : AbsLe (sineN n) W1 := by
  have t := List.all_eq_true.1 sine_tab n (List.mem_range.2 h)
  simp only [okAbs, Bool.and_eq_true, decide_eq_true_eq] at t
  exact ⟨t.1.1.1, t.1.1.2, by decide, t.2, t.1.2⟩
theorem sineI_abs (a : Int) : AbsLe (sineI a) W1 := sineN_abs (by omega)
theorem cosI_abs (a : Int) : AbsLe (cosI a) W1 := sineI_abs _
theorem cos_tab : ((List.range 65).all fun h => h == 0 || (okIn (cosI (h : Int)) W1 && (cosI (h : Int) == 0 || decide ((magOf WC : Int) ≤ fx (cosI (h : Int)))))) = true := by decide +kernel
theorem cos_up {h : Int} (h1 : 1 ≤ h) (h2 : h ≤ 64) : In0 (cosI h) W1 ∧ (cosI h = 0 ∨ (magOf WC : Int) ≤ fx (cosI h)) := by
  obtain ⟨n, rfl⟩ : ∃ n : Nat, h = (n : Int) := ⟨h.toNat, by omega⟩
  have t := List.all_eq_true.1 cos_tab n (List.mem_range.2 (by omega))
  simp only [Bool.or_eq_true, beq_iff_eq, Bool.and_eq_true, decide_eq_true_eq] at t
  rcases t with t | t
  · omega
  · exact ⟨okIn_in (by decide) t.1, t.2⟩

/-! ### Blinds -/
structure Bld where
  sl : Int
  wi : Nat
  ga : Nat
  ti : Int
  sh : Nat
structure WfB (b : Bld) : Prop where
  sl : -128 ≤ b.sl ∧ b.sl ≤ 127
  wi : b.wi < 4294967296
  ga : b.ga < 4294967296
  ti : -32768 ≤ b.ti ∧ b.ti ≤ 32767
  sh : b.sh < 4294967296
def okB (b : Bld) : Bool := inB b.sl 1 60 && (isLen b.wi && (isLen b.ga && (inB b.ti (-64) 64 && isPart b.sh)))
def minOne (x : Nat) : Nat := if fGt x W1 then W1 else x
def blockedW (b : Bld) (h : Int) : Nat := if fEq (cosI h) 0 then W1 else minOne (fdiv (fmul b.wi (sizeW (sineI (h + b.ti)))) (fmul b.ga (cosI h)))
def openW (b : Bld) (h : Int) : Nat := fsub W1 (blockedW b h)
def bounceW (b : Bld) (h : Int) : Nat := fdiv (fmul (fmul (blockedW b h) b.sh) (openW b 1)) W2
def passW (b : Bld) (h : Int) : Nat := fadd (openW b h) (bounceW b h)
def tiltB (b : Bld) (t : Int) : Bld := ⟨b.sl, b.wi, b.ga, t, b.sh⟩
structure OkB (b : Bld) : Prop where
  wf : WfB b
  sl : 1 ≤ b.sl ∧ b.sl ≤ 60
  wi : In0 b.wi W64
  ga : In0 b.ga W64
  gl : (magOf WL : Int) ≤ fx b.ga
  ti : -64 ≤ b.ti ∧ b.ti ≤ 64
  sh : In0 b.sh W1
theorem OkB.of {b : Bld} (wf : WfB b) (h : okB b = true) : OkB b := by
  simp only [okB, Bool.and_eq_true] at h
  obtain ⟨h1, h2, h3, h4, h5⟩ := h
  simp only [inB, Bool.and_eq_true, decide_eq_true_eq] at h1 h4
  exact ⟨wf, h1, (len_in wf.wi h2).1, (len_in wf.ga h3).1, (len_in wf.ga h3).2, h4, part_in wf.sh h5⟩
theorem OkB.tilt {b : Bld} (h : OkB b) {t : Int} (h1 : -64 ≤ t) (h2 : t ≤ 64) : OkB (tiltB b t) :=
  ⟨⟨h.wf.sl, h.wf.wi, h.wf.ga, by simp only [tiltB]; omega, h.wf.sh⟩, h.sl, h.wi, h.ga, h.gl, ⟨h1, h2⟩, h.sh⟩
theorem In0.one_le {x : Nat} (h : isFin x = true) (hw : x < 4294967296) (h0 : 0 ≤ fx x) : In0 (minOne x) W1 := by
  unfold minOne
  rw [fGt_fin h (by decide)]
  by_cases hg : fx W1 < fx x
  · rw [if_pos (by simpa using hg)]
    exact ⟨by decide, by decide, by decide, by rw [fx_W1]; exact Int.le_of_lt (Int.pow_pos (by omega)), by rw [fx_W1, mag_W1]; omega⟩
  · rw [if_neg (by simpa using hg)]
    exact ⟨hw, h, by decide, h0, by rw [fx_W1] at hg; rw [mag_W1]; omega⟩
structure BlkFin (b : Bld) (h : Int) : Prop where
  s : In0 (sizeW (sineI (h + b.ti))) W1
  c : In0 (cosI h) W1
  num : In0 (fmul b.wi (sizeW (sineI (h + b.ti)))) W64
  den : fEq (cosI h) 0 = false → In0 (fmul b.ga (cosI h)) W64 ∧ 0 < fx (fmul b.ga (cosI h)) ∧ In0 (fdiv (fmul b.wi (sizeW (sineI (h + b.ti)))) (fmul b.ga (cosI h))) WB
  blk : In0 (blockedW b h) W1
theorem blk_fin {b : Bld} (hb : OkB b) {h : Int} (h1 : 1 ≤ h) (h2 : h ≤ 64) : BlkFin b h := by
  have hs := size_in (sineI_abs (h + b.ti))
  obtain ⟨hc, hc2⟩ := cos_up h1 h2
  have hn := hb.wi.mul hs (C := W64) (by decide) (by decide +kernel)
  have hd : fEq (cosI h) 0 = false → In0 (fmul b.ga (cosI h)) W64 ∧ 0 < fx (fmul b.ga (cosI h)) ∧ In0 (fdiv (fmul b.wi (sizeW (sineI (h + b.ti)))) (fmul b.ga (cosI h))) WB := by
    intro h0
    have hc3 : (magOf WC : Int) ≤ fx (cosI h) := by
      rcases hc2 with e | e
      · rw [e] at h0; exact absurd h0 (by decide)
      · exact e
    have k1 := hb.ga.mul hc (C := W64) (by decide) (by decide +kernel)
    have hlow : (magOf WD : Int) ≤ fx (fmul b.ga (cosI h)) := by
      have g := (mul_fin hb.ga.fin hc.fin).2.ge WD (by unfold isOrd; decide) (by
        have m1 := Int.mul_le_mul hb.gl hc3 (by omega) hb.ga.ge
        have m2 : fx WD * 2 ^ 149 ≤ (magOf WL : Int) * (magOf WC : Int) := by decide +kernel
        omega)
      rwa [fx_pos (A := WD) (by decide)] at g
    have hpos : 0 < fx (fmul b.ga (cosI h)) := by
      have : (0 : Int) < (magOf WD : Int) := by decide +kernel
      omega
    refine ⟨k1, hpos, .of_nearQ (div_fin hn.fin k1.fin hpos).2 (by decide) hn.ge ?_⟩
    have m1 : fx (fmul b.wi (sizeW (sineI (h + b.ti)))) * 2 ^ 149 ≤ (magOf W64 : Int) * 2 ^ 149 := Int.mul_le_mul_of_nonneg_right hn.le (Int.le_of_lt (Int.pow_pos (by omega)))
    have m2 : (magOf WB : Int) * (magOf WD : Int) ≤ (magOf WB : Int) * fx (fmul b.ga (cosI h)) := Int.mul_le_mul_of_nonneg_left hlow (by omega)
    have m3 : (magOf W64 : Int) * 2 ^ 149 ≤ (magOf WB : Int) * (magOf WD : Int) := by decide +kernel
    omega
  refine ⟨hs, hc, hn, hd, ?_⟩
  unfold blockedW
  cases h0 : fEq (cosI h) 0
  · rw [if_neg (by simp)]
    obtain ⟨_, _, k⟩ := hd h0
    exact .one_le k.fin k.word k.ge
  · rw [if_pos rfl]
    exact ⟨by decide, by decide, by decide, by rw [fx_W1]; exact Int.le_of_lt (Int.pow_pos (by omega)), by rw [fx_W1, mag_W1]; omega⟩
def WP : Nat := fadd W1 W1 + 1
theorem open_in {b : Bld} (hb : OkB b) {h : Int} (h1 : 1 ≤ h) (h2 : h ≤ 64) : In0 (openW b h) W1 := (blk_fin hb h1 h2).blk.one_sub
structure PassFin (b : Bld) (h : Int) : Prop where
  bs : In0 (fmul (blockedW b h) b.sh) W1
  bo : In0 (fmul (fmul (blockedW b h) b.sh) (openW b 1)) W1
  bn : In0 (bounceW b h) W1
  all : In0 (passW b h) WP
theorem pass_fin {b : Bld} (hb : OkB b) {h : Int} (h1 : 1 ≤ h) (h2 : h ≤ 64) : PassFin b h := by
  have k1 := (blk_fin hb h1 h2).blk.mul hb.sh (C := W1) (by decide) (by decide +kernel)
  have k2 := k1.mul (open_in hb (h := 1) (by omega) (by omega)) (C := W1) (by decide) (by decide +kernel)
  have k3 : In0 (bounceW b h) W1 := k2.half
  exact ⟨k1, k2, k3, (open_in hb h1 h2).add k3 (by decide +kernel)⟩

/-! ### Suns -/
def okS (hs ts : List Int) : Bool := (List.range 24).all fun k => inB (iat hs k) (-64) 64 && inB (iat ts k) 0 255
theorem okS_at {hs ts : List Int} (h : okS hs ts = true) {k : Nat} (hk : k < 24) : -64 ≤ iat hs k ∧ iat hs k ≤ 64 ∧ 0 ≤ iat ts k ∧ iat ts k ≤ 255 := by
  have t := List.all_eq_true.1 h k (List.mem_range.2 hk)
  simp only [inB, Bool.and_eq_true, decide_eq_true_eq] at t
  omega
theorem okS_yes {hs ts : List Int} (h : ∀ k, k < 24 → inB (iat hs k) (-64) 64 = true ∧ inB (iat ts k) 0 255 = true) : okS hs ts = true := by
  simp only [okS, List.all_eq_true, List.mem_range, Bool.and_eq_true]; exact h
theorem okS_no {hs ts : List Int} {k : Nat} (hk : k < 24) (h : (inB (iat hs k) (-64) 64 && inB (iat ts k) 0 255) = false) : okS hs ts = false := by
  simp only [okS, List.all_eq_false, List.mem_range]; exact ⟨k, hk, by simp [h]⟩
def pos0 (x : Nat) : Nat := if fGt x 0 then x else 0
def fallW (hs ts : List Int) (k : Nat) (f : Int) : Nat := if iat hs k ≤ 0 then 0 else pos0 (fmul (cosI (iat hs k)) (cosI (iat ts k - f)))
def windowW (b : Bld) (hs ts : List Int) (k : Nat) (f : Int) : Nat := if iat hs k ≤ 0 then 0 else fmul (fallW hs ts k f) (passW b (iat hs k))
theorem prod_abs (a c : Int) : AbsLe (fmul (cosI a) (cosI c)) W1 := (cosI_abs a).mul (cosI_abs c) (by decide) (by decide +kernel)
theorem pos0_in {x A : Nat} (h : AbsLe x A) : In0 (pos0 x) A := by
  unfold pos0
  rw [fGt_fin h.fin (by decide), fx_0]
  by_cases hg : 0 < fx x
  · rw [if_pos (by simpa using hg)]; exact ⟨h.word, h.fin, h.bnd, by omega, h.le⟩
  · rw [if_neg (by simpa using hg)]; exact .zero A h.bnd
theorem fall_in (hs ts : List Int) (k : Nat) (f : Int) : In0 (fallW hs ts k f) W1 := by
  unfold fallW
  split
  · exact .zero _ (by decide)
  · exact pos0_in (prod_abs _ _)
theorem window_in {b : Bld} (hb : OkB b) (hs ts : List Int) {k : Nat} (f : Int) (h : iat hs k ≤ 64) : In0 (windowW b hs ts k f) WP := by
  unfold windowW
  split
  · exact .zero _ (by decide)
  · exact (fall_in hs ts k f).mul (pass_fin hb (by omega) h).all (by decide) (by decide +kernel)
end Go.Proofs.Ytboddpifepegcaa
