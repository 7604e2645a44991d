/- Plain laws on broken slats, dark stripes, months and facings. No program in sight. -/
import Derived.Test.YtboddpifepegcaaBroken
import Derived.Test.YtboddpifepegcaaEqFloor
import Derived.Test.YtboddpifepegcaaYearL
import Derived.Test.YtboddpifepegcaaYearF
namespace Go.Proofs.Ytboddpifepegcaa
set_option maxRecDepth 20000
open Ieee

/-! ### Sets of bits -/
def maskOf (g : Nat → Bool) : Nat → Nat
  | 0 => 0
  | k + 1 => if g k then maskOf g k ||| 2 ^ k else maskOf g k
theorem maskOf_bit (g : Nat → Bool) (j : Nat) : ∀ k, (maskOf g k).testBit j = (decide (j < k) && g j)
  | 0 => by simp [maskOf]
  | k + 1 => by
    rw [maskOf]
    by_cases hj : j = k
    · subst hj
      cases hg : g j
      · rw [if_neg (by simp), maskOf_bit g j j]; simp
      · rw [if_pos rfl, Nat.testBit_or, maskOf_bit g j j, Nat.testBit_two_pow]; simp
    · have e : decide (j < k + 1) = decide (j < k) := by rw [Bool.eq_iff_iff]; simp; omega
      rw [e]
      cases hg : g k
      · rw [if_neg (by simp), maskOf_bit g j k]
      · rw [if_pos rfl, Nat.testBit_or, maskOf_bit g j k, Nat.testBit_two_pow]
        simp [show ¬ k = j from fun e => hj e.symm]
theorem maskOf_lt (g : Nat → Bool) : ∀ k, maskOf g k < 2 ^ k
  | 0 => by simp [maskOf]
  | k + 1 => by
    have h := maskOf_lt g k
    have h1 : 2 ^ (k + 1) = 2 ^ k * 2 := Nat.pow_succ ..
    rw [maskOf]
    split
    · exact Nat.or_lt_two_pow (by omega) (by omega)
    · omega
theorem or_u32_nat (a b : Nat) (h : a ||| b < 4294967296) (ha : a < 4294967296) (hb : b < 4294967296) : bits .or .u32 (a : Int) (b : Int) = ((a ||| b : Nat) : Int) := by
  have h1 : (BitVec.ofInt 32 (a : Int)).toNat = a := by
    rw [BitVec.ofInt_natCast, BitVec.toNat_ofNat]; exact Nat.mod_eq_of_lt (by omega)
  have h2 : (BitVec.ofInt 32 (b : Int)).toNat = b := by
    rw [BitVec.ofInt_natCast, BitVec.toNat_ofNat]; exact Nat.mod_eq_of_lt (by omega)
  show IntKind.u32.wrap ((BitVec.ofInt 32 (a : Int) ||| BitVec.ofInt 32 (b : Int)).toNat : Int) = _
  rw [BitVec.toNat_or, h1, h2, IntKind.wrap_u32]
  omega
theorem or_mask {g : Nat → Bool} {k : Nat} (hk : k < 24) : bits .or .u32 (maskOf g k : Int) (2 ^ k % 4294967296) = ((maskOf g k ||| 2 ^ k : Nat) : Int) := by
  have h1 : (2 : Nat) ^ k ≤ 2 ^ 23 := Nat.pow_le_pow_right (by omega) (by omega)
  have h2 := maskOf_lt g k
  have h3 : maskOf g k ||| 2 ^ k < 2 ^ 24 := Nat.or_lt_two_pow (by omega) (by omega)
  have e : (2 : Int) ^ k % 4294967296 = ((2 ^ k : Nat) : Int) := by
    have : ((2 ^ k : Nat) : Int) = (2 : Int) ^ k := by simp
    omega
  rw [e]
  exact or_u32_nat _ _ (by omega) (by omega) (by omega)
theorem dark_mask (l : List Nat) (b : Nat) : ∀ k, k ≤ 24 → dark l b k = (maskOf (fun j => fLt (fat l j) b) k : Int)
  | 0, _ => rfl
  | k + 1, hk => by
    rw [dark, maskOf, dark_mask l b k (by omega)]
    cases fLt (fat l k) b
    · simp
    · simp only [if_true]; exact or_mask (by omega)
theorem bit_int (m k : Nat) : ((m : Int) / 2 ^ k % 2 = 1) ↔ m.testBit k = true := by
  rw [Nat.testBit_eq_decide_div_mod_eq, decide_eq_true_eq]
  have : ((m / 2 ^ k % 2 : Nat) : Int) = (m : Int) / 2 ^ k % 2 := by simp
  omega
theorem dark_bit (l : List Nat) (b : Nat) {k : Nat} (hk : k < 24) : ((dark l b 24) / 2 ^ k % 2 = 1) ↔ fLt (fat l k) b = true := by
  rw [dark_mask l b 24 (Nat.le_refl _), bit_int, maskOf_bit]
  simp [hk]
theorem dark_range (l : List Nat) (b : Nat) : 0 ≤ dark l b 24 ∧ dark l b 24 < 16777216 := by
  have := maskOf_lt (fun j => fLt (fat l j) b) 24
  rw [dark_mask l b 24 (Nat.le_refl _)]; omega
theorem brk_mask {l : List Nat} {n W H : Nat} {g : Nat → Bool} (h0 : ∀ j, j < 24 → n ≤ j → sameN (fat l j) 0 = true ∧ g j = false)
    (h1 : ∀ j, j < 24 → j < n → (sameN (fat l j) W = true ∧ g j = false) ∨ (sameN (fat l j) W = false ∧ sameN (fat l j) H = true ∧ g j = true)) : ∀ k, k ≤ 24 → brk l n W H k = some (maskOf g k : Int)
  | 0, _ => rfl
  | k + 1, hk => by
    rw [brk, brk_mask h0 h1 k (by omega)]
    show brS l n W H k _ = _
    unfold brS
    rw [maskOf]
    by_cases hn : n ≤ k
    · obtain ⟨e1, e2⟩ := h0 k (by omega) hn
      rw [if_pos hn, if_pos e1, e2]; simp
    · rw [if_neg hn]
      rcases h1 k (by omega) (by omega) with ⟨e1, e2⟩ | ⟨e1, e2, e3⟩
      · rw [if_pos e1, e2]; simp
      · rw [if_neg (by rw [e1]; simp), if_pos e2, e3, if_pos rfl, or_mask (by omega)]
/-! ### The floor behind broken slats -/
theorem isNum_fin {x : Nat} (h : isFin x = true) : isNum x = true := by
  show (single.order x x == some .eq) = true
  rw [order_self_fin h]; rfl
theorem sameN_eq {x y : Nat} (hx : isFin x = true) (hy : isFin y = true) : sameN x y = (x == y) := by
  unfold sameN; rw [isNum_fin hx, isNum_fin hy]; simp
theorem fat_set (l : List Nat) (k j x : Nat) (hk : k < l.length) : fat (l.set k x) j = if j = k then x else fat l j := by
  unfold fat
  rw [List.getD_eq_getElem?_getD, List.getD_eq_getElem?_getD, List.getElem?_set]
  by_cases h : k = j
  · subst h; simp [hk]
  · rw [if_neg h, if_neg (fun e => h e.symm)]
theorem flK_at (v : Nat → Nat) (j : Nat) : ∀ k, k ≤ 24 → fat (flK v k) j = if j < k then v j else 0
  | 0, _ => by
    rw [flK, if_neg (by omega)]
    unfold zFl fat
    rw [List.getD_eq_getElem?_getD, List.getElem?_replicate]
    split <;> rfl
  | k + 1, hk => by
    rw [flK, fat_set _ _ _ _ (by rw [flK_len]; omega), flK_at v j k (by omega)]
    by_cases h : j = k
    · subst h; rw [if_pos rfl, if_pos (by omega)]
    · rw [if_neg h]
      by_cases h2 : j < k
      · rw [if_pos h2, if_pos (by omega)]
      · rw [if_neg h2, if_neg (by omega)]
theorem flL_at {B : Bld} {h : Int} {m : Nat} (hc : flC B h m = 0) (j : Nat) : fat (flL B h m) j = if j < nS B then (if m.testBit j then hungW B h else openW B h) else 0 := by
  rw [flL, if_pos hc, flK_at _ _ _ (nS_le B)]
  by_cases hj : j < nS B
  · rw [if_pos hj, if_pos hj]
    unfold flV
    by_cases hb : m.testBit j = true
    · rw [if_pos ((bit_int m j).2 hb), if_pos hb]
    · rw [if_neg (fun e => hb ((bit_int m j).1 e)), if_neg hb]
  · rw [if_neg hj, if_neg hj]
theorem bits_high {m n : Nat} (h : (m : Int) / 2 ^ n = 0) : m < 2 ^ n := by
  have : ((m / 2 ^ n : Nat) : Int) = (m : Int) / 2 ^ n := by simp
  have h2 : m / 2 ^ n = 0 := by omega
  exact (Nat.div_eq_zero_iff_lt (Nat.two_pow_pos n)).1 h2
theorem high_bits {m n : Nat} (h : m < 2 ^ n) : (m : Int) / 2 ^ n = 0 := by
  have : ((m / 2 ^ n : Nat) : Int) = (m : Int) / 2 ^ n := by simp
  rw [← this, Nat.div_eq_of_lt h]; rfl
theorem list_fat {a b : List Nat} (ha : a.length = 24) (hb : b.length = 24) (h : ∀ j, j < 24 → fat a j = fat b j) : a = b := by
  apply List.ext_getElem
  · rw [ha, hb]
  · intro j h1 h2
    have := h j (by omega)
    simpa [fat, h1, h2] using this
/-- What is told to be broken: the bits, or nothing; in both cases it makes the floor again. -/
theorem broken_law {B : Bld} (hB : OkB B) {h : Int} (h1 : 1 ≤ h) (h2 : h ≤ 64) {m : Nat} (hm : m < 2 ^ nS B) (b0 : okB B = true) :
    ∃ m' : Nat, (m' = m ∨ m' = 0) ∧ brN B h (flL B h m) = (m' : Int) ∧ brE B h (flL B h m) = 0 ∧ flC B h m = 0 ∧ flC B h m' = 0 ∧ flL B h m' = flL B h m := by
  have r : inB h 1 64 = true := by simp [inB]; omega
  have c0 : ∀ k : Nat, k < 2 ^ nS B → flC B h k = 0 := fun k hk => by
    unfold flC flR; rw [b0, r, high_bits hk]; rfl
  have hc := c0 m hm
  have bc : brC B h = 0 := by unfold brC brR; rw [b0, r]; rfl
  have fw : isFin (openW B h) = true := (open_in hB h1 h2).fin
  have fh : isFin (hungW B h) = true := (open_in (hungB_ok hB) h1 h2).fin
  have nl := nS_le B
  have key : ∀ (g : Nat → Bool) (m' : Nat), (∀ j, m'.testBit j = (decide (j < 24) && g j)) → (∀ j, j < 24 → nS B ≤ j → g j = false) →
      (∀ j, j < 24 → j < nS B → (sameN (fat (flL B h m) j) (openW B h) = true ∧ g j = false) ∨ (sameN (fat (flL B h m) j) (openW B h) = false ∧ sameN (fat (flL B h m) j) (hungW B h) = true ∧ g j = true)) →
      brA B h (flL B h m) = some (m' : Int) := fun g m' hg h3 h4 => by
    unfold brA
    rw [brk_mask (g := g) (fun j hj hn => ⟨by rw [flL_at hc, if_neg (by omega)]; rfl, h3 j hj hn⟩) h4 24 (Nat.le_refl _)]
    congr 2
    exact Nat.eq_of_testBit_eq (fun j => by rw [maskOf_bit, hg])
  have fin : ∀ m' : Nat, brA B h (flL B h m) = some (m' : Int) → brN B h (flL B h m) = (m' : Int) ∧ brE B h (flL B h m) = 0 := fun m' e => by
    unfold brN brE; rw [if_pos bc, if_pos bc, e]; exact ⟨rfl, rfl⟩
  by_cases hs : hungW B h = openW B h
  · obtain ⟨e1, e2⟩ := fin 0 (key (fun _ => false) 0 (fun j => by simp) (fun _ _ _ => rfl) (fun j _ hn => .inl ⟨by
      rw [flL_at hc, if_pos hn, hs]
      split <;> (rw [sameN_eq fw fw]; simp), rfl⟩))
    have hc0 := c0 0 (Nat.two_pow_pos _)
    refine ⟨0, .inr rfl, e1, e2, hc, hc0, ?_⟩
    refine list_fat (flL_len _ _ _) (flL_len _ _ _) (fun j _ => ?_)
    have a0 := flL_at hc0 j
    rw [a0, flL_at hc j, hs]
    split
    · split <;> split <;> rfl
    · rfl
  · have hne : (hungW B h == openW B h) = false := by rw [beq_eq_false_iff_ne]; exact hs
    have hmb : ∀ j, nS B ≤ j → m.testBit j = false := fun j hj => Nat.testBit_lt_two_pow (Nat.lt_of_lt_of_le hm (Nat.pow_le_pow_right (by omega) hj))
    obtain ⟨e1, e2⟩ := fin m (key (fun j => m.testBit j) m (fun j => by
      by_cases hj : j < 24
      · simp [hj]
      · rw [hmb j (by omega)]; simp) (fun j _ hn => hmb j hn) (fun j _ hn => by
      rw [flL_at hc, if_pos hn]
      cases hb : m.testBit j
      · exact .inl ⟨by rw [if_neg (by simp), sameN_eq fw fw]; simp, rfl⟩
      · exact .inr ⟨by rw [if_pos rfl, sameN_eq fh fw]; exact hne, by rw [if_pos rfl, sameN_eq fh fh]; simp, rfl⟩))
    exact ⟨m, .inl rfl, e1, e2, hc, hc, rfl⟩
theorem floor_part {B : Bld} (hB : OkB B) {h : Int} (h1 : 1 ≤ h) (h2 : h ≤ 64) {m : Nat} (hc : flC B h m = 0) (j : Nat) : In0 (fat (flL B h m) j) W1 := by
  rw [flL_at hc]
  split
  · split
    · exact open_in (hungB_ok hB) h1 h2
    · exact open_in hB h1 h2
  · exact In0.zero _ (by decide)
theorem floor_past {B : Bld} {h : Int} {m : Nat} (hc : flC B h m = 0) {j : Nat} (hj : j < 24) (hs : B.sl ≤ j) : fat (flL B h m) j = 0 := by
  rw [flL_at hc, if_neg (by unfold nS; omega)]
theorem sameTo_self {l : List Nat} (h : ∀ j, isFin (fat l j) = true) (k : Nat) : sameTo l l k = true :=
  sameTo_yes (fun j _ => by rw [sameN_eq (h j) (h j)]; simp)
/-! ### The first of the greatest -/
theorem bestG_law {G : Nat → Nat} {N : Nat} (hf : ∀ i, i ≤ N → isFin (G i) = true) : ∀ k, k ≤ N → (∀ i, i ≤ k → fx (G i) ≤ fx (bestG G k).2) ∧ (∀ i, i < (bestG G k).1 → fx (G i) < fx (bestG G k).2)
  | 0, _ => ⟨fun i hi => by obtain rfl : i = 0 := by omega
                            exact Int.le_refl _, fun i hi => absurd hi (Nat.not_lt_zero _)⟩
  | k + 1, hk => by
    obtain ⟨a, b⟩ := bestG_law hf k (by omega)
    have ba := bestG_at G k
    have f1 := hf (k + 1) hk
    have f2 : isFin (bestG G k).2 = true := by rw [ba.2]; exact hf _ (by omega)
    rw [bestG_succ, fGt_fin f1 f2]
    by_cases h : fx (bestG G k).2 < fx (G (k + 1))
    · rw [if_pos (by simpa using h)]
      refine ⟨fun i hi => ?_, fun i hi => ?_⟩
      · rcases Nat.lt_or_ge i (k + 1) with h' | h'
        · have := a i (by omega); show fx (G i) ≤ fx (G (k + 1)); omega
        · obtain rfl : i = k + 1 := by omega
          exact Int.le_refl _
      · have hi' : i < k + 1 := hi
        have := a i (by omega); show fx (G i) < fx (G (k + 1)); omega
    · rw [if_neg (by simpa using h)]
      refine ⟨fun i hi => ?_, b⟩
      rcases Nat.lt_or_ge i (k + 1) with h' | h'
      · exact a i (by omega)
      · obtain rfl : i = k + 1 := by omega
        omega
end Go.Proofs.Ytboddpifepegcaa
