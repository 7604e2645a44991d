/- Whole numbers read from texts: the reference's side. -/
import Derived.Test.YtdcjoafagalejaaDoorText
namespace Go.Proofs.YtdcjoafagalejaaDoor
set_option maxRecDepth 20000
open Go.RowKit

def bat (s : List UInt8) (k : Nat) : UInt8 := s.getD k 0
def isDig (b : UInt8) : Bool := decide (48 ≤ b.toNat) && decide (b.toNat ≤ 57)
def numK (s : List UInt8) : Nat → Nat
  | 0 => 0
  | k + 1 => numK s k * 10 + ((bat s k).toNat - 48)
def digK (s : List UInt8) (k : Nat) : Bool := (List.range k).all fun j => isDig (bat s j)
def shapeN (s : List UInt8) : Bool := decide (1 ≤ s.length) && (decide (s.length ≤ 9) && !((bat s 0).toNat == 48 && decide (1 < s.length)))
/-- The number of one to nine digits with a text. -/
def numOf (s : List UInt8) : Option Nat := if shapeN s && digK s s.length then some (numK s s.length) else none
theorem digK_succ (s : List UInt8) (k : Nat) : digK s (k + 1) = (digK s k && isDig (bat s k)) := by simp [digK, List.range_succ]
theorem numK_lt {s : List UInt8} : ∀ k, digK s k = true → numK s k < 10 ^ k
  | 0, _ => by simp [numK]
  | k + 1, h => by
    rw [digK_succ, Bool.and_eq_true] at h
    have ih := numK_lt k h.1
    have hd := h.2
    simp only [isDig, Bool.and_eq_true, decide_eq_true_eq] at hd
    rw [numK, Nat.pow_succ]; omega
theorem bat_at {s : List UInt8} {k : Nat} (h : k < s.length) (h' : k < (⟨s.toArray⟩ : ByteArray).size) : (⟨s.toArray⟩ : ByteArray)[k]'h' = bat s k := by
  unfold bat; rw [List.getD_eq_getElem?_getD, List.getElem?_eq_getElem h]; rfl
theorem digK_upto {s : List UInt8} {k : Nat} (h : isDig (bat s k) = false) : ∀ n, k < n → digK s n = false
  | 0, hk => by omega
  | n + 1, hk => by
    rw [digK_succ]
    by_cases e : k = n
    · rw [← e, h, Bool.and_false]
    · rw [digK_upto h n (by omega), Bool.false_and]
set_option maxHeartbeats 1000000 in
theorem c_l01Number_in (s : List UInt8) (h1 : 1 ≤ s.length) (h9 : s.length ≤ 9) (h0 : (bat s 0).toNat ≠ 48) (w : World) :
    Calls Tryd.prog 52 #[txt s] w fun e w' => (∃ r : Int, e = .returned (.tuple #[.int .i64 r, .bool (digK s s.length)]) ∧ (digK s s.length = true → r = (numK s s.length : Nat))) ∧ w = w' := by
  have b0 : (⟨s.toArray⟩ : ByteArray)[0]'(by show 0 < s.toArray.size; simp; omega) = bat s 0 := bat_at (by omega) _
  have h0' : ¬ (((bat s 0).toNat : Nat) : Int) = 48 := by omega
  go_enter Tryd.func52, Tryd.ntmps52
  go_wp2
  go_loopw [4, 5] (fun n i wr => ∃ k : Nat, k ≤ s.length ∧ n = .int .i64 (numK s k : Nat) ∧ i = .int .i64 k ∧ digK s k = true ∧ w = wr) (fun _ i _ => s.length - (intOf i).toNat)
  case atStart => exact ⟨0, by omega, by simp [numK], rfl, by simp [digK], rfl⟩
  case round =>
    obtain ⟨k, hk, rfl, rfl, hd, rfl⟩ := hrel
    by_cases hlt : k < s.length
    · have bk : (⟨s.toArray⟩ : ByteArray)[k]'(by show k < s.toArray.size; simp; omega) = bat s k := bat_at hlt _
      cases hD : isDig (bat s k) with
      | false =>
        have hx := digK_upto hD _ hlt
        simp only [isDig, Bool.and_eq_false_iff, decide_eq_false_iff_not] at hD
        by_cases hc : (bat s k).toNat < 48
        · have : ((bat s k).toNat : Int) < 48 := by omega
          go_wp2
          go_ret2
          rw [hx]
          exact ⟨⟨_, rfl, fun h => by cases h⟩, rfl⟩
        · have : 57 < ((bat s k).toNat : Int) := by omega
          go_wp2
          go_ret2
          rw [hx]
          exact ⟨⟨_, rfl, fun h => by cases h⟩, rfl⟩
      | true =>
        have hl := numK_lt k hd
        have hl8 : 10 ^ k ≤ 10 ^ 8 := Nat.pow_le_pow_right (by omega) (by omega)
        have hd1 : digK s (k + 1) = true := by rw [digK_succ, hd, hD]; rfl
        have hn : numK s (k + 1) = numK s k * 10 + ((bat s k).toNat - 48) := rfl
        simp only [isDig, Bool.and_eq_true, decide_eq_true_eq] at hD
        have hc1 : ¬ ((bat s k).toNat : Int) < 48 := by omega
        have hc2 : ¬ 57 < ((bat s k).toNat : Int) := by omega
        have HL := hid hl
        have HL8 := hid hl8
        have HN := hid hn
        generalize numK s k = m at *
        have HM : Hid (m < 100000000) := hid (by omega)
        clear HL HL8 hl hl8 hn
        go_wp2
        refine ⟨⟨k + 1, by omega, ?_, by simp, hd1, trivial⟩, by simp [intOf]; omega⟩
        have := HM.out
        have e : wrap64 (wrap64 ((m : Int) * 10) + (((bat s k).toNat : Int) - 48)) = ((m * 10 + ((bat s k).toNat - 48) : Nat) : Int) := by
          unfold wrap64; omega
        rw [HN.out, e]
    · obtain rfl : k = s.length := by omega
      go_wp2
      go_ret2
      rw [hd]
      exact ⟨⟨_, rfl, fun _ => rfl⟩, rfl⟩
theorem numOf_in {s : List UInt8} (h : shapeN s = true) : (numOf s).isSome = digK s s.length := by
  unfold numOf; rw [h, Bool.true_and]; split <;> simp_all
set_option maxHeartbeats 1000000 in
theorem c_l01Number_one (s : List UInt8) (h1 : s.length = 1) (h0 : (bat s 0).toNat = 48) (w : World) :
    Calls Tryd.prog 52 #[txt s] w fun e w' => e = .returned (.tuple #[.int .i64 0, .bool true]) ∧ w = w' := by
  obtain ⟨b, rfl⟩ : ∃ b, s = [b] := by match s, h1 with | [b], _ => exact ⟨b, rfl⟩
  have hb : b = 48 := by apply UInt8.toNat_inj.mp; exact h0
  subst hb
  go_enter Tryd.func52, Tryd.ntmps52
  go_wp2
  go_loopw [4, 5] (fun n i wr => ∃ k : Nat, k ≤ 1 ∧ n = .int .i64 0 ∧ i = .int .i64 k ∧ w = wr) (fun _ i _ => 1 - (intOf i).toNat)
  case atStart => exact ⟨0, by omega, rfl, rfl, rfl⟩
  case round =>
    obtain ⟨k, hk, rfl, rfl, rfl⟩ := hrel
    by_cases hlt : k < 1
    · obtain rfl : k = 0 := by omega
      go_wp2
      exact ⟨⟨1, by omega, rfl, rfl, trivial⟩, by simp [intOf]⟩
    · obtain rfl : k = 1 := by omega
      go_wp2
      go_ret2
      exact ⟨rfl, rfl⟩
theorem c_l01Number_out (s : List UInt8) (hL : s.length ≤ 1048576) (hs : s.length = 0 ∨ 9 < s.length ∨ ((bat s 0).toNat = 48 ∧ 1 < s.length)) (w : World) :
    Calls Tryd.prog 52 #[txt s] w fun e w' => e = .returned (.tuple #[.int .i64 0, .bool false]) ∧ w = w' := by
  by_cases h1 : s.length = 0
  · obtain rfl : s = [] := List.eq_nil_of_length_eq_zero h1
    go_enter Tryd.func52, Tryd.ntmps52
    go_wp2
    go_ret2
    exact ⟨rfl, rfl⟩
  · by_cases h9 : 9 < s.length
    · go_enter Tryd.func52, Tryd.ntmps52
      go_wp2
      go_ret2
      exact ⟨rfl, rfl⟩
    · have b0 : (⟨s.toArray⟩ : ByteArray)[0]'(by show 0 < s.toArray.size; simp; omega) = bat s 0 := bat_at (by omega) _
      have h0 : (bat s 0).toNat = 48 := by omega
      have h2 : 1 < s.length := by omega
      have h0' : (((bat s 0).toNat : Nat) : Int) = 48 := by omega
      go_enter Tryd.func52, Tryd.ntmps52
      go_wp2
      go_ret2
      exact ⟨rfl, rfl⟩
theorem c_l01Number (s : List UInt8) (hL : s.length ≤ 1048576) (w : World) :
    Calls Tryd.prog 52 #[txt s] w fun e w' => (∃ r : Int, e = .returned (.tuple #[.int .i64 r, .bool (numOf s).isSome]) ∧ ∀ v, numOf s = some v → r = (v : Int)) ∧ w = w' := by
  cases hs : shapeN s with
  | false =>
    have hn : numOf s = none := by unfold numOf; rw [hs]; rfl
    simp only [shapeN, Bool.and_eq_false_iff, decide_eq_false_iff_not, Bool.not_eq_false', Bool.and_eq_true, beq_iff_eq, decide_eq_true_eq] at hs
    exact (c_l01Number_out s hL (by omega) w).mono fun e w' ⟨he, hw⟩ => ⟨⟨0, by rw [he, hn]; rfl, fun v h => by rw [hn] at h; cases h⟩, hw⟩
  | true =>
    have hi := numOf_in hs
    have hv : ∀ v, numOf s = some v → digK s s.length = true ∧ v = numK s s.length := fun v h => by
      unfold numOf at h; split at h
      · rename_i h2; rw [Bool.and_eq_true] at h2; exact ⟨h2.2, (Option.some.inj h).symm⟩
      · cases h
    simp only [shapeN, Bool.and_eq_true, decide_eq_true_eq, Bool.not_eq_true', Bool.and_eq_false_iff, beq_eq_false_iff_ne, decide_eq_false_iff_not] at hs
    obtain ⟨h1, h9, h0⟩ := hs
    rw [hi]
    by_cases h48 : (bat s 0).toNat = 48
    · have h1 : s.length = 1 := by omega
      have hk : digK s s.length = true ∧ numK s s.length = 0 := by
        rw [h1]; exact ⟨by rw [digK_succ]; simp [digK, isDig, h48], by simp [numK, h48]⟩
      exact (c_l01Number_one s h1 h48 w).mono fun e w' ⟨he, hw⟩ => ⟨⟨0, by rw [he, hk.1], fun v h => by rw [(hv v h).2, hk.2]; rfl⟩, hw⟩
    · exact (c_l01Number_in s h1 h9 h48 w).mono fun e w' ⟨⟨r, he, hr⟩, hw⟩ => ⟨⟨r, he, fun v h => by rw [hr (hv v h).1, (hv v h).2]⟩, hw⟩
/-- The number, one may stand below zero. -/
def minusOf (s : List UInt8) : Option Int :=
  if 1 < s.length ∧ (bat s 0).toNat = 45 ∧ (bat s 1).toNat ≠ 48 then (numOf (s.drop 1)).map (fun v : Nat => -(v : Int)) else (numOf s).map Int.ofNat
theorem drop_txt (s : List UInt8) (k : Nat) : (⟨s.toArray⟩ : ByteArray).extract k s.length = ⟨(s.drop k).toArray⟩ := by
  apply ByteArray.ext; rw [ByteArray.data_extract]; simp [List.take_of_length_le]
theorem numOf_lt {s : List UInt8} {v : Nat} (h : numOf s = some v) : v < 1000000000 := by
  unfold numOf at h; split at h
  · rename_i h2; rw [Bool.and_eq_true] at h2
    have h3 := numK_lt _ h2.2
    have h4 := h2.1
    simp only [shapeN, Bool.and_eq_true, decide_eq_true_eq] at h4
    have h5 : 10 ^ s.length ≤ 10 ^ 9 := Nat.pow_le_pow_right (by omega) h4.2.1
    have := Option.some.inj h
    omega
  · cases h
set_option maxHeartbeats 1000000 in
theorem c_l01Minus_m (s : List UInt8) (hL : s.length ≤ 1048576) (h1 : 1 < s.length) (h2 : (bat s 0).toNat = 45) (h3 : (bat s 1).toNat ≠ 48) (w : World) :
    Calls Tryd.prog 51 #[txt s] w fun e w' => (∃ r : Int, e = .returned (.tuple #[.int .i64 r, .bool (numOf (s.drop 1)).isSome]) ∧ ∀ v, numOf (s.drop 1) = some v → r = -(v : Int)) ∧ w = w' := by
  have C : Hid (Calls Tryd.prog 52 #[.string ((⟨s.toArray⟩ : ByteArray).extract 1 s.length)] w fun e w' => (∃ r : Int, e = .returned (.tuple #[.int .i64 r, .bool (numOf (s.drop 1)).isSome]) ∧ ∀ v, numOf (s.drop 1) = some v → r = (v : Int)) ∧ w = w') := hid (by
    rw [drop_txt]; exact c_l01Number (s.drop 1) (by simp; omega) w)
  have b0 : (⟨s.toArray⟩ : ByteArray)[0]'(by show 0 < s.toArray.size; simp; omega) = bat s 0 := bat_at (by omega) _
  have b1 : (⟨s.toArray⟩ : ByteArray)[1]'(by show 1 < s.toArray.size; simp; omega) = bat s 1 := bat_at (by omega) _
  have h2' : ((bat s 0).toNat : Int) = 45 := by omega
  have h3' : ¬ ((bat s 1).toNat : Int) = 48 := by omega
  have HB := hid (fun v (h : numOf (s.drop 1) = some v) => numOf_lt h)
  generalize numOf (s.drop 1) = o at *
  go_enter Tryd.func51, Tryd.ntmps51
  go_wp2_with (go_at_call 52; refine C.out.mono ?_; rintro e w1 ⟨⟨r, rfl, hr⟩, rfl⟩; have HR := hid hr; clear hr)
  go_ret2
  refine ⟨⟨_, rfl, fun v h => ?_⟩, rfl⟩
  have h4 := HR.out v h
  have h5 := HB.out v h
  subst h4
  unfold wrap64; omega
set_option maxHeartbeats 1000000 in
theorem c_l01Minus_p (s : List UInt8) (hL : s.length ≤ 1048576) (h : ¬ (1 < s.length ∧ (bat s 0).toNat = 45 ∧ (bat s 1).toNat ≠ 48)) (w : World) :
    Calls Tryd.prog 51 #[txt s] w fun e w' => (∃ r : Int, e = .returned (.tuple #[.int .i64 r, .bool (numOf s).isSome]) ∧ ∀ v, numOf s = some v → r = (v : Int)) ∧ w = w' := by
  have C := hid (c_l01Number s hL w)
  by_cases h1 : 1 < s.length
  · have b0 : (⟨s.toArray⟩ : ByteArray)[0]'(by show 0 < s.toArray.size; simp; omega) = bat s 0 := bat_at (by omega) _
    have b1 : (⟨s.toArray⟩ : ByteArray)[1]'(by show 1 < s.toArray.size; simp; omega) = bat s 1 := bat_at (by omega) _
    by_cases h2 : (bat s 0).toNat = 45
    · have h2' : ((bat s 0).toNat : Int) = 45 := by omega
      have h3' : ((bat s 1).toNat : Int) = 48 := by omega
      generalize numOf s = o at *
      go_enter Tryd.func51, Tryd.ntmps51
      go_wp2_with (go_at_call 52; refine C.out.mono ?_; rintro e w1 ⟨⟨r, rfl, hr⟩, rfl⟩; have HR := hid hr; clear hr)
      go_ret2
      exact ⟨⟨_, rfl, HR.out⟩, rfl⟩
    · have h2' : ¬ ((bat s 0).toNat : Int) = 45 := by omega
      generalize numOf s = o at *
      go_enter Tryd.func51, Tryd.ntmps51
      go_wp2_with (go_at_call 52; refine C.out.mono ?_; rintro e w1 ⟨⟨r, rfl, hr⟩, rfl⟩; have HR := hid hr; clear hr)
      go_ret2
      exact ⟨⟨_, rfl, HR.out⟩, rfl⟩
  · generalize numOf s = o at *
    go_enter Tryd.func51, Tryd.ntmps51
    go_wp2_with (go_at_call 52; refine C.out.mono ?_; rintro e w1 ⟨⟨r, rfl, hr⟩, rfl⟩; have HR := hid hr; clear hr)
    go_ret2
    exact ⟨⟨_, rfl, HR.out⟩, rfl⟩
theorem c_l01Minus (s : List UInt8) (hL : s.length ≤ 1048576) (w : World) :
    Calls Tryd.prog 51 #[txt s] w fun e w' => (∃ r : Int, e = .returned (.tuple #[.int .i64 r, .bool (minusOf s).isSome]) ∧ ∀ v, minusOf s = some v → r = v) ∧ w = w' := by
  unfold minusOf
  split
  · rename_i h
    refine (c_l01Minus_m s hL h.1 h.2.1 h.2.2 w).mono fun e w' ⟨⟨r, he, hr⟩, hw⟩ => ⟨⟨r, by rw [he, Option.isSome_map], fun v hv => ?_⟩, hw⟩
    obtain ⟨u, hu, rfl⟩ := Option.map_eq_some_iff.mp hv
    exact hr u hu
  · rename_i h
    refine (c_l01Minus_p s hL h w).mono fun e w' ⟨⟨r, he, hr⟩, hw⟩ => ⟨⟨r, by rw [he, Option.isSome_map], fun v hv => ?_⟩, hw⟩
    obtain ⟨u, hu, rfl⟩ := Option.map_eq_some_iff.mp hv
    exact hr u hu
end Go.Proofs.YtdcjoafagalejaaDoor
