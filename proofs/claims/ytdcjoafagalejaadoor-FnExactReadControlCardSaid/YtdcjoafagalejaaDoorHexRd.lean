/- Numbers of 32 bits read from texts of eight hexadecimal digits: both sides' functions. -/
import Derived.Test.YtdcjoafagalejaaDoorHexR
import Derived.Test.YtdcjoafagalejaaDoorSplit
namespace Go.Proofs.YtdcjoafagalejaaDoor
set_option maxRecDepth 20000
open Go.RowKit

theorem c_ParseUint16 (s : List UInt8) (h8 : s.length = 8) (w : World) (hE : Errs w) :
    Calls Tryd.prog 77 #[txt s, .int .i64 16, .int .i64 32] w fun e w' => (((∀ k, k < 8 → hexB (bat s k) ≠ none) ∧ e = .returned (.tuple #[.int .u64 (hexV s 8 : Nat), .nilIface])) ∨ ((∃ k, k < 8 ∧ hexB (bat s k) = none) ∧ ∃ T p, e = .returned (.tuple #[.int .u64 0, .iface T (.pointer (some p))]))) ∧ Below w.heap.size w w' := by
  have C := hid (c_iParse16 s h8 w)
  have TE : Hid (∀ w2, Errs w2 → Calls Tryd.prog 95 #[.string ⟨#[80, 97, 114, 115, 101, 85, 105, 110, 116]⟩, txt s, .int .i64 16, .int .i64 32, .iface 138 (.int .i64 2)] w2 fun e w' => (∃ T p, e = .returned (.iface T (.pointer (some p)))) ∧ Below w2.heap.size w2 w') := hid (fun w2 h => by
    obtain ⟨te, pe, h3⟩ := h.1
    exact (Tryd.strconv_toError_syntax ⟨#[80, 97, 114, 115, 101, 85, 105, 110, 116]⟩ ⟨s.toArray⟩ 16 32 _ w2 (by rw [show (⟨s.toArray⟩ : ByteArray).size = s.length by simp [ByteArray.size]]; omega) h3 (.inr ⟨te, pe, rfl⟩)).mono fun e w' ⟨N, he, _, _, hb⟩ => ⟨⟨_, _, he⟩, hb⟩)
  have EE := hid hE
  clear hE
  go_enter Tryd.func77, Tryd.ntmps77
  go_wp2_with fail
  refine C.out.mono ?_
  rintro e w1 ⟨hr, h1⟩
  have D1 := hid h1
  have E1 := hid (EE.out.below h1)
  clear h1
  rcases hr with ⟨ha, rfl⟩ | ⟨hb, rfl⟩
  · have HA := hid ha
    clear ha C
    go_wp2_with fail
    go_ret2
    exact ⟨.inl ⟨HA.out, rfl⟩, D1.out⟩
  · have HB := hid hb
    clear hb C
    go_wp2_with (go_at_call 95; refine (TE.out _ E1.out).mono ?_; rintro e w2 ⟨⟨T, p, rfl⟩, h2⟩; have D2 := hid (below_trans D1.out h2 D1.out.size); clear h2)
    go_ret2
    exact ⟨.inr ⟨HB.out, _, _, rfl⟩, D2.out⟩
theorem num_no_len {s : List UInt8} (h : s.length ≠ 8) (y : Nat) : ¬ IsNum s y := fun hy => h (isNum_len hy)
set_option maxHeartbeats 1000000 in
theorem c_ReadNumber (s : List UInt8) (w : World) (hE : Errs w) (hD : D64 w) :
    Calls Tryd.prog 46 #[txt s] w fun e w' => NumRet s e ∧ Below w.heap.size w w' := by
  by_cases h8 : s.length = 8
  · have C := hid (c_ParseUint16 s h8 w hE)
    have DD := hid hD
    have hl := hexV_lt s 8
    have hV : Hid (hexV s 8 < 4294967296) := hid hl
    have FB := frombits_run (hexV s 8)
    have CT := hid (fun w2 (h : D64 w2) => c_NumText (hexV s 8) hl w2 h)
    have OF := hid (fun x h1 h2 h3 => isNum_of_text (s := s) (x := x) h1 h2 h3)
    have NT := hid (fun h => not_text (s := s) (x := hexV s 8) rfl h)
    have wc : IntKind.u32.wrap ((hexV s 8 : Nat) : Int) = ((hexV s 8 : Nat) : Int) := by rw [IntWalk.u32_in] <;> omega
    have BD : Hid ((∃ k, k < 8 ∧ hexB (bat s k) = none) → ∀ y, ¬ IsNum s y) := hid (fun ⟨k, hk, h⟩ y hy => by have := (isNum_dig hy hk).2; rw [h] at this; cases this)
    have ln : (s.length : Int) = 8 := by omega
    clear hE hD hl
    go_enter Tryd.func46, Tryd.ntmps46
    go_wp2_with fail
    refine C.out.mono ?_
    rintro e w1 ⟨hr, h1⟩
    have D1 := hid h1
    have DD1 := hid (DD.out.below h1)
    clear h1 C
    rcases hr with ⟨_, rfl⟩ | ⟨hb, T, p, rfl⟩
    · have OF2 := hid (fun h => OF.out (hexV s 8) rfl hV.out h)
      clear OF BD
      by_cases he : hex8 (canon (hexV s 8)) = s
      · have GOOD := hid (OF2.out he)
        rw [he] at CT
        clear he NT OF2 hV
        generalize hexV s 8 = x at *
        go_wp2_with (go_at_call 41; refine (CT.out _ DD1.out).mono ?_; rintro e w2 ⟨rfl, h2⟩; have D2 := hid (below_trans D1.out h2 D1.out.size); clear h2)
        go_ret2
        exact ⟨.inl ⟨_, GOOD.out, rfl⟩, D2.out⟩
      · have BAD := hid (NT.out he)
        clear NT OF2 hV
        generalize hexV s 8 = x at *
        generalize hex8 (canon x) = tx at *
        have hne : (tx == s) = false := by simpa using he
        clear he
        go_wp2_with (go_at_call 41; refine (CT.out _ DD1.out).mono ?_; rintro e w2 ⟨rfl, h2⟩; have D2 := hid (below_trans D1.out h2 D1.out.size); clear h2)
        go_ret2
        exact ⟨.inr ⟨BAD.out, rfl⟩, D2.out⟩
    · have BAD := hid (BD.out hb)
      clear NT OF BD hb wc hV FB CT
      have F0 : ∀ w, (callFunc 74 #[.int .u32 0]).run Tryd.prog w = .ok (.value (.float .f32 0)) w := frombits_run 0
      go_wp2_with fail
      go_ret2
      exact ⟨.inr ⟨BAD.out, rfl⟩, D1.out⟩
  · have BAD := hid (num_no_len h8)
    have ln : ¬ (s.length : Int) = 8 := by omega
    clear h8 hE hD
    go_enter Tryd.func46, Tryd.ntmps46
    go_wp2
    go_ret2
    exact ⟨.inr ⟨BAD.out, rfl⟩, Below.refl _ _⟩
theorem lowB_no {c : UInt8} (h : lowB c = false) : ¬ (48 ≤ c.toNat ∧ c.toNat ≤ 57) ∧ ¬ (97 ≤ c.toNat ∧ c.toNat ≤ 102) := by
  simp only [lowB, Bool.or_eq_false_iff, decide_eq_false_iff_not] at h; exact h
theorem lowB_yes {c : UInt8} (h : lowB c = true) : (48 ≤ c.toNat ∧ c.toNat ≤ 57 ∧ hexN c = c.toNat - 48) ∨ (97 ≤ c.toNat ∧ c.toNat ≤ 102 ∧ hexN c = c.toNat - 87) := by
  simp only [lowB, Bool.or_eq_true, decide_eq_true_eq] at h
  rcases h with h | h
  · exact .inl ⟨h.1, h.2, by unfold hexN hexB; rw [if_pos h]; rfl⟩
  · exact .inr ⟨h.1, h.2, by unfold hexN hexB; rw [if_neg (by omega), if_pos h]; rfl⟩
set_option maxHeartbeats 1000000 in
theorem c_l01Read (s : List UInt8) (w : World) :
    Calls Tryd.prog 44 #[txt s] w fun e w' => NumGot s e ∧ w = w' := by
  by_cases h8 : s.length = 8
  · have NO : Hid (∀ k, k < 8 → lowB (bat s k) = false → ∀ y, ¬ IsNum s y) := hid (fun k hk h y hy => absurd (isNum_dig hy hk).1 (by rw [h]; simp))
    have YE := hid (fun h h2 => isNum_of_bits (s := s) h8 h h2)
    have VA := hid (fun y (hy : IsNum s y) => isNum_val hy)
    have ln : (s.length : Int) = 8 := by omega
    have bs : ∀ k, (h : k < 8) → (⟨s.toArray⟩ : ByteArray)[k]'(by show k < s.toArray.size; simp; omega) = bat s k := fun k h => bat_at (by omega) _
    go_enter Tryd.func44, Tryd.ntmps44
    go_wp2
    go_loopw [4, 5] (fun n i wr => ∃ (k : Nat) (a : Int), k ≤ 8 ∧ n = .int .u32 a ∧ i = .int .i64 k ∧ Hid (a = (hexV s k : Nat) ∧ ∀ j, j < k → lowB (bat s j) = true) ∧ w = wr) (fun _ i _ => 8 - (intOf i).toNat)
    case atStart => exact ⟨0, 0, by omega, rfl, rfl, hid ⟨rfl, fun j hj => absurd hj (Nat.not_lt_zero j)⟩, rfl⟩
    case round =>
      obtain ⟨k, a, hk, rfl, rfl, hh, rfl⟩ := hrel
      by_cases hlt : k < 8
      · have bk := bs k hlt
        have hlt' : (k : Int) < 8 := by omega
        have hks : (k : Int) < (s.length : Int) := by omega
        clear bs
        cases hx : lowB (bat s k) with
        | false =>
          have BAD : Hid (∀ y, ¬ IsNum s y) := hid (NO.out k hlt hx)
          obtain ⟨h1, h2⟩ := lowB_no hx
          clear hx hh NO YE VA
          generalize bat s k = y at *
          by_cases g1 : (48 : Int) ≤ y.toNat
          · have g2 : ¬ (y.toNat : Int) ≤ 57 := by omega
            by_cases g3 : (97 : Int) ≤ y.toNat
            · have g4 : ¬ (y.toNat : Int) ≤ 102 := by omega
              clear h1 h2
              go_wp2
              go_ret2
              exact ⟨.inr ⟨BAD.out, _, rfl⟩, rfl⟩
            · clear h1 h2
              go_wp2
              go_ret2
              exact ⟨.inr ⟨BAD.out, _, rfl⟩, rfl⟩
          · have g3 : ¬ (97 : Int) ≤ y.toNat := by omega
            clear h1 h2
            go_wp2
            go_ret2
            exact ⟨.inr ⟨BAD.out, _, rfl⟩, rfl⟩
        | true =>
          have HH : Hid (∀ j, j < k + 1 → lowB (bat s j) = true) := hid (fun j hj => by
            by_cases e : j < k
            · exact hh.out.2 j e
            · rw [show j = k by omega]; exact hx)
          have HV : Hid (((hexV s (k + 1) : Nat) : Int) = a * 16 + (hexN (bat s k) : Nat)) := hid (by rw [hexV, hh.out.1]; push_cast; rfl)
          have hv1 := hexV_lt s (k + 1)
          have hp1 : 16 ^ (k + 1) ≤ 16 ^ 8 := Nat.pow_le_pow_right (by omega) (by omega)
          have hb8 : a * 16 + ((hexN (bat s k) : Nat) : Int) < 4294967296 := by have := HV.out; omega
          have ha0 : 0 ≤ a := by have := hh.out.1; omega
          have o := lowB_yes hx
          clear hx hh hv1 hp1 NO YE VA
          have h16 := IntWalk.u32_in (a * 16) (by omega)
          generalize hexN (bat s k) = d at *
          generalize bat s k = y at *
          rcases o with ⟨h1, h2, h3⟩ | ⟨h1, h2, h3⟩
          · have g2 : (48 : Int) ≤ y.toNat := by omega
            have g3 : (y.toNat : Int) ≤ 57 := by omega
            have g4 : IntKind.u8.wrap ((y.toNat : Int) - 48) = (y.toNat : Int) - 48 := by rw [IntWalk.u8_in] <;> omega
            have g5 : IntKind.u32.wrap ((y.toNat : Int) - 48) = (y.toNat : Int) - 48 := by rw [IntWalk.u32_in] <;> omega
            have g6 : IntKind.u32.wrap (a * 16 + ((y.toNat : Int) - 48)) = a * 16 + ((y.toNat : Int) - 48) := by rw [IntWalk.u32_in] <;> omega
            have HD : Hid ((d : Int) = (y.toNat : Int) - 48) := hid (by omega)
            clear h1 h2 h3 hb8
            go_wp2
            exact ⟨⟨k + 1, _, by omega, rfl, rfl, hid ⟨by rw [HV.out, HD.out], HH.out⟩, trivial⟩, by simp [intOf]; omega⟩
          · have g1 : (48 : Int) ≤ y.toNat := by omega
            have g2 : ¬ (y.toNat : Int) ≤ 57 := by omega
            have g3 : (97 : Int) ≤ y.toNat := by omega
            have g3b : (y.toNat : Int) ≤ 102 := by omega
            have g4 : IntKind.u8.wrap ((y.toNat : Int) - 97) = (y.toNat : Int) - 97 := by rw [IntWalk.u8_in] <;> omega
            have g5 : IntKind.u32.wrap ((y.toNat : Int) - 97) = (y.toNat : Int) - 97 := by rw [IntWalk.u32_in] <;> omega
            have g6 : IntKind.u32.wrap (a * 16 + ((y.toNat : Int) - 97)) = a * 16 + ((y.toNat : Int) - 97) := by rw [IntWalk.u32_in] <;> omega
            have g7 : IntKind.u32.wrap (a * 16 + ((y.toNat : Int) - 97) + 10) = a * 16 + ((y.toNat : Int) - 97) + 10 := by rw [IntWalk.u32_in] <;> omega
            have HD : Hid ((d : Int) = (y.toNat : Int) - 97 + 10) := hid (by omega)
            clear h1 h2 h3 hb8
            go_wp2
            exact ⟨⟨k + 1, _, by omega, rfl, rfl, hid ⟨by rw [HV.out, HD.out]; omega, HH.out⟩, trivial⟩, by simp [intOf]; omega⟩
      · obtain rfl : k = 8 := by omega
        have hA := hh.out.1
        have LO := hid hh.out.2
        clear hh
        subst hA
        have FB := frombits_run (hexV s 8)
        have CB := hid (fun w => bits_canon (hexV s 8) w)
        by_cases he : canon (hexV s 8) = hexV s 8
        · have GOOD := hid (YE.out LO.out he)
          rw [he] at CB
          clear he NO YE VA LO
          go_wp2_with (go_at_call 75; refine (CB.out _).mono ?_; rintro e w2 ⟨rfl, rfl⟩)
          go_ret2
          refine ⟨.inl ⟨_, GOOD.out, ?_⟩, rfl⟩
          simp
        · have BAD : Hid (∀ y, ¬ IsNum s y) := hid (fun y hy => he (by rw [VA.out y hy]; exact hy.2.1))
          have hne : ((canon (hexV s 8) : Nat) : Int) ≠ ((hexV s 8 : Nat) : Int) := by omega
          generalize canon (hexV s 8) = cx at *
          have hb : (((cx : Nat) : Int) == ((hexV s 8 : Nat) : Int)) = false := by rw [beq_eq_false_iff_ne]; exact hne
          clear he NO YE VA LO
          go_wp2_with (go_at_call 75; refine (CB.out _).mono ?_; rintro e w2 ⟨rfl, rfl⟩)
          go_ret2
          refine ⟨.inr ⟨BAD.out, hexV s 8, ?_⟩, rfl⟩
          simp
  · have BAD := hid (num_no_len h8)
    have ln : ¬ (s.length : Int) = 8 := by omega
    clear h8
    go_enter Tryd.func44, Tryd.ntmps44
    go_wp2
    go_ret2
    exact ⟨.inr ⟨BAD.out, _, rfl⟩, rfl⟩
end Go.Proofs.YtdcjoafagalejaaDoor
