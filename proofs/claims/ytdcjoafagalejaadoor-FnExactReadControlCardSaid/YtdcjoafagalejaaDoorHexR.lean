/- Numbers of 32 bits read from texts of eight hexadecimal digits: both sides. -/
import Derived.Test.YtdcjoafagalejaaDoorHexS
import Derived.Test.YtdcjoafagalejaaDoorShelfE
import Derived.Test.YtdcjoafagalejaaDoorNum
import Derived.Test.YtdcjoafagalejaaDoorWhole
namespace Go.Proofs.YtdcjoafagalejaaDoor
set_option maxRecDepth 20000
open Go.RowKit

/-! ### Plain -/
def hexB (c : UInt8) : Option Nat := if 48 ≤ c.toNat ∧ c.toNat ≤ 57 then some (c.toNat - 48) else if 97 ≤ c.toNat ∧ c.toNat ≤ 102 then some (c.toNat - 87) else if 65 ≤ c.toNat ∧ c.toNat ≤ 70 then some (c.toNat - 55) else none
def hexN (c : UInt8) : Nat := (hexB c).getD 0
/-- The number that the first digits make. -/
def hexV (s : List UInt8) : Nat → Nat
  | 0 => 0
  | k + 1 => hexV s k * 16 + hexN (bat s k)
def canon (x : Nat) : Nat := if isWord x then x else 2143289344
def IsNum (s : List UInt8) (y : Nat) : Prop := y < 4294967296 ∧ canon y = y ∧ s = hex8 y
/-- A digit as the reference takes it. -/
def lowB (c : UInt8) : Bool := decide (48 ≤ c.toNat ∧ c.toNat ≤ 57) || decide (97 ≤ c.toNat ∧ c.toNat ≤ 102)
theorem hexN_lt (c : UInt8) : hexN c < 16 := by
  unfold hexN hexB
  split
  · simp; omega
  · split
    · simp; omega
    · split
      · simp; omega
      · simp
theorem hexV_lt (s : List UInt8) : ∀ k, hexV s k < 16 ^ k
  | 0 => by simp [hexV]
  | k + 1 => by
    have := hexV_lt s k
    have h2 := hexN_lt (bat s k)
    rw [hexV, Nat.pow_succ]; omega
theorem hexd_low : ∀ d : Nat, d < 16 → lowB (hexd d) = true ∧ hexB (hexd d) = some d := by
  intro d hd
  have h16 : d = 0 ∨ d = 1 ∨ d = 2 ∨ d = 3 ∨ d = 4 ∨ d = 5 ∨ d = 6 ∨ d = 7 ∨ d = 8 ∨ d = 9 ∨ d = 10 ∨ d = 11 ∨ d = 12 ∨ d = 13 ∨ d = 14 ∨ d = 15 := by omega
  rcases h16 with rfl | rfl | rfl | rfl | rfl | rfl | rfl | rfl | rfl | rfl | rfl | rfl | rfl | rfl | rfl | rfl <;> exact ⟨rfl, rfl⟩
theorem byte_all (p : UInt8 → Bool) (h : (List.range 256).all (fun n => p (UInt8.ofNat n)) = true) (c : UInt8) : p c = true := by
  have := List.all_eq_true.1 h c.toNat (List.mem_range.2 c.toNat_lt)
  rwa [UInt8.ofNat_toNat] at this
theorem low_hexd (c : UInt8) (h : lowB c = true) : hexd (hexN c) = c := by
  have := byte_all (fun c => !(lowB c) || hexd (hexN c) == c) (by decide +kernel) c
  simpa [h] using this
theorem hex8_bat {x k : Nat} (hk : k < 8) : bat (hex8 x) k = hexAt x (7 - k) := by
  unfold bat hex8 hexL
  rw [List.getD_eq_getElem?_getD, List.getElem?_map, List.getElem?_range hk]; rfl
theorem hex8_low {x k : Nat} (hk : k < 8) : lowB (bat (hex8 x) k) = true ∧ hexB (bat (hex8 x) k) = some (x / 16 ^ (7 - k) % 16) := by
  rw [hex8_bat hk]; exact hexd_low _ (Nat.mod_lt _ (by omega))
theorem hexV_hex8 {x : Nat} (hx : x < 4294967296) : ∀ k, k ≤ 8 → hexV (hex8 x) k = x / 16 ^ (8 - k)
  | 0, _ => by rw [hexV, Nat.div_eq_of_lt]; simpa using hx
  | k + 1, hk => by
    rw [hexV, hexV_hex8 hx k (by omega), hexN, (hex8_low (x := x) (show k < 8 by omega)).2, Option.getD_some, show 8 - k = 7 - k + 1 by omega, hex_step, show 8 - (k + 1) = 7 - k by omega]
    omega
theorem hexV_of {x : Nat} (hx : x < 4294967296) : hexV (hex8 x) 8 = x := by rw [hexV_hex8 hx 8 (by omega)]; simp
theorem hexV_div (s : List UInt8) (k : Nat) : ∀ m, hexV s (k + m) / 16 ^ m = hexV s k
  | 0 => by simp
  | m + 1 => by
    have := hexN_lt (bat s (k + m))
    rw [show k + (m + 1) = k + m + 1 by omega, hexV, Nat.pow_succ, Nat.mul_comm (16 ^ m) 16, ← Nat.div_div_eq_div_mul, show (hexV s (k + m) * 16 + hexN (bat s (k + m))) / 16 = hexV s (k + m) by omega, hexV_div s k m]
theorem hex8_hexV {s : List UInt8} (h8 : s.length = 8) (hl : ∀ k, k < 8 → lowB (bat s k) = true) : hex8 (hexV s 8) = s := by
  apply List.ext_getElem
  · rw [h8]; exact hexL_len _ _
  · intro k h1 h2
    have hk : k < 8 := by omega
    have a : (hex8 (hexV s 8))[k] = bat (hex8 (hexV s 8)) k := by unfold bat; rw [List.getD_eq_getElem?_getD, List.getElem?_eq_getElem h1]; rfl
    have b : s[k] = bat s k := by unfold bat; rw [List.getD_eq_getElem?_getD, List.getElem?_eq_getElem h2]; rfl
    have d := hexV_div s (k + 1) (7 - k)
    rw [show k + 1 + (7 - k) = 8 by omega] at d
    have := hexN_lt (bat s k)
    refine a.trans (Eq.trans ?_ b.symm)
    rw [hex8_bat hk]
    unfold hexAt
    rw [d, hexV, show (hexV s k * 16 + hexN (bat s k)) % 16 = hexN (bat s k) by omega, low_hexd _ (hl k hk)]
theorem isNum_len {s : List UInt8} {y : Nat} (h : IsNum s y) : s.length = 8 := by rw [h.2.2]; exact hexL_len _ _
theorem isNum_val {s : List UInt8} {y : Nat} (h : IsNum s y) : hexV s 8 = y := by rw [h.2.2]; exact hexV_of h.1
theorem isNum_dig {s : List UInt8} {y : Nat} (h : IsNum s y) {k : Nat} (hk : k < 8) : lowB (bat s k) = true ∧ (hexB (bat s k)).isSome = true := by
  rw [h.2.2]; have := hex8_low (x := y) hk
  exact ⟨this.1, by rw [this.2]; rfl⟩
theorem isNum_one {s : List UInt8} {y z : Nat} (h : IsNum s y) (h2 : IsNum s z) : y = z := by rw [← isNum_val h, isNum_val h2]
theorem canon_lt {x : Nat} (h : x < 4294967296) : canon x < 4294967296 := by unfold canon; split <;> omega
/-- The program's test: the text of the number is the text. -/
theorem isNum_of_text {s : List UInt8} {x : Nat} (hx : x = hexV s 8) (hl : x < 4294967296) (h : hex8 (canon x) = s) : IsNum s x := by
  have h1 := hexV_of (canon_lt hl)
  rw [h, ← hx] at h1
  exact ⟨hl, h1.symm, by rw [← h, ← h1]⟩
theorem not_text {s : List UInt8} {x : Nat} (hx : x = hexV s 8) (h : hex8 (canon x) ≠ s) (y : Nat) : ¬ IsNum s y := fun hy => h (by
  have := isNum_val hy
  rw [hx, this, hy.2.1]; exact hy.2.2.symm)
/-- The reference's test: the number is of its kind. -/
theorem isNum_of_bits {s : List UInt8} (h8 : s.length = 8) (hl : ∀ k, k < 8 → lowB (bat s k) = true) (h : canon (hexV s 8) = hexV s 8) : IsNum s (hexV s 8) :=
  ⟨by have := hexV_lt s 8; omega, h, (hex8_hexV h8 hl).symm⟩
def NumRet (s : List UInt8) (e : Ending) : Prop := (∃ y, IsNum s y ∧ e = .returned (.tuple #[.float .f32 y, .int .i64 0])) ∨ ((∀ y, ¬ IsNum s y) ∧ e = .returned (.tuple #[.float .f32 0, .int .i64 5]))
def NumGot (s : List UInt8) (e : Ending) : Prop := (∃ y, IsNum s y ∧ e = .returned (.tuple #[.float .f32 y, .bool true])) ∨ ((∀ y, ¬ IsNum s y) ∧ ∃ a, e = .returned (.tuple #[.float .f32 a, .bool false]))
theorem bits_canon (x : Nat) (w : World) :
    Calls Tryd.prog 75 #[.float .f32 x] w fun e w' => e = .returned (.int .u32 (canon x : Nat)) ∧ w = w' := by
  have hb := bits_run x
  cases hw : isWord x with
  | true =>
    have hs : FloatKind.f32.format.order x x = some .eq := by have := order_self (x := x); rw [hw] at this; exact this
    have C : canon x = x := by unfold canon; rw [if_pos hw]
    rw [C]
    clear hw C
    go_enter Tryd.func75, Tryd.ntmps75
    go_wp2
    go_ret
    exact ⟨rfl, rfl⟩
  | false =>
    have hs : FloatKind.f32.format.order x x = none := by have := order_self (x := x); rw [hw, if_neg (by simp)] at this; exact this
    have C : canon x = 2143289344 := by unfold canon; rw [if_neg (by rw [hw]; simp)]
    rw [C]
    clear hw C
    go_enter Tryd.func75, Tryd.ntmps75
    go_wp2
    go_ret
    exact ⟨rfl, rfl⟩
theorem frombits_run (x : Nat) (w : World) : (callFunc 74 #[.int .u32 (x : Int)]).run Tryd.prog w = .ok (.value (.float .f32 x)) w := by
  kernel_rfl
set_option maxHeartbeats 1000000 in
theorem c_NumText (x : Nat) (hx : x < 4294967296) (w : World) (h : D64 w) :
    Calls Tryd.prog 41 #[.float .f32 x] w fun e w' => e = .returned (txt (hex8 (canon x))) ∧ Below w.heap.size w w' := by
  cases hw : isWord x with
  | true =>
    have hs : FloatKind.f32.format.order x x = some .eq := by have := order_self (x := x); rw [hw] at this; exact this
    have hb := bits_run x
    have CX : canon x = x := by unfold canon; rw [if_pos hw]
    have C := hid (c_FormatUint16 x hx w h)
    rw [CX]
    clear h hw CX
    go_enter Tryd.func41, Tryd.ntmps41
    go_wp2_with fail
    refine C.out.mono ?_
    rintro e w1 ⟨⟨n, h1, h2, h3, rfl⟩, hb1⟩
    have N3 := hid h3
    have B1 := hid hb1
    have hl := hexL_len x n
    have hc : (8 : Int) - (n : Int) = ((8 - n : Nat) : Int) := by omega
    have hk : ¬ (9223372036854775807 < 8 - n + n) := by omega
    clear hb1 h3
    go_wp2_with fail
    refine (c_Repeat48 (8 - n) (by omega) _).mono ?_
    rintro e w2 ⟨rfl, hb2⟩
    have B2 := hid (below_trans B1.out hb2 B1.out.size)
    clear hb2
    go_wp2_with fail
    go_ret
    exact ⟨by rw [← hex8_of N3.out h2]; exact ret_cat _ _, B2.out⟩
  | false =>
    have hs : FloatKind.f32.format.order x x = none := by have := order_self (x := x); rw [hw, if_neg (by simp)] at this; exact this
    have hb := bits_run x
    have CX : canon x = 2143289344 := by unfold canon; rw [if_neg (by rw [hw]; simp)]
    have C : Hid (Calls Tryd.prog 72 #[.int .u64 2143289344, .int .i64 16] w fun e w' => (∃ n, 1 ≤ n ∧ n ≤ 8 ∧ 2143289344 < 16 ^ n ∧ e = .returned (txt (hexL 2143289344 n))) ∧ Below w.heap.size w w') := hid (c_FormatUint16 2143289344 (by omega) w h)
    rw [CX]
    clear h hw CX
    go_enter Tryd.func41, Tryd.ntmps41
    go_wp2_with fail
    refine C.out.mono ?_
    rintro e w1 ⟨⟨n, h1, h2, h3, rfl⟩, hb1⟩
    have N3 := hid h3
    have B1 := hid hb1
    have hl := hexL_len 2143289344 n
    have hc : (8 : Int) - (n : Int) = ((8 - n : Nat) : Int) := by omega
    have hk : ¬ (9223372036854775807 < 8 - n + n) := by omega
    clear hb1 h3
    go_wp2_with fail
    refine (c_Repeat48 (8 - n) (by omega) _).mono ?_
    rintro e w2 ⟨rfl, hb2⟩
    have B2 := hid (below_trans B1.out hb2 B1.out.size)
    clear hb2
    go_wp2_with fail
    go_ret
    exact ⟨by rw [← hex8_of N3.out h2]; exact ret_cat _ _, B2.out⟩
theorem or32 (c : UInt8) : bits .or .u8 (c.toNat : Int) 32 = ((c.toNat ||| 32 : Nat) : Int) := by
  have := byte_all (fun c => decide (bits .or .u8 (c.toNat : Int) 32 = ((c.toNat ||| 32 : Nat) : Int))) (by decide +kernel) c
  simpa using this
theorem or_none (c : UInt8) (h : hexB c = none) : (c.toNat < 48 ∨ 57 < c.toNat) ∧ (c.toNat ||| 32 < 97 ∨ 122 < c.toNat ||| 32 ∨ 103 ≤ c.toNat ||| 32) := by
  have := byte_all (fun c => !(hexB c).isNone || decide ((c.toNat < 48 ∨ 57 < c.toNat) ∧ (c.toNat ||| 32 < 97 ∨ 122 < c.toNat ||| 32 ∨ 103 ≤ c.toNat ||| 32))) (by decide +kernel) c
  simpa [h] using this
theorem or_some (c : UInt8) (h : hexB c ≠ none) : (48 ≤ c.toNat ∧ c.toNat ≤ 57 ∧ hexN c = c.toNat - 48) ∨ ((57 < c.toNat ∧ 97 ≤ c.toNat ||| 32 ∧ c.toNat ||| 32 ≤ 102 ∧ hexN c = (c.toNat ||| 32) - 87) ∧ c.toNat ≠ 95) := by
  have := byte_all (fun c => (hexB c).isNone || decide ((48 ≤ c.toNat ∧ c.toNat ≤ 57 ∧ hexN c = c.toNat - 48) ∨ ((57 < c.toNat ∧ 97 ≤ c.toNat ||| 32 ∧ c.toNat ||| 32 ≤ 102 ∧ hexN c = (c.toNat ||| 32) - 87) ∧ c.toNat ≠ 95))) (by decide +kernel) c
  rw [Bool.or_eq_true] at this
  rcases this with h1 | h1
  · exact absurd (Option.isNone_iff_eq_none.1 h1) h
  · exact of_decide_eq_true h1
set_option maxHeartbeats 4000000 in
theorem c_iParse16 (s : List UInt8) (h8 : s.length = 8) (w : World) :
    Calls Tryd.prog 94 #[txt s, .int .i64 16, .int .i64 32] w fun e w' => (((∀ k, k < 8 → hexB (bat s k) ≠ none) ∧ e = .returned (.tuple #[.int .u64 (hexV s 8 : Nat), .nilIface])) ∨ ((∃ k, k < 8 ∧ hexB (bat s k) = none) ∧ e = .returned (.tuple #[.int .u64 0, .iface 138 (.int .i64 2)]))) ∧ Below w.heap.size w w' := by
  have e1 : (⟨s.toArray⟩ : ByteArray).data.toList = s := by simp
  have e2 : (⟨s.toArray⟩ : ByteArray).size = s.length := by simp [ByteArray.size]
  have hcv := Lib.run_convert_string_bytes (P := Tryd.prog) w 9 89 5 ⟨s.toArray⟩ (u := .string) Tryd.underlying9 Tryd.underlying89 Tryd.underlying5
  have hB : ∀ j, j < 8 → (Lib.bytesWorld w 5 ⟨s.toArray⟩).cell? ⟨w.heap.size, j, none⟩ = some (.int .u8 ((bat s j).toNat : Int)) := fun j hj => by
    have := Lib.bytesWorld_cell w 5 ⟨s.toArray⟩ j (by rw [e2]; omega)
    rw [e1] at this; exact this
  have BW := hid (Lib.bytesWorld_below w 5 ⟨s.toArray⟩)
  rw [e2, h8] at hcv
  obtain ⟨W1, hW1⟩ : ∃ W1, W1 = Lib.bytesWorld w 5 ⟨s.toArray⟩ := ⟨_, rfl⟩
  rw [← hW1] at hcv hB BW
  have HB := hid hB
  clear hW1 e1 e2 hB
  have hmv : IntKind.u64.wrap 4294967296 = 4294967296 := by decide
  have hmv2 : IntKind.u64.wrap 4294967295 = 4294967295 := by decide
  have hemp : (s == []) = false := by cases s with | nil => cases h8 | cons _ _ => rfl
  go_enter Tryd.func94, Tryd.ntmps94
  go_wp2
  go_loopw [12, 13, 101] (fun u n i wr => ∃ (k : Nat) (a : Int), k ≤ 8 ∧ u = .bool false ∧ n = .int .u64 a ∧ i = .int .i64 k ∧ Hid (a = (hexV s k : Nat) ∧ ∀ j, j < k → hexB (bat s j) ≠ none) ∧ W1 = wr) (fun _ _ i _ => 8 - (intOf i).toNat)
  case atStart => exact ⟨0, 0, by omega, rfl, rfl, rfl, hid ⟨rfl, fun j hj => absurd hj (Nat.not_lt_zero j)⟩, rfl⟩
  case round =>
    obtain ⟨k, a, hk, rfl, rfl, rfl, hh, rfl⟩ := hrel
    by_cases hlt : k < 8
    · have hc := HB.out k hlt
      have hlt' : (k : Int) < 8 := by omega
      have hv := hexV_lt s k
      have hp : 16 ^ k ≤ 16 ^ 7 := Nat.pow_le_pow_right (by omega) (by omega)
      have ha0 : 0 ≤ a := by have := hh.out.1; omega
      have ha1 : a < 268435456 := by have := hh.out.1; omega
      have ha2 : ¬ 1152921504606846976 ≤ a := by omega
      have ha3 : IntKind.u64.wrap (a * 16) = a * 16 := by rw [IntWalk.u64_in] <;> omega
      clear hv hp
      have hL := or32 (bat s k)
      have CL := hid (fun w => Tryd.internal_strconv_lower ((bat s k).toNat : Int) w)
      rw [hL] at CL
      cases hx : hexB (bat s k) with
      | none =>
        have BAD : Hid (∃ k, k < 8 ∧ hexB (bat s k) = none) := hid ⟨k, hlt, hx⟩
        obtain ⟨h1, h2⟩ := or_none _ hx
        by_cases h95 : (bat s k).toNat = 95
        · rw [h95] at hc
          have CL2 : Hid (∀ w, Calls Tryd.prog 110 #[.int .u8 95] w fun e w' => e = .returned (.int .u8 127) ∧ w' = w) := hid (fun w => by
            have := Tryd.internal_strconv_lower 95 w
            rw [show bits .or .u8 95 32 = 127 by decide] at this; exact this)
          clear CL h1 h2 hx hL hh h95
          go_wp2_with (go_at_call 110; refine (CL2.out _).mono ?_; rintro e w2 ⟨rfl, rfl⟩)
          go_ret2
          exact ⟨.inr ⟨BAD.out, rfl⟩, BW.out⟩
        have H95 := hid h95
        clear h95
        have HC : Hid ((bat s k).toNat < 256 ∧ (bat s k).toNat ||| 32 < 256) := hid ⟨(bat s k).toNat_lt, Nat.or_lt_two_pow (n := 8) (bat s k).toNat_lt (by omega)⟩
        clear hx hL hh
        generalize (bat s k).toNat ||| 32 = L at *
        generalize (bat s k).toNat = c at *
        have hc256 : c < 256 ∧ L < 256 := by have := HC.out; exact this
        by_cases g0 : (48 : Int) ≤ c
        · have g1 : ¬ (c : Int) ≤ 57 := by omega
          clear h1
          have g9 : ¬ (c : Int) = 95 := by have := H95.out; omega
          by_cases g3 : (97 : Int) ≤ L
          · by_cases g4 : (L : Int) ≤ 122
            · have g5 : IntKind.u8.wrap ((L : Int) - 97) = (L : Int) - 97 := by rw [IntWalk.u8_in] <;> omega
              have g6 : IntKind.u8.wrap ((L : Int) - 97 + 10) = (L : Int) - 97 + 10 := by rw [IntWalk.u8_in] <;> omega
              have g7 : (16 : Int) ≤ (L : Int) - 97 + 10 := by omega
              clear h2
              go_wp2_with (go_at_call 110; refine (CL.out _).mono ?_; rintro e w2 ⟨rfl, rfl⟩)
              go_ret2
              exact ⟨.inr ⟨BAD.out, rfl⟩, BW.out⟩
            · clear h2
              go_wp2_with (go_at_call 110; refine (CL.out _).mono ?_; rintro e w2 ⟨rfl, rfl⟩)
              go_ret2
              exact ⟨.inr ⟨BAD.out, rfl⟩, BW.out⟩
          · clear h2
            go_wp2_with (go_at_call 110; refine (CL.out _).mono ?_; rintro e w2 ⟨rfl, rfl⟩)
            go_ret2
            exact ⟨.inr ⟨BAD.out, rfl⟩, BW.out⟩
        · clear h1
          by_cases g3 : (97 : Int) ≤ L
          · by_cases g4 : (L : Int) ≤ 122
            · have g5 : IntKind.u8.wrap ((L : Int) - 97) = (L : Int) - 97 := by rw [IntWalk.u8_in] <;> omega
              have g6 : IntKind.u8.wrap ((L : Int) - 97 + 10) = (L : Int) - 97 + 10 := by rw [IntWalk.u8_in] <;> omega
              have g7 : (16 : Int) ≤ (L : Int) - 97 + 10 := by omega
              clear h2
              go_wp2_with (go_at_call 110; refine (CL.out _).mono ?_; rintro e w2 ⟨rfl, rfl⟩)
              go_ret2
              exact ⟨.inr ⟨BAD.out, rfl⟩, BW.out⟩
            · clear h2
              go_wp2_with (go_at_call 110; refine (CL.out _).mono ?_; rintro e w2 ⟨rfl, rfl⟩)
              go_ret2
              exact ⟨.inr ⟨BAD.out, rfl⟩, BW.out⟩
          · clear h2
            go_wp2_with (go_at_call 110; refine (CL.out _).mono ?_; rintro e w2 ⟨rfl, rfl⟩)
            go_ret2
            exact ⟨.inr ⟨BAD.out, rfl⟩, BW.out⟩
      | some d =>
        have hne : hexB (bat s k) ≠ none := by rw [hx]; simp
        have HH : Hid (∀ j, j < k + 1 → hexB (bat s j) ≠ none) := hid (fun j hj => by
          by_cases e : j < k
          · exact hh.out.2 j e
          · rw [show j = k by omega]; exact hne)
        have HV : Hid (((hexV s (k + 1) : Nat) : Int) = a * 16 + (hexN (bat s k) : Nat)) := hid (by rw [hexV, hh.out.1]; push_cast; rfl)
        have o := or_some _ hne
        have hd := hexN_lt (bat s k)
        have hv1 := hexV_lt s (k + 1)
        have hp1 : 16 ^ (k + 1) ≤ 16 ^ 8 := Nat.pow_le_pow_right (by omega) (by omega)
        have hb8 : a * 16 + ((hexN (bat s k) : Nat) : Int) < 4294967296 := by have := HV.out; omega
        clear hx hL hh hne hv1 hp1
        generalize (bat s k).toNat ||| 32 = L at *
        generalize hexN (bat s k) = d at *
        generalize (bat s k).toNat = c at *
        rcases o with ⟨h1, h2, h3⟩ | ⟨⟨h1, h2, h3, h4⟩, h5⟩
        · have g1 : ¬ (c : Int) = 95 := by omega
          have g2 : (48 : Int) ≤ c := by omega
          have g3 : (c : Int) ≤ 57 := by omega
          have g4 : IntKind.u8.wrap ((c : Int) - 48) = (c : Int) - 48 := by rw [IntWalk.u8_in] <;> omega
          have g5 : ¬ (16 : Int) ≤ (c : Int) - 48 := by omega
          have g6 : IntKind.u64.wrap ((c : Int) - 48) = (c : Int) - 48 := by rw [IntWalk.u64_in] <;> omega
          have g7 : IntKind.u64.wrap (a * 16 + ((c : Int) - 48)) = a * 16 + ((c : Int) - 48) := by rw [IntWalk.u64_in] <;> omega
          have g8 : ¬ (a * 16 + ((c : Int) - 48) < a * 16) := by omega
          have g9 : ¬ (4294967295 < a * 16 + ((c : Int) - 48)) := by omega
          have HD : Hid ((d : Int) = (c : Int) - 48) := hid (by omega)
          clear h1 h2 h3 hb8 hd
          go_wp2_with fail
          exact ⟨⟨k + 1, _, by omega, rfl, rfl, rfl, hid ⟨by rw [HV.out, HD.out], HH.out⟩, trivial⟩, by simp [intOf]; omega⟩
        · have g1 : ¬ (c : Int) = 95 := by omega
          have g2 : ¬ (c : Int) ≤ 57 := by omega
          have g3 : (97 : Int) ≤ L := by omega
          have g3b : (L : Int) ≤ 122 := by omega
          have g4 : IntKind.u8.wrap ((L : Int) - 97) = (L : Int) - 97 := by rw [IntWalk.u8_in] <;> omega
          have g4b : IntKind.u8.wrap ((L : Int) - 97 + 10) = (L : Int) - 97 + 10 := by rw [IntWalk.u8_in] <;> omega
          have g5 : ¬ (16 : Int) ≤ (L : Int) - 97 + 10 := by omega
          have g6 : IntKind.u64.wrap ((L : Int) - 97 + 10) = (L : Int) - 97 + 10 := by rw [IntWalk.u64_in] <;> omega
          have g7 : IntKind.u64.wrap (a * 16 + ((L : Int) - 97 + 10)) = a * 16 + ((L : Int) - 97 + 10) := by rw [IntWalk.u64_in] <;> omega
          have g8 : ¬ (a * 16 + ((L : Int) - 97 + 10) < a * 16) := by omega
          have g9 : ¬ (4294967295 < a * 16 + ((L : Int) - 97 + 10)) := by omega
          have g10 : (48 : Int) ≤ c := by omega
          have HD : Hid ((d : Int) = (L : Int) - 97 + 10) := hid (by omega)
          clear h1 h2 h3 h4 h5 hb8 hd
          go_wp2_with (go_at_call 110; refine (CL.out _).mono ?_; rintro e w2 ⟨rfl, rfl⟩)
          exact ⟨⟨k + 1, _, by omega, rfl, rfl, rfl, hid ⟨by rw [HV.out, HD.out], HH.out⟩, trivial⟩, by simp [intOf]; omega⟩
    · obtain rfl : k = 8 := by omega
      go_wp2
      go_ret2
      exact ⟨.inl ⟨hh.out.2, by rw [hh.out.1]; rfl⟩, BW.out⟩
end Go.Proofs.YtdcjoafagalejaaDoor
