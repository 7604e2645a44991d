/- Numbers of 32 bits as texts of eight hexadecimal digits: the library's side. -/
import Derived.Test.YtdcjoafagalejaaDoorText
import Derived.Test.YtdcjoafagalejaaDoorShelfB
import Derived.Test.YtdcjoafagalejaaDoorSmall
import Derived.Test.YtdcjoafagalejaaDoorFl
namespace Go.Proofs.YtdcjoafagalejaaDoor
set_option maxRecDepth 20000
open Go.RowKit

/-- The library's table by which it finds the last bit. -/
def D64 (w : World) : Prop := ∃ cs, w.var? Tryd.prog "math/bits.deBruijn64tab" = some cs ∧ cs[15]? = some (.int .u8 4)
theorem D64.below {w w' : World} (h : D64 w) (hb : Below w.heap.size w w') : D64 w' := let ⟨cs, h1, h2⟩ := h; ⟨cs, var_stays h1 hb, h2⟩
def hexd (d : Nat) : UInt8 := [48, 49, 50, 51, 52, 53, 54, 55, 56, 57, 97, 98, 99, 100, 101, 102].getD d 48
theorem d64_global : Tryd.prog.globalNamed "math/bits.deBruijn64tab" = some ((Tryd.prog.globalNamed "math/bits.deBruijn64tab").getD 0) := by kernel_rfl
theorem D64.cell {w : World} (h : D64 w) : w.cell? ⟨(Tryd.prog.globalNamed "math/bits.deBruijn64tab").getD 0, 15, none⟩ = some (.int .u8 4) := by
  obtain ⟨cs, h1, h2⟩ := h
  rw [World.var?_cell d64_global h1 15, h2]
theorem c_TrailingZeros16 (w : World) (h : D64 w) : Calls Tryd.prog 124 #[.int .u64 16] w fun e w' => e = .returned (.int .i64 4) ∧ w = w' := by
  have hc := h.cell
  rw [show (Tryd.prog.globalNamed "math/bits.deBruijn64tab").getD 0 = 8 by kernel_rfl] at hc
  have hx : bits .and .u64 16 (IntKind.u64.wrap (-16)) = 16 := by decide
  have hm : IntKind.u64.wrap 4573923408821661840 = 4573923408821661840 := by decide
  clear h
  go_enter Tryd.func124, Tryd.ntmps124
  go_wp2
  go_ret
  exact ⟨rfl, rfl⟩
/-- The number behind j digits from the right. -/
def behind (x j : Nat) : Nat := x / 16 ^ j
def hexAt (x t : Nat) : UInt8 := hexd (x / 16 ^ t % 16)
/-- The last n digits, from the left. -/
def hexL (x n : Nat) : List UInt8 := (List.range n).map fun t => hexAt x (n - 1 - t)
/-- The row of the library's digits: the last j are laid. -/
def HexRow (w : World) (b : Nat) (x j : Nat) : Prop := ∃ cs : Array Value, w.heap[b]? = some (.cells cs 146 (0, 0)) ∧ cs.size = 65 ∧ ∀ t, t < j → cs[64 - t]? = some (.int .u8 ((hexAt x t).toNat : Int))
theorem dig36 {d : Nat} (hd : d < 16) (h : d < (⟨#[48, 49, 50, 51, 52, 53, 54, 55, 56, 57, 97, 98, 99, 100, 101, 102, 103, 104, 105, 106, 107, 108, 109, 110, 111, 112, 113, 114, 115, 116, 117, 118, 119, 120, 121, 122]⟩ : ByteArray).size) : (⟨#[48, 49, 50, 51, 52, 53, 54, 55, 56, 57, 97, 98, 99, 100, 101, 102, 103, 104, 105, 106, 107, 108, 109, 110, 111, 112, 113, 114, 115, 116, 117, 118, 119, 120, 121, 122]⟩ : ByteArray)[d]'h = hexd d := by
  have h16 : d = 0 ∨ d = 1 ∨ d = 2 ∨ d = 3 ∨ d = 4 ∨ d = 5 ∨ d = 6 ∨ d = 7 ∨ d = 8 ∨ d = 9 ∨ d = 10 ∨ d = 11 ∨ d = 12 ∨ d = 13 ∨ d = 14 ∨ d = 15 := by omega
  rcases h16 with rfl | rfl | rfl | rfl | rfl | rfl | rfl | rfl | rfl | rfl | rfl | rfl | rfl | rfl | rfl | rfl <;> rfl
theorem hex_step {x j : Nat} : x / 16 ^ (j + 1) = x / 16 ^ j / 16 := by rw [Nat.pow_succ, Nat.div_div_eq_div_mul]
theorem HexRow.set {w : World} {b x j : Nat} (h : HexRow w b x j) (hj : j ≤ 64) : HexRow (w.setCell ⟨b, 64 - j, none⟩ (.int .u8 ((hexAt x j).toNat : Int))) b x (j + 1) := by
  obtain ⟨cs, hb, hs, hc⟩ := h
  refine ⟨cs.setIfInBounds (64 - j) (.int .u8 ((hexAt x j).toNat : Int)), heap_setCell_same w b (64 - j) cs _ _ hb, by simpa using hs, fun t ht => ?_⟩
  rcases Nat.lt_or_ge t j with h | h
  · rw [Array.getElem?_setIfInBounds_ne (by omega)]; exact hc t h
  · obtain rfl : t = j := by omega
    rw [Array.getElem?_setIfInBounds_self_of_lt (by omega)]
theorem HexRow.text {w : World} {b x n : Nat} (h : HexRow w b x n) (hn : n ≤ 65) : (convert 89 9 (.slice (some ⟨b, 65 - n, none⟩) n n)).run Tryd.prog w = .ok (txt (hexL x n)) w := by
  obtain ⟨cs, hb, hs, hc⟩ := h
  have hl : ((List.range n).map fun t => hexAt x (n - 1 - t)).length = n := by simp
  have := run_convert_bytes_back w 89 9 5 ⟨b, 65 - n, none⟩ n ((List.range n).map fun t => hexAt x (n - 1 - t)) Tryd.underlying89 Tryd.underlying5 Tryd.underlying9 (fun k hk => by
    rw [hl] at hk
    rw [show (Addr.add ⟨b, 65 - n, none⟩ k) = ⟨b, 65 - n + k, none⟩ by unfold Addr.add; split <;> simp_all]
    rw [cell_of_row w b (65 - n + k) _ _ _ hb]
    have := hc (n - 1 - k) (by omega)
    rw [show 64 - (n - 1 - k) = 65 - n + k by omega] at this
    rw [this]; simp)
  rw [hl] at this
  exact this
theorem sl65 (b j : Nat) (hj : j ≤ 7) (w : World) : (Instr.sliceAt 146 (.pointer (some ⟨b, 0, none⟩)) (some (.int .i64 ((64 - j : Nat) : Int))) none none).run Tryd.prog w = .ok (.slice (some ⟨b, 64 - j, none⟩) (j + 1) (j + 1)) w := by
  have hlen : Tryd.prog.arrayLen 146 = 65 := by kernel_rfl
  have hsz : (sizeOf (Tryd.prog.elem 146)).run Tryd.prog w = .ok 1 w := by kernel_rfl
  have h := run_sliceAt_array_l (P := Tryd.prog) w 146 ⟨b, 0, none⟩ (by kernel_rfl) .i64 ((64 - j : Nat) : Int) (by omega) (by rw [hlen]; omega)
  have e1 : 65 - (64 - j) = j + 1 := by omega
  have e2 : (Addr.add ⟨b, 0, none⟩ ((64 - j) * 1)) = ⟨b, 64 - j, none⟩ := by unfold Addr.add; split <;> simp_all
  rw [h, hsz, hlen]
  simp only [Result.andThen_ok, slicedAt, Int.toNat_natCast]
  rw [if_neg (by omega), e1, e2]
theorem and15 (u : Nat) (h : u < 18446744073709551616) : bits .and .u64 (u : Int) 15 = ((u % 16 : Nat) : Int) := by
  have h1 := bits_and_u64_nat u 15 h (by omega)
  rw [nat_mask4] at h1
  exact h1
set_option maxHeartbeats 1000000 in
theorem c_formatBits (x : Nat) (hx : x < 4294967296) (w : World) (h : D64 w) :
    Calls Tryd.prog 101 #[.slice none 0 0, .int .u64 (x : Int), .int .i64 16, .bool false, .bool false] w fun e w' => (∃ n, 1 ≤ n ∧ n ≤ 8 ∧ x < 16 ^ n ∧ e = .returned (.tuple #[.slice none 0 0, txt (hexL x n)])) ∧ Below w.heap.size w w' := by
  have DD := hid h
  clear h
  go_enter Tryd.func101, Tryd.ntmps101
  have H0 : Hid (Below w.heap.size w (w.alloc (.cells (Array.replicate 65 (.int .u8 0)) 146))) := hid ((Below.refl _ _).alloc (Nat.le_refl _) _)
  go_wp2_with (first | (go_at_call 124; refine (c_TrailingZeros16 _ (DD.out.below ((Below.refl _ _).alloc (Nat.le_refl _) _))).mono ?_; rintro e w1 ⟨rfl, rfl⟩) | go_in)
  go_loopw [1, 13] (fun u i wr => ∃ j : Nat, j ≤ 7 ∧ u = .int .u64 ((x / 16 ^ j : Nat) : Int) ∧ i = .int .i64 ((65 - j : Nat) : Int) ∧ HexRow wr w.heap.size x j ∧ Below w.heap.size w wr) (fun u _ _ => (intOf u).toNat)
  case atStart => exact ⟨0, by omega, by simp, rfl, ⟨_, blk_at _ _ _ rfl, rfl, fun t ht => by omega⟩, (Below.refl _ _).alloc (Nat.le_refl _) _⟩
  case round =>
    obtain ⟨j, hj, rfl, rfl, hrow, hbel⟩ := hrel
    have HR := hid hrow
    have BE := hid hbel
    obtain ⟨cs, hb, hs, _⟩ := hrow
    obtain ⟨v1, c1⟩ : ∃ v, wr.cell? ⟨w.heap.size, 64 - j, none⟩ = some v := ⟨cs[64 - j]'(by omega), by rw [cell_of_row _ _ _ _ _ _ hb]; simp⟩
    have f1 := frozen_of_row wr w.heap.size (64 - j) _ _ hb
    have hst := hid (hex_step (x := x) (j := j))
    have h64 : x / 16 ^ j < 18446744073709551616 := Nat.lt_of_le_of_lt (Nat.div_le_self _ _) (by omega)
    have HA : Hid (hexAt x j = hexd (x / 16 ^ j % 16)) := hid rfl
    have HS := hid (HR.out.set (by omega))
    have hi : ((65 - j : Nat) : Int) - 1 = ((64 - j : Nat) : Int) := by omega
    have hi2 : ((64 - j : Nat) : Int) < 65 := by omega
    clear hbel hb hs
    by_cases hu : 16 ≤ x / 16 ^ j
    · have hj6 : j < 7 := by
        rcases Nat.lt_or_ge j 7 with h | h
        · exact h
        · obtain rfl : j = 7 := by omega
          omega
      have ha := and15 (x / 16 ^ j) h64
      have HM : Hid (x / 16 ^ j % 16 < 16) := hid (Nat.mod_lt _ (by decide))
      generalize x / 16 ^ j = u at *
      go_wp2
      refine ⟨⟨j + 1, by omega, by rw [hst.out]; go_num, by rw [show 65 - (j + 1) = 64 - j by omega], ?_, ?_⟩, by simp [intOf]; omega⟩
      · rw [dig36 HM.out, ← HA.out]; exact HS.out
      · exact BE.out.setCell (p := ⟨w.heap.size, 64 - j, none⟩) (Nat.le_refl _) _
    · have ha : x / 16 ^ j % 16 = x / 16 ^ j := Nat.mod_eq_of_lt (by omega)
      rw [ha] at HA
      have HM : Hid (x / 16 ^ j < 16) := hid (by omega)
      have HX : Hid (x < 16 ^ (j + 1)) := hid (by rw [Nat.pow_succ, Nat.mul_comm]; exact (Nat.div_lt_iff_lt_mul (Nat.pow_pos (by decide))).1 (by omega))
      have HT := hid (HS.out.text (n := j + 1) (by omega))
      have sl := sl65 w.heap.size j hj
      have e65 : 65 - (j + 1) = 64 - j := by omega
      rw [e65] at HT
      have hd := fun h => dig36 (d := x / 16 ^ j) HM.out h
      rw [← HA.out] at hd
      have ht := HT.out
      clear e65
      generalize x / 16 ^ j = u at *
      go_wp2
      go_ret2
      exact ⟨⟨j + 1, by omega, by omega, HX.out, rfl⟩, BE.out.setCell (p := ⟨w.heap.size, 64 - j, none⟩) (Nat.le_refl _) _⟩
theorem c_FormatUint16 (x : Nat) (hx : x < 4294967296) (w : World) (h : D64 w) :
    Calls Tryd.prog 72 #[.int .u64 (x : Int), .int .i64 16] w fun e w' => (∃ n, 1 ≤ n ∧ n ≤ 8 ∧ x < 16 ^ n ∧ e = .returned (txt (hexL x n))) ∧ Below w.heap.size w w' := by
  have C := hid (c_formatBits x hx w h)
  clear h
  go_enter Tryd.func72, Tryd.ntmps72
  go_wp2_with (first | (go_at_call 101; refine C.out.mono ?_; rintro e w1 ⟨⟨n, h1, h2, h3, rfl⟩, hb⟩; have N1 := hid h1; have N2 := hid h2; have N3 := hid h3; have B := hid hb; clear h1 h2 h3 hb) | go_in)
  go_ret
  exact ⟨⟨n, N1.out, N2.out, N3.out, rfl⟩, B.out⟩
/-- Eight digits. -/
def hex8 (x : Nat) : List UInt8 := hexL x 8
theorem hex_lead {x n t : Nat} (h : x < 16 ^ n) (ht : n ≤ t) : hexAt x t = 48 := by
  have : x / 16 ^ t = 0 := Nat.div_eq_of_lt (Nat.lt_of_lt_of_le h (Nat.pow_le_pow_right (by decide) ht))
  unfold hexAt; rw [this]; rfl
theorem hex8_of {x n : Nat} (h : x < 16 ^ n) (hn : n ≤ 8) : List.replicate (8 - n) 48 ++ hexL x n = hex8 x := by
  apply List.ext_getElem
  · simp [hexL, hex8]; omega
  · intro k h1 h2
    simp only [hex8, hexL, List.getElem_map, List.getElem_range, List.getElem_append, List.length_replicate, List.getElem_replicate]
    split
    · exact (hex_lead h (by omega)).symm
    · congr 1; omega
theorem repeat48 : ∀ c, Lib.repeatL [48] c = List.replicate c 48
  | 0 => rfl
  | c + 1 => by rw [Lib.repeatL, repeat48 c]; rfl
theorem c_Repeat48 (c : Nat) (hc : c ≤ 8) (w : World) :
    Calls Tryd.prog 73 #[.string ⟨#[48]⟩, .int .i64 (c : Int)] w fun e w' => e = .returned (txt (List.replicate c 48)) ∧ Below w.heap.size w w' := by
  have := Tryd.strings_Repeat ⟨#[48]⟩ c w (by omega) (by rw [show (⟨#[48]⟩ : ByteArray).size = 1 from rfl]; omega)
  rw [show (⟨#[48]⟩ : ByteArray).data.toList = [48] from rfl, repeat48] at this
  exact this
theorem hexL_len (x n : Nat) : (hexL x n).length = n := by simp [hexL]
set_option maxHeartbeats 1000000 in
theorem c_NumberText (x : Nat) (hx : x < 4294967296) (hf : isFin x = true) (w : World) (h : D64 w) :
    Calls Tryd.prog 41 #[.float .f32 x] w fun e w' => e = .returned (txt (hex8 x)) ∧ Below w.heap.size w w' := by
  have hs : FloatKind.f32.format.order x x = some .eq := order_self_fin hf
  have hb := bits_run x
  have C := hid (c_FormatUint16 x hx w h)
  clear h hf
  go_enter Tryd.func41, Tryd.ntmps41
  go_wp2_with fail
  refine C.out.mono ?_
  rintro e w1 ⟨⟨n, h1, h2, h3, rfl⟩, hb1⟩
  have N3 := hid h3
  have B1 := hid hb1
  have hl := hexL_len x n
  have hc : (8 : Int) - (n : Int) = ((8 - n : Nat) : Int) := by omega
  have hk : ¬ (9223372036854775807 < 8 - n + n) := by omega
  clear hb1 h3
  go_wp2_with fail
  refine (c_Repeat48 (8 - n) (by omega) _).mono ?_
  rintro e w2 ⟨rfl, hb2⟩
  have B2 := hid (below_trans B1.out hb2 B1.out.size)
  clear hb2
  go_wp2_with fail
  go_ret
  exact ⟨by rw [← hex8_of N3.out h2]; exact ret_cat _ _, B2.out⟩
end Go.Proofs.YtdcjoafagalejaaDoor
