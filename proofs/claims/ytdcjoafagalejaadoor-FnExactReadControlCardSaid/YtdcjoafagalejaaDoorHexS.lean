/- Numbers of 32 bits as texts of eight hexadecimal digits: the reference's side. -/
import Derived.Test.YtdcjoafagalejaaDoorHex
namespace Go.Proofs.YtdcjoafagalejaaDoor
set_option maxRecDepth 20000
open Go.RowKit

def HexRow8 (w : World) (b : Nat) (x j : Nat) : Prop := ∃ cs : Array Value, w.heap[b]? = some (.cells cs 5 (0, 0)) ∧ cs.size = 8 ∧ ∀ t, t < j → cs[7 - t]? = some (.int .u8 ((hexAt x t).toNat : Int))
theorem dig16 {d : Nat} (hd : d < 16) (h : d < (⟨#[48, 49, 50, 51, 52, 53, 54, 55, 56, 57, 97, 98, 99, 100, 101, 102]⟩ : ByteArray).size) : (⟨#[48, 49, 50, 51, 52, 53, 54, 55, 56, 57, 97, 98, 99, 100, 101, 102]⟩ : ByteArray)[d]'h = hexd d := by
  have h16 : d = 0 ∨ d = 1 ∨ d = 2 ∨ d = 3 ∨ d = 4 ∨ d = 5 ∨ d = 6 ∨ d = 7 ∨ d = 8 ∨ d = 9 ∨ d = 10 ∨ d = 11 ∨ d = 12 ∨ d = 13 ∨ d = 14 ∨ d = 15 := by omega
  rcases h16 with rfl | rfl | rfl | rfl | rfl | rfl | rfl | rfl | rfl | rfl | rfl | rfl | rfl | rfl | rfl | rfl <;> rfl
theorem HexRow8.set {w : World} {b x j : Nat} (h : HexRow8 w b x j) (hj : j ≤ 7) : HexRow8 (w.setCell ⟨b, 7 - j, none⟩ (.int .u8 ((hexAt x j).toNat : Int))) b x (j + 1) := by
  obtain ⟨cs, hb, hs, hc⟩ := h
  refine ⟨cs.setIfInBounds (7 - j) (.int .u8 ((hexAt x j).toNat : Int)), heap_setCell_same w b (7 - j) cs _ _ hb, by simpa using hs, fun t ht => ?_⟩
  rcases Nat.lt_or_ge t j with h | h
  · rw [Array.getElem?_setIfInBounds_ne (by omega)]; exact hc t h
  · obtain rfl : t = j := by omega
    rw [Array.getElem?_setIfInBounds_self_of_lt (by omega)]
theorem HexRow8.text {w : World} {b x : Nat} (h : HexRow8 w b x 8) : (convert 89 9 (.slice (some ⟨b, 0, none⟩) 8 8)).run Tryd.prog w = .ok (txt (hex8 x)) w := by
  obtain ⟨cs, hb, hs, hc⟩ := h
  have hl : (hex8 x).length = 8 := hexL_len x 8
  have := run_convert_bytes_back w 89 9 5 ⟨b, 0, none⟩ 8 (hex8 x) Tryd.underlying89 Tryd.underlying5 Tryd.underlying9 (fun k hk => by
    rw [hl] at hk
    rw [show (Addr.add ⟨b, 0, none⟩ k) = ⟨b, k, none⟩ by unfold Addr.add; split <;> simp_all]
    rw [cell_of_row w b k _ _ _ hb]
    have := hc (7 - k) (by omega)
    rw [show 7 - (7 - k) = k by omega] at this
    rw [this]; simp [hex8, hexL])
  rw [hl] at this
  exact this
theorem c_l01Bits (x : Nat) (hf : isFin x = true) (w : World) :
    Calls Tryd.prog 75 #[.float .f32 x] w fun e w' => e = .returned (.int .u32 (x : Int)) ∧ w = w' := by
  have hs : FloatKind.f32.format.order x x = some .eq := order_self_fin hf
  have hb := bits_run x
  clear hf
  go_enter Tryd.func75, Tryd.ntmps75
  go_wp2
  go_ret
  exact ⟨rfl, rfl⟩
theorem info_u8 : (Tryd.prog.info? 5).map (fun i => (i.zero, i.size, i.bytes)) = some (some (.int .u8 0), 1, 1) := by kernel_rfl
theorem HexRow8.start {w : World} {b lo x : Nat} {l : List Value} (h : w.ownsRow lo 5 1 (.slice (some ⟨b, 0, none⟩) 8 8) 8 l) : HexRow8 w b x 0 := by
  rcases h.2 with ⟨h1, _⟩ | ⟨g, cap, cur, h1, _, h3, _, _, h6, _⟩
  · cases h1
  · simp only [Value.slice.injEq, Option.some.injEq, Addr.mk.injEq, and_true, true_and] at h1
    obtain ⟨rfl, rfl⟩ := h1
    exact ⟨cur, h3, by omega, fun t ht => by omega⟩
set_option maxHeartbeats 1000000 in
theorem c_l01Hex (x : Nat) (hx : x < 4294967296) (hf : isFin x = true) (w : World) :
    Calls Tryd.prog 67 #[.float .f32 x] w fun e w' => e = .returned (txt (hex8 x)) ∧ Below w.heap.size w w' := by
  have C := hid (c_l01Bits x hf w)
  obtain ⟨i0, hi, hz0, hz1, hz2⟩ := info_parts info_u8
  have HI := hid hi
  have HZ0 := hid hz0
  have HZ1 := hid hz1
  have HZ2 := hid hz2
  clear hf hi hz0 hz1 hz2
  go_enter Tryd.func67, Tryd.ntmps67
  go_wp2_with (first | (refine wpList_make_full _ rfl _ _ 89 rfl w.heap.size 5 i0 (.int .u8 0) 1 Tryd.underlying89 HI.out HZ0.out HZ1.out .i64 .i64 8 8 8 rfl rfl rfl rfl (by rw [HZ2.out]; omega) (by unfold maxLen; omega) (Nat.le_refl _) ?_; intro w2 hown hgr; have R0 := hid (HexRow8.start (x := x) hown); have B0 := hid ((Below.refl w.heap.size w).grown hgr (Nat.le_refl _) (fun r e => by cases e)); clear hown hgr) | (go_at_call 75; refine C.out.mono ?_; rintro e w1 ⟨rfl, rfl⟩))
  go_loopw [3, 5] (fun u i wr => ∃ j : Nat, j ≤ 8 ∧ u = .int .u32 ((x / 16 ^ j : Nat) : Int) ∧ i = .int .i64 (7 - (j : Int)) ∧ HexRow8 wr w.heap.size x j ∧ Below w.heap.size w wr) (fun _ i _ => (intOf i + 1).toNat)
  case atStart => exact ⟨0, by omega, by simp, rfl, R0.out, B0.out⟩
  case round =>
    obtain ⟨j, hj, rfl, rfl, hrow, hbel⟩ := hrel
    have HR := hid hrow
    have BE := hid hbel
    obtain ⟨cs, hb, hs, _⟩ := hrow
    by_cases hlt : j < 8
    · obtain ⟨v1, c1⟩ : ∃ v, wr.cell? ⟨w.heap.size, 7 - j, none⟩ = some v := ⟨cs[7 - j]'(by omega), by rw [cell_of_row _ _ _ _ _ _ hb]; simp⟩
      have f1 := frozen_of_row wr w.heap.size (7 - j) _ _ hb
      have hst := hid (hex_step (x := x) (j := j))
      have HA : Hid (hexAt x j = hexd (x / 16 ^ j % 16)) := hid rfl
      have HS := hid (HR.out.set (by omega))
      have hi : (7 : Int) - (j : Int) = ((7 - j : Nat) : Int) := by omega
      have hi2 : ((7 - j : Nat) : Int) < 8 := by omega
      have HM : Hid (x / 16 ^ j % 16 < 16) := hid (Nat.mod_lt _ (by decide))
      have HU : Hid (x / 16 ^ j < 4294967296) := hid (Nat.lt_of_le_of_lt (Nat.div_le_self _ _) hx)
      clear hbel hb hs
      generalize x / 16 ^ j = u at *
      have hq : (u : Int).tdiv 16 = ((u / 16 : Nat) : Int) := by rw [Int.tdiv_eq_ediv_of_nonneg (by omega)]; omega
      have hr : (u : Int).tmod 16 = ((u % 16 : Nat) : Int) := by rw [Int.tmod_eq_emod_of_nonneg (by omega)]; omega
      have k1 : IntKind.u32.wrap ((u / 16 : Nat) : Int) = ((u / 16 : Nat) : Int) := by have := HU.out; rw [IntWalk.u32_in] <;> omega
      have k2 : IntKind.u32.wrap ((u % 16 : Nat) : Int) = ((u % 16 : Nat) : Int) := by rw [IntWalk.u32_in] <;> omega
      go_wp2
      refine ⟨⟨j + 1, by omega, by have h1 := HU.out; rw [hst.out, show ((u : Int) / 16 % 4294967296) = ((u / 16 : Nat) : Int) by omega], by rw [show ((7 - j : Nat) : Int) - 1 = 7 - ((j + 1 : Nat) : Int) by omega], ?_, ?_⟩, by simp [intOf]; omega⟩
      · rw [dig16 HM.out, ← HA.out]; exact HS.out
      · exact BE.out.setCell (p := ⟨w.heap.size, 7 - j, none⟩) (Nat.le_refl _) _
    · obtain rfl : j = 8 := by omega
      have ht := HR.out.text
      clear hbel hb hs
      go_wp2
      go_ret
      exact ⟨rfl, BE.out⟩
end Go.Proofs.YtdcjoafagalejaaDoor
