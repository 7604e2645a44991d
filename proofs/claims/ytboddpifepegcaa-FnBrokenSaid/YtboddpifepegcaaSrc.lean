/- Choices drawn from bytes. -/
import Derived.Test.YtboddpifepegcaaRnd
import Derived.Test.YtboddpifepegcaaApp
namespace Go.Proofs.Ytboddpifepegcaa
set_option maxRecDepth 20000
open Go.RowKit

/-- A slice of bytes that can be read. -/
def Bts (w : World) (a : Option Addr) (n : Nat) : Prop := 0 < n → ∃ g off, a = some ⟨g, off, none⟩ ∧ ∀ k, k < n → ∃ c : Nat, c < 256 ∧ w.cell? ⟨g, off + k, none⟩ = some (.int .u8 (c : Int))
/-- Only the block b has turned, and blocks are new. -/
def Only (b : Nat) (w w' : World) : Prop := w.grownBy w' (some b)
theorem Only.refl (b : Nat) (w : World) : Only b w w := ⟨rfl, rfl, rfl, Nat.le_refl _, fun _ _ _ => rfl⟩
theorem Only.trans {b : Nat} {w1 w2 w3 : World} (h1 : Only b w1 w2) (h2 : Only b w2 w3) : Only b w1 w3 :=
  ⟨h2.os.trans h1.os, h2.tape.trans h1.tape, h2.output.trans h1.output, Nat.le_trans h1.size h2.size, fun k hk hn => (h2.block k (Nat.lt_of_lt_of_le hk h1.size) hn).trans (h1.block k hk hn)⟩
theorem Only.set {b : Nat} (w : World) (k : Nat) (v : Value) : Only b w (w.setCell ⟨b, k, none⟩ v) :=
  ⟨rfl, rfl, rfl, by simp, fun j _ hn => heap_setCell_other w ⟨b, k, none⟩ j v (by simp at hn ⊢; exact hn)⟩
theorem Only.drew {b : Nat} {w w' : World} (h : Only b w w') : Only b w w'.drew := ⟨h.os, h.tape, h.output, h.size, h.block⟩
theorem Bts.only {b : Nat} {w w' : World} {a : Option Addr} {n : Nat} (h : Bts w a n) (ho : Only b w w') (hb : 0 < n → ∀ g off, a = some ⟨g, off, none⟩ → g ≠ b) : Bts w' a n := fun hn => by
  obtain ⟨g, off, e, hc⟩ := h hn
  refine ⟨g, off, e, fun k hk => ?_⟩
  obtain ⟨c, h1, h2⟩ := hc k hk
  exact ⟨c, h1, ho.cell h2 (by simp; exact hb hn g off e)⟩
/-- The source: its bytes, how far it is read. -/
structure Src (w : World) (b : Nat) (K : Nat) (a : Option Addr) (n ca : Nat) : Prop where
  cells : ∃ (p z : Nat), w.heap[b]? = some (.cells #[.slice a n ca, .int .i64 (p : Int), .int .u64 (z : Int)] 107 (0, 0)) ∧ p ≤ K ∧ z < 18446744073709551616
  small : n ≤ 4096
  bts : Bts w a n
  away : 0 < n → ∀ g off, a = some ⟨g, off, none⟩ → g ≠ b
theorem and255 (u : Nat) (h : u < 18446744073709551616) : bits .and .u64 (u : Int) 255 = ((u % 256 : Nat) : Int) := by
  have h1 := bits_and_u64_nat u 255 h (by omega)
  rw [show u &&& 255 = u % 256 from Nat.and_two_pow_sub_one_eq_mod u 8] at h1
  exact h1
theorem u64_nat (x : Int) : ∃ u : Nat, IntKind.u64.wrap x = (u : Int) ∧ u < 18446744073709551616 := by
  rw [IntKind.wrap_u64]
  exact ⟨(x % 18446744073709551616).toNat, by omega, by omega⟩
theorem Src.mono {w : World} {b K L n ca : Nat} {a : Option Addr} (h : Src w b K a n ca) (hl : K ≤ L) : Src w b L a n ca :=
  ⟨let ⟨p, z, h1, h2, h3⟩ := h.cells; ⟨p, z, h1, Nat.le_trans h2 hl, h3⟩, h.small, h.bts, h.away⟩
theorem Src.drew {w : World} {b K n ca : Nat} {a : Option Addr} (h : Src w b K a n ca) : Src w.drew b K a n ca := ⟨h.cells, h.small, h.bts, h.away⟩
theorem src_set {w : World} {b K n ca p z u : Nat} {a : Option Addr} (h : Src w b K a n ca) (hb : w.heap[b]? = some (.cells #[.slice a n ca, .int .i64 (p : Int), .int .u64 (z : Int)] 107 (0, 0))) (hp : p ≤ K) (hu : u < 18446744073709551616) :
    Src ((w.setCell ⟨b, 1, none⟩ (.int .i64 ((p : Int) + 1))).setCell ⟨b, 2, none⟩ (.int .u64 (u : Int))) b (K + 1) a n ca ∧ Only b w ((w.setCell ⟨b, 1, none⟩ (.int .i64 ((p : Int) + 1))).setCell ⟨b, 2, none⟩ (.int .u64 (u : Int))) := by
  have o := (Only.set (b := b) w 1 (.int .i64 ((p : Int) + 1))).trans (Only.set _ 2 (.int .u64 (u : Int)))
  have h1 : (w.setCell ⟨b, 1, none⟩ (.int .i64 ((p : Int) + 1))).heap[b]? = _ := heap_setCell_same w b 1 _ _ _ hb
  have h2 : ((w.setCell ⟨b, 1, none⟩ (.int .i64 ((p : Int) + 1))).setCell ⟨b, 2, none⟩ (.int .u64 (u : Int))).heap[b]? = _ := heap_setCell_same _ b 2 _ _ _ h1
  exact ⟨⟨⟨p + 1, u, h2, by omega, hu⟩, h.small, h.bts.only o h.away, h.away⟩, o⟩
set_option maxHeartbeats 2000000 in
theorem c_next (w : World) (b K : Nat) (a : Option Addr) (n ca : Nat) (hK : K ≤ 1000000) (h : Src w b K a n ca) :
    Calls Try.prog 93 #[.pointer (some ⟨b, 0, none⟩)] w fun e w' => (∃ x : Nat, x < 256 ∧ e = .returned (.int .i64 (x : Int))) ∧ Src w' b (K + 1) a n ca ∧ Only b w w' := by
  obtain ⟨p, z, hb, hp, hz⟩ := h.cells
  have HS := hid h
  have HBk := hid hb
  have c0 : w.cell? ⟨b, 0, none⟩ = some (.slice a n ca) := cell_of_row _ _ 0 _ _ _ hb
  have c1 : w.cell? ⟨b, 1, none⟩ = some (.int .i64 (p : Int)) := cell_of_row _ _ 1 _ _ _ hb
  have c2 : w.cell? ⟨b, 2, none⟩ = some (.int .u64 (z : Int)) := cell_of_row _ _ 2 _ _ _ hb
  have f1 := frozen_of_row _ _ 1 _ _ hb
  have f2 := frozen_of_row _ _ 2 _ _ hb
  have hs := h.small
  have HP := hid hp
  clear h hb
  by_cases hpn : p < n
  · obtain ⟨g, off, rfl, hc⟩ := HS.out.bts (by omega)
    obtain ⟨c, hc1, hc2⟩ := hc p hpn
    have HC := hid hc1
    have hpn' : (p : Int) < n := by omega
    clear hc
    go_enter Try.func93, Try.ntmps93
    go_wp2_with fail
    go_region
    go_wp2_with fail
    go_region
    go_wp2_with fail
    go_region
    go_wp2
    go_ret
    obtain ⟨u, hu, hlt⟩ := u64_nat (IntKind.u64.wrap (IntKind.u64.wrap (z * 6364136223846793005) + c) + 1442695040888963407)
    rw [hu]
    obtain ⟨s1, s2⟩ := src_set HS.out HBk.out HP.out hlt
    exact ⟨⟨c, HC.out, rfl⟩, s1.drew.drew.drew, s2.drew.drew.drew⟩
  · have hpn' : ¬ (p : Int) < n := by omega
    have hpn2 : ¬ (p : Int) + 1 ≤ n := by omega
    go_enter Try.func93, Try.ntmps93
    go_wp2_with fail
    go_region
    go_wp2_with fail
    go_region
    go_wp2
    go_ret
    obtain ⟨u, hu, hlt⟩ := u64_nat (IntKind.u64.wrap (IntKind.u64.wrap (z * 6364136223846793005)) + 1442695040888963407)
    rw [hu]
    have hd : ((u : Int) / 1099511627776) = ((u / 1099511627776 : Nat) : Int) := by omega
    have ha := and255 (u / 1099511627776) (by omega)
    obtain ⟨s1, s2⟩ := src_set HS.out HBk.out HP.out hlt
    refine ⟨⟨u / 1099511627776 % 256, Nat.mod_lt _ (by omega), ?_⟩, s1.drew.drew, s2.drew.drew⟩
    simp only [hd, ha]
    rw [show wrap64 ((u / 1099511627776 % 256 : Nat) : Int) = ((u / 1099511627776 % 256 : Nat) : Int) by unfold wrap64; omega]
    rfl
set_option maxHeartbeats 2000000 in
theorem c_pick (w : World) (b K : Nat) (a : Option Addr) (n ca : Nat) (m : Nat) (hm : 2 ≤ m) (hm2 : m ≤ 70000) (hK : K ≤ 900000) (h : Src w b K a n ca) :
    Calls Try.prog 39 #[.pointer (some ⟨b, 0, none⟩), .int .i64 (m : Int)] w fun e w' => (∃ x : Nat, x < m ∧ e = .returned (.int .i64 (x : Int))) ∧ Src w' b (K + 2) a n ca ∧ Only b w w' := by
  have C1 := hid (c_next w b K a n ca (by omega) h)
  have C2 := hid (fun w2 h2 => c_next w2 b (K + 1) a n ca (by omega) h2)
  clear h
  have m1 : ¬ (m : Int) ≤ 1 := by omega
  by_cases h200 : (200 : Int) < m
  · go_enter Try.func39, Try.ntmps39
    go_wp2_with fail
    refine C1.out.mono ?_
    rintro e w1 ⟨⟨x, hx, rfl⟩, s1, o1⟩
    have HX := hid hx
    have S1 := hid s1
    have D1 := hid o1
    clear hx s1 o1 C1
    go_wp2_with fail
    refine (C2.out _ S1.out).mono ?_
    rintro e w2 ⟨⟨y, hy, rfl⟩, s2, o2⟩
    have HY := hid hy
    have S2 := hid s2
    have D2 := hid (D1.out.trans o2)
    clear hy s2 o2 C2
    have k1 : IntKind.i64.wrap ((x : Int) * 256) = (x : Int) * 256 := by have := HX.out; rw [IntWalk.i64_in] <;> omega
    have k2 : IntKind.i64.wrap ((x : Int) * 256 + y) = (x : Int) * 256 + y := by have := HX.out; have := HY.out; rw [IntWalk.i64_in] <;> omega
    go_wp2
    go_ret
    have hx := HX.out
    have hy := HY.out
    have e : (wrap64 (wrap64 ((x : Int) * 256) + y)).tmod m = (((x * 256 + y) % m : Nat) : Int) := by
      rw [show wrap64 (wrap64 ((x : Int) * 256) + y) = ((x * 256 + y : Nat) : Int) by unfold wrap64; omega, Int.tmod_eq_emod_of_nonneg (by omega)]
      rfl
    refine ⟨⟨(x * 256 + y) % m, Nat.mod_lt _ (by omega), ?_⟩, S2.out, D2.out⟩
    rw [← e]; rfl
  · go_enter Try.func39, Try.ntmps39
    go_wp2_with fail
    refine C1.out.mono ?_
    rintro e w1 ⟨⟨x, hx, rfl⟩, s1, o1⟩
    have HX := hid hx
    have S1 := hid s1
    have D1 := hid o1
    clear hx s1 o1 C1
    go_wp2
    go_ret
    exact ⟨⟨x % m, Nat.mod_lt _ (by omega), rfl⟩, S1.out.mono (by omega), D1.out⟩
end Go.Proofs.Ytboddpifepegcaa
