/- The draws of the laws: suns, blinds, parts, bits; numbers out of bytes. -/
import Derived.Test.YtboddpifepegcaaDrawS
import Derived.Test.YtboddpifepegcaaHang
namespace Go.Proofs.Ytboddpifepegcaa
set_option maxRecDepth 20000
open Go.RowKit

theorem bts_below' {w w' : World} {a : Option Addr} {n : Nat} (h : Bts w a n) (hb : Below w.heap.size w w') : Bts w' a n := fun hn => by
  obtain ⟨g, off, e, hc⟩ := h hn
  refine ⟨g, off, e, fun k hk => ?_⟩
  obtain ⟨c, c1, c2⟩ := hc k hk
  exact ⟨c, c1, cell_stays hb c2⟩
theorem src_new {w : World} {a : Option Addr} {n : Nat} (ca : Nat) (hb : Bts w a n) (hn : n ≤ 4096) : Src (w.alloc (.cells #[.slice a n ca, .int .i64 0, .int .u64 0] 107)) w.heap.size 0 a n ca :=
  ⟨⟨0, 0, blk_at _ _ _ rfl, Nat.le_refl _, by omega⟩, hn, fun h0 => by
    obtain ⟨g, off, e, hc⟩ := hb h0
    refine ⟨g, off, e, fun k hk => ?_⟩
    obtain ⟨c, c1, c2⟩ := hc k hk
    exact ⟨c, c1, (World.cell?_alloc_past _ _ _ (block_lt_of_cell c2)).trans c2⟩, fun h0 g off e => by
    obtain ⟨g2, off2, e2, hc⟩ := hb h0
    obtain ⟨c, _, c2⟩ := hc 0 h0
    have l := block_lt_of_cell c2
    rw [e] at e2; simp at e2
    have : g2 < w.heap.size := l
    omega⟩
theorem only_new {w w' : World} {o : Obj} (ho : Only w.heap.size (w.alloc o) w') : Below w.heap.size w w' :=
  ⟨ho.os, ho.tape, ho.output, Nat.le_trans (by simp) ho.size, fun k hk => (ho.block k (by simp; omega) (by simp; omega)).trans (blk_past _ _ _ hk)⟩
theorem c_l00From (a : Option Addr) (n ca : Nat) (w : World) : Calls Try.prog 38 #[.slice a n ca] w fun e w' => e = .returned (.pointer (some ⟨w.heap.size, 0, none⟩)) ∧ w' = w.alloc (.cells #[.slice a n ca, .int .i64 0, .int .u64 0] 107) := by
  go_enter Try.func38, Try.ntmps38
  go_wp2
  go_ret
  exact ⟨rfl, rfl⟩
theorem c_A2Part (w : World) (a : Option Addr) (n ca : Nat) (hn : n ≤ 4096) (hb : Bts w a n) :
    Calls Try.prog 22 #[.slice a n ca] w fun e w' => (∃ x, In0 x W1 ∧ e = .returned (.float .f32 x)) ∧ Below w.heap.size w w' := by
  have C := hid (c_tone _ w.heap.size 0 a n ca (by omega) (src_new ca hb hn))
  clear hb
  go_enter Try.func22, Try.ntmps22
  go_wp2_with (first | (go_at_call 38; refine (c_l00From _ _ _ _).mono ?_; rintro e w1 ⟨rfl, rfl⟩) | (go_at_call 40; refine C.out.mono ?_; rintro e w2 ⟨⟨x, hx, rfl⟩, _, ho⟩; have X := hid hx; have B := hid (only_new ho); clear hx ho))
  go_ret
  exact ⟨⟨_, X.out, rfl⟩, B.out⟩
set_option maxHeartbeats 1000000 in
theorem c_A2Blind (w : World) (a : Option Addr) (n ca : Nat) (hn : n ≤ 4096) (hb : Bts w a n) :
    Calls Try.prog 7 #[.slice a n ca] w fun e w' => (∃ B, WfB B ∧ okB B = true ∧ e = .returned (.agg (bcells B))) ∧ Below w.heap.size w w' := by
  have b0 : Below w.heap.size w (w.alloc (.cells (bcells zB) 30)) := (Below.refl _ _).alloc (Nat.le_refl _) _
  have B0 := hid b0
  have e1 : (w.alloc (.cells (bcells zB) 30)).heap.size = w.heap.size + 1 := by simp
  have E1 := hid e1
  have S := src_new ca (bts_below' hb b0) hn
  rw [e1] at S
  have C := hid (c_l02Drawn _ (w.heap.size + 1) 0 a n ca (by omega) S)
  clear S e1
  have R : Hid ((w.alloc (.cells (bcells zB) 30)).heap[w.heap.size]? = some (.cells (bcells zB) 30 (0, 0))) := hid (blk_at _ _ _ rfl)
  clear hb b0
  go_enter Try.func7, Try.ntmps7
  go_wp2_with (first | (go_at_call 38; refine (c_l00From _ _ _ _).mono ?_; rintro e w1 ⟨rfl, rfl⟩))
  refine C.out.mono ?_
  rintro e w2 ⟨⟨B, hB, hk, rfl⟩, _, ho⟩
  rw [← E1.out] at ho
  have h2 := only_new ho
  have R2 := hid ((h2.block _ (block_lt R.out)).trans R.out)
  have B2 := hid (below_setRow (below_trans B0.out h2 B0.out.size) (g := w.heap.size) (Nat.le_refl _) (bcells B))
  have WB := hid hB
  have OK := hid hk
  clear ho h2 hB hk
  go_wp2_with (refine wpList_store_row rfl 30 _ _ rfl w.heap.size (bcells B) rfl rfl 30 (bcells zB) R2.out (size_blind' _) rfl (bcells_one _) ?_)
  refine bodyPost_ret (v := .agg (bcells B)) (results_cell_row rfl _ _ w.heap.size 30 (bcells B) (0, 0) _ rfl ?_ Try.underlying30 rfl (size_blind' _)) rfl ⟨⟨B, WB.out, OK.out, rfl⟩, B2.out⟩
  exact blk_row_same _ _ (bcells zB) _ _ _ R2.out
set_option maxHeartbeats 1000000 in
theorem c_A2Sun (w : World) (a : Option Addr) (n ca : Nat) (hn : n ≤ 4096) (hb : Bts w a n) :
    Calls Try.prog 31 #[.slice a n ca] w fun e w' => (∃ hs ts, hs.length = 24 ∧ ts.length = 24 ∧ okS hs ts = true ∧ e = .returned (.agg (scells hs ts))) ∧ Below w.heap.size w w' := by
  have b0 : Below w.heap.size w (w.alloc (.cells zS 59)) := (Below.refl _ _).alloc (Nat.le_refl _) _
  have B0 := hid b0
  have e1 : (w.alloc (.cells zS 59)).heap.size = w.heap.size + 1 := by simp
  have E1 := hid e1
  have S := src_new ca (bts_below' hb b0) hn
  rw [e1] at S
  have C := hid (c_l01Drawn _ (w.heap.size + 1) 0 a n ca (by omega) S)
  clear S e1
  have R : Hid ((w.alloc (.cells zS 59)).heap[w.heap.size]? = some (.cells zS 59 (0, 0))) := hid (blk_at _ _ _ rfl)
  have SZ : Hid (∀ hs ts : List Int, hs.length = 24 → ts.length = 24 → (Try.prog.info? 59).map (·.size) = some (scells hs ts).size) := hid (fun hs ts lh lt => by rw [scells_size lh lt]; kernel_rfl)
  clear hb b0
  go_enter Try.func31, Try.ntmps31
  go_wp2_with (first | (go_at_call 38; refine (c_l00From _ _ _ _).mono ?_; rintro e w1 ⟨rfl, rfl⟩))
  refine C.out.mono ?_
  rintro e w2 ⟨⟨hs, ts, lh, lt, ok, rfl⟩, _, ho⟩
  rw [← E1.out] at ho
  have h2 := only_new ho
  have R2 := hid ((h2.block _ (block_lt R.out)).trans R.out)
  have B2 := hid (below_setRow (below_trans B0.out h2 B0.out.size) (g := w.heap.size) (Nat.le_refl _) (scells hs ts))
  have LH := hid lh
  have LT := hid lt
  have OK := hid ok
  clear ho h2 lh lt ok
  go_wp2_with (refine wpList_store_row rfl 59 _ _ rfl w.heap.size (scells hs ts) rfl rfl 59 zS R2.out (SZ.out _ _ LH.out LT.out) (by rw [zS_is, scells_size rfl rfl, scells_size LH.out LT.out]) (scells_one _ _) ?_)
  refine bodyPost_ret (v := .agg (scells hs ts)) (results_cell_row rfl _ _ w.heap.size 59 (scells hs ts) (0, 0) _ rfl ?_ Try.underlying59 rfl (SZ.out _ _ LH.out LT.out)) rfl ⟨⟨hs, ts, LH.out, LT.out, OK.out, rfl⟩, B2.out⟩
  exact blk_row_same _ _ zS _ _ _ R2.out
theorem c_a2Long (a0 a1 : Option Addr) (n0 c0 n1 c1 : Nat) (w : World) :
    Calls Try.prog 5 #[.slice a0 n0 c0, .slice a1 n1 c1] w fun e w' => e = .returned (.bool (decide (3000 < n0) || decide (3000 < n1))) ∧ w = w' := by
  by_cases h0 : 3000 < n0
  · have e0 : (3000 : Int) < n0 := by omega
    go_enter Try.func5, Try.ntmps5
    go_wp2
    go_ret
    exact ⟨ret_bool (by rw [show decide (3000 < n0) = true from decide_eq_true h0]; rfl), rfl⟩
  · have e0 : ¬ (3000 : Int) < n0 := by omega
    go_enter Try.func5, Try.ntmps5
    go_wp2
    go_ret
    exact ⟨ret_bool (by rw [Bool.eq_iff_iff]; simp; omega), rfl⟩
theorem c_a2At (a : Option Addr) (n ca : Nat) (k m : Nat) (hm : 1 ≤ m) (hm2 : m ≤ 1000) (hk : k ≤ 1000) (w : World) (hb : Bts w a n) :
    Calls Try.prog 8 #[.slice a n ca, .int .i64 (k : Int), .int .i64 (m : Int)] w fun e w' => (∃ x : Nat, x < m ∧ e = .returned (.int .i64 (x : Int))) ∧ w = w' := by
  by_cases h : k < n
  · obtain ⟨g, off, rfl, hc⟩ := hb (by omega)
    obtain ⟨c, hc1, hc2⟩ := hc k h
    have h' : (k : Int) < n := by omega
    have hm' : ¬ (m : Int) < 1 := by omega
    have hm0 : ¬ (m : Int) = 0 := by omega
    clear hc
    go_enter Try.func8, Try.ntmps8
    go_wp2
    go_ret
    exact ⟨⟨c % m, Nat.mod_lt _ (by omega), rfl⟩, rfl⟩
  · have h' : ¬ (k : Int) < n := by omega
    go_enter Try.func8, Try.ntmps8
    go_wp2
    go_ret
    exact ⟨⟨0, by omega, rfl⟩, rfl⟩
theorem and_u32_nat (a b : Nat) (ha : a < 4294967296) (hb : b < 4294967296) : bits .and .u32 (a : Int) (b : Int) = ((a &&& b : Nat) : Int) := by
  have h1 : (BitVec.ofInt 32 (a : Int)).toNat = a := by
    rw [BitVec.ofInt_natCast, BitVec.toNat_ofNat]; exact Nat.mod_eq_of_lt (by omega)
  have h2 : (BitVec.ofInt 32 (b : Int)).toNat = b := by
    rw [BitVec.ofInt_natCast, BitVec.toNat_ofNat]; exact Nat.mod_eq_of_lt (by omega)
  have hx : a &&& b ≤ a := Nat.and_le_left
  show IntKind.u32.wrap ((BitVec.ofInt 32 (a : Int) &&& BitVec.ofInt 32 (b : Int)).toNat : Int) = _
  rw [BitVec.toNat_and, h1, h2, IntKind.wrap_u32]
  omega
set_option maxHeartbeats 1000000 in
theorem c_A2Bits (w : World) (a : Option Addr) (n ca : Nat) (B : Bld) (wf : WfB B) (hB : OkB B) (hn : n ≤ 4096) (hb : Bts w a n) :
    Calls Try.prog 21 #[.slice a n ca, .agg (bcells B)] w fun e w' => (∃ m : Nat, m < 2 ^ nS B ∧ e = .returned (.int .u32 (m : Int))) ∧ Below w.heap.size w w' := by
  have b0 : Below w.heap.size w (w.alloc (.cells (bcells B) 30)) := (Below.refl _ _).alloc (Nat.le_refl _) _
  have B0 := hid b0
  have e1 : (w.alloc (.cells (bcells B) 30)).heap.size = w.heap.size + 1 := by simp
  have E1 := hid e1
  have S := src_new ca (bts_below' hb b0) hn
  rw [e1] at S
  have C := hid (c_l01Raw _ (w.heap.size + 1) 0 a n ca (by omega) S)
  clear S e1
  have R : Hid ((w.alloc (.cells (bcells B) 30)).heap[w.heap.size]? = some (.cells (bcells B) 30 (0, 0))) := hid (blk_at _ _ _ rfl)
  have WF := hid wf
  have HB := hid hB
  clear hb b0 wf hB
  go_enter Try.func21, Try.ntmps21
  go_wp2_with (first | (go_at_call 38; refine (c_l00From _ _ _ _).mono ?_; rintro e w1 ⟨rfl, rfl⟩))
  refine C.out.mono ?_
  rintro e w2 ⟨⟨r, hr, rfl⟩, _, ho⟩
  rw [← E1.out] at ho
  have h2 := only_new ho
  have R2 := hid (BldAt.of_block ((h2.block _ (block_lt R.out)).trans R.out))
  have B2 := hid (below_trans B0.out h2 B0.out.size)
  clear ho h2
  have hS : min 24 B.sl = (nS B : Int) := by have := HB.out.sl; unfold nS; omega
  have nl := nS_le B
  have HS := hid hS
  clear hS
  go_wp2_with (go_at_call 70; refine (c_l07Looked B _ 0 _ R2.out WF.out).mono ?_; rintro e w3 ⟨rfl, rfl⟩; rw [HS.out])
  have h1 : (2 : Nat) ^ nS B ≤ 2 ^ 24 := Nat.pow_le_pow_right (by omega) nl
  have h0 := Nat.two_pow_pos (nS B)
  have e : ((2 : Int) ^ nS B - 1) % 4294967296 = ((2 ^ nS B - 1 : Nat) : Int) := by
    have : ((2 ^ nS B : Nat) : Int) = (2 : Int) ^ nS B := by simp
    omega
  have e2 := and_u32_nat r (2 ^ nS B - 1) hr (by omega)
  rw [Nat.and_two_pow_sub_one_eq_mod] at e2
  go_ret
  exact ⟨⟨r % 2 ^ nS B, Nat.mod_lt _ h0, by rw [← e2, ← e]; rfl⟩, B2.out⟩
end Go.Proofs.Ytboddpifepegcaa
