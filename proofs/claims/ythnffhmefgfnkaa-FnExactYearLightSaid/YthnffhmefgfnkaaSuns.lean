/- Walks of the laws' own functions on slices of suns: sizes, copies, comparisons, marks. -/
import Derived.Test.YthnffhmefgfnkaaSlab
import Derived.Test.YthnffhmefgfnkaaDay
import Derived.Deep.LoopGhost
namespace Go.Proofs.Ythnffhmefgfnkaa
set_option maxRecDepth 20000
open Go.RowKit

theorem c_szSunS (a : Option Addr) (n c : Nat) (hn : n ≤ 1048576) (w : World) :
    Calls Try.prog 41 #[.slice a n c, .int .i64 1048576] w fun e w' => e = .returned (.int .i64 (1048576 - (n : Int))) ∧ w = w' := by
  go_enter Try.func41, Try.ntmps41
  go_wp2
  go_ret
  exact ⟨rfl, rfl⟩
theorem c_szSunS_no (a : Option Addr) (n c : Nat) (hn : ¬ n ≤ 1048576) (hm : n ≤ 9223372036854775807) (w : World) :
    Calls Try.prog 41 #[.slice a n c, .int .i64 1048576] w fun e w' => e = .returned (.int .i64 (-1)) ∧ w = w' := by
  have h1 : 1048576 < n := by omega
  clear hn
  go_enter Try.func41, Try.ntmps41
  go_wp2
  go_ret
  exact ⟨rfl, rfl⟩
set_option maxHeartbeats 1000000 in
theorem c_toSunS (a : Option Addr) (n ca : Nat) (H T : Nat → List Int) (w : World) (hok : SunsOk H T n) (hx : Rws w a n 48 (scs H T)) :
    Calls Try.prog 43 #[.slice a n ca] w fun e w' => ∃ b, e = .returned (.slice (some ⟨b, 0, none⟩) n n) ∧ OwnR w' b n 48 45 (scs H T) ∧ w.heap.size ≤ b ∧ Below w.heap.size w w' := by
  obtain ⟨C, hC, hmk⟩ := run_make_rows (P := Try.prog) 74 45 96 48 Try.underlying74 (by kernel_rfl) n (by have := hx.small; omega) (by have := hx.small; omega)
  have hn := hx.small
  have X := hid hx
  have OK := hid hok
  have HC := hid hC
  clear hx hok hC
  go_enter Try.func43, Try.ntmps43
  go_wp2
  clear hmk
  go_loopw [4] (fun i wr => ∃ k : Nat, k ≤ n ∧ i = .int .i64 k ∧ PartR wr w.heap.size n 48 45 (scs H T) k ∧ Below w.heap.size w wr) (fun i _ => n - (intOf i).toNat)
  case atStart => exact ⟨0, by omega, rfl, PartR.new HC.out rfl, (Below.refl _ _).alloc (Nat.le_refl _) _⟩
  case round =>
    obtain ⟨k, hk, rfl, hp, hb⟩ := hrel
    have P := hid hp
    have B := hid hb
    clear hp hb
    by_cases hlt : k < n
    · obtain ⟨b, o, rfl, hc⟩ := (X.out.below B.out).at_ (by omega)
      have R := hid (hc k hlt)
      have C1 := hid (fun w => c_toSun (H k) (T k) (OK.out k hlt).1 (OK.out k hlt).2.1 w)
      have S1 : Hid ((Try.prog.info? 42).map (·.size) = some (scs H T k).length) := hid (by rw [scs_len OK.out hlt]; kernel_rfl)
      have S2 : Hid ((Try.prog.info? 45).map (·.size) = some (scells (H k) (T k)).size) := hid (by rw [scells_size (OK.out k hlt).1 (OK.out k hlt).2.1]; kernel_rfl)
      have S3 : Hid ((scells (H k) (T k)).size = 48) := hid (scells_size (OK.out k hlt).1 (OK.out k hlt).2.1)
      clear hc
      go_wp2_with (refine wpList_load_mid rfl 42 _ rfl b (o + k * 48) rfl (scs H T k) _ R.out Try.underlying42 rfl S1.out ?_)
      refine (C1.out _).mono ?_
      rintro e w1 ⟨rfl, h1⟩
      have P1 := hid (P.out.below h1)
      have B1 := hid (below_trans B.out h1 B.out.size)
      clear h1
      go_wp2_with (refine wpList_store_mid rfl 45 _ _ rfl w.heap.size (k * 48) (scells (H k) (T k)) (by first | rfl | (go_simp; rw [Nat.zero_add])) rfl (P1.out.there hlt S3.out) S2.out (scells_one _ _) ?_)
      exact ⟨⟨k + 1, by omega, by go_num, P1.out.put (fun i hi => scs_len OK.out (by omega)) hlt, setCells_below B1.out (Nat.le_refl _) _ _⟩, by simp [intOf]; omega⟩
    · obtain rfl : k = n := by omega
      go_wp2
      go_ret
      exact ⟨_, rfl, P.out, Nat.le_refl _, B.out⟩
theorem c_eqInt16A24 (p : List Int) (lp : p.length = 24) (w : World) :
    Calls Try.prog 120 #[.agg (i16s p), .agg (i16s p)] w fun e w' => e = .returned (.bool true) ∧ Below w.heap.size w w' := by
  have H0 : Hid (Below w.heap.size w ((w.alloc (.cells (i16s p) 40)).alloc (.cells (i16s p) 40))) := hid (((Below.refl _ _).alloc (Nat.le_refl _) _).alloc (by simp) _)
  have hb1 : ((w.alloc (.cells (i16s p) 40)).alloc (.cells (i16s p) 40)).heap[w.heap.size]? = some (.cells (i16s p) 40 (0, 0)) := (blk_past _ _ _ (by simp)).trans (blk_at _ _ _ rfl)
  have hb2 : ((w.alloc (.cells (i16s p) 40)).alloc (.cells (i16s p) 40)).heap[w.heap.size + 1]? = some (.cells (i16s p) 40 (0, 0)) := blk_at _ _ _ (by simp)
  have X1 := hid (PlnAt.of_block lp hb1)
  have X2 := hid (PlnAt.of_block lp hb2)
  clear hb1 hb2 lp
  go_enter Try.func120, Try.ntmps120
  go_wp2
  go_loopw [5] (fun i wr => ∃ k : Nat, k ≤ 24 ∧ i = .int .i64 k ∧ Below ((w.alloc (.cells (i16s p) 40)).alloc (.cells (i16s p) 40)).heap.size ((w.alloc (.cells (i16s p) 40)).alloc (.cells (i16s p) 40)) wr) (fun i _ => 24 - (intOf i).toNat)
  case atStart => exact ⟨0, by omega, rfl, Below.refl _ _⟩
  case round =>
    obtain ⟨k, hk, rfl, hbel⟩ := hrel
    have Hbel := hid hbel
    clear hbel
    by_cases hlt : k < 24
    · have h1 := cell_stays Hbel.out (X1.out k hlt)
      have h2 := cell_stays Hbel.out (X2.out k hlt)
      have h3 : (iat p k != iat p k) = false := by simp
      go_wp2_with fail
      refine wp_region_below (by kernel_rfl) (by kernel_rfl) ?_
      repeat (first | (refine wpQuiet_load_cell rfl 24 _ rfl ⟨w.heap.size, k, none⟩ rfl (.int .i16 (iat p k)) _ (fun wx hwx => cell_stays hwx.out h1) Try.underlying24 rfl ?_) | (refine wpQuiet_load_cell rfl 24 _ rfl ⟨w.heap.size + 1, k, none⟩ rfl (.int .i16 (iat p k)) _ (fun wx hwx => cell_stays hwx.out h2) Try.underlying24 rfl ?_) | (refine wpQuiet_step (fun K hK => ?_); go_simp; first | (refine hK _ ?_; clear hK K) | (refine ⟨_, fun _ _ => rfl, hK _ ?_⟩; clear hK K)))
      refine wpQuiet_nil ?_
      intro w2 h2b
      replace h2b := h2b.out
      go_wp2
      all_goals (refine ⟨⟨k + 1, by omega, by go_num, below_trans Hbel.out h2b Hbel.out.size⟩, by simp [intOf]; omega⟩)
    · obtain rfl : k = 24 := by omega
      go_wp2
      go_ret
      exact ⟨rfl, below_trans H0.out Hbel.out H0.out.size⟩
theorem c_eqSun (hs ts : List Int) (lh : hs.length = 24) (lt : ts.length = 24) (w : World) :
    Calls Try.prog 89 #[.agg (scells hs ts), .agg (scells hs ts)] w fun e w' => e = .returned (.bool true) ∧ Below w.heap.size w w' := by
  have H0 : Hid (Below w.heap.size w ((w.alloc (.cells (scells hs ts) 45)).alloc (.cells (scells hs ts) 45))) := hid (((Below.refl _ _).alloc (Nat.le_refl _) _).alloc (by simp) _)
  have X1 : Hid (((w.alloc (.cells (scells hs ts) 45)).alloc (.cells (scells hs ts) 45)).heap[w.heap.size]? = some (.cells (scells hs ts) 45 (0, 0))) := hid ((blk_past _ _ _ (by simp)).trans (blk_at _ _ _ rfl))
  have X2 : Hid (((w.alloc (.cells (scells hs ts) 45)).alloc (.cells (scells hs ts) 45)).heap[w.heap.size + 1]? = some (.cells (scells hs ts) 45 (0, 0))) := hid (blk_at _ _ _ (by simp))
  have hs1 : Hid ((Try.prog.info? 40).map (·.size) = some (i16s hs).toList.length) := hid (by simp only [i16s, List.length_map, lh]; kernel_rfl)
  have hs2 : Hid ((Try.prog.info? 40).map (·.size) = some (i16s ts).toList.length) := hid (by simp only [i16s, List.length_map, lt]; kernel_rfl)
  have C1 := hid (fun w => c_eqInt16A24 hs lh w)
  have C2 := hid (fun w => c_eqInt16A24 ts lt w)
  have LH := hid lh
  have LT := hid lt
  clear lh lt
  go_enter Try.func89, Try.ntmps89
  go_wp2_with (first | (refine wpList_load_mid rfl 40 _ rfl w.heap.size 0 rfl (i16s hs).toList _ (range_hs X1.out LH.out) Try.underlying40 rfl hs1.out ?_) | (refine wpList_load_mid rfl 40 _ rfl (w.heap.size + 1) 0 rfl (i16s hs).toList _ (range_hs X2.out LH.out) Try.underlying40 rfl hs1.out ?_))
  refine (C1.out _).mono ?_
  rintro e w1 ⟨rfl, h1⟩
  have X3 := hid ((h1.block _ (block_lt X1.out)).trans X1.out)
  have X4 := hid ((h1.block _ (block_lt X2.out)).trans X2.out)
  have H1 := hid (below_trans H0.out h1 H0.out.size)
  clear h1
  go_wp2_with (first | (refine wpList_load_mid rfl 40 _ rfl w.heap.size 24 rfl (i16s ts).toList _ (range_ts X3.out LH.out LT.out) Try.underlying40 rfl hs2.out ?_) | (refine wpList_load_mid rfl 40 _ rfl (w.heap.size + 1) 24 rfl (i16s ts).toList _ (range_ts X4.out LH.out LT.out) Try.underlying40 rfl hs2.out ?_))
  refine (C2.out _).mono ?_
  rintro e w2 ⟨rfl, h2⟩
  have H2 := hid (below_trans H1.out h2 H1.out.size)
  clear h2
  go_wp2
  go_ret
  exact ⟨rfl, H2.out⟩
theorem wpQuiet_load_mid {P : Program} {ops : Array Oper} {C : World → Prop} {Q : Act → Prop} {rest : List Oper} {o : Oper} {a : Act} (hgd : o.guard = none) (ty : TypeId) (x : Operand) (ho : o.op = .load ty x)
    (b off : Nat) (hx : a.eval x = .pointer (some ⟨b, off, none⟩)) (cs : List Value) (d : TypeDesc) (hg : ∀ w, C w → w.rangeAt b off cs)
    (hu : P.underlying ty = some d) (hd : d.isRow = true) (hi : (P.info? ty).map (·.size) = some cs.length)
    (h : wpQuiet P ops C Q rest (a.put o.dst (.agg cs.toArray))) : wpQuiet P ops C Q (o :: rest) a :=
  wpQuiet_step fun K hK => by
    rw [if_pos (by simp [Region.wanted, hgd])]
    refine ⟨.agg cs.toArray, fun w hw => ?_, hK _ h⟩
    unfold Oper.quietAt execOp
    simp only [ho, hx, Instr.loadAt, Instr.sureAddr, Sem.run_bind, Sem.run_pure, Result.andThen_ok, run_loadVar_mid w b off ty cs d (hg w hw) hu hd hi]
    exact ⟨rfl, rfl⟩
theorem c_eqSunS (a b : Option Addr) (n ca cb : Nat) (H T : Nat → List Int) (w : World) (hok : SunsOk H T n) (hx : Rws w a n 48 (scs H T)) (hy : Rws w b n 48 (scs H T)) :
    Calls Try.prog 45 #[.slice a n ca, .slice b n cb] w fun e w' => e = .returned (.bool true) ∧ Below w.heap.size w w' := by
  have hn := hx.small
  have X := hid hx
  have Y := hid hy
  have OK := hid hok
  clear hx hy hok
  go_enter Try.func45, Try.ntmps45
  go_wp2
  go_loopw [5] (fun i wr => ∃ k : Nat, k ≤ n ∧ i = .int .i64 k ∧ Below w.heap.size w wr) (fun i _ => n - (intOf i).toNat)
  case atStart => exact ⟨0, by omega, rfl, Below.refl _ _⟩
  case round =>
    obtain ⟨k, hk, rfl, hb⟩ := hrel
    have B := hid hb
    clear hb
    by_cases hlt : k < n
    · obtain ⟨b1, o1, rfl, hc1⟩ := (X.out.below B.out).at_ (by omega)
      obtain ⟨b2, o2, rfl, hc2⟩ := (Y.out.below B.out).at_ (by omega)
      have R1 := hid (hc1 k hlt)
      have R2 := hid (hc2 k hlt)
      have C1 := hid (fun w => c_eqSun (H k) (T k) (OK.out k hlt).1 (OK.out k hlt).2.1 w)
      have S1 : Hid ((Try.prog.info? 45).map (·.size) = some (scs H T k).length) := hid (by rw [scs_len OK.out hlt]; kernel_rfl)
      have hkn : (k : Int) < (n : Int) := by omega
      have hwk : IntKind.i64.wrap (k : Int) = (k : Int) := by rw [IntWalk.i64_in] <;> omega
      have hk0 : (0 : Int) ≤ (k : Int) := by omega
      clear hc1 hc2
      go_wp2_with fail
      refine wp_region_below (by kernel_rfl) (by kernel_rfl) ?_
      repeat (first | (refine wpQuiet_load_mid rfl 45 _ rfl b1 (o1 + k * 48) rfl (scs H T k) _ (fun wx hwx => range_below R1.out hwx.out) Try.underlying45 rfl S1.out ?_) | (refine wpQuiet_load_mid rfl 45 _ rfl b2 (o2 + k * 48) rfl (scs H T k) _ (fun wx hwx => range_below R2.out hwx.out) Try.underlying45 rfl S1.out ?_) | (refine wpQuiet_step (fun K hK => ?_); go_simp; first | (refine hK _ ?_; clear hK K) | (refine ⟨_, fun _ _ => rfl, hK _ ?_⟩; clear hK K) | (apply Exists.intro; refine ⟨fun wx hwx => ?_, hK _ ?_⟩; (first | exact quiet_below hwx (C1.out _)); clear hK K)))
      refine wpQuiet_nil ?_
      intro w2 h2
      replace h2 := h2.out
      have B2 := hid (below_trans B.out h2 B.out.size)
      clear h2 hwk
      go_wp2
      all_goals (refine ⟨⟨k + 1, by omega, by go_num, B2.out⟩, by simp [intOf]; omega⟩)
    · obtain rfl : k = n := by omega
      go_wp2
      go_ret
      exact ⟨rfl, B.out⟩
theorem grown_set (w : World) (b o : Nat) (v : Value) : w.grownBy (w.setCell ⟨b, o, none⟩ v) (some b) :=
  ⟨rfl, rfl, rfl, by simp, fun i _ hne => heap_setCell_other w ⟨b, o, none⟩ i v (fun e => hne (e ▸ rfl))⟩
theorem grown_trans' {a b c : World} {r : Option Nat} (h : a.grownBy b r) (k : b.grownBy c r) : a.grownBy c r :=
  ⟨k.os.trans h.os, k.tape.trans h.tape, k.output.trans h.output, Nat.le_trans h.size k.size, fun i hi hne => (k.block i (Nat.lt_of_lt_of_le hi h.size) hne).trans (h.block i hi hne)⟩
set_option maxHeartbeats 1000000 in
theorem c_markSunS (b n k0 : Nat) (cs : Nat → List Value) (w : World) (h : PartR w b n 48 45 cs 0) (hn : n ≤ 1048576) (hk0 : k0 ≤ 1000) :
    Calls Try.prog 52 #[.slice (some ⟨b, 0, none⟩) n n, .int .i64 (k0 : Int)] w fun e w' => e = .returned (.int .i64 ((k0 + n * 48 : Nat) : Int)) ∧ PartR w' b n 48 45 cs 0 ∧ w.grownBy w' (some b) := by
  have P := hid h
  clear h
  go_enter Try.func52, Try.ntmps52
  go_wp2
  go_loopw [1, 5] (fun m i wr => ∃ k : Nat, k ≤ n ∧ i = .int .i64 k ∧ m = .int .i64 ((k0 + k * 48 : Nat) : Int) ∧ PartR wr b n 48 45 cs 0 ∧ w.grownBy wr (some b)) (fun _ i _ => n - (intOf i).toNat)
  case atStart => exact ⟨0, by omega, rfl, by simp, P.out, World.grownBy.refl _ _⟩
  case round =>
    obtain ⟨k, hk, rfl, rfl, hp, hg⟩ := hrel
    have P1 := hid hp
    have G1 := hid hg
    clear hp hg
    by_cases hlt : k < n
    · obtain ⟨wo, rfl⟩ : ∃ wo : World, wo = wr := ⟨_, rfl⟩
      go_wp2
      go_loopw [1, 6] (fun m j wr => ∃ q : Nat, q ≤ 24 ∧ j = .int .i64 q ∧ m = .int .i64 ((k0 + k * 48 + q : Nat) : Int) ∧ PartR wr b n 48 45 cs 0 ∧ w.grownBy wr (some b)) (fun _ j _ => 24 - (intOf j).toNat)
      case atStart => exact ⟨0, by omega, rfl, rfl, P1.out, G1.out⟩
      case round =>
        obtain ⟨q, hq, rfl, rfl, hp, hg⟩ := hrel
        have P2 := hid hp
        have G2 := hid hg
        clear hp hg
        by_cases hlq : q < 24
        · obtain ⟨v, hv⟩ := Option.isSome_iff_exists.1 (P2.out.cell hlt (j := q) (by omega)).1
          have hf := (P2.out.cell hlt (j := q) (by omega)).2
          have hqi : (q : Int) < 24 := by omega
          go_wp2
          exact ⟨⟨q + 1, by omega, by go_num, by go_num, P2.out.cell_put _ _, grown_trans' G2.out (grown_set _ _ _ _)⟩, by simp [intOf]; omega⟩
        · obtain rfl : q = 24 := by omega
          obtain ⟨wo, rfl⟩ : ∃ wo : World, wo = wr := ⟨_, rfl⟩
          go_wp2
          go_loopw [1, 7] (fun m j wr => ∃ q : Nat, q ≤ 24 ∧ j = .int .i64 q ∧ m = .int .i64 ((k0 + k * 48 + 24 + q : Nat) : Int) ∧ PartR wr b n 48 45 cs 0 ∧ w.grownBy wr (some b)) (fun _ j _ => 24 - (intOf j).toNat)
          case atStart => exact ⟨0, by omega, rfl, rfl, P2.out, G2.out⟩
          case round =>
            obtain ⟨q, hq, rfl, rfl, hp, hg⟩ := hrel
            have P3 := hid hp
            have G3 := hid hg
            clear hp hg
            by_cases hlq : q < 24
            · obtain ⟨v, hv⟩ := Option.isSome_iff_exists.1 (P3.out.cell hlt (j := 24 + q) (by omega)).1
              have hf := (P3.out.cell hlt (j := 24 + q) (by omega)).2
              rw [← Nat.add_assoc] at hv hf
              have hqi : (q : Int) < 24 := by omega
              go_wp2
              exact ⟨⟨q + 1, by omega, by go_num, by go_num, P3.out.cell_put _ _, grown_trans' G3.out (grown_set _ _ _ _)⟩, by simp [intOf]; omega⟩
            · obtain rfl : q = 24 := by omega
              go_wp2
              exact ⟨⟨k + 1, by omega, by go_num, by go_num, P3.out, G3.out⟩, by simp [intOf]; omega⟩
    · obtain rfl : k = n := by omega
      go_wp2
      go_ret
      exact ⟨rfl, P1.out, G1.out⟩
end Go.Proofs.Ythnffhmefgfnkaa
