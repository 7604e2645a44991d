/- Walks of the laws' own functions on controls, states and slices of ticks; the codes. -/
import Derived.Test.YtmjmgfojdomhlaaTickV
import Derived.Test.YtmjmgfojdomhlaaEq
import Derived.Test.YtmjmgfojdomhlaaOpen
namespace Go.Proofs.Ytmjmgfojdomhlaa
set_option maxRecDepth 20000
open Go.RowKit

theorem c_szTickS (a : Option Addr) (n c : Nat) (hn : n ≤ 1048576) (w : World) :
    Calls Try.prog 9 #[.slice a n c, .int .i64 1048576] w fun e w' => e = .returned (.int .i64 (1048576 - (n : Int))) ∧ w = w' := by
  go_enter Try.func9, Try.ntmps9
  go_wp2
  go_ret
  exact ⟨rfl, rfl⟩
theorem c_szTickS_no (a : Option Addr) (n c : Nat) (hn : ¬ n ≤ 1048576) (hm : n ≤ 9223372036854775807) (w : World) :
    Calls Try.prog 9 #[.slice a n c, .int .i64 1048576] w fun e w' => e = .returned (.int .i64 (-1)) ∧ w = w' := by
  have h1 : 1048576 < n := by omega
  clear hn
  go_enter Try.func9, Try.ntmps9
  go_wp2
  go_ret
  exact ⟨rfl, rfl⟩
theorem size_tk (t : Tck) : (Try.prog.info? 110).map (·.size) = some (tcells t).size := by kernel_rfl
theorem size_ct (c : Ctl) : (Try.prog.info? 35).map (·.size) = some (ccells c).size := by kernel_rfl
theorem size_st' (s : Sta) : (Try.prog.info? 39).map (·.size) = some (stcells s).size := by kernel_rfl
theorem c_toTick (t : Tck) (w : World) :
    Calls Try.prog 68 #[.agg (tcells t)] w fun e w' => e = .returned (.agg (tcells t)) ∧ Below w.heap.size w w' := by
  have hsz := size_tk t
  simp only [tcells] at hsz ⊢
  have hs := hid hsz
  clear hsz
  go_enter Try.func68, Try.ntmps68
  go_wp2
  refine bodyPost_ret (v := .agg #[.float .f32 t.li, .float .f32 t.gu, .int .i8 t.he]) (results_cell_row rfl _ _ (w.heap.size + 1) 110 _ (0, 0) _ rfl ?_ Try.underlying110 rfl hs.out) rfl ⟨rfl, ?_⟩
  · exact (blk_past _ _ _ (by simp)).trans (blk_at _ _ _ (by simp))
  · exact (((Below.refl _ _).alloc (Nat.le_refl _) _).alloc (by simp) _).alloc (by simp; omega) _
theorem c_toState (s : Sta) (w : World) :
    Calls Try.prog 13 #[.agg (stcells s)] w fun e w' => e = .returned (.agg (stcells s)) ∧ Below w.heap.size w w' := by
  have hsz := size_st' s
  simp only [stcells] at hsz ⊢
  have hs := hid hsz
  clear hsz
  go_enter Try.func13, Try.ntmps13
  go_wp2
  refine bodyPost_ret (v := .agg #[.int .i16 s.ti, .int .i8 s.wa, .int .i8 s.so]) (results_cell_row rfl _ _ (w.heap.size + 1) 39 _ (0, 0) _ rfl ?_ Try.underlying39 rfl hs.out) rfl ⟨rfl, ?_⟩
  · exact (blk_past _ _ _ (by simp)).trans (blk_at _ _ _ (by simp))
  · exact (((Below.refl _ _).alloc (Nat.le_refl _) _).alloc (by simp) _).alloc (by simp; omega) _
theorem c_toControl (c : Ctl) (w : World) :
    Calls Try.prog 11 #[.agg (ccells c)] w fun e w' => e = .returned (.agg (ccells c)) ∧ Below w.heap.size w w' := by
  have hsz := size_ct c
  simp only [ccells] at hsz ⊢
  have hs := hid hsz
  clear hsz
  go_enter Try.func11, Try.ntmps11
  go_wp2
  refine bodyPost_ret (v := .agg #[.float .f32 c.lo, .float .f32 c.hi, .float .f32 c.wi, .int .i8 c.st, .int .i8 c.de, .int .i8 c.ca]) (results_cell_row rfl _ _ (w.heap.size + 1) 35 _ (0, 0) _ rfl ?_ Try.underlying35 rfl hs.out) rfl ⟨rfl, ?_⟩
  · exact (blk_past _ _ _ (by simp)).trans (blk_at _ _ _ (by simp))
  · exact (((Below.refl _ _).alloc (Nat.le_refl _) _).alloc (by simp) _).alloc (by simp; omega) _
set_option maxHeartbeats 1000000 in
theorem c_toTickS (a : Option Addr) (n ca : Nat) (T : Nat → Tck) (w : World) (hok : TcksOk T n) (hx : Rws w a n 3 (tcs T)) :
    Calls Try.prog 14 #[.slice a n ca] w fun e w' => ∃ b, e = .returned (.slice (some ⟨b, 0, none⟩) n n) ∧ OwnR w' b n 3 110 (tcs T) ∧ w.heap.size ≤ b ∧ Below w.heap.size w w' := by
  obtain ⟨C, hC, hmk⟩ := run_make_rows (P := Try.prog) 41 110 12 3 Try.underlying41 (by kernel_rfl) n (by have := hx.small; omega) (by have := hx.small; omega)
  have hn := hx.small
  have _ok := hok
  have X := hid hx
  have HC := hid hC
  clear hx hok hC _ok
  go_enter Try.func14, Try.ntmps14
  go_wp2
  clear hmk
  go_loopw [4] (fun i wr => ∃ k : Nat, k ≤ n ∧ i = .int .i64 k ∧ PartR wr w.heap.size n 3 110 (tcs T) k ∧ Below w.heap.size w wr) (fun i _ => n - (intOf i).toNat)
  case atStart => exact ⟨0, by omega, rfl, PartR.new HC.out rfl, (Below.refl _ _).alloc (Nat.le_refl _) _⟩
  case round =>
    obtain ⟨k, hk, rfl, hp, hb⟩ := hrel
    have P := hid hp
    have B := hid hb
    clear hp hb
    by_cases hlt : k < n
    · obtain ⟨b, o, rfl, hc⟩ := (X.out.below B.out).at_ (by omega)
      have R := hid (hc k hlt)
      have C1 := hid (fun w => c_toTick (T k) w)
      have S1 : Hid ((Try.prog.info? 112).map (·.size) = some (tcs T k).length) := hid (by rw [tcs_len]; kernel_rfl)
      have S2 := hid (size_tk (T k))
      clear hc
      go_wp2_with (refine wpList_load_mid rfl 112 _ rfl b (o + k * 3) rfl (tcs T k) _ R.out Try.underlying112 rfl S1.out ?_)
      refine (C1.out _).mono ?_
      rintro e w1 ⟨rfl, h1⟩
      have P1 := hid (P.out.below h1)
      have B1 := hid (below_trans B.out h1 B.out.size)
      clear h1
      go_wp2_with (refine wpList_store_mid rfl 110 _ _ rfl w.heap.size (k * 3) (tcells (T k)) (by first | rfl | (go_simp; rw [Nat.zero_add])) rfl (P1.out.there hlt rfl) S2.out (tcells_one _) ?_)
      exact ⟨⟨k + 1, by omega, by go_num, P1.out.put (fun i _ => tcs_len T i) hlt, setCells_below B1.out (Nat.le_refl _) _ _⟩, by simp [intOf]; omega⟩
    · obtain rfl : k = n := by omega
      go_wp2
      go_ret
      exact ⟨_, rfl, P.out, Nat.le_refl _, B.out⟩
set_option maxHeartbeats 1000000 in
theorem c_eqTick (t : Tck) (wt : WfT t) (w : World) :
    Calls Try.prog 72 #[.agg (tcells t), .agg (tcells t)] w fun e w' => e = .returned (.bool true) ∧ Below w.heap.size w w' := by
  have s1 := same64_conv wt.li wt.li
  have s2 := same64_conv wt.gu wt.gu
  rw [sameN_refl] at s1 s2
  have d1 := conv_DZero wt.li
  have d2 := conv_DZero wt.gu
  have hne : (t.he != t.he) = false := by simp
  simp only [tcells]
  cases hwx : isWord t.li <;> cases hwy : isWord t.gu
  · have c1 := run_conv_nan hwx
    have c2 := run_conv_nan hwy
    simp only [conv_nan hwx] at s1 d1
    simp only [conv_nan hwy] at s2 d2
    have D1 := hid d1
    have D2 := hid d2
    clear d1 d2 wt
    go_enter Try.func72, Try.ntmps72
    go_wp2_with fail
    refine (c_sameFloat _ _ (D1.out _) (D1.out _) _).mono ?_
    rintro e w' ⟨rfl, rfl⟩
    go_wp2_with fail
    refine (c_sameFloat _ _ (D2.out _) (D2.out _) _).mono ?_
    rintro e w' ⟨rfl, rfl⟩
    go_wp2
    go_ret
    exact ⟨rfl, by repeat (first | exact ((Below.refl _ _).alloc (Nat.le_refl _) _).alloc (by simp) _ | apply Below.drew)⟩
  · have c1 := run_conv_nan hwx
    have c2 := run_conv_word hwy
    simp only [conv_nan hwx] at s1 d1
    simp only [conv_word hwy] at s2 d2
    have s3 := s2 default default
    have D1 := hid d1
    have D2 := hid d2
    clear d1 d2 wt s2
    go_enter Try.func72, Try.ntmps72
    go_wp2_with fail
    refine (c_sameFloat _ _ (D1.out _) (D1.out _) _).mono ?_
    rintro e w' ⟨rfl, rfl⟩
    go_wp2_with fail
    refine (c_sameFloat _ _ (D2.out default) (D2.out default) _).mono ?_
    rintro e w' ⟨rfl, rfl⟩
    go_wp2
    go_ret
    exact ⟨rfl, by repeat (first | exact ((Below.refl _ _).alloc (Nat.le_refl _) _).alloc (by simp) _ | apply Below.drew)⟩
  · have c1 := run_conv_word hwx
    have c2 := run_conv_nan hwy
    simp only [conv_word hwx] at s1 d1
    simp only [conv_nan hwy] at s2 d2
    have s3 := s1 default default
    have D1 := hid d1
    have D2 := hid d2
    clear d1 d2 wt s1
    go_enter Try.func72, Try.ntmps72
    go_wp2_with fail
    refine (c_sameFloat _ _ (D1.out default) (D1.out default) _).mono ?_
    rintro e w' ⟨rfl, rfl⟩
    go_wp2_with fail
    refine (c_sameFloat _ _ (D2.out _) (D2.out _) _).mono ?_
    rintro e w' ⟨rfl, rfl⟩
    go_wp2
    go_ret
    exact ⟨rfl, by repeat (first | exact ((Below.refl _ _).alloc (Nat.le_refl _) _).alloc (by simp) _ | apply Below.drew)⟩
  · have c1 := run_conv_word hwx
    have c2 := run_conv_word hwy
    simp only [conv_word hwx] at s1 d1
    simp only [conv_word hwy] at s2 d2
    have s3 := s1 default default
    have s4 := s2 default default
    have D1 := hid d1
    have D2 := hid d2
    clear d1 d2 wt s1 s2
    go_enter Try.func72, Try.ntmps72
    go_wp2_with fail
    refine (c_sameFloat _ _ (D1.out default) (D1.out default) _).mono ?_
    rintro e w' ⟨rfl, rfl⟩
    go_wp2_with fail
    refine (c_sameFloat _ _ (D2.out default) (D2.out default) _).mono ?_
    rintro e w' ⟨rfl, rfl⟩
    go_wp2
    go_ret
    exact ⟨rfl, by repeat (first | exact ((Below.refl _ _).alloc (Nat.le_refl _) _).alloc (by simp) _ | apply Below.drew)⟩
theorem wpQuiet_load_midT {P : Program} {ops : Array Oper} {C : World → Prop} {Q : Act → Prop} {rest : List Oper} {o : Oper} {a : Act} (hgd : o.guard = none) (ty : TypeId) (x : Operand) (ho : o.op = .load ty x)
    (b off : Nat) (hx : a.eval x = .pointer (some ⟨b, off, none⟩)) (cs : List Value) (d : TypeDesc) (hg : ∀ w, C w → w.rangeAt b off cs)
    (hu : P.underlying ty = some d) (hd : d.isRow = true) (hi : (P.info? ty).map (·.size) = some cs.length)
    (h : wpQuiet P ops C Q rest (a.put o.dst (.agg cs.toArray))) : wpQuiet P ops C Q (o :: rest) a :=
  wpQuiet_step fun K hK => by
    rw [if_pos (by simp [Region.wanted, hgd])]
    refine ⟨.agg cs.toArray, fun w hw => ?_, hK _ h⟩
    unfold Oper.quietAt execOp
    simp only [ho, hx, Instr.loadAt, Instr.sureAddr, Sem.run_bind, Sem.run_pure, Result.andThen_ok, run_loadVar_mid w b off ty cs d (hg w hw) hu hd hi]
    exact ⟨rfl, rfl⟩
theorem c_eqTickS (a b : Option Addr) (n ca cb : Nat) (T : Nat → Tck) (w : World) (hok : TcksOk T n) (hx : Rws w a n 3 (tcs T)) (hy : Rws w b n 3 (tcs T)) :
    Calls Try.prog 16 #[.slice a n ca, .slice b n cb] w fun e w' => e = .returned (.bool true) ∧ Below w.heap.size w w' := by
  have hn := hx.small
  have X := hid hx
  have Y := hid hy
  have OK := hid hok
  clear hx hy hok
  go_enter Try.func16, Try.ntmps16
  go_wp2
  go_loopw [5] (fun i wr => ∃ k : Nat, k ≤ n ∧ i = .int .i64 k ∧ Below w.heap.size w wr) (fun i _ => n - (intOf i).toNat)
  case atStart => exact ⟨0, by omega, rfl, Below.refl _ _⟩
  case round =>
    obtain ⟨k, hk, rfl, hb⟩ := hrel
    have B := hid hb
    clear hb
    by_cases hlt : k < n
    · obtain ⟨b1, o1, rfl, hc1⟩ := (X.out.below B.out).at_ (by omega)
      obtain ⟨b2, o2, rfl, hc2⟩ := (Y.out.below B.out).at_ (by omega)
      have R1 := hid (hc1 k hlt)
      have R2 := hid (hc2 k hlt)
      have C1 := hid (fun w => c_eqTick (T k) (OK.out k hlt) w)
      have S1 : Hid ((Try.prog.info? 110).map (·.size) = some (tcs T k).length) := hid (by rw [tcs_len]; kernel_rfl)
      have hkn : (k : Int) < (n : Int) := by omega
      have hwk : IntKind.i64.wrap (k : Int) = (k : Int) := by rw [IntWalk.i64_in] <;> omega
      have hk0 : (0 : Int) ≤ (k : Int) := by omega
      clear hc1 hc2
      go_wp2_with fail
      refine wp_region_below (by kernel_rfl) (by kernel_rfl) ?_
      repeat (first | (refine wpQuiet_load_midT rfl 110 _ rfl b1 (o1 + k * 3) rfl (tcs T k) _ (fun wx hwx => range_below R1.out hwx.out) Try.underlying110 rfl S1.out ?_) | (refine wpQuiet_load_midT rfl 110 _ rfl b2 (o2 + k * 3) rfl (tcs T k) _ (fun wx hwx => range_below R2.out hwx.out) Try.underlying110 rfl S1.out ?_) | (refine wpQuiet_step (fun K hK => ?_); go_simp; first | (refine hK _ ?_; clear hK K) | (refine ⟨_, fun _ _ => rfl, hK _ ?_⟩; clear hK K) | (apply Exists.intro; refine ⟨fun wx hwx => ?_, hK _ ?_⟩; (first | exact quiet_below hwx (C1.out _)); clear hK K)))
      refine wpQuiet_nil ?_
      intro w2 h2
      replace h2 := h2.out
      have B2 := hid (below_trans B.out h2 B.out.size)
      clear h2 hwk
      go_wp2
      all_goals (refine ⟨⟨k + 1, by omega, by go_num, B2.out⟩, by simp [intOf]; omega⟩)
    · obtain rfl : k = n := by omega
      go_wp2
      go_ret
      exact ⟨rfl, B.out⟩
theorem grown_setT (w : World) (b o : Nat) (v : Value) : w.grownBy (w.setCell ⟨b, o, none⟩ v) (some b) :=
  ⟨rfl, rfl, rfl, by simp, fun i _ hne => heap_setCell_other w ⟨b, o, none⟩ i v (fun e => hne (e ▸ rfl))⟩
theorem grown_transT {a b c : World} {r : Option Nat} (h : a.grownBy b r) (k : b.grownBy c r) : a.grownBy c r :=
  ⟨k.os.trans h.os, k.tape.trans h.tape, k.output.trans h.output, Nat.le_trans h.size k.size, fun i hi hne => (k.block i (Nat.lt_of_lt_of_le hi h.size) hne).trans (h.block i hi hne)⟩
set_option maxHeartbeats 1000000 in
theorem c_markTickS (b n k0 : Nat) (cs : Nat → List Value) (w : World) (h : PartR w b n 3 110 cs 0) (hn : n ≤ 1048576) (hk0 : k0 ≤ 1000) :
    Calls Try.prog 21 #[.slice (some ⟨b, 0, none⟩) n n, .int .i64 (k0 : Int)] w fun e w' => e = .returned (.int .i64 ((k0 + n * 3 : Nat) : Int)) ∧ PartR w' b n 3 110 cs 0 ∧ w.grownBy w' (some b) := by
  have P := hid h
  clear h
  go_enter Try.func21, Try.ntmps21
  go_wp2
  go_loopw [1, 5] (fun m i wr => ∃ k : Nat, k ≤ n ∧ i = .int .i64 k ∧ m = .int .i64 ((k0 + k * 3 : Nat) : Int) ∧ PartR wr b n 3 110 cs 0 ∧ w.grownBy wr (some b)) (fun _ i _ => n - (intOf i).toNat)
  case atStart => exact ⟨0, by omega, rfl, by simp, P.out, World.grownBy.refl _ _⟩
  case round =>
    obtain ⟨k, hk, rfl, rfl, hp, hg⟩ := hrel
    have P1 := hid hp
    have G1 := hid hg
    clear hp hg
    by_cases hlt : k < n
    · obtain ⟨v0, hv0⟩ := Option.isSome_iff_exists.1 (P1.out.cell hlt (j := 0) (by omega)).1
      have hf0 := (P1.out.cell hlt (j := 0) (by omega)).2
      obtain ⟨v1, hv1⟩ := Option.isSome_iff_exists.1 (P1.out.cell hlt (j := 1) (by omega)).1
      have hf1 := (P1.out.cell hlt (j := 1) (by omega)).2
      obtain ⟨v2, hv2⟩ := Option.isSome_iff_exists.1 (P1.out.cell hlt (j := 2) (by omega)).1
      have hf2 := (P1.out.cell hlt (j := 2) (by omega)).2
      simp only [Nat.add_zero] at hv0 hf0
      go_wp2
      exact ⟨⟨k + 1, by omega, by go_num, by go_num, ((P1.out.cell_put _ _).cell_put _ _).cell_put _ _, grown_transT G1.out (grown_transT (grown_setT _ _ _ _) (grown_transT (grown_setT _ _ _ _) (grown_setT _ _ _ _)))⟩, by simp [intOf]; omega⟩
    · obtain rfl : k = n := by omega
      go_wp2
      go_ret
      exact ⟨rfl, P1.out, G1.out⟩
end Go.Proofs.Ytmjmgfojdomhlaa
