/- The codes of ticks; many ticks one after another, each handed to a closure. -/
import Derived.Test.YtmjmgfojdomhlaaTickE
import Derived.Test.YtmjmgfojdomhlaaTicks
namespace Go.Proofs.Ytmjmgfojdomhlaa
set_option maxRecDepth 20000
open Go.RowKit

def zTk : Array Value := #[.float .f32 0, .float .f32 0, .int .i8 0]
def RetIntB (w : World) (b : Bool) (e : Ending) (w' : World) : Prop := ∃ r : Int, e = .returned (.int .i64 r) ∧ someInt r b ∧ Below w.heap.size w w'
theorem c_ticksCode1 (t : Tck) (wt : WfT t) (w : World) :
    Calls Try.prog 144 #[.agg (tcells t)] w fun e w' => e = .returned (.bool (!okT t)) ∧ Below w.heap.size w w' := by
  have HZ := hid (size_tk t)
  have C1 := hid (fun w => c_ValidTick t wt w)
  have H0 : Hid (Below w.heap.size w (w.alloc (.cells (tcells t) 110))) := hid ((Below.refl _ _).alloc (Nat.le_refl _) _)
  clear wt
  go_enter Try.func144, Try.ntmps144
  go_wp2_with (first | (refine wpList_load_row rfl 110 _ rfl (w.heap.size) rfl 110 (tcells t) (0, 0) _ (blk_at _ _ _ rfl) Try.underlying110 rfl HZ.out ?_) | (go_at_call 145; refine (C1.out _).mono ?_; rintro e w1 ⟨rfl, h1⟩))
  go_ret
  exact ⟨rfl, below_trans H0.out h1 H0.out.size⟩
theorem c_IndexFunc_tick (a : Option Addr) (n ca : Nat) (T : Nat → Tck) (w : World) (hok : TcksOk T n) (hx : Rws w a n 3 (tcs T)) :
    Calls Try.prog 172 #[.slice a n ca, .func (.func 144) #[] #[]] w (RetIntB w (!okTs T n)) := by
  have X := hid hx
  have hn := hx.small
  have OK := hid hok
  clear hx hok
  go_enter Try.func172, Try.ntmps172
  go_wp2
  go_loopw [8] (fun i wr => ∃ k : Nat, k ≤ n ∧ i = .int .i64 k ∧ (∀ j, j < k → okT (T j) = true) ∧ Below w.heap.size w wr) (fun i _ => n - (intOf i).toNat)
  case atStart => exact ⟨0, by omega, rfl, by omega, Below.refl _ _⟩
  case round =>
    obtain ⟨k, hk, rfl, hall, hb⟩ := hrel
    have Hall := hid hall
    have B := hid hb
    clear hall hb
    by_cases hlt : k < n
    · obtain ⟨b1, o1, rfl, hc1⟩ := (X.out.below B.out).at_ (by omega)
      have R := hid (hc1 k hlt)
      have S1 : Hid ((Try.prog.info? 110).map (·.size) = some (tcs T k).length) := hid (by rw [tcs_len]; kernel_rfl)
      have C1 := fun w => c_ticksCode1 (T k) (OK.out k hlt) w
      clear hc1
      cases ht : okT (T k)
      all_goals
        rw [ht] at C1
        have C2 := hid C1
        clear C1
        go_wp2_with (first | (refine wpList_load_mid rfl 110 _ rfl b1 (o1 + k * 3) rfl (tcs T k) _ R.out Try.underlying110 rfl S1.out ?_) | (go_at_call 144; refine (C2.out _).mono ?_; rintro e w1 ⟨rfl, h1⟩; have B2 := hid (below_trans B.out h1 B.out.size); clear h1))
      · go_ret
        exact ⟨_, rfl, .inl ⟨by omega, by rw [okTs_no hlt ht]; rfl, by omega⟩, B2.out⟩
      · refine ⟨⟨k + 1, by omega, by go_num, fun j hj => ?_, B2.out⟩, by simp [intOf]; omega⟩
        rcases Nat.lt_or_ge j k with h | h
        · exact Hall.out j h
        · obtain rfl : j = k := by omega
          exact ht
    · obtain rfl : k = n := by omega
      go_wp2
      go_ret
      exact ⟨_, rfl, .inr ⟨rfl, by rw [okTs_yes Hall.out]; rfl⟩, B.out⟩
theorem c_ContainsFunc_tick (a : Option Addr) (n ca : Nat) (T : Nat → Tck) (w : World) (hok : TcksOk T n) (hx : Rws w a n 3 (tcs T)) :
    Calls Try.prog 143 #[.slice a n ca, .func (.func 144) #[] #[]] w fun e w' => e = .returned (.bool (!okTs T n)) ∧ Below w.heap.size w w' := by
  have C := hid (c_IndexFunc_tick a n ca T w hok hx)
  clear hx hok
  go_enter Try.func143, Try.ntmps143
  go_wp2_with fail
  refine C.out.mono ?_
  rintro e w' ⟨r, rfl, hr, hb⟩
  rcases hr with ⟨h1, h2, h3⟩ | ⟨h1, h2⟩
  · have H2 := hid h2
    clear h2
    go_wp2
    go_ret
    exact ⟨ret_bool (by first | (rw [H2.out]; done) | (rw [H2.out]; simp; done) | (rw [H2.out]; simp; omega)), hb⟩
  · subst h1
    have H2 := hid h2
    clear h2
    go_wp2
    go_ret
    exact ⟨ret_bool (by rw [H2.out]), hb⟩
theorem ways4 {a b c d : Bool} : (a = false) ∨ (a = true ∧ b = false) ∨ (a = true ∧ b = true ∧ c = false) ∨ (a = true ∧ b = true ∧ c = true ∧ d = false) ∨ (a = true ∧ b = true ∧ c = true ∧ d = true) := by
  cases a <;> cases b <;> cases c <;> cases d <;> simp
set_option maxHeartbeats 1000000 in
theorem c_ticksCode (C : Ctl) (wc : WfC C) (B : Bld) (wb : WfB B) (s : Sta) (ws : WfS s) (a : Option Addr) (n ca : Nat) (T : Nat → Tck) (w : World) (hok : TcksOk T n) (hx : Rws w a n 3 (tcs T)) :
    Calls Try.prog 69 #[.agg (ccells C), .agg (bcells B), .agg (stcells s), .slice a n ca] w fun e w' => e = .returned (.int .i64 (tkC C B s T n)) ∧ Below w.heap.size w w' := by
  have HB0 : Hid ((((w.alloc (.cells (ccells C) 35)).alloc (.cells (bcells B) 37)).alloc (.cells (stcells s) 39)).heap[w.heap.size]? = some (.cells (ccells C) 35 (0, 0))) := hid ((blk_past _ _ _ (by simp; omega)).trans ((blk_past _ _ _ (by simp)).trans (blk_at _ _ _ rfl)))
  have HB1 : Hid ((((w.alloc (.cells (ccells C) 35)).alloc (.cells (bcells B) 37)).alloc (.cells (stcells s) 39)).heap[w.heap.size + 1]? = some (.cells (bcells B) 37 (0, 0))) := hid ((blk_past _ _ _ (by simp)).trans (blk_at _ _ _ (by simp)))
  have HB2 : Hid ((((w.alloc (.cells (ccells C) 35)).alloc (.cells (bcells B) 37)).alloc (.cells (stcells s) 39)).heap[w.heap.size + 1 + 1]? = some (.cells (stcells s) 39 (0, 0))) := hid (blk_at _ _ _ (by simp))
  have H0 : Hid (Below w.heap.size w (((w.alloc (.cells (ccells C) 35)).alloc (.cells (bcells B) 37)).alloc (.cells (stcells s) 39))) := hid ((((Below.refl _ _).alloc (Nat.le_refl _) _).alloc (by simp) _).alloc (by simp; omega) _)
  have Z0 := hid (size_ct C)
  have Z1 := hid (size_blind B)
  have Z2 := hid (size_st' s)
  have C0 := hid (fun w => c_ValidControl C wc w)
  have C1 := hid (fun w => c_ValidBlind B wb w)
  have C2 := hid (fun w => c_ValidState s ws w)
  have C3 := hid (fun w hx => c_ContainsFunc_tick a n ca T w hok hx)
  have X0 := hid (hx.below H0.out)
  have hn := hx.small
  clear wc wb ws hok hx
  by_cases hm : n ≤ 100
  all_goals
    rcases ways4 (a := okC C) (b := okB B) (c := okSt s) (d := okTs T n) with e1 | ⟨e1, e2⟩ | ⟨e1, e2, e3⟩ | ⟨e1, e2, e3, e4⟩ | ⟨e1, e2, e3, e4⟩
    all_goals
      have HM := hid hm
      go_enter Try.func69, Try.ntmps69
      go_wp2_with (first | (refine wpList_load_row rfl 35 _ rfl (w.heap.size) rfl 35 (ccells C) (0, 0) _ HB0.out Try.underlying35 rfl Z0.out ?_) | (go_at_call 141; refine (C0.out _).mono ?_; rintro e w1 ⟨rfl, h1⟩; have D1 := hid (below_trans H0.out h1 H0.out.size); have HB1b := hid ((h1.block _ (block_lt HB1.out)).trans HB1.out); have HB2b := hid ((h1.block _ (block_lt HB2.out)).trans HB2.out); have X1 := hid (X0.out.below h1); clear h1; have y0 := (show w1.cell? ⟨w.heap.size + 1, 0, none⟩ = some (.int .i8 B.sl) from cell_of_row _ (w.heap.size + 1) 0 _ _ _ HB1b.out); have y1 := (show w1.cell? ⟨w.heap.size + 1, 1, none⟩ = some (.float .f32 B.wi) from cell_of_row _ (w.heap.size + 1) 1 _ _ _ HB1b.out); have y2 := (show w1.cell? ⟨w.heap.size + 1, 2, none⟩ = some (.float .f32 B.ga) from cell_of_row _ (w.heap.size + 1) 2 _ _ _ HB1b.out); have y3 := (show w1.cell? ⟨w.heap.size + 1, 3, none⟩ = some (.int .i16 B.ti) from cell_of_row _ (w.heap.size + 1) 3 _ _ _ HB1b.out); have y4 := (show w1.cell? ⟨w.heap.size + 1, 4, none⟩ = some (.float .f32 B.sh) from cell_of_row _ (w.heap.size + 1) 4 _ _ _ HB1b.out)) | (go_at_call 133; refine (C1.out _).mono ?_; rintro e w2 ⟨rfl, h2⟩; have D2 := hid (below_trans D1.out h2 D1.out.size); have HB2c := hid ((h2.block _ (block_lt HB2b.out)).trans HB2b.out); have X2 := hid (X1.out.below h2); clear h2; have z0 := (show w2.cell? ⟨w.heap.size + 1 + 1, 0, none⟩ = some (.int .i16 s.ti) from cell_of_row _ (w.heap.size + 1 + 1) 0 _ _ _ HB2c.out); have z1 := (show w2.cell? ⟨w.heap.size + 1 + 1, 1, none⟩ = some (.int .i8 s.wa) from cell_of_row _ (w.heap.size + 1 + 1) 1 _ _ _ HB2c.out); have z2 := (show w2.cell? ⟨w.heap.size + 1 + 1, 2, none⟩ = some (.int .i8 s.so) from cell_of_row _ (w.heap.size + 1 + 1) 2 _ _ _ HB2c.out)) | (go_at_call 142; refine (C2.out _).mono ?_; rintro e w3 ⟨rfl, h3⟩; have D3 := hid (below_trans D2.out h3 D2.out.size); have X3 := hid (X2.out.below h3); clear h3) | (go_at_call 143; refine (C3.out _ X3.out).mono ?_; rintro e w4 ⟨rfl, h4⟩; have D4 := hid (below_trans D3.out h4 D3.out.size); clear h4))
      go_ret
      exact ⟨ret_int (by have := HM.out; simp [tkC, *]), by first | exact D4.out | exact D3.out | exact D2.out | exact D1.out⟩
set_option maxHeartbeats 1000000 in
theorem c_l05Asked (C : Ctl) (wc : WfC C) (B : Bld) (wb : WfB B) (s : Sta) (ws : WfS s) (c b q : Nat) (a : Option Addr) (n ca : Nat) (T : Nat → Tck) (w : World) (hA : CtlAt w c C) (hB : BldAt w b 0 B) (hS : StaAt w q s) (hok : TcksOk T n) (hx : Rws w a n 3 (tcs T)) :
    Calls Try.prog 66 #[.pointer (some ⟨c, 0, none⟩), .pointer (some ⟨b, 0, none⟩), .pointer (some ⟨q, 0, none⟩), .slice a n ca] w fun e w' => e = .returned (.int .i64 (tkC C B s T n)) ∧ Below w.heap.size w w' := by
  have C0 := hid (c_l05Ok C wc c w hA)
  have C1 := hid (fun w hB => c_l02Ok B wb b 0 w hB)
  have C2 := hid (fun w hS => c_l05State s ws q w hS)
  have HBL := hid hB
  have HST := hid hS
  have X := hid hx
  have hn := hx.small
  have OK := hid hok
  clear wc wb ws hA hB hS hok hx
  rcases ways3 (a := okC C) (b := okB B) (c := okSt s) with e1 | ⟨e1, e2⟩ | ⟨e1, e2, e3⟩ | ⟨e1, e2, e3⟩
  case inr.inr.inr =>
    go_enter Try.func66, Try.ntmps66
    go_wp2_with (first | (go_at_call 136; refine C0.out.mono ?_; rintro e w1 ⟨rfl, h1⟩; have D1 := hid h1; clear h1) | (go_at_call 94; refine (C1.out _ (HBL.out.below D1.out)).mono ?_; rintro e w' ⟨rfl, rfl⟩) | (go_at_call 137; refine (C2.out _ (HST.out.below D1.out)).mono ?_; rintro e w' ⟨rfl, rfl⟩))
    go_loopw [9] (fun i wr => ∃ k : Nat, k ≤ n ∧ i = .int .i64 k ∧ (∀ j, j < k → okT (T j) = true) ∧ Below w.heap.size w wr) (fun i _ => n - (intOf i).toNat)
    case atStart => exact ⟨0, by omega, rfl, by omega, D1.out⟩
    case round =>
      obtain ⟨k, hk, rfl, hall, hb⟩ := hrel
      have Hall := hid hall
      have Bb := hid hb
      clear hall hb
      by_cases hlt : k < n
      · obtain ⟨b1, o1, rfl, hc1⟩ := (X.out.below Bb.out).at_ (by omega)
        have CT := hid (c_l05Tick (T k) (OK.out k hlt) b1 (o1 + k * 3) _ (TckAt.of_range (hc1 k hlt)))
        clear hc1
        cases ht : okT (T k)
        all_goals
          rw [ht] at CT
          go_wp2_with (go_at_call 138; refine CT.out.mono ?_; rintro e w' ⟨rfl, rfl⟩)
        · go_ret
          exact ⟨ret_int (by simp [tkC, okTs_no hlt ht]), Bb.out⟩
        · refine ⟨⟨k + 1, by omega, by go_num, fun j hj => ?_, Bb.out⟩, by simp [intOf]; omega⟩
          rcases Nat.lt_or_ge j k with h | h
          · exact Hall.out j h
          · obtain rfl : j = k := by omega
            exact ht
      · obtain rfl : k = n := by omega
        have E := hid (okTs_yes Hall.out)
        by_cases hm : k ≤ 100
        · have HM := hid hm
          go_wp2
          go_ret
          exact ⟨ret_int (by have := HM.out; have := E.out; simp [tkC, *]), Bb.out⟩
        · have HM := hid hm
          have hm2 : 100 < k := by omega
          go_wp2
          go_ret
          exact ⟨ret_int (by have := HM.out; have := E.out; simp [tkC, *]), Bb.out⟩
  all_goals
    go_enter Try.func66, Try.ntmps66
    go_wp2_with (first | (go_at_call 136; refine C0.out.mono ?_; rintro e w1 ⟨rfl, h1⟩; have D1 := hid h1; clear h1) | (go_at_call 94; refine (C1.out _ (HBL.out.below D1.out)).mono ?_; rintro e w' ⟨rfl, rfl⟩) | (go_at_call 137; refine (C2.out _ (HST.out.below D1.out)).mono ?_; rintro e w' ⟨rfl, rfl⟩))
    go_ret
    exact ⟨ret_int (by simp [tkC, *]), D1.out⟩
/-- A type whose blocks a closure leaves alone. -/
def tys (T : TypeId) : Prop := T = 35 ∨ T = 37 ∨ T = 39 ∨ T = 110
structure Stp (base : Nat) (w w' : World) : Prop where
  below : Below base w w'
  typed : ∀ (i : Nat) (cs : Array Value) (T : TypeId), tys T → w.heap[i]? = some (.cells cs T (0, 0)) → w'.heap[i]? = some (.cells cs T (0, 0))
theorem Stp.refl (base : Nat) (w : World) : Stp base w w := ⟨Below.refl _ _, fun _ _ _ _ h => h⟩
theorem Stp.trans {base : Nat} {a b c : World} (h : Stp base a b) (k : Stp base b c) : Stp base a c := ⟨h.below.trans k.below, fun i cs T ht hi => k.typed i cs T ht (h.typed i cs T ht hi)⟩
theorem Stp.of_below {base : Nat} {w w' : World} (h : Below w.heap.size w w') (hb : base ≤ w.heap.size) : Stp base w w' := ⟨h.mono hb, fun i _ _ _ hi => (h.block i (block_lt hi)).trans hi⟩
theorem Stp.setRow {base : Nat} {w w' : World} (h : Stp base w w') {g : Nat} (hg : w.heap.size ≤ g) (hb : base ≤ w.heap.size) (cs : Array Value) : Stp base w (w'.setRow g cs) :=
  ⟨below_setRow h.below (by omega) _, fun i c T ht hi => (setRow_other w' g i cs (by have := block_lt hi; omega)).trans (h.typed i c T ht hi)⟩
theorem size_st2 (s : Sta) : (Try.prog.info? 39).map (·.size) = some (stcells s).size := size_st s
set_option maxHeartbeats 1000000 in
theorem c_run_r (c1 : Value) (Inv : Nat → World → Prop) (base : Nat) (C : Ctl) (hC : OkC C) (B : Bld) (hB : OkB B) (s : Sta) (hs : OkS s) (T : Nat → Tck) (a : Option Addr) (n ca c : Nat) (hT : ∀ k, k < n → OkT (T k)) (hn : n ≤ 100) (w : World)
    (hIb : ∀ (k : Nat) (w w' : World), Inv k w → Below w.heap.size w w' → Inv k w') (hIs : ∀ (k : Nat) (w : World) (g : Nat) (cs cs' : Array Value), Inv k w → w.heap[g]? = some (.cells cs 39 (0, 0)) → Inv k (w.setRow g cs'))
    (hcall : ∀ (k : Nat) w', k < n → Inv k w' → Calls Try.prog 71 #[.int .i64 (k : Int), .agg (stcells (staK C B s T k)), .agg (stcells (staK C B s T (k + 1))), .float .f32 (inK C B s T k), .bool (upK C B s T k), c1] w' fun e w2 => e = .returned (.tuple #[]) ∧ Inv (k + 1) w2 ∧ Stp base w' w2)
    (hA : w.heap[c]? = some (.cells (ccells C) 35 (0, 0))) (hbase : base ≤ w.heap.size) (hx : ∀ w', Below base w w' → Rws w' a n 3 (tcs T)) (hI : Inv 0 w) :
    Calls Try.prog 70 #[.pointer (some ⟨c, 0, none⟩), .agg (bcells B), .agg (stcells s), .slice a n ca, .func (.func 71) #[] #[c1]] w fun e w' => e = .returned (.agg (stcells (staK C B s T n))) ∧ Inv n w' ∧ Stp base w w' := by
  have HB0 : Hid ((((w.alloc (.cells (bcells B) 37)).alloc (.cells (stcells s) 39)).alloc (.cells zSt 39)).heap[w.heap.size]? = some (.cells (bcells B) 37 (0, 0))) := hid ((blk_past _ _ _ (by simp; omega)).trans ((blk_past _ _ _ (by simp)).trans (blk_at _ _ _ rfl)))
  have HS0 : Hid ((((w.alloc (.cells (bcells B) 37)).alloc (.cells (stcells s) 39)).alloc (.cells zSt 39)).heap[w.heap.size + 1]? = some (.cells (stcells s) 39 (0, 0))) := hid ((blk_past _ _ _ (by simp)).trans (blk_at _ _ _ (by simp)))
  have HR0 : Hid ((((w.alloc (.cells (bcells B) 37)).alloc (.cells (stcells s) 39)).alloc (.cells zSt 39)).heap[w.heap.size + 1 + 1]? = some (.cells zSt 39 (0, 0))) := hid (blk_at _ _ _ (by simp))
  have H0 : Hid (Below w.heap.size w (((w.alloc (.cells (bcells B) 37)).alloc (.cells (stcells s) 39)).alloc (.cells zSt 39))) := hid ((((Below.refl _ _).alloc (Nat.le_refl _) _).alloc (by simp) _).alloc (by simp; omega) _)
  have I0 := hid (hIb 0 _ _ hI H0.out)
  have HZB := hid (size_blind B)
  have HIB := hid hIb
  have HIS := hid hIs
  have HCA := hid hcall
  have HAA := hid hA
  have HBA := hid hbase
  have HX := hid hx
  have HHC := hid hC
  have HHB := hid hB
  have HHS := hid hs
  have HHT := hid hT
  clear hIb hIs hcall hA hbase hx hI hC hB hs hT
  go_enter Try.func70, Try.ntmps70
  go_wp2
  go_loopw [18] (fun i wr => ∃ k : Nat, k ≤ n ∧ i = .int .i64 k ∧ wr.heap[w.heap.size]? = some (.cells (bcells B) 37 (0, 0)) ∧ wr.heap[w.heap.size + 1]? = some (.cells (stcells (staK C B s T k)) 39 (0, 0)) ∧ wr.heap[w.heap.size + 1 + 1]? = some (.cells zSt 39 (0, 0)) ∧ Inv k wr ∧ Stp base w wr) (fun i _ => n - (intOf i).toNat)
  case atStart => exact ⟨0, by omega, rfl, HB0.out, HS0.out, HR0.out, I0.out, Stp.of_below H0.out HBA.out⟩
  case round =>
    obtain ⟨k, hk, rfl, hb1, hb2, hb3, hi, hs⟩ := hrel
    have HB1 := hid hb1
    have HS1 := hid hb2
    have HR1 := hid hb3
    have II := hid hi
    have SS := hid hs
    clear hb1 hb2 hb3 hi hs
    by_cases hlt : k < n
    · obtain ⟨b1, o1, rfl, hc1⟩ := (HX.out wr SS.out.below).at_ (by omega)
      have R := hid (hc1 k hlt)
      have S1 : Hid ((Try.prog.info? 110).map (·.size) = some (tcs T k).length) := hid (by rw [tcs_len]; kernel_rfl)
      have S2 := hid (size_tk (T k))
      have ZT : Hid ((wr.alloc (.cells zTk 110)).heap[wr.heap.size]? = some (.cells zTk 110 (0, 0))) := hid (blk_at _ _ _ rfl)
      have ZU := hid (blk_row_same _ _ zTk (tcells (T k)) _ _ ZT.out)
      have D1 : Hid (Below wr.heap.size wr ((wr.alloc (.cells zTk 110)).setRow wr.heap.size (tcells (T k)))) := hid (below_setRow ((Below.refl _ _).alloc (Nat.le_refl _) _) (Nat.le_refl _) _)
      have HB2 := hid ((D1.out.block _ (block_lt HB1.out)).trans HB1.out)
      have HS2 := hid ((D1.out.block _ (block_lt HS1.out)).trans HS1.out)
      have HC1 := hid (SS.out.typed _ _ _ (.inl rfl) HAA.out)
      have HC2 := hid ((D1.out.block _ (block_lt HC1.out)).trans HC1.out)
      have CT := hid (show Calls Try.prog 146 #[.pointer (some ⟨c, 0, none⟩), .agg (bcells B), .agg (stcells (staK C B s T k)), .agg (tcells (T k))] ((wr.alloc (.cells zTk 110)).setRow wr.heap.size (tcells (T k))) fun e w' => e = .returned (.tuple #[.agg (stcells (staK C B s T (k + 1))), .float .f32 (inK C B s T k), .bool (upK C B s T k)]) ∧ Below ((wr.alloc (.cells zTk 110)).setRow wr.heap.size (tcells (T k))).heap.size ((wr.alloc (.cells zTk 110)).setRow wr.heap.size (tcells (T k))) w' from c_tick C HHC.out B HHB.out (staK C B s T k) (staK_ok HHC.out B HHS.out T k) (T k) (HHT.out k hlt) c _ (CtlAt.of_block HC2.out))
      have CE := hid (fun w' h => HCA.out k w' hlt h)
      clear hc1
      generalize hs2 : staK C B s T (k + 1) = s2 at *
      have SK2 := hid hs2
      clear hs2
      generalize hsk : staK C B s T k = s1 at *
      have SK := hid hsk
      clear hsk
      generalize inK C B s T k = x at *
      generalize upK C B s T k = u at *
      have ZS2 := hid (size_st2 s2)
      have ZS1 := hid (size_st2 s1)
      go_wp2_with (first | (refine wpList_load_mid rfl 110 _ rfl b1 (o1 + k * 3) rfl (tcs T k) _ R.out Try.underlying110 rfl S1.out ?_) | (refine wpList_store_row rfl 110 _ _ rfl wr.heap.size (tcells (T k)) rfl rfl 110 zTk ZT.out S2.out rfl (tcells_one _) ?_) | (refine wpList_load_row rfl 37 _ rfl w.heap.size rfl 37 (bcells B) (0, 0) _ HB2.out Try.underlying37 rfl HZB.out ?_) | (refine wpList_load_row rfl 39 _ rfl (w.heap.size + 1) rfl 39 (stcells s1) (0, 0) _ HS2.out Try.underlying39 rfl ZS1.out ?_) | (refine wpList_load_row rfl 110 _ rfl wr.heap.size rfl 110 (tcells (T k)) (0, 0) _ ZU.out Try.underlying110 rfl S2.out ?_))
      refine CT.out.mono ?_
      rintro e w2 ⟨rfl, h2⟩
      have D2 := hid (below_trans D1.out h2 D1.out.size)
      have HB3 := hid ((D2.out.block _ (block_lt HB1.out)).trans HB1.out)
      have HS3 := hid ((D2.out.block _ (block_lt HS1.out)).trans HS1.out)
      have HR3 := hid ((D2.out.block _ (block_lt HR1.out)).trans HR1.out)
      clear h2
      have ZV : Hid ((w2.alloc (.cells zSt 39)).heap[w2.heap.size]? = some (.cells zSt 39 (0, 0))) := hid (blk_at _ _ _ rfl)
      have ZW := hid (blk_row_same _ _ zSt (stcells s2) _ _ ZV.out)
      have E3 : Hid (Below w2.heap.size w2 ((w2.alloc (.cells zSt 39)).setRow w2.heap.size (stcells s2))) := hid (below_setRow ((Below.refl _ _).alloc (Nat.le_refl _) _) (Nat.le_refl _) _)
      have D3 := hid (below_trans D2.out E3.out D2.out.size)
      have HB4 := hid ((E3.out.block _ (block_lt HB3.out)).trans HB3.out)
      have HS4 := hid ((E3.out.block _ (block_lt HS3.out)).trans HS3.out)
      have HR4 := hid ((E3.out.block _ (block_lt HR3.out)).trans HR3.out)
      have I3 := hid (HIB.out k _ _ II.out D3.out)
      have CE2 := hid (CE.out _ I3.out)
      go_wp2_with (first | (refine wpList_store_row rfl 39 _ _ rfl w2.heap.size (stcells s2) rfl rfl 39 zSt ZV.out ZS2.out rfl (stcells_one _) ?_) | (refine wpList_load_row rfl 39 _ rfl (w.heap.size + 1) rfl 39 (stcells s1) (0, 0) _ HS4.out Try.underlying39 rfl ZS1.out ?_) | (refine wpList_load_row rfl 39 _ rfl w2.heap.size rfl 39 (stcells s2) (0, 0) _ ZW.out Try.underlying39 rfl ZS2.out ?_))
      refine CE2.out.mono ?_
      rintro e w4 ⟨rfl, i4, s4⟩
      have HB5 := hid (s4.typed _ _ _ (.inr (.inl rfl)) HB4.out)
      have HS5 := hid (s4.typed _ _ _ (.inr (.inr (.inl rfl))) HS4.out)
      have HR5 := hid (s4.typed _ _ _ (.inr (.inr (.inl rfl))) HR4.out)
      have HN5 := hid (s4.typed _ _ _ (.inr (.inr (.inl rfl))) ZW.out)
      have SF := hid ((SS.out.trans (Stp.of_below D3.out (Nat.le_trans HBA.out SS.out.below.size))).trans s4)
      have I4 := hid i4
      clear i4 s4
      go_wp2_with (first | (refine wpList_load_row rfl 39 _ rfl w2.heap.size rfl 39 (stcells s2) (0, 0) _ HN5.out Try.underlying39 rfl ZS2.out ?_) | (refine wpList_store_row rfl 39 _ _ rfl (w.heap.size + 1) (stcells s2) rfl rfl 39 (stcells s1) HS5.out ZS2.out rfl (stcells_one _) ?_))
      exact ⟨⟨k + 1, by omega, by go_num, (setRow_other _ _ _ _ (by omega)).trans HB5.out, (by rw [SK2.out]; exact blk_row_same _ _ _ _ _ _ HS5.out), (setRow_other _ _ _ _ (by omega)).trans HR5.out, HIS.out (k + 1) _ _ _ _ I4.out HS5.out, SF.out.setRow (by omega) HBA.out _⟩, by simp [intOf]; omega⟩
    · obtain rfl : k = n := by omega
      have ZS1 := hid (size_st2 (staK C B s T k))
      go_wp2_with (first | (refine wpList_load_row rfl 39 _ rfl (w.heap.size + 1) rfl 39 (stcells (staK C B s T k)) (0, 0) _ HS1.out Try.underlying39 rfl ZS1.out ?_) | (refine wpList_store_row rfl 39 _ _ rfl (w.heap.size + 1 + 1) (stcells (staK C B s T k)) rfl rfl 39 zSt HR1.out ZS1.out rfl (stcells_one _) ?_))
      refine bodyPost_ret (v := .agg (stcells (staK C B s T k))) (results_cell_row rfl _ _ (w.heap.size + 1 + 1) 39 _ (0, 0) _ rfl (blk_row_same _ _ _ _ _ _ HR1.out) Try.underlying39 rfl ZS1.out) rfl ⟨rfl, HIS.out k _ _ _ _ II.out HR1.out, SS.out.setRow (by omega) HBA.out _⟩
/-! ### RaisedIn -/
def InvR (q : Nat) (u : Nat → Bool) (k : Nat) (w : World) : Prop := w.heap[q]? = some (.cells #[.int .i64 (raisK u k : Int)] 2 (0, 0))
theorem InvR.below {q : Nat} {u : Nat → Bool} (k : Nat) (w w' : World) (h : InvR q u k w) (hb : Below w.heap.size w w') : InvR q u k w' := (hb.block q (block_lt h)).trans h
theorem ty_ne {w : World} {g q : Nat} {cs : Array Value} {T U : TypeId} {o : Array Value} (h : w.heap[g]? = some (.cells cs T (0, 0))) (k : w.heap[q]? = some (.cells o U (0, 0))) (hn : U ≠ T) : q ≠ g := by
  intro e; subst e; rw [h] at k; injection k with k; injection k with _ k; exact hn k.symm
theorem InvR.set {q : Nat} {u : Nat → Bool} (k : Nat) (w : World) (g : Nat) (cs cs' : Array Value) (h : InvR q u k w) (hg : w.heap[g]? = some (.cells cs 39 (0, 0))) : InvR q u k (w.setRow g cs') :=
  (setRow_other w g q cs' (ty_ne hg h (by decide))).trans h
theorem Stp.cell {base q : Nat} {w : World} {v u : Value} {U : TypeId} (hq : base ≤ q) (h : w.heap[q]? = some (.cells #[v] U (0, 0))) (hU : ¬ tys U) : Stp base w (w.setCell ⟨q, 0, none⟩ u) :=
  ⟨(Below.refl _ _).setCell hq u, fun i cs T ht hi => (heap_setCell_other w ⟨q, 0, none⟩ i u (fun e => by subst e; rw [hi] at h; injection h with h; injection h with _ h; exact hU (h ▸ ht))).trans hi⟩
theorem oneSet {w : World} {b : Nat} {v u : Value} {T : TypeId} (h : w.heap[b]? = some (.cells #[v] T (0, 0))) : (w.setCell ⟨b, 0, none⟩ u).heap[b]? = some (.cells #[u] T (0, 0)) := by
  have := heap_setCell_same w b 0 _ T u h
  simpa using this
theorem oneCell {w : World} {b : Nat} {v : Value} {T : TypeId} (h : w.heap[b]? = some (.cells #[v] T (0, 0))) : w.cell? ⟨b, 0, none⟩ = some v := by
  rw [cell_of_row w b 0 _ _ _ h]; rfl
theorem c_RaisedIn1 (base q k : Nat) (u : Nat → Bool) (s1 s2 : Sta) (x : Nat) (hk : k ≤ 100) (hq : base ≤ q) (w : World) (hI : InvR q u k w) :
    Calls Try.prog 71 #[.int .i64 (k : Int), .agg (stcells s1), .agg (stcells s2), .float .f32 x, .bool (u k), .pointer (some ⟨q, 0, none⟩)] w fun e w' => e = .returned (.tuple #[]) ∧ InvR q u (k + 1) w' ∧ Stp base w w' := by
  have H0 : Hid (Below w.heap.size w ((w.alloc (.cells (stcells s1) 39)).alloc (.cells (stcells s2) 39))) := hid (((Below.refl _ _).alloc (Nat.le_refl _) _).alloc (by simp) _)
  have I0 := hid (InvR.below k w _ hI H0.out)
  have LT := hid (block_lt hI)
  have hr := raisK_le u k
  have c1 := oneCell I0.out
  have f1 := frozen_of_row _ q 0 _ _ I0.out
  have S0 : Hid (∀ w2, Stp base ((w.alloc (.cells (stcells s1) 39)).alloc (.cells (stcells s2) 39)) w2 → Stp base w w2) := hid (fun w2 h => by
    have hb : base ≤ w.heap.size := by have := LT.out; omega
    exact (Stp.of_below H0.out hb).trans h)
  clear hI
  cases hu : u k
  · have R := hid (raisK_no hu)
    clear hu
    go_enter Try.func71, Try.ntmps71
    go_wp2_with fail
    go_end0
    exact ⟨rfl, by unfold InvR; rw [R.out]; exact I0.out, S0.out _ (Stp.refl _ _)⟩
  · have R := hid (raisK_yes hu)
    clear hu
    go_enter Try.func71, Try.ntmps71
    go_wp2_with fail
    go_end0
    exact ⟨rfl, by unfold InvR; rw [R.out]; exact oneSet I0.out, S0.out _ (Stp.cell hq I0.out (by unfold tys; decide))⟩
end Go.Proofs.Ytmjmgfojdomhlaa
