/- TickAll, both sides. -/
import Derived.Test.YtmjmgfojdomhlaaGlar
namespace Go.Proofs.Ytmjmgfojdomhlaa
set_option maxRecDepth 20000
open Go.RowKit

def taS (C : Ctl) (B : Bld) (s : Sta) (T : Nat → Tck) (n : Nat) : Sta := if tkC C B s T n = 0 then staK C B s T n else ⟨0, 0, 0⟩
def taL (C : Ctl) (B : Bld) (s : Sta) (T : Nat → Tck) (n : Nat) : List Nat := if tkC C B s T n = 0 then lightsT (inK C B s T) n else []
def InvA (lo q : Nat) (x : Nat → Nat) (k : Nat) (w : World) : Prop := ∃ g cap, w.heap[q]? = some (.cells #[.slice (some ⟨g, 0, none⟩) (lightsT x k).length cap] 45 (0, 0)) ∧ GotF w lo (.slice (some ⟨g, 0, none⟩) (lightsT x k).length cap) (lightsT x k)
theorem InvA.below {lo q : Nat} {x : Nat → Nat} (k : Nat) (w w' : World) (h : InvA lo q x k w) (hb : Below w.heap.size w w') : InvA lo q x k w' :=
  let ⟨g, cap, h1, h2⟩ := h; ⟨g, cap, (hb.block _ (block_lt h1)).trans h1, own_below h2 hb⟩
theorem InvA.set {lo q : Nat} {x : Nat → Nat} (k : Nat) (w : World) (g : Nat) (cs cs' : Array Value) (h : InvA lo q x k w) (hg : w.heap[g]? = some (.cells cs 39 (0, 0))) : InvA lo q x k (w.setRow g cs') :=
  let ⟨b, cap, h1, h2⟩ := h; ⟨b, cap, (setRow_other w g q cs' (ty_ne hg h1 (show (45 : TypeId) ≠ 39 by decide))).trans h1, own_setRow (T := 22) h2 hg (by decide)⟩
theorem gotf_empty (w : World) (lo : Nat) (h : lo ≤ w.heap.size) : GotF (w.alloc (.cells #[] 22)) lo (.slice (some ⟨w.heap.size, 0, none⟩) 0 0) [] := own_from (owns_empty _ _) h
theorem size_zst : (Try.prog.info? 39).map (·.size) = some (stcells ⟨0, 0, 0⟩).size := size_st _
set_option maxHeartbeats 1000000 in
theorem c_TickAll1 (base lo q k : Nat) (X : Nat → Nat) (s1 s2 : Sta) (u : Bool) (hk : k ≤ 100) (hlo : base ≤ lo) (hq : base ≤ q) (w : World) (hW : lo ≤ w.heap.size) (hI : InvA lo q X k w) :
    Calls Try.prog 73 #[.int .i64 (k : Int), .agg (stcells s1), .agg (stcells s2), .float .f32 (X k), .bool u, .pointer (some ⟨q, 0, none⟩)] w fun e w' => e = .returned (.tuple #[]) ∧ InvA lo q X (k + 1) w' ∧ Stp base w w' := by
  obtain ⟨wa, hwa⟩ : ∃ wa, wa = (w.alloc (.cells (stcells s1) 39)).alloc (.cells (stcells s2) 39) := ⟨_, rfl⟩
  have WA := hid hwa
  have H0 : Hid (Below w.heap.size w wa) := hid (by rw [hwa]; exact ((Below.refl _ _).alloc (Nat.le_refl _) _).alloc (by simp) _)
  have I0 := hid (InvA.below k w _ hI H0.out)
  have S0 : Hid (Stp base w wa) := hid (Stp.of_below H0.out (by omega))
  have LW : Hid (lo ≤ wa.heap.size) := hid (Nat.le_trans hW H0.out.size)
  obtain ⟨g, cap, hb1, hg1⟩ := I0.out
  have B1 := hid hb1
  have O1 := hid hg1
  have c2 := oneCell hb1
  have GLN := hid (lightsT_len X k)
  have R := hid (lightsT_succ X k)
  obtain ⟨i0, hi, hz0, hz1, hz3⟩ := info_parts info_f32
  have HI := hid hi
  have HF0 := hid hz0
  have HF1 := hid hz1
  have HF2 := hid hz3
  clear hI hb1 hg1 hwa hi hz0 hz1 hz3
  generalize hL : lightsT X k = L at *
  clear hL
  generalize hn : L.length = ln at *
  have LN := hid hn
  clear hn
  have gl : ln ≤ 100 := by have := GLN.out; omega
  have OO : Hid (wa.ownsRow lo 22 1 (.slice (some ⟨g, 0, none⟩) ln cap) ln (L.map (Value.float .f32))) := hid (by have := O1.out; unfold GotF at this; rw [LN.out] at this; exact this)
  go_enter Try.func73, Try.ntmps73
  go_wp2_with (first | (rw [← WA.out]) | (at_builtin; refine wpList_append_own _ rfl _ _ 45 rfl lo 22 i0 (.float .f32 0) 1 4 Try.underlying45 HI.out HF0.out HF1.out HF2.out rfl (by decide) _ _ _ rfl (OO.out.alloc _) ⟨wa.heap.size, 0, none⟩ 1 1 [.float .f32 (X k)] rfl rfl (one_at _ _ _) (one_cell _) (by unfold maxLen; omega) (by omega) (by have := LW.out; simp; omega) ?_; intro v' w3 hown' hgrow _; obtain ⟨g', cap', rfl⟩ := ownsRow_succ hown'; have O3 := hid hown'; have G3 := hid hgrow; have BB1 := hid (blk_app (T := 22) OO.out G3.out B1.out (by decide)); have S3 := hid (Stp.app S0.out (by have := LW.out; omega) hlo (by unfold tys; decide) OO.out G3.out); clear hgrow hown'; have ff := free_of_one BB1.out; have cc := oneCell BB1.out))
  go_end0
  refine ⟨rfl, ⟨g', cap', ?_, ?_⟩, S3.out.cell2 hq BB1.out (by unfold tys; decide)⟩
  · rw [R.out, List.length_append, LN.out]; exact oneSet BB1.out
  · rw [R.out]; unfold GotF; rw [List.map_append, List.length_append, LN.out]; exact ownsRow_setCell_other O3.out (own_ne BB1.out O3.out (by decide)).symm _
set_option maxHeartbeats 1000000 in
theorem c_run_a (c1 : Value) (Inv : Nat → World → Prop) (base : Nat) (C : Ctl) (hC : OkC C) (B : Bld) (hB : OkB B) (s : Sta) (hs : OkS s) (T : Nat → Tck) (a : Option Addr) (n ca c : Nat) (hT : ∀ k, k < n → OkT (T k)) (hn : n ≤ 100) (w : World)
    (hIb : ∀ (k : Nat) (w w' : World), Inv k w → Below w.heap.size w w' → Inv k w') (hIs : ∀ (k : Nat) (w : World) (g : Nat) (cs cs' : Array Value), Inv k w → w.heap[g]? = some (.cells cs 39 (0, 0)) → Inv k (w.setRow g cs'))
    (hcall : ∀ (k : Nat) w', k < n → Inv k w' → Calls Try.prog 73 #[.int .i64 (k : Int), .agg (stcells (staK C B s T k)), .agg (stcells (staK C B s T (k + 1))), .float .f32 (inK C B s T k), .bool (upK C B s T k), c1] w' fun e w2 => e = .returned (.tuple #[]) ∧ Inv (k + 1) w2 ∧ Stp base w' w2)
    (hA : w.heap[c]? = some (.cells (ccells C) 35 (0, 0))) (hbase : base ≤ w.heap.size) (hx : ∀ w', Below base w w' → Rws w' a n 3 (tcs T)) (hI : Inv 0 w) :
    Calls Try.prog 70 #[.pointer (some ⟨c, 0, none⟩), .agg (bcells B), .agg (stcells s), .slice a n ca, .func (.func 73) #[] #[c1]] w fun e w' => e = .returned (.agg (stcells (staK C B s T n))) ∧ Inv n w' ∧ Stp base w w' := by
  have HB0 : Hid ((((w.alloc (.cells (bcells B) 37)).alloc (.cells (stcells s) 39)).alloc (.cells zSt 39)).heap[w.heap.size]? = some (.cells (bcells B) 37 (0, 0))) := hid ((blk_past _ _ _ (by simp; omega)).trans ((blk_past _ _ _ (by simp)).trans (blk_at _ _ _ rfl)))
  have HS0 : Hid ((((w.alloc (.cells (bcells B) 37)).alloc (.cells (stcells s) 39)).alloc (.cells zSt 39)).heap[w.heap.size + 1]? = some (.cells (stcells s) 39 (0, 0))) := hid ((blk_past _ _ _ (by simp)).trans (blk_at _ _ _ (by simp)))
  have HR0 : Hid ((((w.alloc (.cells (bcells B) 37)).alloc (.cells (stcells s) 39)).alloc (.cells zSt 39)).heap[w.heap.size + 1 + 1]? = some (.cells zSt 39 (0, 0))) := hid (blk_at _ _ _ (by simp))
  have H0 : Hid (Below w.heap.size w (((w.alloc (.cells (bcells B) 37)).alloc (.cells (stcells s) 39)).alloc (.cells zSt 39))) := hid ((((Below.refl _ _).alloc (Nat.le_refl _) _).alloc (by simp) _).alloc (by simp; omega) _)
  have I0 := hid (hIb 0 _ _ hI H0.out)
  have HZB := hid (size_blind B)
  have HIB := hid hIb
  have HIS := hid hIs
  have HCA := hid hcall
  have HAA := hid hA
  have HBA := hid hbase
  have HX := hid hx
  have HHC := hid hC
  have HHB := hid hB
  have HHS := hid hs
  have HHT := hid hT
  clear hIb hIs hcall hA hbase hx hI hC hB hs hT
  go_enter Try.func70, Try.ntmps70
  go_wp2
  go_loopw [18] (fun i wr => ∃ k : Nat, k ≤ n ∧ i = .int .i64 k ∧ wr.heap[w.heap.size]? = some (.cells (bcells B) 37 (0, 0)) ∧ wr.heap[w.heap.size + 1]? = some (.cells (stcells (staK C B s T k)) 39 (0, 0)) ∧ wr.heap[w.heap.size + 1 + 1]? = some (.cells zSt 39 (0, 0)) ∧ Inv k wr ∧ Stp base w wr) (fun i _ => n - (intOf i).toNat)
  case atStart => exact ⟨0, by omega, rfl, HB0.out, HS0.out, HR0.out, I0.out, Stp.of_below H0.out HBA.out⟩
  case round =>
    obtain ⟨k, hk, rfl, hb1, hb2, hb3, hi, hs⟩ := hrel
    have HB1 := hid hb1
    have HS1 := hid hb2
    have HR1 := hid hb3
    have II := hid hi
    have SS := hid hs
    clear hb1 hb2 hb3 hi hs
    by_cases hlt : k < n
    · obtain ⟨b1, o1, rfl, hc1⟩ := (HX.out wr SS.out.below).at_ (by omega)
      have R := hid (hc1 k hlt)
      have S1 : Hid ((Try.prog.info? 110).map (·.size) = some (tcs T k).length) := hid (by rw [tcs_len]; kernel_rfl)
      have S2 := hid (size_tk (T k))
      have ZT : Hid ((wr.alloc (.cells zTk 110)).heap[wr.heap.size]? = some (.cells zTk 110 (0, 0))) := hid (blk_at _ _ _ rfl)
      have ZU := hid (blk_row_same _ _ zTk (tcells (T k)) _ _ ZT.out)
      have D1 : Hid (Below wr.heap.size wr ((wr.alloc (.cells zTk 110)).setRow wr.heap.size (tcells (T k)))) := hid (below_setRow ((Below.refl _ _).alloc (Nat.le_refl _) _) (Nat.le_refl _) _)
      have HB2 := hid ((D1.out.block _ (block_lt HB1.out)).trans HB1.out)
      have HS2 := hid ((D1.out.block _ (block_lt HS1.out)).trans HS1.out)
      have HC1 := hid (SS.out.typed _ _ _ (.inl rfl) HAA.out)
      have HC2 := hid ((D1.out.block _ (block_lt HC1.out)).trans HC1.out)
      have CT := hid (show Calls Try.prog 146 #[.pointer (some ⟨c, 0, none⟩), .agg (bcells B), .agg (stcells (staK C B s T k)), .agg (tcells (T k))] ((wr.alloc (.cells zTk 110)).setRow wr.heap.size (tcells (T k))) fun e w' => e = .returned (.tuple #[.agg (stcells (staK C B s T (k + 1))), .float .f32 (inK C B s T k), .bool (upK C B s T k)]) ∧ Below ((wr.alloc (.cells zTk 110)).setRow wr.heap.size (tcells (T k))).heap.size ((wr.alloc (.cells zTk 110)).setRow wr.heap.size (tcells (T k))) w' from c_tick C HHC.out B HHB.out (staK C B s T k) (staK_ok HHC.out B HHS.out T k) (T k) (HHT.out k hlt) c _ (CtlAt.of_block HC2.out))
      have CE := hid (fun w' h => HCA.out k w' hlt h)
      clear hc1
      generalize hs2 : staK C B s T (k + 1) = s2 at *
      have SK2 := hid hs2
      clear hs2
      generalize hsk : staK C B s T k = s1 at *
      have SK := hid hsk
      clear hsk
      generalize inK C B s T k = x at *
      generalize upK C B s T k = u at *
      have ZS2 := hid (size_st2 s2)
      have ZS1 := hid (size_st2 s1)
      go_wp2_with (first | (refine wpList_load_mid rfl 110 _ rfl b1 (o1 + k * 3) rfl (tcs T k) _ R.out Try.underlying110 rfl S1.out ?_) | (refine wpList_store_row rfl 110 _ _ rfl wr.heap.size (tcells (T k)) rfl rfl 110 zTk ZT.out S2.out rfl (tcells_one _) ?_) | (refine wpList_load_row rfl 37 _ rfl w.heap.size rfl 37 (bcells B) (0, 0) _ HB2.out Try.underlying37 rfl HZB.out ?_) | (refine wpList_load_row rfl 39 _ rfl (w.heap.size + 1) rfl 39 (stcells s1) (0, 0) _ HS2.out Try.underlying39 rfl ZS1.out ?_) | (refine wpList_load_row rfl 110 _ rfl wr.heap.size rfl 110 (tcells (T k)) (0, 0) _ ZU.out Try.underlying110 rfl S2.out ?_))
      refine CT.out.mono ?_
      rintro e w2 ⟨rfl, h2⟩
      have D2 := hid (below_trans D1.out h2 D1.out.size)
      have HB3 := hid ((D2.out.block _ (block_lt HB1.out)).trans HB1.out)
      have HS3 := hid ((D2.out.block _ (block_lt HS1.out)).trans HS1.out)
      have HR3 := hid ((D2.out.block _ (block_lt HR1.out)).trans HR1.out)
      clear h2
      have ZV : Hid ((w2.alloc (.cells zSt 39)).heap[w2.heap.size]? = some (.cells zSt 39 (0, 0))) := hid (blk_at _ _ _ rfl)
      have ZW := hid (blk_row_same _ _ zSt (stcells s2) _ _ ZV.out)
      have E3 : Hid (Below w2.heap.size w2 ((w2.alloc (.cells zSt 39)).setRow w2.heap.size (stcells s2))) := hid (below_setRow ((Below.refl _ _).alloc (Nat.le_refl _) _) (Nat.le_refl _) _)
      have D3 := hid (below_trans D2.out E3.out D2.out.size)
      have HB4 := hid ((E3.out.block _ (block_lt HB3.out)).trans HB3.out)
      have HS4 := hid ((E3.out.block _ (block_lt HS3.out)).trans HS3.out)
      have HR4 := hid ((E3.out.block _ (block_lt HR3.out)).trans HR3.out)
      have I3 := hid (HIB.out k _ _ II.out D3.out)
      have CE2 := hid (CE.out _ I3.out)
      go_wp2_with (first | (refine wpList_store_row rfl 39 _ _ rfl w2.heap.size (stcells s2) rfl rfl 39 zSt ZV.out ZS2.out rfl (stcells_one _) ?_) | (refine wpList_load_row rfl 39 _ rfl (w.heap.size + 1) rfl 39 (stcells s1) (0, 0) _ HS4.out Try.underlying39 rfl ZS1.out ?_) | (refine wpList_load_row rfl 39 _ rfl w2.heap.size rfl 39 (stcells s2) (0, 0) _ ZW.out Try.underlying39 rfl ZS2.out ?_))
      refine CE2.out.mono ?_
      rintro e w4 ⟨rfl, i4, s4⟩
      have HB5 := hid (s4.typed _ _ _ (.inr (.inl rfl)) HB4.out)
      have HS5 := hid (s4.typed _ _ _ (.inr (.inr (.inl rfl))) HS4.out)
      have HR5 := hid (s4.typed _ _ _ (.inr (.inr (.inl rfl))) HR4.out)
      have HN5 := hid (s4.typed _ _ _ (.inr (.inr (.inl rfl))) ZW.out)
      have SF := hid ((SS.out.trans (Stp.of_below D3.out (Nat.le_trans HBA.out SS.out.below.size))).trans s4)
      have I4 := hid i4
      clear i4 s4
      go_wp2_with (first | (refine wpList_load_row rfl 39 _ rfl w2.heap.size rfl 39 (stcells s2) (0, 0) _ HN5.out Try.underlying39 rfl ZS2.out ?_) | (refine wpList_store_row rfl 39 _ _ rfl (w.heap.size + 1) (stcells s2) rfl rfl 39 (stcells s1) HS5.out ZS2.out rfl (stcells_one _) ?_))
      exact ⟨⟨k + 1, by omega, by go_num, (setRow_other _ _ _ _ (by omega)).trans HB5.out, (by rw [SK2.out]; exact blk_row_same _ _ _ _ _ _ HS5.out), (setRow_other _ _ _ _ (by omega)).trans HR5.out, HIS.out (k + 1) _ _ _ _ I4.out HS5.out, SF.out.setRow (by omega) HBA.out _⟩, by simp [intOf]; omega⟩
    · obtain rfl : k = n := by omega
      have ZS1 := hid (size_st2 (staK C B s T k))
      go_wp2_with (first | (refine wpList_load_row rfl 39 _ rfl (w.heap.size + 1) rfl 39 (stcells (staK C B s T k)) (0, 0) _ HS1.out Try.underlying39 rfl ZS1.out ?_) | (refine wpList_store_row rfl 39 _ _ rfl (w.heap.size + 1 + 1) (stcells (staK C B s T k)) rfl rfl 39 zSt HR1.out ZS1.out rfl (stcells_one _) ?_))
      refine bodyPost_ret (v := .agg (stcells (staK C B s T k))) (results_cell_row rfl _ _ (w.heap.size + 1 + 1) 39 _ (0, 0) _ rfl (blk_row_same _ _ _ _ _ _ HR1.out) Try.underlying39 rfl ZS1.out) rfl ⟨rfl, HIS.out k _ _ _ _ II.out HR1.out, SS.out.setRow (by omega) HBA.out _⟩
set_option maxHeartbeats 1000000 in
theorem c_implTickAll (C : Ctl) (wc : WfC C) (B : Bld) (wb : WfB B) (s : Sta) (ws : WfS s) (a : Option Addr) (n ca : Nat) (T : Nat → Tck) (w : World) (hok : TcksOk T n) (hx : Rws w a n 3 (tcs T)) :
    Calls Try.prog 18 #[.agg (ccells C), .agg (bcells B), .agg (stcells s), .slice a n ca] w fun e w' => (∃ v, e = .returned (.tuple #[.agg (stcells (taS C B s T n)), v, .int .i64 (tkC C B s T n)]) ∧ GotF w' w.heap.size v (taL C B s T n)) ∧ Below w.heap.size w w' := by
  have HB0 : Hid (((((w.alloc (.cells (ccells C) 35)).alloc (.cells (bcells B) 37)).alloc (.cells (stcells s) 39)).alloc (.cells zSt 39)).heap[w.heap.size]? = some (.cells (ccells C) 35 (0, 0))) := hid ((blk_past _ _ _ (by simp <;> omega)).trans ((blk_past _ _ _ (by simp <;> omega)).trans ((blk_past _ _ _ (by simp)).trans (blk_at _ _ _ rfl))))
  have HB1 : Hid (((((w.alloc (.cells (ccells C) 35)).alloc (.cells (bcells B) 37)).alloc (.cells (stcells s) 39)).alloc (.cells zSt 39)).heap[w.heap.size + 1]? = some (.cells (bcells B) 37 (0, 0))) := hid ((blk_past _ _ _ (by simp <;> omega)).trans ((blk_past _ _ _ (by simp)).trans (blk_at _ _ _ (by simp))))
  have HB2 : Hid (((((w.alloc (.cells (ccells C) 35)).alloc (.cells (bcells B) 37)).alloc (.cells (stcells s) 39)).alloc (.cells zSt 39)).heap[w.heap.size + 1 + 1]? = some (.cells (stcells s) 39 (0, 0))) := hid ((blk_past _ _ _ (by simp)).trans (blk_at _ _ _ (by simp)))
  have HB3 : Hid (((((w.alloc (.cells (ccells C) 35)).alloc (.cells (bcells B) 37)).alloc (.cells (stcells s) 39)).alloc (.cells zSt 39)).heap[w.heap.size + 1 + 1 + 1]? = some (.cells zSt 39 (0, 0))) := hid (blk_at _ _ _ (by simp))
  have H0 : Hid (Below w.heap.size w ((((w.alloc (.cells (ccells C) 35)).alloc (.cells (bcells B) 37)).alloc (.cells (stcells s) 39)).alloc (.cells zSt 39))) := hid (((((Below.refl _ _).alloc (Nat.le_refl _) _).alloc (by simp) _).alloc (by simp <;> omega) _).alloc (by simp <;> omega) _)
  have HZC := hid (size_ct C)
  have HZB := hid (size_blind B)
  have HZS := hid (size_st2 s)
  have HZZ := hid size_zst
  have X := hid hx
  have X0 := hid (hx.below H0.out)
  have CK := hid (fun w hx => c_ticksCode C wc B wb s ws a n ca T w hok hx)
  by_cases hz : tkC C B s T n = 0
  · obtain ⟨z1, z2, z3, z4, z5⟩ := tkC_zero hz
    have HHC := hid (OkC.of wc z1)
    have HHB := hid (OkB.of wb z2)
    have HHS := hid (OkS.of z3)
    have HHT := hid (fun k (hk : k < n) => OkT.of (hok k hk) (okTs_at z4 hk))
    have N5 := hid z5
    have hz2 := hid hz
    have ES := hid (show taS C B s T n = staK C B s T n by rw [taS, if_pos hz])
    have EL := hid (show taL C B s T n = lightsT (inK C B s T) n by rw [taL, if_pos hz])
    clear wc wb ws hok hx hz z1 z2 z3 z4 z5
    go_enter Try.func18, Try.ntmps18
    go_wp2_with (first | (refine wpList_load_row rfl 35 _ rfl (w.heap.size) rfl 35 (ccells C) (0, 0) _ HB0.out Try.underlying35 rfl HZC.out ?_) | (refine wpList_load_row rfl 37 _ rfl (w.heap.size + 1) rfl 37 (bcells B) (0, 0) _ HB1.out Try.underlying37 rfl HZB.out ?_) | (refine wpList_load_row rfl 39 _ rfl (w.heap.size + 1 + 1) rfl 39 (stcells s) (0, 0) _ HB2.out Try.underlying39 rfl HZS.out ?_))
    refine (CK.out _ X0.out).mono ?_
    rintro e w1 ⟨rfl, h1⟩
    rw [hz2.out]
    have H1 := hid (below_trans H0.out h1 H0.out.size)
    have HC0 := hid ((h1.block _ (block_lt HB0.out)).trans HB0.out)
    have HC1 := hid ((h1.block _ (block_lt HB1.out)).trans HB1.out)
    have HC2 := hid ((h1.block _ (block_lt HB2.out)).trans HB2.out)
    have HC3 := hid ((h1.block _ (block_lt HB3.out)).trans HB3.out)
    clear h1
    obtain ⟨w2, hw2⟩ : ∃ w2, w2 = (w1.alloc (.cells #[] 22)).alloc (.cells #[.slice (some ⟨w1.heap.size, 0, none⟩) 0 0] 45) := ⟨_, rfl⟩
    have D0 : Hid (Below w1.heap.size w1 w2) := hid (by rw [hw2]; exact ((Below.refl _ _).alloc (Nat.le_refl _) _).alloc (by simp) _)
    have HD0 := hid ((D0.out.block _ (block_lt HC0.out)).trans HC0.out)
    have HD1 := hid ((D0.out.block _ (block_lt HC1.out)).trans HC1.out)
    have HD2 := hid ((D0.out.block _ (block_lt HC2.out)).trans HC2.out)
    have HD3 := hid ((D0.out.block _ (block_lt HC3.out)).trans HC3.out)
    have H2 := hid (below_trans H1.out D0.out H1.out.size)
    have WS : Hid (w1.heap.size ≤ w2.heap.size) := hid D0.out.size
    have LT := hid (block_lt HC3.out)
    have I0 : Hid (InvA w1.heap.size (w1.heap.size + 1) (inK C B s T) 0 w2) := hid ⟨w1.heap.size, 0, by rw [hw2]; exact blk_at _ _ _ (by simp), by
      have h1 : GotF (w1.alloc (.cells #[] 22)) w1.heap.size (.slice (some ⟨w1.heap.size, 0, none⟩) 0 0) [] := gotf_empty _ _ (Nat.le_refl _)
      rw [hw2]; exact World.ownsRow.alloc h1 _⟩
    have W2 := hid hw2
    clear hw2
    have CR := hid (c_run_a (.pointer (some ⟨w1.heap.size + 1, 0, none⟩)) (fun k w' => InvA w1.heap.size (w1.heap.size + 1) (inK C B s T) k w' ∧ w1.heap.size ≤ w'.heap.size) w.heap.size C HHC.out B HHB.out s HHS.out T a n ca w.heap.size HHT.out N5.out w2 (fun k w w' h hb => ⟨InvA.below k w w' h.1 hb, Nat.le_trans h.2 hb.size⟩) (fun k w g cs cs' h hg => ⟨InvA.set k w g cs cs' h.1 hg, by simpa [World.setRow] using h.2⟩) (fun k w' hk hI => (c_TickAll1 w.heap.size w1.heap.size (w1.heap.size + 1) k (inK C B s T) _ _ _ (by have := N5.out; omega) H1.out.size (by have := H1.out.size; omega) w' hI.2 hI.1).mono fun e w2 h => ⟨h.1, ⟨h.2.1, Nat.le_trans hI.2 h.2.2.below.size⟩, h.2.2⟩) HD0.out H2.out.size (fun w' hb => X.out.below (H2.out.trans hb)) ⟨I0.out, WS.out⟩)
    go_wp2_with (first | (rw [← W2.out]) | (refine wpList_load_row rfl 37 _ rfl (w.heap.size + 1) rfl 37 (bcells B) (0, 0) _ HD1.out Try.underlying37 rfl HZB.out ?_) | (refine wpList_load_row rfl 39 _ rfl (w.heap.size + 1 + 1) rfl 39 (stcells s) (0, 0) _ HD2.out Try.underlying39 rfl HZS.out ?_))
    refine CR.out.mono ?_
    rintro e w3 ⟨rfl, i3, s3⟩
    obtain ⟨g3, cap3, hb3, hg3⟩ := i3.1
    have HQ3 := hid hb3
    have G3 := hid hg3
    have HR3 := hid (s3.typed _ _ _ (.inr (.inr (.inl rfl))) HD3.out)
    have H3 := hid (H2.out.trans s3.below)
    have SZ3 := hid i3.2
    clear hb3 hg3 i3 s3
    generalize hs2 : staK C B s T n = s2 at *
    have ZS2 := hid (size_st2 s2)
    have ZV : Hid ((w3.alloc (.cells zSt 39)).heap[w3.heap.size]? = some (.cells zSt 39 (0, 0))) := hid (blk_at _ _ _ rfl)
    obtain ⟨w4, hw4⟩ : ∃ w4, w4 = (w3.alloc (.cells #[.int .i16 0, .int .i8 0, .int .i8 0] 39)).setRow w3.heap.size (stcells s2) := ⟨_, rfl⟩
    have D4 : Hid (Below w3.heap.size w3 w4) := hid (by rw [hw4]; exact below_setRow ((Below.refl _ _).alloc (Nat.le_refl _) _) (Nat.le_refl _) _)
    have HN4 : Hid (w4.heap[w3.heap.size]? = some (.cells (stcells s2) 39 (0, 0))) := hid (by rw [hw4]; exact blk_row_same _ _ zSt (stcells s2) _ _ ZV.out)
    have HQ4 := hid ((D4.out.block _ (block_lt HQ3.out)).trans HQ3.out)
    have HR4 := hid ((D4.out.block _ (block_lt HR3.out)).trans HR3.out)
    have G4 := hid (own_below G3.out D4.out)
    have H4 := hid (H3.out.trans (D4.out.mono H3.out.size))
    have W4 := hid hw4
    have e1 : ¬ (w.heap.size + 1 + 1 + 1 = w3.heap.size) := by have := block_lt HR3.out; omega
    have e2 : ¬ (w.heap.size + 1 + 1 + 1 = w1.heap.size + 1) := by have := LT.out; omega
    have hbw : Hid (w.heap.size + 1 + 1 + 1 < w1.heap.size) := hid LT.out
    clear hw4 hs2
    go_wp2_with (refine wpList_store_row rfl 39 _ _ rfl w3.heap.size (stcells s2) rfl rfl 39 zSt ZV.out ZS2.out rfl (stcells_one _) ?_)
    rw [← W4.out]
    have s0 : w4.cell? ⟨w3.heap.size, 0, none⟩ = some (.int .i16 s2.ti) := cell_of_row _ _ 0 _ _ _ HN4.out
    have s1 : w4.cell? ⟨w3.heap.size, 1, none⟩ = some (.int .i8 s2.wa) := cell_of_row _ _ 1 _ _ _ HN4.out
    have s2' : w4.cell? ⟨w3.heap.size, 2, none⟩ = some (.int .i8 s2.so) := cell_of_row _ _ 2 _ _ _ HN4.out
    have q0 := oneCell HQ4.out
    have r0 : w4.cell? ⟨w.heap.size + 1 + 1 + 1, 0, none⟩ = some (.int .i16 0) := cell_of_row _ _ 0 _ _ _ HR4.out
    have r1 : w4.cell? ⟨w.heap.size + 1 + 1 + 1, 1, none⟩ = some (.int .i8 0) := cell_of_row _ _ 1 _ _ _ HR4.out
    have r2 : w4.cell? ⟨w.heap.size + 1 + 1 + 1, 2, none⟩ = some (.int .i8 0) := cell_of_row _ _ 2 _ _ _ HR4.out
    have x0 := frozen_of_row w4 (w.heap.size + 1 + 1 + 1) 0 _ _ HR4.out
    have x1 := frozen_of_row w4 (w.heap.size + 1 + 1 + 1) 1 _ _ HR4.out
    have x2 := frozen_of_row w4 (w.heap.size + 1 + 1 + 1) 2 _ _ HR4.out
    go_region
    all_goals
      go_wp2_with fail
      refine bodyPost_ret (v := .tuple #[.agg #[.int .i16 s2.ti, .int .i8 s2.wa, .int .i8 s2.so], .slice (some ⟨g3, 0, none⟩) (lightsT (inK C B s T) n).length cap3, .int .i64 0]) (by simp [results, Try.results18, go_sem, *]) rfl ⟨⟨_, by rw [ES.out, hz2.out]; rfl, ?_⟩, ?_⟩
      · rw [EL.out]
        refine own_from (lo := w1.heap.size) ?_ H1.out.size
        repeat (first | exact G4.out | apply World.ownsRow.drew | (refine ownsRow_setCell_below ?_ hbw.out _))
      · repeat (first | exact H4.out | apply Below.drew | (refine Below.setCell ?_ (by simp <;> omega) _))
  · have hz2 : Hid (¬ tkC C B s T n = 0) := hid hz
    have ES := hid (show taS C B s T n = ⟨0, 0, 0⟩ by rw [taS, if_neg hz])
    have EL := hid (show taL C B s T n = [] by rw [taL, if_neg hz])
    generalize hcv : tkC C B s T n = cv at *
    have hne : (cv != 0) = true := by rw [bne_iff_ne]; exact hz
    clear hcv hz hok hx wc wb ws
    go_enter Try.func18, Try.ntmps18
    go_wp2_with (first | (refine wpList_load_row rfl 35 _ rfl (w.heap.size) rfl 35 (ccells C) (0, 0) _ HB0.out Try.underlying35 rfl HZC.out ?_) | (refine wpList_load_row rfl 37 _ rfl (w.heap.size + 1) rfl 37 (bcells B) (0, 0) _ HB1.out Try.underlying37 rfl HZB.out ?_) | (refine wpList_load_row rfl 39 _ rfl (w.heap.size + 1 + 1) rfl 39 (stcells s) (0, 0) _ HB2.out Try.underlying39 rfl HZS.out ?_))
    refine (CK.out _ X0.out).mono ?_
    rintro e w1 ⟨rfl, h1⟩
    have H1 := hid (below_trans H0.out h1 H0.out.size)
    have HC3 := hid ((h1.block _ (block_lt HB3.out)).trans HB3.out)
    clear h1
    go_wp2_with (refine wpList_store_row rfl 39 _ _ rfl (w.heap.size + 1 + 1 + 1) (stcells ⟨0, 0, 0⟩) rfl rfl 39 zSt HC3.out HZZ.out rfl (stcells_one _) ?_)
    refine bodyPost_ret (v := .tuple #[.agg (stcells ⟨0, 0, 0⟩), _, .int .i64 _]) (res_row2 rfl _ _ (w.heap.size + 1 + 1 + 1) 39 (stcells ⟨0, 0, 0⟩) (0, 0) _ rfl (blk_row_same _ _ _ _ _ _ HC3.out) Try.underlying39 rfl (size_st _) _ _ rfl rfl) rfl ⟨⟨_, by rw [ES.out], by rw [EL.out]; exact GotF.nil _ _⟩, below_setRow H1.out (by omega) _⟩
set_option maxHeartbeats 2000000 in
theorem c_specTickAll (C : Ctl) (wc : WfC C) (B : Bld) (wb : WfB B) (s : Sta) (ws : WfS s) (a : Option Addr) (n ca : Nat) (T : Nat → Tck) (w : World) (hok : TcksOk T n) (hx : Rws w a n 3 (tcs T)) :
    Calls Try.prog 17 #[.agg (ccells C), .agg (bcells B), .agg (stcells s), .slice a n ca] w fun e w' => (∃ v, e = .returned (.tuple #[.agg (stcells (taS C B s T n)), v, .int .i64 (tkC C B s T n)]) ∧ GotF w' w.heap.size v (taL C B s T n)) ∧ Below w.heap.size w w' := by
  have HB0 : Hid (((((w.alloc (.cells (ccells C) 35)).alloc (.cells (bcells B) 37)).alloc (.cells (stcells s) 39)).alloc (.cells zSt 39)).heap[w.heap.size]? = some (.cells (ccells C) 35 (0, 0))) := hid ((blk_past _ _ _ (by simp <;> omega)).trans ((blk_past _ _ _ (by simp <;> omega)).trans ((blk_past _ _ _ (by simp)).trans (blk_at _ _ _ rfl))))
  have HB1 : Hid (((((w.alloc (.cells (ccells C) 35)).alloc (.cells (bcells B) 37)).alloc (.cells (stcells s) 39)).alloc (.cells zSt 39)).heap[w.heap.size + 1]? = some (.cells (bcells B) 37 (0, 0))) := hid ((blk_past _ _ _ (by simp <;> omega)).trans ((blk_past _ _ _ (by simp)).trans (blk_at _ _ _ (by simp))))
  have HB2 : Hid (((((w.alloc (.cells (ccells C) 35)).alloc (.cells (bcells B) 37)).alloc (.cells (stcells s) 39)).alloc (.cells zSt 39)).heap[w.heap.size + 1 + 1]? = some (.cells (stcells s) 39 (0, 0))) := hid ((blk_past _ _ _ (by simp)).trans (blk_at _ _ _ (by simp)))
  have HB3 : Hid (((((w.alloc (.cells (ccells C) 35)).alloc (.cells (bcells B) 37)).alloc (.cells (stcells s) 39)).alloc (.cells zSt 39)).heap[w.heap.size + 1 + 1 + 1]? = some (.cells zSt 39 (0, 0))) := hid (blk_at _ _ _ (by simp))
  have H0 : Hid (Below w.heap.size w ((((w.alloc (.cells (ccells C) 35)).alloc (.cells (bcells B) 37)).alloc (.cells (stcells s) 39)).alloc (.cells zSt 39))) := hid (((((Below.refl _ _).alloc (Nat.le_refl _) _).alloc (by simp) _).alloc (by simp <;> omega) _).alloc (by simp <;> omega) _)
  have HZC := hid (size_ct C)
  have HZB := hid (size_blind B)
  have HZS := hid (size_st2 s)
  have HZZ := hid size_zst
  have X := hid hx
  have hn := hx.small
  have CK := hid (c_l05Asked C wc B wb s ws w.heap.size (w.heap.size + 1) (w.heap.size + 1 + 1) a n ca T _ (CtlAt.of_block HB0.out) (BldAt.of_block HB1.out) (StaAt.of_block HB2.out) hok (hx.below H0.out))
  by_cases hz : tkC C B s T n = 0
  · obtain ⟨z1, z2, z3, z4, z5⟩ := tkC_zero hz
    have HHC := hid (OkC.of wc z1)
    have HHB := hid (OkB.of wb z2)
    have HHS := hid (OkS.of z3)
    have HHT := hid (fun k (hk : k < n) => OkT.of (hok k hk) (okTs_at z4 hk))
    have N5 := hid z5
    have hz2 := hid hz
    rw [hz] at CK
    have ES := hid (show taS C B s T n = staK C B s T n by rw [taS, if_pos hz])
    have EL := hid (show taL C B s T n = lightsT (inK C B s T) n by rw [taL, if_pos hz])
    clear wc wb ws hok hx hz z1 z2 z3 z4 z5
    obtain ⟨i0, hi, hz0, hz1, hz3⟩ := info_parts info_f32
    have HI := hid hi
    have HF0 := hid hz0
    have HF1 := hid hz1
    have HF2 := hid hz3
    clear hi hz0 hz1 hz3
    go_enter Try.func17, Try.ntmps17
    go_wp2_with (first | (go_at_call 66; refine CK.out.mono ?_; rintro e w1 ⟨rfl, h1⟩))
    have H1 := hid (below_trans H0.out h1 H0.out.size)
    have HQ := hid (H1.out.alloc H1.out.size (.cells #[] 22))
    have D1 : Hid (Below w1.heap.size w1 (w1.alloc (.cells #[] 22))) := hid ((Below.refl _ _).alloc (Nat.le_refl _) _)
    have HC0 := hid ((D1.out.block _ (Nat.lt_of_lt_of_le (block_lt HB0.out) h1.size)).trans ((h1.block _ (block_lt HB0.out)).trans HB0.out))
    have HC1 := hid ((D1.out.block _ (Nat.lt_of_lt_of_le (block_lt HB1.out) h1.size)).trans ((h1.block _ (block_lt HB1.out)).trans HB1.out))
    have HC2 := hid ((D1.out.block _ (Nat.lt_of_lt_of_le (block_lt HB2.out) h1.size)).trans ((h1.block _ (block_lt HB2.out)).trans HB2.out))
    have HC3 := hid ((D1.out.block _ (Nat.lt_of_lt_of_le (block_lt HB3.out) h1.size)).trans ((h1.block _ (block_lt HB3.out)).trans HB3.out))
    have LB := hid (Nat.lt_of_lt_of_le (block_lt HB3.out) h1.size)
    have OV0 : Hid (GotF (w1.alloc (.cells #[] 22)) w1.heap.size (.slice (some ⟨w1.heap.size, 0, none⟩) 0 0) []) := hid (gotf_empty _ _ (Nat.le_refl _))
    clear h1
    go_loopw [12, 13] (fun v i wr => ∃ k : Nat, k ≤ n ∧ i = .int .i64 k ∧ (GotF wr w1.heap.size v (lightsT (inK C B s T) k) ∧ w1.heap.size ≤ wr.heap.size) ∧ wr.heap[w.heap.size]? = some (.cells (ccells C) 35 (0, 0)) ∧ wr.heap[w.heap.size + 1]? = some (.cells (bcells B) 37 (0, 0)) ∧ wr.heap[w.heap.size + 1 + 1]? = some (.cells (stcells (staK C B s T k)) 39 (0, 0)) ∧ wr.heap[w.heap.size + 1 + 1 + 1]? = some (.cells zSt 39 (0, 0)) ∧ Below w.heap.size w wr) (fun _ i _ => n - (intOf i).toNat)
    case atStart => exact ⟨0, by omega, rfl, ⟨OV0.out, D1.out.size⟩, HC0.out, HC1.out, HC2.out, HC3.out, HQ.out⟩
    case round =>
      obtain ⟨k, hk, rfl, hv, hb0, hb1, hb2, hb3, hbel⟩ := hrel
      have F3 := hid hb3
      clear hb3
      have VV := hid hv
      have F0 := hid hb0
      have F1 := hid hb1
      have F2 := hid hb2
      have HW := hid hbel
      clear hv hb0 hb1 hb2 hbel
      by_cases hlt : k < n
      · obtain ⟨b1, o1, rfl, hc1⟩ := X.out.at_ (by omega)
        have TA := hid (fun w2 (h : Below w.heap.size w w2) => TckAt.of_range (range_below (hc1 k hlt) h))
        have CT := hid (fun w2 hA hT => show Calls Try.prog 67 #[.pointer (some ⟨w.heap.size, 0, none⟩), .agg (bcells B), .agg (stcells (staK C B s T k)), .pointer (some ⟨b1, o1 + k * 3, none⟩)] w2 fun e w' => e = .returned (.tuple #[.agg (stcells (staK C B s T (k + 1))), .float .f32 (inK C B s T k)]) ∧ Below w2.heap.size w2 w' from c_l05Once C HHC.out B HHB.out (staK C B s T k) (staK_ok HHC.out B HHS.out T k) (T k) (HHT.out k hlt) w.heap.size b1 (o1 + k * 3) w2 hA hT)
        have UP := hid (show decide (0 < (staK C B s T (k + 1)).so) = upK C B s T k from next_up C B (staK C B s T k) (T k))
        have SO := hid (staK_ok HHC.out B HHS.out T (k + 1)).so
        clear hc1
        generalize hs2 : staK C B s T (k + 1) = s2 at *
        have SK2 := hid hs2
        clear hs2
        generalize hs1 : staK C B s T k = s1 at *
        have SK1 := hid hs1
        clear hs1
        generalize hx1 : inK C B s T k = x at *
        have XX := hid hx1
        clear hx1
        generalize hu1 : upK C B s T k = u at *
        have UU := hid hu1
        clear hu1
        have ZS1 := hid (size_st2 s1)
        have ZS2 := hid (size_st2 s2)
        have FE : Hid (zSt.size = (stcells s2).size) := hid rfl
        have hkn : (k : Int) < (n : Int) := by omega
        have hwk : IntKind.i64.wrap (k : Int) = (k : Int) := by rw [IntWalk.i64_in] <;> omega
        have VO := hid (show wr.ownsRow _ _ _ _ _ _ ∧ w1.heap.size ≤ wr.heap.size from VV.out)
        obtain ⟨w0, hw0⟩ : ∃ w0, w0 = wr := ⟨_, rfl⟩
        subst hw0
        go_wp2_with fail
        refine wp_region_held (S := fun wx => wx.heap[w.heap.size]? = some (.cells (ccells C) 35 (0, 0)) ∧ wx.heap[w.heap.size + 1]? = some (.cells (bcells B) 37 (0, 0)) ∧ wx.heap[w.heap.size + 1 + 1]? = some (.cells (stcells s1) 39 (0, 0)) ∧ wx.heap[w.heap.size + 1 + 1 + 1]? = some (.cells (zSt) 39 (0, 0))) (by kernel_rfl) ?_
        refine wpAnyH_take (i := 0) (fuel := 11) rfl (by kernel_rfl) (by kernel_rfl) (by kernel_rfl) (fun c a w h => h) (yldRow rfl _ _ rfl (w.heap.size + 1) rfl 37 (bcells B) (0, 0) _ (fun wx h => h.2.1) Try.underlying37 rfl HZB.out) ⟨F0.out, F1.out, F2.out, F3.out⟩ ?_
        refine wpAnyH_take (i := 1) (fuel := 10) rfl (by kernel_rfl) (by kernel_rfl) (by kernel_rfl) (fun c a w h => h) (yldRow rfl _ _ rfl (w.heap.size + 1 + 1) rfl 39 (stcells s1) (0, 0) _ (fun wx h => h.2.2.1) Try.underlying39 rfl ZS1.out) ⟨F0.out, F1.out, F2.out, F3.out⟩ ?_
        refine wpAnyH_take (i := 2) (fuel := 9) rfl (by kernel_rfl) (by kernel_rfl) (by kernel_rfl) (fun c a w h => h) (yldMove rfl _ rfl) ⟨F0.out, F1.out, F2.out, F3.out⟩ ?_
        refine wpAnyH_take (i := 3) (fuel := 8) rfl (by kernel_rfl) (by kernel_rfl) (by kernel_rfl) (fun c a w h => h) (yldMove rfl _ rfl) ⟨F0.out, F1.out, F2.out, F3.out⟩ ?_
        refine wpAnyH_all (rs := [4, 9]) (fuel := 7) (by kernel_rfl) (by simp) ?_
        intro i hi
        rcases (show i = 4 ∨ i = 9 from by simpa using hi) with rfl | rfl
        · clear hi
          refine wpOpPlain rfl rfl ?_
          go_simp
          refine ⟨⟨F0.out, F1.out, F2.out, F3.out⟩, ?_⟩
          refine wpAnyH_all (rs := [5, 9]) (fuel := 6) (by kernel_rfl) (by simp) ?_
          intro i hi
          rcases (show i = 5 ∨ i = 9 from by simpa using hi) with rfl | rfl
          · clear hi
            refine wpOpPlain rfl rfl ?_
            go_simp
            go_at_call 67
            refine (CT.out (w0.drew) (CtlAt.of_block (w := w0.drew) F0.out) (TA.out _ HW.out.drew)).mono ?_
            rintro e wr2 ⟨rfl, hr2⟩
            have Dr2 : Hid (Below w0.heap.size w0 wr2) := hid ⟨hr2.os, hr2.tape, hr2.output, hr2.size, hr2.block⟩
            clear hr2
            have Fr2_0 := hid ((Dr2.out.block _ (block_lt F0.out)).trans F0.out)
            have Fr2_1 := hid ((Dr2.out.block _ (block_lt F1.out)).trans F1.out)
            have Fr2_2 := hid ((Dr2.out.block _ (block_lt F2.out)).trans F2.out)
            have Fr2_3 := hid ((Dr2.out.block _ (block_lt F3.out)).trans F3.out)
            have Hr2 := hid (below_trans HW.out Dr2.out HW.out.size)
            refine ⟨⟨Fr2_0.out, Fr2_1.out, Fr2_2.out, Fr2_3.out⟩, ?_⟩
            have OWr2 := hid (ownl_below VO.out Dr2.out)
            refine wpAnyH_take (i := 6) (fuel := 5) rfl (by kernel_rfl) (by kernel_rfl) (by kernel_rfl) (fun c a w h => h) (yldMove rfl _ rfl) ⟨Fr2_0.out, Fr2_1.out, Fr2_2.out, Fr2_3.out⟩ ?_
            refine wpAnyH_take (i := 7) (fuel := 4) rfl (by kernel_rfl) (by kernel_rfl) (by kernel_rfl) (fun c a w h => h) (yldExtract rfl _ 0 rfl _ rfl _ rfl) ⟨Fr2_0.out, Fr2_1.out, Fr2_2.out, Fr2_3.out⟩ ?_
            refine wpAnyH_take (i := 8) (fuel := 3) rfl (by kernel_rfl) (by kernel_rfl) (by kernel_rfl) (fun c a w h => h) (yldExtract rfl _ 1 rfl _ rfl _ rfl) ⟨Fr2_0.out, Fr2_1.out, Fr2_2.out, Fr2_3.out⟩ ?_
            refine wpAnyH_all (rs := [9]) (fuel := 2) (by kernel_rfl) (by simp) ?_
            intro i hi
            obtain rfl : i = 9 := by simpa using hi
            clear hi
            refine wpOpPlain rfl rfl ?_
            go_simp
            have HAr3 : Hid ((wr2.alloc (.cells zSt 39)).heap[wr2.heap.size]? = some (.cells zSt 39 (0, 0))) := hid (heap_alloc_new wr2 _)
            have Dr3 : Hid (Below wr2.heap.size wr2 (wr2.alloc (.cells zSt 39))) := hid (by have h := (Below.refl wr2.heap.size wr2).alloc (Nat.le_refl _) (.cells zSt 39); exact ⟨h.os, h.tape, h.output, h.size, h.block⟩)
            have Fr3_0 := hid ((Dr3.out.block _ (block_lt Fr2_0.out)).trans Fr2_0.out)
            have Fr3_1 := hid ((Dr3.out.block _ (block_lt Fr2_1.out)).trans Fr2_1.out)
            have Fr3_2 := hid ((Dr3.out.block _ (block_lt Fr2_2.out)).trans Fr2_2.out)
            have Fr3_3 := hid ((Dr3.out.block _ (block_lt Fr2_3.out)).trans Fr2_3.out)
            have Hr3 := hid (below_trans Hr2.out Dr3.out Hr2.out.size)
            refine ⟨⟨Fr3_0.out, Fr3_1.out, Fr3_2.out, Fr3_3.out⟩, ?_⟩
            refine genWorld (p := wpAnyH _ _ _ _ _ _ _ _) (w0 := wr2.alloc (.cells zSt 39)) (fun wr3 hwr3 => ?_)
            rw [← hwr3] at HAr3 Dr3 Hr3 Fr3_0 Fr3_1 Fr3_2 Fr3_3
            have GBr : Hid (w.heap.size + 1 + 1 + 1 < wr2.heap.size) := hid (block_lt Fr2_3.out)
            have GWr : Hid (w.heap.size ≤ wr2.heap.size) := hid Hr2.out.size
            clear hwr3
            have OWr3 := hid (ownl_below OWr2.out Dr3.out)
            refine wpAnyH_all (rs := [10]) (fuel := 1) (by kernel_rfl) (by simp) ?_
            intro i hi
            obtain rfl : i = 10 := by simpa using hi
            clear hi
            have OWr4 := hid (ownl_setRow OWr3.out (cs' := (stcells s2)) HAr3.out (by decide))
            refine wpOpPlain rfl rfl ?_
            refine wp_store_row 39 _ _ rfl (wr2.heap.size) (stcells s2) rfl rfl 39 zSt HAr3.out ZS2.out FE.out (stcells_one _) ?_
            have Fr4_0 := hid ((setRow_other wr3 (wr2.heap.size) (w.heap.size) (stcells s2) (by have := GBr.out; omega)).trans Fr3_0.out)
            have Fr4_1 := hid ((setRow_other wr3 (wr2.heap.size) (w.heap.size + 1) (stcells s2) (by have := GBr.out; omega)).trans Fr3_1.out)
            have Fr4_2 := hid ((setRow_other wr3 (wr2.heap.size) (w.heap.size + 1 + 1) (stcells s2) (by have := GBr.out; omega)).trans Fr3_2.out)
            have Fr4_3 := hid ((setRow_other wr3 (wr2.heap.size) (w.heap.size + 1 + 1 + 1) (stcells s2) (by have := GBr.out; omega)).trans Fr3_3.out)
            have Hr4 := hid (below_setRow Hr3.out (g := wr2.heap.size) GWr.out (stcells s2))
            have Qr4 := hid (blk_row_same wr3 (wr2.heap.size) zSt (stcells s2) _ _ HAr3.out)
            refine ⟨⟨Fr4_0.out, Fr4_1.out, Fr4_2.out, Fr4_3.out⟩, ?_⟩
            refine genWorld (p := wpAnyH _ _ _ _ _ _ _ _) (w0 := wr3.setRow (wr2.heap.size) (stcells s2)) (fun wr4 hwr4 => ?_)
            rw [← hwr4] at Hr4 Qr4 Fr4_0 Fr4_1 Fr4_2 Fr4_3 OWr4
            clear hwr4
            refine wpAnyH_all (rs := [11]) (fuel := 0) (by kernel_rfl) (by simp) ?_
            intro i hi
            obtain rfl : i = 11 := by simpa using hi
            clear hi
            refine wpOpPlain rfl rfl ?_
            go_simp
            refine ⟨⟨Fr4_0.out, Fr4_1.out, Fr4_2.out, Fr4_3.out⟩, ?_⟩
            refine wpAnyH_done (by kernel_rfl) ?_ 0
            simp only [Exit.then]
            have OZr := OWr4
            have FZr_0 := Fr4_0
            have FZr_1 := Fr4_1
            have FZr_2 := Fr4_2
            have FZr_3 := Fr4_3
            have HZr := Hr4
            have QZr := Qr4
            generalize wr2.heap.size = gr at QZr GBr GWr ⊢
            generalize wr4 = zr at *
            have R := hid (lightsT_succ (inK C B s T) k)
            have GLN := hid (lightsT_len (inK C B s T) k)
            generalize hL : lightsT (inK C B s T) k = L at *
            clear hL
            generalize hln : L.length = ln at *
            have LN := hid hln
            clear hln
            have gl : ln ≤ 100 := by have := GLN.out; have := N5.out; omega
            obtain ⟨zs, hzs⟩ : ∃ zs, zs = zr.setRow (w.heap.size + 1 + 1) (stcells s2) := ⟨_, rfl⟩
            have ZW : Hid (zs.heap[w.heap.size + 1 + 1]? = some (.cells (stcells s2) 39 (0, 0))) := hid (by rw [hzs]; exact blk_row_same _ _ _ (stcells s2) _ _ FZr_2.out)
            have E0 := hid (show zs.heap[w.heap.size]? = _ from hzs ▸ (setRow_other zr (w.heap.size + 1 + 1) (w.heap.size) (stcells s2) (by omega)).trans FZr_0.out)
            have E1 := hid (show zs.heap[w.heap.size + 1]? = _ from hzs ▸ (setRow_other zr (w.heap.size + 1 + 1) (w.heap.size + 1) (stcells s2) (by omega)).trans FZr_1.out)
            have E3 := hid (show zs.heap[w.heap.size + 1 + 1 + 1]? = _ from hzs ▸ (setRow_other zr (w.heap.size + 1 + 1) (w.heap.size + 1 + 1 + 1) (stcells s2) (by omega)).trans FZr_3.out)
            have EB := hid (show Below w.heap.size w zs from hzs ▸ below_setRow HZr.out (g := w.heap.size + 1 + 1) (by omega) (stcells s2))
            have OO := hid (show zs.ownsRow w1.heap.size 22 1 _ ln _ ∧ w1.heap.size ≤ zs.heap.size from hzs ▸ ownl_setRow (T := 22) OZr.out (cs' := stcells s2) FZr_2.out (by decide))
            have ZZS := hid hzs
            clear hzs
            go_wp2_with (first | (refine wpList_load_row rfl 39 _ rfl gr rfl 39 (stcells s2) (0, 0) _ QZr.out Try.underlying39 rfl ZS2.out ?_) | (refine wpList_store_row rfl 39 _ _ rfl (w.heap.size + 1 + 1) (stcells s2) rfl rfl 39 (stcells s1) FZr_2.out ZS2.out rfl (stcells_one _) ?_) | (rw [← ZZS.out]) | (at_builtin; refine wpList_append_own _ rfl _ _ 45 rfl w1.heap.size 22 i0 (.float .f32 0) 1 4 Try.underlying45 HI.out HF0.out HF1.out HF2.out rfl (by decide) _ _ _ rfl (OO.out.1.alloc _) ⟨zs.heap.size, 0, none⟩ 1 1 [.float .f32 x] rfl rfl (one_at _ _ _) (one_cell _) (by unfold maxLen; omega) (by omega) (by have e1 := OO.out.2; simp; omega) ?_; intro v' w3 hown' hgrow _; obtain ⟨g', cap', rfl⟩ := ownsRow_succ hown'; have O3 := hid hown'; have G3 := hid hgrow; have A0 := hid (blk_app (T := 22) OO.out.1 G3.out E0.out (by decide)); have A1 := hid (blk_app (T := 22) OO.out.1 G3.out E1.out (by decide)); have A2 := hid (blk_app (T := 22) OO.out.1 G3.out ZW.out (by decide)); have A3 := hid (blk_app (T := 22) OO.out.1 G3.out E3.out (by decide)); have HA := hid (own_app EB.out EB.out.size H1.out.size OO.out.1 G3.out); have L3 := hid (show w1.heap.size ≤ w3.heap.size from Nat.le_trans OO.out.2 (Nat.le_trans (by simp) G3.out.size)); clear hgrow hown'))
            exact ⟨⟨k + 1, by omega, by go_num, ⟨by rw [R.out, XX.out]; unfold GotF; rw [List.map_append, List.length_append, LN.out]; exact O3.out, L3.out⟩, A0.out, A1.out, by rw [SK2.out]; exact A2.out, A3.out, HA.out⟩, by simp [intOf]; omega⟩
          · clear hi
            refine wpOpPlain rfl rfl ?_
            go_simp
            have HAr2 : Hid ((w0.drew.alloc (.cells zSt 39)).heap[w0.heap.size]? = some (.cells zSt 39 (0, 0))) := hid (heap_alloc_new w0.drew _)
            have Dr2 : Hid (Below w0.heap.size w0 (w0.drew.alloc (.cells zSt 39))) := hid (by have h := (Below.refl w0.drew.heap.size w0.drew).alloc (Nat.le_refl _) (.cells zSt 39); exact ⟨h.os, h.tape, h.output, h.size, h.block⟩)
            have Fr2_0 := hid ((Dr2.out.block _ (block_lt F0.out)).trans F0.out)
            have Fr2_1 := hid ((Dr2.out.block _ (block_lt F1.out)).trans F1.out)
            have Fr2_2 := hid ((Dr2.out.block _ (block_lt F2.out)).trans F2.out)
            have Fr2_3 := hid ((Dr2.out.block _ (block_lt F3.out)).trans F3.out)
            have Hr2 := hid (below_trans HW.out Dr2.out HW.out.size)
            refine ⟨⟨Fr2_0.out, Fr2_1.out, Fr2_2.out, Fr2_3.out⟩, ?_⟩
            refine genWorld (p := wpAnyH _ _ _ _ _ _ _ _) (w0 := w0.drew.alloc (.cells zSt 39)) (fun wr2 hwr2 => ?_)
            rw [← hwr2] at HAr2 Dr2 Hr2 Fr2_0 Fr2_1 Fr2_2 Fr2_3
            have GBr : Hid (w.heap.size + 1 + 1 + 1 < w0.heap.size) := hid (block_lt F3.out)
            have GWr : Hid (w.heap.size ≤ w0.heap.size) := hid HW.out.size
            clear hwr2
            have OWr2 := hid (ownl_below VO.out Dr2.out)
            refine wpAnyH_all (rs := [5]) (fuel := 5) (by kernel_rfl) (by simp) ?_
            intro i hi
            obtain rfl : i = 5 := by simpa using hi
            clear hi
            refine wpOpPlain rfl rfl ?_
            go_simp
            go_at_call 67
            refine (CT.out (wr2) (CtlAt.of_block (w := wr2) Fr2_0.out) (TA.out _ Hr2.out)).mono ?_
            rintro e wr3 ⟨rfl, hr3⟩
            have Dr3 : Hid (Below wr2.heap.size wr2 wr3) := hid ⟨hr3.os, hr3.tape, hr3.output, hr3.size, hr3.block⟩
            clear hr3
            have Fr3_0 := hid ((Dr3.out.block _ (block_lt Fr2_0.out)).trans Fr2_0.out)
            have Fr3_1 := hid ((Dr3.out.block _ (block_lt Fr2_1.out)).trans Fr2_1.out)
            have Fr3_2 := hid ((Dr3.out.block _ (block_lt Fr2_2.out)).trans Fr2_2.out)
            have Fr3_3 := hid ((Dr3.out.block _ (block_lt Fr2_3.out)).trans Fr2_3.out)
            have Hr3 := hid (below_trans Hr2.out Dr3.out Hr2.out.size)
            have Qr3 := hid ((Dr3.out.block _ (block_lt HAr2.out)).trans HAr2.out)
            refine ⟨⟨Fr3_0.out, Fr3_1.out, Fr3_2.out, Fr3_3.out⟩, ?_⟩
            have OWr3 := hid (ownl_below OWr2.out Dr3.out)
            refine wpAnyH_take (i := 6) (fuel := 4) rfl (by kernel_rfl) (by kernel_rfl) (by kernel_rfl) (fun c a w h => h) (yldMove rfl _ rfl) ⟨Fr3_0.out, Fr3_1.out, Fr3_2.out, Fr3_3.out⟩ ?_
            refine wpAnyH_take (i := 7) (fuel := 3) rfl (by kernel_rfl) (by kernel_rfl) (by kernel_rfl) (fun c a w h => h) (yldExtract rfl _ 0 rfl _ rfl _ rfl) ⟨Fr3_0.out, Fr3_1.out, Fr3_2.out, Fr3_3.out⟩ ?_
            refine wpAnyH_take (i := 8) (fuel := 2) rfl (by kernel_rfl) (by kernel_rfl) (by kernel_rfl) (fun c a w h => h) (yldExtract rfl _ 1 rfl _ rfl _ rfl) ⟨Fr3_0.out, Fr3_1.out, Fr3_2.out, Fr3_3.out⟩ ?_
            refine wpAnyH_all (rs := [10]) (fuel := 1) (by kernel_rfl) (by simp) ?_
            intro i hi
            obtain rfl : i = 10 := by simpa using hi
            clear hi
            have OWr4 := hid (ownl_setRow OWr3.out (cs' := (stcells s2)) Qr3.out (by decide))
            refine wpOpPlain rfl rfl ?_
            refine wp_store_row 39 _ _ rfl (w0.heap.size) (stcells s2) rfl rfl 39 zSt Qr3.out ZS2.out FE.out (stcells_one _) ?_
            have Fr4_0 := hid ((setRow_other wr3 (w0.heap.size) (w.heap.size) (stcells s2) (by have := GBr.out; omega)).trans Fr3_0.out)
            have Fr4_1 := hid ((setRow_other wr3 (w0.heap.size) (w.heap.size + 1) (stcells s2) (by have := GBr.out; omega)).trans Fr3_1.out)
            have Fr4_2 := hid ((setRow_other wr3 (w0.heap.size) (w.heap.size + 1 + 1) (stcells s2) (by have := GBr.out; omega)).trans Fr3_2.out)
            have Fr4_3 := hid ((setRow_other wr3 (w0.heap.size) (w.heap.size + 1 + 1 + 1) (stcells s2) (by have := GBr.out; omega)).trans Fr3_3.out)
            have Hr4 := hid (below_setRow Hr3.out (g := w0.heap.size) GWr.out (stcells s2))
            have Qr4 := hid (blk_row_same wr3 (w0.heap.size) zSt (stcells s2) _ _ Qr3.out)
            refine ⟨⟨Fr4_0.out, Fr4_1.out, Fr4_2.out, Fr4_3.out⟩, ?_⟩
            refine genWorld (p := wpAnyH _ _ _ _ _ _ _ _) (w0 := wr3.setRow (w0.heap.size) (stcells s2)) (fun wr4 hwr4 => ?_)
            rw [← hwr4] at Hr4 Qr4 Fr4_0 Fr4_1 Fr4_2 Fr4_3 OWr4
            clear hwr4
            refine wpAnyH_all (rs := [11]) (fuel := 0) (by kernel_rfl) (by simp) ?_
            intro i hi
            obtain rfl : i = 11 := by simpa using hi
            clear hi
            refine wpOpPlain rfl rfl ?_
            go_simp
            refine ⟨⟨Fr4_0.out, Fr4_1.out, Fr4_2.out, Fr4_3.out⟩, ?_⟩
            refine wpAnyH_done (by kernel_rfl) ?_ 0
            simp only [Exit.then]
            have OZr := OWr4
            have FZr_0 := Fr4_0
            have FZr_1 := Fr4_1
            have FZr_2 := Fr4_2
            have FZr_3 := Fr4_3
            have HZr := Hr4
            have QZr := Qr4
            generalize w0.heap.size = gr at QZr GBr GWr ⊢
            generalize wr4 = zr at *
            have R := hid (lightsT_succ (inK C B s T) k)
            have GLN := hid (lightsT_len (inK C B s T) k)
            generalize hL : lightsT (inK C B s T) k = L at *
            clear hL
            generalize hln : L.length = ln at *
            have LN := hid hln
            clear hln
            have gl : ln ≤ 100 := by have := GLN.out; have := N5.out; omega
            obtain ⟨zs, hzs⟩ : ∃ zs, zs = zr.setRow (w.heap.size + 1 + 1) (stcells s2) := ⟨_, rfl⟩
            have ZW : Hid (zs.heap[w.heap.size + 1 + 1]? = some (.cells (stcells s2) 39 (0, 0))) := hid (by rw [hzs]; exact blk_row_same _ _ _ (stcells s2) _ _ FZr_2.out)
            have E0 := hid (show zs.heap[w.heap.size]? = _ from hzs ▸ (setRow_other zr (w.heap.size + 1 + 1) (w.heap.size) (stcells s2) (by omega)).trans FZr_0.out)
            have E1 := hid (show zs.heap[w.heap.size + 1]? = _ from hzs ▸ (setRow_other zr (w.heap.size + 1 + 1) (w.heap.size + 1) (stcells s2) (by omega)).trans FZr_1.out)
            have E3 := hid (show zs.heap[w.heap.size + 1 + 1 + 1]? = _ from hzs ▸ (setRow_other zr (w.heap.size + 1 + 1) (w.heap.size + 1 + 1 + 1) (stcells s2) (by omega)).trans FZr_3.out)
            have EB := hid (show Below w.heap.size w zs from hzs ▸ below_setRow HZr.out (g := w.heap.size + 1 + 1) (by omega) (stcells s2))
            have OO := hid (show zs.ownsRow w1.heap.size 22 1 _ ln _ ∧ w1.heap.size ≤ zs.heap.size from hzs ▸ ownl_setRow (T := 22) OZr.out (cs' := stcells s2) FZr_2.out (by decide))
            have ZZS := hid hzs
            clear hzs
            go_wp2_with (first | (refine wpList_load_row rfl 39 _ rfl gr rfl 39 (stcells s2) (0, 0) _ QZr.out Try.underlying39 rfl ZS2.out ?_) | (refine wpList_store_row rfl 39 _ _ rfl (w.heap.size + 1 + 1) (stcells s2) rfl rfl 39 (stcells s1) FZr_2.out ZS2.out rfl (stcells_one _) ?_) | (rw [← ZZS.out]) | (at_builtin; refine wpList_append_own _ rfl _ _ 45 rfl w1.heap.size 22 i0 (.float .f32 0) 1 4 Try.underlying45 HI.out HF0.out HF1.out HF2.out rfl (by decide) _ _ _ rfl (OO.out.1.alloc _) ⟨zs.heap.size, 0, none⟩ 1 1 [.float .f32 x] rfl rfl (one_at _ _ _) (one_cell _) (by unfold maxLen; omega) (by omega) (by have e1 := OO.out.2; simp; omega) ?_; intro v' w3 hown' hgrow _; obtain ⟨g', cap', rfl⟩ := ownsRow_succ hown'; have O3 := hid hown'; have G3 := hid hgrow; have A0 := hid (blk_app (T := 22) OO.out.1 G3.out E0.out (by decide)); have A1 := hid (blk_app (T := 22) OO.out.1 G3.out E1.out (by decide)); have A2 := hid (blk_app (T := 22) OO.out.1 G3.out ZW.out (by decide)); have A3 := hid (blk_app (T := 22) OO.out.1 G3.out E3.out (by decide)); have HA := hid (own_app EB.out EB.out.size H1.out.size OO.out.1 G3.out); have L3 := hid (show w1.heap.size ≤ w3.heap.size from Nat.le_trans OO.out.2 (Nat.le_trans (by simp) G3.out.size)); clear hgrow hown'))
            exact ⟨⟨k + 1, by omega, by go_num, ⟨by rw [R.out, XX.out]; unfold GotF; rw [List.map_append, List.length_append, LN.out]; exact O3.out, L3.out⟩, A0.out, A1.out, by rw [SK2.out]; exact A2.out, A3.out, HA.out⟩, by simp [intOf]; omega⟩
        · clear hi
          refine wpOpPlain rfl rfl ?_
          go_simp
          have HAr1 : Hid ((w0.drew.alloc (.cells zSt 39)).heap[w0.heap.size]? = some (.cells zSt 39 (0, 0))) := hid (heap_alloc_new w0.drew _)
          have Dr1 : Hid (Below w0.heap.size w0 (w0.drew.alloc (.cells zSt 39))) := hid (by have h := (Below.refl w0.drew.heap.size w0.drew).alloc (Nat.le_refl _) (.cells zSt 39); exact ⟨h.os, h.tape, h.output, h.size, h.block⟩)
          have Fr1_0 := hid ((Dr1.out.block _ (block_lt F0.out)).trans F0.out)
          have Fr1_1 := hid ((Dr1.out.block _ (block_lt F1.out)).trans F1.out)
          have Fr1_2 := hid ((Dr1.out.block _ (block_lt F2.out)).trans F2.out)
          have Fr1_3 := hid ((Dr1.out.block _ (block_lt F3.out)).trans F3.out)
          have Hr1 := hid (below_trans HW.out Dr1.out HW.out.size)
          refine ⟨⟨Fr1_0.out, Fr1_1.out, Fr1_2.out, Fr1_3.out⟩, ?_⟩
          refine genWorld (p := wpAnyH _ _ _ _ _ _ _ _) (w0 := w0.drew.alloc (.cells zSt 39)) (fun wr1 hwr1 => ?_)
          rw [← hwr1] at HAr1 Dr1 Hr1 Fr1_0 Fr1_1 Fr1_2 Fr1_3
          have GBr : Hid (w.heap.size + 1 + 1 + 1 < w0.heap.size) := hid (block_lt F3.out)
          have GWr : Hid (w.heap.size ≤ w0.heap.size) := hid HW.out.size
          clear hwr1
          have OWr1 := hid (ownl_below VO.out Dr1.out)
          refine wpAnyH_take (i := 4) (fuel := 6) rfl (by kernel_rfl) (by kernel_rfl) (by kernel_rfl) (fun c a w h => h) (yldPure (v := .pointer (some ⟨b1, o1 + k * 3, none⟩)) rfl (fun _ => by unfold execOp; go_simp)) ⟨Fr1_0.out, Fr1_1.out, Fr1_2.out, Fr1_3.out⟩ ?_
          refine wpAnyH_all (rs := [5]) (fuel := 5) (by kernel_rfl) (by simp) ?_
          intro i hi
          obtain rfl : i = 5 := by simpa using hi
          clear hi
          refine wpOpPlain rfl rfl ?_
          go_simp
          go_at_call 67
          refine (CT.out (wr1) (CtlAt.of_block (w := wr1) Fr1_0.out) (TA.out _ Hr1.out)).mono ?_
          rintro e wr2 ⟨rfl, hr2⟩
          have Dr2 : Hid (Below wr1.heap.size wr1 wr2) := hid ⟨hr2.os, hr2.tape, hr2.output, hr2.size, hr2.block⟩
          clear hr2
          have Fr2_0 := hid ((Dr2.out.block _ (block_lt Fr1_0.out)).trans Fr1_0.out)
          have Fr2_1 := hid ((Dr2.out.block _ (block_lt Fr1_1.out)).trans Fr1_1.out)
          have Fr2_2 := hid ((Dr2.out.block _ (block_lt Fr1_2.out)).trans Fr1_2.out)
          have Fr2_3 := hid ((Dr2.out.block _ (block_lt Fr1_3.out)).trans Fr1_3.out)
          have Hr2 := hid (below_trans Hr1.out Dr2.out Hr1.out.size)
          have Qr2 := hid ((Dr2.out.block _ (block_lt HAr1.out)).trans HAr1.out)
          refine ⟨⟨Fr2_0.out, Fr2_1.out, Fr2_2.out, Fr2_3.out⟩, ?_⟩
          have OWr2 := hid (ownl_below OWr1.out Dr2.out)
          refine wpAnyH_take (i := 6) (fuel := 4) rfl (by kernel_rfl) (by kernel_rfl) (by kernel_rfl) (fun c a w h => h) (yldMove rfl _ rfl) ⟨Fr2_0.out, Fr2_1.out, Fr2_2.out, Fr2_3.out⟩ ?_
          refine wpAnyH_take (i := 7) (fuel := 3) rfl (by kernel_rfl) (by kernel_rfl) (by kernel_rfl) (fun c a w h => h) (yldExtract rfl _ 0 rfl _ rfl _ rfl) ⟨Fr2_0.out, Fr2_1.out, Fr2_2.out, Fr2_3.out⟩ ?_
          refine wpAnyH_take (i := 8) (fuel := 2) rfl (by kernel_rfl) (by kernel_rfl) (by kernel_rfl) (fun c a w h => h) (yldExtract rfl _ 1 rfl _ rfl _ rfl) ⟨Fr2_0.out, Fr2_1.out, Fr2_2.out, Fr2_3.out⟩ ?_
          refine wpAnyH_all (rs := [10]) (fuel := 1) (by kernel_rfl) (by simp) ?_
          intro i hi
          obtain rfl : i = 10 := by simpa using hi
          clear hi
          have OWr3 := hid (ownl_setRow OWr2.out (cs' := (stcells s2)) Qr2.out (by decide))
          refine wpOpPlain rfl rfl ?_
          refine wp_store_row 39 _ _ rfl (w0.heap.size) (stcells s2) rfl rfl 39 zSt Qr2.out ZS2.out FE.out (stcells_one _) ?_
          have Fr3_0 := hid ((setRow_other wr2 (w0.heap.size) (w.heap.size) (stcells s2) (by have := GBr.out; omega)).trans Fr2_0.out)
          have Fr3_1 := hid ((setRow_other wr2 (w0.heap.size) (w.heap.size + 1) (stcells s2) (by have := GBr.out; omega)).trans Fr2_1.out)
          have Fr3_2 := hid ((setRow_other wr2 (w0.heap.size) (w.heap.size + 1 + 1) (stcells s2) (by have := GBr.out; omega)).trans Fr2_2.out)
          have Fr3_3 := hid ((setRow_other wr2 (w0.heap.size) (w.heap.size + 1 + 1 + 1) (stcells s2) (by have := GBr.out; omega)).trans Fr2_3.out)
          have Hr3 := hid (below_setRow Hr2.out (g := w0.heap.size) GWr.out (stcells s2))
          have Qr3 := hid (blk_row_same wr2 (w0.heap.size) zSt (stcells s2) _ _ Qr2.out)
          refine ⟨⟨Fr3_0.out, Fr3_1.out, Fr3_2.out, Fr3_3.out⟩, ?_⟩
          refine genWorld (p := wpAnyH _ _ _ _ _ _ _ _) (w0 := wr2.setRow (w0.heap.size) (stcells s2)) (fun wr3 hwr3 => ?_)
          rw [← hwr3] at Hr3 Qr3 Fr3_0 Fr3_1 Fr3_2 Fr3_3 OWr3
          clear hwr3
          refine wpAnyH_all (rs := [11]) (fuel := 0) (by kernel_rfl) (by simp) ?_
          intro i hi
          obtain rfl : i = 11 := by simpa using hi
          clear hi
          refine wpOpPlain rfl rfl ?_
          go_simp
          refine ⟨⟨Fr3_0.out, Fr3_1.out, Fr3_2.out, Fr3_3.out⟩, ?_⟩
          refine wpAnyH_done (by kernel_rfl) ?_ 0
          simp only [Exit.then]
          have OZr := OWr3
          have FZr_0 := Fr3_0
          have FZr_1 := Fr3_1
          have FZr_2 := Fr3_2
          have FZr_3 := Fr3_3
          have HZr := Hr3
          have QZr := Qr3
          generalize w0.heap.size = gr at QZr GBr GWr ⊢
          generalize wr3 = zr at *
          have R := hid (lightsT_succ (inK C B s T) k)
          have GLN := hid (lightsT_len (inK C B s T) k)
          generalize hL : lightsT (inK C B s T) k = L at *
          clear hL
          generalize hln : L.length = ln at *
          have LN := hid hln
          clear hln
          have gl : ln ≤ 100 := by have := GLN.out; have := N5.out; omega
          obtain ⟨zs, hzs⟩ : ∃ zs, zs = zr.setRow (w.heap.size + 1 + 1) (stcells s2) := ⟨_, rfl⟩
          have ZW : Hid (zs.heap[w.heap.size + 1 + 1]? = some (.cells (stcells s2) 39 (0, 0))) := hid (by rw [hzs]; exact blk_row_same _ _ _ (stcells s2) _ _ FZr_2.out)
          have E0 := hid (show zs.heap[w.heap.size]? = _ from hzs ▸ (setRow_other zr (w.heap.size + 1 + 1) (w.heap.size) (stcells s2) (by omega)).trans FZr_0.out)
          have E1 := hid (show zs.heap[w.heap.size + 1]? = _ from hzs ▸ (setRow_other zr (w.heap.size + 1 + 1) (w.heap.size + 1) (stcells s2) (by omega)).trans FZr_1.out)
          have E3 := hid (show zs.heap[w.heap.size + 1 + 1 + 1]? = _ from hzs ▸ (setRow_other zr (w.heap.size + 1 + 1) (w.heap.size + 1 + 1 + 1) (stcells s2) (by omega)).trans FZr_3.out)
          have EB := hid (show Below w.heap.size w zs from hzs ▸ below_setRow HZr.out (g := w.heap.size + 1 + 1) (by omega) (stcells s2))
          have OO := hid (show zs.ownsRow w1.heap.size 22 1 _ ln _ ∧ w1.heap.size ≤ zs.heap.size from hzs ▸ ownl_setRow (T := 22) OZr.out (cs' := stcells s2) FZr_2.out (by decide))
          have ZZS := hid hzs
          clear hzs
          go_wp2_with (first | (refine wpList_load_row rfl 39 _ rfl gr rfl 39 (stcells s2) (0, 0) _ QZr.out Try.underlying39 rfl ZS2.out ?_) | (refine wpList_store_row rfl 39 _ _ rfl (w.heap.size + 1 + 1) (stcells s2) rfl rfl 39 (stcells s1) FZr_2.out ZS2.out rfl (stcells_one _) ?_) | (rw [← ZZS.out]) | (at_builtin; refine wpList_append_own _ rfl _ _ 45 rfl w1.heap.size 22 i0 (.float .f32 0) 1 4 Try.underlying45 HI.out HF0.out HF1.out HF2.out rfl (by decide) _ _ _ rfl (OO.out.1.alloc _) ⟨zs.heap.size, 0, none⟩ 1 1 [.float .f32 x] rfl rfl (one_at _ _ _) (one_cell _) (by unfold maxLen; omega) (by omega) (by have e1 := OO.out.2; simp; omega) ?_; intro v' w3 hown' hgrow _; obtain ⟨g', cap', rfl⟩ := ownsRow_succ hown'; have O3 := hid hown'; have G3 := hid hgrow; have A0 := hid (blk_app (T := 22) OO.out.1 G3.out E0.out (by decide)); have A1 := hid (blk_app (T := 22) OO.out.1 G3.out E1.out (by decide)); have A2 := hid (blk_app (T := 22) OO.out.1 G3.out ZW.out (by decide)); have A3 := hid (blk_app (T := 22) OO.out.1 G3.out E3.out (by decide)); have HA := hid (own_app EB.out EB.out.size H1.out.size OO.out.1 G3.out); have L3 := hid (show w1.heap.size ≤ w3.heap.size from Nat.le_trans OO.out.2 (Nat.le_trans (by simp) G3.out.size)); clear hgrow hown'))
          exact ⟨⟨k + 1, by omega, by go_num, ⟨by rw [R.out, XX.out]; unfold GotF; rw [List.map_append, List.length_append, LN.out]; exact O3.out, L3.out⟩, A0.out, A1.out, by rw [SK2.out]; exact A2.out, A3.out, HA.out⟩, by simp [intOf]; omega⟩
      · obtain rfl : k = n := by omega
        have ZSK := hid (size_st2 (staK C B s T k))
        go_wp2_with (first | (refine wpList_load_row rfl 39 _ rfl (w.heap.size + 1 + 1) rfl 39 (stcells (staK C B s T k)) (0, 0) _ F2.out Try.underlying39 rfl ZSK.out ?_) | (refine wpList_store_row rfl 39 _ _ rfl (w.heap.size + 1 + 1 + 1) (stcells (staK C B s T k)) rfl rfl 39 zSt F3.out ZSK.out rfl (stcells_one _) ?_))
        refine bodyPost_ret (v := .tuple #[.agg (stcells (staK C B s T k)), _, .int .i64 _]) (res_row2 rfl _ _ (w.heap.size + 1 + 1 + 1) 39 (stcells (staK C B s T k)) (0, 0) _ rfl (blk_row_same _ _ _ _ _ _ F3.out) Try.underlying39 rfl (size_st _) _ _ rfl rfl) rfl ⟨⟨_, by rw [ES.out, hz2.out], by rw [EL.out]; exact own_from (own_setRow (T := 22) VV.out.1 F3.out (by decide)) H1.out.size⟩, below_setRow HW.out (by omega) _⟩
  · have hz2 : Hid (¬ tkC C B s T n = 0) := hid hz
    have ES := hid (show taS C B s T n = ⟨0, 0, 0⟩ by rw [taS, if_neg hz])
    have EL := hid (show taL C B s T n = [] by rw [taL, if_neg hz])
    generalize hcv : tkC C B s T n = cv at *
    have hne : (cv != 0) = true := by rw [bne_iff_ne]; exact hz
    clear hcv hz hok hx wc wb ws
    go_enter Try.func17, Try.ntmps17
    go_wp2_with (first | (refine wpList_store_row rfl 39 _ _ rfl (w.heap.size + 1 + 1 + 1) (stcells ⟨0, 0, 0⟩) rfl rfl 39 zSt HC3.out HZZ.out rfl (stcells_one _) ?_) | (go_at_call 66; refine CK.out.mono ?_; rintro e w1 ⟨rfl, h1⟩; have H1 := hid (below_trans H0.out h1 H0.out.size); have D1 : Hid (Below w1.heap.size w1 (w1.alloc (.cells #[] 22))) := hid ((Below.refl _ _).alloc (Nat.le_refl _) _); have HC3 := hid ((D1.out.block _ (Nat.lt_of_lt_of_le (block_lt HB3.out) h1.size)).trans ((h1.block _ (block_lt HB3.out)).trans HB3.out)); clear h1))
    refine bodyPost_ret (v := .tuple #[.agg (stcells ⟨0, 0, 0⟩), _, .int .i64 _]) (res_row2 rfl _ _ (w.heap.size + 1 + 1 + 1) 39 (stcells ⟨0, 0, 0⟩) (0, 0) _ rfl (blk_row_same _ _ _ _ _ _ HC3.out) Try.underlying39 rfl (size_st _) _ _ rfl rfl) rfl ⟨⟨_, by rw [ES.out], by rw [EL.out]; exact own_setRow (T := 22) (gotf_empty _ _ H1.out.size) HC3.out (by decide)⟩, below_setRow (H1.out.alloc H1.out.size _) (by omega) _⟩
end Go.Proofs.Ytmjmgfojdomhlaa
