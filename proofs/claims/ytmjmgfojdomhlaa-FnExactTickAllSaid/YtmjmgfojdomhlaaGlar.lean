/- GlareTicks, both sides. -/
import Derived.Test.YtmjmgfojdomhlaaRais
import Derived.Test.YtmjmgfojdomhlaaMarks
import Derived.OneCell
import Derived.RangeFuncBox
namespace Go.Proofs.Ytmjmgfojdomhlaa
set_option maxRecDepth 20000
open Go.RowKit

/-! ### What is owned -/
theorem own_below {w w' : World} {lo s n : Nat} {T : TypeId} {v : Value} {l : List Value} (h : w.ownsRow lo T s v n l) (hb : Below w.heap.size w w') : w'.ownsRow lo T s v n l :=
  ⟨h.1, h.2.imp id fun ⟨g, cap, cur, h1, h2, h3, h4⟩ => ⟨g, cap, cur, h1, h2, (hb.block g (block_lt h3)).trans h3, h4⟩⟩
theorem own_from {w : World} {lo lo' s n : Nat} {T : TypeId} {v : Value} {l : List Value} (h : w.ownsRow lo T s v n l) (hl : lo' ≤ lo) : w.ownsRow lo' T s v n l :=
  ⟨h.1, h.2.imp id fun ⟨g, cap, cur, h1, h2, h3, h4⟩ => ⟨g, cap, cur, h1, Nat.le_trans hl h2, h3, h4⟩⟩
theorem own_setRow {w : World} {lo s n : Nat} {T U : TypeId} {v : Value} {l : List Value} (h : w.ownsRow lo T s v n l) {g : Nat} {cs cs' : Array Value} (hg : w.heap[g]? = some (.cells cs U (0, 0))) (hn : T ≠ U) : (w.setRow g cs').ownsRow lo T s v n l :=
  ⟨h.1, h.2.imp id fun ⟨b, cap, cur, h1, h2, h3, h4⟩ => ⟨b, cap, cur, h1, h2, (setRow_other w g b cs' (ty_ne hg h3 hn)).trans h3, h4⟩⟩
theorem ownl_below {w w' : World} {lo s n : Nat} {T : TypeId} {v : Value} {l : List Value} (h : w.ownsRow lo T s v n l ∧ lo ≤ w.heap.size) (hb : Below w.heap.size w w') : w'.ownsRow lo T s v n l ∧ lo ≤ w'.heap.size := ⟨own_below h.1 hb, Nat.le_trans h.2 hb.size⟩
theorem ownl_setRow {w : World} {lo s n : Nat} {T U : TypeId} {v : Value} {l : List Value} (h : w.ownsRow lo T s v n l ∧ lo ≤ w.heap.size) {g : Nat} {cs cs' : Array Value} (hg : w.heap[g]? = some (.cells cs U (0, 0))) (hn : T ≠ U) : (w.setRow g cs').ownsRow lo T s v n l ∧ lo ≤ (w.setRow g cs').heap.size := ⟨own_setRow h.1 hg hn, by simpa [World.setRow] using h.2⟩
theorem own_ne {w : World} {i lo s n : Nat} {cs : Array Value} {T U : TypeId} {v : Value} {l : List Value} (hi : w.heap[i]? = some (.cells cs U (0, 0))) (h : w.ownsRow lo T s v n l) (hn : U ≠ T) : some i ≠ v.ownBlock := by
  intro e
  rcases h.2 with ⟨rfl, _⟩ | ⟨g, cap, cur, rfl, _, hg, _⟩
  · simp [Value.ownBlock] at e
  · simp [Value.ownBlock] at e
    subst e; rw [hi] at hg; injection hg with hg; injection hg with _ hg; exact hn hg
theorem own_app {wa w2 w3 : World} {base : Nat} {o : Obj} {v : Value} {k lo : Nat} {l : List Value} {T : TypeId} (B : Below base wa w2) (hb : base ≤ w2.heap.size) (hl : base ≤ lo) (O : w2.ownsRow lo T 1 v k l) (hg : (w2.alloc o).grownBy w3 v.ownBlock) : Below base wa w3 :=
  (B.alloc hb _).grown hg (by simp; omega) (fun r e => Nat.le_trans hl (O.lt r e).1)
theorem blk_app {w2 w3 : World} {o : Obj} {v : Value} {k lo i : Nat} {l : List Value} {T U : TypeId} {cs : Array Value} (O : w2.ownsRow lo T 1 v k l) (hg : (w2.alloc o).grownBy w3 v.ownBlock) (hi : w2.heap[i]? = some (.cells cs U (0, 0))) (hn : U ≠ T) : w3.heap[i]? = some (.cells cs U (0, 0)) :=
  (hg.block i (by have := block_lt hi; simp; omega) (own_ne hi O hn)).trans ((blk_past _ _ _ (block_lt hi)).trans hi)
theorem Stp.app {base : Nat} {wa w2 w3 : World} {o : Obj} {v : Value} {k lo : Nat} {l : List Value} {T : TypeId} (S : Stp base wa w2) (hb : base ≤ w2.heap.size) (hl : base ≤ lo) (hT : ¬ tys T) (O : w2.ownsRow lo T 1 v k l) (hg : (w2.alloc o).grownBy w3 v.ownBlock) : Stp base wa w3 :=
  ⟨own_app S.below hb hl O hg, fun i cs U hU hi => blk_app O hg (S.typed i cs U hU hi) (fun e => hT (e ▸ hU))⟩
theorem Stp.cell2 {base q : Nat} {wa w : World} {v u : Value} {U : TypeId} (S : Stp base wa w) (hq : base ≤ q) (h : w.heap[q]? = some (.cells #[v] U (0, 0))) (hU : ¬ tys U) : Stp base wa (w.setCell ⟨q, 0, none⟩ u) := S.trans (Stp.cell hq h hU)
theorem info_int64k : (Try.prog.info? 2).map (fun i => (i.zero, i.size, i.bytes)) = some (some (.int .i64 0), 1, 8) := by kernel_rfl
theorem int_cellk (x : Int) : ∀ u ∈ [Value.int .i64 x], u.oneCell' = true := by
  intro u hu; simp at hu; subst hu; rfl
theorem goti_empty (w : World) (lo : Nat) (h : lo ≤ w.heap.size) : GotI (w.alloc (.cells #[] 2)) lo (.slice (some ⟨w.heap.size, 0, none⟩) 0 0) [] := own_from (owns_empty _ _) h
/-! ### GlareTicks -/
def glG (x : Nat → Nat) (d : Nat) (k : Nat) : Bool := fGt (x k) d
def gtC (C : Ctl) (B : Bld) (s : Sta) (T : Nat → Tck) (n d : Nat) : Int := if tkC C B s T n = 0 then (if isPart d then 0 else 2) else tkC C B s T n
def gtL (C : Ctl) (B : Bld) (s : Sta) (T : Nat → Tck) (n d : Nat) : List Int := if gtC C B s T n d = 0 then glareK (glG (inK C B s T) d) n else []
structure InvG (lo p q : Nat) (x : Nat → Nat) (d : Nat) (k : Nat) (w : World) : Prop where
  bound : w.heap[p]? = some (.cells #[.float .f32 d] 22 (0, 0))
  out : ∃ g cap, w.heap[q]? = some (.cells #[.slice (some ⟨g, 0, none⟩) (glareK (glG x d) k).length cap] 52 (0, 0)) ∧ GotI w lo (.slice (some ⟨g, 0, none⟩) (glareK (glG x d) k).length cap) (glareK (glG x d) k)
theorem InvG.below {lo p q : Nat} {x : Nat → Nat} {d : Nat} (k : Nat) (w w' : World) (h : InvG lo p q x d k w) (hb : Below w.heap.size w w') : InvG lo p q x d k w' :=
  ⟨(hb.block _ (block_lt h.bound)).trans h.bound, let ⟨g, cap, h1, h2⟩ := h.out; ⟨g, cap, (hb.block _ (block_lt h1)).trans h1, own_below h2 hb⟩⟩
theorem InvG.set {lo p q : Nat} {x : Nat → Nat} {d : Nat} (k : Nat) (w : World) (g : Nat) (cs cs' : Array Value) (h : InvG lo p q x d k w) (hg : w.heap[g]? = some (.cells cs 39 (0, 0))) : InvG lo p q x d k (w.setRow g cs') :=
  ⟨(setRow_other w g p cs' (ty_ne hg h.bound (show (22 : TypeId) ≠ 39 by decide))).trans h.bound, let ⟨b, cap, h1, h2⟩ := h.out; ⟨b, cap, (setRow_other w g q cs' (ty_ne hg h1 (show (52 : TypeId) ≠ 39 by decide))).trans h1, own_setRow (T := 2) h2 hg (by decide)⟩⟩
set_option maxHeartbeats 1000000 in
theorem c_GlareTicks1 (base lo p q k : Nat) (X : Nat → Nat) (d : Nat) (s1 s2 : Sta) (u : Bool) (hk : k ≤ 100) (hlo : base ≤ lo) (hq : base ≤ q) (w : World) (hW : lo ≤ w.heap.size) (hI : InvG lo p q X d k w) :
    Calls Try.prog 76 #[.int .i64 (k : Int), .agg (stcells s1), .agg (stcells s2), .float .f32 (X k), .bool u, .pointer (some ⟨p, 0, none⟩), .pointer (some ⟨q, 0, none⟩)] w fun e w' => e = .returned (.tuple #[]) ∧ InvG lo p q X d (k + 1) w' ∧ Stp base w w' := by
  obtain ⟨wa, hwa⟩ : ∃ wa, wa = (w.alloc (.cells (stcells s1) 39)).alloc (.cells (stcells s2) 39) := ⟨_, rfl⟩
  have WA := hid hwa
  have H0 : Hid (Below w.heap.size w wa) := hid (by rw [hwa]; exact ((Below.refl _ _).alloc (Nat.le_refl _) _).alloc (by simp) _)
  have I0 := hid (InvG.below k w _ hI H0.out)
  have S0 : Hid (Stp base w wa) := hid (Stp.of_below H0.out (by omega))
  have LW : Hid (lo ≤ wa.heap.size) := hid (Nat.le_trans hW H0.out.size)
  obtain ⟨g, cap, hb1, hg1⟩ := I0.out.out
  have B1 := hid hb1
  have O1 := hid hg1
  have c1 := oneCell I0.out.bound
  have c2 := oneCell hb1
  have GL := hid (glareK_len (glG X d) k)
  clear hI hb1 hg1 hwa
  cases hu : fGt (X k) d
  · have R := hid (glareK_no (g := glG X d) (k := k) hu)
    have hu2 : (FloatKind.f32.format.order (X k) d == some .gt) = false := hu
    clear hu
    go_enter Try.func76, Try.ntmps76
    go_wp2_with (rw [← WA.out])
    go_end0
    exact ⟨rfl, ⟨I0.out.bound, g, cap, by rw [R.out]; exact B1.out, by rw [R.out]; exact O1.out⟩, S0.out⟩
  · have R := hid (glareK_yes (g := glG X d) (k := k) hu)
    have hu2 : (FloatKind.f32.format.order (X k) d == some .gt) = true := hu
    obtain ⟨i0, hi, hz0, hz1, hz3⟩ := info_parts info_int64k
    have HI := hid hi
    have HF0 := hid hz0
    have HF1 := hid hz1
    have HF2 := hid hz3
    clear hu hi hz0 hz1 hz3
    have gl := GL.out
    generalize hL : glareK (glG X d) k = L at *
    clear hL
    generalize hn : L.length = ln at *
    have LN := hid hn
    clear hn
    have OO : Hid (wa.ownsRow lo 2 1 (.slice (some ⟨g, 0, none⟩) ln cap) ln (L.map (Value.int .i64))) := hid (by have := O1.out; unfold GotI at this; rw [LN.out] at this; exact this)
    go_enter Try.func76, Try.ntmps76
    go_wp2_with (first | (rw [← WA.out]) | (at_builtin; refine wpList_append_own _ rfl _ _ 52 rfl lo 2 i0 (.int .i64 0) 1 8 Try.underlying52 HI.out HF0.out HF1.out HF2.out rfl (by decide) _ _ _ rfl (OO.out.alloc _) ⟨wa.heap.size, 0, none⟩ 1 1 [.int .i64 (k : Int)] rfl rfl (one_at _ _ _) (int_cellk _) (by unfold maxLen; omega) (by omega) (by have := LW.out; simp; omega) ?_; intro v' w3 hown' hgrow _; obtain ⟨g', cap', rfl⟩ := ownsRow_succ hown'; have O3 := hid hown'; have G3 := hid hgrow; have BB1 := hid (blk_app (T := 2) OO.out G3.out B1.out (by decide)); have BB2 := hid (blk_app (T := 2) OO.out G3.out I0.out.bound (by decide)); have S3 := hid (Stp.app S0.out (by have := LW.out; omega) hlo (by unfold tys; decide) OO.out G3.out); clear hgrow hown'; have ff := free_of_one BB1.out; have cc := oneCell BB1.out))
    go_end0
    refine ⟨rfl, ⟨?_, g', cap', ?_, ?_⟩, S3.out.cell2 hq BB1.out (by unfold tys; decide)⟩
    · exact (heap_setCell_other _ _ _ _ (fun e => by subst e; have h1 := BB1.out; rw [BB2.out] at h1; simp at h1)).trans BB2.out
    · rw [R.out, List.length_append, LN.out]; exact oneSet BB1.out
    · rw [R.out]; unfold GotI; rw [List.map_append, List.length_append, LN.out]; exact ownsRow_setCell_other O3.out (own_ne BB1.out O3.out (by decide)).symm _
set_option maxHeartbeats 1000000 in
theorem c_run_g (c1 c2 : Value) (Inv : Nat → World → Prop) (base : Nat) (C : Ctl) (hC : OkC C) (B : Bld) (hB : OkB B) (s : Sta) (hs : OkS s) (T : Nat → Tck) (a : Option Addr) (n ca c : Nat) (hT : ∀ k, k < n → OkT (T k)) (hn : n ≤ 100) (w : World)
    (hIb : ∀ (k : Nat) (w w' : World), Inv k w → Below w.heap.size w w' → Inv k w') (hIs : ∀ (k : Nat) (w : World) (g : Nat) (cs cs' : Array Value), Inv k w → w.heap[g]? = some (.cells cs 39 (0, 0)) → Inv k (w.setRow g cs'))
    (hcall : ∀ (k : Nat) w', k < n → Inv k w' → Calls Try.prog 76 #[.int .i64 (k : Int), .agg (stcells (staK C B s T k)), .agg (stcells (staK C B s T (k + 1))), .float .f32 (inK C B s T k), .bool (upK C B s T k), c1, c2] w' fun e w2 => e = .returned (.tuple #[]) ∧ Inv (k + 1) w2 ∧ Stp base w' w2)
    (hA : w.heap[c]? = some (.cells (ccells C) 35 (0, 0))) (hbase : base ≤ w.heap.size) (hx : ∀ w', Below base w w' → Rws w' a n 3 (tcs T)) (hI : Inv 0 w) :
    Calls Try.prog 70 #[.pointer (some ⟨c, 0, none⟩), .agg (bcells B), .agg (stcells s), .slice a n ca, .func (.func 76) #[] #[c1, c2]] w fun e w' => e = .returned (.agg (stcells (staK C B s T n))) ∧ Inv n w' ∧ Stp base w w' := by
  have HB0 : Hid ((((w.alloc (.cells (bcells B) 37)).alloc (.cells (stcells s) 39)).alloc (.cells zSt 39)).heap[w.heap.size]? = some (.cells (bcells B) 37 (0, 0))) := hid ((blk_past _ _ _ (by simp; omega)).trans ((blk_past _ _ _ (by simp)).trans (blk_at _ _ _ rfl)))
  have HS0 : Hid ((((w.alloc (.cells (bcells B) 37)).alloc (.cells (stcells s) 39)).alloc (.cells zSt 39)).heap[w.heap.size + 1]? = some (.cells (stcells s) 39 (0, 0))) := hid ((blk_past _ _ _ (by simp)).trans (blk_at _ _ _ (by simp)))
  have HR0 : Hid ((((w.alloc (.cells (bcells B) 37)).alloc (.cells (stcells s) 39)).alloc (.cells zSt 39)).heap[w.heap.size + 1 + 1]? = some (.cells zSt 39 (0, 0))) := hid (blk_at _ _ _ (by simp))
  have H0 : Hid (Below w.heap.size w (((w.alloc (.cells (bcells B) 37)).alloc (.cells (stcells s) 39)).alloc (.cells zSt 39))) := hid ((((Below.refl _ _).alloc (Nat.le_refl _) _).alloc (by simp) _).alloc (by simp; omega) _)
  have I0 := hid (hIb 0 _ _ hI H0.out)
  have HZB := hid (size_blind B)
  have HIB := hid hIb
  have HIS := hid hIs
  have HCA := hid hcall
  have HAA := hid hA
  have HBA := hid hbase
  have HX := hid hx
  have HHC := hid hC
  have HHB := hid hB
  have HHS := hid hs
  have HHT := hid hT
  clear hIb hIs hcall hA hbase hx hI hC hB hs hT
  go_enter Try.func70, Try.ntmps70
  go_wp2
  go_loopw [18] (fun i wr => ∃ k : Nat, k ≤ n ∧ i = .int .i64 k ∧ wr.heap[w.heap.size]? = some (.cells (bcells B) 37 (0, 0)) ∧ wr.heap[w.heap.size + 1]? = some (.cells (stcells (staK C B s T k)) 39 (0, 0)) ∧ wr.heap[w.heap.size + 1 + 1]? = some (.cells zSt 39 (0, 0)) ∧ Inv k wr ∧ Stp base w wr) (fun i _ => n - (intOf i).toNat)
  case atStart => exact ⟨0, by omega, rfl, HB0.out, HS0.out, HR0.out, I0.out, Stp.of_below H0.out HBA.out⟩
  case round =>
    obtain ⟨k, hk, rfl, hb1, hb2, hb3, hi, hs⟩ := hrel
    have HB1 := hid hb1
    have HS1 := hid hb2
    have HR1 := hid hb3
    have II := hid hi
    have SS := hid hs
    clear hb1 hb2 hb3 hi hs
    by_cases hlt : k < n
    · obtain ⟨b1, o1, rfl, hc1⟩ := (HX.out wr SS.out.below).at_ (by omega)
      have R := hid (hc1 k hlt)
      have S1 : Hid ((Try.prog.info? 110).map (·.size) = some (tcs T k).length) := hid (by rw [tcs_len]; kernel_rfl)
      have S2 := hid (size_tk (T k))
      have ZT : Hid ((wr.alloc (.cells zTk 110)).heap[wr.heap.size]? = some (.cells zTk 110 (0, 0))) := hid (blk_at _ _ _ rfl)
      have ZU := hid (blk_row_same _ _ zTk (tcells (T k)) _ _ ZT.out)
      have D1 : Hid (Below wr.heap.size wr ((wr.alloc (.cells zTk 110)).setRow wr.heap.size (tcells (T k)))) := hid (below_setRow ((Below.refl _ _).alloc (Nat.le_refl _) _) (Nat.le_refl _) _)
      have HB2 := hid ((D1.out.block _ (block_lt HB1.out)).trans HB1.out)
      have HS2 := hid ((D1.out.block _ (block_lt HS1.out)).trans HS1.out)
      have HC1 := hid (SS.out.typed _ _ _ (.inl rfl) HAA.out)
      have HC2 := hid ((D1.out.block _ (block_lt HC1.out)).trans HC1.out)
      have CT := hid (show Calls Try.prog 146 #[.pointer (some ⟨c, 0, none⟩), .agg (bcells B), .agg (stcells (staK C B s T k)), .agg (tcells (T k))] ((wr.alloc (.cells zTk 110)).setRow wr.heap.size (tcells (T k))) fun e w' => e = .returned (.tuple #[.agg (stcells (staK C B s T (k + 1))), .float .f32 (inK C B s T k), .bool (upK C B s T k)]) ∧ Below ((wr.alloc (.cells zTk 110)).setRow wr.heap.size (tcells (T k))).heap.size ((wr.alloc (.cells zTk 110)).setRow wr.heap.size (tcells (T k))) w' from c_tick C HHC.out B HHB.out (staK C B s T k) (staK_ok HHC.out B HHS.out T k) (T k) (HHT.out k hlt) c _ (CtlAt.of_block HC2.out))
      have CE := hid (fun w' h => HCA.out k w' hlt h)
      clear hc1
      generalize hs2 : staK C B s T (k + 1) = s2 at *
      have SK2 := hid hs2
      clear hs2
      generalize hsk : staK C B s T k = s1 at *
      have SK := hid hsk
      clear hsk
      generalize inK C B s T k = x at *
      generalize upK C B s T k = u at *
      have ZS2 := hid (size_st2 s2)
      have ZS1 := hid (size_st2 s1)
      go_wp2_with (first | (refine wpList_load_mid rfl 110 _ rfl b1 (o1 + k * 3) rfl (tcs T k) _ R.out Try.underlying110 rfl S1.out ?_) | (refine wpList_store_row rfl 110 _ _ rfl wr.heap.size (tcells (T k)) rfl rfl 110 zTk ZT.out S2.out rfl (tcells_one _) ?_) | (refine wpList_load_row rfl 37 _ rfl w.heap.size rfl 37 (bcells B) (0, 0) _ HB2.out Try.underlying37 rfl HZB.out ?_) | (refine wpList_load_row rfl 39 _ rfl (w.heap.size + 1) rfl 39 (stcells s1) (0, 0) _ HS2.out Try.underlying39 rfl ZS1.out ?_) | (refine wpList_load_row rfl 110 _ rfl wr.heap.size rfl 110 (tcells (T k)) (0, 0) _ ZU.out Try.underlying110 rfl S2.out ?_))
      refine CT.out.mono ?_
      rintro e w2 ⟨rfl, h2⟩
      have D2 := hid (below_trans D1.out h2 D1.out.size)
      have HB3 := hid ((D2.out.block _ (block_lt HB1.out)).trans HB1.out)
      have HS3 := hid ((D2.out.block _ (block_lt HS1.out)).trans HS1.out)
      have HR3 := hid ((D2.out.block _ (block_lt HR1.out)).trans HR1.out)
      clear h2
      have ZV : Hid ((w2.alloc (.cells zSt 39)).heap[w2.heap.size]? = some (.cells zSt 39 (0, 0))) := hid (blk_at _ _ _ rfl)
      have ZW := hid (blk_row_same _ _ zSt (stcells s2) _ _ ZV.out)
      have E3 : Hid (Below w2.heap.size w2 ((w2.alloc (.cells zSt 39)).setRow w2.heap.size (stcells s2))) := hid (below_setRow ((Below.refl _ _).alloc (Nat.le_refl _) _) (Nat.le_refl _) _)
      have D3 := hid (below_trans D2.out E3.out D2.out.size)
      have HB4 := hid ((E3.out.block _ (block_lt HB3.out)).trans HB3.out)
      have HS4 := hid ((E3.out.block _ (block_lt HS3.out)).trans HS3.out)
      have HR4 := hid ((E3.out.block _ (block_lt HR3.out)).trans HR3.out)
      have I3 := hid (HIB.out k _ _ II.out D3.out)
      have CE2 := hid (CE.out _ I3.out)
      go_wp2_with (first | (refine wpList_store_row rfl 39 _ _ rfl w2.heap.size (stcells s2) rfl rfl 39 zSt ZV.out ZS2.out rfl (stcells_one _) ?_) | (refine wpList_load_row rfl 39 _ rfl (w.heap.size + 1) rfl 39 (stcells s1) (0, 0) _ HS4.out Try.underlying39 rfl ZS1.out ?_) | (refine wpList_load_row rfl 39 _ rfl w2.heap.size rfl 39 (stcells s2) (0, 0) _ ZW.out Try.underlying39 rfl ZS2.out ?_))
      refine CE2.out.mono ?_
      rintro e w4 ⟨rfl, i4, s4⟩
      have HB5 := hid (s4.typed _ _ _ (.inr (.inl rfl)) HB4.out)
      have HS5 := hid (s4.typed _ _ _ (.inr (.inr (.inl rfl))) HS4.out)
      have HR5 := hid (s4.typed _ _ _ (.inr (.inr (.inl rfl))) HR4.out)
      have HN5 := hid (s4.typed _ _ _ (.inr (.inr (.inl rfl))) ZW.out)
      have SF := hid ((SS.out.trans (Stp.of_below D3.out (Nat.le_trans HBA.out SS.out.below.size))).trans s4)
      have I4 := hid i4
      clear i4 s4
      go_wp2_with (first | (refine wpList_load_row rfl 39 _ rfl w2.heap.size rfl 39 (stcells s2) (0, 0) _ HN5.out Try.underlying39 rfl ZS2.out ?_) | (refine wpList_store_row rfl 39 _ _ rfl (w.heap.size + 1) (stcells s2) rfl rfl 39 (stcells s1) HS5.out ZS2.out rfl (stcells_one _) ?_))
      exact ⟨⟨k + 1, by omega, by go_num, (setRow_other _ _ _ _ (by omega)).trans HB5.out, (by rw [SK2.out]; exact blk_row_same _ _ _ _ _ _ HS5.out), (setRow_other _ _ _ _ (by omega)).trans HR5.out, HIS.out (k + 1) _ _ _ _ I4.out HS5.out, SF.out.setRow (by omega) HBA.out _⟩, by simp [intOf]; omega⟩
    · obtain rfl : k = n := by omega
      have ZS1 := hid (size_st2 (staK C B s T k))
      go_wp2_with (first | (refine wpList_load_row rfl 39 _ rfl (w.heap.size + 1) rfl 39 (stcells (staK C B s T k)) (0, 0) _ HS1.out Try.underlying39 rfl ZS1.out ?_) | (refine wpList_store_row rfl 39 _ _ rfl (w.heap.size + 1 + 1) (stcells (staK C B s T k)) rfl rfl 39 zSt HR1.out ZS1.out rfl (stcells_one _) ?_))
      refine bodyPost_ret (v := .agg (stcells (staK C B s T k))) (results_cell_row rfl _ _ (w.heap.size + 1 + 1) 39 _ (0, 0) _ rfl (blk_row_same _ _ _ _ _ _ HR1.out) Try.underlying39 rfl ZS1.out) rfl ⟨rfl, HIS.out k _ _ _ _ II.out HR1.out, SS.out.setRow (by omega) HBA.out _⟩
set_option maxHeartbeats 1000000 in
theorem c_implGlareTicks (C : Ctl) (wc : WfC C) (B : Bld) (wb : WfB B) (s : Sta) (ws : WfS s) (a : Option Addr) (n ca : Nat) (T : Nat → Tck) (d : Nat) (w : World) (hok : TcksOk T n) (hx : Rws w a n 3 (tcs T)) :
    Calls Try.prog 25 #[.agg (ccells C), .agg (bcells B), .agg (stcells s), .slice a n ca, .float .f32 d] w fun e w' => (∃ v, e = .returned (.tuple #[v, .int .i64 (gtC C B s T n d)]) ∧ GotI w' w.heap.size v (gtL C B s T n d)) ∧ Below w.heap.size w w' := by
  have HB0 : Hid (((((w.alloc (.cells (ccells C) 35)).alloc (.cells (bcells B) 37)).alloc (.cells (stcells s) 39)).alloc (.cells #[.float .f32 d] 22)).heap[w.heap.size]? = some (.cells (ccells C) 35 (0, 0))) := hid ((blk_past _ _ _ (by simp <;> omega)).trans ((blk_past _ _ _ (by simp <;> omega)).trans ((blk_past _ _ _ (by simp)).trans (blk_at _ _ _ rfl))))
  have HB1 : Hid (((((w.alloc (.cells (ccells C) 35)).alloc (.cells (bcells B) 37)).alloc (.cells (stcells s) 39)).alloc (.cells #[.float .f32 d] 22)).heap[w.heap.size + 1]? = some (.cells (bcells B) 37 (0, 0))) := hid ((blk_past _ _ _ (by simp <;> omega)).trans ((blk_past _ _ _ (by simp)).trans (blk_at _ _ _ (by simp))))
  have HB2 : Hid (((((w.alloc (.cells (ccells C) 35)).alloc (.cells (bcells B) 37)).alloc (.cells (stcells s) 39)).alloc (.cells #[.float .f32 d] 22)).heap[w.heap.size + 1 + 1]? = some (.cells (stcells s) 39 (0, 0))) := hid ((blk_past _ _ _ (by simp)).trans (blk_at _ _ _ (by simp)))
  have HB3 : Hid (((((w.alloc (.cells (ccells C) 35)).alloc (.cells (bcells B) 37)).alloc (.cells (stcells s) 39)).alloc (.cells #[.float .f32 d] 22)).heap[w.heap.size + 1 + 1 + 1]? = some (.cells #[.float .f32 d] 22 (0, 0))) := hid (blk_at _ _ _ (by simp))
  have H0 : Hid (Below w.heap.size w ((((w.alloc (.cells (ccells C) 35)).alloc (.cells (bcells B) 37)).alloc (.cells (stcells s) 39)).alloc (.cells #[.float .f32 d] 22))) := hid (((((Below.refl _ _).alloc (Nat.le_refl _) _).alloc (by simp) _).alloc (by simp <;> omega) _).alloc (by simp <;> omega) _)
  have HZC := hid (size_ct C)
  have HZB := hid (size_blind B)
  have HZS := hid (size_st2 s)
  have X := hid hx
  have X0 := hid (hx.below H0.out)
  have CK := hid (fun w hx => c_ticksCode C wc B wb s ws a n ca T w hok hx)
  by_cases hz : tkC C B s T n = 0
  · obtain ⟨z1, z2, z3, z4, z5⟩ := tkC_zero hz
    have HHC := hid (OkC.of wc z1)
    have HHB := hid (OkB.of wb z2)
    have HHS := hid (OkS.of z3)
    have HHT := hid (fun k (hk : k < n) => OkT.of (hok k hk) (okTs_at z4 hk))
    have N5 := hid z5
    have hz2 := hid hz
    have CP := hid (fun w => c_IsPart d w)
    cases hp : isPart d
    · have EC := hid (show gtC C B s T n d = 2 by rw [gtC, if_pos hz, hp]; rfl)
      rw [hp] at CP
      clear wc wb ws hok hx hz z1 z2 z3 z4 z5
      go_enter Try.func25, Try.ntmps25
      go_wp2_with (first | (refine wpList_load_row rfl 35 _ rfl (w.heap.size) rfl 35 (ccells C) (0, 0) _ HB0.out Try.underlying35 rfl HZC.out ?_) | (refine wpList_load_row rfl 37 _ rfl (w.heap.size + 1) rfl 37 (bcells B) (0, 0) _ HB1.out Try.underlying37 rfl HZB.out ?_) | (refine wpList_load_row rfl 39 _ rfl (w.heap.size + 1 + 1) rfl 39 (stcells s) (0, 0) _ HB2.out Try.underlying39 rfl HZS.out ?_))
      refine (CK.out _ X0.out).mono ?_
      rintro e w1 ⟨rfl, h1⟩
      rw [hz2.out]
      have H1 := hid (below_trans H0.out h1 H0.out.size)
      have c3 := cell_of_one ((h1.block _ (block_lt HB3.out)).trans HB3.out)
      clear h1
      go_wp2_with (go_at_call 75; refine (CP.out _).mono ?_; rintro e w' ⟨rfl, rfl⟩)
      go_ret2
      exact ⟨⟨_, by rw [EC.out]; rfl, by rw [gtL, EC.out]; exact GotI.nil _ _⟩, H1.out⟩
    · have EC := hid (show gtC C B s T n d = 0 by rw [gtC, if_pos hz, hp]; rfl)
      have EL := hid (show gtL C B s T n d = glareK (glG (inK C B s T) d) n by rw [gtL, if_pos EC.out])
      rw [hp] at CP
      clear wc wb ws hok hx hz z1 z2 z3 z4 z5
      go_enter Try.func25, Try.ntmps25
      go_wp2_with (first | (refine wpList_load_row rfl 35 _ rfl (w.heap.size) rfl 35 (ccells C) (0, 0) _ HB0.out Try.underlying35 rfl HZC.out ?_) | (refine wpList_load_row rfl 37 _ rfl (w.heap.size + 1) rfl 37 (bcells B) (0, 0) _ HB1.out Try.underlying37 rfl HZB.out ?_) | (refine wpList_load_row rfl 39 _ rfl (w.heap.size + 1 + 1) rfl 39 (stcells s) (0, 0) _ HB2.out Try.underlying39 rfl HZS.out ?_))
      refine (CK.out _ X0.out).mono ?_
      rintro e w1 ⟨rfl, h1⟩
      rw [hz2.out]
      have H1 := hid (below_trans H0.out h1 H0.out.size)
      have HC0 := hid ((h1.block _ (block_lt HB0.out)).trans HB0.out)
      have HC1 := hid ((h1.block _ (block_lt HB1.out)).trans HB1.out)
      have HC2 := hid ((h1.block _ (block_lt HB2.out)).trans HB2.out)
      have HC3 := hid ((h1.block _ (block_lt HB3.out)).trans HB3.out)
      have c3 := cell_of_one HC3.out
      clear h1
      obtain ⟨w2, hw2⟩ : ∃ w2, w2 = (w1.alloc (.cells #[] 2)).alloc (.cells #[.slice (some ⟨w1.heap.size, 0, none⟩) 0 0] 52) := ⟨_, rfl⟩
      have D0 : Hid (Below w1.heap.size w1 w2) := hid (by rw [hw2]; exact ((Below.refl _ _).alloc (Nat.le_refl _) _).alloc (by simp) _)
      have HD0 := hid ((D0.out.block _ (block_lt HC0.out)).trans HC0.out)
      have HD1 := hid ((D0.out.block _ (block_lt HC1.out)).trans HC1.out)
      have HD2 := hid ((D0.out.block _ (block_lt HC2.out)).trans HC2.out)
      have HD3 := hid ((D0.out.block _ (block_lt HC3.out)).trans HC3.out)
      have H2 := hid (below_trans H1.out D0.out H1.out.size)
      have WS : Hid (w1.heap.size ≤ w2.heap.size) := hid D0.out.size
      have I0 : Hid (InvG w1.heap.size (w.heap.size + 1 + 1 + 1) (w1.heap.size + 1) (inK C B s T) d 0 w2) := hid ⟨HD3.out, w1.heap.size, 0, by rw [hw2]; exact blk_at _ _ _ (by simp), by
        have h1 : GotI (w1.alloc (.cells #[] 2)) w1.heap.size (.slice (some ⟨w1.heap.size, 0, none⟩) 0 0) [] := goti_empty _ _ (Nat.le_refl _)
        rw [hw2]; exact World.ownsRow.alloc h1 _⟩
      have W2 := hid hw2
      clear hw2
      have CR := hid (c_run_g (.pointer (some ⟨w.heap.size + 1 + 1 + 1, 0, none⟩)) (.pointer (some ⟨w1.heap.size + 1, 0, none⟩)) (fun k w' => InvG w1.heap.size (w.heap.size + 1 + 1 + 1) (w1.heap.size + 1) (inK C B s T) d k w' ∧ w1.heap.size ≤ w'.heap.size) w.heap.size C HHC.out B HHB.out s HHS.out T a n ca w.heap.size HHT.out N5.out w2 (fun k w w' h hb => ⟨InvG.below k w w' h.1 hb, Nat.le_trans h.2 hb.size⟩) (fun k w g cs cs' h hg => ⟨InvG.set k w g cs cs' h.1 hg, by simpa [World.setRow] using h.2⟩) (fun k w' hk hI => (c_GlareTicks1 w.heap.size w1.heap.size (w.heap.size + 1 + 1 + 1) (w1.heap.size + 1) k (inK C B s T) d _ _ _ (by have := N5.out; omega) H1.out.size (by have := H1.out.size; omega) w' hI.2 hI.1).mono fun e w2 h => ⟨h.1, ⟨h.2.1, Nat.le_trans hI.2 h.2.2.below.size⟩, h.2.2⟩) HD0.out H2.out.size (fun w' hb => X.out.below (H2.out.trans hb)) ⟨I0.out, WS.out⟩)
      go_wp2_with (first | (go_at_call 75; refine (CP.out _).mono ?_; rintro e w' ⟨rfl, rfl⟩) | (rw [← W2.out]) | (refine wpList_load_row rfl 37 _ rfl (w.heap.size + 1) rfl 37 (bcells B) (0, 0) _ HD1.out Try.underlying37 rfl HZB.out ?_) | (refine wpList_load_row rfl 39 _ rfl (w.heap.size + 1 + 1) rfl 39 (stcells s) (0, 0) _ HD2.out Try.underlying39 rfl HZS.out ?_))
      refine CR.out.mono ?_
      rintro e w3 ⟨rfl, i3, s3⟩
      obtain ⟨g3, cap3, hb3, hg3⟩ := i3.1.out
      have c4 := oneCell hb3
      have G3 := hid hg3
      clear hb3 hg3
      go_wp2
      go_ret2
      exact ⟨⟨_, by rw [EC.out]; rfl, by rw [EL.out]; exact own_from G3.out H1.out.size⟩, H2.out.trans s3.below⟩
  · have hz2 : Hid (¬ tkC C B s T n = 0) := hid hz
    generalize hcv : tkC C B s T n = cv at *
    have EC := hid (show gtC C B s T n d = cv by rw [gtC, hcv, if_neg hz])
    have hne : (cv != 0) = true := by rw [bne_iff_ne]; exact hz
    clear hcv hz hok hx wc wb ws
    go_enter Try.func25, Try.ntmps25
    go_wp2_with (first | (refine wpList_load_row rfl 35 _ rfl (w.heap.size) rfl 35 (ccells C) (0, 0) _ HB0.out Try.underlying35 rfl HZC.out ?_) | (refine wpList_load_row rfl 37 _ rfl (w.heap.size + 1) rfl 37 (bcells B) (0, 0) _ HB1.out Try.underlying37 rfl HZB.out ?_) | (refine wpList_load_row rfl 39 _ rfl (w.heap.size + 1 + 1) rfl 39 (stcells s) (0, 0) _ HB2.out Try.underlying39 rfl HZS.out ?_))
    refine (CK.out _ X0.out).mono ?_
    rintro e w1 ⟨rfl, h1⟩
    have he : (cv == 0) = false := by simpa using hz2.out
    go_wp2
    go_ret2
    exact ⟨⟨_, by rw [EC.out]; rfl, by rw [gtL, EC.out, if_neg hz2.out]; exact GotI.nil _ _⟩, below_trans H0.out h1 H0.out.size⟩
set_option maxHeartbeats 2000000 in
theorem c_specGlareTicks (C : Ctl) (wc : WfC C) (B : Bld) (wb : WfB B) (s : Sta) (ws : WfS s) (a : Option Addr) (n ca : Nat) (T : Nat → Tck) (d : Nat) (w : World) (hok : TcksOk T n) (hx : Rws w a n 3 (tcs T)) :
    Calls Try.prog 24 #[.agg (ccells C), .agg (bcells B), .agg (stcells s), .slice a n ca, .float .f32 d] w fun e w' => (∃ v, e = .returned (.tuple #[v, .int .i64 (gtC C B s T n d)]) ∧ GotI w' w.heap.size v (gtL C B s T n d)) ∧ Below w.heap.size w w' := by
  have HB0 : Hid ((((w.alloc (.cells (ccells C) 35)).alloc (.cells (bcells B) 37)).alloc (.cells (stcells s) 39)).heap[w.heap.size]? = some (.cells (ccells C) 35 (0, 0))) := hid ((blk_past _ _ _ (by simp; omega)).trans ((blk_past _ _ _ (by simp)).trans (blk_at _ _ _ rfl)))
  have HB1 : Hid ((((w.alloc (.cells (ccells C) 35)).alloc (.cells (bcells B) 37)).alloc (.cells (stcells s) 39)).heap[w.heap.size + 1]? = some (.cells (bcells B) 37 (0, 0))) := hid ((blk_past _ _ _ (by simp)).trans (blk_at _ _ _ (by simp)))
  have HB2 : Hid ((((w.alloc (.cells (ccells C) 35)).alloc (.cells (bcells B) 37)).alloc (.cells (stcells s) 39)).heap[w.heap.size + 1 + 1]? = some (.cells (stcells s) 39 (0, 0))) := hid (blk_at _ _ _ (by simp))
  have H0 : Hid (Below w.heap.size w (((w.alloc (.cells (ccells C) 35)).alloc (.cells (bcells B) 37)).alloc (.cells (stcells s) 39))) := hid ((((Below.refl _ _).alloc (Nat.le_refl _) _).alloc (by simp) _).alloc (by simp; omega) _)
  have HZC := hid (size_ct C)
  have HZB := hid (size_blind B)
  have HZS := hid (size_st2 s)
  have X := hid hx
  have hn := hx.small
  have CK := hid (c_l05Asked C wc B wb s ws w.heap.size (w.heap.size + 1) (w.heap.size + 1 + 1) a n ca T _ (CtlAt.of_block HB0.out) (BldAt.of_block HB1.out) (StaAt.of_block HB2.out) hok (hx.below H0.out))
  by_cases hz : tkC C B s T n = 0
  · obtain ⟨z1, z2, z3, z4, z5⟩ := tkC_zero hz
    have HHC := hid (OkC.of wc z1)
    have HHB := hid (OkB.of wb z2)
    have HHS := hid (OkS.of z3)
    have HHT := hid (fun k (hk : k < n) => OkT.of (hok k hk) (okTs_at z4 hk))
    have N5 := hid z5
    have hz2 := hid hz
    have CP := hid (fun w => c_l01Part d w)
    rw [hz] at CK
    cases hp : isPart d
    · have EC := hid (show gtC C B s T n d = 2 by rw [gtC, if_pos hz, hp]; rfl)
      rw [hp] at CP
      clear wc wb ws hok hx hz z1 z2 z3 z4 z5
      go_enter Try.func24, Try.ntmps24
      go_wp2_with (first | (go_at_call 66; refine CK.out.mono ?_; rintro e w1 ⟨rfl, h1⟩) | (go_at_call 74; refine (CP.out _).mono ?_; rintro e w' ⟨rfl, rfl⟩))
      have H1 := hid (below_trans H0.out h1 H0.out.size)
      go_ret2
      exact ⟨⟨_, by rw [EC.out]; rfl, by rw [gtL, EC.out]; exact goti_empty _ _ H1.out.size⟩, H1.out.alloc H1.out.size _⟩
    · have EC := hid (show gtC C B s T n d = 0 by rw [gtC, if_pos hz, hp]; rfl)
      have EL := hid (show gtL C B s T n d = glareK (glG (inK C B s T) d) n by rw [gtL, if_pos EC.out])
      rw [hp] at CP
      clear wc wb ws hok hx hz z1 z2 z3 z4 z5
      obtain ⟨i0, hi, hz0, hz1, hz3⟩ := info_parts info_int64k
      have HI := hid hi
      have HF0 := hid hz0
      have HF1 := hid hz1
      have HF2 := hid hz3
      clear hi hz0 hz1 hz3
      go_enter Try.func24, Try.ntmps24
      go_wp2_with (first | (go_at_call 66; refine CK.out.mono ?_; rintro e w1 ⟨rfl, h1⟩) | (go_at_call 74; refine (CP.out _).mono ?_; rintro e w' ⟨rfl, rfl⟩))
      have H1 := hid (below_trans H0.out h1 H0.out.size)
      have HQ := hid (H1.out.alloc H1.out.size (.cells #[] 2))
      have D1 : Hid (Below w1.heap.size w1 (w1.alloc (.cells #[] 2))) := hid ((Below.refl _ _).alloc (Nat.le_refl _) _)
      have HC0 := hid ((D1.out.block _ (Nat.lt_of_lt_of_le (block_lt HB0.out) h1.size)).trans ((h1.block _ (block_lt HB0.out)).trans HB0.out))
      have HC1 := hid ((D1.out.block _ (Nat.lt_of_lt_of_le (block_lt HB1.out) h1.size)).trans ((h1.block _ (block_lt HB1.out)).trans HB1.out))
      have HC2 := hid ((D1.out.block _ (Nat.lt_of_lt_of_le (block_lt HB2.out) h1.size)).trans ((h1.block _ (block_lt HB2.out)).trans HB2.out))
      have LB := hid (Nat.lt_of_lt_of_le (block_lt HB2.out) h1.size)
      have OV0 : Hid (GotI (w1.alloc (.cells #[] 2)) w1.heap.size (.slice (some ⟨w1.heap.size, 0, none⟩) 0 0) []) := hid (goti_empty _ _ (Nat.le_refl _))
      clear h1
      go_loopw [13, 14] (fun v i wr => ∃ k : Nat, k ≤ n ∧ i = .int .i64 k ∧ (GotI wr w1.heap.size v (glareK (glG (inK C B s T) d) k) ∧ w1.heap.size ≤ wr.heap.size) ∧ wr.heap[w.heap.size]? = some (.cells (ccells C) 35 (0, 0)) ∧ wr.heap[w.heap.size + 1]? = some (.cells (bcells B) 37 (0, 0)) ∧ wr.heap[w.heap.size + 1 + 1]? = some (.cells (stcells (staK C B s T k)) 39 (0, 0)) ∧ Below w.heap.size w wr) (fun _ i _ => n - (intOf i).toNat)
      case atStart => exact ⟨0, by omega, rfl, ⟨OV0.out, D1.out.size⟩, HC0.out, HC1.out, HC2.out, HQ.out⟩
      case round =>
        obtain ⟨k, hk, rfl, hv, hb0, hb1, hb2, hbel⟩ := hrel
        have VV := hid hv
        have F0 := hid hb0
        have F1 := hid hb1
        have F2 := hid hb2
        have HW := hid hbel
        clear hv hb0 hb1 hb2 hbel
        by_cases hlt : k < n
        · obtain ⟨b1, o1, rfl, hc1⟩ := X.out.at_ (by omega)
          have TA := hid (fun w2 (h : Below w.heap.size w w2) => TckAt.of_range (range_below (hc1 k hlt) h))
          have CT := hid (fun w2 hA hT => show Calls Try.prog 67 #[.pointer (some ⟨w.heap.size, 0, none⟩), .agg (bcells B), .agg (stcells (staK C B s T k)), .pointer (some ⟨b1, o1 + k * 3, none⟩)] w2 fun e w' => e = .returned (.tuple #[.agg (stcells (staK C B s T (k + 1))), .float .f32 (inK C B s T k)]) ∧ Below w2.heap.size w2 w' from c_l05Once C HHC.out B HHB.out (staK C B s T k) (staK_ok HHC.out B HHS.out T k) (T k) (HHT.out k hlt) w.heap.size b1 (o1 + k * 3) w2 hA hT)
          have UP := hid (show decide (0 < (staK C B s T (k + 1)).so) = upK C B s T k from next_up C B (staK C B s T k) (T k))
          have SO := hid (staK_ok HHC.out B HHS.out T (k + 1)).so
          clear hc1
          generalize hs2 : staK C B s T (k + 1) = s2 at *
          have SK2 := hid hs2
          clear hs2
          generalize hs1 : staK C B s T k = s1 at *
          have SK1 := hid hs1
          clear hs1
          generalize hx1 : inK C B s T k = x at *
          have XX := hid hx1
          clear hx1
          generalize hu1 : upK C B s T k = u at *
          have UU := hid hu1
          clear hu1
          have ZS1 := hid (size_st2 s1)
          have ZS2 := hid (size_st2 s2)
          have FE : Hid (zSt.size = (stcells s2).size) := hid rfl
          have hkn : (k : Int) < (n : Int) := by omega
          have hwk : IntKind.i64.wrap (k : Int) = (k : Int) := by rw [IntWalk.i64_in] <;> omega
          have VO := hid (show wr.ownsRow _ _ _ _ _ _ ∧ w1.heap.size ≤ wr.heap.size from VV.out)
          obtain ⟨w0, hw0⟩ : ∃ w0, w0 = wr := ⟨_, rfl⟩
          subst hw0
          go_wp2_with fail
          refine wp_region_held (S := fun wx => wx.heap[w.heap.size]? = some (.cells (ccells C) 35 (0, 0)) ∧ wx.heap[w.heap.size + 1]? = some (.cells (bcells B) 37 (0, 0)) ∧ wx.heap[w.heap.size + 1 + 1]? = some (.cells (stcells s1) 39 (0, 0))) (by kernel_rfl) ?_
          refine wpAnyH_take (i := 0) (fuel := 11) rfl (by kernel_rfl) (by kernel_rfl) (by kernel_rfl) (fun c a w h => h) (yldRow rfl _ _ rfl (w.heap.size + 1) rfl 37 (bcells B) (0, 0) _ (fun wx h => h.2.1) Try.underlying37 rfl HZB.out) ⟨F0.out, F1.out, F2.out⟩ ?_
          refine wpAnyH_take (i := 1) (fuel := 10) rfl (by kernel_rfl) (by kernel_rfl) (by kernel_rfl) (fun c a w h => h) (yldRow rfl _ _ rfl (w.heap.size + 1 + 1) rfl 39 (stcells s1) (0, 0) _ (fun wx h => h.2.2) Try.underlying39 rfl ZS1.out) ⟨F0.out, F1.out, F2.out⟩ ?_
          refine wpAnyH_take (i := 2) (fuel := 9) rfl (by kernel_rfl) (by kernel_rfl) (by kernel_rfl) (fun c a w h => h) (yldMove rfl _ rfl) ⟨F0.out, F1.out, F2.out⟩ ?_
          refine wpAnyH_take (i := 3) (fuel := 8) rfl (by kernel_rfl) (by kernel_rfl) (by kernel_rfl) (fun c a w h => h) (yldMove rfl _ rfl) ⟨F0.out, F1.out, F2.out⟩ ?_
          refine wpAnyH_all (rs := [4, 9]) (fuel := 7) (by kernel_rfl) (by simp) ?_
          intro i hi
          rcases (show i = 4 ∨ i = 9 from by simpa using hi) with rfl | rfl
          · clear hi
            refine wpOpPlain rfl rfl ?_
            go_simp
            refine ⟨⟨F0.out, F1.out, F2.out⟩, ?_⟩
            refine wpAnyH_all (rs := [5, 9]) (fuel := 6) (by kernel_rfl) (by simp) ?_
            intro i hi
            rcases (show i = 5 ∨ i = 9 from by simpa using hi) with rfl | rfl
            · clear hi
              refine wpOpPlain rfl rfl ?_
              go_simp
              go_at_call 67
              refine (CT.out (w0.drew) (CtlAt.of_block (w := w0.drew) F0.out) (TA.out _ HW.out.drew)).mono ?_
              rintro e wr2 ⟨rfl, hr2⟩
              have Dr2 : Hid (Below w0.heap.size w0 wr2) := hid ⟨hr2.os, hr2.tape, hr2.output, hr2.size, hr2.block⟩
              clear hr2
              have Fr2_0 := hid ((Dr2.out.block _ (block_lt F0.out)).trans F0.out)
              have Fr2_1 := hid ((Dr2.out.block _ (block_lt F1.out)).trans F1.out)
              have Fr2_2 := hid ((Dr2.out.block _ (block_lt F2.out)).trans F2.out)
              have Hr2 := hid (below_trans HW.out Dr2.out HW.out.size)
              refine ⟨⟨Fr2_0.out, Fr2_1.out, Fr2_2.out⟩, ?_⟩
              have OWr2 := hid (ownl_below VO.out Dr2.out)
              refine wpAnyH_take (i := 6) (fuel := 5) rfl (by kernel_rfl) (by kernel_rfl) (by kernel_rfl) (fun c a w h => h) (yldMove rfl _ rfl) ⟨Fr2_0.out, Fr2_1.out, Fr2_2.out⟩ ?_
              refine wpAnyH_take (i := 7) (fuel := 4) rfl (by kernel_rfl) (by kernel_rfl) (by kernel_rfl) (fun c a w h => h) (yldExtract rfl _ 0 rfl _ rfl _ rfl) ⟨Fr2_0.out, Fr2_1.out, Fr2_2.out⟩ ?_
              refine wpAnyH_take (i := 8) (fuel := 3) rfl (by kernel_rfl) (by kernel_rfl) (by kernel_rfl) (fun c a w h => h) (yldExtract rfl _ 1 rfl _ rfl _ rfl) ⟨Fr2_0.out, Fr2_1.out, Fr2_2.out⟩ ?_
              refine wpAnyH_all (rs := [9]) (fuel := 2) (by kernel_rfl) (by simp) ?_
              intro i hi
              obtain rfl : i = 9 := by simpa using hi
              clear hi
              refine wpOpPlain rfl rfl ?_
              go_simp
              have HAr3 : Hid ((wr2.alloc (.cells zSt 39)).heap[wr2.heap.size]? = some (.cells zSt 39 (0, 0))) := hid (heap_alloc_new wr2 _)
              have Dr3 : Hid (Below wr2.heap.size wr2 (wr2.alloc (.cells zSt 39))) := hid (by have h := (Below.refl wr2.heap.size wr2).alloc (Nat.le_refl _) (.cells zSt 39); exact ⟨h.os, h.tape, h.output, h.size, h.block⟩)
              have Fr3_0 := hid ((Dr3.out.block _ (block_lt Fr2_0.out)).trans Fr2_0.out)
              have Fr3_1 := hid ((Dr3.out.block _ (block_lt Fr2_1.out)).trans Fr2_1.out)
              have Fr3_2 := hid ((Dr3.out.block _ (block_lt Fr2_2.out)).trans Fr2_2.out)
              have Hr3 := hid (below_trans Hr2.out Dr3.out Hr2.out.size)
              refine ⟨⟨Fr3_0.out, Fr3_1.out, Fr3_2.out⟩, ?_⟩
              refine genWorld (p := wpAnyH _ _ _ _ _ _ _ _) (w0 := wr2.alloc (.cells zSt 39)) (fun wr3 hwr3 => ?_)
              rw [← hwr3] at HAr3 Dr3 Hr3 Fr3_0 Fr3_1 Fr3_2
              have GBr : Hid (w.heap.size + 1 + 1 < wr2.heap.size) := hid (block_lt Fr2_2.out)
              have GWr : Hid (w.heap.size ≤ wr2.heap.size) := hid Hr2.out.size
              clear hwr3
              have OWr3 := hid (ownl_below OWr2.out Dr3.out)
              refine wpAnyH_all (rs := [10]) (fuel := 1) (by kernel_rfl) (by simp) ?_
              intro i hi
              obtain rfl : i = 10 := by simpa using hi
              clear hi
              have OWr4 := hid (ownl_setRow OWr3.out (cs' := (stcells s2)) HAr3.out (by decide))
              refine wpOpPlain rfl rfl ?_
              refine wp_store_row 39 _ _ rfl (wr2.heap.size) (stcells s2) rfl rfl 39 zSt HAr3.out ZS2.out FE.out (stcells_one _) ?_
              have Fr4_0 := hid ((setRow_other wr3 (wr2.heap.size) (w.heap.size) (stcells s2) (by have := GBr.out; omega)).trans Fr3_0.out)
              have Fr4_1 := hid ((setRow_other wr3 (wr2.heap.size) (w.heap.size + 1) (stcells s2) (by have := GBr.out; omega)).trans Fr3_1.out)
              have Fr4_2 := hid ((setRow_other wr3 (wr2.heap.size) (w.heap.size + 1 + 1) (stcells s2) (by have := GBr.out; omega)).trans Fr3_2.out)
              have Hr4 := hid (below_setRow Hr3.out (g := wr2.heap.size) GWr.out (stcells s2))
              have Qr4 := hid (blk_row_same wr3 (wr2.heap.size) zSt (stcells s2) _ _ HAr3.out)
              refine ⟨⟨Fr4_0.out, Fr4_1.out, Fr4_2.out⟩, ?_⟩
              refine genWorld (p := wpAnyH _ _ _ _ _ _ _ _) (w0 := wr3.setRow (wr2.heap.size) (stcells s2)) (fun wr4 hwr4 => ?_)
              rw [← hwr4] at Hr4 Qr4 Fr4_0 Fr4_1 Fr4_2 OWr4
              clear hwr4
              refine wpAnyH_all (rs := [11]) (fuel := 0) (by kernel_rfl) (by simp) ?_
              intro i hi
              obtain rfl : i = 11 := by simpa using hi
              clear hi
              refine wpOpPlain rfl rfl ?_
              go_simp
              refine ⟨⟨Fr4_0.out, Fr4_1.out, Fr4_2.out⟩, ?_⟩
              refine wpAnyH_done (by kernel_rfl) ?_ 0
              simp only [Exit.then]
              have OZr := OWr4
              have FZr_0 := Fr4_0
              have FZr_1 := Fr4_1
              have FZr_2 := Fr4_2
              have HZr := Hr4
              have QZr := Qr4
              generalize wr2.heap.size = gr at QZr GBr GWr ⊢
              generalize wr4 = zr at *
              have GX := hid (show glG (inK C B s T) d k = fGt x d by rw [glG, XX.out])
              have GL := hid (glareK_len (glG (inK C B s T) d) k)
              cases hu : fGt x d
              · have R := hid (glareK_no (g := glG (inK C B s T) d) (k := k) (GX.out.trans hu))
                have hu2 : (FloatKind.f32.format.order x d == some .gt) = false := hu
                clear hu
                go_wp2_with (first | (refine wpList_load_row rfl 39 _ rfl gr rfl 39 (stcells s2) (0, 0) _ QZr.out Try.underlying39 rfl ZS2.out ?_) | (refine wpList_store_row rfl 39 _ _ rfl (w.heap.size + 1 + 1) (stcells s2) rfl rfl 39 (stcells s1) FZr_2.out ZS2.out rfl (stcells_one _) ?_))
                have ZW := hid (blk_row_same _ _ _ (stcells s2) _ _ FZr_2.out)
                have E0 := hid ((setRow_other zr (w.heap.size + 1 + 1) (w.heap.size) (stcells s2) (by omega)).trans FZr_0.out)
                have E1 := hid ((setRow_other zr (w.heap.size + 1 + 1) (w.heap.size + 1) (stcells s2) (by omega)).trans FZr_1.out)
                have E3 := hid (below_setRow HZr.out (g := w.heap.size + 1 + 1) (by omega) (stcells s2))
                have OO := hid (ownl_setRow (T := 2) OZr.out (cs' := stcells s2) FZr_2.out (by decide))
                exact ⟨⟨k + 1, by omega, by go_num, by rw [R.out]; exact OO.out, E0.out, E1.out, by rw [SK2.out]; exact ZW.out, E3.out⟩, by simp [intOf]; omega⟩
              · have R := hid (glareK_yes (g := glG (inK C B s T) d) (k := k) (GX.out.trans hu))
                have hu2 : (FloatKind.f32.format.order x d == some .gt) = true := hu
                clear hu
                have gl := GL.out
                generalize hL : glareK (glG (inK C B s T) d) k = L at *
                clear hL
                generalize hln : L.length = ln at *
                have LN := hid hln
                clear hln
                go_wp2_with (first | (at_builtin; refine wpList_append_own _ rfl _ _ 52 rfl w1.heap.size 2 i0 (.int .i64 0) 1 8 Try.underlying52 HI.out HF0.out HF1.out HF2.out rfl (by decide) _ _ _ rfl (OZr.out.1.alloc _) ⟨zr.heap.size, 0, none⟩ 1 1 [.int .i64 (k : Int)] rfl rfl (one_at _ _ _) (int_cellk _) (by unfold maxLen; omega) (by omega) (by have e1 := OZr.out.2; simp; omega) ?_; intro v' w3 hown' hgrow _; obtain ⟨g', cap', rfl⟩ := ownsRow_succ hown'; have O3 := hid hown'; have G3 := hid hgrow; have QA := hid (blk_app (T := 2) OZr.out.1 G3.out QZr.out (by decide)); have FA_0 := hid (blk_app (T := 2) OZr.out.1 G3.out FZr_0.out (by decide)); have FA_1 := hid (blk_app (T := 2) OZr.out.1 G3.out FZr_1.out (by decide)); have FA_2 := hid (blk_app (T := 2) OZr.out.1 G3.out FZr_2.out (by decide)); have HA := hid (own_app HZr.out HZr.out.size H1.out.size OZr.out.1 G3.out); have L3 := hid (show w1.heap.size ≤ w3.heap.size from Nat.le_trans OZr.out.2 (Nat.le_trans (by simp) G3.out.size)); have O4 : Hid (w3.ownsRow _ _ _ _ _ _ ∧ w1.heap.size ≤ w3.heap.size) := hid ⟨O3.out, L3.out⟩; clear hgrow hown') | (refine wpList_load_row rfl 39 _ rfl gr rfl 39 (stcells s2) (0, 0) _ QA.out Try.underlying39 rfl ZS2.out ?_) | (refine wpList_store_row rfl 39 _ _ rfl (w.heap.size + 1 + 1) (stcells s2) rfl rfl 39 (stcells s1) FA_2.out ZS2.out rfl (stcells_one _) ?_))
                have ZW := hid (blk_row_same _ _ _ (stcells s2) _ _ FA_2.out)
                have E0 := hid ((setRow_other w3 (w.heap.size + 1 + 1) (w.heap.size) (stcells s2) (by omega)).trans FA_0.out)
                have E1 := hid ((setRow_other w3 (w.heap.size + 1 + 1) (w.heap.size + 1) (stcells s2) (by omega)).trans FA_1.out)
                have E3 := hid (below_setRow HA.out (g := w.heap.size + 1 + 1) (by omega) (stcells s2))
                have OO := hid (ownl_setRow (T := 2) O4.out (cs' := stcells s2) FA_2.out (by decide))
                exact ⟨⟨k + 1, by omega, by go_num, by rw [R.out]; unfold GotI; rw [List.map_append, List.length_append, LN.out]; exact OO.out, E0.out, E1.out, by rw [SK2.out]; exact ZW.out, E3.out⟩, by simp [intOf]; omega⟩
            · clear hi
              refine wpOpPlain rfl rfl ?_
              go_simp
              have HAr2 : Hid ((w0.drew.alloc (.cells zSt 39)).heap[w0.heap.size]? = some (.cells zSt 39 (0, 0))) := hid (heap_alloc_new w0.drew _)
              have Dr2 : Hid (Below w0.heap.size w0 (w0.drew.alloc (.cells zSt 39))) := hid (by have h := (Below.refl w0.drew.heap.size w0.drew).alloc (Nat.le_refl _) (.cells zSt 39); exact ⟨h.os, h.tape, h.output, h.size, h.block⟩)
              have Fr2_0 := hid ((Dr2.out.block _ (block_lt F0.out)).trans F0.out)
              have Fr2_1 := hid ((Dr2.out.block _ (block_lt F1.out)).trans F1.out)
              have Fr2_2 := hid ((Dr2.out.block _ (block_lt F2.out)).trans F2.out)
              have Hr2 := hid (below_trans HW.out Dr2.out HW.out.size)
              refine ⟨⟨Fr2_0.out, Fr2_1.out, Fr2_2.out⟩, ?_⟩
              refine genWorld (p := wpAnyH _ _ _ _ _ _ _ _) (w0 := w0.drew.alloc (.cells zSt 39)) (fun wr2 hwr2 => ?_)
              rw [← hwr2] at HAr2 Dr2 Hr2 Fr2_0 Fr2_1 Fr2_2
              have GBr : Hid (w.heap.size + 1 + 1 < w0.heap.size) := hid (block_lt F2.out)
              have GWr : Hid (w.heap.size ≤ w0.heap.size) := hid HW.out.size
              clear hwr2
              have OWr2 := hid (ownl_below VO.out Dr2.out)
              refine wpAnyH_all (rs := [5]) (fuel := 5) (by kernel_rfl) (by simp) ?_
              intro i hi
              obtain rfl : i = 5 := by simpa using hi
              clear hi
              refine wpOpPlain rfl rfl ?_
              go_simp
              go_at_call 67
              refine (CT.out (wr2) (CtlAt.of_block (w := wr2) Fr2_0.out) (TA.out _ Hr2.out)).mono ?_
              rintro e wr3 ⟨rfl, hr3⟩
              have Dr3 : Hid (Below wr2.heap.size wr2 wr3) := hid ⟨hr3.os, hr3.tape, hr3.output, hr3.size, hr3.block⟩
              clear hr3
              have Fr3_0 := hid ((Dr3.out.block _ (block_lt Fr2_0.out)).trans Fr2_0.out)
              have Fr3_1 := hid ((Dr3.out.block _ (block_lt Fr2_1.out)).trans Fr2_1.out)
              have Fr3_2 := hid ((Dr3.out.block _ (block_lt Fr2_2.out)).trans Fr2_2.out)
              have Hr3 := hid (below_trans Hr2.out Dr3.out Hr2.out.size)
              have Qr3 := hid ((Dr3.out.block _ (block_lt HAr2.out)).trans HAr2.out)
              refine ⟨⟨Fr3_0.out, Fr3_1.out, Fr3_2.out⟩, ?_⟩
              have OWr3 := hid (ownl_below OWr2.out Dr3.out)
              refine wpAnyH_take (i := 6) (fuel := 4) rfl (by kernel_rfl) (by kernel_rfl) (by kernel_rfl) (fun c a w h => h) (yldMove rfl _ rfl) ⟨Fr3_0.out, Fr3_1.out, Fr3_2.out⟩ ?_
              refine wpAnyH_take (i := 7) (fuel := 3) rfl (by kernel_rfl) (by kernel_rfl) (by kernel_rfl) (fun c a w h => h) (yldExtract rfl _ 0 rfl _ rfl _ rfl) ⟨Fr3_0.out, Fr3_1.out, Fr3_2.out⟩ ?_
              refine wpAnyH_take (i := 8) (fuel := 2) rfl (by kernel_rfl) (by kernel_rfl) (by kernel_rfl) (fun c a w h => h) (yldExtract rfl _ 1 rfl _ rfl _ rfl) ⟨Fr3_0.out, Fr3_1.out, Fr3_2.out⟩ ?_
              refine wpAnyH_all (rs := [10]) (fuel := 1) (by kernel_rfl) (by simp) ?_
              intro i hi
              obtain rfl : i = 10 := by simpa using hi
              clear hi
              have OWr4 := hid (ownl_setRow OWr3.out (cs' := (stcells s2)) Qr3.out (by decide))
              refine wpOpPlain rfl rfl ?_
              refine wp_store_row 39 _ _ rfl (w0.heap.size) (stcells s2) rfl rfl 39 zSt Qr3.out ZS2.out FE.out (stcells_one _) ?_
              have Fr4_0 := hid ((setRow_other wr3 (w0.heap.size) (w.heap.size) (stcells s2) (by have := GBr.out; omega)).trans Fr3_0.out)
              have Fr4_1 := hid ((setRow_other wr3 (w0.heap.size) (w.heap.size + 1) (stcells s2) (by have := GBr.out; omega)).trans Fr3_1.out)
              have Fr4_2 := hid ((setRow_other wr3 (w0.heap.size) (w.heap.size + 1 + 1) (stcells s2) (by have := GBr.out; omega)).trans Fr3_2.out)
              have Hr4 := hid (below_setRow Hr3.out (g := w0.heap.size) GWr.out (stcells s2))
              have Qr4 := hid (blk_row_same wr3 (w0.heap.size) zSt (stcells s2) _ _ Qr3.out)
              refine ⟨⟨Fr4_0.out, Fr4_1.out, Fr4_2.out⟩, ?_⟩
              refine genWorld (p := wpAnyH _ _ _ _ _ _ _ _) (w0 := wr3.setRow (w0.heap.size) (stcells s2)) (fun wr4 hwr4 => ?_)
              rw [← hwr4] at Hr4 Qr4 Fr4_0 Fr4_1 Fr4_2 OWr4
              clear hwr4
              refine wpAnyH_all (rs := [11]) (fuel := 0) (by kernel_rfl) (by simp) ?_
              intro i hi
              obtain rfl : i = 11 := by simpa using hi
              clear hi
              refine wpOpPlain rfl rfl ?_
              go_simp
              refine ⟨⟨Fr4_0.out, Fr4_1.out, Fr4_2.out⟩, ?_⟩
              refine wpAnyH_done (by kernel_rfl) ?_ 0
              simp only [Exit.then]
              have OZr := OWr4
              have FZr_0 := Fr4_0
              have FZr_1 := Fr4_1
              have FZr_2 := Fr4_2
              have HZr := Hr4
              have QZr := Qr4
              generalize w0.heap.size = gr at QZr GBr GWr ⊢
              generalize wr4 = zr at *
              have GX := hid (show glG (inK C B s T) d k = fGt x d by rw [glG, XX.out])
              have GL := hid (glareK_len (glG (inK C B s T) d) k)
              cases hu : fGt x d
              · have R := hid (glareK_no (g := glG (inK C B s T) d) (k := k) (GX.out.trans hu))
                have hu2 : (FloatKind.f32.format.order x d == some .gt) = false := hu
                clear hu
                go_wp2_with (first | (refine wpList_load_row rfl 39 _ rfl gr rfl 39 (stcells s2) (0, 0) _ QZr.out Try.underlying39 rfl ZS2.out ?_) | (refine wpList_store_row rfl 39 _ _ rfl (w.heap.size + 1 + 1) (stcells s2) rfl rfl 39 (stcells s1) FZr_2.out ZS2.out rfl (stcells_one _) ?_))
                have ZW := hid (blk_row_same _ _ _ (stcells s2) _ _ FZr_2.out)
                have E0 := hid ((setRow_other zr (w.heap.size + 1 + 1) (w.heap.size) (stcells s2) (by omega)).trans FZr_0.out)
                have E1 := hid ((setRow_other zr (w.heap.size + 1 + 1) (w.heap.size + 1) (stcells s2) (by omega)).trans FZr_1.out)
                have E3 := hid (below_setRow HZr.out (g := w.heap.size + 1 + 1) (by omega) (stcells s2))
                have OO := hid (ownl_setRow (T := 2) OZr.out (cs' := stcells s2) FZr_2.out (by decide))
                exact ⟨⟨k + 1, by omega, by go_num, by rw [R.out]; exact OO.out, E0.out, E1.out, by rw [SK2.out]; exact ZW.out, E3.out⟩, by simp [intOf]; omega⟩
              · have R := hid (glareK_yes (g := glG (inK C B s T) d) (k := k) (GX.out.trans hu))
                have hu2 : (FloatKind.f32.format.order x d == some .gt) = true := hu
                clear hu
                have gl := GL.out
                generalize hL : glareK (glG (inK C B s T) d) k = L at *
                clear hL
                generalize hln : L.length = ln at *
                have LN := hid hln
                clear hln
                go_wp2_with (first | (at_builtin; refine wpList_append_own _ rfl _ _ 52 rfl w1.heap.size 2 i0 (.int .i64 0) 1 8 Try.underlying52 HI.out HF0.out HF1.out HF2.out rfl (by decide) _ _ _ rfl (OZr.out.1.alloc _) ⟨zr.heap.size, 0, none⟩ 1 1 [.int .i64 (k : Int)] rfl rfl (one_at _ _ _) (int_cellk _) (by unfold maxLen; omega) (by omega) (by have e1 := OZr.out.2; simp; omega) ?_; intro v' w3 hown' hgrow _; obtain ⟨g', cap', rfl⟩ := ownsRow_succ hown'; have O3 := hid hown'; have G3 := hid hgrow; have QA := hid (blk_app (T := 2) OZr.out.1 G3.out QZr.out (by decide)); have FA_0 := hid (blk_app (T := 2) OZr.out.1 G3.out FZr_0.out (by decide)); have FA_1 := hid (blk_app (T := 2) OZr.out.1 G3.out FZr_1.out (by decide)); have FA_2 := hid (blk_app (T := 2) OZr.out.1 G3.out FZr_2.out (by decide)); have HA := hid (own_app HZr.out HZr.out.size H1.out.size OZr.out.1 G3.out); have L3 := hid (show w1.heap.size ≤ w3.heap.size from Nat.le_trans OZr.out.2 (Nat.le_trans (by simp) G3.out.size)); have O4 : Hid (w3.ownsRow _ _ _ _ _ _ ∧ w1.heap.size ≤ w3.heap.size) := hid ⟨O3.out, L3.out⟩; clear hgrow hown') | (refine wpList_load_row rfl 39 _ rfl gr rfl 39 (stcells s2) (0, 0) _ QA.out Try.underlying39 rfl ZS2.out ?_) | (refine wpList_store_row rfl 39 _ _ rfl (w.heap.size + 1 + 1) (stcells s2) rfl rfl 39 (stcells s1) FA_2.out ZS2.out rfl (stcells_one _) ?_))
                have ZW := hid (blk_row_same _ _ _ (stcells s2) _ _ FA_2.out)
                have E0 := hid ((setRow_other w3 (w.heap.size + 1 + 1) (w.heap.size) (stcells s2) (by omega)).trans FA_0.out)
                have E1 := hid ((setRow_other w3 (w.heap.size + 1 + 1) (w.heap.size + 1) (stcells s2) (by omega)).trans FA_1.out)
                have E3 := hid (below_setRow HA.out (g := w.heap.size + 1 + 1) (by omega) (stcells s2))
                have OO := hid (ownl_setRow (T := 2) O4.out (cs' := stcells s2) FA_2.out (by decide))
                exact ⟨⟨k + 1, by omega, by go_num, by rw [R.out]; unfold GotI; rw [List.map_append, List.length_append, LN.out]; exact OO.out, E0.out, E1.out, by rw [SK2.out]; exact ZW.out, E3.out⟩, by simp [intOf]; omega⟩
          · clear hi
            refine wpOpPlain rfl rfl ?_
            go_simp
            have HAr1 : Hid ((w0.drew.alloc (.cells zSt 39)).heap[w0.heap.size]? = some (.cells zSt 39 (0, 0))) := hid (heap_alloc_new w0.drew _)
            have Dr1 : Hid (Below w0.heap.size w0 (w0.drew.alloc (.cells zSt 39))) := hid (by have h := (Below.refl w0.drew.heap.size w0.drew).alloc (Nat.le_refl _) (.cells zSt 39); exact ⟨h.os, h.tape, h.output, h.size, h.block⟩)
            have Fr1_0 := hid ((Dr1.out.block _ (block_lt F0.out)).trans F0.out)
            have Fr1_1 := hid ((Dr1.out.block _ (block_lt F1.out)).trans F1.out)
            have Fr1_2 := hid ((Dr1.out.block _ (block_lt F2.out)).trans F2.out)
            have Hr1 := hid (below_trans HW.out Dr1.out HW.out.size)
            refine ⟨⟨Fr1_0.out, Fr1_1.out, Fr1_2.out⟩, ?_⟩
            refine genWorld (p := wpAnyH _ _ _ _ _ _ _ _) (w0 := w0.drew.alloc (.cells zSt 39)) (fun wr1 hwr1 => ?_)
            rw [← hwr1] at HAr1 Dr1 Hr1 Fr1_0 Fr1_1 Fr1_2
            have GBr : Hid (w.heap.size + 1 + 1 < w0.heap.size) := hid (block_lt F2.out)
            have GWr : Hid (w.heap.size ≤ w0.heap.size) := hid HW.out.size
            clear hwr1
            have OWr1 := hid (ownl_below VO.out Dr1.out)
            refine wpAnyH_take (i := 4) (fuel := 6) rfl (by kernel_rfl) (by kernel_rfl) (by kernel_rfl) (fun c a w h => h) (yldPure (v := .pointer (some ⟨b1, o1 + k * 3, none⟩)) rfl (fun _ => by unfold execOp; go_simp)) ⟨Fr1_0.out, Fr1_1.out, Fr1_2.out⟩ ?_
            refine wpAnyH_all (rs := [5]) (fuel := 5) (by kernel_rfl) (by simp) ?_
            intro i hi
            obtain rfl : i = 5 := by simpa using hi
            clear hi
            refine wpOpPlain rfl rfl ?_
            go_simp
            go_at_call 67
            refine (CT.out (wr1) (CtlAt.of_block (w := wr1) Fr1_0.out) (TA.out _ Hr1.out)).mono ?_
            rintro e wr2 ⟨rfl, hr2⟩
            have Dr2 : Hid (Below wr1.heap.size wr1 wr2) := hid ⟨hr2.os, hr2.tape, hr2.output, hr2.size, hr2.block⟩
            clear hr2
            have Fr2_0 := hid ((Dr2.out.block _ (block_lt Fr1_0.out)).trans Fr1_0.out)
            have Fr2_1 := hid ((Dr2.out.block _ (block_lt Fr1_1.out)).trans Fr1_1.out)
            have Fr2_2 := hid ((Dr2.out.block _ (block_lt Fr1_2.out)).trans Fr1_2.out)
            have Hr2 := hid (below_trans Hr1.out Dr2.out Hr1.out.size)
            have Qr2 := hid ((Dr2.out.block _ (block_lt HAr1.out)).trans HAr1.out)
            refine ⟨⟨Fr2_0.out, Fr2_1.out, Fr2_2.out⟩, ?_⟩
            have OWr2 := hid (ownl_below OWr1.out Dr2.out)
            refine wpAnyH_take (i := 6) (fuel := 4) rfl (by kernel_rfl) (by kernel_rfl) (by kernel_rfl) (fun c a w h => h) (yldMove rfl _ rfl) ⟨Fr2_0.out, Fr2_1.out, Fr2_2.out⟩ ?_
            refine wpAnyH_take (i := 7) (fuel := 3) rfl (by kernel_rfl) (by kernel_rfl) (by kernel_rfl) (fun c a w h => h) (yldExtract rfl _ 0 rfl _ rfl _ rfl) ⟨Fr2_0.out, Fr2_1.out, Fr2_2.out⟩ ?_
            refine wpAnyH_take (i := 8) (fuel := 2) rfl (by kernel_rfl) (by kernel_rfl) (by kernel_rfl) (fun c a w h => h) (yldExtract rfl _ 1 rfl _ rfl _ rfl) ⟨Fr2_0.out, Fr2_1.out, Fr2_2.out⟩ ?_
            refine wpAnyH_all (rs := [10]) (fuel := 1) (by kernel_rfl) (by simp) ?_
            intro i hi
            obtain rfl : i = 10 := by simpa using hi
            clear hi
            have OWr3 := hid (ownl_setRow OWr2.out (cs' := (stcells s2)) Qr2.out (by decide))
            refine wpOpPlain rfl rfl ?_
            refine wp_store_row 39 _ _ rfl (w0.heap.size) (stcells s2) rfl rfl 39 zSt Qr2.out ZS2.out FE.out (stcells_one _) ?_
            have Fr3_0 := hid ((setRow_other wr2 (w0.heap.size) (w.heap.size) (stcells s2) (by have := GBr.out; omega)).trans Fr2_0.out)
            have Fr3_1 := hid ((setRow_other wr2 (w0.heap.size) (w.heap.size + 1) (stcells s2) (by have := GBr.out; omega)).trans Fr2_1.out)
            have Fr3_2 := hid ((setRow_other wr2 (w0.heap.size) (w.heap.size + 1 + 1) (stcells s2) (by have := GBr.out; omega)).trans Fr2_2.out)
            have Hr3 := hid (below_setRow Hr2.out (g := w0.heap.size) GWr.out (stcells s2))
            have Qr3 := hid (blk_row_same wr2 (w0.heap.size) zSt (stcells s2) _ _ Qr2.out)
            refine ⟨⟨Fr3_0.out, Fr3_1.out, Fr3_2.out⟩, ?_⟩
            refine genWorld (p := wpAnyH _ _ _ _ _ _ _ _) (w0 := wr2.setRow (w0.heap.size) (stcells s2)) (fun wr3 hwr3 => ?_)
            rw [← hwr3] at Hr3 Qr3 Fr3_0 Fr3_1 Fr3_2 OWr3
            clear hwr3
            refine wpAnyH_all (rs := [11]) (fuel := 0) (by kernel_rfl) (by simp) ?_
            intro i hi
            obtain rfl : i = 11 := by simpa using hi
            clear hi
            refine wpOpPlain rfl rfl ?_
            go_simp
            refine ⟨⟨Fr3_0.out, Fr3_1.out, Fr3_2.out⟩, ?_⟩
            refine wpAnyH_done (by kernel_rfl) ?_ 0
            simp only [Exit.then]
            have OZr := OWr3
            have FZr_0 := Fr3_0
            have FZr_1 := Fr3_1
            have FZr_2 := Fr3_2
            have HZr := Hr3
            have QZr := Qr3
            generalize w0.heap.size = gr at QZr GBr GWr ⊢
            generalize wr3 = zr at *
            have GX := hid (show glG (inK C B s T) d k = fGt x d by rw [glG, XX.out])
            have GL := hid (glareK_len (glG (inK C B s T) d) k)
            cases hu : fGt x d
            · have R := hid (glareK_no (g := glG (inK C B s T) d) (k := k) (GX.out.trans hu))
              have hu2 : (FloatKind.f32.format.order x d == some .gt) = false := hu
              clear hu
              go_wp2_with (first | (refine wpList_load_row rfl 39 _ rfl gr rfl 39 (stcells s2) (0, 0) _ QZr.out Try.underlying39 rfl ZS2.out ?_) | (refine wpList_store_row rfl 39 _ _ rfl (w.heap.size + 1 + 1) (stcells s2) rfl rfl 39 (stcells s1) FZr_2.out ZS2.out rfl (stcells_one _) ?_))
              have ZW := hid (blk_row_same _ _ _ (stcells s2) _ _ FZr_2.out)
              have E0 := hid ((setRow_other zr (w.heap.size + 1 + 1) (w.heap.size) (stcells s2) (by omega)).trans FZr_0.out)
              have E1 := hid ((setRow_other zr (w.heap.size + 1 + 1) (w.heap.size + 1) (stcells s2) (by omega)).trans FZr_1.out)
              have E3 := hid (below_setRow HZr.out (g := w.heap.size + 1 + 1) (by omega) (stcells s2))
              have OO := hid (ownl_setRow (T := 2) OZr.out (cs' := stcells s2) FZr_2.out (by decide))
              exact ⟨⟨k + 1, by omega, by go_num, by rw [R.out]; exact OO.out, E0.out, E1.out, by rw [SK2.out]; exact ZW.out, E3.out⟩, by simp [intOf]; omega⟩
            · have R := hid (glareK_yes (g := glG (inK C B s T) d) (k := k) (GX.out.trans hu))
              have hu2 : (FloatKind.f32.format.order x d == some .gt) = true := hu
              clear hu
              have gl := GL.out
              generalize hL : glareK (glG (inK C B s T) d) k = L at *
              clear hL
              generalize hln : L.length = ln at *
              have LN := hid hln
              clear hln
              go_wp2_with (first | (at_builtin; refine wpList_append_own _ rfl _ _ 52 rfl w1.heap.size 2 i0 (.int .i64 0) 1 8 Try.underlying52 HI.out HF0.out HF1.out HF2.out rfl (by decide) _ _ _ rfl (OZr.out.1.alloc _) ⟨zr.heap.size, 0, none⟩ 1 1 [.int .i64 (k : Int)] rfl rfl (one_at _ _ _) (int_cellk _) (by unfold maxLen; omega) (by omega) (by have e1 := OZr.out.2; simp; omega) ?_; intro v' w3 hown' hgrow _; obtain ⟨g', cap', rfl⟩ := ownsRow_succ hown'; have O3 := hid hown'; have G3 := hid hgrow; have QA := hid (blk_app (T := 2) OZr.out.1 G3.out QZr.out (by decide)); have FA_0 := hid (blk_app (T := 2) OZr.out.1 G3.out FZr_0.out (by decide)); have FA_1 := hid (blk_app (T := 2) OZr.out.1 G3.out FZr_1.out (by decide)); have FA_2 := hid (blk_app (T := 2) OZr.out.1 G3.out FZr_2.out (by decide)); have HA := hid (own_app HZr.out HZr.out.size H1.out.size OZr.out.1 G3.out); have L3 := hid (show w1.heap.size ≤ w3.heap.size from Nat.le_trans OZr.out.2 (Nat.le_trans (by simp) G3.out.size)); have O4 : Hid (w3.ownsRow _ _ _ _ _ _ ∧ w1.heap.size ≤ w3.heap.size) := hid ⟨O3.out, L3.out⟩; clear hgrow hown') | (refine wpList_load_row rfl 39 _ rfl gr rfl 39 (stcells s2) (0, 0) _ QA.out Try.underlying39 rfl ZS2.out ?_) | (refine wpList_store_row rfl 39 _ _ rfl (w.heap.size + 1 + 1) (stcells s2) rfl rfl 39 (stcells s1) FA_2.out ZS2.out rfl (stcells_one _) ?_))
              have ZW := hid (blk_row_same _ _ _ (stcells s2) _ _ FA_2.out)
              have E0 := hid ((setRow_other w3 (w.heap.size + 1 + 1) (w.heap.size) (stcells s2) (by omega)).trans FA_0.out)
              have E1 := hid ((setRow_other w3 (w.heap.size + 1 + 1) (w.heap.size + 1) (stcells s2) (by omega)).trans FA_1.out)
              have E3 := hid (below_setRow HA.out (g := w.heap.size + 1 + 1) (by omega) (stcells s2))
              have OO := hid (ownl_setRow (T := 2) O4.out (cs' := stcells s2) FA_2.out (by decide))
              exact ⟨⟨k + 1, by omega, by go_num, by rw [R.out]; unfold GotI; rw [List.map_append, List.length_append, LN.out]; exact OO.out, E0.out, E1.out, by rw [SK2.out]; exact ZW.out, E3.out⟩, by simp [intOf]; omega⟩
        · obtain rfl : k = n := by omega
          go_wp2
          go_ret2
          exact ⟨⟨_, by rw [EC.out]; rfl, by rw [EL.out]; exact own_from VV.out.1 H1.out.size⟩, HW.out⟩
  · have hz2 : Hid (¬ tkC C B s T n = 0) := hid hz
    generalize hcv : tkC C B s T n = cv at *
    have EC := hid (show gtC C B s T n d = cv by rw [gtC, hcv, if_neg hz])
    have hne : (cv != 0) = true := by rw [bne_iff_ne]; exact hz
    have he : (cv == 0) = false := by simpa using hz
    clear hcv hz hok hx wc wb ws
    go_enter Try.func24, Try.ntmps24
    go_wp2_with (go_at_call 66; refine CK.out.mono ?_; rintro e w1 ⟨rfl, h1⟩)
    have H1 := hid (below_trans H0.out h1 H0.out.size)
    go_ret2
    exact ⟨⟨_, by rw [EC.out]; rfl, by rw [gtL, EC.out, if_neg hz2.out]; exact goti_empty _ _ H1.out.size⟩, H1.out.alloc H1.out.size _⟩
end Go.Proofs.Ytmjmgfojdomhlaa
