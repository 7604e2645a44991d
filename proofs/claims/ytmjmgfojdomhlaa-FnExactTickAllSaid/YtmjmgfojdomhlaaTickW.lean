/- Walks of a tick, both sides. -/
import Derived.Test.YtmjmgfojdomhlaaTickV
import Derived.Test.YtmjmgfojdomhlaaTail
import Derived.Test.YtmjmgfojdomhlaaApp
import Derived.OrdersHeld
namespace Go.Proofs.Ytmjmgfojdomhlaa
set_option maxRecDepth 20000
open Go.RowKit

theorem res_row2 {P : Program} {fn : Func} {p q r : Tmp} {ty : TypeId} (h : fn.results = #[.cell p ty, .tmp q, .tmp r]) (tmps : Array Value) (w : World) (g : Nat) (t : TypeId) (cs : Array Value) (fr : Nat × Nat) (d : TypeDesc)
    (hp : tmps.getD p undef = .pointer (some ⟨g, 0, none⟩)) (hg : w.heap[g]? = some (.cells cs t fr))
    (hu : P.underlying ty = some d) (hd : (match d with | .struct _ | .array _ _ => true | _ => false) = true) (hi : (P.info? ty).map (·.size) = some cs.size) (v v2 : Value) (hv : tmps.getD q undef = v) (hv2 : tmps.getD r undef = v2) :
    (results fn tmps).run P w = .ok (.tuple #[.agg cs, v, v2]) w := by
  have hp' : tmps[p]?.getD undef = .pointer (some ⟨g, 0, none⟩) := by simpa using hp
  subst hv hv2
  simp [results, h, hp', asAddr, run_loadVar_row w g t ty cs fr d hg hu hd hi]
theorem res_row1 {P : Program} {fn : Func} {p q : Tmp} {ty : TypeId} (h : fn.results = #[.cell p ty, .tmp q]) (tmps : Array Value) (w : World) (g : Nat) (t : TypeId) (cs : Array Value) (fr : Nat × Nat) (d : TypeDesc)
    (hp : tmps.getD p undef = .pointer (some ⟨g, 0, none⟩)) (hg : w.heap[g]? = some (.cells cs t fr))
    (hu : P.underlying ty = some d) (hd : (match d with | .struct _ | .array _ _ => true | _ => false) = true) (hi : (P.info? ty).map (·.size) = some cs.size) (v : Value) (hv : tmps.getD q undef = v) :
    (results fn tmps).run P w = .ok (.tuple #[.agg cs, v]) w := by
  have hp' : tmps[p]?.getD undef = .pointer (some ⟨g, 0, none⟩) := by simpa using hp
  subst hv
  simp [results, h, hp', asAddr, run_loadVar_row w g t ty cs fr d hg hu hd hi]
section
variable {P : Program} {ops : Array Oper} {Q : Exit → Act → World → Prop} {md : Region.Mode} {S : World → Prop}
theorem wpOpPlain {i : Nat} {o : Oper} {K : Act → World → Prop} {a : Act} {w : World} (hi : ops[i]? = some o) (hg : o.guard = none) (h : o.wp P a w K Q) : wpOp P ops Q i K a w := by
  unfold wpOp
  simp only [hi]
  rw [if_pos (by simp [Region.wanted, hg])]
  exact .inl h
theorem yldRow {o : Oper} {a : Act} (hgd : o.guard = none) (ty : TypeId) (x : Operand) (ho : o.op = .load ty x)
    (g : Nat) (hx : a.eval x = .pointer (some ⟨g, 0, none⟩)) (t : TypeId) (cs : Array Value) (fr : Nat × Nat) (d : TypeDesc) (hg : ∀ w, S w → w.heap[g]? = some (.cells cs t fr))
    (hu : P.underlying ty = some d) (hd : (match d with | .struct _ | .array _ _ => true | _ => false) = true) (hi : (P.info? ty).map (·.size) = some cs.size) : YieldsIf P ops S o (.agg cs) a := by
  refine .inl ⟨by simp [Region.wanted, hgd], fun w hw => ?_⟩
  unfold execOp
  simp only [ho, hx, Instr.loadAt, Instr.sureAddr, Sem.run_bind, Sem.run_pure, Result.andThen_ok, run_loadVar_row w g t ty cs fr d (hg w hw) hu hd hi]
theorem yldCell {o : Oper} {a : Act} (hgd : o.guard = none) (ty : TypeId) (x : Operand) (ho : o.op = .load ty x)
    (ad : Addr) (hx : a.eval x = .pointer (some ad)) (v : Value) (d : TypeDesc) (hg : ∀ w, S w → w.cell? ad = some v)
    (hu : P.underlying ty = some d) (hd : (match d with | .struct _ | .array _ _ => true | _ => false) = false) : YieldsIf P ops S o v a := by
  refine .inl ⟨by simp [Region.wanted, hgd], fun w hw => ?_⟩
  have hagg : (isAgg ty).run P w = .ok false w := by
    unfold isAgg
    rw [Sem.run_bind, run_underlying hu w]
    cases d <;> simp_all
  unfold execOp
  simp [ho, hx, Instr.loadAt, Instr.sureAddr, loadVar, hagg, hg w hw]
theorem yldPure {o : Oper} {a : Act} {v : Value} (hgd : o.guard = none) (h : ∀ w, (execOp a.eval o).run P w = .ok (.value v) w) : YieldsIf P ops S o v a :=
  .inl ⟨by simp [Region.wanted, hgd], fun w _ => h w⟩
theorem yldMove {o : Oper} {a : Act} (hgd : o.guard = none) (x : Operand) (ho : o.op = .move x) : YieldsIf P ops S o (a.eval x) a := by
  refine .inl ⟨by simp [Region.wanted, hgd], fun w hw => ?_⟩
  unfold execOp
  simp only [ho, Sem.run_pure]
theorem yldAssign {o : Oper} {a : Act} (hgd : o.guard = none) (x : Operand) (ho : o.op = .assign x) : YieldsIf P ops S o (a.eval x) a := by
  refine .inl ⟨by simp [Region.wanted, hgd], fun w hw => ?_⟩
  unfold execOp
  simp only [ho, Sem.run_pure]
theorem genWorld {p : World → Prop} {w0 : World} (h : ∀ wn, wn = w0 → p wn) : p w0 := h _ rfl
end
def zSt : Array Value := #[.int .i16 0, .int .i8 0, .int .i8 0]
theorem zSt_is : zSt = stcells ⟨0, 0, 0⟩ := rfl
theorem info_st : (Try.prog.info? 39).map (·.size) = some 3 := by kernel_rfl
theorem size_st (s : Sta) : (Try.prog.info? 39).map (·.size) = some (stcells s).size := info_st
theorem c_minT (a b : Int) (w : World) :
    Calls Try.prog 139 #[.int .i64 a, .int .i64 b] w fun e w' => e = .returned (.int .i64 (min a b)) ∧ w = w' := by
  go_enter Try.func139, Try.ntmps139
  go_wp2
  all_goals (go_ret; refine ⟨ret_int ?_, rfl⟩; omega)
/-- A state's block, when one of its cells is stored into. -/
theorem st_set0 {w : World} {b : Nat} {s : Sta} (h : w.heap[b]? = some (.cells (stcells s) 39 (0, 0))) (v : Int) : (w.setCell ⟨b, 0, none⟩ (.int .i16 v)).heap[b]? = some (.cells (stcells ⟨v, s.wa, s.so⟩) 39 (0, 0)) := heap_setCell_same w b 0 _ _ _ h
theorem st_set1 {w : World} {b : Nat} {s : Sta} (h : w.heap[b]? = some (.cells (stcells s) 39 (0, 0))) (v : Int) : (w.setCell ⟨b, 1, none⟩ (.int .i8 v)).heap[b]? = some (.cells (stcells ⟨s.ti, v, s.so⟩) 39 (0, 0)) := heap_setCell_same w b 1 _ _ _ h
theorem st_set2 {w : World} {b : Nat} {s : Sta} (h : w.heap[b]? = some (.cells (stcells s) 39 (0, 0))) (v : Int) : (w.setCell ⟨b, 2, none⟩ (.int .i8 v)).heap[b]? = some (.cells (stcells ⟨s.ti, s.wa, v⟩) 39 (0, 0)) := heap_setCell_same w b 2 _ _ _ h
theorem ctl_set {w : World} {c b o : Nat} {C : Ctl} (h : CtlAt w c C) (hn : c ≠ b) (v : Value) : CtlAt (w.setCell ⟨b, o, none⟩ v) c C := by
  have k : ∀ j, (w.setCell ⟨b, o, none⟩ v).cell? ⟨c, j, none⟩ = w.cell? ⟨c, j, none⟩ := fun j => World.cell?_setCell_other w ⟨b, o, none⟩ ⟨c, j, none⟩ v (by intro e; injection e with e; exact hn e.symm)
  exact ⟨(k _).trans h.lo, (k _).trans h.hi, (k _).trans h.wi, (k _).trans h.st, (k _).trans h.de, (k _).trans h.ca⟩
theorem tck_set {w : World} {c q b o : Nat} {t : Tck} (h : TckAt w c q t) (hn : c ≠ b) (v : Value) : TckAt (w.setCell ⟨b, o, none⟩ v) c q t := by
  have k : ∀ j, (w.setCell ⟨b, o, none⟩ v).cell? ⟨c, j, none⟩ = w.cell? ⟨c, j, none⟩ := fun j => World.cell?_setCell_other w ⟨b, o, none⟩ ⟨c, j, none⟩ v (by intro e; injection e with e; exact hn e.symm)
  exact ⟨(k _).trans h.li, (k _).trans h.gu, (k _).trans h.he⟩
theorem blk_set {w : World} {b g o : Nat} {o' : Obj} (h : w.heap[g]? = some o') (hn : g ≠ b) (v : Value) : (w.setCell ⟨b, o, none⟩ v).heap[g]? = some o' := (heap_setCell_other w ⟨b, o, none⟩ g v hn).trans h
theorem tck_row {w : World} {c q g : Nat} {t : Tck} (h : TckAt w c q t) (hn : c ≠ g) (cs : Array Value) : TckAt (w.setRow g cs) c q t := by
  have k : ∀ j, (w.setRow g cs).cell? ⟨c, j, none⟩ = w.cell? ⟨c, j, none⟩ := fun j => by
    unfold World.cell?
    have := setRow_other w g c cs hn
    simp only [this]
  exact ⟨(k _).trans h.li, (k _).trans h.gu, (k _).trans h.he⟩
theorem CtlAt.lt {w : World} {b : Nat} {c : Ctl} (h : CtlAt w b c) : b < w.heap.size := block_lt_of_cell h.lo
theorem TckAt.lt {w : World} {b o : Nat} {t : Tck} (h : TckAt w b o t) : b < w.heap.size := block_lt_of_cell h.li
set_option maxHeartbeats 400000 in
theorem c_tick_g (C : Ctl) (hC : OkC C) (B : Bld) (hB : OkB B) (s : Sta) (hs : OkS s) (t : Tck) (ht : OkT t) (c : Nat) (w : World) (hA : CtlAt w c C) (hg : fGt t.gu C.wi = true) :
    Calls Try.prog 146 #[.pointer (some ⟨c, 0, none⟩), .agg (bcells B), .agg (stcells s), .agg (tcells t)] w fun e w' => e = .returned (.tuple #[.agg (stcells (nextW C B s t)), .float .f32 (inW C B s t), .bool (upW C s t)]) ∧ Below w.heap.size w w' := by
  have b0 := hC.ca
  have ES : stormW C s t = C.ca := by unfold stormW; rw [if_pos hg]
  have EN := hid (show nextW C B s t = ⟨s.ti, s.wa, C.ca⟩ by unfold nextW; rw [ES, if_pos (by omega)])
  have EX := hid (show inW C B s t = t.li by unfold inW; rw [ES, if_pos (by omega)])
  have EU := hid (show upW C s t = true by unfold upW; rw [ES]; exact decide_eq_true (by omega))
  clear ES b0
  have g0 := (show (FloatKind.f32.format.order t.gu C.wi == some .gt) = true from hg)
  have HZB := hid (size_blind B)
  have CL := hid hA.lt
  obtain ⟨w0, hw0⟩ : ∃ w0, w0 = ((((w.alloc (.cells (bcells B) 37)).alloc (.cells (stcells s) 39)).alloc (.cells (tcells t) 110)).alloc (.cells #[.int .i16 0, .int .i8 0, .int .i8 0] 39)) := ⟨_, rfl⟩
  have BL0 : Hid (Below w.heap.size w w0) := hid (by rw [hw0]; exact ((((Below.refl _ _).alloc (Nat.le_refl _) _).alloc (by simp) _).alloc (by simp; omega) _).alloc (by simp; omega) _)
  have HB0 : Hid (w0.heap[w.heap.size]? = some (.cells (bcells B) 37 (0, 0))) := hid (by rw [hw0]; exact (blk_past _ _ _ (by simp <;> omega)).trans ((blk_past _ _ _ (by simp <;> omega)).trans ((blk_past _ _ _ (by simp <;> omega)).trans (blk_at _ _ _ rfl))))
  have HS0 : Hid (w0.heap[w.heap.size + 1]? = some (.cells (stcells s) 39 (0, 0))) := hid (by rw [hw0]; exact (blk_past _ _ _ (by simp <;> omega)).trans ((blk_past _ _ _ (by simp <;> omega)).trans (blk_at _ _ _ (by simp))))
  have TA0 : Hid (TckAt w0 (w.heap.size + 1 + 1) 0 t) := hid (TckAt.of_block (T := 110) (by rw [hw0]; exact (blk_past _ _ _ (by simp <;> omega)).trans (blk_at _ _ _ (by simp))))
  have HR0 : Hid (w0.heap[w.heap.size + 1 + 1 + 1]? = some (.cells zSt 39 (0, 0))) := hid (by rw [hw0]; exact blk_at _ _ _ (by simp))
  have CA0 := hid (hA.below BL0.out)
  have W0 := hid hw0
  have HC := hid hC
  have HBB := hid hB
  have HSS := hid hs
  have HTT := hid ht
  have b1 := hC.st
  have b2 := hC.de
  have b3 := hC.ca
  have b4 := hs.ti
  have b5 := hs.wa
  have b6 := hs.so
  have b7 := ht.he
  clear hC hB hs ht hA hw0
  go_enter Try.func146, Try.ntmps146
  go_wp2_with fail
  rw [← W0.out]
  refine wp_region_below (by kernel_rfl) (by kernel_rfl) ?_
  repeat (first | (refine wpQuiet_load_cell rfl 22 _ rfl ⟨(w.heap.size + 1 + 1), 1, none⟩ rfl (.float .f32 t.gu) _ (fun wx hwx => (TA0.out.below hwx.out).gu) Try.underlying22 rfl ?_) | (refine wpQuiet_load_cell rfl 22 _ rfl ⟨c, 2, none⟩ rfl (.float .f32 C.wi) _ (fun wx hwx => (CA0.out.below hwx.out).wi) Try.underlying22 rfl ?_) | (refine wpQuiet_step (fun K hK => ?_); go_simp; first | (refine hK _ ?_; clear hK K) | (refine ⟨_, fun _ _ => rfl, hK _ ?_⟩; clear hK K)))
  refine wpQuiet_nil ?_
  intro w1 h1
  replace h1 := h1.out
  have HB1 := hid ((h1.block _ (block_lt HB0.out)).trans HB0.out)
  have HS1 := hid ((h1.block _ (block_lt HS0.out)).trans HS0.out)
  have HR1 := hid ((h1.block _ (block_lt HR0.out)).trans HR0.out)
  have CA1 := hid (CA0.out.below h1)
  have TA1 := hid (TA0.out.below h1)
  have BL1 := hid (below_trans BL0.out h1 BL0.out.size)
  clear h1
  have c0 := CA1.out.lo
  have c1 := CA1.out.hi
  have c2 := CA1.out.wi
  have c3 := CA1.out.st
  have c4 := CA1.out.de
  have c5 := CA1.out.ca
  have t0 := TA1.out.li
  have t1 := TA1.out.gu
  have t2 := TA1.out.he
  simp only [Nat.zero_add] at t1 t2
  have s0 := cell_of_row _ (w.heap.size + 1) 0 _ _ _ HS1.out
  have f0 := frozen_of_row w1 (w.heap.size + 1) 0 _ _ HS1.out
  have s1 := cell_of_row _ (w.heap.size + 1) 1 _ _ _ HS1.out
  have f1 := frozen_of_row w1 (w.heap.size + 1) 1 _ _ HS1.out
  have s2 := cell_of_row _ (w.heap.size + 1) 2 _ _ _ HS1.out
  have f2 := frozen_of_row w1 (w.heap.size + 1) 2 _ _ HS1.out
  simp only [stcells] at s0 s1 s2
  replace s0 : w1.cell? ⟨w.heap.size + 1, 0, none⟩ = some (.int .i16 s.ti) := s0
  replace s1 : w1.cell? ⟨w.heap.size + 1, 1, none⟩ = some (.int .i8 s.wa) := s1
  replace s2 : w1.cell? ⟨w.heap.size + 1, 2, none⟩ = some (.int .i8 s.so) := s2
  obtain ⟨w2, hw2⟩ : ∃ w2, w2 = w1.setCell ⟨w.heap.size + 1, 2, none⟩ (.int .i8 C.ca) := ⟨_, rfl⟩
  have HB2 := hid (show w2.heap[w.heap.size]? = _ from hw2 ▸ blk_set HB1.out (by omega) _)
  have HS2 := hid (hw2 ▸ st_set2 HS1.out (C.ca))
  have HR2 := hid (show w2.heap[w.heap.size + 1 + 1 + 1]? = _ from hw2 ▸ blk_set HR1.out (by omega) _)
  have CA2 := hid (show CtlAt w2 c C from hw2 ▸ ctl_set CA1.out (by have := CL.out; omega) _)
  have TA2 := hid (show TckAt w2 (w.heap.size + 1 + 1) 0 t from hw2 ▸ tck_set TA1.out (by omega) _)
  have BL2 := hid (show Below w.heap.size w w2 from hw2 ▸ BL1.out.setCell (by simp) _)
  have W2 := hid hw2
  clear hw2
  have d1 : 0 < C.ca := by omega
  go_wp2_with fail
  rw [← W2.out]
  clear c0 c1 c2 c3 c4 c5 t0 t1 t2 s0 s1 s2 f0 f1 f2
  have c0 := CA2.out.lo
  have c1 := CA2.out.hi
  have c2 := CA2.out.wi
  have c3 := CA2.out.st
  have c4 := CA2.out.de
  have c5 := CA2.out.ca
  have t0 := TA2.out.li
  have t1 := TA2.out.gu
  have t2 := TA2.out.he
  simp only [Nat.zero_add] at t1 t2
  have s0 := cell_of_row _ (w.heap.size + 1) 0 _ _ _ HS2.out
  have f0 := frozen_of_row w2 (w.heap.size + 1) 0 _ _ HS2.out
  have s1 := cell_of_row _ (w.heap.size + 1) 1 _ _ _ HS2.out
  have f1 := frozen_of_row w2 (w.heap.size + 1) 1 _ _ HS2.out
  have s2 := cell_of_row _ (w.heap.size + 1) 2 _ _ _ HS2.out
  have f2 := frozen_of_row w2 (w.heap.size + 1) 2 _ _ HS2.out
  simp only [stcells] at s0 s1 s2
  replace s0 : w2.cell? ⟨w.heap.size + 1, 0, none⟩ = some (.int .i16 s.ti) := s0
  replace s1 : w2.cell? ⟨w.heap.size + 1, 1, none⟩ = some (.int .i8 s.wa) := s1
  replace s2 : w2.cell? ⟨w.heap.size + 1, 2, none⟩ = some (.int .i8 C.ca) := s2
  have r0 := (show w2.cell? ⟨w.heap.size + 1 + 1 + 1, 0, none⟩ = some (.int .i16 0) from cell_of_row _ (w.heap.size + 1 + 1 + 1) 0 _ _ _ HR2.out)
  have x0 := frozen_of_row w2 (w.heap.size + 1 + 1 + 1) 0 _ _ HR2.out
  have r1 := (show w2.cell? ⟨w.heap.size + 1 + 1 + 1, 1, none⟩ = some (.int .i8 0) from cell_of_row _ (w.heap.size + 1 + 1 + 1) 1 _ _ _ HR2.out)
  have x1 := frozen_of_row w2 (w.heap.size + 1 + 1 + 1) 1 _ _ HR2.out
  have r2 := (show w2.cell? ⟨w.heap.size + 1 + 1 + 1, 2, none⟩ = some (.int .i8 0) from cell_of_row _ (w.heap.size + 1 + 1 + 1) 2 _ _ _ HR2.out)
  have x2 := frozen_of_row w2 (w.heap.size + 1 + 1 + 1) 2 _ _ HR2.out
  go_region
  go_wp2_with fail
  refine bodyPost_ret (v := .tuple #[.agg #[.int .i16 (s.ti), .int .i8 (s.wa), .int .i8 (C.ca)], .float .f32 t.li, .bool true]) (by simp [results, Try.results146, go_sem, *]) rfl ⟨?_, (((BL2.out.setCell (by simp <;> omega) _).setCell (by simp <;> omega) _).setCell (by simp <;> omega) _).drew⟩
  rw [EN.out, EX.out, EU.out]; rfl
set_option maxHeartbeats 400000 in
theorem c_tick_d (C : Ctl) (hC : OkC C) (B : Bld) (hB : OkB B) (s : Sta) (hs : OkS s) (t : Tck) (ht : OkT t) (c : Nat) (w : World) (hA : CtlAt w c C) (hg : fGt t.gu C.wi = false) (h1 : 1 < s.so) :
    Calls Try.prog 146 #[.pointer (some ⟨c, 0, none⟩), .agg (bcells B), .agg (stcells s), .agg (tcells t)] w fun e w' => e = .returned (.tuple #[.agg (stcells (nextW C B s t)), .float .f32 (inW C B s t), .bool (upW C s t)]) ∧ Below w.heap.size w w' := by
  have b0 := h1
  have ES : stormW C s t = (s.so - 1) := by unfold stormW; rw [if_neg (by simp [hg]), if_pos (by omega)]
  have EN := hid (show nextW C B s t = ⟨s.ti, s.wa, (s.so - 1)⟩ by unfold nextW; rw [ES, if_pos (by omega)])
  have EX := hid (show inW C B s t = t.li by unfold inW; rw [ES, if_pos (by omega)])
  have EU := hid (show upW C s t = true by unfold upW; rw [ES]; exact decide_eq_true (by omega))
  clear ES b0
  have g0 := (show (FloatKind.f32.format.order t.gu C.wi == some .gt) = false from hg)
  have HZB := hid (size_blind B)
  have CL := hid hA.lt
  obtain ⟨w0, hw0⟩ : ∃ w0, w0 = ((((w.alloc (.cells (bcells B) 37)).alloc (.cells (stcells s) 39)).alloc (.cells (tcells t) 110)).alloc (.cells #[.int .i16 0, .int .i8 0, .int .i8 0] 39)) := ⟨_, rfl⟩
  have BL0 : Hid (Below w.heap.size w w0) := hid (by rw [hw0]; exact ((((Below.refl _ _).alloc (Nat.le_refl _) _).alloc (by simp) _).alloc (by simp; omega) _).alloc (by simp; omega) _)
  have HB0 : Hid (w0.heap[w.heap.size]? = some (.cells (bcells B) 37 (0, 0))) := hid (by rw [hw0]; exact (blk_past _ _ _ (by simp <;> omega)).trans ((blk_past _ _ _ (by simp <;> omega)).trans ((blk_past _ _ _ (by simp <;> omega)).trans (blk_at _ _ _ rfl))))
  have HS0 : Hid (w0.heap[w.heap.size + 1]? = some (.cells (stcells s) 39 (0, 0))) := hid (by rw [hw0]; exact (blk_past _ _ _ (by simp <;> omega)).trans ((blk_past _ _ _ (by simp <;> omega)).trans (blk_at _ _ _ (by simp))))
  have TA0 : Hid (TckAt w0 (w.heap.size + 1 + 1) 0 t) := hid (TckAt.of_block (T := 110) (by rw [hw0]; exact (blk_past _ _ _ (by simp <;> omega)).trans (blk_at _ _ _ (by simp))))
  have HR0 : Hid (w0.heap[w.heap.size + 1 + 1 + 1]? = some (.cells zSt 39 (0, 0))) := hid (by rw [hw0]; exact blk_at _ _ _ (by simp))
  have CA0 := hid (hA.below BL0.out)
  have W0 := hid hw0
  have HC := hid hC
  have HBB := hid hB
  have HSS := hid hs
  have HTT := hid ht
  have b1 := hC.st
  have b2 := hC.de
  have b3 := hC.ca
  have b4 := hs.ti
  have b5 := hs.wa
  have b6 := hs.so
  have b7 := ht.he
  clear hC hB hs ht hA hw0
  go_enter Try.func146, Try.ntmps146
  go_wp2_with fail
  rw [← W0.out]
  refine wp_region_below (by kernel_rfl) (by kernel_rfl) ?_
  repeat (first | (refine wpQuiet_load_cell rfl 22 _ rfl ⟨(w.heap.size + 1 + 1), 1, none⟩ rfl (.float .f32 t.gu) _ (fun wx hwx => (TA0.out.below hwx.out).gu) Try.underlying22 rfl ?_) | (refine wpQuiet_load_cell rfl 22 _ rfl ⟨c, 2, none⟩ rfl (.float .f32 C.wi) _ (fun wx hwx => (CA0.out.below hwx.out).wi) Try.underlying22 rfl ?_) | (refine wpQuiet_step (fun K hK => ?_); go_simp; first | (refine hK _ ?_; clear hK K) | (refine ⟨_, fun _ _ => rfl, hK _ ?_⟩; clear hK K)))
  refine wpQuiet_nil ?_
  intro w1 h1
  replace h1 := h1.out
  have HB1 := hid ((h1.block _ (block_lt HB0.out)).trans HB0.out)
  have HS1 := hid ((h1.block _ (block_lt HS0.out)).trans HS0.out)
  have HR1 := hid ((h1.block _ (block_lt HR0.out)).trans HR0.out)
  have CA1 := hid (CA0.out.below h1)
  have TA1 := hid (TA0.out.below h1)
  have BL1 := hid (below_trans BL0.out h1 BL0.out.size)
  clear h1
  have c0 := CA1.out.lo
  have c1 := CA1.out.hi
  have c2 := CA1.out.wi
  have c3 := CA1.out.st
  have c4 := CA1.out.de
  have c5 := CA1.out.ca
  have t0 := TA1.out.li
  have t1 := TA1.out.gu
  have t2 := TA1.out.he
  simp only [Nat.zero_add] at t1 t2
  have s0 := cell_of_row _ (w.heap.size + 1) 0 _ _ _ HS1.out
  have f0 := frozen_of_row w1 (w.heap.size + 1) 0 _ _ HS1.out
  have s1 := cell_of_row _ (w.heap.size + 1) 1 _ _ _ HS1.out
  have f1 := frozen_of_row w1 (w.heap.size + 1) 1 _ _ HS1.out
  have s2 := cell_of_row _ (w.heap.size + 1) 2 _ _ _ HS1.out
  have f2 := frozen_of_row w1 (w.heap.size + 1) 2 _ _ HS1.out
  simp only [stcells] at s0 s1 s2
  replace s0 : w1.cell? ⟨w.heap.size + 1, 0, none⟩ = some (.int .i16 s.ti) := s0
  replace s1 : w1.cell? ⟨w.heap.size + 1, 1, none⟩ = some (.int .i8 s.wa) := s1
  replace s2 : w1.cell? ⟨w.heap.size + 1, 2, none⟩ = some (.int .i8 s.so) := s2
  obtain ⟨w2, hw2⟩ : ∃ w2, w2 = w1.setCell ⟨w.heap.size + 1, 2, none⟩ (.int .i8 (s.so - 1)) := ⟨_, rfl⟩
  have HB2 := hid (show w2.heap[w.heap.size]? = _ from hw2 ▸ blk_set HB1.out (by omega) _)
  have HS2 := hid (hw2 ▸ st_set2 HS1.out (s.so - 1))
  have HR2 := hid (show w2.heap[w.heap.size + 1 + 1 + 1]? = _ from hw2 ▸ blk_set HR1.out (by omega) _)
  have CA2 := hid (show CtlAt w2 c C from hw2 ▸ ctl_set CA1.out (by have := CL.out; omega) _)
  have TA2 := hid (show TckAt w2 (w.heap.size + 1 + 1) 0 t from hw2 ▸ tck_set TA1.out (by omega) _)
  have BL2 := hid (show Below w.heap.size w w2 from hw2 ▸ BL1.out.setCell (by simp) _)
  have W2 := hid hw2
  clear hw2
  have d0 : 0 < s.so := by omega
  have d1 : 1 < s.so := by omega
  have d2 : 0 < s.so - 1 := by omega
  go_wp2_with fail
  rw [← W2.out]
  clear c0 c1 c2 c3 c4 c5 t0 t1 t2 s0 s1 s2 f0 f1 f2
  have c0 := CA2.out.lo
  have c1 := CA2.out.hi
  have c2 := CA2.out.wi
  have c3 := CA2.out.st
  have c4 := CA2.out.de
  have c5 := CA2.out.ca
  have t0 := TA2.out.li
  have t1 := TA2.out.gu
  have t2 := TA2.out.he
  simp only [Nat.zero_add] at t1 t2
  have s0 := cell_of_row _ (w.heap.size + 1) 0 _ _ _ HS2.out
  have f0 := frozen_of_row w2 (w.heap.size + 1) 0 _ _ HS2.out
  have s1 := cell_of_row _ (w.heap.size + 1) 1 _ _ _ HS2.out
  have f1 := frozen_of_row w2 (w.heap.size + 1) 1 _ _ HS2.out
  have s2 := cell_of_row _ (w.heap.size + 1) 2 _ _ _ HS2.out
  have f2 := frozen_of_row w2 (w.heap.size + 1) 2 _ _ HS2.out
  simp only [stcells] at s0 s1 s2
  replace s0 : w2.cell? ⟨w.heap.size + 1, 0, none⟩ = some (.int .i16 s.ti) := s0
  replace s1 : w2.cell? ⟨w.heap.size + 1, 1, none⟩ = some (.int .i8 s.wa) := s1
  replace s2 : w2.cell? ⟨w.heap.size + 1, 2, none⟩ = some (.int .i8 (s.so - 1)) := s2
  have r0 := (show w2.cell? ⟨w.heap.size + 1 + 1 + 1, 0, none⟩ = some (.int .i16 0) from cell_of_row _ (w.heap.size + 1 + 1 + 1) 0 _ _ _ HR2.out)
  have x0 := frozen_of_row w2 (w.heap.size + 1 + 1 + 1) 0 _ _ HR2.out
  have r1 := (show w2.cell? ⟨w.heap.size + 1 + 1 + 1, 1, none⟩ = some (.int .i8 0) from cell_of_row _ (w.heap.size + 1 + 1 + 1) 1 _ _ _ HR2.out)
  have x1 := frozen_of_row w2 (w.heap.size + 1 + 1 + 1) 1 _ _ HR2.out
  have r2 := (show w2.cell? ⟨w.heap.size + 1 + 1 + 1, 2, none⟩ = some (.int .i8 0) from cell_of_row _ (w.heap.size + 1 + 1 + 1) 2 _ _ _ HR2.out)
  have x2 := frozen_of_row w2 (w.heap.size + 1 + 1 + 1) 2 _ _ HR2.out
  go_region
  go_wp2_with fail
  refine bodyPost_ret (v := .tuple #[.agg #[.int .i16 (s.ti), .int .i8 (s.wa), .int .i8 ((s.so - 1))], .float .f32 t.li, .bool true]) (by simp [results, Try.results146, go_sem, *]) rfl ⟨?_, (((BL2.out.setCell (by simp <;> omega) _).setCell (by simp <;> omega) _).setCell (by simp <;> omega) _).drew⟩
  rw [EN.out, EX.out, EU.out]; rfl
set_option maxHeartbeats 400000 in
theorem c_once_g (C : Ctl) (hC : OkC C) (B : Bld) (hB : OkB B) (s : Sta) (hs : OkS s) (t : Tck) (ht : OkT t) (c b o : Nat) (w : World) (hA : CtlAt w c C) (hT : TckAt w b o t) (hg : fGt t.gu C.wi = true) :
    Calls Try.prog 67 #[.pointer (some ⟨c, 0, none⟩), .agg (bcells B), .agg (stcells s), .pointer (some ⟨b, o, none⟩)] w fun e w' => e = .returned (.tuple #[.agg (stcells (nextW C B s t)), .float .f32 (inW C B s t)]) ∧ Below w.heap.size w w' := by
  have b0 := hC.ca
  have ES : stormW C s t = C.ca := by unfold stormW; rw [if_pos hg]
  have EN := hid (show nextW C B s t = ⟨s.ti, s.wa, C.ca⟩ by unfold nextW; rw [ES, if_pos (by omega)])
  have EX := hid (show inW C B s t = t.li by unfold inW; rw [ES, if_pos (by omega)])
  have EU := hid (show upW C s t = true by unfold upW; rw [ES]; exact decide_eq_true (by omega))
  clear ES b0
  have g0 := (show (FloatKind.f32.format.order t.gu C.wi == some .gt) = true from hg)
  have HZB := hid (size_blind B)
  have CL := hid hA.lt
  have TL := hid hT.lt
  obtain ⟨w0, hw0⟩ : ∃ w0, w0 = (((w.alloc (.cells (bcells B) 37)).alloc (.cells (stcells s) 39)).alloc (.cells #[.int .i16 0, .int .i8 0, .int .i8 0] 39)) := ⟨_, rfl⟩
  have BL0 : Hid (Below w.heap.size w w0) := hid (by rw [hw0]; exact (((Below.refl _ _).alloc (Nat.le_refl _) _).alloc (by simp) _).alloc (by simp; omega) _)
  have HB0 : Hid (w0.heap[w.heap.size]? = some (.cells (bcells B) 37 (0, 0))) := hid (by rw [hw0]; exact (blk_past _ _ _ (by simp <;> omega)).trans ((blk_past _ _ _ (by simp <;> omega)).trans (blk_at _ _ _ rfl)))
  have HS0 : Hid (w0.heap[w.heap.size + 1]? = some (.cells (stcells s) 39 (0, 0))) := hid (by rw [hw0]; exact (blk_past _ _ _ (by simp <;> omega)).trans (blk_at _ _ _ (by simp)))
  have TA0 := hid (hT.below BL0.out)
  have HR0 : Hid (w0.heap[w.heap.size + 1 + 1]? = some (.cells zSt 39 (0, 0))) := hid (by rw [hw0]; exact blk_at _ _ _ (by simp))
  have CA0 := hid (hA.below BL0.out)
  have W0 := hid hw0
  have HC := hid hC
  have HBB := hid hB
  have HSS := hid hs
  have HTT := hid ht
  have b1 := hC.st
  have b2 := hC.de
  have b3 := hC.ca
  have b4 := hs.ti
  have b5 := hs.wa
  have b6 := hs.so
  have b7 := ht.he
  clear hC hB hs ht hA hw0 hT
  go_enter Try.func67, Try.ntmps67
  go_wp2_with fail
  rw [← W0.out]
  refine wp_region_below (by kernel_rfl) (by kernel_rfl) ?_
  repeat (first | (refine wpQuiet_load_cell rfl 22 _ rfl ⟨b, o + 1, none⟩ rfl (.float .f32 t.gu) _ (fun wx hwx => (TA0.out.below hwx.out).gu) Try.underlying22 rfl ?_) | (refine wpQuiet_load_cell rfl 22 _ rfl ⟨c, 2, none⟩ rfl (.float .f32 C.wi) _ (fun wx hwx => (CA0.out.below hwx.out).wi) Try.underlying22 rfl ?_) | (refine wpQuiet_step (fun K hK => ?_); go_simp; first | (refine hK _ ?_; clear hK K) | (refine ⟨_, fun _ _ => rfl, hK _ ?_⟩; clear hK K)))
  refine wpQuiet_nil ?_
  intro w1 h1
  replace h1 := h1.out
  have HB1 := hid ((h1.block _ (block_lt HB0.out)).trans HB0.out)
  have HS1 := hid ((h1.block _ (block_lt HS0.out)).trans HS0.out)
  have HR1 := hid ((h1.block _ (block_lt HR0.out)).trans HR0.out)
  have CA1 := hid (CA0.out.below h1)
  have TA1 := hid (TA0.out.below h1)
  have BL1 := hid (below_trans BL0.out h1 BL0.out.size)
  clear h1
  have c0 := CA1.out.lo
  have c1 := CA1.out.hi
  have c2 := CA1.out.wi
  have c3 := CA1.out.st
  have c4 := CA1.out.de
  have c5 := CA1.out.ca
  have t0 := TA1.out.li
  have t1 := TA1.out.gu
  have t2 := TA1.out.he
  have s0 := cell_of_row _ (w.heap.size + 1) 0 _ _ _ HS1.out
  have f0 := frozen_of_row w1 (w.heap.size + 1) 0 _ _ HS1.out
  have s1 := cell_of_row _ (w.heap.size + 1) 1 _ _ _ HS1.out
  have f1 := frozen_of_row w1 (w.heap.size + 1) 1 _ _ HS1.out
  have s2 := cell_of_row _ (w.heap.size + 1) 2 _ _ _ HS1.out
  have f2 := frozen_of_row w1 (w.heap.size + 1) 2 _ _ HS1.out
  simp only [stcells] at s0 s1 s2
  replace s0 : w1.cell? ⟨w.heap.size + 1, 0, none⟩ = some (.int .i16 s.ti) := s0
  replace s1 : w1.cell? ⟨w.heap.size + 1, 1, none⟩ = some (.int .i8 s.wa) := s1
  replace s2 : w1.cell? ⟨w.heap.size + 1, 2, none⟩ = some (.int .i8 s.so) := s2
  obtain ⟨w2, hw2⟩ : ∃ w2, w2 = w1.setCell ⟨w.heap.size + 1, 2, none⟩ (.int .i8 C.ca) := ⟨_, rfl⟩
  have HB2 := hid (show w2.heap[w.heap.size]? = _ from hw2 ▸ blk_set HB1.out (by omega) _)
  have HS2 := hid (hw2 ▸ st_set2 HS1.out (C.ca))
  have HR2 := hid (show w2.heap[w.heap.size + 1 + 1]? = _ from hw2 ▸ blk_set HR1.out (by omega) _)
  have CA2 := hid (show CtlAt w2 c C from hw2 ▸ ctl_set CA1.out (by have := CL.out; omega) _)
  have TA2 := hid (show TckAt w2 b o t from hw2 ▸ tck_set TA1.out (by have := TL.out; omega) _)
  have BL2 := hid (show Below w.heap.size w w2 from hw2 ▸ BL1.out.setCell (by simp) _)
  have W2 := hid hw2
  clear hw2
  have d1 : 0 < C.ca := by omega
  go_wp2_with fail
  rw [← W2.out]
  clear c0 c1 c2 c3 c4 c5 t0 t1 t2 s0 s1 s2 f0 f1 f2
  have c0 := CA2.out.lo
  have c1 := CA2.out.hi
  have c2 := CA2.out.wi
  have c3 := CA2.out.st
  have c4 := CA2.out.de
  have c5 := CA2.out.ca
  have t0 := TA2.out.li
  have t1 := TA2.out.gu
  have t2 := TA2.out.he
  have s0 := cell_of_row _ (w.heap.size + 1) 0 _ _ _ HS2.out
  have f0 := frozen_of_row w2 (w.heap.size + 1) 0 _ _ HS2.out
  have s1 := cell_of_row _ (w.heap.size + 1) 1 _ _ _ HS2.out
  have f1 := frozen_of_row w2 (w.heap.size + 1) 1 _ _ HS2.out
  have s2 := cell_of_row _ (w.heap.size + 1) 2 _ _ _ HS2.out
  have f2 := frozen_of_row w2 (w.heap.size + 1) 2 _ _ HS2.out
  simp only [stcells] at s0 s1 s2
  replace s0 : w2.cell? ⟨w.heap.size + 1, 0, none⟩ = some (.int .i16 s.ti) := s0
  replace s1 : w2.cell? ⟨w.heap.size + 1, 1, none⟩ = some (.int .i8 s.wa) := s1
  replace s2 : w2.cell? ⟨w.heap.size + 1, 2, none⟩ = some (.int .i8 C.ca) := s2
  have r0 := (show w2.cell? ⟨w.heap.size + 1 + 1, 0, none⟩ = some (.int .i16 0) from cell_of_row _ (w.heap.size + 1 + 1) 0 _ _ _ HR2.out)
  have x0 := frozen_of_row w2 (w.heap.size + 1 + 1) 0 _ _ HR2.out
  have r1 := (show w2.cell? ⟨w.heap.size + 1 + 1, 1, none⟩ = some (.int .i8 0) from cell_of_row _ (w.heap.size + 1 + 1) 1 _ _ _ HR2.out)
  have x1 := frozen_of_row w2 (w.heap.size + 1 + 1) 1 _ _ HR2.out
  have r2 := (show w2.cell? ⟨w.heap.size + 1 + 1, 2, none⟩ = some (.int .i8 0) from cell_of_row _ (w.heap.size + 1 + 1) 2 _ _ _ HR2.out)
  have x2 := frozen_of_row w2 (w.heap.size + 1 + 1) 2 _ _ HR2.out
  have e1 : ¬ (w.heap.size + 1 + 1 = b) := by have := TL.out; omega
  go_region
  go_wp2_with fail
  refine bodyPost_ret (v := .tuple #[.agg #[.int .i16 (s.ti), .int .i8 (s.wa), .int .i8 (C.ca)], .float .f32 t.li]) (by simp [results, Try.results67, go_sem, *]) rfl ⟨?_, (((BL2.out.setCell (by simp <;> omega) _).setCell (by simp <;> omega) _).setCell (by simp <;> omega) _).drew⟩
  rw [EN.out, EX.out]; rfl
set_option maxHeartbeats 400000 in
theorem c_once_d (C : Ctl) (hC : OkC C) (B : Bld) (hB : OkB B) (s : Sta) (hs : OkS s) (t : Tck) (ht : OkT t) (c b o : Nat) (w : World) (hA : CtlAt w c C) (hT : TckAt w b o t) (hg : fGt t.gu C.wi = false) (h1 : 1 < s.so) :
    Calls Try.prog 67 #[.pointer (some ⟨c, 0, none⟩), .agg (bcells B), .agg (stcells s), .pointer (some ⟨b, o, none⟩)] w fun e w' => e = .returned (.tuple #[.agg (stcells (nextW C B s t)), .float .f32 (inW C B s t)]) ∧ Below w.heap.size w w' := by
  have b0 := h1
  have ES : stormW C s t = (s.so - 1) := by unfold stormW; rw [if_neg (by simp [hg]), if_pos (by omega)]
  have EN := hid (show nextW C B s t = ⟨s.ti, s.wa, (s.so - 1)⟩ by unfold nextW; rw [ES, if_pos (by omega)])
  have EX := hid (show inW C B s t = t.li by unfold inW; rw [ES, if_pos (by omega)])
  have EU := hid (show upW C s t = true by unfold upW; rw [ES]; exact decide_eq_true (by omega))
  clear ES b0
  have g0 := (show (FloatKind.f32.format.order t.gu C.wi == some .gt) = false from hg)
  have HZB := hid (size_blind B)
  have CL := hid hA.lt
  have TL := hid hT.lt
  obtain ⟨w0, hw0⟩ : ∃ w0, w0 = (((w.alloc (.cells (bcells B) 37)).alloc (.cells (stcells s) 39)).alloc (.cells #[.int .i16 0, .int .i8 0, .int .i8 0] 39)) := ⟨_, rfl⟩
  have BL0 : Hid (Below w.heap.size w w0) := hid (by rw [hw0]; exact (((Below.refl _ _).alloc (Nat.le_refl _) _).alloc (by simp) _).alloc (by simp; omega) _)
  have HB0 : Hid (w0.heap[w.heap.size]? = some (.cells (bcells B) 37 (0, 0))) := hid (by rw [hw0]; exact (blk_past _ _ _ (by simp <;> omega)).trans ((blk_past _ _ _ (by simp <;> omega)).trans (blk_at _ _ _ rfl)))
  have HS0 : Hid (w0.heap[w.heap.size + 1]? = some (.cells (stcells s) 39 (0, 0))) := hid (by rw [hw0]; exact (blk_past _ _ _ (by simp <;> omega)).trans (blk_at _ _ _ (by simp)))
  have TA0 := hid (hT.below BL0.out)
  have HR0 : Hid (w0.heap[w.heap.size + 1 + 1]? = some (.cells zSt 39 (0, 0))) := hid (by rw [hw0]; exact blk_at _ _ _ (by simp))
  have CA0 := hid (hA.below BL0.out)
  have W0 := hid hw0
  have HC := hid hC
  have HBB := hid hB
  have HSS := hid hs
  have HTT := hid ht
  have b1 := hC.st
  have b2 := hC.de
  have b3 := hC.ca
  have b4 := hs.ti
  have b5 := hs.wa
  have b6 := hs.so
  have b7 := ht.he
  clear hC hB hs ht hA hw0 hT
  go_enter Try.func67, Try.ntmps67
  go_wp2_with fail
  rw [← W0.out]
  refine wp_region_below (by kernel_rfl) (by kernel_rfl) ?_
  repeat (first | (refine wpQuiet_load_cell rfl 22 _ rfl ⟨b, o + 1, none⟩ rfl (.float .f32 t.gu) _ (fun wx hwx => (TA0.out.below hwx.out).gu) Try.underlying22 rfl ?_) | (refine wpQuiet_load_cell rfl 22 _ rfl ⟨c, 2, none⟩ rfl (.float .f32 C.wi) _ (fun wx hwx => (CA0.out.below hwx.out).wi) Try.underlying22 rfl ?_) | (refine wpQuiet_step (fun K hK => ?_); go_simp; first | (refine hK _ ?_; clear hK K) | (refine ⟨_, fun _ _ => rfl, hK _ ?_⟩; clear hK K)))
  refine wpQuiet_nil ?_
  intro w1 h1
  replace h1 := h1.out
  have HB1 := hid ((h1.block _ (block_lt HB0.out)).trans HB0.out)
  have HS1 := hid ((h1.block _ (block_lt HS0.out)).trans HS0.out)
  have HR1 := hid ((h1.block _ (block_lt HR0.out)).trans HR0.out)
  have CA1 := hid (CA0.out.below h1)
  have TA1 := hid (TA0.out.below h1)
  have BL1 := hid (below_trans BL0.out h1 BL0.out.size)
  clear h1
  have c0 := CA1.out.lo
  have c1 := CA1.out.hi
  have c2 := CA1.out.wi
  have c3 := CA1.out.st
  have c4 := CA1.out.de
  have c5 := CA1.out.ca
  have t0 := TA1.out.li
  have t1 := TA1.out.gu
  have t2 := TA1.out.he
  have s0 := cell_of_row _ (w.heap.size + 1) 0 _ _ _ HS1.out
  have f0 := frozen_of_row w1 (w.heap.size + 1) 0 _ _ HS1.out
  have s1 := cell_of_row _ (w.heap.size + 1) 1 _ _ _ HS1.out
  have f1 := frozen_of_row w1 (w.heap.size + 1) 1 _ _ HS1.out
  have s2 := cell_of_row _ (w.heap.size + 1) 2 _ _ _ HS1.out
  have f2 := frozen_of_row w1 (w.heap.size + 1) 2 _ _ HS1.out
  simp only [stcells] at s0 s1 s2
  replace s0 : w1.cell? ⟨w.heap.size + 1, 0, none⟩ = some (.int .i16 s.ti) := s0
  replace s1 : w1.cell? ⟨w.heap.size + 1, 1, none⟩ = some (.int .i8 s.wa) := s1
  replace s2 : w1.cell? ⟨w.heap.size + 1, 2, none⟩ = some (.int .i8 s.so) := s2
  obtain ⟨w2, hw2⟩ : ∃ w2, w2 = w1.setCell ⟨w.heap.size + 1, 2, none⟩ (.int .i8 (s.so - 1)) := ⟨_, rfl⟩
  have HB2 := hid (show w2.heap[w.heap.size]? = _ from hw2 ▸ blk_set HB1.out (by omega) _)
  have HS2 := hid (hw2 ▸ st_set2 HS1.out (s.so - 1))
  have HR2 := hid (show w2.heap[w.heap.size + 1 + 1]? = _ from hw2 ▸ blk_set HR1.out (by omega) _)
  have CA2 := hid (show CtlAt w2 c C from hw2 ▸ ctl_set CA1.out (by have := CL.out; omega) _)
  have TA2 := hid (show TckAt w2 b o t from hw2 ▸ tck_set TA1.out (by have := TL.out; omega) _)
  have BL2 := hid (show Below w.heap.size w w2 from hw2 ▸ BL1.out.setCell (by simp) _)
  have W2 := hid hw2
  clear hw2
  have d0 : 0 < s.so := by omega
  have d1 : 1 < s.so := by omega
  have d2 : 0 < s.so - 1 := by omega
  go_wp2_with fail
  rw [← W2.out]
  clear c0 c1 c2 c3 c4 c5 t0 t1 t2 s0 s1 s2 f0 f1 f2
  have c0 := CA2.out.lo
  have c1 := CA2.out.hi
  have c2 := CA2.out.wi
  have c3 := CA2.out.st
  have c4 := CA2.out.de
  have c5 := CA2.out.ca
  have t0 := TA2.out.li
  have t1 := TA2.out.gu
  have t2 := TA2.out.he
  have s0 := cell_of_row _ (w.heap.size + 1) 0 _ _ _ HS2.out
  have f0 := frozen_of_row w2 (w.heap.size + 1) 0 _ _ HS2.out
  have s1 := cell_of_row _ (w.heap.size + 1) 1 _ _ _ HS2.out
  have f1 := frozen_of_row w2 (w.heap.size + 1) 1 _ _ HS2.out
  have s2 := cell_of_row _ (w.heap.size + 1) 2 _ _ _ HS2.out
  have f2 := frozen_of_row w2 (w.heap.size + 1) 2 _ _ HS2.out
  simp only [stcells] at s0 s1 s2
  replace s0 : w2.cell? ⟨w.heap.size + 1, 0, none⟩ = some (.int .i16 s.ti) := s0
  replace s1 : w2.cell? ⟨w.heap.size + 1, 1, none⟩ = some (.int .i8 s.wa) := s1
  replace s2 : w2.cell? ⟨w.heap.size + 1, 2, none⟩ = some (.int .i8 (s.so - 1)) := s2
  have r0 := (show w2.cell? ⟨w.heap.size + 1 + 1, 0, none⟩ = some (.int .i16 0) from cell_of_row _ (w.heap.size + 1 + 1) 0 _ _ _ HR2.out)
  have x0 := frozen_of_row w2 (w.heap.size + 1 + 1) 0 _ _ HR2.out
  have r1 := (show w2.cell? ⟨w.heap.size + 1 + 1, 1, none⟩ = some (.int .i8 0) from cell_of_row _ (w.heap.size + 1 + 1) 1 _ _ _ HR2.out)
  have x1 := frozen_of_row w2 (w.heap.size + 1 + 1) 1 _ _ HR2.out
  have r2 := (show w2.cell? ⟨w.heap.size + 1 + 1, 2, none⟩ = some (.int .i8 0) from cell_of_row _ (w.heap.size + 1 + 1) 2 _ _ _ HR2.out)
  have x2 := frozen_of_row w2 (w.heap.size + 1 + 1) 2 _ _ HR2.out
  have e1 : ¬ (w.heap.size + 1 + 1 = b) := by have := TL.out; omega
  go_region
  go_wp2_with fail
  refine bodyPost_ret (v := .tuple #[.agg #[.int .i16 (s.ti), .int .i8 (s.wa), .int .i8 ((s.so - 1))], .float .f32 t.li]) (by simp [results, Try.results67, go_sem, *]) rfl ⟨?_, (((BL2.out.setCell (by simp <;> omega) _).setCell (by simp <;> omega) _).setCell (by simp <;> omega) _).drew⟩
  rw [EN.out, EX.out]; rfl
end Go.Proofs.Ytmjmgfojdomhlaa
