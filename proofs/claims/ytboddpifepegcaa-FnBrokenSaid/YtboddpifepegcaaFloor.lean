/- Walks of FloorOf. -/
import Derived.Test.YtboddpifepegcaaBroken
import Derived.Test.YtboddpifepegcaaPlan
import Derived.Test.YtboddpifepegcaaKeep
namespace Go.Proofs.Ytboddpifepegcaa
set_option maxRecDepth 20000
open Go.RowKit

/-! ### Results of which the first is a whole block -/
theorem results_row_tmp {P : Program} {fn : Func} {p q : Tmp} {ty : TypeId} (h : fn.results = #[.cell p ty, .tmp q]) (tmps : Array Value) (w : World) (g : Nat) (t : TypeId) (cs : Array Value) (fr : Nat × Nat) (d : TypeDesc)
    (hp : tmps.getD p undef = .pointer (some ⟨g, 0, none⟩)) (hg : w.heap[g]? = some (.cells cs t fr))
    (hu : P.underlying ty = some d) (hd : (match d with | .struct _ | .array _ _ => true | _ => false) = true) (hi : (P.info? ty).map (·.size) = some cs.size) (v : Value) (hv : tmps.getD q undef = v) :
    (results fn tmps).run P w = .ok (.tuple #[.agg cs, v]) w := by
  have hp' : tmps[p]?.getD undef = .pointer (some ⟨g, 0, none⟩) := by simpa using hp
  subst hv
  simp [results, h, hp', asAddr, run_loadVar_row w g t ty cs fr d hg hu hd hi]
theorem results_row_tmp2 {P : Program} {fn : Func} {p q r : Tmp} {ty : TypeId} (h : fn.results = #[.cell p ty, .tmp q, .tmp r]) (tmps : Array Value) (w : World) (g : Nat) (t : TypeId) (cs : Array Value) (fr : Nat × Nat) (d : TypeDesc)
    (hp : tmps.getD p undef = .pointer (some ⟨g, 0, none⟩)) (hg : w.heap[g]? = some (.cells cs t fr))
    (hu : P.underlying ty = some d) (hd : (match d with | .struct _ | .array _ _ => true | _ => false) = true) (hi : (P.info? ty).map (·.size) = some cs.size) (v v2 : Value) (hv : tmps.getD q undef = v) (hv2 : tmps.getD r undef = v2) :
    (results fn tmps).run P w = .ok (.tuple #[.agg cs, v, v2]) w := by
  have hp' : tmps[p]?.getD undef = .pointer (some ⟨g, 0, none⟩) := by simpa using hp
  subst hv hv2
  simp [results, h, hp', asAddr, run_loadVar_row w g t ty cs fr d hg hu hd hi]
theorem wpQuiet_load_rowg {P : Program} {ops : Array Oper} {C : World → Prop} {Q : Act → Prop} {rest : List Oper} {o : Oper} {a : Act} (hgd : Region.wanted o (yielded ops a.tmps) = true) (ty : TypeId) (x : Operand) (ho : o.op = .load ty x)
    (g : Nat) (hx : a.eval x = .pointer (some ⟨g, 0, none⟩)) (t : TypeId) (cs : Array Value) (fr : Nat × Nat) (d : TypeDesc) (hg : ∀ w, C w → w.heap[g]? = some (.cells cs t fr))
    (hu : P.underlying ty = some d) (hd : (match d with | .struct _ | .array _ _ => true | _ => false) = true) (hi : (P.info? ty).map (·.size) = some cs.size)
    (h : wpQuiet P ops C Q rest (a.put o.dst (.agg cs))) : wpQuiet P ops C Q (o :: rest) a :=
  wpQuiet_step fun K hK => by
    rw [if_pos hgd]
    refine ⟨.agg cs, fun w hw => ?_, hK _ h⟩
    unfold Oper.quietAt execOp
    simp only [ho, hx, Instr.loadAt, Instr.sureAddr, Sem.run_bind, Sem.run_pure, Result.andThen_ok, run_loadVar_row w g t ty cs fr d (hg w hw) hu hd hi]
    exact ⟨rfl, rfl⟩
/-! ### The floor -/
def zF : Array Value := #[.float .f32 0, .float .f32 0, .float .f32 0, .float .f32 0, .float .f32 0, .float .f32 0, .float .f32 0, .float .f32 0, .float .f32 0, .float .f32 0, .float .f32 0, .float .f32 0, .float .f32 0, .float .f32 0, .float .f32 0, .float .f32 0, .float .f32 0, .float .f32 0, .float .f32 0, .float .f32 0, .float .f32 0, .float .f32 0, .float .f32 0, .float .f32 0]
theorem and1 (x : Int) (h0 : 0 ≤ x) (h1 : x < 4294967296) : bits .and .u32 x 1 = x % 2 := by
  obtain ⟨a, rfl⟩ : ∃ a : Nat, x = a := ⟨x.toNat, by omega⟩
  have ha : a < 4294967296 := by omega
  unfold bits
  have e : (BitVec.ofInt 32 (a : Int) &&& BitVec.ofInt 32 1).toNat = a % 2 := by
    rw [BitVec.toNat_and, BitVec.ofInt_natCast, BitVec.toNat_ofNat, Nat.mod_eq_of_lt (by omega), show (BitVec.ofInt 32 1).toNat = 1 from rfl, Nat.and_one_is_mod]
  show IntKind.u32.wrap ((BitVec.ofInt 32 (a : Int) &&& BitVec.ofInt 32 1).toNat : Int) = _
  rw [e]
  simp [IntKind.wrap, IntKind.bits, IntKind.signed]
  omega
def zFl : List Nat := List.replicate 24 0
theorem zF_is : zF = f32s zFl := by kernel_rfl
theorem zF_size : (Try.prog.info? 48).map (·.size) = some zF.size := by kernel_rfl
theorem zF_one : zF.all (·.oneCell') = true := by rw [zF_is]; exact f32s_one _
def flR (B : Bld) (h u : Int) : Bool := inB h 1 64 && (u / 2 ^ nS B == 0)
def flC (B : Bld) (h u : Int) : Int := codeOf (okB B) (flR B h u)
def flV (B : Bld) (h u : Int) (k : Nat) : Nat := if u / 2 ^ k % 2 = 1 then hungW B h else openW B h
def flK (v : Nat → Nat) : Nat → List Nat
  | 0 => zFl
  | k + 1 => (flK v k).set k (v k)
theorem flK_len (v : Nat → Nat) : ∀ k, (flK v k).length = 24
  | 0 => rfl
  | k + 1 => by rw [flK, List.length_set, flK_len v k]
def flL (B : Bld) (h u : Int) : List Nat := if flC B h u = 0 then flK (flV B h u) (nS B) else zFl
theorem set_one {w : World} {b k v : Nat} {F : List Nat} {T : TypeId} (hb : w.heap[b]? = some (.cells (f32s F) T (0, 0))) (hk : k < F.length) : (w.setCell ⟨b, k, none⟩ (.float .f32 v)).heap[b]? = some (.cells (f32s (F.set k v)) T (0, 0)) := by
  have h := heap_setCells b T [.float .f32 v] k w _ hb (by simp [f32s]; omega)
  rw [World.setCells, World.setCells] at h
  rw [h]
  congr 2
  apply Array.toList_inj.1
  simp only [f32s, List.toList_toArray]
  rw [List.map_set, List.set_eq_take_append_cons_drop, if_pos (by simpa using hk)]
  simp
set_option maxHeartbeats 1000000 in
theorem c_implFloorOf_a (B : Bld) (wf : WfB B) (h u : Int) (hu : 0 ≤ u ∧ u < 4294967296) (w : World) (e1 : inB h 1 64 = false) (hz : ¬ flC B h u = 0) :
    Calls Try.prog 23 #[.agg (bcells B), .int .i64 h, .int .u32 u] w fun e w' => e = .returned (.tuple #[.agg (f32s (flL B h u)), .int .i64 (flC B h u)]) ∧ Below w.heap.size w w' := by
  have HB0 : Hid (((w.alloc (.cells (bcells B) 30)).alloc (.cells (zF) 48)).heap[w.heap.size]? = some (.cells (bcells B) 30 (0, 0))) := hid ((blk_past _ _ _ (by simp)).trans (blk_at _ _ _ rfl))
  have HZ0 : Hid ((Try.prog.info? 30).map (·.size) = some (bcells B).size) := hid (size_blind B)
  have HB1 : Hid (((w.alloc (.cells (bcells B) 30)).alloc (.cells (zF) 48)).heap[w.heap.size + 1]? = some (.cells (zF) 48 (0, 0))) := hid (blk_at _ _ _ (by simp))
  have HZ1 : Hid ((Try.prog.info? 48).map (·.size) = some (zF).size) := hid (zF_size)
  have H0 : Hid (Below w.heap.size w ((w.alloc (.cells (bcells B) 30)).alloc (.cells (zF) 48))) := hid (((Below.refl _ _).alloc (Nat.le_refl _) _).alloc (by simp) _)
  have KR : flR B h u = false := by simp [flR, e1]
  have CG0 := fun w => c_isHeight h w
  rw [e1] at CG0
  have CH0 := hid CG0
  have CS := hid (fun w => c_stripes B wf w)
  have C1 := hid (fun w => show Calls Try.prog 47 #[.agg (bcells B), .bool false] w fun e w' => e = .returned (.int .i64 (flC B h u)) ∧ Below w.heap.size w w' from by have := c_blindCode B wf false w; unfold flC; rw [KR]; exact this)
  clear CG0 KR
  have HU := hid hu
  clear hu
  have FL : Hid (flL B h u = zFl) := hid (if_neg hz)
  have hz2 : Hid (¬ flC B h u = 0) := hid hz
  generalize hcv : flC B h u = cv at *
  have hne : (cv != 0) = true := by rw [bne_iff_ne]; exact hz
  clear hcv hz
  have hn := nS_le B
  generalize nS B = n at *
  clear wf e1
  go_enter Try.func23, Try.ntmps23
  go_wp2_with fail
  refine wp_region_below (by kernel_rfl) (by kernel_rfl) ?_
  repeat (first | (refine wpQuiet_load_row rfl 30 _ rfl (w.heap.size) rfl 30 (bcells B) (0, 0) _ (fun wx hwx => (hwx.out.block _ (block_lt HB0.out)).trans HB0.out) Try.underlying30 rfl HZ0.out ?_) | (refine wpQuiet_load_rowg (by rfl) 30 _ rfl (w.heap.size) rfl 30 (bcells B) (0, 0) _ (fun wx hwx => (hwx.out.block _ (block_lt HB0.out)).trans HB0.out) Try.underlying30 rfl HZ0.out ?_) | (refine wpQuiet_step (fun K hK => ?_); go_simp; first | (refine hK _ ?_; clear hK K) | (refine ⟨_, fun _ _ => rfl, hK _ ?_⟩; clear hK K) | (apply Exists.intro; refine ⟨fun wx hwx => ?_, hK _ ?_⟩; (first | (with_reducible exact quiet_below_same hwx (CH0.out _)) | (with_reducible exact quiet_below hwx (CS.out _)) | (with_reducible exact quiet_below hwx (C1.out _))); clear hK K)))
  refine wpQuiet_nil ?_
  intro w2 h2
  replace h2 := h2.out
  have HC0 := hid ((h2.block _ (block_lt HB0.out)).trans HB0.out)
  have HC1 := hid ((h2.block _ (block_lt HB1.out)).trans HB1.out)
  have H2 := hid (below_trans H0.out h2 H0.out.size)
  clear h2
  go_wp2_with (refine wpList_store_row rfl 48 _ _ rfl (w.heap.size + 1) zF rfl rfl 48 zF HC1.out zF_size rfl zF_one ?_)
  refine bodyPost_ret (v := .tuple #[.agg zF, .int .i64 cv]) (results_row_tmp rfl _ _ (w.heap.size + 1) 48 zF (0, 0) _ rfl (blk_row_same _ _ _ _ _ _ HC1.out) Try.underlying48 rfl zF_size _ rfl) rfl ⟨by rw [FL.out, zF_is], below_setRow H2.out (by omega) _⟩
set_option maxHeartbeats 1000000 in
theorem c_implFloorOf_b (B : Bld) (wf : WfB B) (h u : Int) (hu : 0 ≤ u ∧ u < 4294967296) (w : World) (e1 : inB h 1 64 = true) (hz : ¬ flC B h u = 0) :
    Calls Try.prog 23 #[.agg (bcells B), .int .i64 h, .int .u32 u] w fun e w' => e = .returned (.tuple #[.agg (f32s (flL B h u)), .int .i64 (flC B h u)]) ∧ Below w.heap.size w w' := by
  have HB0 : Hid (((w.alloc (.cells (bcells B) 30)).alloc (.cells (zF) 48)).heap[w.heap.size]? = some (.cells (bcells B) 30 (0, 0))) := hid ((blk_past _ _ _ (by simp)).trans (blk_at _ _ _ rfl))
  have HZ0 : Hid ((Try.prog.info? 30).map (·.size) = some (bcells B).size) := hid (size_blind B)
  have HB1 : Hid (((w.alloc (.cells (bcells B) 30)).alloc (.cells (zF) 48)).heap[w.heap.size + 1]? = some (.cells (zF) 48 (0, 0))) := hid (blk_at _ _ _ (by simp))
  have HZ1 : Hid ((Try.prog.info? 48).map (·.size) = some (zF).size) := hid (zF_size)
  have H0 : Hid (Below w.heap.size w ((w.alloc (.cells (bcells B) 30)).alloc (.cells (zF) 48))) := hid (((Below.refl _ _).alloc (Nat.le_refl _) _).alloc (by simp) _)
  have KR : flR B h u = (u / 2 ^ nS B == 0) := by simp [flR, e1]
  have CG0 := fun w => c_isHeight h w
  rw [e1] at CG0
  have CH0 := hid CG0
  have CS := hid (fun w => c_stripes B wf w)
  have C1 := hid (fun w => show Calls Try.prog 47 #[.agg (bcells B), .bool (u / 2 ^ nS B == 0)] w fun e w' => e = .returned (.int .i64 (flC B h u)) ∧ Below w.heap.size w w' from by have := c_blindCode B wf (u / 2 ^ nS B == 0) w; unfold flC; rw [KR]; exact this)
  clear CG0 KR
  have HU := hid hu
  clear hu
  have FL : Hid (flL B h u = zFl) := hid (if_neg hz)
  have hz2 : Hid (¬ flC B h u = 0) := hid hz
  generalize hcv : flC B h u = cv at *
  have hne : (cv != 0) = true := by rw [bne_iff_ne]; exact hz
  clear hcv hz
  have hn := nS_le B
  generalize nS B = n at *
  clear wf e1
  go_enter Try.func23, Try.ntmps23
  go_wp2_with fail
  refine wp_region_below (by kernel_rfl) (by kernel_rfl) ?_
  repeat (first | (refine wpQuiet_load_row rfl 30 _ rfl (w.heap.size) rfl 30 (bcells B) (0, 0) _ (fun wx hwx => (hwx.out.block _ (block_lt HB0.out)).trans HB0.out) Try.underlying30 rfl HZ0.out ?_) | (refine wpQuiet_load_rowg (by rfl) 30 _ rfl (w.heap.size) rfl 30 (bcells B) (0, 0) _ (fun wx hwx => (hwx.out.block _ (block_lt HB0.out)).trans HB0.out) Try.underlying30 rfl HZ0.out ?_) | (refine wpQuiet_step (fun K hK => ?_); go_simp; first | (refine hK _ ?_; clear hK K) | (refine ⟨_, fun _ _ => rfl, hK _ ?_⟩; clear hK K) | (apply Exists.intro; refine ⟨fun wx hwx => ?_, hK _ ?_⟩; (first | (with_reducible exact quiet_below_same hwx (CH0.out _)) | (with_reducible exact quiet_below hwx (CS.out _)) | (with_reducible exact quiet_below hwx (C1.out _))); clear hK K)))
  refine wpQuiet_nil ?_
  intro w2 h2
  replace h2 := h2.out
  have HC0 := hid ((h2.block _ (block_lt HB0.out)).trans HB0.out)
  have HC1 := hid ((h2.block _ (block_lt HB1.out)).trans HB1.out)
  have H2 := hid (below_trans H0.out h2 H0.out.size)
  clear h2
  go_wp2_with (refine wpList_store_row rfl 48 _ _ rfl (w.heap.size + 1) zF rfl rfl 48 zF HC1.out zF_size rfl zF_one ?_)
  refine bodyPost_ret (v := .tuple #[.agg zF, .int .i64 cv]) (results_row_tmp rfl _ _ (w.heap.size + 1) 48 zF (0, 0) _ rfl (blk_row_same _ _ _ _ _ _ HC1.out) Try.underlying48 rfl zF_size _ rfl) rfl ⟨by rw [FL.out, zF_is], below_setRow H2.out (by omega) _⟩
set_option maxHeartbeats 1000000 in
theorem c_implFloorOf_g (B : Bld) (wf : WfB B) (h u : Int) (hu : 0 ≤ u ∧ u < 4294967296) (w : World) (e1 : inB h 1 64 = true) (hz : flC B h u = 0) :
    Calls Try.prog 23 #[.agg (bcells B), .int .i64 h, .int .u32 u] w fun e w' => e = .returned (.tuple #[.agg (f32s (flL B h u)), .int .i64 (flC B h u)]) ∧ Below w.heap.size w w' := by
  have HB0 : Hid (((w.alloc (.cells (bcells B) 30)).alloc (.cells (zF) 48)).heap[w.heap.size]? = some (.cells (bcells B) 30 (0, 0))) := hid ((blk_past _ _ _ (by simp)).trans (blk_at _ _ _ rfl))
  have HZ0 : Hid ((Try.prog.info? 30).map (·.size) = some (bcells B).size) := hid (size_blind B)
  have HB1 : Hid (((w.alloc (.cells (bcells B) 30)).alloc (.cells (zF) 48)).heap[w.heap.size + 1]? = some (.cells (zF) 48 (0, 0))) := hid (blk_at _ _ _ (by simp))
  have HZ1 : Hid ((Try.prog.info? 48).map (·.size) = some (zF).size) := hid (zF_size)
  have H0 : Hid (Below w.heap.size w ((w.alloc (.cells (bcells B) 30)).alloc (.cells (zF) 48))) := hid (((Below.refl _ _).alloc (Nat.le_refl _) _).alloc (by simp) _)
  have KR : flR B h u = (u / 2 ^ nS B == 0) := by simp [flR, e1]
  have CG0 := fun w => c_isHeight h w
  rw [e1] at CG0
  have CH0 := hid CG0
  have CS := hid (fun w => c_stripes B wf w)
  have C1 := hid (fun w => show Calls Try.prog 47 #[.agg (bcells B), .bool (u / 2 ^ nS B == 0)] w fun e w' => e = .returned (.int .i64 (flC B h u)) ∧ Below w.heap.size w w' from by have := c_blindCode B wf (u / 2 ^ nS B == 0) w; unfold flC; rw [KR]; exact this)
  clear CG0 KR
  have HU := hid hu
  clear hu
  have hok := (codeOf_zero hz).1
  have hB := OkB.of wf hok
  have hh : 1 ≤ h ∧ h ≤ 64 := by simpa [inB] using e1
  have CO := hid (fun w => c_open B hB h hh.1 hh.2 w)
  have CH := hid (fun w => c_hung B hB w)
  have CQ := hid (fun w => show Calls Try.prog 72 #[.agg (bcells (hungB B)), .int .i64 h] w fun e w' => e = .returned (.float .f32 (hungW B h)) ∧ Below w.heap.size w w' from c_open (hungB B) (hungB_ok hB) h hh.1 hh.2 w)
  have hn := nS_le B
  clear hok hB hh
  have FL : Hid (flL B h u = flK (flV B h u) (nS B)) := hid (if_pos hz)
  have hz2 := hid hz
  rw [hz] at C1
  clear hz
  have FV : Hid (∀ k, flV B h u k = if u / 2 ^ k % 2 = 1 then hungW B h else openW B h) := hid (fun _ => rfl)
  generalize flV B h u = V at *
  generalize nS B = n at *
  generalize hungW B h = H at *
  generalize openW B h = W at *
  clear wf e1
  go_enter Try.func23, Try.ntmps23
  go_wp2_with fail
  refine wp_region_below (by kernel_rfl) (by kernel_rfl) ?_
  repeat (first | (refine wpQuiet_load_row rfl 30 _ rfl (w.heap.size) rfl 30 (bcells B) (0, 0) _ (fun wx hwx => (hwx.out.block _ (block_lt HB0.out)).trans HB0.out) Try.underlying30 rfl HZ0.out ?_) | (refine wpQuiet_load_rowg (by rfl) 30 _ rfl (w.heap.size) rfl 30 (bcells B) (0, 0) _ (fun wx hwx => (hwx.out.block _ (block_lt HB0.out)).trans HB0.out) Try.underlying30 rfl HZ0.out ?_) | (refine wpQuiet_step (fun K hK => ?_); go_simp; first | (refine hK _ ?_; clear hK K) | (refine ⟨_, fun _ _ => rfl, hK _ ?_⟩; clear hK K) | (apply Exists.intro; refine ⟨fun wx hwx => ?_, hK _ ?_⟩; (first | (with_reducible exact quiet_below_same hwx (CH0.out _)) | (with_reducible exact quiet_below hwx (CS.out _)) | (with_reducible exact quiet_below hwx (C1.out _))); clear hK K)))
  refine wpQuiet_nil ?_
  intro w2 h2
  replace h2 := h2.out
  have HC0 := hid ((h2.block _ (block_lt HB0.out)).trans HB0.out)
  have HC1 := hid ((h2.block _ (block_lt HB1.out)).trans HB1.out)
  have H2 := hid (below_trans H0.out h2 H0.out.size)
  clear h2
  have HO := hid (heap_alloc_new w2 (.cells zF 48))
  have hlt0 := block_lt HC0.out
  have hlt1 := block_lt HC1.out
  have HE0 := hid ((setRow_other (w2.alloc (.cells zF 48)) w2.heap.size w.heap.size zF (by omega)).trans ((blk_past _ _ _ hlt0).trans HC0.out))
  have HE1 := hid ((setRow_other (w2.alloc (.cells zF 48)) w2.heap.size (w.heap.size + 1) zF (by omega)).trans ((blk_past _ _ _ hlt1).trans HC1.out))
  have HEO := hid (blk_row_same _ _ zF zF _ _ HO.out)
  have HS := H2.out.size
  have H3 := hid (below_setRow (H2.out.alloc HS (.cells zF 48)) (g := w2.heap.size) HS zF)
  have Z0 := hid hlt0
  have Z1 := hid hlt1
  have ZS := hid HS
  clear hlt0 hlt1 HS
  go_wp2_with (first | (refine wpList_store_row rfl 48 _ _ rfl (w2.heap.size) zF rfl rfl 48 zF HO.out zF_size rfl zF_one ?_) | (refine wpList_load_row rfl 30 _ rfl (w.heap.size) rfl 30 (bcells B) (0, 0) _ HE0.out Try.underlying30 rfl HZ0.out ?_) | (go_at_call 71; refine (CS.out _).mono ?_; rintro e w3 ⟨rfl, h3⟩))
  have HG0 := hid ((h3.block _ (block_lt HE0.out)).trans HE0.out)
  have HG1 := hid ((h3.block _ (block_lt HE1.out)).trans HE1.out)
  have HGO := hid ((h3.block _ (block_lt HEO.out)).trans HEO.out)
  have H4 := hid (below_trans H3.out h3 H3.out.size)
  clear h3
  go_loopw [29] (fun i wr => ∃ k : Nat, k ≤ n ∧ i = .int .i64 k ∧ wr.heap[w2.heap.size]? = some (.cells (f32s (flK V k)) 48 (0, 0)) ∧ Below w2.heap.size w3 wr) (fun i _ => n - (intOf i).toNat)
  case atStart => exact ⟨0, by omega, rfl, by have := HGO.out; rw [zF_is] at this; exact this, Below.refl _ _⟩
  case round =>
    obtain ⟨k, hk, rfl, hbo, hbel⟩ := hrel
    have BO := hid hbo
    have BE := hid hbel
    clear hbo hbel
    have HJ0 := hid ((BE.out.block _ Z0.out).trans HG0.out)
    have HJ1 := hid ((BE.out.block _ Z1.out).trans HG1.out)
    have LZ := hid (Nat.le_of_lt (block_lt BO.out))
    by_cases hlt : k < n
    · have hk24 : k < 24 := by omega
      have u1 := HU.out.1
      have u2 := HU.out.2
      have p1 : 0 ≤ u / 2 ^ k := Int.ediv_nonneg u1 (Int.pow_nonneg (by decide))
      have p2 : u / 2 ^ k < 4294967296 := by have := Int.ediv_le_self (2 ^ k) u1; omega
      have AN := and1 _ p1 p2
      clear p1 p2
      by_cases hb1 : u / 2 ^ k % 2 = 1
      · have eB : (bits .and .u32 (u / 2 ^ k) 1 == 1) = true := by rw [AN, hb1]; rfl
        have VK : Hid (V k = H) := hid ((FV.out k).trans (if_pos hb1))
        clear AN hb1
        go_wp2_with (first | (refine wpList_load_row rfl 30 _ rfl (w.heap.size) rfl 30 (bcells B) (0, 0) _ HJ0.out Try.underlying30 rfl HZ0.out ?_) | fail)
        with_reducible refine (CO.out _).mono ?_
        rintro e w4 ⟨rfl, h4⟩
        have K0 := hid ((h4.block _ (block_lt HJ0.out)).trans HJ0.out)
        have KO := hid ((h4.block _ (block_lt BO.out)).trans BO.out)
        have KB := hid (below_trans BE.out h4 LZ.out)
        clear h4
        have c1 : w4.cell? ⟨w2.heap.size, k, none⟩ = some (.float .f32 (fat (flK V k) k)) := (cell_of_row w4 _ k _ _ _ KO.out).trans (f32s_at (flK_len V k) hk24)
        have f1 := frozen_of_row w4 _ k _ _ KO.out
        have SO := hid (set_one (v := W) KO.out (show k < (flK V k).length by rw [flK_len]; exact hk24))
        have SB : Hid (Below w2.heap.size w3 (w4.setCell ⟨w2.heap.size, k, none⟩ (.float .f32 W))) := hid (setCells_below KB.out (b := w2.heap.size) (Nat.le_refl _) [.float .f32 W] k)
        have S0 : Hid ((w4.setCell ⟨w2.heap.size, k, none⟩ (.float .f32 W)).heap[w.heap.size]? = some (.cells (bcells B) 30 (0, 0))) := hid ((setCells_other (b := w2.heap.size) (k := w.heap.size) (by have := Z0.out; omega) [.float .f32 W] k w4).trans K0.out)
        go_wp2_with (first | (refine wpList_load_row rfl 30 _ rfl (w.heap.size) rfl 30 (bcells B) (0, 0) _ S0.out Try.underlying30 rfl HZ0.out ?_) | fail)
        refine (CH.out _).mono ?_
        rintro e w5 ⟨rfl, h5⟩
        have TO := hid ((h5.block _ (block_lt SO.out)).trans SO.out)
        have TB := hid (below_trans SB.out h5 (Nat.le_of_lt (block_lt SO.out)))
        clear h5 c1 f1
        go_wp2_with fail
        refine (CQ.out _).mono ?_
        rintro e w6 ⟨rfl, h6⟩
        have UO := hid ((h6.block _ (block_lt TO.out)).trans TO.out)
        have UB := hid (below_trans TB.out h6 (Nat.le_of_lt (block_lt TO.out)))
        clear h6
        have c2 : w6.cell? ⟨w2.heap.size, k, none⟩ = some (.float .f32 (fat ((flK V k).set k W) k)) := (cell_of_row w6 _ k _ _ _ UO.out).trans (f32s_at (by rw [List.length_set, flK_len]) hk24)
        have f2 := frozen_of_row w6 _ k _ _ UO.out
        have XO := hid (set_one (v := H) UO.out (show k < ((flK V k).set k W).length by rw [List.length_set, flK_len]; exact hk24))
        have XB : Hid (Below w2.heap.size w3 (w6.setCell ⟨w2.heap.size, k, none⟩ (.float .f32 H))) := hid (setCells_below UB.out (b := w2.heap.size) (Nat.le_refl _) [.float .f32 H] k)
        go_wp2_with fail
        go_roundw
        case rel => exact ⟨k + 1, by omega, by go_num, by rw [flK, VK.out]; exact (by have := XO.out; rwa [List.set_set] at this), XB.out⟩
        case measure => simp [intOf]; omega
      · have eB : (bits .and .u32 (u / 2 ^ k) 1 == 1) = false := by rw [AN]; simpa using hb1
        have VK : Hid (V k = W) := hid ((FV.out k).trans (if_neg hb1))
        clear AN hb1
        go_wp2_with (first | (refine wpList_load_row rfl 30 _ rfl (w.heap.size) rfl 30 (bcells B) (0, 0) _ HJ0.out Try.underlying30 rfl HZ0.out ?_) | fail)
        with_reducible refine (CO.out _).mono ?_
        rintro e w4 ⟨rfl, h4⟩
        have K0 := hid ((h4.block _ (block_lt HJ0.out)).trans HJ0.out)
        have KO := hid ((h4.block _ (block_lt BO.out)).trans BO.out)
        have KB := hid (below_trans BE.out h4 LZ.out)
        clear h4
        have c1 : w4.cell? ⟨w2.heap.size, k, none⟩ = some (.float .f32 (fat (flK V k) k)) := (cell_of_row w4 _ k _ _ _ KO.out).trans (f32s_at (flK_len V k) hk24)
        have f1 := frozen_of_row w4 _ k _ _ KO.out
        have SO := hid (set_one (v := W) KO.out (show k < (flK V k).length by rw [flK_len]; exact hk24))
        have SB : Hid (Below w2.heap.size w3 (w4.setCell ⟨w2.heap.size, k, none⟩ (.float .f32 W))) := hid (setCells_below KB.out (b := w2.heap.size) (Nat.le_refl _) [.float .f32 W] k)
        go_wp2_with fail
        go_roundw
        case rel => exact ⟨k + 1, by omega, by go_num, by rw [flK, VK.out]; exact SO.out, SB.out⟩
        case measure => simp [intOf]; omega
    · obtain rfl : k = n := by omega
      have FS : Hid ((Try.prog.info? 48).map (·.size) = some (f32s (flK V k)).size) := hid (by rw [f32s_size, flK_len]; kernel_rfl)
      have FE : Hid (zF.size = (f32s (flK V k)).size) := hid (by rw [f32s_size, flK_len]; rfl)
      have BF := hid (H4.out.trans (BE.out.mono ZS.out))
      go_wp2_with (first | (refine wpList_load_row rfl 48 _ rfl (w2.heap.size) rfl 48 (f32s (flK V k)) (0, 0) _ BO.out Try.underlying48 rfl FS.out ?_) | (refine wpList_store_row rfl 48 _ _ rfl (w.heap.size + 1) (f32s (flK V k)) rfl rfl 48 zF HJ1.out FS.out FE.out (f32s_one _) ?_))
      refine bodyPost_ret (v := .tuple #[.agg (f32s (flK V k)), .int .i64 0]) (results_row_tmp rfl _ _ (w.heap.size + 1) 48 (f32s (flK V k)) (0, 0) _ rfl (blk_row_same _ _ _ _ _ _ HJ1.out) Try.underlying48 rfl FS.out _ rfl) rfl ⟨by rw [FL.out, hz2.out], below_setRow BF.out (by omega) _⟩
set_option maxHeartbeats 1000000 in
theorem c_specFloorOf_a (B : Bld) (wf : WfB B) (h u : Int) (hu : 0 ≤ u ∧ u < 4294967296) (w : World) (e1 : okB B = false) :
    Calls Try.prog 24 #[.agg (bcells B), .int .i64 h, .int .u32 u] w fun e w' => e = .returned (.tuple #[.agg (f32s (flL B h u)), .int .i64 (flC B h u)]) ∧ Below w.heap.size w w' := by
  have HB0 : Hid (((w.alloc (.cells (bcells B) 30)).alloc (.cells (zF) 48)).heap[w.heap.size]? = some (.cells (bcells B) 30 (0, 0))) := hid ((blk_past _ _ _ (by simp)).trans (blk_at _ _ _ rfl))
  have HZ0 : Hid ((Try.prog.info? 30).map (·.size) = some (bcells B).size) := hid (size_blind B)
  have HB1 : Hid (((w.alloc (.cells (bcells B) 30)).alloc (.cells (zF) 48)).heap[w.heap.size + 1]? = some (.cells (zF) 48 (0, 0))) := hid (blk_at _ _ _ (by simp))
  have HZ1 : Hid ((Try.prog.info? 48).map (·.size) = some (zF).size) := hid (zF_size)
  have H0 : Hid (Below w.heap.size w ((w.alloc (.cells (bcells B) 30)).alloc (.cells (zF) 48))) := hid (((Below.refl _ _).alloc (Nat.le_refl _) _).alloc (by simp) _)
  have CK0 := fun b w hA => c_l02Ok B wf b 0 w hA
  rw [e1] at CK0
  have CK := hid CK0
  clear CK0
  have hu1 := hu.1
  have hu2 := hu.2
  have FC : Hid (flC B h u = 1) := hid (by simp [flC, codeOf, e1])
  have FL : Hid (flL B h u = zFl) := hid (if_neg (by rw [FC.out]; decide))
  clear wf hu
  go_enter Try.func24, Try.ntmps24
  go_wp2_with (first | (go_at_call 65; refine (CK.out _ _ (BldAt.of_block HB0.out)).mono ?_; rintro e wz ⟨rfl, rfl⟩) | (refine wpList_store_row rfl 48 _ _ rfl (w.heap.size + 1) zF rfl rfl 48 zF HB1.out zF_size rfl zF_one ?_))
  refine bodyPost_ret (v := .tuple #[.agg zF, .int .i64 1]) (results_row_tmp rfl _ _ (w.heap.size + 1) 48 zF (0, 0) _ rfl (blk_row_same _ _ _ _ _ _ HB1.out) Try.underlying48 rfl zF_size _ rfl) rfl ⟨by rw [FL.out, FC.out, zF_is], below_setRow H0.out (by omega) _⟩
set_option maxHeartbeats 1000000 in
theorem c_specFloorOf_b (B : Bld) (wf : WfB B) (h u : Int) (hu : 0 ≤ u ∧ u < 4294967296) (w : World) (e1 : okB B = true) (e2 : inB h 1 64 = false) :
    Calls Try.prog 24 #[.agg (bcells B), .int .i64 h, .int .u32 u] w fun e w' => e = .returned (.tuple #[.agg (f32s (flL B h u)), .int .i64 (flC B h u)]) ∧ Below w.heap.size w w' := by
  have HB0 : Hid (((w.alloc (.cells (bcells B) 30)).alloc (.cells (zF) 48)).heap[w.heap.size]? = some (.cells (bcells B) 30 (0, 0))) := hid ((blk_past _ _ _ (by simp)).trans (blk_at _ _ _ rfl))
  have HZ0 : Hid ((Try.prog.info? 30).map (·.size) = some (bcells B).size) := hid (size_blind B)
  have HB1 : Hid (((w.alloc (.cells (bcells B) 30)).alloc (.cells (zF) 48)).heap[w.heap.size + 1]? = some (.cells (zF) 48 (0, 0))) := hid (blk_at _ _ _ (by simp))
  have HZ1 : Hid ((Try.prog.info? 48).map (·.size) = some (zF).size) := hid (zF_size)
  have H0 : Hid (Below w.heap.size w ((w.alloc (.cells (bcells B) 30)).alloc (.cells (zF) 48))) := hid (((Below.refl _ _).alloc (Nat.le_refl _) _).alloc (by simp) _)
  have CK0 := fun b w hA => c_l02Ok B wf b 0 w hA
  rw [e1] at CK0
  have CK := hid CK0
  clear CK0
  have hB := OkB.of wf e1
  have CL0 := fun b w hA => c_l07Looked B b 0 w hA wf
  rw [nS_min hB] at CL0
  have CL := hid CL0
  clear CL0
  have CU0 := fun w => c_l02Up h w
  rw [e2] at CU0
  have CU := hid CU0
  clear CU0
  have hn := nS_le B
  have hw1 : IntKind.u32.wrap (nS B : Int) = (nS B : Int) := by simp [IntKind.wrap, IntKind.bits, IntKind.signed]; omega
  have hu1 := hu.1
  have hu2 := hu.2
  have FC : Hid (flC B h u = 2) := hid (by simp [flC, flR, codeOf, e1, e2])
  have FL : Hid (flL B h u = zFl) := hid (if_neg (by rw [FC.out]; decide))
  generalize nS B = n at *
  clear wf hu
  go_enter Try.func24, Try.ntmps24
  go_wp2_with (first | (go_at_call 65; refine (CK.out _ _ (BldAt.of_block HB0.out)).mono ?_; rintro e wz ⟨rfl, rfl⟩) | (go_at_call 70; refine (CL.out _ _ (BldAt.of_block HB0.out)).mono ?_; rintro e wz ⟨rfl, rfl⟩) | (go_at_call 55; refine (CU.out _).mono ?_; rintro e wz ⟨rfl, rfl⟩) | (refine wpList_store_row rfl 48 _ _ rfl (w.heap.size + 1) zF rfl rfl 48 zF HB1.out zF_size rfl zF_one ?_))
  refine bodyPost_ret (v := .tuple #[.agg zF, .int .i64 2]) (results_row_tmp rfl _ _ (w.heap.size + 1) 48 zF (0, 0) _ rfl (blk_row_same _ _ _ _ _ _ HB1.out) Try.underlying48 rfl zF_size _ rfl) rfl ⟨by rw [FL.out, FC.out, zF_is], below_setRow H0.out (by omega) _⟩
set_option maxHeartbeats 1000000 in
theorem c_specFloorOf_c (B : Bld) (wf : WfB B) (h u : Int) (hu : 0 ≤ u ∧ u < 4294967296) (w : World) (e1 : okB B = true) (e2 : inB h 1 64 = true) (e3 : (u / 2 ^ nS B == 0) = false) :
    Calls Try.prog 24 #[.agg (bcells B), .int .i64 h, .int .u32 u] w fun e w' => e = .returned (.tuple #[.agg (f32s (flL B h u)), .int .i64 (flC B h u)]) ∧ Below w.heap.size w w' := by
  have HB0 : Hid (((w.alloc (.cells (bcells B) 30)).alloc (.cells (zF) 48)).heap[w.heap.size]? = some (.cells (bcells B) 30 (0, 0))) := hid ((blk_past _ _ _ (by simp)).trans (blk_at _ _ _ rfl))
  have HZ0 : Hid ((Try.prog.info? 30).map (·.size) = some (bcells B).size) := hid (size_blind B)
  have HB1 : Hid (((w.alloc (.cells (bcells B) 30)).alloc (.cells (zF) 48)).heap[w.heap.size + 1]? = some (.cells (zF) 48 (0, 0))) := hid (blk_at _ _ _ (by simp))
  have HZ1 : Hid ((Try.prog.info? 48).map (·.size) = some (zF).size) := hid (zF_size)
  have H0 : Hid (Below w.heap.size w ((w.alloc (.cells (bcells B) 30)).alloc (.cells (zF) 48))) := hid (((Below.refl _ _).alloc (Nat.le_refl _) _).alloc (by simp) _)
  have CK0 := fun b w hA => c_l02Ok B wf b 0 w hA
  rw [e1] at CK0
  have CK := hid CK0
  clear CK0
  have hB := OkB.of wf e1
  have CL0 := fun b w hA => c_l07Looked B b 0 w hA wf
  rw [nS_min hB] at CL0
  have CL := hid CL0
  clear CL0
  have CU0 := fun w => c_l02Up h w
  rw [e2] at CU0
  have CU := hid CU0
  clear CU0
  have hn := nS_le B
  have hw1 : IntKind.u32.wrap (nS B : Int) = (nS B : Int) := by simp [IntKind.wrap, IntKind.bits, IntKind.signed]; omega
  have hu1 := hu.1
  have hu2 := hu.2
  have FC : Hid (flC B h u = 2) := hid (by simp [flC, flR, codeOf, e1, e2, e3])
  have FL : Hid (flL B h u = zFl) := hid (if_neg (by rw [FC.out]; decide))
  generalize nS B = n at *
  clear wf hu
  go_enter Try.func24, Try.ntmps24
  go_wp2_with (first | (go_at_call 65; refine (CK.out _ _ (BldAt.of_block HB0.out)).mono ?_; rintro e wz ⟨rfl, rfl⟩) | (go_at_call 70; refine (CL.out _ _ (BldAt.of_block HB0.out)).mono ?_; rintro e wz ⟨rfl, rfl⟩) | (go_at_call 55; refine (CU.out _).mono ?_; rintro e wz ⟨rfl, rfl⟩) | (refine wpList_store_row rfl 48 _ _ rfl (w.heap.size + 1) zF rfl rfl 48 zF HB1.out zF_size rfl zF_one ?_))
  refine bodyPost_ret (v := .tuple #[.agg zF, .int .i64 2]) (results_row_tmp rfl _ _ (w.heap.size + 1) 48 zF (0, 0) _ rfl (blk_row_same _ _ _ _ _ _ HB1.out) Try.underlying48 rfl zF_size _ rfl) rfl ⟨by rw [FL.out, FC.out, zF_is], below_setRow H0.out (by omega) _⟩
set_option maxHeartbeats 1000000 in
theorem c_specFloorOf_g (B : Bld) (wf : WfB B) (h u : Int) (hu : 0 ≤ u ∧ u < 4294967296) (w : World) (e1 : okB B = true) (e2 : inB h 1 64 = true) (e3 : (u / 2 ^ nS B == 0) = true) :
    Calls Try.prog 24 #[.agg (bcells B), .int .i64 h, .int .u32 u] w fun e w' => e = .returned (.tuple #[.agg (f32s (flL B h u)), .int .i64 (flC B h u)]) ∧ Below w.heap.size w w' := by
  have HB0 : Hid (((w.alloc (.cells (bcells B) 30)).alloc (.cells (zF) 48)).heap[w.heap.size]? = some (.cells (bcells B) 30 (0, 0))) := hid ((blk_past _ _ _ (by simp)).trans (blk_at _ _ _ rfl))
  have HZ0 : Hid ((Try.prog.info? 30).map (·.size) = some (bcells B).size) := hid (size_blind B)
  have HB1 : Hid (((w.alloc (.cells (bcells B) 30)).alloc (.cells (zF) 48)).heap[w.heap.size + 1]? = some (.cells (zF) 48 (0, 0))) := hid (blk_at _ _ _ (by simp))
  have HZ1 : Hid ((Try.prog.info? 48).map (·.size) = some (zF).size) := hid (zF_size)
  have H0 : Hid (Below w.heap.size w ((w.alloc (.cells (bcells B) 30)).alloc (.cells (zF) 48))) := hid (((Below.refl _ _).alloc (Nat.le_refl _) _).alloc (by simp) _)
  have CK0 := fun b w hA => c_l02Ok B wf b 0 w hA
  rw [e1] at CK0
  have CK := hid CK0
  clear CK0
  have hB := OkB.of wf e1
  have CL0 := fun b w hA => c_l07Looked B b 0 w hA wf
  rw [nS_min hB] at CL0
  have CL := hid CL0
  clear CL0
  have CU0 := fun w => c_l02Up h w
  rw [e2] at CU0
  have CU := hid CU0
  clear CU0
  have hn := nS_le B
  have hw1 : IntKind.u32.wrap (nS B : Int) = (nS B : Int) := by simp [IntKind.wrap, IntKind.bits, IntKind.signed]; omega
  have hu1 := hu.1
  have hu2 := hu.2
  have FC : Hid (flC B h u = 0) := hid (by simp [flC, flR, codeOf, e1, e2, e3])
  have hh : 1 ≤ h ∧ h ≤ 64 := by simpa [inB] using e2
  have CO := hid (fun b w hA => c_l02Open B hB h hh.1 hh.2 b 0 w hA)
  have CH := hid (fun w => c_l07Hanging B hB h hh.1 hh.2 w)
  have FL : Hid (flL B h u = flK (flV B h u) (nS B)) := hid (if_pos FC.out)
  have FV : Hid (∀ k, flV B h u k = if u / 2 ^ k % 2 = 1 then hungW B h else openW B h) := hid (fun _ => rfl)
  have HU := hid hu
  generalize flV B h u = V at *
  generalize nS B = n at *
  generalize hungW B h = H at *
  generalize openW B h = W at *
  clear wf hu hB hh
  have HO := hid (blk_at ((w.alloc (.cells (bcells B) 30)).alloc (.cells (zF) 48)) (.cells zF 48) (w.heap.size + 1 + 1) (by simp))
  have HE0 := hid ((setRow_other (((w.alloc (.cells (bcells B) 30)).alloc (.cells (zF) 48)).alloc (.cells zF 48)) (w.heap.size + 1 + 1) w.heap.size zF (by omega)).trans ((blk_past ((w.alloc (.cells (bcells B) 30)).alloc (.cells (zF) 48)) _ _ (block_lt HB0.out)).trans HB0.out))
  have HE1 := hid ((setRow_other (((w.alloc (.cells (bcells B) 30)).alloc (.cells (zF) 48)).alloc (.cells zF 48)) (w.heap.size + 1 + 1) (w.heap.size + 1) zF (by omega)).trans ((blk_past ((w.alloc (.cells (bcells B) 30)).alloc (.cells (zF) 48)) _ _ (block_lt HB1.out)).trans HB1.out))
  have HEO := hid (blk_row_same (((w.alloc (.cells (bcells B) 30)).alloc (.cells (zF) 48)).alloc (.cells zF 48)) (w.heap.size + 1 + 1) zF zF _ _ HO.out)
  have H3 := hid (below_setRow (H0.out.alloc H0.out.size (.cells zF 48)) (g := w.heap.size + 1 + 1) (by omega) zF)
  generalize hws : ((((w.alloc (.cells (bcells B) 30)).alloc (.cells (zF) 48)).alloc (.cells zF 48)).setRow (w.heap.size + 1 + 1) zF) = ws at HE0 HE1 HEO H3
  have WS := hid hws
  clear hws
  go_enter Try.func24, Try.ntmps24
  go_wp2_with (first | (go_at_call 65; refine (CK.out _ _ (BldAt.of_block HB0.out)).mono ?_; rintro e wz ⟨rfl, rfl⟩) | (go_at_call 70; refine (CL.out _ _ (BldAt.of_block HB0.out)).mono ?_; rintro e wz ⟨rfl, rfl⟩) | (go_at_call 55; refine (CU.out _).mono ?_; rintro e wz ⟨rfl, rfl⟩) | (refine wpList_store_row rfl 48 _ _ rfl (w.heap.size + 1 + 1) zF rfl rfl 48 zF HO.out zF_size rfl zF_one ?_))
  rw [show (#[Value.float .f32 0, .float .f32 0, .float .f32 0, .float .f32 0, .float .f32 0, .float .f32 0, .float .f32 0, .float .f32 0, .float .f32 0, .float .f32 0, .float .f32 0, .float .f32 0, .float .f32 0, .float .f32 0, .float .f32 0, .float .f32 0, .float .f32 0, .float .f32 0, .float .f32 0, .float .f32 0, .float .f32 0, .float .f32 0, .float .f32 0, .float .f32 0] : Array Value) = zF from rfl, WS.out]
  go_loopw [10] (fun i wr => ∃ k : Nat, k ≤ n ∧ i = .int .i64 k ∧ wr.heap[w.heap.size + 1 + 1]? = some (.cells (f32s (flK V k)) 48 (0, 0)) ∧ Below (w.heap.size + 1 + 1) ws wr) (fun i _ => n - (intOf i).toNat)
  case atStart => exact ⟨0, by omega, rfl, by have := HEO.out; rw [zF_is] at this; exact this, Below.refl _ _⟩
  case round =>
    obtain ⟨k, hk, rfl, hbo, hbel⟩ := hrel
    have BO := hid hbo
    have BE := hid hbel
    clear hbo hbel
    have HJ0 := hid ((BE.out.block _ (by omega)).trans HE0.out)
    have HJ1 := hid ((BE.out.block _ (by omega)).trans HE1.out)
    have LZ := hid (Nat.le_of_lt (block_lt BO.out))
    by_cases hlt : k < n
    · have hk24 : k < 24 := by omega
      have u1 := HU.out.1
      have u2 := HU.out.2
      have hw2 : IntKind.u32.wrap (k : Int) = (k : Int) := by simp [IntKind.wrap, IntKind.bits, IntKind.signed]; omega
      have p1 : 0 ≤ u / 2 ^ k := Int.ediv_nonneg u1 (Int.pow_nonneg (by decide))
      have AN : (u / 2 ^ k).tmod 2 = u / 2 ^ k % 2 := Int.tmod_eq_emod_of_nonneg p1
      clear p1
      by_cases hb1 : u / 2 ^ k % 2 = 1
      · have eB : ((u / 2 ^ k).tmod 2 == 1) = true := by rw [AN, hb1]; rfl
        have VK : Hid (V k = H) := hid ((FV.out k).trans (if_pos hb1))
        clear AN hb1
        go_wp2_with fail
        refine (CO.out _ _ (BldAt.of_block HJ0.out)).mono ?_
        rintro e w4 ⟨rfl, h4⟩
        have K0 := hid ((h4.block _ (block_lt HJ0.out)).trans HJ0.out)
        have KO := hid ((h4.block _ (block_lt BO.out)).trans BO.out)
        have KB := hid (below_trans BE.out h4 LZ.out)
        clear h4
        have c1 : w4.cell? ⟨w.heap.size + 1 + 1, k, none⟩ = some (.float .f32 (fat (flK V k) k)) := (cell_of_row w4 _ k _ _ _ KO.out).trans (f32s_at (flK_len V k) hk24)
        have f1 := frozen_of_row w4 _ k _ _ KO.out
        have SO := hid (set_one (v := W) KO.out (show k < (flK V k).length by rw [flK_len]; exact hk24))
        have SB : Hid (Below (w.heap.size + 1 + 1) ws (w4.setCell ⟨w.heap.size + 1 + 1, k, none⟩ (.float .f32 W))) := hid (setCells_below KB.out (b := w.heap.size + 1 + 1) (Nat.le_refl _) [.float .f32 W] k)
        have S0 : Hid ((w4.setCell ⟨w.heap.size + 1 + 1, k, none⟩ (.float .f32 W)).heap[w.heap.size]? = some (.cells (bcells B) 30 (0, 0))) := hid ((setCells_other (b := w.heap.size + 1 + 1) (k := w.heap.size) (by omega) [.float .f32 W] k w4).trans K0.out)
        go_wp2_with (first | (refine wpList_load_row rfl 30 _ rfl (w.heap.size) rfl 30 (bcells B) (0, 0) _ S0.out Try.underlying30 rfl HZ0.out ?_) | fail)
        refine (CH.out _).mono ?_
        rintro e w6 ⟨rfl, h6⟩
        have UO := hid ((h6.block _ (block_lt SO.out)).trans SO.out)
        have UB := hid (below_trans SB.out h6 (Nat.le_of_lt (block_lt SO.out)))
        clear h6 c1 f1
        have c2 : w6.cell? ⟨w.heap.size + 1 + 1, k, none⟩ = some (.float .f32 (fat ((flK V k).set k W) k)) := (cell_of_row w6 _ k _ _ _ UO.out).trans (f32s_at (by rw [List.length_set, flK_len]) hk24)
        have f2 := frozen_of_row w6 _ k _ _ UO.out
        have XO := hid (set_one (v := H) UO.out (show k < ((flK V k).set k W).length by rw [List.length_set, flK_len]; exact hk24))
        have XB : Hid (Below (w.heap.size + 1 + 1) ws (w6.setCell ⟨w.heap.size + 1 + 1, k, none⟩ (.float .f32 H))) := hid (setCells_below UB.out (b := w.heap.size + 1 + 1) (Nat.le_refl _) [.float .f32 H] k)
        go_wp2_with fail
        go_roundw
        case rel => exact ⟨k + 1, by omega, by go_num, by rw [flK, VK.out]; exact (by have := XO.out; rwa [List.set_set] at this), XB.out⟩
        case measure => simp [intOf]; omega
      · have eB : ((u / 2 ^ k).tmod 2 == 1) = false := by rw [AN]; simpa using hb1
        have VK : Hid (V k = W) := hid ((FV.out k).trans (if_neg hb1))
        clear AN hb1
        go_wp2_with fail
        refine (CO.out _ _ (BldAt.of_block HJ0.out)).mono ?_
        rintro e w4 ⟨rfl, h4⟩
        have K0 := hid ((h4.block _ (block_lt HJ0.out)).trans HJ0.out)
        have KO := hid ((h4.block _ (block_lt BO.out)).trans BO.out)
        have KB := hid (below_trans BE.out h4 LZ.out)
        clear h4
        have c1 : w4.cell? ⟨w.heap.size + 1 + 1, k, none⟩ = some (.float .f32 (fat (flK V k) k)) := (cell_of_row w4 _ k _ _ _ KO.out).trans (f32s_at (flK_len V k) hk24)
        have f1 := frozen_of_row w4 _ k _ _ KO.out
        have SO := hid (set_one (v := W) KO.out (show k < (flK V k).length by rw [flK_len]; exact hk24))
        have SB : Hid (Below (w.heap.size + 1 + 1) ws (w4.setCell ⟨w.heap.size + 1 + 1, k, none⟩ (.float .f32 W))) := hid (setCells_below KB.out (b := w.heap.size + 1 + 1) (Nat.le_refl _) [.float .f32 W] k)
        go_wp2_with fail
        go_roundw
        case rel => exact ⟨k + 1, by omega, by go_num, by rw [flK, VK.out]; exact SO.out, SB.out⟩
        case measure => simp [intOf]; omega
    · obtain rfl : k = n := by omega
      have FS : Hid ((Try.prog.info? 48).map (·.size) = some (f32s (flK V k)).size) := hid (by rw [f32s_size, flK_len]; kernel_rfl)
      have FE : Hid (zF.size = (f32s (flK V k)).size) := hid (by rw [f32s_size, flK_len]; rfl)
      have BF := hid (H3.out.trans (BE.out.mono (by omega : w.heap.size ≤ w.heap.size + 1 + 1)))
      go_wp2_with (first | (refine wpList_load_row rfl 48 _ rfl (w.heap.size + 1 + 1) rfl 48 (f32s (flK V k)) (0, 0) _ BO.out Try.underlying48 rfl FS.out ?_) | (refine wpList_store_row rfl 48 _ _ rfl (w.heap.size + 1) (f32s (flK V k)) rfl rfl 48 zF HJ1.out FS.out FE.out (f32s_one _) ?_))
      refine bodyPost_ret (v := .tuple #[.agg (f32s (flK V k)), .int .i64 0]) (results_row_tmp rfl _ _ (w.heap.size + 1) 48 (f32s (flK V k)) (0, 0) _ rfl (blk_row_same _ _ _ _ _ _ HJ1.out) Try.underlying48 rfl FS.out _ rfl) rfl ⟨by rw [FL.out, FC.out], below_setRow BF.out (by omega) _⟩
theorem c_implFloorOf (B : Bld) (wf : WfB B) (h u : Int) (hu : 0 ≤ u ∧ u < 4294967296) (w : World) :
    Calls Try.prog 23 #[.agg (bcells B), .int .i64 h, .int .u32 u] w fun e w' => e = .returned (.tuple #[.agg (f32s (flL B h u)), .int .i64 (flC B h u)]) ∧ Below w.heap.size w w' := by
  cases e1 : inB h 1 64
  · exact c_implFloorOf_a B wf h u hu w e1 (fun hz => by have := (codeOf_zero hz).2; simp [flR, e1] at this)
  · by_cases hz : flC B h u = 0
    · exact c_implFloorOf_g B wf h u hu w e1 hz
    · exact c_implFloorOf_b B wf h u hu w e1 hz
theorem c_specFloorOf (B : Bld) (wf : WfB B) (h u : Int) (hu : 0 ≤ u ∧ u < 4294967296) (w : World) :
    Calls Try.prog 24 #[.agg (bcells B), .int .i64 h, .int .u32 u] w fun e w' => e = .returned (.tuple #[.agg (f32s (flL B h u)), .int .i64 (flC B h u)]) ∧ Below w.heap.size w w' := by
  cases e1 : okB B
  · exact c_specFloorOf_a B wf h u hu w e1
  · cases e2 : inB h 1 64
    · exact c_specFloorOf_b B wf h u hu w e1 e2
    · cases e3 : (u / 2 ^ nS B == 0)
      · exact c_specFloorOf_c B wf h u hu w e1 e2 e3
      · exact c_specFloorOf_g B wf h u hu w e1 e2 e3
end Go.Proofs.Ytboddpifepegcaa
