/- Walks of BrightestPlan. -/
import Derived.Test.YthnffhmefgfnkaaBest
import Derived.Test.YthnffhmefgfnkaaFloor
import Derived.Test.YthnffhmefgfnkaaHeld
namespace Go.Proofs.Ythnffhmefgfnkaa
set_option maxRecDepth 20000
open Go.RowKit

def xW (B : Bld) (hs ts : List Int) (f : Int) (k m : Nat) : Nat := windowW (tiltB B ((m : Int) - 64)) hs ts k f
/-- The best up to a tilt, and one more. -/
def bStep (o : Option (Nat × Nat)) (m v hi : Nat) : Option (Nat × Nat) :=
  match o with
  | none => if fLe v hi then some (m, v) else none
  | some (i, y) => if fLe v hi && fGt v y then some (m, v) else some (i, y)
theorem bestK_succ (x : Nat → Nat) (hi m : Nat) : bestK x hi (m + 1) = bStep (bestK x hi m) m (x m) hi := rfl
def brT : Option (Nat × Nat) → Int
  | none => 0
  | some (i, _) => (i : Int) - 64
def brV : Option (Nat × Nat) → Nat
  | none => 3212836864
  | some (_, y) => y
def brM : Option (Nat × Nat) → Nat
  | none => 0
  | some (_, y) => y
theorem bStep_spec {o : Option (Nat × Nat)} {m v hi : Nat} (h : fGt v 3212836864 = true) : bStep o m v hi = if fLe v hi && fGt v (brV o) then some (m, v) else o := by
  cases o with
  | none => simp [bStep, brV, h]
  | some q => rfl
theorem bStep_impl (o : Option (Nat × Nat)) (m v hi : Nat) : bStep o m v hi = if fLe v hi && (!o.isSome || fGt v (brM o)) then some (m, v) else o := by
  cases o with
  | none => simp [bStep]
  | some q => simp [bStep, brM]
def setO (P : List Int) (k : Nat) : Option (Nat × Nat) → List Int
  | none => P
  | some (i, _) => P.set k ((i : Int) - 64)
theorem setO_some (P : List Int) (k : Nat) (o : Option (Nat × Nat)) (m v : Nat) : (setO P k o).set k ((m : Int) - 64) = setO P k (some (m, v)) := by
  cases o with
  | none => rfl
  | some q => exact List.set_set ..
theorem setO_len (P : List Int) (k : Nat) (o : Option (Nat × Nat)) : (setO P k o).length = P.length := by cases o <;> simp [setO]
def brP (T : Nat → Int) : Nat → List Int
  | 0 => z24
  | k + 1 => (brP T k).set k (T k)
theorem brP_len (T : Nat → Int) : ∀ k, (brP T k).length = 24
  | 0 => rfl
  | k + 1 => by rw [brP, List.length_set, brP_len T k]
theorem iat_set (l : List Int) (j k : Nat) (v : Int) : iat (l.set j v) k = if j = k ∧ j < l.length then v else iat l k := by
  unfold iat
  rw [List.getD_eq_getElem?_getD, List.getD_eq_getElem?_getD, List.getElem?_set]
  by_cases h : j = k
  · subst h
    by_cases h2 : j < l.length
    · simp [h2]
    · simp [h2]
  · simp [h]
theorem brP_at (T : Nat → Int) : ∀ {n k : Nat}, n ≤ 24 → k < n → iat (brP T n) k = T k
  | 0, _, _, h => by omega
  | n + 1, k, hn, h => by
    rw [brP, iat_set, brP_len]
    by_cases e : n = k
    · subst e; rw [if_pos ⟨rfl, by omega⟩]
    · rw [if_neg (by omega)]; exact brP_at T (by omega) (by omega)
def bpSum (Y : Nat → Nat) : Nat → Nat
  | 0 => 0
  | k + 1 => fadd (bpSum Y k) (Y k)
def brO (B : Bld) (hs ts : List Int) (f : Int) (hi k : Nat) : Option (Nat × Nat) := bestK (xW B hs ts f k) hi 129
def bpR (f : Int) (hi : Nat) : Bool := inB f 0 255 && isPart hi
def bpA (B : Bld) (hs ts : List Int) (f : Int) (hi : Nat) : Int := codeOf (okB B && okS hs ts) (bpR f hi)
def bpAll (B : Bld) (hs ts : List Int) (f : Int) (hi : Nat) : Bool := (List.range 24).all fun k => (brO B hs ts f hi k).isSome
def bpC (B : Bld) (hs ts : List Int) (f : Int) (hi : Nat) : Int := if bpA B hs ts f hi = 0 then (if bpAll B hs ts f hi then 0 else 6) else bpA B hs ts f hi
def bpL (B : Bld) (hs ts : List Int) (f : Int) (hi : Nat) : List Int := if bpC B hs ts f hi = 0 then brP (fun k => brT (brO B hs ts f hi k)) 24 else z24
def bpS (B : Bld) (hs ts : List Int) (f : Int) (hi : Nat) : Nat := if bpC B hs ts f hi = 0 then bpSum (fun k => brV (brO B hs ts f hi k)) 24 else 0
theorem bpL_len (B : Bld) (hs ts : List Int) (f : Int) (hi : Nat) : (bpL B hs ts f hi).length = 24 := by
  unfold bpL; split
  · exact brP_len _ _
  · rfl
theorem bpC_bad {B : Bld} {hs ts : List Int} {f : Int} {hi : Nat} (h : ¬ bpA B hs ts f hi = 0) : bpC B hs ts f hi = bpA B hs ts f hi ∧ bpL B hs ts f hi = z24 ∧ bpS B hs ts f hi = 0 := by
  have e : bpC B hs ts f hi = bpA B hs ts f hi := if_neg h
  exact ⟨e, by unfold bpL; rw [e]; exact if_neg h, by unfold bpS; rw [e]; exact if_neg h⟩
theorem bpC_none {B : Bld} {hs ts : List Int} {f : Int} {hi k : Nat} (h : bpA B hs ts f hi = 0) (hk : k < 24) (hn : brO B hs ts f hi k = none) : bpC B hs ts f hi = 6 ∧ bpL B hs ts f hi = z24 ∧ bpS B hs ts f hi = 0 := by
  have e : bpC B hs ts f hi = 6 := by
    have : bpAll B hs ts f hi = false := by
      rw [Bool.eq_false_iff]; intro ha
      have := List.all_eq_true.1 ha k (List.mem_range.2 hk)
      rw [hn] at this; cases this
    rw [bpC, if_pos h, this]; rfl
  exact ⟨e, by unfold bpL; rw [e]; rfl, by unfold bpS; rw [e]; rfl⟩
theorem bpC_all {B : Bld} {hs ts : List Int} {f : Int} {hi : Nat} (h : bpA B hs ts f hi = 0) (ha : ∀ k, k < 24 → (brO B hs ts f hi k).isSome = true) : bpC B hs ts f hi = 0 ∧ bpL B hs ts f hi = brP (fun k => brT (brO B hs ts f hi k)) 24 ∧ bpS B hs ts f hi = bpSum (fun k => brV (brO B hs ts f hi k)) 24 := by
  have e : bpC B hs ts f hi = 0 := by
    have : bpAll B hs ts f hi = true := List.all_eq_true.2 fun k hk => ha k (List.mem_range.1 hk)
    rw [bpC, if_pos h, this]; rfl
  exact ⟨e, if_pos e, if_pos e⟩
theorem brO_range {B : Bld} {hs ts : List Int} {f : Int} {hi k : Nat} : -64 ≤ brT (brO B hs ts f hi k) ∧ brT (brO B hs ts f hi k) ≤ 64 := by
  cases h : brO B hs ts f hi k with
  | none => exact ⟨by decide, by decide⟩
  | some q => obtain ⟨i, y⟩ := q; have := (bestK_at h).1; simp only [brT]; omega
theorem lights_sum {xs : List Nat} {Y : Nat → Nat} {n : Nat} (hl : xs.length = n) (h : ∀ k, k < n → fat xs k = Y k) : leftOf xs = bpSum Y n := by
  have : ∀ k, k ≤ n → leftK xs k = bpSum Y k := fun k hk => by
    induction k with
    | zero => rfl
    | succ k ih => rw [leftK, bpSum, ih (by omega), h k (by omega)]
  rw [leftOf, hl]; exact this n (Nat.le_refl _)
theorem lightsK_at (B : Bld) (hs ts : List Int) (f : Int) (p : List Int) {k : Nat} (hk : k < 24) : fat (lightsK B hs ts f p 24) k = windowW (tiltB B (iat p k)) hs ts k f := by simp [lightsK, fat, hk]
theorem in0_plain {x : Nat} (h : In0 x WP) : x < 4294967296 ∧ isPlain x = true := by
  have h1 := h.ge
  have h2 := h.le
  have h3 : (magOf WP : Int) ≤ fx 1233125376 := by decide +kernel
  have h4 : fx 3380609024 ≤ 0 := by decide +kernel
  refine ⟨h.word, ?_⟩
  simp only [isPlain, Bool.and_eq_true]
  exact ⟨by rw [fGe_fin h.fin (by decide)]; exact decide_eq_true (by omega), by rw [fLe_fin h.fin (by decide)]; exact decide_eq_true (by omega)⟩
theorem step_load_row {P : Program} {ops : Array Oper} {o : Oper} {a : Act} {w : World} {K : Act → World → Prop} {Q : Exit → Act → World → Prop} {E : Prop} (hgd : o.guard = none) (ty : TypeId) (x : Operand) (ho : o.op = .load ty x)
    (g : Nat) (hx : a.eval x = .pointer (some ⟨g, 0, none⟩)) (t : TypeId) (cs : Array Value) (fr : Nat × Nat) (d : TypeDesc) (hg : w.heap[g]? = some (.cells cs t fr))
    (hu : P.underlying ty = some d) (hd : (match d with | .struct _ | .array _ _ => true | _ => false) = true) (hi : (P.info? ty).map (·.size) = some cs.size)
    (h : K (a.put o.dst (.agg cs)) w) : if Region.wanted o (yielded ops a.tmps) = true then Oper.wp P o a w K Q else E := by
  rw [if_pos (by simp [Region.wanted, hgd])]
  exact wp_load_row ty x ho g hx t cs fr d hg hu hd hi h
theorem step_store_row {P : Program} {ops : Array Oper} {o : Oper} {a : Act} {w : World} {K : Act → World → Prop} {Q : Exit → Act → World → Prop} {E : Prop} (hgd : o.guard = none) (ty : TypeId) (x y : Operand) (ho : o.op = .store ty x y)
    (g : Nat) (cells : Array Value) (hx : a.eval x = .pointer (some ⟨g, 0, none⟩)) (hy : a.eval y = .agg cells)
    (t : TypeId) (old : Array Value) (hg : w.heap[g]? = some (.cells old t (0, 0))) (hi : (P.info? ty).map (·.size) = some cells.size)
    (hold : old.size = cells.size) (h1 : cells.all (·.oneCell') = true)
    (h : K (a.put o.dst undef) (w.setRow g cells)) : if Region.wanted o (yielded ops a.tmps) = true then Oper.wp P o a w K Q else E := by
  rw [if_pos (by simp [Region.wanted, hgd])]
  exact wp_store_row ty x y ho g cells hx hy t old hg hi hold h1 h
theorem own_vl {w : World} {lo : Nat} {v : Value} {xs : List Nat} (h : w.ownsRow lo 23 1 v 24 (xs.map (Value.float .f32))) (hl : xs.length = 24) (hp : Plains xs) : ∃ g cap, v = .slice (some ⟨g, 0, none⟩) 24 cap ∧ VL w (some ⟨g, 0, none⟩) 24 xs := by
  rcases h.2 with e | ⟨g, cap, cur, e, _⟩
  · exfalso; have := e.2; simp at this
  · subst e
    refine ⟨g, cap, rfl, ⟨hl, by omega, fun k hk => (hp k (by omega)).1, fun _ => ⟨g, 0, rfl, fun k hk => ?_⟩⟩, hp, by omega⟩
    rw [Nat.zero_add, h.cellAt k (by omega)]
    have : k < xs.length := by omega
    simp [fat, this]
theorem sum_fin {Y : Nat → Nat} (h : ∀ k, k < 24 → Y k < 4294967296 ∧ isPlain (Y k) = true) (k : Nat) (hk : k ≤ 24) : isFin (bpSum Y k) = true := by
  have hf : ∀ j, j < 24 → fat ((List.range 24).map Y) j = Y j := fun j hj => by simp [fat, hj]
  have hp : Plains ((List.range 24).map Y) := fun j hj => by rw [hf j (by simpa using hj)]; exact h j (by simpa using hj)
  have e : ∀ k, k ≤ 24 → leftK ((List.range 24).map Y) k = bpSum Y k := fun k hk => by
    induction k with
    | zero => rfl
    | succ k ih => rw [leftK, bpSum, ih (by omega), hf k (by omega)]
  rw [← e k hk]
  exact (left_abs hp (by simp) k (by simpa using hk)).fin
theorem fin_bpS {B : Bld} (wf : WfB B) {hs ts : List Int} {f : Int} {hi : Nat} : isFin (bpS B hs ts f hi) = true := by
  unfold bpS
  split
  · next h =>
    have hA : bpA B hs ts f hi = 0 := by
      unfold bpC at h; split at h
      · next h2 => exact h2
      · exact h
    have hok := (codeOf_zero hA).1
    simp only [Bool.and_eq_true] at hok
    have hB := OkB.of wf hok.1
    refine sum_fin (fun k hk => ?_) 24 (Nat.le_refl _)
    show brV (brO B hs ts f hi k) < 4294967296 ∧ isPlain (brV (brO B hs ts f hi k)) = true
    cases ho : brO B hs ts f hi k with
    | none => exact ⟨by decide, by decide +kernel⟩
    | some q =>
      obtain ⟨i, y⟩ := q
      have hat := bestK_at ho
      show y < 4294967296 ∧ isPlain y = true
      rw [hat.2]
      exact in0_plain (show In0 (windowW (tiltB B ((i : Int) - 64)) hs ts k f) WP from window_in (hB.tilt (t := (i : Int) - 64) (by omega) (by omega)) hs ts f (okS_at hok.2 hk).2.1)
  · decide
theorem set_oneI {w : World} {b k : Nat} {v : Int} {F : List Int} {T : TypeId} (hb : w.heap[b]? = some (.cells (i16s F) T (0, 0))) (hk : k < F.length) : (w.setCell ⟨b, k, none⟩ (.int .i16 v)).heap[b]? = some (.cells (i16s (F.set k v)) T (0, 0)) := by
  have h := heap_setCells b T [.int .i16 v] k w _ hb (by simp [i16s]; omega)
  rw [World.setCells, World.setCells] at h
  rw [h]
  congr 2
  apply Array.toList_inj.1
  simp only [i16s, List.toList_toArray]
  rw [List.map_set, List.set_eq_take_append_cons_drop, if_pos (by simpa using hk)]
  simp
set_option maxHeartbeats 1000000 in
theorem c_implBrightestPlan (B : Bld) (wf : WfB B) (hs ts : List Int) (lh : hs.length = 24) (lt : ts.length = 24) (bh : I16 hs) (bt : I16 ts) (f : Int) (hi : Nat) (w : World) :
    Calls Try.prog 28 #[.agg (bcells B), .agg (scells hs ts), .int .i64 f, .float .f32 hi] w fun e w' => e = .returned (.tuple #[.agg (i16s (bpL B hs ts f hi)), .float .f32 (bpS B hs ts f hi), .int .i64 (bpC B hs ts f hi)]) ∧ Below w.heap.size w w' := by
  have HB0 : Hid ((((w.alloc (.cells (bcells B) 32)).alloc (.cells (scells hs ts) 45)).alloc (.cells (zP) 47)).heap[w.heap.size]? = some (.cells (bcells B) 32 (0, 0))) := hid ((blk_past _ _ _ (by simp; omega)).trans ((blk_past _ _ _ (by simp)).trans (blk_at _ _ _ rfl)))
  have HZ0 : Hid ((Try.prog.info? 32).map (·.size) = some (bcells B).size) := hid (size_blind B)
  have HB1 : Hid ((((w.alloc (.cells (bcells B) 32)).alloc (.cells (scells hs ts) 45)).alloc (.cells (zP) 47)).heap[w.heap.size + 1]? = some (.cells (scells hs ts) 45 (0, 0))) := hid ((blk_past _ _ _ (by simp)).trans (blk_at _ _ _ (by simp)))
  have HZ1 : Hid ((Try.prog.info? 45).map (·.size) = some (scells hs ts).size) := hid (by rw [scells_size lh lt]; kernel_rfl)
  have HB2 : Hid ((((w.alloc (.cells (bcells B) 32)).alloc (.cells (scells hs ts) 45)).alloc (.cells (zP) 47)).heap[w.heap.size + 1 + 1]? = some (.cells (zP) 47 (0, 0))) := hid (blk_at _ _ _ (by simp))
  have HZ2 : Hid ((Try.prog.info? 47).map (·.size) = some (zP).size) := hid (zP_size)
  have H0 : Hid (Below w.heap.size w (((w.alloc (.cells (bcells B) 32)).alloc (.cells (scells hs ts) 45)).alloc (.cells (zP) 47))) := hid ((((Below.refl _ _).alloc (Nat.le_refl _) _).alloc (by simp) _).alloc (by simp; omega) _)
  have CG0 := fun w => c_isFacing f w
  have CG1 := fun w => c_IsPart hi w
  cases e1 : inB f 0 255
  · skip
    have KR : bpR f hi = false := by simp [bpR, e1]
    rw [e1] at CG0
    have C1 := hid (fun w => show Calls Try.prog 76 #[.agg (bcells B), .agg (scells hs ts), .bool false] w fun e w' => e = .returned (.int .i64 (bpA B hs ts f hi)) ∧ Below w.heap.size w w' from by have := c_windowCode B wf hs ts lh lt bh bt (bpR f hi) w; rw [Bool.and_comm] at this; unfold bpA; rw [KR] at this ⊢; exact this)
    have CH0 := hid CG0
    clear CG0 CG1
    by_cases hz : bpA B hs ts f hi = 0
    · have := (codeOf_zero hz).2
      rw [KR] at this; cases this
    · have hz2 : Hid (¬ bpA B hs ts f hi = 0) := hid hz
      generalize hcv : bpA B hs ts f hi = cv at *
      have CV := hid hcv
      have hne : (cv != 0) = true := by rw [bne_iff_ne]; exact hz
      clear hcv hz
      go_enter Try.func28, Try.ntmps28
      go_wp2_with fail
      refine wp_region_below (by kernel_rfl) (by kernel_rfl) ?_
      repeat (first | (refine wpQuiet_load_row rfl 32 _ rfl (w.heap.size) rfl 32 (bcells B) (0, 0) _ (fun wx hwx => (hwx.out.block _ (block_lt HB0.out)).trans HB0.out) Try.underlying32 rfl HZ0.out ?_) | (refine wpQuiet_load_row rfl 45 _ rfl (w.heap.size + 1) rfl 45 (scells hs ts) (0, 0) _ (fun wx hwx => (hwx.out.block _ (block_lt HB1.out)).trans HB1.out) Try.underlying45 rfl HZ1.out ?_) | (refine wpQuiet_load_row rfl 47 _ rfl (w.heap.size + 1 + 1) rfl 47 (zP) (0, 0) _ (fun wx hwx => (hwx.out.block _ (block_lt HB2.out)).trans HB2.out) Try.underlying47 rfl HZ2.out ?_) | (refine wpQuiet_step (fun K hK => ?_); go_simp; first | (refine hK _ ?_; clear hK K) | (refine ⟨_, fun _ _ => rfl, hK _ ?_⟩; clear hK K) | (apply Exists.intro; refine ⟨fun wx hwx => ?_, hK _ ?_⟩; (first | (with_reducible exact quiet_below_same hwx (CH0.out _)) | (with_reducible exact quiet_below hwx (C1.out _))); clear hK K)))
      refine wpQuiet_nil ?_
      intro w2 h2
      replace h2 := h2.out
      have HC0 := hid ((h2.block _ (block_lt HB0.out)).trans HB0.out)
      have HC1 := hid ((h2.block _ (block_lt HB1.out)).trans HB1.out)
      have HC2 := hid ((h2.block _ (block_lt HB2.out)).trans HB2.out)
      have H2 := hid (below_trans H0.out h2 H0.out.size)
      clear h2
      go_wp2_with (refine wpList_store_row rfl 47 _ _ rfl (w.heap.size + 1 + 1) zP rfl rfl 47 zP HC2.out HZ2.out rfl zP_one ?_)
      refine bodyPost_ret (v := .tuple #[.agg zP, .float .f32 0, .int .i64 cv]) (results_row_tmp2 rfl _ _ (w.heap.size + 1 + 1) 47 zP (0, 0) _ rfl (blk_row_same _ _ _ _ _ _ HC2.out) Try.underlying47 rfl HZ2.out _ _ rfl rfl) rfl ⟨by have Q := bpC_bad (B := B) (hs := hs) (ts := ts) (f := f) (hi := hi) (by rw [CV.out]; exact hz2.out); rw [Q.1, Q.2.1, Q.2.2, CV.out, zP_is], below_setRow H2.out (by omega) _⟩
  · skip
    cases e2 : isPart hi
    · skip
      have KR : bpR f hi = false := by simp [bpR, e1, e2]
      rw [e1] at CG0
      rw [e2] at CG1
      have C1 := hid (fun w => show Calls Try.prog 76 #[.agg (bcells B), .agg (scells hs ts), .bool false] w fun e w' => e = .returned (.int .i64 (bpA B hs ts f hi)) ∧ Below w.heap.size w w' from by have := c_windowCode B wf hs ts lh lt bh bt (bpR f hi) w; rw [Bool.and_comm] at this; unfold bpA; rw [KR] at this ⊢; exact this)
      have CH0 := hid CG0
      have CH1 := hid CG1
      clear CG0 CG1
      by_cases hz : bpA B hs ts f hi = 0
      · have := (codeOf_zero hz).2
        rw [KR] at this; cases this
      · have hz2 : Hid (¬ bpA B hs ts f hi = 0) := hid hz
        generalize hcv : bpA B hs ts f hi = cv at *
        have CV := hid hcv
        have hne : (cv != 0) = true := by rw [bne_iff_ne]; exact hz
        clear hcv hz
        go_enter Try.func28, Try.ntmps28
        go_wp2_with fail
        refine wp_region_below (by kernel_rfl) (by kernel_rfl) ?_
        repeat (first | (refine wpQuiet_load_row rfl 32 _ rfl (w.heap.size) rfl 32 (bcells B) (0, 0) _ (fun wx hwx => (hwx.out.block _ (block_lt HB0.out)).trans HB0.out) Try.underlying32 rfl HZ0.out ?_) | (refine wpQuiet_load_row rfl 45 _ rfl (w.heap.size + 1) rfl 45 (scells hs ts) (0, 0) _ (fun wx hwx => (hwx.out.block _ (block_lt HB1.out)).trans HB1.out) Try.underlying45 rfl HZ1.out ?_) | (refine wpQuiet_load_row rfl 47 _ rfl (w.heap.size + 1 + 1) rfl 47 (zP) (0, 0) _ (fun wx hwx => (hwx.out.block _ (block_lt HB2.out)).trans HB2.out) Try.underlying47 rfl HZ2.out ?_) | (refine wpQuiet_step (fun K hK => ?_); go_simp; first | (refine hK _ ?_; clear hK K) | (refine ⟨_, fun _ _ => rfl, hK _ ?_⟩; clear hK K) | (apply Exists.intro; refine ⟨fun wx hwx => ?_, hK _ ?_⟩; (first | (with_reducible exact quiet_below_same hwx (CH0.out _)) | (with_reducible exact quiet_below_same hwx (CH1.out _)) | (with_reducible exact quiet_below hwx (C1.out _))); clear hK K)))
        refine wpQuiet_nil ?_
        intro w2 h2
        replace h2 := h2.out
        have HC0 := hid ((h2.block _ (block_lt HB0.out)).trans HB0.out)
        have HC1 := hid ((h2.block _ (block_lt HB1.out)).trans HB1.out)
        have HC2 := hid ((h2.block _ (block_lt HB2.out)).trans HB2.out)
        have H2 := hid (below_trans H0.out h2 H0.out.size)
        clear h2
        go_wp2_with (refine wpList_store_row rfl 47 _ _ rfl (w.heap.size + 1 + 1) zP rfl rfl 47 zP HC2.out HZ2.out rfl zP_one ?_)
        refine bodyPost_ret (v := .tuple #[.agg zP, .float .f32 0, .int .i64 cv]) (results_row_tmp2 rfl _ _ (w.heap.size + 1 + 1) 47 zP (0, 0) _ rfl (blk_row_same _ _ _ _ _ _ HC2.out) Try.underlying47 rfl HZ2.out _ _ rfl rfl) rfl ⟨by have Q := bpC_bad (B := B) (hs := hs) (ts := ts) (f := f) (hi := hi) (by rw [CV.out]; exact hz2.out); rw [Q.1, Q.2.1, Q.2.2, CV.out, zP_is], below_setRow H2.out (by omega) _⟩
    · skip
      have KR : bpR f hi = true := by simp [bpR, e1, e2]
      rw [e1] at CG0
      rw [e2] at CG1
      have C1 := hid (fun w => show Calls Try.prog 76 #[.agg (bcells B), .agg (scells hs ts), .bool true] w fun e w' => e = .returned (.int .i64 (bpA B hs ts f hi)) ∧ Below w.heap.size w w' from by have := c_windowCode B wf hs ts lh lt bh bt (bpR f hi) w; rw [Bool.and_comm] at this; unfold bpA; rw [KR] at this ⊢; exact this)
      have CH0 := hid CG0
      have CH1 := hid CG1
      clear CG0 CG1
      by_cases hz : bpA B hs ts f hi = 0
      · obtain ⟨hok, -⟩ := codeOf_zero hz
        have hB := OkB.of wf (by simp only [Bool.and_eq_true] at hok; exact hok.1)
        have hS2 : okS hs ts = true := by simp only [Bool.and_eq_true] at hok; exact hok.2
        have hF : 0 ≤ f ∧ f ≤ 255 := by simpa [inB] using e1
        have CT := hid (fun (t : Int) (ht : -64 ≤ t ∧ t ≤ 64) w => c_tilted B t ht w)
        have CW := hid (fun (k : Nat) (hk : k < 24) (t : Int) (ht : -64 ≤ t ∧ t ≤ 64) b o w hS => c_passWindow (tiltB B t) (hB.tilt ht.1 ht.2) b o k hs ts f w hS hk ⟨(okS_at hS2 hk).1, (okS_at hS2 hk).2.1⟩ (okS_at hS2 hk).2.2 hF)
        have CLI := hid (fun (d b : Nat) (p : List Int) w hP hS hp => c_lights B hB d b 0 hs ts p f w hP hS hS2 hp hF)
        have WIN : Hid (∀ k m : Nat, k < 24 → m < 129 → In0 (xW B hs ts f k m) WP) := hid (fun k m hk hm => show In0 (windowW (tiltB B ((m : Int) - 64)) hs ts k f) WP from window_in (hB.tilt (t := (m : Int) - 64) (by omega) (by omega)) hs ts f (okS_at hS2 hk).2.1)
        have LH := hid lh
        have LT := hid lt
        clear wf lh lt bh bt hok hB hS2 hF
        have hz2 : Hid (bpA B hs ts f hi = 0) := hid hz
        rw [hz] at C1
        clear hz
        go_enter Try.func28, Try.ntmps28
        go_wp2_with fail
        refine wp_region_below (by kernel_rfl) (by kernel_rfl) ?_
        repeat (first | (refine wpQuiet_load_row rfl 32 _ rfl (w.heap.size) rfl 32 (bcells B) (0, 0) _ (fun wx hwx => (hwx.out.block _ (block_lt HB0.out)).trans HB0.out) Try.underlying32 rfl HZ0.out ?_) | (refine wpQuiet_load_row rfl 45 _ rfl (w.heap.size + 1) rfl 45 (scells hs ts) (0, 0) _ (fun wx hwx => (hwx.out.block _ (block_lt HB1.out)).trans HB1.out) Try.underlying45 rfl HZ1.out ?_) | (refine wpQuiet_load_row rfl 47 _ rfl (w.heap.size + 1 + 1) rfl 47 (zP) (0, 0) _ (fun wx hwx => (hwx.out.block _ (block_lt HB2.out)).trans HB2.out) Try.underlying47 rfl HZ2.out ?_) | (refine wpQuiet_step (fun K hK => ?_); go_simp; first | (refine hK _ ?_; clear hK K) | (refine ⟨_, fun _ _ => rfl, hK _ ?_⟩; clear hK K) | (apply Exists.intro; refine ⟨fun wx hwx => ?_, hK _ ?_⟩; (first | (with_reducible exact quiet_below_same hwx (CH0.out _)) | (with_reducible exact quiet_below_same hwx (CH1.out _)) | (with_reducible exact quiet_below hwx (C1.out _))); clear hK K)))
        refine wpQuiet_nil ?_
        intro w2 h2
        replace h2 := h2.out
        have HC0 := hid ((h2.block _ (block_lt HB0.out)).trans HB0.out)
        have HC1 := hid ((h2.block _ (block_lt HB1.out)).trans HB1.out)
        have HC2 := hid ((h2.block _ (block_lt HB2.out)).trans HB2.out)
        have H2 := hid (below_trans H0.out h2 H0.out.size)
        clear h2
        have HO := hid (heap_alloc_new w2 (.cells zP 47))
        have hlt0 := block_lt HC0.out
        have hlt1 := block_lt HC1.out
        have hlt2 := block_lt HC2.out
        have HE0 := hid ((setRow_other (w2.alloc (.cells zP 47)) w2.heap.size w.heap.size zP (by omega)).trans ((blk_past _ _ _ hlt0).trans HC0.out))
        have HE1 := hid ((setRow_other (w2.alloc (.cells zP 47)) w2.heap.size (w.heap.size + 1) zP (by omega)).trans ((blk_past _ _ _ hlt1).trans HC1.out))
        have HE2 := hid ((setRow_other (w2.alloc (.cells zP 47)) w2.heap.size (w.heap.size + 1 + 1) zP (by omega)).trans ((blk_past _ _ _ hlt2).trans HC2.out))
        have HEO := hid (blk_row_same _ _ zP zP _ _ HO.out)
        have HS := H2.out.size
        have H3 := hid (below_setRow (H2.out.alloc HS (.cells zP 47)) (g := w2.heap.size) HS zP)
        have Z0 := hid hlt0
        have Z1 := hid hlt1
        have Z2 := hid hlt2
        have ZS := hid HS
        clear hlt0 hlt1 hlt2 HS
        generalize hws : ((w2.alloc (.cells zP 47)).setRow w2.heap.size zP) = ws at HE0 HE1 HE2 HEO H3
        have WSE := hid hws
        clear hws
        go_wp2_with (refine wpList_store_row rfl 47 _ _ rfl (w2.heap.size) zP rfl rfl 47 zP HO.out HZ2.out rfl zP_one ?_)
        rw [show (#[Value.int .i16 0, .int .i16 0, .int .i16 0, .int .i16 0, .int .i16 0, .int .i16 0, .int .i16 0, .int .i16 0, .int .i16 0, .int .i16 0, .int .i16 0, .int .i16 0, .int .i16 0, .int .i16 0, .int .i16 0, .int .i16 0, .int .i16 0, .int .i16 0, .int .i16 0, .int .i16 0, .int .i16 0, .int .i16 0, .int .i16 0, .int .i16 0] : Array Value) = zP from rfl, WSE.out]
        obtain ⟨O, hO⟩ : ∃ O : Nat → Nat → Option (Nat × Nat), ∀ k m, O k m = bestK (xW B hs ts f k) hi m := ⟨_, fun _ _ => rfl⟩
        have OO := hid hO
        have BR : Hid (∀ k, brO B hs ts f hi k = O k 129) := hid (fun k => (hO k 129).symm)
        have O0 : Hid (∀ k, O k 0 = none) := hid (fun k => hO k 0)
        have OS : Hid (∀ k m, O k (m + 1) = bStep (O k m) m (xW B hs ts f k m) hi) := hid (fun k m => by rw [hO, hO]; rfl)
        have OR : Hid (∀ k, -64 ≤ brT (O k 129) ∧ brT (O k 129) ≤ 64) := hid (fun k => by rw [hO]; exact brO_range)
        clear hO
        go_loopw [33] (fun i wr => ∃ k : Nat, k ≤ 24 ∧ i = .int .i64 k ∧ (∀ j, j < k → (O j 129).isSome = true) ∧ wr.heap[w2.heap.size]? = some (.cells (i16s (brP (fun k => brT (O k 129)) k)) 47 (0, 0)) ∧ Below w2.heap.size ws wr) (fun i _ => 24 - (intOf i).toNat)
        case atStart => exact ⟨0, by omega, rfl, fun j hj => by omega, by have := HEO.out; rw [zP_is] at this; exact this, Below.refl _ _⟩
        case round =>
          obtain ⟨k, hk, rfl, hall, hbo, hbel⟩ := hrel
          have AL := hid hall
          have BO := hid hbo
          have BE := hid hbel
          clear hall hbo hbel
          by_cases hlt : k < 24
          · have hki : (k : Int) < 24 := by omega
            have hkd : decide ((k : Int) < 24) = true := by simpa using hki
            go_wp2_with fail
            go_loopw [14, 15, 16, 17] (fun bv mv fv tv wr => ∃ (m : Nat) (t : Int) (y : Nat) (u : Bool), m ≤ 129 ∧ tv = .int .i64 ((m : Int) - 64) ∧ bv = .int .i64 t ∧ mv = .float .f32 y ∧ fv = .bool u ∧ Hid (t = brT (O k m) ∧ y = brM (O k m) ∧ u = (O k m).isSome) ∧ wr.heap[w2.heap.size]? = some (.cells (i16s (brP (fun k => brT (O k 129)) k)) 47 (0, 0)) ∧ Below w2.heap.size ws wr) (fun _ _ _ tv _ => (65 - intOf tv).toNat)
            case atStart => exact ⟨0, 0, 0, false, by omega, by go_num, rfl, rfl, rfl, hid (by rw [O0.out]; exact ⟨rfl, rfl, rfl⟩), BO.out, BE.out⟩
            case round =>
              obtain ⟨m, t, y, u, hm, rfl, rfl, rfl, rfl, hq, hbo, hbel⟩ := hrel
              have Q := hid hq.out
              have BO2 := hid hbo
              have BE2 := hid hbel
              have LZ := hid (Nat.le_of_lt (block_lt hbo))
              clear hq hbo hbel
              by_cases hlm : m < 129
              · have HJ0 := hid ((BE2.out.block _ Z0.out).trans HE0.out)
                have HJ1 := hid ((BE2.out.block _ Z1.out).trans HE1.out)
                have C1 := hid (fun w => CT.out ((m : Int) - 64) (by omega) w)
                have C2 := hid (fun b w hS => CW.out k hlt ((m : Int) - 64) (by omega) b 0 w hS)
                have S1 := hid (SunAt.of_block LH.out LT.out HJ1.out)
                have OSK := hid (OS.out k m)
                have XW : Hid (xW B hs ts f k m = windowW (tiltB B ((m : Int) - 64)) hs ts k f) := hid rfl
                rw [XW.out] at OSK
                generalize windowW (tiltB B ((m : Int) - 64)) hs ts k f = v at *
                have tb : (m : Int) - 64 ≤ 64 := by omega
                cases e1 : fLe v hi
                · have a1 : (FloatKind.f32.format.order v hi == some .lt || FloatKind.f32.format.order v hi == some .eq) = false := e1
                  have N : Hid (O k (m + 1) = O k m) := hid (by rw [OSK.out, bStep_impl, e1]; rfl)
                  clear e1
                  go_wp2_with (first | (refine wpList_load_row rfl 32 _ rfl (w.heap.size) rfl 32 (bcells B) (0, 0) _ HJ0.out Try.underlying32 rfl HZ0.out ?_) | (go_at_call 77; refine (C1.out _).mono ?_; rintro e w4 ⟨rfl, h4⟩; have S2 := hid (S1.out.below h4); have D4 := hid h4; clear h4) | (go_at_call 78; refine (C2.out _ _ S2.out).mono ?_; rintro e w5 ⟨rfl, h5⟩; have D5 := hid (below_trans D4.out h5 D4.out.size); clear h5; have WO := hid ((D5.out.block _ (block_lt BO2.out)).trans BO2.out); have WB := hid (below_trans BE2.out D5.out LZ.out)))
                  exact ⟨⟨m + 1, t, y, u, by omega, by go_num, rfl, rfl, rfl, hid (by rw [N.out]; exact Q.out), WO.out, WB.out⟩, by simp [intOf]; omega⟩
                · have a1 : (FloatKind.f32.format.order v hi == some .lt || FloatKind.f32.format.order v hi == some .eq) = true := e1
                  cases u
                  · have N : Hid (O k (m + 1) = some (m, v)) := hid (by rw [OSK.out, bStep_impl, e1, ← Q.out.2.2]; rfl)
                    clear e1
                    go_wp2_with (first | (refine wpList_load_row rfl 32 _ rfl (w.heap.size) rfl 32 (bcells B) (0, 0) _ HJ0.out Try.underlying32 rfl HZ0.out ?_) | (go_at_call 77; refine (C1.out _).mono ?_; rintro e w4 ⟨rfl, h4⟩; have S2 := hid (S1.out.below h4); have D4 := hid h4; clear h4) | (go_at_call 78; refine (C2.out _ _ S2.out).mono ?_; rintro e w5 ⟨rfl, h5⟩; have D5 := hid (below_trans D4.out h5 D4.out.size); clear h5; have WO := hid ((D5.out.block _ (block_lt BO2.out)).trans BO2.out); have WB := hid (below_trans BE2.out D5.out LZ.out)))
                    exact ⟨⟨m + 1, (m : Int) - 64, v, true, by omega, by go_num, rfl, rfl, rfl, hid (by rw [N.out]; exact ⟨rfl, rfl, rfl⟩), WO.out, WB.out⟩, by simp [intOf]; omega⟩
                  · cases e2 : fGt v y
                    · have a2 : (FloatKind.f32.format.order v y == some .gt) = false := e2
                      have N : Hid (O k (m + 1) = O k m) := hid (by rw [OSK.out, bStep_impl, e1, ← Q.out.2.2, ← Q.out.2.1, e2]; rfl)
                      clear e1 e2
                      go_wp2_with (first | (refine wpList_load_row rfl 32 _ rfl (w.heap.size) rfl 32 (bcells B) (0, 0) _ HJ0.out Try.underlying32 rfl HZ0.out ?_) | (go_at_call 77; refine (C1.out _).mono ?_; rintro e w4 ⟨rfl, h4⟩; have S2 := hid (S1.out.below h4); have D4 := hid h4; clear h4) | (go_at_call 78; refine (C2.out _ _ S2.out).mono ?_; rintro e w5 ⟨rfl, h5⟩; have D5 := hid (below_trans D4.out h5 D4.out.size); clear h5; have WO := hid ((D5.out.block _ (block_lt BO2.out)).trans BO2.out); have WB := hid (below_trans BE2.out D5.out LZ.out)))
                      exact ⟨⟨m + 1, t, y, true, by omega, by go_num, rfl, rfl, rfl, hid (by rw [N.out]; exact Q.out), WO.out, WB.out⟩, by simp [intOf]; omega⟩
                    · have a2 : (FloatKind.f32.format.order v y == some .gt) = true := e2
                      have N : Hid (O k (m + 1) = some (m, v)) := hid (by rw [OSK.out, bStep_impl, e1, ← Q.out.2.2, ← Q.out.2.1, e2]; rfl)
                      clear e1 e2
                      go_wp2_with (first | (refine wpList_load_row rfl 32 _ rfl (w.heap.size) rfl 32 (bcells B) (0, 0) _ HJ0.out Try.underlying32 rfl HZ0.out ?_) | (go_at_call 77; refine (C1.out _).mono ?_; rintro e w4 ⟨rfl, h4⟩; have S2 := hid (S1.out.below h4); have D4 := hid h4; clear h4) | (go_at_call 78; refine (C2.out _ _ S2.out).mono ?_; rintro e w5 ⟨rfl, h5⟩; have D5 := hid (below_trans D4.out h5 D4.out.size); clear h5; have WO := hid ((D5.out.block _ (block_lt BO2.out)).trans BO2.out); have WB := hid (below_trans BE2.out D5.out LZ.out)))
                      exact ⟨⟨m + 1, (m : Int) - 64, v, true, by omega, by go_num, rfl, rfl, rfl, hid (by rw [N.out]; exact ⟨rfl, rfl, rfl⟩), WO.out, WB.out⟩, by simp [intOf]; omega⟩
              · obtain rfl : m = 129 := by omega
                have HJ2 := hid ((BE2.out.block _ Z2.out).trans HE2.out)
                cases u
                · have NN : Hid (brO B hs ts f hi k = none) := hid (by rw [BR.out]; have := Q.out.2.2; cases h : O k 129 with | none => rfl | some q => rw [h] at this; cases this)
                  have R3 := hid (bpC_none hz2.out hlt NN.out)
                  have BF := hid (H3.out.trans (BE2.out.mono ZS.out))
                  go_wp2_with (refine wpList_store_row rfl 47 _ _ rfl (w.heap.size + 1 + 1) zP rfl rfl 47 zP HJ2.out HZ2.out rfl zP_one ?_)
                  refine bodyPost_ret (v := .tuple #[.agg zP, .float .f32 0, .int .i64 6]) (results_row_tmp2 rfl _ _ (w.heap.size + 1 + 1) 47 zP (0, 0) _ rfl (blk_row_same _ _ _ _ _ _ HJ2.out) Try.underlying47 rfl HZ2.out _ _ rfl rfl) rfl ⟨by rw [R3.out.1, R3.out.2.1, R3.out.2.2, zP_is], below_setRow BF.out (by omega) _⟩
                · have tr := OR.out k
                  have TE : Hid (t = brT (O k 129)) := hid Q.out.1
                  rw [← TE.out] at tr
                  have c1 : wr.heap[w2.heap.size]? = some (.cells (i16s (brP (fun k => brT (O k 129)) k)) 47 (0, 0)) := BO2.out
                  have c2 := (cell_of_row _ _ k _ _ _ BO2.out).trans (i16s_at (brP_len _ _) hlt)
                  have f1 := frozen_of_row _ _ k _ _ BO2.out
                  have SO := hid (set_oneI (v := t) BO2.out (show k < (brP (fun k => brT (O k 129)) k).length by rw [brP_len]; exact hlt))
                  have SB : Hid (Below w2.heap.size ws (wr.setCell ⟨w2.heap.size, k, none⟩ (.int .i16 t))) := hid (setCells_below BE2.out (b := w2.heap.size) (Nat.le_refl _) [.int .i16 t] k)
                  go_wp2_with fail
                  exact ⟨⟨k + 1, by omega, by go_num, fun j hj => (Nat.lt_or_ge j k).elim (fun h => AL.out j h) (fun h => (show j = k by omega) ▸ Q.out.2.2.symm), by rw [brP, ← TE.out]; exact SO.out, SB.out⟩, by simp [intOf]; omega⟩
          · obtain rfl : k = 24 := by omega
            have R3 := hid (bpC_all hz2.out (fun k hk => by rw [BR.out]; exact AL.out k hk))
            have HP : Hid (∀ k, k < 24 → -64 ≤ iat (brP (fun k => brT (O k 129)) 24) k ∧ iat (brP (fun k => brT (O k 129)) 24) k ≤ 64) := hid (fun k hk => by rw [brP_at _ (Nat.le_refl _) hk]; exact OR.out k)
            have LF : Hid (leftOf (lightsK B hs ts f (brP (fun k => brT (O k 129)) 24) 24) = bpSum (fun k => brV (brO B hs ts f hi k)) 24) := hid (by
              refine lights_sum (by rw [lightsK_len]) fun k hk => ?_
              have hs := AL.out k hk
              cases ho : O k 129 with
              | none => rw [ho] at hs; cases hs
              | some q =>
                obtain ⟨i, y⟩ := q
                have hat := bestK_at ((OO.out k 129).symm.trans ho)
                rw [BR.out, ho, lightsK_at _ _ _ _ _ hk, brP_at _ (Nat.le_refl _) hk, ho]
                exact hat.2.symm)
            have LV : Hid (Plains (lightsK B hs ts f (brP (fun k => brT (O k 129)) 24) 24)) := hid (fun k hk => by
              rw [lightsK_len] at hk
              have hs := AL.out k hk
              cases ho : O k 129 with
              | none => rw [ho] at hs; cases hs
              | some q =>
                obtain ⟨i, y⟩ := q
                have hat := bestK_at ((OO.out k 129).symm.trans ho)
                rw [lightsK_at _ _ _ _ _ hk, brP_at _ (Nat.le_refl _) hk, ho]
                exact in0_plain (WIN.out k i hk hat.1))
            have HJ0 := hid ((BE.out.block _ Z0.out).trans HE0.out)
            have HJ1 := hid ((BE.out.block _ Z1.out).trans HE1.out)
            have HJ2 := hid ((BE.out.block _ Z2.out).trans HE2.out)
            have PO := hid (PlnAt.of_block (brP_len _ _) BO.out)
            have S1 := hid (SunAt.of_block LH.out LT.out HJ1.out)
            have BF := hid (H3.out.trans (BE.out.mono ZS.out))
            have LL : Hid ((lightsK B hs ts f (brP (fun k => brT (O k 129)) 24) 24).length = 24) := hid (lightsK_len _ _ _ _ _ _)
            have PL : Hid ((brP (fun k => brT (O k 129)) 24).length = 24) := hid (brP_len _ _)
            have CLQ := hid (fun wx hP hS => CLI.out w2.heap.size (w.heap.size + 1) (brP (fun k => brT (O k 129)) 24) wx hP hS HP.out)
            have PE : Hid (brP (fun k => brT (O k 129)) 24 = brP (fun k => brT (brO B hs ts f hi k)) 24) := hid (by rw [show (fun k => brT (brO B hs ts f hi k)) = fun k => brT (O k 129) from funext fun k => by rw [BR.out]])
            have PS : Hid ((Try.prog.info? 47).map (·.size) = some (i16s (brP (fun k => brT (O k 129)) 24)).size) := hid (by rw [i16s_size, PL.out]; kernel_rfl)
            have PZ : Hid (zP.size = (i16s (brP (fun k => brT (O k 129)) 24)).size) := hid (by rw [i16s_size, PL.out]; rfl)
            generalize lightsK B hs ts f (brP (fun k => brT (O k 129)) 24) 24 = LI at *
            generalize brP (fun k => brT (O k 129)) 24 = PP at *
            go_wp2_with fail
            refine wp_region_held (S := fun wx => wx.heap[w2.heap.size]? = some (.cells (i16s PP) 47 (0, 0)) ∧ wx.heap[w.heap.size]? = some (.cells (bcells B) 32 (0, 0))) (by kernel_rfl) ?_
            refine wpAnyH_take (i := 0) (fuel := 7) rfl (by kernel_rfl) (by kernel_rfl) (by kernel_rfl) (fun c a w h => h) (yieldsIf_row rfl _ _ rfl w2.heap.size rfl 47 (i16s PP) (0, 0) _ (fun wx h => h.1) Try.underlying47 rfl PS.out) ⟨BO.out, HJ0.out⟩ ?_
            refine wpAnyH_take (i := 1) (fuel := 6) rfl (by kernel_rfl) (by kernel_rfl) (by kernel_rfl) (fun c a w h => h) (yieldsIf_row rfl _ _ rfl w.heap.size rfl 32 (bcells B) (0, 0) _ (fun wx h => h.2) Try.underlying32 rfl HZ0.out) ⟨BO.out, HJ0.out⟩ ?_
            refine wpAnyH_take (i := 2) (fuel := 5) rfl (by kernel_rfl) (by kernel_rfl) (by kernel_rfl) (fun c a w h => h) (yieldsIf_move rfl _ rfl) ⟨BO.out, HJ0.out⟩ ?_
            refine wpAnyH_all (rs := [3]) (fuel := 4) (by kernel_rfl) (by simp) ?_
            intro i hi
            obtain rfl : i = 3 := by simpa using hi
            refine wpOp_plain rfl rfl ?_
            go_simp
            go_at_call 80
            refine (CLQ.out wr.drew (fun k hk => PO.out k hk) ⟨fun k hk => S1.out.h k hk, fun k hk => S1.out.t k hk⟩).mono ?_
            rintro e w3 ⟨⟨v, rfl, hv⟩, h3⟩
            have D3 : Hid (Below wr.heap.size wr w3) := hid ⟨h3.os, h3.tape, h3.output, h3.size, h3.block⟩
            obtain ⟨g, cap, hvg, hvl⟩ := own_vl hv LL.out LV.out
            subst hvg
            have V3 := hid hvl
            clear h3 hv hvl
            have K0 := hid ((D3.out.block _ (block_lt HJ0.out)).trans HJ0.out)
            have K2 := hid ((D3.out.block _ (block_lt HJ2.out)).trans HJ2.out)
            have KO := hid ((D3.out.block _ (block_lt BO.out)).trans BO.out)
            have Z3 := hid (block_lt HJ0.out)
            have ZL : w.heap.size + 1 + 1 < w2.heap.size := Z2.out
            refine ⟨⟨KO.out, K0.out⟩, ?_⟩
            refine wpAnyH_all (rs := [4]) (fuel := 3) (by kernel_rfl) (by simp) ?_
            intro i hi
            obtain rfl : i = 4 := by simpa using hi
            refine wpOp_plain rfl rfl ?_
            go_simp
            go_at_call 79
            refine (c_left _ _ _ _ _ V3.out).mono ?_
            rintro e w5 ⟨rfl, rfl⟩
            refine ⟨⟨KO.out, K0.out⟩, ?_⟩
            refine wpAnyH_all (rs := [5]) (fuel := 2) (by kernel_rfl) (by simp) ?_
            intro i hi
            obtain rfl : i = 5 := by simpa using hi
            refine wpOp_plain rfl rfl ?_
            refine wp_store_row 47 _ _ rfl (w.heap.size + 1 + 1) (i16s PP) rfl rfl 47 zP K2.out PS.out PZ.out (i16s_one _) ?_
            have J0 := hid ((setRow_other w3 (w.heap.size + 1 + 1) w.heap.size (i16s PP) (by omega)).trans K0.out)
            have JO := hid ((setRow_other w3 (w.heap.size + 1 + 1) w2.heap.size (i16s PP) (by omega)).trans KO.out)
            refine ⟨⟨JO.out, J0.out⟩, ?_⟩
            refine wpAnyH_all (rs := [6]) (fuel := 1) (by kernel_rfl) (by simp) ?_
            intro i hi
            obtain rfl : i = 6 := by simpa using hi
            refine wpOp_plain rfl rfl ?_
            go_simp
            refine ⟨⟨JO.out, J0.out⟩, ?_⟩
            refine wpAnyH_all (rs := [7]) (fuel := 0) (by kernel_rfl) (by simp) ?_
            intro i hi
            obtain rfl : i = 7 := by simpa using hi
            refine wpOp_plain rfl rfl ?_
            go_simp
            refine ⟨⟨JO.out, J0.out⟩, ?_⟩
            refine wpAnyH_done (by kernel_rfl) ?_ 0
            trace_state
            simp only [Exit.then]
            go_wp2_with fail
            refine bodyPost_ret (v := .tuple #[.agg (i16s PP), .float .f32 (leftOf LI), .int .i64 0]) (results_row_tmp2 rfl _ _ (w.heap.size + 1 + 1) 47 (i16s PP) (0, 0) _ rfl (blk_row_same _ _ zP _ _ _ K2.out) Try.underlying47 rfl PS.out _ _ rfl rfl) rfl ⟨by rw [R3.out.1, R3.out.2.1, R3.out.2.2, LF.out, PE.out], below_setRow (below_trans BF.out D3.out BF.out.size) (by omega) _⟩
      · have hz2 : Hid (¬ bpA B hs ts f hi = 0) := hid hz
        generalize hcv : bpA B hs ts f hi = cv at *
        have CV := hid hcv
        have hne : (cv != 0) = true := by rw [bne_iff_ne]; exact hz
        clear hcv hz
        go_enter Try.func28, Try.ntmps28
        go_wp2_with fail
        refine wp_region_below (by kernel_rfl) (by kernel_rfl) ?_
        repeat (first | (refine wpQuiet_load_row rfl 32 _ rfl (w.heap.size) rfl 32 (bcells B) (0, 0) _ (fun wx hwx => (hwx.out.block _ (block_lt HB0.out)).trans HB0.out) Try.underlying32 rfl HZ0.out ?_) | (refine wpQuiet_load_row rfl 45 _ rfl (w.heap.size + 1) rfl 45 (scells hs ts) (0, 0) _ (fun wx hwx => (hwx.out.block _ (block_lt HB1.out)).trans HB1.out) Try.underlying45 rfl HZ1.out ?_) | (refine wpQuiet_load_row rfl 47 _ rfl (w.heap.size + 1 + 1) rfl 47 (zP) (0, 0) _ (fun wx hwx => (hwx.out.block _ (block_lt HB2.out)).trans HB2.out) Try.underlying47 rfl HZ2.out ?_) | (refine wpQuiet_step (fun K hK => ?_); go_simp; first | (refine hK _ ?_; clear hK K) | (refine ⟨_, fun _ _ => rfl, hK _ ?_⟩; clear hK K) | (apply Exists.intro; refine ⟨fun wx hwx => ?_, hK _ ?_⟩; (first | (with_reducible exact quiet_below_same hwx (CH0.out _)) | (with_reducible exact quiet_below_same hwx (CH1.out _)) | (with_reducible exact quiet_below hwx (C1.out _))); clear hK K)))
        refine wpQuiet_nil ?_
        intro w2 h2
        replace h2 := h2.out
        have HC0 := hid ((h2.block _ (block_lt HB0.out)).trans HB0.out)
        have HC1 := hid ((h2.block _ (block_lt HB1.out)).trans HB1.out)
        have HC2 := hid ((h2.block _ (block_lt HB2.out)).trans HB2.out)
        have H2 := hid (below_trans H0.out h2 H0.out.size)
        clear h2
        go_wp2_with (refine wpList_store_row rfl 47 _ _ rfl (w.heap.size + 1 + 1) zP rfl rfl 47 zP HC2.out HZ2.out rfl zP_one ?_)
        refine bodyPost_ret (v := .tuple #[.agg zP, .float .f32 0, .int .i64 cv]) (results_row_tmp2 rfl _ _ (w.heap.size + 1 + 1) 47 zP (0, 0) _ rfl (blk_row_same _ _ _ _ _ _ HC2.out) Try.underlying47 rfl HZ2.out _ _ rfl rfl) rfl ⟨by have Q := bpC_bad (B := B) (hs := hs) (ts := ts) (f := f) (hi := hi) (by rw [CV.out]; exact hz2.out); rw [Q.1, Q.2.1, Q.2.2, CV.out, zP_is], below_setRow H2.out (by omega) _⟩
set_option maxHeartbeats 1000000 in
theorem c_specBrightestPlan_b0 (B : Bld) (wf : WfB B) (hs ts : List Int) (lh : hs.length = 24) (lt : ts.length = 24) (bh : I16 hs) (bt : I16 ts) (f : Int) (hi : Nat) (wh : hi < 4294967296) (w : World) (e1 : inB f 0 255 = false) (hz : ¬ bpA B hs ts f hi = 0) :
    Calls Try.prog 27 #[.agg (bcells B), .agg (scells hs ts), .int .i64 f, .float .f32 hi] w fun e w' => e = .returned (.tuple #[.agg (i16s (bpL B hs ts f hi)), .float .f32 (bpS B hs ts f hi), .int .i64 (bpC B hs ts f hi)]) ∧ Below w.heap.size w w' := by
  have HB0 : Hid (((((w.alloc (.cells (bcells B) 32)).alloc (.cells (scells hs ts) 45)).alloc (.cells (zP) 47)).alloc (.cells (zP) 47)).heap[w.heap.size]? = some (.cells (bcells B) 32 (0, 0))) := hid ((blk_past _ _ _ (by simp <;> omega)).trans ((blk_past _ _ _ (by simp <;> omega)).trans ((blk_past _ _ _ (by simp)).trans (blk_at _ _ _ rfl))))
  have HZ0 : Hid ((Try.prog.info? 32).map (·.size) = some (bcells B).size) := hid (size_blind B)
  have HB1 : Hid (((((w.alloc (.cells (bcells B) 32)).alloc (.cells (scells hs ts) 45)).alloc (.cells (zP) 47)).alloc (.cells (zP) 47)).heap[w.heap.size + 1]? = some (.cells (scells hs ts) 45 (0, 0))) := hid ((blk_past _ _ _ (by simp <;> omega)).trans ((blk_past _ _ _ (by simp)).trans (blk_at _ _ _ (by simp))))
  have HZ1 : Hid ((Try.prog.info? 45).map (·.size) = some (scells hs ts).size) := hid (by rw [scells_size lh lt]; kernel_rfl)
  have HB2 : Hid (((((w.alloc (.cells (bcells B) 32)).alloc (.cells (scells hs ts) 45)).alloc (.cells (zP) 47)).alloc (.cells (zP) 47)).heap[w.heap.size + 1 + 1]? = some (.cells (zP) 47 (0, 0))) := hid ((blk_past _ _ _ (by simp)).trans (blk_at _ _ _ (by simp)))
  have HZ2 : Hid ((Try.prog.info? 47).map (·.size) = some (zP).size) := hid (zP_size)
  have HB3 : Hid (((((w.alloc (.cells (bcells B) 32)).alloc (.cells (scells hs ts) 45)).alloc (.cells (zP) 47)).alloc (.cells (zP) 47)).heap[w.heap.size + 1 + 1 + 1]? = some (.cells (zP) 47 (0, 0))) := hid (blk_at _ _ _ (by simp))
  have HZ3 : Hid ((Try.prog.info? 47).map (·.size) = some (zP).size) := hid (zP_size)
  have H0 : Hid (Below w.heap.size w ((((w.alloc (.cells (bcells B) 32)).alloc (.cells (scells hs ts) 45)).alloc (.cells (zP) 47)).alloc (.cells (zP) 47))) := hid (((((Below.refl _ _).alloc (Nat.le_refl _) _).alloc (by simp) _).alloc (by simp <;> omega) _).alloc (by simp <;> omega) _)
  have LH := hid lh
  have LT := hid lt
  have _wh := wh
  have CG0 := fun w => c_l01Faced f w
  have KR : bpR f hi = false := by simp [bpR, e1]
  rw [e1] at CG0
  have C1 := hid (show ∀ wq, BldAt wq w.heap.size 0 B → SunAt wq (w.heap.size + 1) 0 hs ts → PlnAt wq (w.heap.size + 1 + 1 + 1) z24 → Calls Try.prog 66 #[.pointer (some ⟨w.heap.size, 0, none⟩), .pointer (some ⟨w.heap.size + 1, 0, none⟩), .pointer (some ⟨w.heap.size + 1 + 1 + 1, 0, none⟩), .bool false] wq fun e w' => e = .returned (.int .i64 (bpA B hs ts f hi)) ∧ wq = w' from by intro wq hA hS hP; have := c_l07Asked B wf hs ts z24 bh bt (by simp [z24]) z24_i16 (bpR f hi) _ _ _ _ _ wq hA hS hP; rw [z24_tilts, Bool.and_true] at this; unfold bpA; rw [KR] at this ⊢; exact this)
  have CH0 := hid CG0
  clear CG0
  have hz2 : Hid (¬ bpA B hs ts f hi = 0) := hid hz
  generalize hcv : bpA B hs ts f hi = cv at *
  have CV := hid hcv
  have hne : (cv != 0) = true := by rw [bne_iff_ne]; exact hz
  clear hcv hz
  have HC0 := hid ((setRow_other ((((w.alloc (.cells (bcells B) 32)).alloc (.cells (scells hs ts) 45)).alloc (.cells (zP) 47)).alloc (.cells (zP) 47)) (w.heap.size + 1 + 1 + 1) (w.heap.size) zP (by omega)).trans HB0.out)
  have HC1 := hid ((setRow_other ((((w.alloc (.cells (bcells B) 32)).alloc (.cells (scells hs ts) 45)).alloc (.cells (zP) 47)).alloc (.cells (zP) 47)) (w.heap.size + 1 + 1 + 1) (w.heap.size + 1) zP (by omega)).trans HB1.out)
  have HC2 := hid ((setRow_other ((((w.alloc (.cells (bcells B) 32)).alloc (.cells (scells hs ts) 45)).alloc (.cells (zP) 47)).alloc (.cells (zP) 47)) (w.heap.size + 1 + 1 + 1) (w.heap.size + 1 + 1) zP (by omega)).trans HB2.out)
  have HC3 := hid (PlnAt.of_block (by simp [z24]) (zP_is ▸ (blk_row_same ((((w.alloc (.cells (bcells B) 32)).alloc (.cells (scells hs ts) 45)).alloc (.cells (zP) 47)).alloc (.cells (zP) 47)) (w.heap.size + 1 + 1 + 1) zP zP _ _ HB3.out)))
  have H2 := hid (below_setRow H0.out (g := w.heap.size + 1 + 1 + 1) (by omega) zP)
  go_enter Try.func27, Try.ntmps27
  go_wp2_with (first | (refine wpList_store_row rfl 47 _ _ rfl (w.heap.size + 1 + 1 + 1) zP rfl rfl 47 zP HB3.out HZ3.out rfl zP_one ?_) | (go_at_call 67; with_reducible refine (CH0.out _).mono ?_; rintro e w' ⟨rfl, rfl⟩) | (go_at_call 66; refine (C1.out _ (BldAt.of_block HC0.out) (SunAt.of_block LH.out LT.out HC1.out) HC3.out).mono ?_; rintro e w' ⟨rfl, rfl⟩) | (refine wpList_store_row rfl 47 _ _ rfl (w.heap.size + 1 + 1) zP rfl rfl 47 zP HC2.out HZ2.out rfl zP_one ?_))
  refine bodyPost_ret (v := .tuple #[.agg zP, .float .f32 0, .int .i64 cv]) (results_row_tmp2 rfl _ _ (w.heap.size + 1 + 1) 47 zP (0, 0) _ rfl (blk_row_same _ _ _ _ _ _ HC2.out) Try.underlying47 rfl HZ2.out _ _ rfl rfl) rfl ⟨by have Q := bpC_bad (B := B) (hs := hs) (ts := ts) (f := f) (hi := hi) (by rw [CV.out]; exact hz2.out); rw [Q.1, Q.2.1, Q.2.2, CV.out, zP_is], below_setRow H2.out (by omega) _⟩
set_option maxHeartbeats 1000000 in
theorem c_specBrightestPlan_b1 (B : Bld) (wf : WfB B) (hs ts : List Int) (lh : hs.length = 24) (lt : ts.length = 24) (bh : I16 hs) (bt : I16 ts) (f : Int) (hi : Nat) (wh : hi < 4294967296) (w : World) (e1 : inB f 0 255 = true) (e2 : isPart hi = false) (hz : ¬ bpA B hs ts f hi = 0) :
    Calls Try.prog 27 #[.agg (bcells B), .agg (scells hs ts), .int .i64 f, .float .f32 hi] w fun e w' => e = .returned (.tuple #[.agg (i16s (bpL B hs ts f hi)), .float .f32 (bpS B hs ts f hi), .int .i64 (bpC B hs ts f hi)]) ∧ Below w.heap.size w w' := by
  have HB0 : Hid (((((w.alloc (.cells (bcells B) 32)).alloc (.cells (scells hs ts) 45)).alloc (.cells (zP) 47)).alloc (.cells (zP) 47)).heap[w.heap.size]? = some (.cells (bcells B) 32 (0, 0))) := hid ((blk_past _ _ _ (by simp <;> omega)).trans ((blk_past _ _ _ (by simp <;> omega)).trans ((blk_past _ _ _ (by simp)).trans (blk_at _ _ _ rfl))))
  have HZ0 : Hid ((Try.prog.info? 32).map (·.size) = some (bcells B).size) := hid (size_blind B)
  have HB1 : Hid (((((w.alloc (.cells (bcells B) 32)).alloc (.cells (scells hs ts) 45)).alloc (.cells (zP) 47)).alloc (.cells (zP) 47)).heap[w.heap.size + 1]? = some (.cells (scells hs ts) 45 (0, 0))) := hid ((blk_past _ _ _ (by simp <;> omega)).trans ((blk_past _ _ _ (by simp)).trans (blk_at _ _ _ (by simp))))
  have HZ1 : Hid ((Try.prog.info? 45).map (·.size) = some (scells hs ts).size) := hid (by rw [scells_size lh lt]; kernel_rfl)
  have HB2 : Hid (((((w.alloc (.cells (bcells B) 32)).alloc (.cells (scells hs ts) 45)).alloc (.cells (zP) 47)).alloc (.cells (zP) 47)).heap[w.heap.size + 1 + 1]? = some (.cells (zP) 47 (0, 0))) := hid ((blk_past _ _ _ (by simp)).trans (blk_at _ _ _ (by simp)))
  have HZ2 : Hid ((Try.prog.info? 47).map (·.size) = some (zP).size) := hid (zP_size)
  have HB3 : Hid (((((w.alloc (.cells (bcells B) 32)).alloc (.cells (scells hs ts) 45)).alloc (.cells (zP) 47)).alloc (.cells (zP) 47)).heap[w.heap.size + 1 + 1 + 1]? = some (.cells (zP) 47 (0, 0))) := hid (blk_at _ _ _ (by simp))
  have HZ3 : Hid ((Try.prog.info? 47).map (·.size) = some (zP).size) := hid (zP_size)
  have H0 : Hid (Below w.heap.size w ((((w.alloc (.cells (bcells B) 32)).alloc (.cells (scells hs ts) 45)).alloc (.cells (zP) 47)).alloc (.cells (zP) 47))) := hid (((((Below.refl _ _).alloc (Nat.le_refl _) _).alloc (by simp) _).alloc (by simp <;> omega) _).alloc (by simp <;> omega) _)
  have LH := hid lh
  have LT := hid lt
  have _wh := wh
  have CG0 := fun w => c_l01Faced f w
  have CG1 := fun w => c_l01Part hi w
  have KR : bpR f hi = false := by simp [bpR, e1, e2]
  rw [e1] at CG0
  rw [e2] at CG1
  have C1 := hid (show ∀ wq, BldAt wq w.heap.size 0 B → SunAt wq (w.heap.size + 1) 0 hs ts → PlnAt wq (w.heap.size + 1 + 1 + 1) z24 → Calls Try.prog 66 #[.pointer (some ⟨w.heap.size, 0, none⟩), .pointer (some ⟨w.heap.size + 1, 0, none⟩), .pointer (some ⟨w.heap.size + 1 + 1 + 1, 0, none⟩), .bool false] wq fun e w' => e = .returned (.int .i64 (bpA B hs ts f hi)) ∧ wq = w' from by intro wq hA hS hP; have := c_l07Asked B wf hs ts z24 bh bt (by simp [z24]) z24_i16 (bpR f hi) _ _ _ _ _ wq hA hS hP; rw [z24_tilts, Bool.and_true] at this; unfold bpA; rw [KR] at this ⊢; exact this)
  have CH0 := hid CG0
  have CH1 := hid CG1
  clear CG0 CG1
  have hz2 : Hid (¬ bpA B hs ts f hi = 0) := hid hz
  generalize hcv : bpA B hs ts f hi = cv at *
  have CV := hid hcv
  have hne : (cv != 0) = true := by rw [bne_iff_ne]; exact hz
  clear hcv hz
  have HC0 := hid ((setRow_other ((((w.alloc (.cells (bcells B) 32)).alloc (.cells (scells hs ts) 45)).alloc (.cells (zP) 47)).alloc (.cells (zP) 47)) (w.heap.size + 1 + 1 + 1) (w.heap.size) zP (by omega)).trans HB0.out)
  have HC1 := hid ((setRow_other ((((w.alloc (.cells (bcells B) 32)).alloc (.cells (scells hs ts) 45)).alloc (.cells (zP) 47)).alloc (.cells (zP) 47)) (w.heap.size + 1 + 1 + 1) (w.heap.size + 1) zP (by omega)).trans HB1.out)
  have HC2 := hid ((setRow_other ((((w.alloc (.cells (bcells B) 32)).alloc (.cells (scells hs ts) 45)).alloc (.cells (zP) 47)).alloc (.cells (zP) 47)) (w.heap.size + 1 + 1 + 1) (w.heap.size + 1 + 1) zP (by omega)).trans HB2.out)
  have HC3 := hid (PlnAt.of_block (by simp [z24]) (zP_is ▸ (blk_row_same ((((w.alloc (.cells (bcells B) 32)).alloc (.cells (scells hs ts) 45)).alloc (.cells (zP) 47)).alloc (.cells (zP) 47)) (w.heap.size + 1 + 1 + 1) zP zP _ _ HB3.out)))
  have H2 := hid (below_setRow H0.out (g := w.heap.size + 1 + 1 + 1) (by omega) zP)
  go_enter Try.func27, Try.ntmps27
  go_wp2_with (first | (refine wpList_store_row rfl 47 _ _ rfl (w.heap.size + 1 + 1 + 1) zP rfl rfl 47 zP HB3.out HZ3.out rfl zP_one ?_) | (go_at_call 67; with_reducible refine (CH0.out _).mono ?_; rintro e w' ⟨rfl, rfl⟩) | (go_at_call 68; with_reducible refine (CH1.out _).mono ?_; rintro e w' ⟨rfl, rfl⟩) | (go_at_call 66; refine (C1.out _ (BldAt.of_block HC0.out) (SunAt.of_block LH.out LT.out HC1.out) HC3.out).mono ?_; rintro e w' ⟨rfl, rfl⟩) | (refine wpList_store_row rfl 47 _ _ rfl (w.heap.size + 1 + 1) zP rfl rfl 47 zP HC2.out HZ2.out rfl zP_one ?_))
  refine bodyPost_ret (v := .tuple #[.agg zP, .float .f32 0, .int .i64 cv]) (results_row_tmp2 rfl _ _ (w.heap.size + 1 + 1) 47 zP (0, 0) _ rfl (blk_row_same _ _ _ _ _ _ HC2.out) Try.underlying47 rfl HZ2.out _ _ rfl rfl) rfl ⟨by have Q := bpC_bad (B := B) (hs := hs) (ts := ts) (f := f) (hi := hi) (by rw [CV.out]; exact hz2.out); rw [Q.1, Q.2.1, Q.2.2, CV.out, zP_is], below_setRow H2.out (by omega) _⟩
set_option maxHeartbeats 1000000 in
theorem c_specBrightestPlan_b2 (B : Bld) (wf : WfB B) (hs ts : List Int) (lh : hs.length = 24) (lt : ts.length = 24) (bh : I16 hs) (bt : I16 ts) (f : Int) (hi : Nat) (wh : hi < 4294967296) (w : World) (e1 : inB f 0 255 = true) (e2 : isPart hi = true) (hz : ¬ bpA B hs ts f hi = 0) :
    Calls Try.prog 27 #[.agg (bcells B), .agg (scells hs ts), .int .i64 f, .float .f32 hi] w fun e w' => e = .returned (.tuple #[.agg (i16s (bpL B hs ts f hi)), .float .f32 (bpS B hs ts f hi), .int .i64 (bpC B hs ts f hi)]) ∧ Below w.heap.size w w' := by
  have HB0 : Hid (((((w.alloc (.cells (bcells B) 32)).alloc (.cells (scells hs ts) 45)).alloc (.cells (zP) 47)).alloc (.cells (zP) 47)).heap[w.heap.size]? = some (.cells (bcells B) 32 (0, 0))) := hid ((blk_past _ _ _ (by simp <;> omega)).trans ((blk_past _ _ _ (by simp <;> omega)).trans ((blk_past _ _ _ (by simp)).trans (blk_at _ _ _ rfl))))
  have HZ0 : Hid ((Try.prog.info? 32).map (·.size) = some (bcells B).size) := hid (size_blind B)
  have HB1 : Hid (((((w.alloc (.cells (bcells B) 32)).alloc (.cells (scells hs ts) 45)).alloc (.cells (zP) 47)).alloc (.cells (zP) 47)).heap[w.heap.size + 1]? = some (.cells (scells hs ts) 45 (0, 0))) := hid ((blk_past _ _ _ (by simp <;> omega)).trans ((blk_past _ _ _ (by simp)).trans (blk_at _ _ _ (by simp))))
  have HZ1 : Hid ((Try.prog.info? 45).map (·.size) = some (scells hs ts).size) := hid (by rw [scells_size lh lt]; kernel_rfl)
  have HB2 : Hid (((((w.alloc (.cells (bcells B) 32)).alloc (.cells (scells hs ts) 45)).alloc (.cells (zP) 47)).alloc (.cells (zP) 47)).heap[w.heap.size + 1 + 1]? = some (.cells (zP) 47 (0, 0))) := hid ((blk_past _ _ _ (by simp)).trans (blk_at _ _ _ (by simp)))
  have HZ2 : Hid ((Try.prog.info? 47).map (·.size) = some (zP).size) := hid (zP_size)
  have HB3 : Hid (((((w.alloc (.cells (bcells B) 32)).alloc (.cells (scells hs ts) 45)).alloc (.cells (zP) 47)).alloc (.cells (zP) 47)).heap[w.heap.size + 1 + 1 + 1]? = some (.cells (zP) 47 (0, 0))) := hid (blk_at _ _ _ (by simp))
  have HZ3 : Hid ((Try.prog.info? 47).map (·.size) = some (zP).size) := hid (zP_size)
  have H0 : Hid (Below w.heap.size w ((((w.alloc (.cells (bcells B) 32)).alloc (.cells (scells hs ts) 45)).alloc (.cells (zP) 47)).alloc (.cells (zP) 47))) := hid (((((Below.refl _ _).alloc (Nat.le_refl _) _).alloc (by simp) _).alloc (by simp <;> omega) _).alloc (by simp <;> omega) _)
  have LH := hid lh
  have LT := hid lt
  have _wh := wh
  have CG0 := fun w => c_l01Faced f w
  have CG1 := fun w => c_l01Part hi w
  have KR : bpR f hi = true := by simp [bpR, e1, e2]
  rw [e1] at CG0
  rw [e2] at CG1
  have C1 := hid (show ∀ wq, BldAt wq w.heap.size 0 B → SunAt wq (w.heap.size + 1) 0 hs ts → PlnAt wq (w.heap.size + 1 + 1 + 1) z24 → Calls Try.prog 66 #[.pointer (some ⟨w.heap.size, 0, none⟩), .pointer (some ⟨w.heap.size + 1, 0, none⟩), .pointer (some ⟨w.heap.size + 1 + 1 + 1, 0, none⟩), .bool true] wq fun e w' => e = .returned (.int .i64 (bpA B hs ts f hi)) ∧ wq = w' from by intro wq hA hS hP; have := c_l07Asked B wf hs ts z24 bh bt (by simp [z24]) z24_i16 (bpR f hi) _ _ _ _ _ wq hA hS hP; rw [z24_tilts, Bool.and_true] at this; unfold bpA; rw [KR] at this ⊢; exact this)
  have CH0 := hid CG0
  have CH1 := hid CG1
  clear CG0 CG1
  have hz2 : Hid (¬ bpA B hs ts f hi = 0) := hid hz
  generalize hcv : bpA B hs ts f hi = cv at *
  have CV := hid hcv
  have hne : (cv != 0) = true := by rw [bne_iff_ne]; exact hz
  clear hcv hz
  have HC0 := hid ((setRow_other ((((w.alloc (.cells (bcells B) 32)).alloc (.cells (scells hs ts) 45)).alloc (.cells (zP) 47)).alloc (.cells (zP) 47)) (w.heap.size + 1 + 1 + 1) (w.heap.size) zP (by omega)).trans HB0.out)
  have HC1 := hid ((setRow_other ((((w.alloc (.cells (bcells B) 32)).alloc (.cells (scells hs ts) 45)).alloc (.cells (zP) 47)).alloc (.cells (zP) 47)) (w.heap.size + 1 + 1 + 1) (w.heap.size + 1) zP (by omega)).trans HB1.out)
  have HC2 := hid ((setRow_other ((((w.alloc (.cells (bcells B) 32)).alloc (.cells (scells hs ts) 45)).alloc (.cells (zP) 47)).alloc (.cells (zP) 47)) (w.heap.size + 1 + 1 + 1) (w.heap.size + 1 + 1) zP (by omega)).trans HB2.out)
  have HC3 := hid (PlnAt.of_block (by simp [z24]) (zP_is ▸ (blk_row_same ((((w.alloc (.cells (bcells B) 32)).alloc (.cells (scells hs ts) 45)).alloc (.cells (zP) 47)).alloc (.cells (zP) 47)) (w.heap.size + 1 + 1 + 1) zP zP _ _ HB3.out)))
  have H2 := hid (below_setRow H0.out (g := w.heap.size + 1 + 1 + 1) (by omega) zP)
  go_enter Try.func27, Try.ntmps27
  go_wp2_with (first | (refine wpList_store_row rfl 47 _ _ rfl (w.heap.size + 1 + 1 + 1) zP rfl rfl 47 zP HB3.out HZ3.out rfl zP_one ?_) | (go_at_call 67; with_reducible refine (CH0.out _).mono ?_; rintro e w' ⟨rfl, rfl⟩) | (go_at_call 68; with_reducible refine (CH1.out _).mono ?_; rintro e w' ⟨rfl, rfl⟩) | (go_at_call 66; refine (C1.out _ (BldAt.of_block HC0.out) (SunAt.of_block LH.out LT.out HC1.out) HC3.out).mono ?_; rintro e w' ⟨rfl, rfl⟩) | (refine wpList_store_row rfl 47 _ _ rfl (w.heap.size + 1 + 1) zP rfl rfl 47 zP HC2.out HZ2.out rfl zP_one ?_))
  refine bodyPost_ret (v := .tuple #[.agg zP, .float .f32 0, .int .i64 cv]) (results_row_tmp2 rfl _ _ (w.heap.size + 1 + 1) 47 zP (0, 0) _ rfl (blk_row_same _ _ _ _ _ _ HC2.out) Try.underlying47 rfl HZ2.out _ _ rfl rfl) rfl ⟨by have Q := bpC_bad (B := B) (hs := hs) (ts := ts) (f := f) (hi := hi) (by rw [CV.out]; exact hz2.out); rw [Q.1, Q.2.1, Q.2.2, CV.out, zP_is], below_setRow H2.out (by omega) _⟩
set_option maxHeartbeats 1000000 in
theorem c_specBrightestPlan_g (B : Bld) (wf : WfB B) (hs ts : List Int) (lh : hs.length = 24) (lt : ts.length = 24) (bh : I16 hs) (bt : I16 ts) (f : Int) (hi : Nat) (wh : hi < 4294967296) (w : World) (e1 : inB f 0 255 = true) (e2 : isPart hi = true) (hz : bpA B hs ts f hi = 0) :
    Calls Try.prog 27 #[.agg (bcells B), .agg (scells hs ts), .int .i64 f, .float .f32 hi] w fun e w' => e = .returned (.tuple #[.agg (i16s (bpL B hs ts f hi)), .float .f32 (bpS B hs ts f hi), .int .i64 (bpC B hs ts f hi)]) ∧ Below w.heap.size w w' := by
  have HB0 : Hid (((((w.alloc (.cells (bcells B) 32)).alloc (.cells (scells hs ts) 45)).alloc (.cells (zP) 47)).alloc (.cells (zP) 47)).heap[w.heap.size]? = some (.cells (bcells B) 32 (0, 0))) := hid ((blk_past _ _ _ (by simp <;> omega)).trans ((blk_past _ _ _ (by simp <;> omega)).trans ((blk_past _ _ _ (by simp)).trans (blk_at _ _ _ rfl))))
  have HZ0 : Hid ((Try.prog.info? 32).map (·.size) = some (bcells B).size) := hid (size_blind B)
  have HB1 : Hid (((((w.alloc (.cells (bcells B) 32)).alloc (.cells (scells hs ts) 45)).alloc (.cells (zP) 47)).alloc (.cells (zP) 47)).heap[w.heap.size + 1]? = some (.cells (scells hs ts) 45 (0, 0))) := hid ((blk_past _ _ _ (by simp <;> omega)).trans ((blk_past _ _ _ (by simp)).trans (blk_at _ _ _ (by simp))))
  have HZ1 : Hid ((Try.prog.info? 45).map (·.size) = some (scells hs ts).size) := hid (by rw [scells_size lh lt]; kernel_rfl)
  have HB2 : Hid (((((w.alloc (.cells (bcells B) 32)).alloc (.cells (scells hs ts) 45)).alloc (.cells (zP) 47)).alloc (.cells (zP) 47)).heap[w.heap.size + 1 + 1]? = some (.cells (zP) 47 (0, 0))) := hid ((blk_past _ _ _ (by simp)).trans (blk_at _ _ _ (by simp)))
  have HZ2 : Hid ((Try.prog.info? 47).map (·.size) = some (zP).size) := hid (zP_size)
  have HB3 : Hid (((((w.alloc (.cells (bcells B) 32)).alloc (.cells (scells hs ts) 45)).alloc (.cells (zP) 47)).alloc (.cells (zP) 47)).heap[w.heap.size + 1 + 1 + 1]? = some (.cells (zP) 47 (0, 0))) := hid (blk_at _ _ _ (by simp))
  have HZ3 : Hid ((Try.prog.info? 47).map (·.size) = some (zP).size) := hid (zP_size)
  have H0 : Hid (Below w.heap.size w ((((w.alloc (.cells (bcells B) 32)).alloc (.cells (scells hs ts) 45)).alloc (.cells (zP) 47)).alloc (.cells (zP) 47))) := hid (((((Below.refl _ _).alloc (Nat.le_refl _) _).alloc (by simp) _).alloc (by simp <;> omega) _).alloc (by simp <;> omega) _)
  have LH := hid lh
  have LT := hid lt
  have CG0 := fun w => c_l01Faced f w
  have CG1 := fun w => c_l01Part hi w
  have KR : bpR f hi = true := by simp [bpR, e1, e2]
  rw [e1] at CG0
  rw [e2] at CG1
  have C1 := hid (show ∀ wq, BldAt wq w.heap.size 0 B → SunAt wq (w.heap.size + 1) 0 hs ts → PlnAt wq (w.heap.size + 1 + 1 + 1) z24 → Calls Try.prog 66 #[.pointer (some ⟨w.heap.size, 0, none⟩), .pointer (some ⟨w.heap.size + 1, 0, none⟩), .pointer (some ⟨w.heap.size + 1 + 1 + 1, 0, none⟩), .bool true] wq fun e w' => e = .returned (.int .i64 (bpA B hs ts f hi)) ∧ wq = w' from by intro wq hA hS hP; have := c_l07Asked B wf hs ts z24 bh bt (by simp [z24]) z24_i16 (bpR f hi) _ _ _ _ _ wq hA hS hP; rw [z24_tilts, Bool.and_true] at this; unfold bpA; rw [KR] at this ⊢; exact this)
  have CH0 := hid CG0
  have CH1 := hid CG1
  clear CG0 CG1
  obtain ⟨hok, -⟩ := codeOf_zero hz
  have hB := OkB.of wf (by simp only [Bool.and_eq_true] at hok; exact hok.1)
  have hS2 : okS hs ts = true := by simp only [Bool.and_eq_true] at hok; exact hok.2
  have hF : 0 ≤ f ∧ f ≤ 255 := by simpa [inB] using e1
  have hhi := (part_in wh e2).fin
  have CW := hid (fun (k : Nat) (hk : k < 24) (t : Int) (ht : -64 ≤ t ∧ t ≤ 64) c b w hA hS => c_l07At B hB c 0 b 0 k hs ts f t w hA hS hk ⟨(okS_at hS2 hk).1, (okS_at hS2 hk).2.1⟩ (okS_at hS2 hk).2.2 hF ht)
  have WIN : Hid (∀ k m : Nat, k < 24 → m < 129 → In0 (xW B hs ts f k m) WP) := hid (fun k m hk hm => show In0 (windowW (tiltB B ((m : Int) - 64)) hs ts k f) WP from window_in (hB.tilt (t := (m : Int) - 64) (by omega) (by omega)) hs ts f (okS_at hS2 hk).2.1)
  clear wf lh lt bh bt hok hB hS2 hF hhi wh
  have hz2 : Hid (bpA B hs ts f hi = 0) := hid hz
  rw [hz] at C1
  clear hz
  have HC0 := hid ((setRow_other ((((w.alloc (.cells (bcells B) 32)).alloc (.cells (scells hs ts) 45)).alloc (.cells (zP) 47)).alloc (.cells (zP) 47)) (w.heap.size + 1 + 1 + 1) (w.heap.size) zP (by omega)).trans HB0.out)
  have HC1 := hid ((setRow_other ((((w.alloc (.cells (bcells B) 32)).alloc (.cells (scells hs ts) 45)).alloc (.cells (zP) 47)).alloc (.cells (zP) 47)) (w.heap.size + 1 + 1 + 1) (w.heap.size + 1) zP (by omega)).trans HB1.out)
  have HC2 := hid ((setRow_other ((((w.alloc (.cells (bcells B) 32)).alloc (.cells (scells hs ts) 45)).alloc (.cells (zP) 47)).alloc (.cells (zP) 47)) (w.heap.size + 1 + 1 + 1) (w.heap.size + 1 + 1) zP (by omega)).trans HB2.out)
  have HC3 := hid (PlnAt.of_block (by simp [z24]) (zP_is ▸ (blk_row_same ((((w.alloc (.cells (bcells B) 32)).alloc (.cells (scells hs ts) 45)).alloc (.cells (zP) 47)).alloc (.cells (zP) 47)) (w.heap.size + 1 + 1 + 1) zP zP _ _ HB3.out)))
  have H2 := hid (below_setRow H0.out (g := w.heap.size + 1 + 1 + 1) (by omega) zP)
  go_enter Try.func27, Try.ntmps27
  go_wp2_with (first | (refine wpList_store_row rfl 47 _ _ rfl (w.heap.size + 1 + 1 + 1) zP rfl rfl 47 zP HB3.out HZ3.out rfl zP_one ?_) | (go_at_call 67; with_reducible refine (CH0.out _).mono ?_; rintro e w' ⟨rfl, rfl⟩) | (go_at_call 68; with_reducible refine (CH1.out _).mono ?_; rintro e w' ⟨rfl, rfl⟩) | (go_at_call 66; refine (C1.out _ (BldAt.of_block HC0.out) (SunAt.of_block LH.out LT.out HC1.out) HC3.out).mono ?_; rintro e w' ⟨rfl, rfl⟩) | (refine wpList_store_row rfl 47 _ _ rfl (w.heap.size + 1 + 1) zP rfl rfl 47 zP HC2.out HZ2.out rfl zP_one ?_))
  have HEO := hid (blk_row_same ((((w.alloc (.cells (bcells B) 32)).alloc (.cells (scells hs ts) 45)).alloc (.cells (zP) 47)).alloc (.cells (zP) 47)) (w.heap.size + 1 + 1 + 1) zP zP _ _ HB3.out)
  have HR2 := HC2
  generalize hws : ((((w.alloc (.cells (bcells B) 32)).alloc (.cells (scells hs ts) 45)).alloc (.cells (zP) 47)).alloc (.cells (zP) 47)).setRow (w.heap.size + 1 + 1 + 1) zP = ws at HC0 HC1 HC2 HC3 HEO H2
  have WSE := hid hws
  clear hws
  try rw [show (#[Value.int .i16 0, .int .i16 0, .int .i16 0, .int .i16 0, .int .i16 0, .int .i16 0, .int .i16 0, .int .i16 0, .int .i16 0, .int .i16 0, .int .i16 0, .int .i16 0, .int .i16 0, .int .i16 0, .int .i16 0, .int .i16 0, .int .i16 0, .int .i16 0, .int .i16 0, .int .i16 0, .int .i16 0, .int .i16 0, .int .i16 0, .int .i16 0] : Array Value) = zP from rfl, WSE.out]
  obtain ⟨O, hO⟩ : ∃ O : Nat → Nat → Option (Nat × Nat), ∀ k m, O k m = bestK (xW B hs ts f k) hi m := ⟨_, fun _ _ => rfl⟩
  have OO := hid hO
  have BR : Hid (∀ k, brO B hs ts f hi k = O k 129) := hid (fun k => (hO k 129).symm)
  have O0 : Hid (∀ k, O k 0 = none) := hid (fun k => hO k 0)
  have OS : Hid (∀ k m, O k (m + 1) = bStep (O k m) m (xW B hs ts f k m) hi) := hid (fun k m => by rw [hO, hO]; rfl)
  have OV : Hid (∀ k m i y, k < 24 → m ≤ 129 → O k m = some (i, y) → In0 y WP) := hid (fun k m i y hk hm h => by
    have hat := bestK_at ((hO k m).symm.trans h)
    rw [hat.2]; exact WIN.out k i hk (by omega))
  have YP : Hid (∀ k, k < 24 → brV (O k 129) < 4294967296 ∧ isPlain (brV (O k 129)) = true) := hid (fun k hk => by
    cases h : O k 129 with
    | none => exact ⟨by decide, by decide +kernel⟩
    | some q => exact in0_plain (OV.out k 129 q.1 q.2 hk (Nat.le_refl _) h))
  have SF : Hid (∀ k, k ≤ 24 → isFin (bpSum (fun k => brV (O k 129)) k) = true) := hid (fun k hk => sum_fin YP.out k hk)
  clear hO
  go_loopw [13, 14] (fun sv i wr => ∃ k : Nat, k ≤ 24 ∧ i = .int .i64 k ∧ sv = .float .f32 (bpSum (fun k => brV (O k 129)) k) ∧ (∀ j, j < k → (O j 129).isSome = true) ∧ wr.heap[w.heap.size + 1 + 1 + 1]? = some (.cells (i16s (brP (fun k => brT (O k 129)) k)) 47 (0, 0)) ∧ Below (w.heap.size + 1 + 1 + 1) ws wr) (fun _ i _ => 24 - (intOf i).toNat)
  case atStart => exact ⟨0, by omega, rfl, rfl, fun j hj => by omega, by have := HEO.out; rw [zP_is] at this; exact this, Below.refl _ _⟩
  case round =>
    obtain ⟨k, hk, rfl, rfl, hall, hbo, hbel⟩ := hrel
    have AL := hid hall
    have BO := hid hbo
    have BE := hid hbel
    clear hall hbo hbel
    by_cases hlt : k < 24
    · have hki : (k : Int) < 24 := by omega
      have hkd : decide ((k : Int) < 24) = true := by simpa using hki
      go_wp2_with fail
      go_loopw [15, 16] (fun bv tv wr => ∃ (m : Nat) (y : Nat), m ≤ 129 ∧ tv = .int .i64 ((m : Int) - 64) ∧ bv = .float .f32 y ∧ Hid (y = brV (O k m)) ∧ wr.heap[w.heap.size + 1 + 1 + 1]? = some (.cells (i16s (setO (brP (fun k => brT (O k 129)) k) k (O k m))) 47 (0, 0)) ∧ Below (w.heap.size + 1 + 1 + 1) ws wr) (fun _ tv _ => (65 - intOf tv).toNat)
      case atStart => exact ⟨0, 3212836864, by omega, by go_num, rfl, hid (by rw [O0.out]; rfl), by rw [O0.out]; exact BO.out, BE.out⟩
      case round =>
        obtain ⟨m, y, hm, rfl, rfl, hq, hbo, hbel⟩ := hrel
        have Q := hid hq.out
        have BO2 := hid hbo
        have BE2 := hid hbel
        have LZ := hid (Nat.le_of_lt (block_lt hbo))
        clear hq hbo hbel
        have HJ0 := hid ((BE2.out.block _ (by omega)).trans HC0.out)
        have HJ1 := hid ((BE2.out.block _ (by omega)).trans HC1.out)
        have HJ2 := hid ((BE2.out.block _ (by omega)).trans HC2.out)
        by_cases hlm : m < 129
        · have C2 := hid (fun c b w hA hS => CW.out k hlt ((m : Int) - 64) (by omega) c b w hA hS)
          have WV := hid (gt_minus (WIN.out k m hlt hlm))
          have OSK := hid (OS.out k m)
          have XW : Hid (xW B hs ts f k m = windowW (tiltB B ((m : Int) - 64)) hs ts k f) := hid rfl
          rw [XW.out] at OSK WV
          generalize windowW (tiltB B ((m : Int) - 64)) hs ts k f = v at *
          have tb : (m : Int) - 64 ≤ 64 := by omega
          cases e1 : fLe v hi
          · have a1 : (FloatKind.f32.format.order v hi == some .lt || FloatKind.f32.format.order v hi == some .eq) = false := e1
            have N : Hid (O k (m + 1) = O k m) := hid (by rw [OSK.out, bStep_spec WV.out, e1]; rfl)
            clear e1
            go_wp2_with fail
            refine (C2.out _ _ _ (BldAt.of_block HJ0.out) (SunAt.of_block LH.out LT.out HJ1.out)).mono ?_
            rintro e w4 ⟨rfl, h4⟩
            have KO := hid ((h4.block _ (block_lt BO2.out)).trans BO2.out)
            have KB := hid (below_trans BE2.out h4 LZ.out)
            clear h4
            go_wp2_with fail
            exact ⟨⟨m + 1, y, by omega, by go_num, rfl, hid (by rw [N.out]; exact Q.out), by rw [N.out]; exact KO.out, KB.out⟩, by simp [intOf]; omega⟩
          · have a1 : (FloatKind.f32.format.order v hi == some .lt || FloatKind.f32.format.order v hi == some .eq) = true := e1
            cases e2 : fGt v y
            · have a2 : (FloatKind.f32.format.order v y == some .gt) = false := e2
              have N : Hid (O k (m + 1) = O k m) := hid (by rw [OSK.out, bStep_spec WV.out, e1, ← Q.out, e2]; rfl)
              clear e1 e2
              go_wp2_with fail
              refine (C2.out _ _ _ (BldAt.of_block HJ0.out) (SunAt.of_block LH.out LT.out HJ1.out)).mono ?_
              rintro e w4 ⟨rfl, h4⟩
              have KO := hid ((h4.block _ (block_lt BO2.out)).trans BO2.out)
              have KB := hid (below_trans BE2.out h4 LZ.out)
              clear h4
              go_wp2_with fail
              exact ⟨⟨m + 1, y, by omega, by go_num, rfl, hid (by rw [N.out]; exact Q.out), by rw [N.out]; exact KO.out, KB.out⟩, by simp [intOf]; omega⟩
            · have a2 : (FloatKind.f32.format.order v y == some .gt) = true := e2
              have N : Hid (O k (m + 1) = some (m, v)) := hid (by rw [OSK.out, bStep_spec WV.out, e1, ← Q.out, e2]; rfl)
              clear e1 e2
              go_wp2_with fail
              refine (C2.out _ _ _ (BldAt.of_block HJ0.out) (SunAt.of_block LH.out LT.out HJ1.out)).mono ?_
              rintro e w4 ⟨rfl, h4⟩
              have KO := hid ((h4.block _ (block_lt BO2.out)).trans BO2.out)
              have KB := hid (below_trans BE2.out h4 LZ.out)
              clear h4
              have SL : Hid ((setO (brP (fun k => brT (O k 129)) k) k (O k m)).length = 24) := hid (by rw [setO_len, brP_len])
              have c2 := (cell_of_row _ _ k _ _ _ KO.out).trans (i16s_at SL.out hlt)
              have f1 := frozen_of_row _ _ k _ _ KO.out
              have SO := hid (set_oneI (v := (m : Int) - 64) KO.out (show k < (setO (brP (fun k => brT (O k 129)) k) k (O k m)).length by rw [SL.out]; exact hlt))
              have SB : Hid (Below (w.heap.size + 1 + 1 + 1) ws (w4.setCell ⟨w.heap.size + 1 + 1 + 1, k, none⟩ (.int .i16 ((m : Int) - 64)))) := hid (setCells_below KB.out (b := w.heap.size + 1 + 1 + 1) (Nat.le_refl _) [.int .i16 ((m : Int) - 64)] k)
              go_wp2_with fail
              exact ⟨⟨m + 1, v, by omega, by go_num, rfl, hid (by rw [N.out]; rfl), by rw [N.out, ← setO_some _ _ (O k m)]; exact SO.out, SB.out⟩, by simp [intOf]; omega⟩
        · obtain rfl : m = 129 := by omega
          cases ho : O k 129 with
          | none =>
            have NN : Hid (brO B hs ts f hi k = none) := hid (by rw [BR.out]; exact ho)
            have R3 := hid (bpC_none hz2.out hlt NN.out)
            have BF := hid (H2.out.trans (BE2.out.mono (by omega : w.heap.size ≤ w.heap.size + 1 + 1 + 1)))
            have hy : y = 3212836864 := by rw [Q.out, ho]; rfl
            subst hy
            have a3 : (FloatKind.f32.format.order 3212836864 0 == some .lt) = true := by decide +kernel
            clear ho
            go_wp2_with (refine wpList_store_row rfl 47 _ _ rfl (w.heap.size + 1 + 1) zP rfl rfl 47 zP HJ2.out HZ2.out rfl zP_one ?_)
            refine bodyPost_ret (v := .tuple #[.agg zP, .float .f32 0, .int .i64 6]) (results_row_tmp2 rfl _ _ (w.heap.size + 1 + 1) 47 zP (0, 0) _ rfl (blk_row_same _ _ _ _ _ _ HJ2.out) Try.underlying47 rfl HZ2.out _ _ rfl rfl) rfl ⟨by rw [R3.out.1, R3.out.2.1, R3.out.2.2, zP_is], below_setRow BF.out (by omega) _⟩
          | some q =>
            obtain ⟨i, y2⟩ := q
            have IV := hid (OV.out k 129 i y2 hlt (Nat.le_refl _) ho)
            have hy : y = y2 := by rw [Q.out, ho]; rfl
            subst hy
            have a3 : (FloatKind.f32.format.order y 0 == some .lt) = false := by
              have h : fLt y 0 = false := by rw [fLt_fin IV.out.fin (by decide)]; have := IV.out.ge; rw [fx_0]; simp; omega
              exact h
            have YE : Hid (brV (O k 129) = y) := hid Q.out.symm
            have TE : Hid (brT (O k 129) = (i : Int) - 64) := hid (by rw [ho]; rfl)
            have ra := run_add (T := 23) (SF.out k hk) IV.out.fin
            have SE : Hid (setO (brP (fun k => brT (O k 129)) k) k (O k 129) = brP (fun k => brT (O k 129)) (k + 1)) := hid (by rw [brP, TE.out, ho]; rfl)
            have HS : Hid ((O k 129).isSome = true) := hid (by rw [ho]; rfl)
            have PE : Hid (bpSum (fun k => brV (O k 129)) (k + 1) = fadd (bpSum (fun k => brV (O k 129)) k) y) := hid (by rw [bpSum, YE.out])
            clear ho
            go_wp2_with fail
            exact ⟨⟨k + 1, by omega, by go_num, by rw [PE.out], fun j hj => (Nat.lt_or_ge j k).elim (fun h => AL.out j h) (fun h => (show j = k by omega) ▸ HS.out), by rw [← SE.out]; exact BO2.out, BE2.out⟩, by simp [intOf]; omega⟩
    · obtain rfl : k = 24 := by omega
      have R3 := hid (bpC_all hz2.out (fun k hk => by rw [BR.out]; exact AL.out k hk))
      have HJ2 := hid ((BE.out.block _ (by omega)).trans HC2.out)
      have BF := hid (H2.out.trans (BE.out.mono (by omega : w.heap.size ≤ w.heap.size + 1 + 1 + 1)))
      have PL : Hid ((brP (fun k => brT (O k 129)) 24).length = 24) := hid (brP_len _ _)
      have PE : Hid (brP (fun k => brT (O k 129)) 24 = brP (fun k => brT (brO B hs ts f hi k)) 24) := hid (by rw [show (fun k => brT (brO B hs ts f hi k)) = fun k => brT (O k 129) from funext fun k => by rw [BR.out]])
      have SE : Hid (bpSum (fun k => brV (O k 129)) 24 = bpSum (fun k => brV (brO B hs ts f hi k)) 24) := hid (by rw [show (fun k => brV (brO B hs ts f hi k)) = fun k => brV (O k 129) from funext fun k => by rw [BR.out]])
      have PS : Hid ((Try.prog.info? 47).map (·.size) = some (i16s (brP (fun k => brT (O k 129)) 24)).size) := hid (by rw [i16s_size, PL.out]; kernel_rfl)
      have PZ : Hid (zP.size = (i16s (brP (fun k => brT (O k 129)) 24)).size) := hid (by rw [i16s_size, PL.out]; rfl)
      generalize brP (fun k => brT (O k 129)) 24 = PP at *
      generalize bpSum (fun k => brV (O k 129)) 24 = ss at *
      go_wp2_with (first | (refine wpList_load_row rfl 47 _ rfl (w.heap.size + 1 + 1 + 1) rfl 47 (i16s PP) (0, 0) _ BO.out Try.underlying47 rfl PS.out ?_) | (refine wpList_store_row rfl 47 _ _ rfl (w.heap.size + 1 + 1) (i16s PP) rfl rfl 47 zP HJ2.out PS.out PZ.out (i16s_one _) ?_))
      refine bodyPost_ret (v := .tuple #[.agg (i16s PP), .float .f32 ss, .int .i64 0]) (results_row_tmp2 rfl _ _ (w.heap.size + 1 + 1) 47 (i16s PP) (0, 0) _ rfl (blk_row_same _ _ zP _ _ _ HJ2.out) Try.underlying47 rfl PS.out _ _ rfl rfl) rfl ⟨by rw [R3.out.1, R3.out.2.1, R3.out.2.2, SE.out, PE.out], below_setRow BF.out (by omega) _⟩
theorem c_specBrightestPlan (B : Bld) (wf : WfB B) (hs ts : List Int) (lh : hs.length = 24) (lt : ts.length = 24) (bh : I16 hs) (bt : I16 ts) (f : Int) (hi : Nat) (wh : hi < 4294967296) (w : World) :
    Calls Try.prog 27 #[.agg (bcells B), .agg (scells hs ts), .int .i64 f, .float .f32 hi] w fun e w' => e = .returned (.tuple #[.agg (i16s (bpL B hs ts f hi)), .float .f32 (bpS B hs ts f hi), .int .i64 (bpC B hs ts f hi)]) ∧ Below w.heap.size w w' := by
  cases e1 : inB f 0 255
  · exact c_specBrightestPlan_b0 B wf hs ts lh lt bh bt f hi wh w e1 (fun hz => by have h := (codeOf_zero hz).2; simp [bpR, e1] at h)
  · skip
    cases e2 : isPart hi
    · exact c_specBrightestPlan_b1 B wf hs ts lh lt bh bt f hi wh w e1 e2 (fun hz => by have h := (codeOf_zero hz).2; simp [bpR, e1, e2] at h)
    · skip
      by_cases hz : bpA B hs ts f hi = 0
      · exact c_specBrightestPlan_g B wf hs ts lh lt bh bt f hi wh w e1 e2 hz
      · exact c_specBrightestPlan_b2 B wf hs ts lh lt bh bt f hi wh w e1 e2 hz
end Go.Proofs.Ythnffhmefgfnkaa
