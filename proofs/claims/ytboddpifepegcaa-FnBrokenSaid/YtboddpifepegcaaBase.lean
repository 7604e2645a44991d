/- Small laws that every text of this seat uses: an element of an array value, float words, worlds below a block number. -/
import Derived.Test.YtboddpifepegcaaRows
import Derived.WalkKit
import Derived.WalkSpells
import Derived.WalkLawsBesides
import Derived.Laws.EntriesVeiled
import Derived.Laws.FloatArith
import Derived.Deep.QuietTactic
import Derived.BigQuiet

namespace Go.Proofs.Ytboddpifepegcaa
set_option maxRecDepth 20000
open Go.RowKit

@[go_sem] theorem run_store_float {P : Program} {w : World} {a : Addr} {m : Mode} (k : FloatKind) (x : Nat) : (store a (.float k x) m).run P w = stored P w a (.float k x) m := run_store P w a _ m rfl

/-- An element of an array value. -/
theorem run_index_arr {P : Program} {T E len : Nat} {k : IntKind} {cs : Array Value} {v : Value} (hT : P.underlying T = some (.array len E)) {d : TypeDesc} (hE : P.underlying E = some d)
    (hd : (match d with | .struct _ | .array _ _ => false | _ => true) = true) (hi : (P.info? E).map (·.size) = some 1) (n : Nat) (hn : n < len) (hv : cs[n]? = some v) (w : World) :
    (Instr.index T (.agg cs) (.int k n)).run P w = .ok v w := by
  have hlt : (n : Int) < (len : Int) := by omega
  obtain ⟨i, hi', hs⟩ : ∃ i, P.info? E = some i ∧ i.size = 1 := by
    cases h : P.info? E with
    | none => simp [h] at hi
    | some i => exact ⟨i, rfl, by simpa [h] using hi⟩
  unfold Instr.index
  simp only [asIntOf, Sem.run_bind, Sem.run_pure, Result.andThen_ok, run_underlying hT]
  rw [if_pos ⟨by omega, hlt⟩]
  cases d <;> simp_all [sizeOf, typeInfo, part, isAgg, run_underlying hE]

/-- The element at a place (0 where there is none). -/
def iat (l : List Int) (k : Nat) : Int := l.getD k 0
def fat (l : List Nat) (k : Nat) : Nat := l.getD k 0
def i16s (l : List Int) : Array Value := (l.map (Value.int .i16)).toArray
def f32s (l : List Nat) : Array Value := (l.map (Value.float .f32)).toArray
theorem i16s_at {l : List Int} {k n : Nat} (hl : l.length = n) (hk : k < n) : (i16s l)[k]? = some (.int .i16 (iat l k)) := by
  have : k < l.length := by omega
  simp [i16s, iat, this]
theorem f32s_at {l : List Nat} {k n : Nat} (hl : l.length = n) (hk : k < n) : (f32s l)[k]? = some (.float .f32 (fat l k)) := by
  have : k < l.length := by omega
  simp [f32s, fat, this]
theorem i16s_size (l : List Int) : (i16s l).size = l.length := by simp [i16s]
theorem f32s_size (l : List Nat) : (f32s l).size = l.length := by simp [f32s]

theorem cast_beq (x y : Nat) : ((x : Int) == (y : Int)) = (x == y) := by rw [Bool.eq_iff_iff]; simp only [beq_iff_eq]; omega
theorem ret_bool {a b : Bool} (h : a = b) : Ending.returned (.bool a) = .returned (.bool b) := by rw [h]
theorem ret_int {k : IntKind} {a b : Int} (h : a = b) : Ending.returned (.int k a) = .returned (.int k b) := by rw [h]
theorem ret_float {k : FloatKind} {a b : Nat} (h : a = b) : Ending.returned (.float k a) = .returned (.float k b) := by rw [h]

theorem hid {p : Prop} (h : p) : Hid p := h

/-- 'Below' on both sides of a pure step. -/
theorem below_trans {B : Nat} {a b c : World} (h : Below B a b) (k : Below b.heap.size b c) (hB : B ≤ b.heap.size) : Below B a c := h.trans (k.mono hB)

/-- Of what lies below nothing has turned. -/
theorem bcell {W w1 : World} (hb : Below W.heap.size W w1) : (∀ b o, b < W.heap.size → w1.cell? ⟨b, o, none⟩ = W.cell? ⟨b, o, none⟩) ∧ (∀ b o, b < W.heap.size → w1.frozen? ⟨b, o, none⟩ = W.frozen? ⟨b, o, none⟩) :=
  ⟨fun b o h => hb.cell (p := ⟨b, o, none⟩) h, fun b o h => hb.frozen (p := ⟨b, o, none⟩) h⟩

/-- A cell that is there stays there. -/
theorem cell_stays {W w1 : World} (hb : Below W.heap.size W w1) {a : Addr} {v : Value} (h : W.cell? a = some v) : w1.cell? a = some v :=
  (hb.cell (block_lt_of_cell h)).trans h

theorem below_drawn {B : Nat} {a w : World} (h : Below B a w) (n : Nat) : Below B a (w.drewN n) := ⟨h.os, h.tape, h.output, h.size, h.block⟩
theorem cell_drawn (w : World) (n : Nat) (a : Addr) : (w.drewN n).cell? a = w.cell? a := rfl

theorem block_lt {w : World} {b : Nat} {o : Obj} (h : w.heap[b]? = some o) : b < w.heap.size := by
  rcases Nat.lt_or_ge b w.heap.size with h' | h'
  · exact h'
  · rw [Array.getElem?_eq_none h'] at h; cases h

theorem quiet_add_left {P : Program} {f : FuncId} {args : Array Value} {w : World} {a n : Nat} {v : Value}
    (h : Calls P f args (w.drewN (a + n)) fun e w' => e = .returned v ∧ w.drewN (a + n) = w') :
    Calls P f args (w.drewN (a + n)) fun e w'' => e = .returned v ∧ ∃ m, w'' = w.drewN (a + m) :=
  h.mono fun _ _ ⟨he, hm⟩ => ⟨he, n, hm.symm⟩
theorem quiet_left {P : Program} {f : FuncId} {args : Array Value} {w : World} {n : Nat} {v : Value}
    (h : Calls P f args (w.drewN n) fun e w' => e = .returned v ∧ w.drewN n = w') : Calls P f args (w.drewN n) fun e w'' => e = .returned v ∧ ∃ m, w'' = w.drewN m :=
  h.mono fun _ _ ⟨he, hm⟩ => ⟨he, n, hm.symm⟩

/-! ### Whole blocks -/
theorem blk_at (w : World) (o : Obj) (n : Nat) (h : n = w.heap.size) : (w.alloc o).heap[n]? = some o := by subst h; exact heap_alloc_new w o
theorem blk_past (w : World) (o : Obj) (n : Nat) (h : n < w.heap.size) : (w.alloc o).heap[n]? = w.heap[n]? := by
  show (w.heap.push o)[n]? = w.heap[n]?
  rw [Array.getElem?_push, if_neg (Nat.ne_of_lt h)]
theorem blk_row_same (w : World) (g : Nat) (old cs : Array Value) (t : TypeId) (fr : Nat × Nat) (h : w.heap[g]? = some (.cells old t fr)) : (w.setRow g cs).heap[g]? = some (.cells cs t fr) := setRow_heap w g old cs t fr h

theorem wpList_store_row {P : Program} {ops : Array Oper} {rest : List Oper} {o : Oper} {a : Act} {w : World} {Q : Exit → Act → World → Prop} (hgd : o.guard = none) (ty : TypeId) (x y : Operand) (ho : o.op = .store ty x y)
    (g : Nat) (cells : Array Value) (hx : a.eval x = .pointer (some ⟨g, 0, none⟩)) (hy : a.eval y = .agg cells)
    (t : TypeId) (old : Array Value) (hg : w.heap[g]? = some (.cells old t (0, 0))) (hi : (P.info? ty).map (·.size) = some cells.size)
    (hold : old.size = cells.size) (h1 : cells.all (·.oneCell') = true)
    (h : wpList P ops Q rest (a.put o.dst undef) (w.setRow g cells)) : wpList P ops Q (o :: rest) a w :=
  wpList_plain hgd fun _ hK => wp_store_row ty x y ho g cells hx hy t old hg hi hold h1 (hK _ _ h)

theorem below_setRow {B : Nat} {a w : World} (h : Below B a w) {g : Nat} (hg : B ≤ g) (cs : Array Value) : Below B a (w.setRow g cs) :=
  h.trans ⟨rfl, rfl, rfl, by simp, fun k hk => setRow_other w g k cs (by omega)⟩

/-! ### A region that draws its order, whose operations read what was there and whose calls make memory of their own alone -/
/-- 'Below' the heap's own size, closed to simp. -/
def Bel (w w' : World) : Prop := Below w.heap.size w w'
theorem Bel.out {w w' : World} (h : Bel w w') : Below w.heap.size w w' := h
theorem wp_region_below {P : Program} {id : Nat} {Q : Exit → Act → World → Prop} {a : Act} {w : World} {l : List Oper} (hm : P.follows .mixedOrders = true) (hB : Region.lexB .any l.toArray = true)
    (h : wpQuiet P l.toArray (Bel w) (fun a' => ∀ w', Bel w w' → Q .normal a' w') l a) : (Code.region id l.toArray true).wp P Q a w :=
  wp_region_quiet (C := Bel w) hm hB (Below.refl _ _).drew (by simpa using h)

theorem wpQuiet_load_row {P : Program} {ops : Array Oper} {C : World → Prop} {Q : Act → Prop} {rest : List Oper} {o : Oper} {a : Act} (hgd : o.guard = none) (ty : TypeId) (x : Operand) (ho : o.op = .load ty x)
    (g : Nat) (hx : a.eval x = .pointer (some ⟨g, 0, none⟩)) (t : TypeId) (cs : Array Value) (fr : Nat × Nat) (d : TypeDesc) (hg : ∀ w, C w → w.heap[g]? = some (.cells cs t fr))
    (hu : P.underlying ty = some d) (hd : (match d with | .struct _ | .array _ _ => true | _ => false) = true) (hi : (P.info? ty).map (·.size) = some cs.size)
    (h : wpQuiet P ops C Q rest (a.put o.dst (.agg cs))) : wpQuiet P ops C Q (o :: rest) a :=
  wpQuiet_step fun K hK => by
    rw [if_pos (by simp [Region.wanted, hgd])]
    refine ⟨.agg cs, fun w hw => ?_, hK _ h⟩
    unfold Oper.quietAt execOp
    simp only [ho, hx, Instr.loadAt, Instr.sureAddr, Sem.run_bind, Sem.run_pure, Result.andThen_ok, run_loadVar_row w g t ty cs fr d (hg w hw) hu hd hi]
    exact ⟨rfl, rfl⟩

theorem quiet_below {P : Program} {f : FuncId} {args : Array Value} {w wx : World} {v : Value} (hwx : Bel w wx)
    (h : Calls P f args wx fun e w' => e = .returned v ∧ Below wx.heap.size wx w') : Calls P f args wx fun e w' => e = .returned v ∧ Bel w w' :=
  h.mono fun _ _ ⟨he, hb⟩ => ⟨he, below_trans hwx hb hwx.size⟩
theorem quiet_below_same {P : Program} {f : FuncId} {args : Array Value} {w wx : World} {v : Value} (hwx : Bel w wx)
    (h : Calls P f args wx fun e w' => e = .returned v ∧ wx = w') : Calls P f args wx fun e w' => e = .returned v ∧ Bel w w' :=
  h.mono fun _ _ ⟨he, hb⟩ => ⟨he, hb ▸ hwx⟩

theorem i16s_one (l : List Int) : (i16s l).all (·.oneCell') = true := by
  rw [Array.all_eq_true_iff_forall_mem]; intro v hv; simp [i16s] at hv; obtain ⟨x, _, rfl⟩ := hv; rfl
theorem f32s_one (l : List Nat) : (f32s l).all (·.oneCell') = true := by
  rw [Array.all_eq_true_iff_forall_mem]; intro v hv; simp [f32s] at hv; obtain ⟨x, _, rfl⟩ := hv; rfl

end Go.Proofs.Ytboddpifepegcaa
