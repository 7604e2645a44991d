/- Small laws that every text of this seat uses: an element of an array value, float words, worlds below a block number. -/
import Derived.Test.YtcddfpjpjbfneaaRows
import Derived.WalkKit
import Derived.WalkSpells
import Derived.WalkLawsBesides
import Derived.Laws.FloatArith
import Derived.Deep.QuietTactic
import Derived.BigQuiet

namespace Go.Proofs.Ytcddfpjpjbfneaa
open Go.RowKit

/-- An element of an array value. -/
theorem run_index_arr {P : Program} {T E len : Nat} {k : IntKind} {cs : Array Value} {v : Value} (hT : P.underlying T = some (.array len E)) {d : TypeDesc} (hE : P.underlying E = some d)
    (hd : (match d with | .struct _ | .array _ _ => false | _ => true) = true) (hi : (P.info? E).map (·.size) = some 1) (n : Nat) (hn : n < len) (hv : cs[n]? = some v) (w : World) :
    (Instr.index T (.agg cs) (.int k n)).run P w = .ok v w := by
  have hlt : (n : Int) < (len : Int) := by omega
  obtain ⟨i, hi', hs⟩ : ∃ i, P.info? E = some i ∧ i.size = 1 := by
    cases h : P.info? E with
    | none => simp [h] at hi
    | some i => exact ⟨i, rfl, by simpa [h] using hi⟩
  unfold Instr.index
  simp only [asIntOf, Sem.run_bind, Sem.run_pure, Result.andThen_ok, run_underlying hT]
  rw [if_pos ⟨by omega, hlt⟩]
  cases d <;> simp_all [sizeOf, typeInfo, part, isAgg, run_underlying hE]

def i16s (l : List Int) : Array Value := (l.map (Value.int .i16)).toArray
def f32s (l : List Nat) : Array Value := (l.map (Value.float .f32)).toArray
theorem i16s_at {l : List Int} {k n : Nat} (hl : l.length = n) (hk : k < n) : (i16s l)[k]? = some (.int .i16 (l.getD k 0)) := by
  have : k < l.length := by omega
  simp [i16s, this]
theorem f32s_at {l : List Nat} {k n : Nat} (hl : l.length = n) (hk : k < n) : (f32s l)[k]? = some (.float .f32 (l.getD k 0)) := by
  have : k < l.length := by omega
  simp [f32s, this]
theorem i16s_size (l : List Int) : (i16s l).size = l.length := by simp [i16s]
theorem f32s_size (l : List Nat) : (f32s l).size = l.length := by simp [f32s]

theorem cast_beq (x y : Nat) : ((x : Int) == (y : Int)) = (x == y) := by rw [Bool.eq_iff_iff]; simp only [beq_iff_eq]; omega
theorem ret_bool {a b : Bool} (h : a = b) : Ending.returned (.bool a) = .returned (.bool b) := by rw [h]
theorem ret_int {k : IntKind} {a b : Int} (h : a = b) : Ending.returned (.int k a) = .returned (.int k b) := by rw [h]
theorem ret_float {k : FloatKind} {a b : Nat} (h : a = b) : Ending.returned (.float k a) = .returned (.float k b) := by rw [h]

theorem hid {p : Prop} (h : p) : Hid p := h

/-- 'Below' on both sides of a pure step. -/
theorem below_trans {B : Nat} {a b c : World} (h : Below B a b) (k : Below b.heap.size b c) (hB : B ≤ b.heap.size) : Below B a c := h.trans (k.mono hB)

/-- Of what lies below nothing has turned. -/
theorem bcell {W w1 : World} (hb : Below W.heap.size W w1) : (∀ b o, b < W.heap.size → w1.cell? ⟨b, o, none⟩ = W.cell? ⟨b, o, none⟩) ∧ (∀ b o, b < W.heap.size → w1.frozen? ⟨b, o, none⟩ = W.frozen? ⟨b, o, none⟩) :=
  ⟨fun b o h => hb.cell (p := ⟨b, o, none⟩) h, fun b o h => hb.frozen (p := ⟨b, o, none⟩) h⟩

/-- A cell that is there stays there. -/
theorem cell_stays {W w1 : World} (hb : Below W.heap.size W w1) {a : Addr} {v : Value} (h : W.cell? a = some v) : w1.cell? a = some v :=
  (hb.cell (block_lt_of_cell h)).trans h

end Go.Proofs.Ytcddfpjpjbfneaa
