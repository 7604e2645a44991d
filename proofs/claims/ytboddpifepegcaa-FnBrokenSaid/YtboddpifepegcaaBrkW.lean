/- Contracts wanted for the law on broken slats: floors, dark stripes, months and facings, each with what it says. -/
import Derived.Test.YtboddpifepegcaaBrkP
import Derived.Test.YtboddpifepegcaaDrawA
import Derived.Test.YtboddpifepegcaaSameN
import Derived.Test.YtboddpifepegcaaSlab
import Derived.Great.BuildSlice
namespace Go.Proofs.Ytboddpifepegcaa
set_option maxRecDepth 20000
open Go.RowKit

theorem c_specIsPart (x : Nat) (w : World) :
    Calls Try.prog 30 #[.float .f32 x] w fun e w' => e = .returned (.bool (isPart x)) ∧ w = w' := by
  go_enter Try.func30, Try.ntmps30
  go_wp2_with (go_at_call 67; refine (c_l01Part _ _).mono ?_; rintro e w1 ⟨rfl, rfl⟩)
  go_ret
  exact ⟨rfl, rfl⟩
/-- A whole row is read under a guard that holds. -/
theorem wpList_load_rowg {P : Program} {ops : Array Oper} {rest : List Oper} {o : Oper} {a : Act} {w : World} {Q : Exit → Act → World → Prop} (hgd : Region.wanted o (yielded ops a.tmps) = true) (ty : TypeId) (x : Operand) (ho : o.op = .load ty x)
    (g : Nat) (hx : a.eval x = .pointer (some ⟨g, 0, none⟩)) (t : TypeId) (cs : Array Value) (fr : Nat × Nat) (d : TypeDesc) (hg : w.heap[g]? = some (.cells cs t fr))
    (hu : P.underlying ty = some d) (hd : (match d with | .struct _ | .array _ _ => true | _ => false) = true) (hi : (P.info? ty).map (·.size) = some cs.size)
    (h : wpList P ops Q rest (a.put o.dst (.agg cs)) w) : wpList P ops Q (o :: rest) a w := by
  unfold wpList
  rw [if_pos hgd]
  exact .inl (wp_load_row ty x ho g hx t cs fr d hg hu hd hi h)
theorem put_new {w0 w : World} (h : Below w0.heap.size w0 w) (z cs : Array Value) (T : TypeId) :
    Below w0.heap.size w0 ((w.alloc (.cells z T)).setRow w.heap.size cs) ∧ ((w.alloc (.cells z T)).setRow w.heap.size cs).heap[w.heap.size]? = some (.cells cs T (0, 0)) ∧ Below w.heap.size w ((w.alloc (.cells z T)).setRow w.heap.size cs) :=
  ⟨below_setRow (h.alloc h.size _) h.size _, blk_row_same _ _ z cs _ _ (blk_at _ _ _ rfl), below_setRow ((Below.refl _ _).alloc (Nat.le_refl _) _) (Nat.le_refl _) _⟩
/-- All that is told of a floor. -/
structure FloorAll (B : Bld) (h : Int) (m m' : Nat) (bd D : Nat) (F : List Nat) : Prop where
  len : F.length = 24
  fin : ∀ j, isFin (fat F j) = true
  part : ∀ j, In0 (fat F j) W1
  past : ∀ j : Nat, j < 24 → B.sl ≤ (j : Int) → fat F j = 0
  known : m' = m ∨ m' = 0
  bit : ∀ k, k < 24 → ((D : Int) / 2 ^ k % 2 = 1 ↔ fLt (fat F k) bd = true)
  small : D < 16777216
  fImpl : ∀ w, Calls Try.prog 23 #[.agg (bcells B), .int .i64 h, .int .u32 (m : Int)] w fun e w' => e = .returned (.tuple #[.agg (f32s F), .int .i64 0]) ∧ Below w.heap.size w w'
  fSpec : ∀ w, Calls Try.prog 24 #[.agg (bcells B), .int .i64 h, .int .u32 (m : Int)] w fun e w' => e = .returned (.tuple #[.agg (f32s F), .int .i64 0]) ∧ Below w.heap.size w w'
  fAgain : ∀ w, Calls Try.prog 23 #[.agg (bcells B), .int .i64 h, .int .u32 (m' : Int)] w fun e w' => e = .returned (.tuple #[.agg (f32s F), .int .i64 0]) ∧ Below w.heap.size w w'
  bImpl : ∀ w, Calls Try.prog 25 #[.agg (bcells B), .int .i64 h, .agg (f32s F)] w fun e w' => e = .returned (.tuple #[.int .u32 (m' : Int), .int .i64 0]) ∧ Below w.heap.size w w'
  bSpec : ∀ w, Calls Try.prog 26 #[.agg (bcells B), .int .i64 h, .agg (f32s F)] w fun e w' => e = .returned (.tuple #[.int .u32 (m' : Int), .int .i64 0]) ∧ Below w.heap.size w w'
  dImpl : ∀ w, Calls Try.prog 27 #[.agg (f32s F), .float .f32 bd] w fun e w' => e = .returned (.tuple #[.int .u32 (D : Int), .int .i64 0]) ∧ Below w.heap.size w w'
  sImpl : ∀ w, Calls Try.prog 29 #[.agg (f32s F), .agg (f32s F)] w fun e w' => e = .returned (.bool true) ∧ Below w.heap.size w w'
  sSpec : ∀ w, Calls Try.prog 28 #[.agg (f32s F), .agg (f32s F)] w fun e w' => e = .returned (.bool true) ∧ Below w.heap.size w w'
theorem floor_all {B : Bld} (wf : WfB B) (hB : OkB B) (b0 : okB B = true) {h : Int} (h1 : 1 ≤ h) (h2 : h ≤ 64) {m : Nat} (hm : m < 2 ^ nS B) {bd : Nat} (hbd : In0 bd W1) :
    ∃ m' D F, FloorAll B h m m' bd D F := by
  obtain ⟨m', hk, e1, e2, c1, c2, e3⟩ := broken_law hB h1 h2 hm b0
  have nl := nS_le B
  have hp : 2 ^ nS B ≤ 2 ^ 24 := Nat.pow_le_pow_right (by omega) nl
  have um : (0 : Int) ≤ (m : Int) ∧ (m : Int) < 4294967296 := by omega
  have um' : (0 : Int) ≤ (m' : Int) ∧ (m' : Int) < 4294967296 := by omega
  have lF : (flL B h m).length = 24 := flL_len B h m
  have fF := fin_flL wf h (m : Int)
  have hd := dark_range (flL B h m) bd
  obtain ⟨D, hD⟩ : ∃ D : Nat, dark (flL B h m) bd 24 = (D : Int) := ⟨(dark (flL B h m) bd 24).toNat, by omega⟩
  have hpart := in_part hbd
  have word : ∀ k, k < 24 → fat (flL B h m) k < 4294967296 := fun k _ => (floor_part hB h1 h2 c1 k).word
  refine ⟨m', D, flL B h m, ⟨lF, fF, floor_part hB h1 h2 c1, fun j hj hs => floor_past c1 hj hs, hk, fun k hk => by rw [← hD]; exact dark_bit _ _ hk, by omega, fun w => ?_, fun w => ?_, fun w => ?_, fun w => ?_, fun w => ?_, fun w => ?_, fun w => ?_, fun w => ?_⟩⟩
  · have := c_implFloorOf B wf h m um w; rwa [c1] at this
  · have := c_specFloorOf B wf h m um w; rwa [c1] at this
  · have := c_implFloorOf B wf h m' um' w; rwa [c2, e3] at this
  · have := c_implBrokenFrom B wf _ lF h w; rwa [e1, e2] at this
  · have := c_specBrokenFrom B wf _ lF h w; rwa [e1, e2] at this
  · have := c_implDarkStripes (flL B h m) bd lF w
    unfold darkN darkC at this
    rwa [hpart, if_pos rfl, if_pos rfl, hD] at this
  · have := c_implSameFloor _ _ lF lF word word w; rwa [sameTo_self fF] at this
  · have := c_specSameFloor _ _ lF lF w; rwa [sameTo_self fF] at this
/-- Two lists by number. -/
def two (a b : List Int) (i : Nat) : List Int := if i = 0 then a else b
theorem two_ok {h1 t1 h2 t2 : List Int} (a1 : h1.length = 24) (b1 : t1.length = 24) (a2 : h2.length = 24) (b2 : t2.length = 24) (o1 : okS h1 t1 = true) (o2 : okS h2 t2 = true) : SunsOk (two h1 h2) (two t1 t2) 2 ∧ okSs (two h1 h2) (two t1 t2) 2 = true := by
  refine ⟨fun i hi => ?_, okSs_yes (fun i hi => ?_)⟩
  · match i, hi with
    | 0, _ => exact ⟨a1, b1, (okS_I16 o1).1, (okS_I16 o1).2⟩
    | 1, _ => exact ⟨a2, b2, (okS_I16 o2).1, (okS_I16 o2).2⟩
  · match i, hi with
    | 0, _ => exact o1
    | 1, _ => exact o2
theorem two_built {h1 t1 h2 t2 : List Int} (a1 : h1.length = 24) (b1 : t1.length = 24) (a2 : h2.length = 24) (b2 : t2.length = 24) (base : Array Value) (hb : base.size = 96) :
    ∃ r, Instr.fill (fun i => some (i * 48, 48)) base [(0, .agg (scells h1 t1)), (1, .agg (scells h2 t2))] = some r ∧ ∀ w : World, Rws (w.alloc (.cells r 59)) (some ⟨w.heap.size, 0, none⟩) 2 48 (scs (two h1 h2) (two t1 t2)) := by
  have s1 := scells_size a1 b1
  have s2 := scells_size a2 b2
  obtain ⟨r, hr, hs, hk⟩ := Great.fill_dense (s := 48) (by omega) [.agg (scells h1 t1), .agg (scells h2 t2)] 0 base (fun v hv => by
    simp only [List.mem_cons, List.not_mem_nil, or_false] at hv
    rcases hv with rfl | rfl
    · exact s1
    · exact s2) (by rw [hb]; exact Nat.le_refl _)
  refine ⟨r, hr, fun w => ⟨by omega, fun _ => ⟨w.heap.size, 0, rfl, fun i hi j v hv => ?_⟩⟩⟩
  have hB := blk_at w (.cells r 59) _ rfl
  rw [cell_of_row _ _ _ _ _ _ hB]
  have hj : j < 48 := by
    have hl : (scs (two h1 h2) (two t1 t2) i).length = 48 := by
      match i, hi with
      | 0, _ => simpa [scs, two] using s1
      | 1, _ => simpa [scs, two] using s2
    rcases Nat.lt_or_ge j 48 with h | h
    · exact h
    · rw [List.getElem?_eq_none (by omega)] at hv; cases hv
  rw [hk, if_pos (by simp; omega), show (0 + i * 48 + j) / 48 - 0 = i by omega, show (0 + i * 48 + j) % 48 = j by omega]
  match i, hi with
  | 0, _ =>
    have : (scells h1 t1)[j]? = some v := by simpa [scs, two] using hv
    simpa [Value.cells] using this
  | 1, _ =>
    have : (scells h2 t2)[j]? = some v := by simpa [scs, two] using hv
    simpa [Value.cells] using this
theorem info_sun : ∃ ie z, Try.prog.info? 59 = some ie ∧ ie.zero = some z ∧ ie.size = 48 := by
  have h : (Try.prog.info? 59).map (fun i => (i.zero.isSome, i.size)) = some (true, 48) := by kernel_rfl
  cases hi : Try.prog.info? 59 with
  | none => rw [hi] at h; cases h
  | some ie =>
    rw [hi] at h
    simp only [Option.map_some, Option.some.injEq, Prod.mk.injEq] at h
    obtain ⟨z, hz⟩ := Option.isSome_iff_exists.1 h.1
    exact ⟨ie, z, rfl, hz, h.2⟩
/-- The year of two suns at a facing: light by month, the best month, the best facing. -/
structure YearAll (B : Bld) (H T : Nat → List Int) (f : Int) (d : Nat → Nat) (bi : Nat) (g : Nat → Nat) (bj : Nat) : Prop where
  dfin : ∀ i, i < 2 → isFin (d i) = true
  dIs : ∀ i, i < 2 → d i = dayW B (H i) (T i) f
  best : bi < 2
  most : ∀ i, i < 2 → fx (d i) ≤ fx (d bi)
  first : ∀ i, i < bi → fx (d i) < fx (d bi)
  gfin : ∀ j, j ≤ 6 → isFin (g j) = true
  gIs : ∀ j, j ≤ 6 → g j = fadd (fadd 0 (dayW B (H 0) (T 0) ((j * 40 : Nat) : Int))) (dayW B (H 1) (T 1) ((j * 40 : Nat) : Int))
  faced : bj ≤ 6
  gmost : ∀ j, j ≤ 6 → fx (g j) ≤ fx (g bj)
  gfirst : ∀ j, j < bj → fx (g j) < fx (g bj)
  year : ∀ a ca w, Rws w a 2 48 (scs H T) → Calls Try.prog 32 #[.agg (bcells B), .slice a 2 ca, .int .i64 f] w fun e w' => (∃ q cb, e = .returned (.tuple #[.slice (some ⟨q, 0, none⟩) 2 cb, .int .i64 0]) ∧ ∀ i, i < 2 → w'.cell? ⟨q, i, none⟩ = some (.float .f32 (d i))) ∧ Below w.heap.size w w'
  mImpl : ∀ a ca w, Rws w a 2 48 (scs H T) → Calls Try.prog 33 #[.agg (bcells B), .slice a 2 ca, .int .i64 f] w fun e w' => e = .returned (.tuple #[.int .i64 (bi : Int), .float .f32 (d bi), .int .i64 0]) ∧ Below w.heap.size w w'
  mSpec : ∀ a ca w, Rws w a 2 48 (scs H T) → Calls Try.prog 34 #[.agg (bcells B), .slice a 2 ca, .int .i64 f] w fun e w' => e = .returned (.tuple #[.int .i64 (bi : Int), .float .f32 (d bi), .int .i64 0]) ∧ Below w.heap.size w w'
  fImpl : ∀ a ca w, Rws w a 2 48 (scs H T) → Calls Try.prog 35 #[.agg (bcells B), .slice a 2 ca, .int .i64 40] w fun e w' => e = .returned (.tuple #[.int .i64 ((bj * 40 : Nat) : Int), .float .f32 (g bj), .int .i64 0]) ∧ Below w.heap.size w w'
  fSpec : ∀ a ca w, Rws w a 2 48 (scs H T) → Calls Try.prog 36 #[.agg (bcells B), .slice a 2 ca, .int .i64 40] w fun e w' => e = .returned (.tuple #[.int .i64 ((bj * 40 : Nat) : Int), .float .f32 (g bj), .int .i64 0]) ∧ Below w.heap.size w w'
theorem year_all {B : Bld} (wf : WfB B) (hB : OkB B) (b0 : okB B = true) {H T : Nat → List Int} (hok : SunsOk H T 2) (h2 : okSs H T 2 = true) {f : Int} (f0 : 0 ≤ f) (f1 : f ≤ 255) :
    ∃ d bi g bj, YearAll B H T f d bi g bj := by
  have hc : ylC B H T 2 f = 0 := by
    unfold ylC; rw [b0, h2, show inB f 0 255 = true by simp [inB]; omega]; rfl
  have yc : yfC B H T 2 40 = 0 := by unfold yfC; rw [b0, h2]; rfl
  have df : ∀ i, i < 2 → isFin (bmG B H T f i) = true := fun i hi => (day_in hB (okSs_at h2 hi) f).fin
  have gf : ∀ j, isFin (yfG B H T 2 40 j) = true := fun j => (yfG_in hB h2 (by omega) 40 j).fin
  have b1 := bestG_at (bmG B H T f) 1
  have b2 := bestG_at (yfG B H T 2 40) 6
  have l1 := bestG_law (G := bmG B H T f) (N := 1) (fun i hi => df i (by omega)) 1 (Nat.le_refl _)
  have l2 := bestG_law (G := yfG B H T 2 40) (N := 6) (fun i _ => gf i) 6 (Nat.le_refl _)
  have mi : bmI B H T 2 f = ((bestG (bmG B H T f) 1).1 : Int) := by unfold bmI; rw [if_pos hc]
  have mv : bmV B H T 2 f = bmG B H T f (bestG (bmG B H T f) 1).1 := by unfold bmV; rw [if_pos hc]; exact b1.2
  have fi : yfI B H T 2 40 = (((bestG (yfG B H T 2 40) 6).1 * 40 : Nat) : Int) := by unfold yfI; rw [if_pos yc]; rfl
  have fv : yfV B H T 2 40 = yfG B H T 2 40 (bestG (yfG B H T 2 40) 6).1 := by unfold yfV; rw [if_pos yc]; exact b2.2
  rw [b1.2] at l1
  rw [b2.2] at l2
  refine ⟨bmG B H T f, (bestG (bmG B H T f) 1).1, yfG B H T 2 40, (bestG (yfG B H T 2 40) 6).1, ⟨df, fun _ _ => rfl, by omega, fun i hi => l1.1 i (by omega), l1.2, fun j _ => gf j, fun j _ => ?_, b2.1, fun j hj => l2.1 j hj, l2.2, ?_, ?_, ?_, ?_, ?_⟩⟩
  · unfold yfG
    show leftK _ 2 = _
    rw [leftK, leftK, leftK, yearK_at _ _ _ _ (by omega), yearK_at _ _ _ _ (by omega)]
  · intro a ca w hx
    refine (c_implYearLight B wf a 2 ca H T f w hok hx).mono ?_
    rintro e w' ⟨⟨v, rfl, G⟩, hb⟩
    have el : ylL B H T 2 f = yearK B H T f 2 := by unfold ylL; rw [if_pos hc]
    rw [el] at G
    unfold GotF at G
    rw [yearK_len] at G
    rcases G.2 with ⟨_, h0⟩ | ⟨q, cap, cur, rfl, _⟩
    · simp at h0
    · rw [hc]
      refine ⟨⟨q, cap, rfl, fun i hi => ?_⟩, hb⟩
      have := G.cellAt i (by omega)
      rw [this, f32_at (by rw [yearK_len]; exact hi), yearK_at _ _ _ _ hi]
      rfl
  · intro a ca w hx; have := c_implBestMonth B wf a 2 ca H T f w hok hx; rwa [mi, mv, hc] at this
  · intro a ca w hx; have := c_specBestMonth B wf a 2 ca H T f w hok hx; rwa [mi, mv, hc] at this
  · intro a ca w hx; have := c_implYearFacing B wf a 2 ca H T 40 w hok hx; rwa [fi, fv, yc] at this
  · intro a ca w hx; have := c_specYearFacing B wf a 2 ca H T 40 w hok hx; rwa [fi, fv, yc] at this
end Go.Proofs.Ytboddpifepegcaa
