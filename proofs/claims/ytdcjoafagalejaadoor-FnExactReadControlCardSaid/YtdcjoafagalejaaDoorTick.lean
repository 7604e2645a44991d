/- Controls, states and ticks: plain theory. No program in sight. -/
import Derived.Test.YtdcjoafagalejaaDoorSlab
namespace Go.Proofs.YtdcjoafagalejaaDoor
set_option maxRecDepth 20000
open Go.RowKit

structure Ctl where
  lo : Nat
  hi : Nat
  wi : Nat
  st : Int
  de : Int
  ca : Int
structure WfC (c : Ctl) : Prop where
  lo : c.lo < 4294967296
  hi : c.hi < 4294967296
  wi : c.wi < 4294967296
  st : -128 ≤ c.st ∧ c.st ≤ 127
  de : -128 ≤ c.de ∧ c.de ≤ 127
  ca : -128 ≤ c.ca ∧ c.ca ≤ 127
structure Sta where
  ti : Int
  wa : Int
  so : Int
structure WfS (s : Sta) : Prop where
  ti : -32768 ≤ s.ti ∧ s.ti ≤ 32767
  wa : -128 ≤ s.wa ∧ s.wa ≤ 127
  so : -128 ≤ s.so ∧ s.so ≤ 127
structure Tck where
  li : Nat
  gu : Nat
  he : Int
structure WfT (t : Tck) : Prop where
  li : t.li < 4294967296
  gu : t.gu < 4294967296
  he : -128 ≤ t.he ∧ t.he ≤ 127
def ccells (c : Ctl) : Array Value := #[.float .f32 c.lo, .float .f32 c.hi, .float .f32 c.wi, .int .i8 c.st, .int .i8 c.de, .int .i8 c.ca]
def stcells (s : Sta) : Array Value := #[.int .i16 s.ti, .int .i8 s.wa, .int .i8 s.so]
def tcells (t : Tck) : Array Value := #[.float .f32 t.li, .float .f32 t.gu, .int .i8 t.he]
theorem ccells_one (c : Ctl) : (ccells c).all (·.oneCell') = true := by simp [ccells, Value.oneCell']
theorem stcells_one (s : Sta) : (stcells s).all (·.oneCell') = true := by simp [stcells, Value.oneCell']
theorem tcells_one (t : Tck) : (tcells t).all (·.oneCell') = true := by simp [tcells, Value.oneCell']
def okC (c : Ctl) : Bool := isPart c.lo && (isPart c.hi && (isPart c.wi && (fLe c.lo c.hi && (inB c.st 1 64 && (inB c.de 0 20 && inB c.ca 1 20)))))
def okSt (s : Sta) : Bool := inB s.ti (-64) 64 && (inB s.wa 0 20 && inB s.so 0 20)
def okT (t : Tck) : Bool := isPart t.li && (isPart t.gu && inB t.he 1 64)
structure OkC (c : Ctl) : Prop where
  lo : In0 c.lo W1
  hi : In0 c.hi W1
  wi : In0 c.wi W1
  st : 1 ≤ c.st ∧ c.st ≤ 64
  de : 0 ≤ c.de ∧ c.de ≤ 20
  ca : 1 ≤ c.ca ∧ c.ca ≤ 20
structure OkS (s : Sta) : Prop where
  ti : -64 ≤ s.ti ∧ s.ti ≤ 64
  wa : 0 ≤ s.wa ∧ s.wa ≤ 20
  so : 0 ≤ s.so ∧ s.so ≤ 20
structure OkT (t : Tck) : Prop where
  li : In0 t.li W1
  gu : In0 t.gu W1
  he : 1 ≤ t.he ∧ t.he ≤ 64
theorem OkC.of {c : Ctl} (wf : WfC c) (h : okC c = true) : OkC c := by
  simp only [okC, Bool.and_eq_true] at h
  obtain ⟨h1, h2, h3, -, h5, h6, h7⟩ := h
  simp only [inB, Bool.and_eq_true, decide_eq_true_eq] at h5 h6 h7
  exact ⟨part_in wf.lo h1, part_in wf.hi h2, part_in wf.wi h3, h5, h6, h7⟩
theorem OkS.of {s : Sta} (h : okSt s = true) : OkS s := by
  simp only [okSt, inB, Bool.and_eq_true, decide_eq_true_eq] at h
  exact ⟨h.1, h.2.1, h.2.2⟩
theorem OkT.of {t : Tck} (wf : WfT t) (h : okT t = true) : OkT t := by
  simp only [okT, Bool.and_eq_true] at h
  obtain ⟨h1, h2, h3⟩ := h
  simp only [inB, Bool.and_eq_true, decide_eq_true_eq] at h3
  exact ⟨part_in wf.li h1, part_in wf.gu h2, h3⟩
/-! ### A tick -/
/-- How long the storm lasts on. -/
def stormW (c : Ctl) (s : Sta) (t : Tck) : Int := if fGt t.gu c.wi then c.ca else if 0 < s.so then s.so - 1 else s.so
def lightW (b : Bld) (s : Sta) (t : Tck) : Nat := fmul t.li (passW (tiltB b s.ti) t.he)
def turnW (c : Ctl) (s : Sta) (x : Nat) : Int := if fGt x c.hi then min (s.ti + c.st) 64 else if fLt x c.lo then max (s.ti - c.st) (-64) else s.ti
def upW (c : Ctl) (s : Sta) (t : Tck) : Bool := decide (0 < stormW c s t)
/-- The state behind a tick. -/
def nextW (c : Ctl) (b : Bld) (s : Sta) (t : Tck) : Sta :=
  if 0 < stormW c s t then ⟨s.ti, s.wa, stormW c s t⟩
  else if 0 < s.wa then ⟨s.ti, s.wa - 1, stormW c s t⟩
  else if turnW c s (lightW b s t) = s.ti then ⟨s.ti, s.wa, stormW c s t⟩ else ⟨turnW c s (lightW b s t), c.de, stormW c s t⟩
def inW (c : Ctl) (b : Bld) (s : Sta) (t : Tck) : Nat := if 0 < stormW c s t then t.li else lightW b s t
theorem storm_ok {c : Ctl} (hc : OkC c) {s : Sta} (hs : OkS s) (t : Tck) : 0 ≤ stormW c s t ∧ stormW c s t ≤ 20 := by
  have h1 := hc.ca
  have h2 := hs.so
  unfold stormW; split
  · omega
  · split <;> omega
theorem turn_ok {c : Ctl} (hc : OkC c) {s : Sta} (hs : OkS s) (x : Nat) : -64 ≤ turnW c s x ∧ turnW c s x ≤ 64 := by
  have h1 := hc.st
  have h2 := hs.ti
  unfold turnW; split
  · omega
  · split <;> omega
theorem next_ok {c : Ctl} (hc : OkC c) (b : Bld) {s : Sta} (hs : OkS s) (t : Tck) : OkS (nextW c b s t) := by
  have h1 := storm_ok hc hs t
  have h2 := turn_ok hc hs (lightW b s t)
  have h3 := hs.wa
  have h4 := hc.de
  unfold nextW; split
  · exact ⟨hs.ti, h3, h1⟩
  · split
    · exact ⟨hs.ti, by simp only; omega, h1⟩
    · split
      · exact ⟨hs.ti, h3, h1⟩
      · exact ⟨h2, h4, h1⟩
theorem next_up (c : Ctl) (b : Bld) (s : Sta) (t : Tck) : decide (0 < (nextW c b s t).so) = upW c s t := by
  unfold nextW upW
  split
  · rfl
  · split
    · rfl
    · split <;> rfl
theorem light_in {b : Bld} (hb : OkB b) {s : Sta} (hs : OkS s) {t : Tck} (ht : OkT t) : In0 (lightW b s t) WP :=
  ht.li.mul (pass_fin (hb.tilt hs.ti.1 hs.ti.2) ht.he.1 ht.he.2).all (by decide) (by decide +kernel)
theorem in_in {c : Ctl} {b : Bld} (hb : OkB b) {s : Sta} (hs : OkS s) {t : Tck} (ht : OkT t) : In0 (inW c b s t) WP := by
  unfold inW; split
  · exact ht.li.mono (by decide +kernel) (by decide)
  · exact light_in hb hs ht
/-! ### Many ticks -/
def staK (c : Ctl) (b : Bld) (s : Sta) (T : Nat → Tck) : Nat → Sta
  | 0 => s
  | k + 1 => nextW c b (staK c b s T k) (T k)
theorem staK_succ (c : Ctl) (b : Bld) (s : Sta) (T : Nat → Tck) (k : Nat) : staK c b s T (k + 1) = nextW c b (staK c b s T k) (T k) := rfl
theorem staK_ok {c : Ctl} (hc : OkC c) (b : Bld) {s : Sta} (hs : OkS s) (T : Nat → Tck) : ∀ k, OkS (staK c b s T k)
  | 0 => hs
  | k + 1 => next_ok hc b (staK_ok hc b hs T k) (T k)
def inK (c : Ctl) (b : Bld) (s : Sta) (T : Nat → Tck) (k : Nat) : Nat := inW c b (staK c b s T k) (T k)
def upK (c : Ctl) (b : Bld) (s : Sta) (T : Nat → Tck) (k : Nat) : Bool := upW c (staK c b s T k) (T k)
def raisK (u : Nat → Bool) : Nat → Nat
  | 0 => 0
  | k + 1 => if u k then raisK u k + 1 else raisK u k
theorem raisK_le (u : Nat → Bool) : ∀ k, raisK u k ≤ k
  | 0 => Nat.le_refl _
  | k + 1 => by have := raisK_le u k; unfold raisK; split <;> omega
theorem raisK_yes {u : Nat → Bool} {k : Nat} (h : u k = true) : raisK u (k + 1) = raisK u k + 1 := by rw [raisK, if_pos h]
theorem raisK_no {u : Nat → Bool} {k : Nat} (h : u k = false) : raisK u (k + 1) = raisK u k := by rw [raisK, if_neg (by simp [h])]
def lightsT (x : Nat → Nat) (k : Nat) : List Nat := (List.range k).map x
theorem lightsT_succ (x : Nat → Nat) (k : Nat) : lightsT x (k + 1) = lightsT x k ++ [x k] := by simp [lightsT, List.range_succ]
theorem lightsT_len (x : Nat → Nat) (k : Nat) : (lightsT x k).length = k := by simp [lightsT]
theorem lightsT_at (x : Nat → Nat) {k i : Nat} (h : i < k) : fat (lightsT x k) i = x i := by simp [lightsT, fat, h]
def glareK (g : Nat → Bool) (k : Nat) : List Int := ((List.range k).filter g).map fun i : Nat => (i : Int)
theorem glareK_yes {g : Nat → Bool} {k : Nat} (h : g k = true) : glareK g (k + 1) = glareK g k ++ [(k : Int)] := by simp [glareK, List.range_succ, h]
theorem glareK_no {g : Nat → Bool} {k : Nat} (h : g k = false) : glareK g (k + 1) = glareK g k := by simp [glareK, List.range_succ, h]
theorem glareK_len (g : Nat → Bool) (k : Nat) : (glareK g k).length ≤ k := by
  have h := List.length_filter_le g (List.range k)
  simpa [glareK] using h
/-! ### Slices of ticks -/
def TcksOk (T : Nat → Tck) (n : Nat) : Prop := ∀ i, i < n → WfT (T i)
def tcs (T : Nat → Tck) (i : Nat) : List Value := (tcells (T i)).toList
theorem tcs_len (T : Nat → Tck) (i : Nat) : (tcs T i).length = 3 := rfl
def okTs (T : Nat → Tck) (n : Nat) : Bool := (List.range n).all fun i => okT (T i)
theorem okTs_yes {T : Nat → Tck} {n : Nat} (h : ∀ i, i < n → okT (T i) = true) : okTs T n = true := by
  simp only [okTs, List.all_eq_true, List.mem_range]; exact h
theorem okTs_at {T : Nat → Tck} {n i : Nat} (h : okTs T n = true) (hi : i < n) : okT (T i) = true := List.all_eq_true.1 h i (List.mem_range.2 hi)
theorem okTs_no {T : Nat → Tck} {n i : Nat} (hi : i < n) (h : okT (T i) = false) : okTs T n = false := by
  simp only [okTs, List.all_eq_false, List.mem_range]; exact ⟨i, hi, by simp [h]⟩
/-- The code of a control, a blind, a state and ticks. -/
def tkC (c : Ctl) (b : Bld) (s : Sta) (T : Nat → Tck) (n : Nat) : Int := if okC c && okB b && okSt s && okTs T n then (if n ≤ 100 then 0 else 3) else 1
theorem tkC_zero {c : Ctl} {b : Bld} {s : Sta} {T : Nat → Tck} {n : Nat} (h : tkC c b s T n = 0) : okC c = true ∧ okB b = true ∧ okSt s = true ∧ okTs T n = true ∧ n ≤ 100 := by
  unfold tkC at h
  cases hk : okC c && okB b && okSt s && okTs T n
  · rw [hk] at h; simp at h
  · rw [hk] at h
    simp only [if_true] at h
    simp only [Bool.and_eq_true] at hk
    by_cases hn : n ≤ 100
    · exact ⟨hk.1.1.1, hk.1.1.2, hk.1.2, hk.2, hn⟩
    · rw [if_neg hn] at h; cases h
/-! ### Arguments -/
theorem fits_control {c : Array Value} (h : FitsAll [.f .f32, .f .f32, .f .f32, .i .i8, .i .i8, .i .i8] c.toList) : ∃ a, c = ccells a ∧ WfC a := by
  obtain ⟨hl, hf⟩ := h
  obtain ⟨l⟩ := c
  match l, hl with
  | [v0, v1, v2, v3, v4, v5], _ =>
    obtain ⟨x0, rfl, h0⟩ := hf 0 _ v0 rfl rfl
    obtain ⟨x1, rfl, h1⟩ := hf 1 _ v1 rfl rfl
    obtain ⟨x2, rfl, h2⟩ := hf 2 _ v2 rfl rfl
    obtain ⟨x3, rfl, h3⟩ := hf 3 _ v3 rfl rfl
    obtain ⟨x4, rfl, h4⟩ := hf 4 _ v4 rfl rfl
    obtain ⟨x5, rfl, h5⟩ := hf 5 _ v5 rfl rfl
    exact ⟨⟨x0, x1, x2, x3, x4, x5⟩, rfl, ⟨wf_f32 h0, wf_f32 h1, wf_f32 h2, wf_i8 h3, wf_i8 h4, wf_i8 h5⟩⟩
theorem fits_state {c : Array Value} (h : FitsAll [.i .i16, .i .i8, .i .i8] c.toList) : ∃ a, c = stcells a ∧ WfS a := by
  obtain ⟨hl, hf⟩ := h
  obtain ⟨l⟩ := c
  match l, hl with
  | [v0, v1, v2], _ =>
    obtain ⟨x0, rfl, h0⟩ := hf 0 _ v0 rfl rfl
    obtain ⟨x1, rfl, h1⟩ := hf 1 _ v1 rfl rfl
    obtain ⟨x2, rfl, h2⟩ := hf 2 _ v2 rfl rfl
    exact ⟨⟨x0, x1, x2⟩, rfl, ⟨wf_i16 h0, wf_i8 h1, wf_i8 h2⟩⟩
theorem fits_tick {c : Array Value} (h : FitsAll [.f .f32, .f .f32, .i .i8] c.toList) : ∃ a, c = tcells a ∧ WfT a := by
  obtain ⟨hl, hf⟩ := h
  obtain ⟨l⟩ := c
  match l, hl with
  | [v0, v1, v2], _ =>
    obtain ⟨x0, rfl, h0⟩ := hf 0 _ v0 rfl rfl
    obtain ⟨x1, rfl, h1⟩ := hf 1 _ v1 rfl rfl
    obtain ⟨x2, rfl, h2⟩ := hf 2 _ v2 rfl rfl
    exact ⟨⟨x0, x1, x2⟩, rfl, ⟨wf_f32 h0, wf_f32 h1, wf_i8 h2⟩⟩
theorem ticks_of_rows {w : World} {a : Option Addr} {n : Nat} {rows : List (List Value)} (h : RowsIn w a n [Leaf.f .f32, .f .f32, .i .i8].length [.f .f32, .f .f32, .i .i8] rows) : ∃ T, TcksOk T n ∧ RwsAny w a n 3 (tcs T) := by
  have each : ∀ i, ∃ p : Tck, i < n → rows[i]? = some (tcells p).toList ∧ WfT p := by
    intro i
    by_cases hi : i < n
    · have hil : i < rows.length := by rw [h.len]; exact hi
      have hr : rows[i]? = some rows[i] := List.getElem?_eq_getElem hil
      obtain ⟨t, e, h1⟩ := fits_tick (c := (rows[i]).toArray) (by simpa using h.fits i _ hr)
      exact ⟨t, fun _ => ⟨by rw [hr, ← e], h1⟩⟩
    · exact ⟨⟨0, 0, 0⟩, fun h => absurd h hi⟩
  obtain ⟨F, hF⟩ := Classical.skolem.1 each
  exact ⟨F, fun i hi => (hF i hi).2, rws_of_rows h (by simp) fun i hi => (hF i hi).1⟩
/-- A control in memory. -/
structure CtlAt (w : World) (b : Nat) (c : Ctl) : Prop where
  lo : w.cell? ⟨b, 0, none⟩ = some (.float .f32 c.lo)
  hi : w.cell? ⟨b, 1, none⟩ = some (.float .f32 c.hi)
  wi : w.cell? ⟨b, 2, none⟩ = some (.float .f32 c.wi)
  st : w.cell? ⟨b, 3, none⟩ = some (.int .i8 c.st)
  de : w.cell? ⟨b, 4, none⟩ = some (.int .i8 c.de)
  ca : w.cell? ⟨b, 5, none⟩ = some (.int .i8 c.ca)
theorem CtlAt.below {w w' : World} {b : Nat} {c : Ctl} (h : CtlAt w b c) (hb : Below w.heap.size w w') : CtlAt w' b c :=
  ⟨cell_stays hb h.lo, cell_stays hb h.hi, cell_stays hb h.wi, cell_stays hb h.st, cell_stays hb h.de, cell_stays hb h.ca⟩
theorem CtlAt.of_block {w : World} {b : Nat} {c : Ctl} {T : TypeId} (hb : w.heap[b]? = some (.cells (ccells c) T (0, 0))) : CtlAt w b c :=
  ⟨by rw [cell_of_row w b _ _ _ _ hb]; rfl, by rw [cell_of_row w b _ _ _ _ hb]; rfl, by rw [cell_of_row w b _ _ _ _ hb]; rfl, by rw [cell_of_row w b _ _ _ _ hb]; rfl, by rw [cell_of_row w b _ _ _ _ hb]; rfl, by rw [cell_of_row w b _ _ _ _ hb]; rfl⟩
structure StaAt (w : World) (b : Nat) (s : Sta) : Prop where
  ti : w.cell? ⟨b, 0, none⟩ = some (.int .i16 s.ti)
  wa : w.cell? ⟨b, 1, none⟩ = some (.int .i8 s.wa)
  so : w.cell? ⟨b, 2, none⟩ = some (.int .i8 s.so)
theorem StaAt.below {w w' : World} {b : Nat} {s : Sta} (h : StaAt w b s) (hb : Below w.heap.size w w') : StaAt w' b s := ⟨cell_stays hb h.ti, cell_stays hb h.wa, cell_stays hb h.so⟩
theorem StaAt.of_block {w : World} {b : Nat} {s : Sta} {T : TypeId} (hb : w.heap[b]? = some (.cells (stcells s) T (0, 0))) : StaAt w b s :=
  ⟨by rw [cell_of_row w b _ _ _ _ hb]; rfl, by rw [cell_of_row w b _ _ _ _ hb]; rfl, by rw [cell_of_row w b _ _ _ _ hb]; rfl⟩
structure TckAt (w : World) (b o : Nat) (t : Tck) : Prop where
  li : w.cell? ⟨b, o, none⟩ = some (.float .f32 t.li)
  gu : w.cell? ⟨b, o + 1, none⟩ = some (.float .f32 t.gu)
  he : w.cell? ⟨b, o + 2, none⟩ = some (.int .i8 t.he)
theorem TckAt.below {w w' : World} {b o : Nat} {t : Tck} (h : TckAt w b o t) (hb : Below w.heap.size w w') : TckAt w' b o t := ⟨cell_stays hb h.li, cell_stays hb h.gu, cell_stays hb h.he⟩
theorem TckAt.of_block {w : World} {b : Nat} {t : Tck} {T : TypeId} (hb : w.heap[b]? = some (.cells (tcells t) T (0, 0))) : TckAt w b 0 t :=
  ⟨by rw [cell_of_row w b _ _ _ _ hb]; rfl, by rw [cell_of_row w b _ _ _ _ hb]; rfl, by rw [cell_of_row w b _ _ _ _ hb]; rfl⟩
theorem TckAt.of_range {w : World} {b o : Nat} {T : Nat → Tck} {i : Nat} (h : w.rangeAt b o (tcs T i)) : TckAt w b o (T i) :=
  ⟨h 0 _ rfl, h 1 _ rfl, h 2 _ rfl⟩
end Go.Proofs.YtdcjoafagalejaaDoor
