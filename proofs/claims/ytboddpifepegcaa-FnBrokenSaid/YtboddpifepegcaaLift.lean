/- From a reading of the arguments to what their cells hold: integers and floats, in whatever structs and arrays they lie. -/
import Derived.Test.YtboddpifepegcaaBase
import Derived.ProofKit
import Derived.OpenShut
import Derived.ShutString
import Derived.ChangeOld
namespace Go.Proofs.Ytboddpifepegcaa
set_option maxRecDepth 20000
open Go.ChangeShapes Go.WideShapes Go.ChangeAt Go.RowKit

theorem own : ownKnob Try.prog.godebug = none := by kernel_rfl
theorem laidOut : laidOutB Try.prog = true := by kernel_rfl

inductive Leaf where
  | i (k : IntKind)
  | f (k : FloatKind)
  | b

def Leaf.Fits : Leaf → Value → Prop
  | .i k, v => ∃ n, v = .int k n ∧ (Lit.int k n).wf = true
  | .f k, v => ∃ x, v = .float k x ∧ (Lit.float k x).wf = true
  | .b, v => ∃ x, v = .bool x

/-- The leaves of the fields, one behind the other, from an offset on. -/
def leafFields (P : Program) (of : TypeId → Option (List Leaf)) : Nat → List Field → Option (List Leaf)
  | _, [] => some []
  | off, f :: fs =>
    match of f.type with
    | none => none
    | some a => if f.offset = off ∧ P.cellsOf f.type = a.length then (leafFields P of (off + a.length) fs).map (a ++ ·) else none

/-- The leaves of a type that is made of integers, floats, bools, arrays and structs alone. -/
def leaves (P : Program) : Nat → TypeId → Option (List Leaf)
  | 0, _ => none
  | m + 1, t =>
    match P.underlying t with
    | some .bool => some [.b]
    | some (.int k) => some [.i k]
    | some (.float k) => some [.f k]
    | some (.array n e) => match leaves P m e with
      | none => none
      | some a => if P.cellsOf e = a.length ∧ P.cellsOf t = n * a.length then some ((List.replicate n a).flatten) else none
    | some (.struct fs) => match leafFields P (leaves P m) 0 fs.toList with
      | none => none
      | some a => if P.cellsOf t = a.length then some a else none
    | _ => none

/-- Cell for cell. -/
def FitsAll (ks : List Leaf) (cs : List Value) : Prop := cs.length = ks.length ∧ ∀ (j : Nat) k v, ks[j]? = some k → cs[j]? = some v → k.Fits v

theorem FitsAll.one {k : Leaf} {v : Value} (h : k.Fits v) : FitsAll [k] [v] := by
  refine ⟨rfl, fun j k' v' h1 h2 => ?_⟩
  cases j with
  | zero => simp at h1 h2; subst h1; subst h2; exact h
  | succ j => simp at h1

theorem FitsAll.append {ks ks' : List Leaf} {cs cs' : List Value} (h : FitsAll ks cs) (h' : FitsAll ks' cs') : FitsAll (ks ++ ks') (cs ++ cs') := by
  refine ⟨by simp [h.1, h'.1], fun j k v h1 h2 => ?_⟩
  rcases Nat.lt_or_ge j ks.length with hj | hj
  · rw [List.getElem?_append_left hj] at h1
    rw [List.getElem?_append_left (by rw [h.1]; exact hj)] at h2
    exact h.2 j k v h1 h2
  · rw [List.getElem?_append_right hj] at h1
    rw [List.getElem?_append_right (by rw [h.1]; exact hj), h.1] at h2
    exact h'.2 _ k v h1 h2

section
variable {H : Type} {enc : TypeId × Value → H} {P : Program} {w : World} {base : Nat} {spare : Nat → Bool} {held : Bool}

theorem fits_fields {of : TypeId → Option (List Leaf)} {n : Nat}
    (ih : ∀ t a cs x, of t = some a → cs.length = P.cellsOf t → DataW.trod enc P w base spare held n t cs = some x → FitsAll a cs) :
    ∀ (fs : List Field) (off : Nat) (cs : List Value) (a : List Leaf), leafFields P of off fs = some a → cs.length = off + a.length →
      (∀ f ∈ fs, (DataW.trod enc P w base spare held n f.type ((cs.drop f.offset).take (P.cellsOf f.type))).isSome = true) → FitsAll a (cs.drop off)
  | [], off, cs, a, h, hl, _ => by
    simp [leafFields] at h
    subst h
    have hl' : cs.length = off := hl
    have : cs.drop off = [] := by rw [List.drop_eq_nil_iff]; omega
    rw [this]
    exact ⟨rfl, fun j k v h1 => by simp at h1⟩
  | f :: fs, off, cs, a, h, hl, hd => by
    simp only [leafFields] at h
    cases hof : of f.type with
    | none => simp [hof] at h
    | some b =>
      simp only [hof] at h
      split at h
      · rename_i hc
        obtain ⟨h1, h2⟩ := hc
        cases hr : leafFields P of (off + b.length) fs with
        | none => simp [hr] at h
        | some c =>
          simp [hr] at h
          subst h
          have hlen : cs.length = off + b.length + c.length := by simp at hl; omega
          have hrest := fits_fields ih fs (off + b.length) cs c hr hlen (fun g hg => hd g (List.mem_cons_of_mem _ hg))
          have hf := hd f List.mem_cons_self
          obtain ⟨x, hx⟩ := Option.isSome_iff_exists.1 hf
          have htk : ((cs.drop f.offset).take (P.cellsOf f.type)).length = P.cellsOf f.type := by simp; omega
          have hb := ih f.type b _ x hof htk hx
          rw [h1, h2] at hb
          have := hb.append hrest
          rwa [show cs.drop (off + b.length) = (cs.drop off).drop b.length from by rw [List.drop_drop], List.take_append_drop] at this
      · cases h

theorem fits_array {a : List Leaf} : ∀ (n : Nat) (cs : List Value), cs.length = n * a.length → (∀ i, i < n → FitsAll a ((cs.drop (i * a.length)).take a.length)) → FitsAll ((List.replicate n a).flatten) cs
  | 0, cs, hl, _ => by
    have : cs = [] := by apply List.eq_nil_of_length_eq_zero; simpa using hl
    subst this
    exact ⟨rfl, fun j k v h1 => by simp at h1⟩
  | n + 1, cs, hl, h => by
    have h0 := h 0 (by omega)
    simp only [Nat.zero_mul, List.drop_zero] at h0
    have hl' : cs.length = n * a.length + a.length := by rw [hl, Nat.succ_mul]
    have hrest := fits_array (a := a) n (cs.drop a.length) (by simp; omega) (fun i hi => by
      have := h (i + 1) (by omega)
      rwa [show (i + 1) * a.length = a.length + i * a.length from by rw [Nat.succ_mul]; omega, ← List.drop_drop] at this)
    have := h0.append hrest
    rw [List.take_append_drop] at this
    simpa [List.replicate_succ] using this

/-- What a reading says of the cells. -/
theorem fits_of_trod : ∀ (m : Nat) (t : TypeId) (a : List Leaf) (fuel : Nat) (cs : List Value) (x : DataW H × List MemPlace), leaves P m t = some a → cs.length = P.cellsOf t →
    DataW.trod enc P w base spare held fuel t cs = some x → FitsAll a cs
  | 0, _, _, _, _, _, h, _, _ => by simp [leaves] at h
  | m + 1, t, a, 0, cs, x, _, _, hx => by simp [DataW.trod] at hx
  | m + 1, t, a, n + 1, cs, x, h, hl, hx => by
    unfold leaves at h
    cases hu : P.underlying t with
    | none => simp [hu] at h
    | some d =>
      rw [hu] at h
      cases d with
      | bool =>
        simp at h; subst h
        unfold DataW.trod at hx
        rw [hu] at hx
        split at hx <;> simp_all
        exact FitsAll.one ⟨_, rfl⟩
      | int k =>
        simp at h; subst h
        unfold DataW.trod at hx
        rw [hu] at hx
        split at hx <;> simp_all
        rename_i k' n'
        obtain ⟨⟨h1, h2⟩, _⟩ := hx
        subst h1
        exact FitsAll.one ⟨_, rfl, h2⟩
      | float k =>
        simp at h; subst h
        unfold DataW.trod at hx
        rw [hu] at hx
        split at hx <;> simp_all
        rename_i k' n'
        obtain ⟨⟨h1, h2⟩, _⟩ := hx
        subst h1
        exact FitsAll.one ⟨_, rfl, h2⟩
      | array len e =>
        simp only at h
        cases he : leaves P m e with
        | none => simp [he] at h
        | some b =>
          simp only [he] at h
          split at h
          · rename_i hc
            obtain ⟨h1, h2⟩ := hc
            simp at h; subst h
            obtain ⟨xs, mm, hm, _, hlc, hxl, hel⟩ := DataW.trod_array hu hx
            have hmm : n = mm := by omega
            subst hmm
            rw [h2] at hlc
            refine fits_array len cs hlc (fun i hi => ?_)
            have hg := hel i hi
            obtain ⟨y, hy⟩ : ∃ y, xs[i]? = some y := ⟨xs[i]'(by omega), List.getElem?_eq_getElem _⟩
            rw [hy, h1] at hg
            have hb : i * b.length + b.length ≤ len * b.length := by
              rw [← Nat.succ_mul]; exact Nat.mul_le_mul_right _ hi
            refine fits_of_trod m e b n _ y he ?_ hg
            rw [h1]; simp; omega
          · cases h
      | struct fs =>
        simp only at h
        cases he : leafFields P (leaves P m) 0 fs.toList with
        | none => simp [he] at h
        | some b =>
          simp only [he] at h
          split at h
          · rename_i hc
            simp at h; subst h
            obtain ⟨xs, mm, hm, _, hlc, hxl, hel⟩ := DataW.trod_struct hu hx
            have hmm : n = mm := by omega
            subst hmm
            have := fits_fields (enc := enc) (w := w) (base := base) (spare := spare) (held := held) (fun t' a' cs' x' h1 h2 h3 => fits_of_trod m t' a' n cs' x' h1 h2 h3) fs.toList 0 cs b he (by omega) (fun f hf => by
              obtain ⟨i, hi⟩ := List.getElem?_of_mem hf
              have hg := hel i f (by simpa using hi)
              rw [hg]
              have hil : i < fs.toList.length := by
                rcases Nat.lt_or_ge i fs.toList.length with h | h
                · exact h
                · rw [List.getElem?_eq_none h] at hi; cases hi
              simp at hil
              simp
              omega)
            simpa using this
          · cases h
      | _ => simp at h

theorem cells_of_okWide {r : Reach} {b0 : Nat} {t : TypeId} {v : Value} (ht : (match P.underlying t with | some (.struct _) | some (.array _ _) => true | _ => false) = true) (hv : Value.okWide P w r b0 t v) :
    ∃ cs : Array Value, v = .agg cs ∧ cs.toList.length = P.cellsOf t := by
  unfold Value.okWide at hv
  split at hv
  · obtain ⟨cs, h1, h2, _⟩ := hv; exact ⟨cs, h1, by simpa using h2⟩
  · obtain ⟨cs, h1, h2, _⟩ := hv; exact ⟨cs, h1, by simpa using h2⟩
  · rename_i h1 h2
    split at ht <;> simp_all

/-- An argument that is a struct or an array by value. -/
theorem open_cells {r : Reach} {b0 : Nat} {t : TypeId} {a : List Leaf} (m : Nat) {v : Value} {d : DataW H} {ps : List MemPlace} (ht : (match P.underlying t with | some (.struct _) | some (.array _ _) => true | _ => false) = true)
    (hl : leaves P m t = some a) (hv : Value.okWide P w r b0 t v) (hd : DataW.Trod enc P w base spare held t v d ps) : ∃ cs : Array Value, v = .agg cs ∧ FitsAll a cs.toList := by
  obtain ⟨cs, rfl, hsz⟩ := cells_of_okWide ht hv
  obtain ⟨fuel, hf⟩ := hd
  exact ⟨cs, rfl, fits_of_trod m t a fuel _ _ hl hsz (by simpa [Value.cells] using hf)⟩

end

theorem fits_ints {k : IntKind} {n : Nat} {cs : List Value} (h : FitsAll (List.replicate n (.i k)) cs) : ∃ l : List Int, l.length = n ∧ cs = l.map (Value.int k) ∧ ∀ x ∈ l, (Lit.int k x).wf = true := by
  induction n generalizing cs with
  | zero => exact ⟨[], rfl, by have := h.1; simp at this; simp [this], by simp⟩
  | succ n ih =>
    obtain ⟨hl, hc⟩ := h
    cases cs with
    | nil => simp at hl
    | cons c cs =>
      obtain ⟨x, rfl, hx⟩ := hc 0 (.i k) c (by simp [List.replicate_succ]) rfl
      obtain ⟨l, h1, h2, h3⟩ := ih (cs := cs) ⟨by simpa using hl, fun j k' v a b => hc (j + 1) k' v (by simpa [List.replicate_succ] using a) (by simpa using b)⟩
      exact ⟨x :: l, by simp [h1], by simp [h2], by simpa using ⟨hx, h3⟩⟩

theorem fits_floats {k : FloatKind} {n : Nat} {cs : List Value} (h : FitsAll (List.replicate n (.f k)) cs) : ∃ l : List Nat, l.length = n ∧ cs = l.map (Value.float k) ∧ ∀ x ∈ l, (Lit.float k x).wf = true := by
  induction n generalizing cs with
  | zero => exact ⟨[], rfl, by have := h.1; simp at this; simp [this], by simp⟩
  | succ n ih =>
    obtain ⟨hl, hc⟩ := h
    cases cs with
    | nil => simp at hl
    | cons c cs =>
      obtain ⟨x, rfl, hx⟩ := hc 0 (.f k) c (by simp [List.replicate_succ]) rfl
      obtain ⟨l, h1, h2, h3⟩ := ih (cs := cs) ⟨by simpa using hl, fun j k' v a b => hc (j + 1) k' v (by simpa [List.replicate_succ] using a) (by simpa using b)⟩
      exact ⟨x :: l, by simp [h1], by simp [h2], by simpa using ⟨hx, h3⟩⟩

theorem wf_f32 {x : Nat} (h : (Lit.float .f32 x).wf = true) : x < 4294967296 := by simpa [Lit.wf] using h

theorem iat_wf {k : IntKind} {l : List Int} {n : Nat} (hl : l.length = n) (h : ∀ x ∈ l, (Lit.int k x).wf = true) (j : Nat) (hj : j < n) : (Lit.int k (iat l j)).wf = true := by
  have hj' : j < l.length := by omega
  have : iat l j = l[j] := by simp [iat, hj']
  rw [this]; exact h _ (List.getElem_mem hj')
theorem fat_wf {k : FloatKind} {l : List Nat} {n : Nat} (hl : l.length = n) (h : ∀ x ∈ l, (Lit.float k x).wf = true) (j : Nat) (hj : j < n) : (Lit.float k (fat l j)).wf = true := by
  have hj' : j < l.length := by omega
  have : fat l j = l[j] := by simp [fat, hj']
  rw [this]; exact h _ (List.getElem_mem hj')
theorem wf_i16 {n : Int} (h : (Lit.int .i16 n).wf = true) : -32768 ≤ n ∧ n ≤ 32767 := by
  simp only [Lit.wf, Bool.and_eq_true, decide_eq_true_eq] at h; exact h
theorem wf_i8 {n : Int} (h : (Lit.int .i8 n).wf = true) : -128 ≤ n ∧ n ≤ 127 := by
  simp only [Lit.wf, Bool.and_eq_true, decide_eq_true_eq] at h; exact h
theorem wf_u32 {n : Int} (h : (Lit.int .u32 n).wf = true) : 0 ≤ n ∧ n ≤ 4294967295 := by
  simp only [Lit.wf, Bool.and_eq_true, decide_eq_true_eq] at h; exact h
theorem wf_i64 {n : Int} (h : (Lit.int .i64 n).wf = true) : -9223372036854775808 ≤ n ∧ n ≤ 9223372036854775807 := by
  simp only [Lit.wf, Bool.and_eq_true, decide_eq_true_eq] at h; exact h

/-- A slice whose elements are of 's' cells each: row by row. -/
structure RowsIn (w : World) (a : Option Addr) (n : Nat) (s : Nat) (ks : List Leaf) (rows : List (List Value)) : Prop where
  len : rows.length = n
  small : n ≤ 9223372036854775807
  fits : ∀ (i : Nat) row, rows[i]? = some row → FitsAll ks row
  at_ : 0 < n → ∃ b off, a = some ⟨b, off, none⟩ ∧ ∀ (i : Nat) row, rows[i]? = some row → ∀ (j : Nat) v, row[j]? = some v → w.cell? ⟨b, off + i * s + j, none⟩ = some v

theorem Addr_add (a : Addr) (k : Nat) (h : a.spot = none) : a.add k = ⟨a.block, a.off + k, none⟩ := by
  unfold Addr.add
  cases a with
  | mk b o s => simp at h; subst h; split <;> simp_all

section
variable {H : Type} {enc : TypeId × Value → H} {P : Program} {w : World} {base : Nat} {spare : Nat → Bool} {held : Bool}
theorem open_rows {r : Reach} {b0 : Nat} {t e : TypeId} {ks : List Leaf} (m : Nat) {v : Value} {d : DataW H} {ps : List MemPlace} (ht : P.underlying t = some (.slice e)) (hs : P.cellsOf e = ks.length) (h0 : 0 < ks.length)
    (hl : leaves P m e = some ks) (hv : Value.okWide P w r b0 t v) (hd : DataW.Trod enc P w base spare held t v d ps) :
    ∃ a n c rows, v = .slice a n c ∧ RowsIn w a n ks.length ks rows := by
  obtain ⟨a0, len, cap, rfl⟩ := okWide_slice ht hv
  obtain ⟨fuel, hf⟩ := hd
  have hf' : DataW.trod enc P w base spare held fuel t [.slice a0 len cap] = some (d, ps) := by simpa [Value.cells] using hf
  rcases DataW.trod_slice ht hf' with ⟨h1, _⟩ | ⟨a, len', cap', elems, rest, k, _, h1, _, hb, hlc, hm, hlen, hel, _, _⟩
  · simp at h1
    obtain ⟨rfl, rfl, rfl⟩ := h1
    exact ⟨none, 0, 0, [], rfl, rfl, by omega, fun i row h => by simp at h, fun h => by omega⟩
  · simp at h1
    obtain ⟨rfl, rfl, rfl⟩ := h1
    have each : ∀ i, i < len → ∃ cs, w.cells? base (a.add (i * ks.length)) ks.length = some cs ∧ cs.length = ks.length ∧ FitsAll ks cs ∧ ∀ j v, cs[j]? = some v → w.cell? ((a.add (i * ks.length)).add j) = some v := by
      intro i hi
      have h := hel i hi
      obtain ⟨y, hy⟩ : ∃ y, elems[i]? = some y := ⟨elems[i]'(by omega), List.getElem?_eq_getElem _⟩
      rw [hy, hs, Option.bind_eq_some_iff] at h
      obtain ⟨cs, hcs, htr⟩ := h
      have hcs' := hcs
      unfold World.cells? at hcs'
      split at hcs'
      · have hlen' := mapM_some_length hcs'
        simp at hlen'
        refine ⟨cs, hcs, hlen', fits_of_trod m e ks k cs y hl (by rw [hs]; exact hlen') htr, fun j v hj => ?_⟩
        have hjl : j < cs.length := by
          rcases Nat.lt_or_ge j cs.length with h | h
          · exact h
          · rw [List.getElem?_eq_none h] at hj; cases hj
        have := mapM_some_get hcs' j j (by rw [List.getElem?_range (by omega)])
        rw [this, hj]
      · cases hcs'
    refine ⟨some a, len, cap, (List.range len).map fun i => (w.cells? base (a.add (i * ks.length)) ks.length).getD [], rfl, by simp, ?_, ?_, ?_⟩
    · simp only [maxLen] at hm; omega
    · intro i row hr
      have hi : i < len := by
        rcases Nat.lt_or_ge i len with h | h
        · exact h
        · rw [List.getElem?_eq_none (by simpa using h)] at hr; cases hr
      obtain ⟨cs, hcs, _, hfit, _⟩ := each i hi
      rw [List.getElem?_map, List.getElem?_range hi] at hr
      simp only [Option.map_some, hcs, Option.getD_some, Option.some.injEq] at hr
      subst hr; exact hfit
    · intro hn
      have hsp : a.spot = none := by
        obtain ⟨cs, _, hcl, _, hc⟩ := each 0 hn
        obtain ⟨u, hu⟩ : ∃ u, cs[0]? = some u := ⟨cs[0]'(by omega), List.getElem?_eq_getElem _⟩
        have := World.cell?_spot (hc 0 u hu)
        unfold Addr.add at this
        cases a with
        | mk b o s =>
          cases s with
          | none => rfl
          | some s => simp at this
      refine ⟨a.block, a.off, by cases a; simp at hsp; subst hsp; rfl, fun i row hr j u hu => ?_⟩
      have hi : i < len := by
        rcases Nat.lt_or_ge i len with h | h
        · exact h
        · rw [List.getElem?_eq_none (by simpa using h)] at hr; cases hr
      obtain ⟨cs, hcs, _, _, hc⟩ := each i hi
      rw [List.getElem?_map, List.getElem?_range hi] at hr
      simp only [Option.map_some, hcs, Option.getD_some, Option.some.injEq] at hr
      subst hr
      have := hc j u hu
      rw [Addr_add _ _ hsp, Addr_add _ _ rfl] at this
      exact this
end

/-- A slice of float32, of whatever length. -/
structure FltsAny (w : World) (a : Option Addr) (n : Nat) (xs : List Nat) : Prop where
  len : xs.length = n
  small : n ≤ 9223372036854775807
  word : ∀ k, k < n → fat xs k < 4294967296
  at_ : 0 < n → ∃ b off, a = some ⟨b, off, none⟩ ∧ ∀ k, k < n → w.cell? ⟨b, off + k, none⟩ = some (.float .f32 (fat xs k))
def fltOf : List Value → Nat
  | [.float .f32 x] => x
  | _ => 0
theorem flts_of_rows {w : World} {a : Option Addr} {n : Nat} {rows : List (List Value)} (h : RowsIn w a n 1 [.f .f32] rows) : FltsAny w a n (rows.map fltOf) := by
  have each : ∀ k, k < n → ∃ x, rows[k]? = some [.float .f32 x] ∧ fat (rows.map fltOf) k = x ∧ x < 4294967296 := by
    intro k hk
    have hkl : k < rows.length := by rw [h.len]; exact hk
    have hr : rows[k]? = some rows[k] := List.getElem?_eq_getElem hkl
    obtain ⟨hl, hf⟩ := h.fits k _ hr
    match hc : rows[k], hl with
    | [v], _ =>
      obtain ⟨x, rfl, hx⟩ := hf 0 (.f .f32) v rfl (by rw [hc]; rfl)
      refine ⟨x, by rw [hr, hc], ?_, wf_f32 hx⟩
      simp [fat, hr, hc, fltOf]
  refine ⟨by simp [h.len], h.small, fun k hk => ?_, fun hn => ?_⟩
  · obtain ⟨x, _, h2, h3⟩ := each k hk
    rw [h2]; exact h3
  · obtain ⟨b, off, rfl, hc⟩ := h.at_ hn
    refine ⟨b, off, rfl, fun k hk => ?_⟩
    obtain ⟨x, h1, h2, _⟩ := each k hk
    have := hc k _ h1 0 _ rfl
    rw [h2]
    simpa using this

section
variable {H : Type} {enc : TypeId × Value → H} {P : Program} {w : World} {base : Nat} {spare : Nat → Bool} {held : Bool}
theorem open_flts {r : Reach} {b0 : Nat} {t e : TypeId} {v : Value} {d : DataW H} {ps : List MemPlace} (ht : P.underlying t = some (.slice e)) (hs : P.cellsOf e = 1) (hl : leaves P 2 e = some [.f .f32])
    (hv : Value.okWide P w r b0 t v) (hd : DataW.Trod enc P w base spare held t v d ps) : ∃ a n c xs, v = .slice a n c ∧ FltsAny w a n xs := by
  obtain ⟨a, n, c, rows, rfl, h⟩ := open_rows (ks := [.f .f32]) 2 ht hs (by decide) hl hv hd
  exact ⟨a, n, c, _, rfl, flts_of_rows h⟩
end

end Go.Proofs.Ytboddpifepegcaa
