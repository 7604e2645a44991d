/- The text of a control: the program's side. -/
import Derived.Test.YtdcjoafagalejaaDoorCText
import Derived.OrdersHeld
namespace Go.Proofs.YtdcjoafagalejaaDoor
set_option maxRecDepth 20000
open Go.RowKit

theorem genH {p : World → Prop} {w0 : World} (h : ∀ wn, wn = w0 → p wn) : p w0 := h _ rfl
section
variable {P : Program} {ops : Array Oper} {Q : Exit → Act → World → Prop} {md : Region.Mode} {S : World → Prop}
theorem takeH {i : Nat} {d : Option Nat} {op : Op} {ty : TypeId} {pos : String} {after : Array Edge} {g : Option (Nat × Bool)} {v : Value} {fuel : Nat} {listed : Array Bool} {a : Act} {w : World}
    (hi : ops[i]? = some ⟨d, op, ty, pos, after, g⟩) (hs : Region.noSelect ops = true) (hf : Region.free md ops listed i = true) (hr : (Region.ready md ops listed).contains i = true)
    (hQ : ∀ c a w, Q (.panic c) (a.put d v) w → Q (.panic c) a w) (hy : YieldsIf P ops S ⟨d, op, ty, pos, after, g⟩ v a) (hS : S w)
    (h : wpAnyH P md ops Q S fuel (listed.setIfInBounds i true) (a.put d v) w) : wpAnyH P md ops Q S (fuel + 1) listed a w := wpAnyH_take hi hs hf hr hQ hy hS h
theorem plainH {i : Nat} {d : Option Nat} {op : Op} {ty : TypeId} {pos : String} {after : Array Edge} {K : Act → World → Prop} {a : Act} {w : World}
    (hi : ops[i]? = some ⟨d, op, ty, pos, after, none⟩) (h : (⟨d, op, ty, pos, after, none⟩ : Oper).wp P a w K Q) : wpOp P ops Q i K a w := by
  unfold wpOp
  simp only [hi]
  rw [if_pos (by simp [Region.wanted])]
  exact .inl h
end
theorem join4 (b : Nat) (l0 l1 l2 l3 : List UInt8) (s : l0.length + l1.length + l2.length + l3.length ≤ 1000) (w : World) (hb : w.heap[b]? = some (.cells #[txt l0, txt l1, txt l2, txt l3] 9 (0, 0))) :
    Calls Tryd.prog 37 #[.slice (some ⟨b, 0, none⟩) 4 4, .string ⟨#[32]⟩] w fun e w' => e = .returned (txt (Lib.join [l0, l1, l2, l3] [32])) ∧ Below w.heap.size w w' := by
  have e2 : (⟨#[32]⟩ : ByteArray).data.toList = [32] := rfl
  have C := Tryd.strings_Join b 0 4 [⟨l0.toArray⟩, ⟨l1.toArray⟩, ⟨l2.toArray⟩, ⟨l3.toArray⟩] ⟨#[32]⟩ w (fun j x hx => by
    rw [Nat.zero_add, cell_of_row w b j _ _ _ hb]
    match j, hx with
    | 0, hx => simp at hx ⊢; exact hx
    | 1, hx => simp at hx ⊢; exact hx
    | 2, hx => simp at hx ⊢; exact hx
    | 3, hx => simp at hx ⊢; exact hx) (block_lt hb) (by simp) (by simp) (by
      rw [e2]; simp [Lib.join_cons, Lib.joinTail]; omega)
  rw [e2] at C
  simpa using C
set_option maxHeartbeats 4000000 in
theorem c_implControlText (X : Ctl) (wf : WfC X) (w : World) (hT : Tab w) (hD : D64 w) :
    Calls Tryd.prog 23 #[.agg (ccells X)] w fun e w' => e = .returned (txt (ctlText X)) ∧ Below w.heap.size w w' := by
  have HB0 : Hid ((w.alloc (.cells (ccells X) 42)).heap[w.heap.size]? = some (.cells (ccells X) 42 (0, 0))) := hid (blk_at _ _ _ rfl)
  have H0 : Hid (Below w.heap.size w (w.alloc (.cells (ccells X) 42))) := hid ((Below.refl _ _).alloc (Nat.le_refl _) _)
  have HZ := hid (size_ct X)
  have CV := hid (fun w => c_ValidCtl X wf w)
  have TT := hid hT
  have DT := hid hD
  clear hT hD
  cases hv : okC X
  · have E : Hid (ctlText X = []) := hid (by rw [ctlText, hv]; rfl)
    rw [hv] at CV
    clear hv wf
    go_enter Tryd.func23, Tryd.ntmps23
    go_wp2_with (first | (refine wpList_load_row rfl 42 _ rfl (w.heap.size) rfl 42 (ccells X) (0, 0) _ HB0.out Tryd.underlying42 rfl HZ.out ?_) | (go_at_call 49; refine (CV.out _).mono ?_; rintro e w1 ⟨rfl, h1⟩; have D1 := hid (below_trans H0.out h1 H0.out.size); clear h1))
    go_ret
    exact ⟨by rw [E.out]; rfl, D1.out⟩
  · have hX := OkC.of wf hv
    have hst := hX.st
    have hde := hX.de
    have hca := hX.ca
    have E0 : Hid (ctlText X = Lib.join [hex8 X.lo, hex8 X.hi, hex8 X.wi, Lib.join (wordsI [X.st, X.de, X.ca]) [32]] [32]) := hid (by rw [ctlText, hv, ← told_join]; rfl)
    rw [hv] at CV
    have DL : Hid ((Lib.join (wordsI [X.st, X.de, X.ca]) [32]).length ≤ 43 * 3) := hid (by
      have := join_short (wordsI [X.st, X.de, X.ca]) (wordsI_short (fun k hk => by
        match k, hk with
        | 0, _ => simp [iat]; omega
        | 1, _ => simp [iat]; omega
        | 2, _ => simp [iat]; omega))
      rwa [wordsI_len] at this)
    have NT : ∀ x, x < 4294967296 → isFin x = true → ∀ w1 wx, Below w.heap.size w w1 → Below w1.heap.size w1 wx → Calls Tryd.prog 41 #[.float .f32 x] wx fun e w' => e = .returned (txt (hex8 x)) ∧ Below wx.heap.size wx w' := fun x h1 h2 w1 wx h3 h4 => c_NumberText x h1 h2 wx ((DT.out.below h3).below h4)
    have N0 := hid (NT X.lo hX.lo.word hX.lo.fin)
    have N1 := hid (NT X.hi hX.hi.word hX.hi.fin)
    have N2 := hid (NT X.wi hX.wi.word hX.wi.fin)
    have ND : Hid (∀ w1 wx b, Below w.heap.size w w1 → Below w1.heap.size w1 wx → wx.heap[b]? = some (.cells #[.int .i64 X.st, .int .i64 X.de, .int .i64 X.ca] 2 (0, 0)) → Calls Tryd.prog 50 #[.slice (some ⟨b, 0, none⟩) 3 3] wx fun e w' => e = .returned (txt (Lib.join (wordsI [X.st, X.de, X.ca]) [32])) ∧ Below wx.heap.size wx w') := hid (fun w1 wx b h3 h4 hb => c_decimals b 3 3 [X.st, X.de, X.ca] rfl (by omega) (fun k hk => by
        match k, hk with
        | 0, _ => simp [iat]; omega
        | 1, _ => simp [iat]; omega
        | 2, _ => simp [iat]; omega) wx (fun k hk => by
        rw [cell_of_row wx b k _ _ _ hb]
        match k, hk with
        | 0, _ => rfl
        | 1, _ => rfl
        | 2, _ => rfl) ((TT.out.below h3).below h4))
    have k3 : IntKind.i64.wrap X.st = X.st := by rw [IntWalk.i64_in] <;> omega
    have k4 : IntKind.i64.wrap X.de = X.de := by rw [IntWalk.i64_in] <;> omega
    have k5 : IntKind.i64.wrap X.ca = X.ca := by rw [IntWalk.i64_in] <;> omega
    have l0 : Hid ((hex8 X.lo).length = 8 ∧ (hex8 X.hi).length = 8 ∧ (hex8 X.wi).length = 8) := hid ⟨hexL_len _ 8, hexL_len _ 8, hexL_len _ 8⟩
    clear hv wf hX NT hst hde hca
    generalize hex8 X.lo = L0 at *
    generalize hex8 X.hi = L1 at *
    generalize hex8 X.wi = L2 at *
    generalize Lib.join (wordsI [X.st, X.de, X.ca]) [32] = L3 at *
    have CJ := hid (fun wx b hb => join4 b L0 L1 L2 L3 (by have h1 := l0.out; have h2 := DL.out; omega) wx hb)
    obtain ⟨L4, h4⟩ : ∃ L4, Lib.join [L0, L1, L2, L3] [32] = L4 := ⟨_, rfl⟩
    rw [h4] at CJ E0
    have E := E0
    clear h4 E0
    go_enter Tryd.func23, Tryd.ntmps23
    go_wp2_with (first | (refine wpList_load_row rfl 42 _ rfl (w.heap.size) rfl 42 (ccells X) (0, 0) _ HB0.out Tryd.underlying42 rfl HZ.out ?_) | (go_at_call 49; refine (CV.out _).mono ?_; rintro e w1 ⟨rfl, h1⟩; have D1 := hid (below_trans H0.out h1 H0.out.size); have HB1 := hid ((h1.block _ (block_lt HB0.out)).trans HB0.out); clear h1))
    have CN0 := hid (fun wx h => N0.out w1 wx D1.out h)
    have CN1 := hid (fun wx h => N1.out w1 wx D1.out h)
    have CN2 := hid (fun wx h => N2.out w1 wx D1.out h)
    have CD := hid (fun wx b h hb => ND.out w1 wx b D1.out h hb)
    clear N0 N1 N2 ND
    --<
    refine wp_region_held (S := fun wx => wx.heap[w.heap.size]? = some (.cells (ccells X) 42 (0, 0))) (by kernel_rfl) ?_
    refine genH (p := wpAnyH _ _ _ _ _ _ _ _) (w0 := w1.drew) (fun x1 hx1 => ?_)
    have BE_1 : Hid (Below w1.heap.size w1 x1) := hid (hx1 ▸ (Below.refl _ _).drew)
    clear hx1
    have HB_1 := hid ((BE_1.out.block _ (block_lt HB1.out)).trans HB1.out)
    refine takeH (i := 0) (fuel := 22) (v := .pointer (some ⟨w.heap.size, 0, none⟩)) rfl (by kernel_rfl) (by kernel_rfl) (by kernel_rfl) (fun c a w h => h) (Or.inl ⟨by rfl, fun wx hx => by have q0 := cell_of_row wx w.heap.size 0 _ _ _ hx; have q1 := cell_of_row wx w.heap.size 1 _ _ _ hx; have q2 := cell_of_row wx w.heap.size 2 _ _ _ hx; have q3 := cell_of_row wx w.heap.size 3 _ _ _ hx; have q4 := cell_of_row wx w.heap.size 4 _ _ _ hx; have q5 := cell_of_row wx w.heap.size 5 _ _ _ hx; clear hx; simp only [ccells] at q0 q1 q2 q3 q4 q5; go_simp⟩) HB_1.out ?_
    try simp only [Act.put, List.setIfInBounds_toArray, List.set_cons_zero, List.set_cons_succ]
    refine takeH (i := 1) (fuel := 21) (v := .float .f32 X.lo) rfl (by kernel_rfl) (by kernel_rfl) (by kernel_rfl) (fun c a w h => h) (Or.inl ⟨by rfl, fun wx hx => by have q0 := cell_of_row wx w.heap.size 0 _ _ _ hx; have q1 := cell_of_row wx w.heap.size 1 _ _ _ hx; have q2 := cell_of_row wx w.heap.size 2 _ _ _ hx; have q3 := cell_of_row wx w.heap.size 3 _ _ _ hx; have q4 := cell_of_row wx w.heap.size 4 _ _ _ hx; have q5 := cell_of_row wx w.heap.size 5 _ _ _ hx; clear hx; simp only [ccells] at q0 q1 q2 q3 q4 q5; go_simp⟩) HB_1.out ?_
    try simp only [Act.put, List.setIfInBounds_toArray, List.set_cons_zero, List.set_cons_succ]
    refine takeH (i := 3) (fuel := 20) (v := .pointer (some ⟨w.heap.size, 1, none⟩)) rfl (by kernel_rfl) (by kernel_rfl) (by kernel_rfl) (fun c a w h => h) (Or.inl ⟨by rfl, fun wx hx => by have q0 := cell_of_row wx w.heap.size 0 _ _ _ hx; have q1 := cell_of_row wx w.heap.size 1 _ _ _ hx; have q2 := cell_of_row wx w.heap.size 2 _ _ _ hx; have q3 := cell_of_row wx w.heap.size 3 _ _ _ hx; have q4 := cell_of_row wx w.heap.size 4 _ _ _ hx; have q5 := cell_of_row wx w.heap.size 5 _ _ _ hx; clear hx; simp only [ccells] at q0 q1 q2 q3 q4 q5; go_simp⟩) HB_1.out ?_
    try simp only [Act.put, List.setIfInBounds_toArray, List.set_cons_zero, List.set_cons_succ]
    refine takeH (i := 4) (fuel := 19) (v := .float .f32 X.hi) rfl (by kernel_rfl) (by kernel_rfl) (by kernel_rfl) (fun c a w h => h) (Or.inl ⟨by rfl, fun wx hx => by have q0 := cell_of_row wx w.heap.size 0 _ _ _ hx; have q1 := cell_of_row wx w.heap.size 1 _ _ _ hx; have q2 := cell_of_row wx w.heap.size 2 _ _ _ hx; have q3 := cell_of_row wx w.heap.size 3 _ _ _ hx; have q4 := cell_of_row wx w.heap.size 4 _ _ _ hx; have q5 := cell_of_row wx w.heap.size 5 _ _ _ hx; clear hx; simp only [ccells] at q0 q1 q2 q3 q4 q5; go_simp⟩) HB_1.out ?_
    try simp only [Act.put, List.setIfInBounds_toArray, List.set_cons_zero, List.set_cons_succ]
    refine takeH (i := 6) (fuel := 18) (v := .pointer (some ⟨w.heap.size, 2, none⟩)) rfl (by kernel_rfl) (by kernel_rfl) (by kernel_rfl) (fun c a w h => h) (Or.inl ⟨by rfl, fun wx hx => by have q0 := cell_of_row wx w.heap.size 0 _ _ _ hx; have q1 := cell_of_row wx w.heap.size 1 _ _ _ hx; have q2 := cell_of_row wx w.heap.size 2 _ _ _ hx; have q3 := cell_of_row wx w.heap.size 3 _ _ _ hx; have q4 := cell_of_row wx w.heap.size 4 _ _ _ hx; have q5 := cell_of_row wx w.heap.size 5 _ _ _ hx; clear hx; simp only [ccells] at q0 q1 q2 q3 q4 q5; go_simp⟩) HB_1.out ?_
    try simp only [Act.put, List.setIfInBounds_toArray, List.set_cons_zero, List.set_cons_succ]
    refine takeH (i := 7) (fuel := 17) (v := .float .f32 X.wi) rfl (by kernel_rfl) (by kernel_rfl) (by kernel_rfl) (fun c a w h => h) (Or.inl ⟨by rfl, fun wx hx => by have q0 := cell_of_row wx w.heap.size 0 _ _ _ hx; have q1 := cell_of_row wx w.heap.size 1 _ _ _ hx; have q2 := cell_of_row wx w.heap.size 2 _ _ _ hx; have q3 := cell_of_row wx w.heap.size 3 _ _ _ hx; have q4 := cell_of_row wx w.heap.size 4 _ _ _ hx; have q5 := cell_of_row wx w.heap.size 5 _ _ _ hx; clear hx; simp only [ccells] at q0 q1 q2 q3 q4 q5; go_simp⟩) HB_1.out ?_
    try simp only [Act.put, List.setIfInBounds_toArray, List.set_cons_zero, List.set_cons_succ]
    refine takeH (i := 9) (fuel := 16) (v := .pointer (some ⟨w.heap.size, 3, none⟩)) rfl (by kernel_rfl) (by kernel_rfl) (by kernel_rfl) (fun c a w h => h) (Or.inl ⟨by rfl, fun wx hx => by have q0 := cell_of_row wx w.heap.size 0 _ _ _ hx; have q1 := cell_of_row wx w.heap.size 1 _ _ _ hx; have q2 := cell_of_row wx w.heap.size 2 _ _ _ hx; have q3 := cell_of_row wx w.heap.size 3 _ _ _ hx; have q4 := cell_of_row wx w.heap.size 4 _ _ _ hx; have q5 := cell_of_row wx w.heap.size 5 _ _ _ hx; clear hx; simp only [ccells] at q0 q1 q2 q3 q4 q5; go_simp⟩) HB_1.out ?_
    try simp only [Act.put, List.setIfInBounds_toArray, List.set_cons_zero, List.set_cons_succ]
    refine takeH (i := 10) (fuel := 15) (v := .int .i8 X.st) rfl (by kernel_rfl) (by kernel_rfl) (by kernel_rfl) (fun c a w h => h) (Or.inl ⟨by rfl, fun wx hx => by have q0 := cell_of_row wx w.heap.size 0 _ _ _ hx; have q1 := cell_of_row wx w.heap.size 1 _ _ _ hx; have q2 := cell_of_row wx w.heap.size 2 _ _ _ hx; have q3 := cell_of_row wx w.heap.size 3 _ _ _ hx; have q4 := cell_of_row wx w.heap.size 4 _ _ _ hx; have q5 := cell_of_row wx w.heap.size 5 _ _ _ hx; clear hx; simp only [ccells] at q0 q1 q2 q3 q4 q5; go_simp⟩) HB_1.out ?_
    try simp only [Act.put, List.setIfInBounds_toArray, List.set_cons_zero, List.set_cons_succ]
    refine takeH (i := 11) (fuel := 14) (v := .int .i64 X.st) rfl (by kernel_rfl) (by kernel_rfl) (by kernel_rfl) (fun c a w h => h) (Or.inl ⟨by rfl, fun wx hx => by have q0 := cell_of_row wx w.heap.size 0 _ _ _ hx; have q1 := cell_of_row wx w.heap.size 1 _ _ _ hx; have q2 := cell_of_row wx w.heap.size 2 _ _ _ hx; have q3 := cell_of_row wx w.heap.size 3 _ _ _ hx; have q4 := cell_of_row wx w.heap.size 4 _ _ _ hx; have q5 := cell_of_row wx w.heap.size 5 _ _ _ hx; clear hx; simp only [ccells] at q0 q1 q2 q3 q4 q5; go_simp⟩) HB_1.out ?_
    try simp only [Act.put, List.setIfInBounds_toArray, List.set_cons_zero, List.set_cons_succ]
    refine takeH (i := 12) (fuel := 13) (v := .pointer (some ⟨w.heap.size, 4, none⟩)) rfl (by kernel_rfl) (by kernel_rfl) (by kernel_rfl) (fun c a w h => h) (Or.inl ⟨by rfl, fun wx hx => by have q0 := cell_of_row wx w.heap.size 0 _ _ _ hx; have q1 := cell_of_row wx w.heap.size 1 _ _ _ hx; have q2 := cell_of_row wx w.heap.size 2 _ _ _ hx; have q3 := cell_of_row wx w.heap.size 3 _ _ _ hx; have q4 := cell_of_row wx w.heap.size 4 _ _ _ hx; have q5 := cell_of_row wx w.heap.size 5 _ _ _ hx; clear hx; simp only [ccells] at q0 q1 q2 q3 q4 q5; go_simp⟩) HB_1.out ?_
    try simp only [Act.put, List.setIfInBounds_toArray, List.set_cons_zero, List.set_cons_succ]
    refine takeH (i := 13) (fuel := 12) (v := .int .i8 X.de) rfl (by kernel_rfl) (by kernel_rfl) (by kernel_rfl) (fun c a w h => h) (Or.inl ⟨by rfl, fun wx hx => by have q0 := cell_of_row wx w.heap.size 0 _ _ _ hx; have q1 := cell_of_row wx w.heap.size 1 _ _ _ hx; have q2 := cell_of_row wx w.heap.size 2 _ _ _ hx; have q3 := cell_of_row wx w.heap.size 3 _ _ _ hx; have q4 := cell_of_row wx w.heap.size 4 _ _ _ hx; have q5 := cell_of_row wx w.heap.size 5 _ _ _ hx; clear hx; simp only [ccells] at q0 q1 q2 q3 q4 q5; go_simp⟩) HB_1.out ?_
    try simp only [Act.put, List.setIfInBounds_toArray, List.set_cons_zero, List.set_cons_succ]
    refine takeH (i := 14) (fuel := 11) (v := .int .i64 X.de) rfl (by kernel_rfl) (by kernel_rfl) (by kernel_rfl) (fun c a w h => h) (Or.inl ⟨by rfl, fun wx hx => by have q0 := cell_of_row wx w.heap.size 0 _ _ _ hx; have q1 := cell_of_row wx w.heap.size 1 _ _ _ hx; have q2 := cell_of_row wx w.heap.size 2 _ _ _ hx; have q3 := cell_of_row wx w.heap.size 3 _ _ _ hx; have q4 := cell_of_row wx w.heap.size 4 _ _ _ hx; have q5 := cell_of_row wx w.heap.size 5 _ _ _ hx; clear hx; simp only [ccells] at q0 q1 q2 q3 q4 q5; go_simp⟩) HB_1.out ?_
    try simp only [Act.put, List.setIfInBounds_toArray, List.set_cons_zero, List.set_cons_succ]
    refine takeH (i := 15) (fuel := 10) (v := .pointer (some ⟨w.heap.size, 5, none⟩)) rfl (by kernel_rfl) (by kernel_rfl) (by kernel_rfl) (fun c a w h => h) (Or.inl ⟨by rfl, fun wx hx => by have q0 := cell_of_row wx w.heap.size 0 _ _ _ hx; have q1 := cell_of_row wx w.heap.size 1 _ _ _ hx; have q2 := cell_of_row wx w.heap.size 2 _ _ _ hx; have q3 := cell_of_row wx w.heap.size 3 _ _ _ hx; have q4 := cell_of_row wx w.heap.size 4 _ _ _ hx; have q5 := cell_of_row wx w.heap.size 5 _ _ _ hx; clear hx; simp only [ccells] at q0 q1 q2 q3 q4 q5; go_simp⟩) HB_1.out ?_
    try simp only [Act.put, List.setIfInBounds_toArray, List.set_cons_zero, List.set_cons_succ]
    refine takeH (i := 16) (fuel := 9) (v := .int .i8 X.ca) rfl (by kernel_rfl) (by kernel_rfl) (by kernel_rfl) (fun c a w h => h) (Or.inl ⟨by rfl, fun wx hx => by have q0 := cell_of_row wx w.heap.size 0 _ _ _ hx; have q1 := cell_of_row wx w.heap.size 1 _ _ _ hx; have q2 := cell_of_row wx w.heap.size 2 _ _ _ hx; have q3 := cell_of_row wx w.heap.size 3 _ _ _ hx; have q4 := cell_of_row wx w.heap.size 4 _ _ _ hx; have q5 := cell_of_row wx w.heap.size 5 _ _ _ hx; clear hx; simp only [ccells] at q0 q1 q2 q3 q4 q5; go_simp⟩) HB_1.out ?_
    try simp only [Act.put, List.setIfInBounds_toArray, List.set_cons_zero, List.set_cons_succ]
    refine takeH (i := 17) (fuel := 8) (v := .int .i64 X.ca) rfl (by kernel_rfl) (by kernel_rfl) (by kernel_rfl) (fun c a w h => h) (Or.inl ⟨by rfl, fun wx hx => by have q0 := cell_of_row wx w.heap.size 0 _ _ _ hx; have q1 := cell_of_row wx w.heap.size 1 _ _ _ hx; have q2 := cell_of_row wx w.heap.size 2 _ _ _ hx; have q3 := cell_of_row wx w.heap.size 3 _ _ _ hx; have q4 := cell_of_row wx w.heap.size 4 _ _ _ hx; have q5 := cell_of_row wx w.heap.size 5 _ _ _ hx; clear hx; simp only [ccells] at q0 q1 q2 q3 q4 q5; go_simp⟩) HB_1.out ?_
    try simp only [Act.put, List.setIfInBounds_toArray, List.set_cons_zero, List.set_cons_succ]
    refine wpAnyH_all (rs := [2, 18]) (fuel := 7) (by kernel_rfl) (by simp) ?_
    intro i hi
    rcases (show i = 2 ∨ i = 18 from by simpa using hi) with rfl | rfl
    · clear hi
      refine plainH rfl ?_
      go_simp
      go_at_call 41
      refine (CN0.out _ BE_1.out).mono ?_
      rintro e x2 ⟨rfl, h2⟩
      have HB_2 := hid ((h2.block _ (block_lt HB_1.out)).trans HB_1.out)
      have BE_2 := hid (below_trans BE_1.out h2 BE_1.out.size)
      clear h2
      refine ⟨HB_2.out, ?_⟩
      try simp only [Act.put, List.setIfInBounds_toArray, List.set_cons_zero, List.set_cons_succ]
      refine wpAnyH_all (rs := [5, 18]) (fuel := 6) (by kernel_rfl) (by simp) ?_
      intro i hi
      rcases (show i = 5 ∨ i = 18 from by simpa using hi) with rfl | rfl
      · clear hi
        refine plainH rfl ?_
        go_simp
        go_at_call 41
        refine (CN1.out _ BE_2.out).mono ?_
        rintro e x3 ⟨rfl, h3⟩
        have HB_3 := hid ((h3.block _ (block_lt HB_2.out)).trans HB_2.out)
        have BE_3 := hid (below_trans BE_2.out h3 BE_2.out.size)
        clear h3
        refine ⟨HB_3.out, ?_⟩
        try simp only [Act.put, List.setIfInBounds_toArray, List.set_cons_zero, List.set_cons_succ]
        refine wpAnyH_all (rs := [8, 18]) (fuel := 5) (by kernel_rfl) (by simp) ?_
        intro i hi
        rcases (show i = 8 ∨ i = 18 from by simpa using hi) with rfl | rfl
        · clear hi
          refine plainH rfl ?_
          go_simp
          go_at_call 41
          refine (CN2.out _ BE_3.out).mono ?_
          rintro e x4 ⟨rfl, h4⟩
          have HB_4 := hid ((h4.block _ (block_lt HB_3.out)).trans HB_3.out)
          have BE_4 := hid (below_trans BE_3.out h4 BE_3.out.size)
          clear h4
          refine ⟨HB_4.out, ?_⟩
          try simp only [Act.put, List.setIfInBounds_toArray, List.set_cons_zero, List.set_cons_succ]
          refine wpAnyH_all (rs := [18]) (fuel := 4) (by kernel_rfl) (by simp) ?_
          intro i hi
          obtain rfl : i = 18 := by simpa using hi
          clear hi
          refine plainH rfl ?_
          go_simp
          have DD := hid ((Below.refl x4.heap.size x4).alloc (Nat.le_refl _) (.cells #[.int .i64 X.st, .int .i64 X.de, .int .i64 X.ca] 2))
          refine ⟨(DD.out.block _ (block_lt HB_4.out)).trans HB_4.out, ?_⟩
          refine genH (p := wpAnyH _ _ _ _ _ _ _ _) (w0 := (x4.alloc (.cells #[.int .i64 X.st, .int .i64 X.de, .int .i64 X.ca] 2))) (fun x5 hx5 => ?_)
          have HB_5 := hid (show x5.heap[w.heap.size]? = some (.cells (ccells X) 42 (0, 0)) by rw [hx5]; exact (DD.out.block _ (block_lt HB_4.out)).trans HB_4.out)
          have BE_5 := hid (show Below w1.heap.size w1 x5 by rw [hx5]; exact below_trans BE_4.out DD.out BE_4.out.size)
          have KE_5 := hid (show x5.heap[x4.heap.size]? = some (.cells #[.int .i64 X.st, .int .i64 X.de, .int .i64 X.ca] 2 (0, 0)) by rw [hx5]; exact blk_at _ _ _ rfl)
          clear hx5 DD
          refine wpAnyH_all (rs := [19]) (fuel := 3) (by kernel_rfl) (by simp) ?_
          intro i hi
          obtain rfl : i = 19 := by simpa using hi
          clear hi
          refine plainH rfl ?_
          go_simp
          go_at_call 50
          refine (CD.out _ _ BE_5.out KE_5.out).mono ?_
          rintro e x6 ⟨rfl, h6⟩
          have HB_6 := hid ((h6.block _ (block_lt HB_5.out)).trans HB_5.out)
          have BE_6 := hid (below_trans BE_5.out h6 BE_5.out.size)
          have KE_6 := hid ((h6.block _ (block_lt KE_5.out)).trans KE_5.out)
          clear h6
          refine ⟨HB_6.out, ?_⟩
          try simp only [Act.put, List.setIfInBounds_toArray, List.set_cons_zero, List.set_cons_succ]
          refine wpAnyH_all (rs := [20]) (fuel := 2) (by kernel_rfl) (by simp) ?_
          intro i hi
          obtain rfl : i = 20 := by simpa using hi
          clear hi
          refine plainH rfl ?_
          go_simp
          have DD := hid ((Below.refl x6.heap.size x6).alloc (Nat.le_refl _) (.cells #[txt L0, txt L1, txt L2, txt L3] 9))
          refine ⟨(DD.out.block _ (block_lt HB_6.out)).trans HB_6.out, ?_⟩
          refine genH (p := wpAnyH _ _ _ _ _ _ _ _) (w0 := (x6.alloc (.cells #[txt L0, txt L1, txt L2, txt L3] 9))) (fun x7 hx7 => ?_)
          have HB_7 := hid (show x7.heap[w.heap.size]? = some (.cells (ccells X) 42 (0, 0)) by rw [hx7]; exact (DD.out.block _ (block_lt HB_6.out)).trans HB_6.out)
          have BE_7 := hid (show Below w1.heap.size w1 x7 by rw [hx7]; exact below_trans BE_6.out DD.out BE_6.out.size)
          have JE_7 := hid (show x7.heap[x6.heap.size]? = some (.cells #[txt L0, txt L1, txt L2, txt L3] 9 (0, 0)) by rw [hx7]; exact blk_at _ _ _ rfl)
          clear hx7 DD
          refine wpAnyH_all (rs := [21]) (fuel := 1) (by kernel_rfl) (by simp) ?_
          intro i hi
          obtain rfl : i = 21 := by simpa using hi
          clear hi
          refine plainH rfl ?_
          go_simp
          go_at_call 37
          refine (CJ.out _ _ JE_7.out).mono ?_
          rintro e x8 ⟨rfl, h8⟩
          have HB_8 := hid ((h8.block _ (block_lt HB_7.out)).trans HB_7.out)
          have BE_8 := hid (below_trans BE_7.out h8 BE_7.out.size)
          clear h8
          refine ⟨HB_8.out, ?_⟩
          try simp only [Act.put, List.setIfInBounds_toArray, List.set_cons_zero, List.set_cons_succ]
          refine takeH (i := 22) (fuel := 0) (v := txt L4) rfl (by kernel_rfl) (by kernel_rfl) (by kernel_rfl) (fun c a w h => h) (Or.inl ⟨by rfl, fun wx hx => by clear hx; go_simp⟩) HB_8.out ?_
          try simp only [Act.put, List.setIfInBounds_toArray, List.set_cons_zero, List.set_cons_succ]
          refine wpAnyH_done (by kernel_rfl) ?_ 0
          try simp only [Exit.then]
          go_wp2
          go_ret
          exact ⟨by rw [E.out]; rfl, below_trans D1.out BE_8.out D1.out.size⟩
        · clear hi
          refine plainH rfl ?_
          go_simp
          have DD := hid ((Below.refl x3.heap.size x3).alloc (Nat.le_refl _) (.cells #[.int .i64 X.st, .int .i64 X.de, .int .i64 X.ca] 2))
          refine ⟨(DD.out.block _ (block_lt HB_3.out)).trans HB_3.out, ?_⟩
          refine genH (p := wpAnyH _ _ _ _ _ _ _ _) (w0 := (x3.alloc (.cells #[.int .i64 X.st, .int .i64 X.de, .int .i64 X.ca] 2))) (fun x4 hx4 => ?_)
          have HB_4 := hid (show x4.heap[w.heap.size]? = some (.cells (ccells X) 42 (0, 0)) by rw [hx4]; exact (DD.out.block _ (block_lt HB_3.out)).trans HB_3.out)
          have BE_4 := hid (show Below w1.heap.size w1 x4 by rw [hx4]; exact below_trans BE_3.out DD.out BE_3.out.size)
          have KE_4 := hid (show x4.heap[x3.heap.size]? = some (.cells #[.int .i64 X.st, .int .i64 X.de, .int .i64 X.ca] 2 (0, 0)) by rw [hx4]; exact blk_at _ _ _ rfl)
          clear hx4 DD
          refine wpAnyH_all (rs := [8]) (fuel := 4) (by kernel_rfl) (by simp) ?_
          intro i hi
          obtain rfl : i = 8 := by simpa using hi
          clear hi
          refine plainH rfl ?_
          go_simp
          go_at_call 41
          refine (CN2.out _ BE_4.out).mono ?_
          rintro e x5 ⟨rfl, h5⟩
          have HB_5 := hid ((h5.block _ (block_lt HB_4.out)).trans HB_4.out)
          have BE_5 := hid (below_trans BE_4.out h5 BE_4.out.size)
          have KE_5 := hid ((h5.block _ (block_lt KE_4.out)).trans KE_4.out)
          clear h5
          refine ⟨HB_5.out, ?_⟩
          try simp only [Act.put, List.setIfInBounds_toArray, List.set_cons_zero, List.set_cons_succ]
          refine wpAnyH_all (rs := [19]) (fuel := 3) (by kernel_rfl) (by simp) ?_
          intro i hi
          obtain rfl : i = 19 := by simpa using hi
          clear hi
          refine plainH rfl ?_
          go_simp
          go_at_call 50
          refine (CD.out _ _ BE_5.out KE_5.out).mono ?_
          rintro e x6 ⟨rfl, h6⟩
          have HB_6 := hid ((h6.block _ (block_lt HB_5.out)).trans HB_5.out)
          have BE_6 := hid (below_trans BE_5.out h6 BE_5.out.size)
          have KE_6 := hid ((h6.block _ (block_lt KE_5.out)).trans KE_5.out)
          clear h6
          refine ⟨HB_6.out, ?_⟩
          try simp only [Act.put, List.setIfInBounds_toArray, List.set_cons_zero, List.set_cons_succ]
          refine wpAnyH_all (rs := [20]) (fuel := 2) (by kernel_rfl) (by simp) ?_
          intro i hi
          obtain rfl : i = 20 := by simpa using hi
          clear hi
          refine plainH rfl ?_
          go_simp
          have DD := hid ((Below.refl x6.heap.size x6).alloc (Nat.le_refl _) (.cells #[txt L0, txt L1, txt L2, txt L3] 9))
          refine ⟨(DD.out.block _ (block_lt HB_6.out)).trans HB_6.out, ?_⟩
          refine genH (p := wpAnyH _ _ _ _ _ _ _ _) (w0 := (x6.alloc (.cells #[txt L0, txt L1, txt L2, txt L3] 9))) (fun x7 hx7 => ?_)
          have HB_7 := hid (show x7.heap[w.heap.size]? = some (.cells (ccells X) 42 (0, 0)) by rw [hx7]; exact (DD.out.block _ (block_lt HB_6.out)).trans HB_6.out)
          have BE_7 := hid (show Below w1.heap.size w1 x7 by rw [hx7]; exact below_trans BE_6.out DD.out BE_6.out.size)
          have JE_7 := hid (show x7.heap[x6.heap.size]? = some (.cells #[txt L0, txt L1, txt L2, txt L3] 9 (0, 0)) by rw [hx7]; exact blk_at _ _ _ rfl)
          clear hx7 DD
          refine wpAnyH_all (rs := [21]) (fuel := 1) (by kernel_rfl) (by simp) ?_
          intro i hi
          obtain rfl : i = 21 := by simpa using hi
          clear hi
          refine plainH rfl ?_
          go_simp
          go_at_call 37
          refine (CJ.out _ _ JE_7.out).mono ?_
          rintro e x8 ⟨rfl, h8⟩
          have HB_8 := hid ((h8.block _ (block_lt HB_7.out)).trans HB_7.out)
          have BE_8 := hid (below_trans BE_7.out h8 BE_7.out.size)
          clear h8
          refine ⟨HB_8.out, ?_⟩
          try simp only [Act.put, List.setIfInBounds_toArray, List.set_cons_zero, List.set_cons_succ]
          refine takeH (i := 22) (fuel := 0) (v := txt L4) rfl (by kernel_rfl) (by kernel_rfl) (by kernel_rfl) (fun c a w h => h) (Or.inl ⟨by rfl, fun wx hx => by clear hx; go_simp⟩) HB_8.out ?_
          try simp only [Act.put, List.setIfInBounds_toArray, List.set_cons_zero, List.set_cons_succ]
          refine wpAnyH_done (by kernel_rfl) ?_ 0
          try simp only [Exit.then]
          go_wp2
          go_ret
          exact ⟨by rw [E.out]; rfl, below_trans D1.out BE_8.out D1.out.size⟩
      · clear hi
        refine plainH rfl ?_
        go_simp
        have DD := hid ((Below.refl x2.heap.size x2).alloc (Nat.le_refl _) (.cells #[.int .i64 X.st, .int .i64 X.de, .int .i64 X.ca] 2))
        refine ⟨(DD.out.block _ (block_lt HB_2.out)).trans HB_2.out, ?_⟩
        refine genH (p := wpAnyH _ _ _ _ _ _ _ _) (w0 := (x2.alloc (.cells #[.int .i64 X.st, .int .i64 X.de, .int .i64 X.ca] 2))) (fun x3 hx3 => ?_)
        have HB_3 := hid (show x3.heap[w.heap.size]? = some (.cells (ccells X) 42 (0, 0)) by rw [hx3]; exact (DD.out.block _ (block_lt HB_2.out)).trans HB_2.out)
        have BE_3 := hid (show Below w1.heap.size w1 x3 by rw [hx3]; exact below_trans BE_2.out DD.out BE_2.out.size)
        have KE_3 := hid (show x3.heap[x2.heap.size]? = some (.cells #[.int .i64 X.st, .int .i64 X.de, .int .i64 X.ca] 2 (0, 0)) by rw [hx3]; exact blk_at _ _ _ rfl)
        clear hx3 DD
        refine wpAnyH_all (rs := [5]) (fuel := 5) (by kernel_rfl) (by simp) ?_
        intro i hi
        obtain rfl : i = 5 := by simpa using hi
        clear hi
        refine plainH rfl ?_
        go_simp
        go_at_call 41
        refine (CN1.out _ BE_3.out).mono ?_
        rintro e x4 ⟨rfl, h4⟩
        have HB_4 := hid ((h4.block _ (block_lt HB_3.out)).trans HB_3.out)
        have BE_4 := hid (below_trans BE_3.out h4 BE_3.out.size)
        have KE_4 := hid ((h4.block _ (block_lt KE_3.out)).trans KE_3.out)
        clear h4
        refine ⟨HB_4.out, ?_⟩
        try simp only [Act.put, List.setIfInBounds_toArray, List.set_cons_zero, List.set_cons_succ]
        refine wpAnyH_all (rs := [8]) (fuel := 4) (by kernel_rfl) (by simp) ?_
        intro i hi
        obtain rfl : i = 8 := by simpa using hi
        clear hi
        refine plainH rfl ?_
        go_simp
        go_at_call 41
        refine (CN2.out _ BE_4.out).mono ?_
        rintro e x5 ⟨rfl, h5⟩
        have HB_5 := hid ((h5.block _ (block_lt HB_4.out)).trans HB_4.out)
        have BE_5 := hid (below_trans BE_4.out h5 BE_4.out.size)
        have KE_5 := hid ((h5.block _ (block_lt KE_4.out)).trans KE_4.out)
        clear h5
        refine ⟨HB_5.out, ?_⟩
        try simp only [Act.put, List.setIfInBounds_toArray, List.set_cons_zero, List.set_cons_succ]
        refine wpAnyH_all (rs := [19]) (fuel := 3) (by kernel_rfl) (by simp) ?_
        intro i hi
        obtain rfl : i = 19 := by simpa using hi
        clear hi
        refine plainH rfl ?_
        go_simp
        go_at_call 50
        refine (CD.out _ _ BE_5.out KE_5.out).mono ?_
        rintro e x6 ⟨rfl, h6⟩
        have HB_6 := hid ((h6.block _ (block_lt HB_5.out)).trans HB_5.out)
        have BE_6 := hid (below_trans BE_5.out h6 BE_5.out.size)
        have KE_6 := hid ((h6.block _ (block_lt KE_5.out)).trans KE_5.out)
        clear h6
        refine ⟨HB_6.out, ?_⟩
        try simp only [Act.put, List.setIfInBounds_toArray, List.set_cons_zero, List.set_cons_succ]
        refine wpAnyH_all (rs := [20]) (fuel := 2) (by kernel_rfl) (by simp) ?_
        intro i hi
        obtain rfl : i = 20 := by simpa using hi
        clear hi
        refine plainH rfl ?_
        go_simp
        have DD := hid ((Below.refl x6.heap.size x6).alloc (Nat.le_refl _) (.cells #[txt L0, txt L1, txt L2, txt L3] 9))
        refine ⟨(DD.out.block _ (block_lt HB_6.out)).trans HB_6.out, ?_⟩
        refine genH (p := wpAnyH _ _ _ _ _ _ _ _) (w0 := (x6.alloc (.cells #[txt L0, txt L1, txt L2, txt L3] 9))) (fun x7 hx7 => ?_)
        have HB_7 := hid (show x7.heap[w.heap.size]? = some (.cells (ccells X) 42 (0, 0)) by rw [hx7]; exact (DD.out.block _ (block_lt HB_6.out)).trans HB_6.out)
        have BE_7 := hid (show Below w1.heap.size w1 x7 by rw [hx7]; exact below_trans BE_6.out DD.out BE_6.out.size)
        have JE_7 := hid (show x7.heap[x6.heap.size]? = some (.cells #[txt L0, txt L1, txt L2, txt L3] 9 (0, 0)) by rw [hx7]; exact blk_at _ _ _ rfl)
        clear hx7 DD
        refine wpAnyH_all (rs := [21]) (fuel := 1) (by kernel_rfl) (by simp) ?_
        intro i hi
        obtain rfl : i = 21 := by simpa using hi
        clear hi
        refine plainH rfl ?_
        go_simp
        go_at_call 37
        refine (CJ.out _ _ JE_7.out).mono ?_
        rintro e x8 ⟨rfl, h8⟩
        have HB_8 := hid ((h8.block _ (block_lt HB_7.out)).trans HB_7.out)
        have BE_8 := hid (below_trans BE_7.out h8 BE_7.out.size)
        clear h8
        refine ⟨HB_8.out, ?_⟩
        try simp only [Act.put, List.setIfInBounds_toArray, List.set_cons_zero, List.set_cons_succ]
        refine takeH (i := 22) (fuel := 0) (v := txt L4) rfl (by kernel_rfl) (by kernel_rfl) (by kernel_rfl) (fun c a w h => h) (Or.inl ⟨by rfl, fun wx hx => by clear hx; go_simp⟩) HB_8.out ?_
        try simp only [Act.put, List.setIfInBounds_toArray, List.set_cons_zero, List.set_cons_succ]
        refine wpAnyH_done (by kernel_rfl) ?_ 0
        try simp only [Exit.then]
        go_wp2
        go_ret
        exact ⟨by rw [E.out]; rfl, below_trans D1.out BE_8.out D1.out.size⟩
    · clear hi
      refine plainH rfl ?_
      go_simp
      have DD := hid ((Below.refl x1.heap.size x1).alloc (Nat.le_refl _) (.cells #[.int .i64 X.st, .int .i64 X.de, .int .i64 X.ca] 2))
      refine ⟨(DD.out.block _ (block_lt HB_1.out)).trans HB_1.out, ?_⟩
      refine genH (p := wpAnyH _ _ _ _ _ _ _ _) (w0 := (x1.alloc (.cells #[.int .i64 X.st, .int .i64 X.de, .int .i64 X.ca] 2))) (fun x2 hx2 => ?_)
      have HB_2 := hid (show x2.heap[w.heap.size]? = some (.cells (ccells X) 42 (0, 0)) by rw [hx2]; exact (DD.out.block _ (block_lt HB_1.out)).trans HB_1.out)
      have BE_2 := hid (show Below w1.heap.size w1 x2 by rw [hx2]; exact below_trans BE_1.out DD.out BE_1.out.size)
      have KE_2 := hid (show x2.heap[x1.heap.size]? = some (.cells #[.int .i64 X.st, .int .i64 X.de, .int .i64 X.ca] 2 (0, 0)) by rw [hx2]; exact blk_at _ _ _ rfl)
      clear hx2 DD
      refine wpAnyH_all (rs := [2]) (fuel := 6) (by kernel_rfl) (by simp) ?_
      intro i hi
      obtain rfl : i = 2 := by simpa using hi
      clear hi
      refine plainH rfl ?_
      go_simp
      go_at_call 41
      refine (CN0.out _ BE_2.out).mono ?_
      rintro e x3 ⟨rfl, h3⟩
      have HB_3 := hid ((h3.block _ (block_lt HB_2.out)).trans HB_2.out)
      have BE_3 := hid (below_trans BE_2.out h3 BE_2.out.size)
      have KE_3 := hid ((h3.block _ (block_lt KE_2.out)).trans KE_2.out)
      clear h3
      refine ⟨HB_3.out, ?_⟩
      try simp only [Act.put, List.setIfInBounds_toArray, List.set_cons_zero, List.set_cons_succ]
      refine wpAnyH_all (rs := [5]) (fuel := 5) (by kernel_rfl) (by simp) ?_
      intro i hi
      obtain rfl : i = 5 := by simpa using hi
      clear hi
      refine plainH rfl ?_
      go_simp
      go_at_call 41
      refine (CN1.out _ BE_3.out).mono ?_
      rintro e x4 ⟨rfl, h4⟩
      have HB_4 := hid ((h4.block _ (block_lt HB_3.out)).trans HB_3.out)
      have BE_4 := hid (below_trans BE_3.out h4 BE_3.out.size)
      have KE_4 := hid ((h4.block _ (block_lt KE_3.out)).trans KE_3.out)
      clear h4
      refine ⟨HB_4.out, ?_⟩
      try simp only [Act.put, List.setIfInBounds_toArray, List.set_cons_zero, List.set_cons_succ]
      refine wpAnyH_all (rs := [8]) (fuel := 4) (by kernel_rfl) (by simp) ?_
      intro i hi
      obtain rfl : i = 8 := by simpa using hi
      clear hi
      refine plainH rfl ?_
      go_simp
      go_at_call 41
      refine (CN2.out _ BE_4.out).mono ?_
      rintro e x5 ⟨rfl, h5⟩
      have HB_5 := hid ((h5.block _ (block_lt HB_4.out)).trans HB_4.out)
      have BE_5 := hid (below_trans BE_4.out h5 BE_4.out.size)
      have KE_5 := hid ((h5.block _ (block_lt KE_4.out)).trans KE_4.out)
      clear h5
      refine ⟨HB_5.out, ?_⟩
      try simp only [Act.put, List.setIfInBounds_toArray, List.set_cons_zero, List.set_cons_succ]
      refine wpAnyH_all (rs := [19]) (fuel := 3) (by kernel_rfl) (by simp) ?_
      intro i hi
      obtain rfl : i = 19 := by simpa using hi
      clear hi
      refine plainH rfl ?_
      go_simp
      go_at_call 50
      refine (CD.out _ _ BE_5.out KE_5.out).mono ?_
      rintro e x6 ⟨rfl, h6⟩
      have HB_6 := hid ((h6.block _ (block_lt HB_5.out)).trans HB_5.out)
      have BE_6 := hid (below_trans BE_5.out h6 BE_5.out.size)
      have KE_6 := hid ((h6.block _ (block_lt KE_5.out)).trans KE_5.out)
      clear h6
      refine ⟨HB_6.out, ?_⟩
      try simp only [Act.put, List.setIfInBounds_toArray, List.set_cons_zero, List.set_cons_succ]
      refine wpAnyH_all (rs := [20]) (fuel := 2) (by kernel_rfl) (by simp) ?_
      intro i hi
      obtain rfl : i = 20 := by simpa using hi
      clear hi
      refine plainH rfl ?_
      go_simp
      have DD := hid ((Below.refl x6.heap.size x6).alloc (Nat.le_refl _) (.cells #[txt L0, txt L1, txt L2, txt L3] 9))
      refine ⟨(DD.out.block _ (block_lt HB_6.out)).trans HB_6.out, ?_⟩
      refine genH (p := wpAnyH _ _ _ _ _ _ _ _) (w0 := (x6.alloc (.cells #[txt L0, txt L1, txt L2, txt L3] 9))) (fun x7 hx7 => ?_)
      have HB_7 := hid (show x7.heap[w.heap.size]? = some (.cells (ccells X) 42 (0, 0)) by rw [hx7]; exact (DD.out.block _ (block_lt HB_6.out)).trans HB_6.out)
      have BE_7 := hid (show Below w1.heap.size w1 x7 by rw [hx7]; exact below_trans BE_6.out DD.out BE_6.out.size)
      have JE_7 := hid (show x7.heap[x6.heap.size]? = some (.cells #[txt L0, txt L1, txt L2, txt L3] 9 (0, 0)) by rw [hx7]; exact blk_at _ _ _ rfl)
      clear hx7 DD
      refine wpAnyH_all (rs := [21]) (fuel := 1) (by kernel_rfl) (by simp) ?_
      intro i hi
      obtain rfl : i = 21 := by simpa using hi
      clear hi
      refine plainH rfl ?_
      go_simp
      go_at_call 37
      refine (CJ.out _ _ JE_7.out).mono ?_
      rintro e x8 ⟨rfl, h8⟩
      have HB_8 := hid ((h8.block _ (block_lt HB_7.out)).trans HB_7.out)
      have BE_8 := hid (below_trans BE_7.out h8 BE_7.out.size)
      clear h8
      refine ⟨HB_8.out, ?_⟩
      try simp only [Act.put, List.setIfInBounds_toArray, List.set_cons_zero, List.set_cons_succ]
      refine takeH (i := 22) (fuel := 0) (v := txt L4) rfl (by kernel_rfl) (by kernel_rfl) (by kernel_rfl) (fun c a w h => h) (Or.inl ⟨by rfl, fun wx hx => by clear hx; go_simp⟩) HB_8.out ?_
      try simp only [Act.put, List.setIfInBounds_toArray, List.set_cons_zero, List.set_cons_succ]
      refine wpAnyH_done (by kernel_rfl) ?_ 0
      try simp only [Exit.then]
      go_wp2
      go_ret
      exact ⟨by rw [E.out]; rfl, below_trans D1.out BE_8.out D1.out.size⟩
    -->
end Go.Proofs.YtdcjoafagalejaaDoor
