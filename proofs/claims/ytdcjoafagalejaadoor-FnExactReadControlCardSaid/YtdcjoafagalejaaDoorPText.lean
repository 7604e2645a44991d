/- The text of a plan: both sides. -/
import Derived.Test.YtdcjoafagalejaaDoorText
import Derived.Test.YtdcjoafagalejaaDoorPlan
import Derived.Lib.Join
import Derived.RangeFuncBox
import Derived.OwnWalk
namespace Go.Proofs.YtdcjoafagalejaaDoor
set_option maxRecDepth 20000
open Go.RowKit

/-! ### Plain -/
def wordOf (n : Nat) (t : Int) : List UInt8 := Lib.decDigits n ++ ([120] ++ Lib.itoa t)
/-- Behind the hours 1 .. k: where the run began, and the words that are told. -/
def runW (p : List Int) : Nat → Nat × List (List UInt8)
  | 0 => (0, [])
  | k + 1 => if k + 1 = 24 ∨ iat p (k + 1) ≠ iat p (runW p k).1 then (k + 1, (runW p k).2 ++ [wordOf (k + 1 - (runW p k).1) (iat p (runW p k).1)]) else runW p k
def planT (p : List Int) : List UInt8 := if tilts p then Lib.join (runW p 24).2 [32] else []
theorem runW_yes {p : List Int} {k : Nat} (h : k + 1 = 24 ∨ iat p (k + 1) ≠ iat p (runW p k).1) : runW p (k + 1) = (k + 1, (runW p k).2 ++ [wordOf (k + 1 - (runW p k).1) (iat p (runW p k).1)]) := by rw [runW, if_pos h]
theorem runW_no {p : List Int} {k : Nat} (h1 : k + 1 ≠ 24) (h2 : iat p (k + 1) = iat p (runW p k).1) : runW p (k + 1) = runW p k := by rw [runW, if_neg (fun h => h.elim h1 (fun h => h h2))]
theorem runW_inv (p : List Int) : ∀ k, k < 24 → (runW p k).1 ≤ k ∧ iat p k = iat p (runW p k).1
  | 0, _ => ⟨Nat.le_refl _, rfl⟩
  | k + 1, h => by
    have ih := runW_inv p k (by omega)
    by_cases hc : k + 1 = 24 ∨ iat p (k + 1) ≠ iat p (runW p k).1
    · rw [runW_yes hc]; exact ⟨Nat.le_refl _, rfl⟩
    · have h2 : iat p (k + 1) = iat p (runW p k).1 := Decidable.byContradiction fun hx => hc (.inr hx)
      rw [runW_no (by omega) h2]; exact ⟨by omega, h2⟩
theorem runW_len (p : List Int) : ∀ k, (runW p k).2.length ≤ k
  | 0 => by simp [runW]
  | k + 1 => by
    have := runW_len p k
    rw [runW]; split
    · simp; omega
    · omega
theorem runW_none (p : List Int) : ∀ k, (runW p k).2 = [] ↔ (runW p k).1 = 0
  | 0 => by simp [runW]
  | k + 1 => by
    rw [runW]; split
    · simp
    · exact runW_none p k
theorem itoa_short {n : Int} (h : -999 ≤ n ∧ n ≤ 999) : (Lib.itoa n).length ≤ 21 := Lib.itoa_length_le n (by omega) (by omega)
theorem word_short {n : Nat} {t : Int} (hn : n ≤ 999) (h : -999 ≤ t ∧ t ≤ 999) : (wordOf n t).length ≤ 42 := by
  have h1 := decDigits_short hn
  have h2 := itoa_short h
  simp [wordOf]; omega
theorem itoa_nat (n : Nat) : Lib.itoa (n : Int) = Lib.decDigits n := by rw [Lib.itoa, if_neg (by omega), Int.toNat_natCast]
theorem join_snoc (ws : List (List UInt8)) (x : List UInt8) (h : ws ≠ []) : Lib.join (ws ++ [x]) [32] = Lib.join ws [32] ++ ([32] ++ x) := by
  cases ws with
  | nil => exact absurd rfl h
  | cons y r => simp [Lib.join_cons, Lib.joinTail, List.append_assoc]
theorem join_short (ws : List (List UInt8)) (h : ∀ x ∈ ws, x.length ≤ 42) : (Lib.join ws [32]).length ≤ 43 * ws.length := by
  cases ws with
  | nil => simp [Lib.join_nil]
  | cons y r =>
    rw [Lib.join_cons, List.length_append, Lib.joinTail_length]
    have : ∀ r : List (List UInt8), (∀ x ∈ r, x.length ≤ 42) → Lib.lens r ≤ 42 * r.length := by
      intro r
      induction r with
      | nil => intro _; simp [Lib.lens]
      | cons z r ih =>
        intro h
        have := ih (fun x hx => h x (by simp [hx]))
        have h2 := h z (by simp)
        simp only [Lib.lens, List.map_cons, List.sum_cons, List.length_cons] at this ⊢
        omega
    have h1 := h y (by simp)
    have h2 := this r (fun x hx => h x (by simp [hx]))
    simp; omega
theorem runW_words {p : List Int} (hp : ∀ k, k < 24 → -999 ≤ iat p k ∧ iat p k ≤ 999) : ∀ k, k ≤ 24 → ∀ x ∈ (runW p k).2, x.length ≤ 42
  | 0, _ => by simp [runW]
  | k + 1, h => by
    have ih := runW_words hp k (by omega)
    have iv := runW_inv p k (by omega)
    rw [runW]; split
    · intro x hx
      simp at hx
      rcases hx with hx | rfl
      · exact ih x hx
      · exact word_short (by omega) (hp _ (by omega))
    · exact ih
theorem tilts_in {p : List Int} (lp : p.length = 24) (h : tilts p = true) : ∀ k, k < 24 → -64 ≤ iat p k ∧ iat p k ≤ 64 := fun k hk => by
  have hk' : k < p.length := by omega
  simp only [tilts, List.all_eq_true] at h
  have := h (iat p k) (by simp [iat, hk'])
  simpa [inB] using this
theorem info_str : (Tryd.prog.info? 9).map (fun i => (i.zero, i.size, i.bytes)) = some (some (.string ByteArray.empty), 1, 16) := by kernel_rfl
theorem one_cellS (x : List UInt8) : ∀ u ∈ [txt x], u.oneCell' = true := by intro u hu; simp at hu; subst hu; rfl
theorem ownsS_empty (w : World) (T : TypeId) : (w.alloc (.cells #[] T)).ownsRow w.heap.size T 1 (.slice (some ⟨w.heap.size, 0, none⟩) 0 0) 0 [] :=
  World.ownsRow_made w #[] 0 (Nat.le_refl _) (by unfold maxLen; omega) rfl
theorem ownsS_below {w w' : World} {lo s n : Nat} {T : TypeId} {v : Value} {l : List Value} (h : w.ownsRow lo T s v n l) (hb : Below w.heap.size w w') : w'.ownsRow lo T s v n l :=
  ⟨h.1, h.2.imp id fun ⟨g, cap, cur, h1, h2, h3, h4⟩ => ⟨g, cap, cur, h1, h2, (hb.block g (block_lt h3)).trans h3, h4⟩⟩
theorem ownsS_from {w : World} {lo lo' s n : Nat} {T : TypeId} {v : Value} {l : List Value} (h : w.ownsRow lo T s v n l) (hl : lo' ≤ lo) : w.ownsRow lo' T s v n l :=
  ⟨h.1, h.2.imp id fun ⟨g, cap, cur, h1, h2, h3, h4⟩ => ⟨g, cap, cur, h1, Nat.le_trans hl h2, h3, h4⟩⟩
theorem c_Join (lo : Nat) (v : Value) (ws : List (List UInt8)) (hne : ws ≠ []) (hs : ∀ x ∈ ws, x.length ≤ 42) (hl : ws.length ≤ 1000) (w : World) (O : w.ownsRow lo 9 1 v ws.length (ws.map txt)) :
    Calls Tryd.prog 37 #[v, .string ⟨#[32]⟩] w fun e w' => e = .returned (txt (Lib.join ws [32])) ∧ Below w.heap.size w w' := by
  rcases O.2 with ⟨_, h0⟩ | ⟨g, cap, cur, rfl, _, hg, hcap, _, _, _⟩
  · exact absurd (List.length_eq_zero_iff.1 h0) hne
  · have e1 : (ws.map (fun l => (⟨l.toArray⟩ : ByteArray))).map (·.data.toList) = ws := by
      rw [List.map_map]; exact (List.map_congr_left (fun x _ => by simp)).trans (List.map_id _)
    have e2 : (⟨#[32]⟩ : ByteArray).data.toList = [32] := rfl
    have hj := join_short ws hs
    have C := Tryd.strings_Join g 0 cap (ws.map (fun l => (⟨l.toArray⟩ : ByteArray))) ⟨#[32]⟩ w (fun j x hx => by
      have hjl : j < ws.length := by have := (List.getElem?_eq_some_iff.1 hx).1; simpa using this
      rw [Nat.zero_add, O.cellAt j (by omega)]
      simp [hjl] at hx ⊢
      exact hx) (block_lt hg) (by simp; omega) (by simpa using hcap) (by rw [e1, e2]; omega)
    rw [e1, e2, List.length_map] at C
    exact C
theorem one_at (w : World) (T : TypeId) (x : Value) : ∀ (j : Nat) (u : Value), [x][j]? = some u → (w.alloc (.cells #[x] T)).cell? ((⟨w.heap.size, 0, none⟩ : Addr).add j) = some u := by
  intro j u hj
  match j, hj with
  | 0, hj => simp at hj; subst hj; simp [Addr.add]
theorem one_strC (x : ByteArray) : ∀ u ∈ [Value.string x], u.oneCell' = true := by intro u hu; simp at hu; subst hu; rfl
theorem appT {wa w2 w3 : World} {base : Nat} {o : Obj} {v : Value} {k : Nat} {l : List Value} {T : TypeId} (B : Below base wa w2) (hb : base ≤ w2.heap.size) (O : w2.ownsRow base T 1 v k l) (hg : (w2.alloc o).grownBy w3 v.ownBlock) : Below base wa w3 :=
  (B.alloc hb _).grown hg (by simp; omega) (fun r e => (O.lt r e).1)
theorem step_append_own {P : Program} {ops : Array Oper} {o : Oper} {a : Act} {w : World} {K : Act → World → Prop} {Q : Exit → Act → World → Prop} {E : Prop} (hgd : o.guard = none) (s x : Operand) (t : TypeId)
    (ho : o.op = .call { callee := .builtin .append, args := #[s, x], argTypes := #[t, t] })
    (base : Nat) (e : TypeId) (i : TypeInfo) (z : Value) (size bytes : Nat) (ht : P.underlying t = some (.slice e)) (hi : P.info? e = some i) (hz : i.zero = some z)
    (hsize : i.size = size) (hby : i.bytes = bytes) (hzs : z.cells.size = size) (hsz : 0 < size)
    (v : Value) (n : Nat) (xs : List Value) (hs : a.eval s = v) (hown : w.ownsRow base e size v n xs)
    (ad : Addr) (m c : Nat) (news : List Value) (hx : a.eval x = .slice (some ad) m c) (hl : news.length = m * size) (hnews : ∀ j u, news[j]? = some u → w.cell? (ad.add j) = some u) (h1 : ∀ u ∈ news, u.oneCell' = true)
    (h63 : n + m ≤ maxLen) (hbytes : (n + m) * bytes ≤ 140737488355328) (hbase : base ≤ w.heap.size)
    (h : ∀ v' w', w'.ownsRow base e size v' (n + m) (xs ++ news) → w.grownBy w' v.ownBlock → (v' = .slice none 0 0 ↔ v = .slice none 0 0 ∧ m = 0) → K (a.put o.dst v') w') : if Region.wanted o (yielded ops a.tmps) = true then Oper.wp P o a w K Q else E := by
  rw [if_pos (by simp [Region.wanted, hgd])]
  exact wp_append_own w s x t ho base e i z size bytes ht hi hz hsize hby hzs hsz v n xs hs hown ad m c news hx hl hnews h1 h63 hbytes hbase h
set_option maxHeartbeats 2000000 in
theorem c_implPlanText (p : List Int) (lp : p.length = 24) (w : World) (hb : ∀ k, k < 24 → -32768 ≤ iat p k ∧ iat p k ≤ 32767) (ht : Tab w) :
    Calls Tryd.prog 12 #[.agg (i16s p)] w fun e w' => e = .returned (txt (planT p)) ∧ Below w.heap.size w w' := by
  have HB0 : Hid ((w.alloc (.cells (i16s p) 25)).heap[w.heap.size]? = some (.cells (i16s p) 25 (0, 0))) := hid (blk_at _ _ _ rfl)
  have H0 : Hid (Below w.heap.size w (w.alloc (.cells (i16s p) 25))) := hid ((Below.refl _ _).alloc (Nat.le_refl _) _)
  have HZ : Hid ((Tryd.prog.info? 25).map (·.size) = some (i16s p).size) := hid (by rw [i16s_size, lp]; kernel_rfl)
  have CV := hid (fun w => c_implValidPlan p lp w hb)
  have LP := hid lp
  have T := hid ht
  clear ht
  cases hv : tilts p
  · have E : Hid (planT p = []) := hid (by rw [planT, hv]; rfl)
    rw [hv] at CV
    clear hv lp hb
    go_enter Tryd.func12, Tryd.ntmps12
    go_wp2_with (first | (refine wpList_load_row rfl 25 _ rfl (w.heap.size) rfl 25 (i16s p) (0, 0) _ HB0.out Tryd.underlying25 rfl HZ.out ?_) | (go_at_call 35; refine (CV.out _).mono ?_; rintro e w1 ⟨rfl, h1⟩; have D1 := hid (below_trans H0.out h1 H0.out.size); clear h1))
    go_ret
    exact ⟨by rw [E.out]; rfl, D1.out⟩
  · have E : Hid (planT p = Lib.join (runW p 24).2 [32]) := hid (by rw [planT, hv]; rfl)
    have TI := hid (tilts_in lp hv)
    rw [hv] at CV
    obtain ⟨i0, hi, hz0, hz1, hz2⟩ := info_parts info_str
    have HI := hid hi
    have HZ0 := hid hz0
    have HZ1 := hid hz1
    have HZ2 := hid hz2
    clear hv lp hb hi hz0 hz1 hz2
    go_enter Tryd.func12, Tryd.ntmps12
    go_wp2_with (first | (refine wpList_load_row rfl 25 _ rfl (w.heap.size) rfl 25 (i16s p) (0, 0) _ HB0.out Tryd.underlying25 rfl HZ.out ?_) | (go_at_call 35; refine (CV.out _).mono ?_; rintro e w1 ⟨rfl, h1⟩; have D1 := hid h1; clear h1))
    go_loopw [3, 4, 5] (fun v f h wr => ∃ k : Nat, k ≤ 24 ∧ h = .int .i64 ((k + 1 : Nat) : Int) ∧ f = .int .i64 ((runW p k).1 : Int) ∧ wr.ownsRow (w.heap.size + 1) 9 1 v (runW p k).2.length ((runW p k).2.map txt) ∧ Below (w.heap.size + 1) (w.alloc (.cells (i16s p) 25)) wr) (fun _ _ h _ => 25 - (intOf h).toNat)
    case atStart => exact ⟨0, by omega, rfl, rfl, ownsS_from (ownsS_empty w1 9) (by have := D1.out.size; simpa using this), by have h := D1.out.alloc D1.out.size (.cells #[] 9); simpa using h⟩
    case round =>
      obtain ⟨k, hk, rfl, rfl, hown, hbel⟩ := hrel
      have O := hid hown
      have BE := hid hbel
      clear hown hbel
      by_cases hlt : k < 24
      · obtain ⟨hfk, hiv⟩ := runW_inv p k hlt
        have B1 : Hid (Below (w.alloc (.cells (i16s p) 25)).heap.size (w.alloc (.cells (i16s p) 25)) wr) := hid (by have := BE.out; simpa using this)
        have BK := hid ((B1.out.block _ (block_lt HB0.out)).trans HB0.out)
        have cells : ∀ j, j < 24 → wr.cell? ⟨w.heap.size, j, none⟩ = some (.int .i16 (iat p j)) := fun j hj => (cell_of_row _ _ j _ _ _ BK.out).trans (i16s_at LP.out hj)
        have q2 := cells k hlt
        have tk := TI.out k hlt
        have TT := hid (T.out.below (H0.out.trans (B1.out.mono (by simp))))
        have LB : Hid (w.heap.size + 1 ≤ wr.heap.size) := hid (by have h := BE.out.size; rwa [show (w.alloc (.cells (i16s p) 25)).heap.size = w.heap.size + 1 by simp] at h)
        have LW := hid (Nat.le_trans (runW_len p k) (Nat.le_of_lt hlt))
        have q3 := cells (runW p k).1 (by omega)
        have RN : Hid (k + 1 ≠ 24 → iat p (k + 1) = iat p (runW p k).1 → runW p (k + 1) = runW p k) := hid runW_no
        have RY : Hid (k + 1 = 24 ∨ iat p (k + 1) ≠ iat p (runW p k).1 → runW p (k + 1) = (k + 1, (runW p k).2 ++ [wordOf (k + 1 - (runW p k).1) (iat p (runW p k).1)])) := hid runW_yes
        rw [← hiv] at q3 RN RY
        clear hiv
        have hf24 : ((runW p k).1 : Int) < 24 := by omega
        by_cases h24 : k + 1 = 24
        · have R := hid (RY.out (.inl h24))
          have k3 : IntKind.i64.wrap (24 - ((runW p k).1 : Int)) = ((k + 1 - (runW p k).1 : Nat) : Int) := by rw [IntWalk.i64_in] <;> omega
          have h25 : ((k : Int) + 1 == 24) = true := by simp; omega
          have C1 : Hid (∀ w2, Below wr.heap.size wr w2 → Calls Tryd.prog 36 #[.int .i64 ((k + 1 - (runW p k).1 : Nat) : Int)] w2 fun e w' => e = .returned (txt (Lib.decDigits (k + 1 - (runW p k).1))) ∧ Below w2.heap.size w2 w') := hid (fun w2 h => by rw [← itoa_nat]; exact c_decimal _ (by omega) (by omega) w2 (TT.out.below h))
          have C2 : Hid (∀ w2, Below wr.heap.size wr w2 → Calls Tryd.prog 36 #[.int .i64 (iat p k)] w2 fun e w' => e = .returned (txt (Lib.itoa (iat p k))) ∧ Below w2.heap.size w2 w') := hid (fun w2 h => c_decimal _ (by omega) (by omega) w2 (TT.out.below h))
          have hc1 : ¬ (9223372036854775807 < (Lib.decDigits (k + 1 - (runW p k).1)).length + 1) := by have := decDigits_short (n := k + 1 - (runW p k).1) (by omega); omega
          have hc2 : ¬ (9223372036854775807 < (Lib.decDigits (k + 1 - (runW p k).1)).length + 1 + (Lib.itoa (iat p k)).length) := by have := decDigits_short (n := k + 1 - (runW p k).1) (by omega); have := itoa_short (n := iat p k) (by omega); omega
          have k1 : IntKind.i64.wrap ((k : Int) + 1 - ((runW p k).1 : Int)) = ((k + 1 - (runW p k).1 : Nat) : Int) := by rw [IntWalk.i64_in] <;> omega
          have k2 : IntKind.i64.wrap (iat p k) = iat p k := by rw [IntWalk.i64_in] <;> omega
          obtain ⟨ds, hds⟩ : ∃ ds, ds = Lib.decDigits (k + 1 - (runW p k).1) := ⟨_, rfl⟩
          obtain ⟨it, hit⟩ : ∃ it, it = Lib.itoa (iat p k) := ⟨_, rfl⟩
          rw [← hds] at C1 hc1 hc2
          rw [← hit] at C2 hc2
          have DS := hid hds.symm
          have IT := hid hit.symm
          clear hds hit
          have H24 := hid h24
          clear h24
          go_wp2
          go_quiet (fail)
          go_wp2_with fail
          go_region_law (first | (go_simp; go_at_call 36; with_reducible refine (C1.out _ (below_drawn (Below.refl _ _) _)).mono ?_; rintro e w2 ⟨rfl, h2⟩; have D2 := hid (below_trans (below_drawn (Below.refl _ _) _) h2 (Nat.le_refl _)); have q4 := cell_stays D2.out q3; clear h2) | (go_simp; go_at_call 36; refine (C2.out _ D2.out).mono ?_; rintro e w3 ⟨rfl, h3⟩; have D3 := hid (below_trans D2.out h3 D2.out.size); clear h3) | (refine step_append_own rfl _ _ 60 rfl (w.heap.size + 1) 9 i0 (.string ByteArray.empty) 1 16 Tryd.underlying60 HI.out HZ0.out HZ1.out HZ2.out rfl (by decide) _ _ _ rfl ((ownsS_below O.out D3.out).alloc _) ⟨w3.heap.size, 0, none⟩ 1 1 [.string ((⟨ds.toArray⟩ : ByteArray) ++ ⟨#[120]⟩ ++ ⟨it.toArray⟩)] rfl rfl (one_at _ _ _) (one_strC _) (by have := LW.out; unfold maxLen; omega) (by have := LW.out; omega) (by have h1 := LB.out; have h2 := D3.out.size; simp; omega) ?_; intro v' w4 hown' hgrow _))
          all_goals
            have O1 := hid hown'
            have B3 : Hid (Below (w.heap.size + 1) (w.alloc (.cells (i16s p) 25)) w3) := hid (BE.out.trans (D3.out.mono LB.out))
            have B4 := hid (appT B3.out (Nat.le_trans LB.out D3.out.size) (ownsS_below O.out D3.out) hgrow)
            clear hown' hgrow
            go_wp2
            refine ⟨⟨k + 1, by omega, by go_num, by rw [R.out]; go_num, ?_, B4.out⟩, by simp [intOf]; omega⟩
            rw [R.out]
            have o := O1.out
            rw [cat_bytes, cat_bytes, List.append_assoc] at o
            simpa [wordOf, DS.out, IT.out] using o
        · have q1 := cells (k + 1) (by omega)
          clear cells
          by_cases he : iat p (k + 1) = iat p k
          · have R := hid (RN.out h24 he)
            have he2 : (iat p (k + 1) != iat p k) = false := by simp [he]
            have h25 : ((k : Int) + 1 == 24) = false := by simp; omega
            generalize iat p (k + 1) = y at *
            generalize iat p k = x at *
            go_wp2
            go_quiet (fail)
            go_wp2
            exact ⟨⟨k + 1, by omega, by go_num, by rw [R.out], by rw [R.out]; exact O.out, ⟨BE.out.os, BE.out.tape, BE.out.output, BE.out.size, BE.out.block⟩⟩, by simp [intOf]; omega⟩
          · have R := hid (RY.out (.inr he))
            have he2 : (iat p (k + 1) != iat p k) = true := by simp [he]
            have h25 : ((k : Int) + 1 == 24) = false := by simp; omega
            have C1 : Hid (∀ w2, Below wr.heap.size wr w2 → Calls Tryd.prog 36 #[.int .i64 ((k + 1 - (runW p k).1 : Nat) : Int)] w2 fun e w' => e = .returned (txt (Lib.decDigits (k + 1 - (runW p k).1))) ∧ Below w2.heap.size w2 w') := hid (fun w2 h => by rw [← itoa_nat]; exact c_decimal _ (by omega) (by omega) w2 (TT.out.below h))
            have C2 : Hid (∀ w2, Below wr.heap.size wr w2 → Calls Tryd.prog 36 #[.int .i64 (iat p k)] w2 fun e w' => e = .returned (txt (Lib.itoa (iat p k))) ∧ Below w2.heap.size w2 w') := hid (fun w2 h => c_decimal _ (by omega) (by omega) w2 (TT.out.below h))
            have hc1 : ¬ (9223372036854775807 < (Lib.decDigits (k + 1 - (runW p k).1)).length + 1) := by have := decDigits_short (n := k + 1 - (runW p k).1) (by omega); omega
            have hc2 : ¬ (9223372036854775807 < (Lib.decDigits (k + 1 - (runW p k).1)).length + 1 + (Lib.itoa (iat p k)).length) := by have := decDigits_short (n := k + 1 - (runW p k).1) (by omega); have := itoa_short (n := iat p k) (by omega); omega
            have k1 : IntKind.i64.wrap ((k : Int) + 1 - ((runW p k).1 : Int)) = ((k + 1 - (runW p k).1 : Nat) : Int) := by rw [IntWalk.i64_in] <;> omega
            have k2 : IntKind.i64.wrap (iat p k) = iat p k := by rw [IntWalk.i64_in] <;> omega
            obtain ⟨ds, hds⟩ : ∃ ds, ds = Lib.decDigits (k + 1 - (runW p k).1) := ⟨_, rfl⟩
            obtain ⟨it, hit⟩ : ∃ it, it = Lib.itoa (iat p k) := ⟨_, rfl⟩
            rw [← hds] at C1 hc1 hc2
            rw [← hit] at C2 hc2
            have DS := hid hds.symm
            have IT := hid hit.symm
            clear hds hit
            generalize iat p (k + 1) = y at q1 he2
            go_wp2
            go_quiet (fail)
            go_wp2_with fail
            go_region_law (first | (go_simp; go_at_call 36; with_reducible refine (C1.out _ (below_drawn (Below.refl _ _) _)).mono ?_; rintro e w2 ⟨rfl, h2⟩; have D2 := hid (below_trans (below_drawn (Below.refl _ _) _) h2 (Nat.le_refl _)); have q4 := cell_stays D2.out q3; clear h2) | (go_simp; go_at_call 36; refine (C2.out _ D2.out).mono ?_; rintro e w3 ⟨rfl, h3⟩; have D3 := hid (below_trans D2.out h3 D2.out.size); clear h3) | (refine step_append_own rfl _ _ 60 rfl (w.heap.size + 1) 9 i0 (.string ByteArray.empty) 1 16 Tryd.underlying60 HI.out HZ0.out HZ1.out HZ2.out rfl (by decide) _ _ _ rfl ((ownsS_below O.out D3.out).alloc _) ⟨w3.heap.size, 0, none⟩ 1 1 [.string ((⟨ds.toArray⟩ : ByteArray) ++ ⟨#[120]⟩ ++ ⟨it.toArray⟩)] rfl rfl (one_at _ _ _) (one_strC _) (by have := LW.out; unfold maxLen; omega) (by have := LW.out; omega) (by have h1 := LB.out; have h2 := D3.out.size; simp; omega) ?_; intro v' w4 hown' hgrow _))
            all_goals
              have O1 := hid hown'
              have B3 : Hid (Below (w.heap.size + 1) (w.alloc (.cells (i16s p) 25)) w3) := hid (BE.out.trans (D3.out.mono LB.out))
              have B4 := hid (appT B3.out (Nat.le_trans LB.out D3.out.size) (ownsS_below O.out D3.out) hgrow)
              clear hown' hgrow
              go_wp2
              refine ⟨⟨k + 1, by omega, by go_num, by rw [R.out]; go_num, ?_, B4.out⟩, by simp [intOf]; omega⟩
              rw [R.out]
              have o := O1.out
              rw [cat_bytes, cat_bytes, List.append_assoc] at o
              simpa [wordOf, DS.out, IT.out] using o
      · obtain rfl : k = 24 := by omega
        have NE : (runW p 24).2 ≠ [] := by
          intro h
          have := (runW_none p 24).1 h
          rw [runW_yes (.inl rfl)] at this
          cases this
        have JC := hid (c_Join (w.heap.size + 1) u3 (runW p 24).2 NE (runW_words (fun j hj => by have := TI.out j hj; omega) 24 (Nat.le_refl _)) (by have := runW_len p 24; omega) wr O.out)
        have LB : Hid (w.heap.size + 1 ≤ wr.heap.size) := hid (by have h := BE.out.size; rwa [show (w.alloc (.cells (i16s p) 25)).heap.size = w.heap.size + 1 by simp] at h)
        go_wp2_with (go_at_call 37; refine JC.out.mono ?_; rintro e w2 ⟨rfl, h2⟩; have D2 := hid (below_trans (H0.out.trans (BE.out.mono (by omega))) h2 (Nat.le_trans (by omega) LB.out)); clear h2)
        go_ret
        exact ⟨by rw [E.out]; rfl, D2.out⟩
end Go.Proofs.YtdcjoafagalejaaDoor
