/- The order of numbers with the greatest sum: the reference's side. -/
import Derived.Test.YtpaoccnffmngfaaGreat
import Derived.OrdersHeld
namespace Go.Proofs.Ytpaoccnffmngfaa
set_option maxRecDepth 20000
open Go.RowKit

structure InvS (sb lo : Nat) (a : Option Addr) (n ca : Nat) (T : (List Int × Nat) × Bool) (w : World) : Prop where
  box : ∃ v, w.heap[sb]? = some (.cells #[.slice a n ca, v, .float .f32 T.1.2, .bool T.2] 60 (0, 0)) ∧ GotI w lo v T.1.1
theorem InvS.below {sb lo : Nat} {a : Option Addr} {n ca : Nat} {T : (List Int × Nat) × Bool} {w w' : World} (h : InvS sb lo a n ca T w) (hb : Below w.heap.size w w') : InvS sb lo a n ca T w' :=
  let ⟨v, h1, h2⟩ := h.box; ⟨⟨v, (hb.block _ (block_lt h1)).trans h1, ownB h2 hb⟩⟩
/-- The cells of the reference's box. -/
theorem box_cells {w : World} {b : Nat} {v0 v1 v2 v3 : Value} {T : TypeId} (h : w.heap[b]? = some (.cells #[v0, v1, v2, v3] T (0, 0))) :
    w.cell? ⟨b, 0, none⟩ = some v0 ∧ w.cell? ⟨b, 1, none⟩ = some v1 ∧ w.cell? ⟨b, 2, none⟩ = some v2 ∧ w.cell? ⟨b, 3, none⟩ = some v3 :=
  ⟨by rw [cell_of_row w b 0 _ _ _ h]; rfl, by rw [cell_of_row w b 1 _ _ _ h]; rfl, by rw [cell_of_row w b 2 _ _ _ h]; rfl, by rw [cell_of_row w b 3 _ _ _ h]; rfl⟩
theorem box_frozen {w : World} {b k : Nat} {cs : Array Value} {T : TypeId} (h : w.heap[b]? = some (.cells cs T (0, 0))) : w.frozen? ⟨b, k, none⟩ = false := frozen_of_row w b k _ _ h
theorem box_set {w : World} {b : Nat} {v0 v1 v2 v3 u1 u2 u3 : Value} {T : TypeId} (h : w.heap[b]? = some (.cells #[v0, v1, v2, v3] T (0, 0))) :
    (w.setCell ⟨b, 1, none⟩ u1).heap[b]? = some (.cells #[v0, u1, v2, v3] T (0, 0)) ∧ ((w.setCell ⟨b, 1, none⟩ u1).setCell ⟨b, 2, none⟩ u2).heap[b]? = some (.cells #[v0, u1, u2, v3] T (0, 0)) ∧ (((w.setCell ⟨b, 1, none⟩ u1).setCell ⟨b, 2, none⟩ u2).setCell ⟨b, 3, none⟩ u3).heap[b]? = some (.cells #[v0, u1, u2, u3] T (0, 0)) := by
  have h1 := heap_setCell_same w b 1 _ T u1 h
  have h2 := heap_setCell_same _ b 2 _ T u2 h1
  have h3 := heap_setCell_same _ b 3 _ T u3 h2
  exact ⟨by simpa using h1, by simpa using h2, by simpa using h3⟩
theorem c_l00HasI (g cap m lo : Nat) (p : List Int) (z : Int) (w : World) (hp : Has w lo g cap m p) (hm : m ≤ 99) :
    Calls Try.prog 79 #[.slice (some ⟨g, 0, none⟩) m cap, .int .i64 z] w fun e w' => e = .returned (.bool (p.contains z)) ∧ w = w' := by
  have X := hid hp
  clear hp
  go_enter Try.func79, Try.ntmps79
  go_wp2
  go_loop [5] (fun i => ∃ k : Nat, k ≤ m ∧ i = .int .i64 k ∧ ∀ j, j < k → iat p j ≠ z) (fun i => m - (intOf i).toNat)
  case atStart => exact ⟨0, by omega, rfl, by omega⟩
  case round =>
    obtain ⟨k, hk, rfl, hall⟩ := hrel
    have A := hid hall
    clear hall
    by_cases hlt : k < m
    · have h1 := X.out.cell hlt
      by_cases hz : iat p k = z
      · have Z := hid hz
        rw [hz] at h1
        clear hz
        go_wp2
        go_ret
        exact ⟨ret_bool (by have hh := has_yes (by rw [X.out.2]; exact hlt) Z.out; rw [List.contains_iff_mem] at hh; simp [hh]), rfl⟩
      · have Z := hid hz
        generalize iat p k = y at h1 hz
        go_wp2
        refine ⟨⟨k + 1, by omega, by go_num, fun j hj => ?_⟩, by simp [intOf]; omega⟩
        rcases Nat.lt_or_ge j k with h | h
        · exact A.out j h
        · obtain rfl : j = k := by omega
          exact Z.out
    · obtain rfl : k = m := by omega
      go_wp2
      go_ret
      exact ⟨ret_bool (by have hh := has_no (z := z) (p := p) (by rw [X.out.2]; exact A.out); rw [Bool.eq_false_iff, ne_eq, List.contains_iff_mem] at hh; simp [hh]), rfl⟩
set_option maxHeartbeats 1000000 in
theorem c_from0 (sb lo : Nat) (hsl : sb < lo) (a : Option Addr) (n ca : Nat) (xs : List Nat) (hn : n ≤ 6) (p : List Int) (g cap : Nat) (T : (List Int × Nat) × Bool) (w : World) (hpv : Has w lo g cap n p) (hI : InvS sb lo a n ca T w) (hlo : lo ≤ w.heap.size) :
    Calls Try.prog 58 #[.pointer (some ⟨sb, 0, none⟩), .slice (some ⟨g, 0, none⟩) n cap, .float .f32 (psum xs p)] w fun e w' => e = .returned (.tuple #[]) ∧ InvS sb lo a n ca (qstep xs T p) w' ∧ KP sb sb w w' := by
  have HV := hid hpv
  have I := hid hI
  have HSL := hid hsl
  have LO := hid hlo
  obtain ⟨v, hbx, hgv⟩ := hI.box
  have BX := hid hbx
  have GV := hid hgv
  have B0 : Hid (Below w.heap.size w (w.alloc (.cells #[] 2))) := hid ((Below.refl _ _).alloc (Nat.le_refl _) _)
  have NW : Hid (∀ j u, (p.map (Value.int .i64))[j]? = some u → (w.alloc (.cells #[] 2)).cell? ((⟨g, 0, none⟩ : Addr).add j) = some u) := hid (fun j u hj => by
    have hj2 : j < n := by have := (List.getElem?_eq_some_iff.1 hj).1; simpa [hpv.2] using this
    have e := hpv.cell hj2
    rw [show (Addr.add ⟨g, 0, none⟩ j) = ⟨g, j, none⟩ by unfold Addr.add; split <;> simp_all]
    refine cell_stays B0.out ?_
    rw [e, ← hj, i64_at (by rw [hpv.2]; exact hj2)])
  have PL := hid hpv.2
  have HL : Hid ((p.map (Value.int .i64)).length = n * 1) := hid (by simp [hpv.2])
  have H1 : Hid (∀ u ∈ p.map (Value.int .i64), u.oneCell' = true) := hid (fun u hu => by simp at hu; obtain ⟨x, _, rfl⟩ := hu; rfl)
  have HO : Hid (qstep xs T p = if !T.2 || fGt (psum xs p) T.1.2 then ((p, psum xs p), true) else T) := hid rfl
  obtain ⟨c0, c1, c2, c3⟩ := box_cells hbx
  obtain ⟨i0, hi, hz0, hz1, hz2⟩ := info_parts info_i64
  have HI := hid hi
  have HZ0 := hid hz0
  have HZ1 := hid hz1
  have HZ2 := hid hz2
  clear hi hz0 hz1 hz2 hpv hI hsl hlo hbx hgv
  cases hf : T.2
  all_goals
    have HF := hid hf
    rw [hf] at c3
    clear hf
  · have EQ : Hid (qstep xs T p = ((p, psum xs p), true)) := hid (by rw [HO.out, HF.out]; rfl)
    generalize psum xs p = sm at *
    go_enter Try.func58, Try.ntmps58
    go_wp2_with (at_builtin; refine wpList_append_own _ rfl _ _ 36 rfl w.heap.size 2 i0 (.int .i64 0) 1 8 Try.underlying36 HI.out HZ0.out HZ1.out HZ2.out rfl (by decide) _ _ _ rfl (owns_empty w 2) ⟨g, 0, none⟩ n cap (p.map (Value.int .i64)) rfl HL.out NW.out H1.out (by unfold maxLen; omega) (by omega) (by simp) ?_; intro v' w3 hown' hgrow hnil; rw [Nat.zero_add, List.nil_append] at hown'; obtain ⟨g3, cap3, rfl⟩ := own_some hown' (fun e => absurd (hnil.1 e).1 (fun hc => by cases hc)); have O1 := hid hown'; have B1 := hid (B0.out.grown hgrow B0.out.size (fun r e => by cases e; exact Nat.le_refl _)); have X1 := hid ((B1.out.block _ (block_lt BX.out)).trans BX.out); clear hown' hgrow hnil; obtain ⟨d0, d1, d2, d3⟩ := box_cells X1.out; have f1 := box_frozen (k := 1) X1.out; obtain ⟨y1, y2, y3⟩ := box_set (u1 := .slice (some ⟨g3, 0, none⟩) n cap3) (u2 := .float .f32 sm) (u3 := .bool true) X1.out; have Y3 := hid y3; have KS := hid ((KP.set (F := sb) (G := sb) w3 sb (.inl rfl) 1 (.slice (some ⟨g3, 0, none⟩) n cap3)).trans ((KP.set (F := sb) (G := sb) _ sb (.inl rfl) 2 (.float .f32 sm)).trans (KP.set (F := sb) (G := sb) _ sb (.inl rfl) 3 (.bool true)))); have KF := hid ((KP.of_below (F := sb) (G := sb) B1.out).trans KS.out); obtain ⟨d10, d11, d12, d13⟩ := box_cells y1; have f2 := box_frozen (k := 2) y1; obtain ⟨d20, d21, d22, d23⟩ := box_cells y2; have f3 := box_frozen (k := 3) y2; clear y1 y2 y3)
    refine bodyPost_ret (results_none rfl _ _ _) rfl ?_
    refine ⟨rfl, ?_, KF.out⟩
    rw [EQ.out]
    exact ⟨_, Y3.out, by have := ownL O1.out LO.out; unfold GotI; rw [PL.out]; exact KS.out.own this HSL.out HSL.out⟩
  · cases hgt : fGt (psum xs p) T.1.2
    · have G0 : (FloatKind.f32.format.order (psum xs p) T.1.2 == some .gt) = false := hgt
      have EQ : Hid (qstep xs T p = T) := hid (by rw [HO.out, HF.out, hgt]; rfl)
      clear hgt
      generalize psum xs p = sm at *
      generalize T.1.2 = s2 at *
      go_enter Try.func58, Try.ntmps58
      go_wp2_with fail
      refine bodyPost_ret (results_none rfl _ _ _) rfl ?_
      refine ⟨rfl, ?_, KP.refl _ _ _⟩
      rw [EQ.out]; exact I.out
    · have G0 : (FloatKind.f32.format.order (psum xs p) T.1.2 == some .gt) = true := hgt
      have EQ : Hid (qstep xs T p = ((p, psum xs p), true)) := hid (by rw [HO.out, hgt]; simp)
      clear hgt
      generalize psum xs p = sm at *
      generalize T.1.2 = s2 at *
      go_enter Try.func58, Try.ntmps58
      go_wp2_with (at_builtin; refine wpList_append_own _ rfl _ _ 36 rfl w.heap.size 2 i0 (.int .i64 0) 1 8 Try.underlying36 HI.out HZ0.out HZ1.out HZ2.out rfl (by decide) _ _ _ rfl (owns_empty w 2) ⟨g, 0, none⟩ n cap (p.map (Value.int .i64)) rfl HL.out NW.out H1.out (by unfold maxLen; omega) (by omega) (by simp) ?_; intro v' w3 hown' hgrow hnil; rw [Nat.zero_add, List.nil_append] at hown'; obtain ⟨g3, cap3, rfl⟩ := own_some hown' (fun e => absurd (hnil.1 e).1 (fun hc => by cases hc)); have O1 := hid hown'; have B1 := hid (B0.out.grown hgrow B0.out.size (fun r e => by cases e; exact Nat.le_refl _)); have X1 := hid ((B1.out.block _ (block_lt BX.out)).trans BX.out); clear hown' hgrow hnil; obtain ⟨d0, d1, d2, d3⟩ := box_cells X1.out; have f1 := box_frozen (k := 1) X1.out; obtain ⟨y1, y2, y3⟩ := box_set (u1 := .slice (some ⟨g3, 0, none⟩) n cap3) (u2 := .float .f32 sm) (u3 := .bool true) X1.out; have Y3 := hid y3; have KS := hid ((KP.set (F := sb) (G := sb) w3 sb (.inl rfl) 1 (.slice (some ⟨g3, 0, none⟩) n cap3)).trans ((KP.set (F := sb) (G := sb) _ sb (.inl rfl) 2 (.float .f32 sm)).trans (KP.set (F := sb) (G := sb) _ sb (.inl rfl) 3 (.bool true)))); have KF := hid ((KP.of_below (F := sb) (G := sb) B1.out).trans KS.out); obtain ⟨d10, d11, d12, d13⟩ := box_cells y1; have f2 := box_frozen (k := 2) y1; obtain ⟨d20, d21, d22, d23⟩ := box_cells y2; have f3 := box_frozen (k := 3) y2; clear y1 y2 y3)
      refine bodyPost_ret (results_none rfl _ _ _) rfl ?_
      refine ⟨rfl, ?_, KF.out⟩
      rw [EQ.out]
      exact ⟨_, Y3.out, by have := ownL O1.out LO.out; unfold GotI; rw [PL.out]; exact KS.out.own this HSL.out HSL.out⟩
theorem InvS.cell0 {sb lo : Nat} {a : Option Addr} {n ca : Nat} {T : (List Int × Nat) × Bool} {w : World} (h : InvS sb lo a n ca T w) : w.cell? ⟨sb, 0, none⟩ = some (.slice a n ca) :=
  let ⟨_, h1, _⟩ := h.box; (box_cells h1).1
theorem VL.cell1 {W0 w : World} {b1 o1 n k x : Nat} {xs : List Nat} (h : VL W0 (some ⟨b1, o1, none⟩) n xs) (hb : Below W0.heap.size W0 w) (hk : k < n) (hx : fat xs k = x) : w.cell? ⟨b1, o1 + k, none⟩ = some (.float .f32 x) := by
  obtain ⟨b, o, e, hc⟩ := (h.below hb).fl.at_ (by omega)
  cases e
  rw [← hx]; exact hc k hk
theorem one_new {w : World} {b : Nat} {v : Value} {T : TypeId} (h : w.heap[b]? = some (.cells #[v] T (0, 0))) : ∀ (j : Nat) (u : Value), [v][j]? = some u → w.cell? ((⟨b, 0, none⟩ : Addr).add j) = some u := by
  intro j u hj
  match j, hj with
  | 0, hj => simp at hj; subst hj; exact (show (Addr.add ⟨b, 0, none⟩ 0) = ⟨b, 0, none⟩ by simp [Addr.add]) ▸ cellB h
theorem genG {p : World → Prop} {w0 : World} (h : ∀ wn, wn = w0 → p wn) : p w0 := h _ rfl
section
variable {P : Program} {ops : Array Oper} {Q : Exit → Act → World → Prop} {md : Region.Mode} {S : World → Prop}
theorem takeG {i : Nat} {d : Option Nat} {op : Op} {ty : TypeId} {pos : String} {after : Array Edge} {g : Option (Nat × Bool)} {v : Value} {fuel : Nat} {listed : Array Bool} {a : Act} {w : World}
    (hi : ops[i]? = some ⟨d, op, ty, pos, after, g⟩) (hs : Region.noSelect ops = true) (hf : Region.free md ops listed i = true) (hr : (Region.ready md ops listed).contains i = true)
    (hQ : ∀ c a w, Q (.panic c) (a.put d v) w → Q (.panic c) a w) (hy : YieldsIf P ops S ⟨d, op, ty, pos, after, g⟩ v a) (hS : S w)
    (h : wpAnyH P md ops Q S fuel (listed.setIfInBounds i true) (a.put d v) w) : wpAnyH P md ops Q S (fuel + 1) listed a w := wpAnyH_take hi hs hf hr hQ hy hS h
theorem plainG {i : Nat} {d : Option Nat} {op : Op} {ty : TypeId} {pos : String} {after : Array Edge} {K : Act → World → Prop} {a : Act} {w : World}
    (hi : ops[i]? = some ⟨d, op, ty, pos, after, none⟩) (h : (⟨d, op, ty, pos, after, none⟩ : Oper).wp P a w K Q) : wpOp P ops Q i K a w := by
  unfold wpOp
  simp only [hi]
  rw [if_pos (by simp [Region.wanted])]
  exact .inl h
end
theorem own_at {w : World} {b lo : Nat} (h : w.heap[b]? = some (.cells #[] 2 (0, 0))) (hl : lo ≤ b) : w.ownsRow lo 2 1 (.slice (some ⟨b, 0, none⟩) 0 0) 0 [] :=
  ⟨by simp, .inr ⟨b, 0, _, rfl, hl, h, Nat.le_refl _, by unfold maxLen; omega, by simp, by simp⟩⟩
set_option maxHeartbeats 2000000 in
theorem c_from (W0 : World) (sb lo : Nat) (hsl : sb < lo) (hbs : W0.heap.size ≤ sb) (a : Option Addr) (n ca : Nat) (xs : List Nat) (V : VL W0 a n xs) (hn : n ≤ 6) : ∀ (d : Nat) (p : List Int) (g cap m : Nat) (T : (List Int × Nat) × Bool) (w : World), m + d = n → Prefix n p → Has w lo g cap m p → InvS sb lo a n ca T w → Below W0.heap.size W0 w → lo ≤ w.heap.size →
    Calls Try.prog 58 #[.pointer (some ⟨sb, 0, none⟩), .slice (some ⟨g, 0, none⟩) m cap, .float .f32 (psum xs p)] w fun e w' => e = .returned (.tuple #[]) ∧ InvS sb lo a n ca (visit (qstep xs) n d p T) w' ∧ KP sb sb w w'
  | 0, p, g, cap, m, T, w, hd, hp, hpv, hI, hb, hlo => by
    obtain rfl : m = n := by omega
    exact c_from0 sb lo hsl a m ca xs hn p g cap T w hpv hI hlo
  | d + 1, p, g, cap, m, T, w, hd, hp, hpv, hI, hb, hlo => by
    have IH := hid (c_from W0 sb lo hsl hbs a n ca xs V hn d)
    have HP := hid hp
    have HV := hid hpv
    have I := hid hI
    have B := hid hb
    have VV := hid V
    have HSL := hid hsl
    have HBS := hid hbs
    have LO := hid hlo
    have hmn : m < n := by omega
    have HD : Hid (m + 1 + d = n) := hid (by omega)
    have VS : Hid (visit (qstep xs) n (d + 1) p T = visitK (qstep xs) n d p n T) := hid rfl
    have PL := hid hpv.2
    have hbq : ((m : Int) == (n : Int)) = false := by rw [cast_beq]; simp; omega
    have PA : Hid (AbsLe (psum xs p) (bl p.length)) := hid (psum_abs V.pl (by rw [V.len]; exact hp) (by rw [V.len]; exact hn))
    have FA : Hid (∀ k, k < n → AbsLe (fat xs k) PW) := hid (fun k hk => V.pl.abs (by rw [V.len]; exact hk))
    have HLL : Hid ((p.map (Value.int .i64)).length = m * 1) := hid (by simp [hpv.2])
    have H11 : Hid (∀ u ∈ p.map (Value.int .i64), u.oneCell' = true) := hid (fun u hu => by simp at hu; obtain ⟨x, _, rfl⟩ := hu; rfl)
    obtain ⟨v, hbx, _⟩ := hI.box
    have c0 := (box_cells hbx).1
    obtain ⟨i0, hi, hz0, hz1, hz2⟩ := info_parts info_i64
    have HI := hid hi
    have HZ0 := hid hz0
    have HZ1 := hid hz1
    have HZ2 := hid hz2
    clear hi hz0 hz1 hz2 hp hpv hI hb V hlo hd hsl hbs hbx
    have PS : Hid (∀ k : Nat, fadd (psum xs p) (fat xs k) = psum xs (p ++ [(k : Int)])) := hid (fun k => (psum_snoc xs p k).symm)
    generalize hsm : psum xs p = sm at *
    clear hsm
    go_enter Try.func58, Try.ntmps58
    go_wp2_with fail
    clear c0
    go_loopw [6] (fun i wr => ∃ k : Nat, k ≤ n ∧ i = .int .i64 k ∧ InvS sb lo a n ca (visitK (qstep xs) n d p k T) wr ∧ KP sb sb w wr) (fun i _ => n - (intOf i).toNat)
    case atStart => exact ⟨0, by omega, rfl, I.out, KP.refl _ _ _⟩
    case round =>
      obtain ⟨k, hk, rfl, hi, hkp⟩ := hrel
      have I1 := hid hi
      have KK := hid hkp
      obtain ⟨v1, hbx, _⟩ := hi.box
      have c0 := (box_cells hbx).1
      clear hi hkp hbx
      by_cases hlt : k < n
      · have H1 := hid (HV.out.kp KK.out HSL.out HSL.out)
        have C := hid (c_l00HasI g cap m lo p (k : Int) wr H1.out (by omega))
        cases hc : p.contains (k : Int)
        · have HC := hid hc
          rw [hc] at C
          have BW := hid (KP.below B.out KK.out HBS.out HBS.out B.out.size)
          obtain ⟨b1, o1, rfl, hc1⟩ := (VV.out.below BW.out).fl.at_ (by omega)
          have c1 := hc1 k hlt
          have ha : ∀ w, (binOp .add 26 (.float .f32 sm) (.float .f32 (fat xs k))).run Try.prog w = .ok (.float .f32 (fadd sm (fat xs k))) w := fun w => run_add (T := 26) PA.out.fin (FA.out k hlt).fin w
          have SK := hid (PS.out k)
          have HI2 : ∀ (g4 cap4 : Nat) (w4 : World), Has w4 lo g4 cap4 (m + 1) (p ++ [(k : Int)]) → Below wr.heap.size wr w4 → Calls Try.prog 58 #[.pointer (some ⟨sb, 0, none⟩), .slice (some ⟨g4, 0, none⟩) (m + 1) cap4, .float .f32 (fadd sm (fat xs k))] w4 fun e w' => e = .returned (.tuple #[]) ∧ InvS sb lo (some ⟨b1, o1, none⟩) n ca (visit (qstep xs) n d (p ++ [(k : Int)]) (visitK (qstep xs) n d p k T)) w' ∧ KP sb sb w4 w' := fun g4 cap4 w4 h1 h2 => by
            rw [SK.out]
            exact IH.out (p ++ [(k : Int)]) g4 cap4 (m + 1) _ w4 HD.out (HP.out.snoc (by rw [PL.out]; exact hmn) hlt) h1 (I1.out.below h2) (below_trans BW.out h2 BW.out.size) (Nat.le_trans LO.out (Nat.le_trans KK.out.size h2.size))
          have NW : Hid (∀ wx : World, Below wr.heap.size wr wx → ∀ j u, (p.map (Value.int .i64))[j]? = some u → wx.cell? ((⟨g, 0, none⟩ : Addr).add j) = some u) := hid (fun wx hb j u hj => by
            have hj2 : j < m := by have := (List.getElem?_eq_some_iff.1 hj).1; simpa [PL.out] using this
            have e := H1.out.cell hj2
            rw [show (Addr.add ⟨g, 0, none⟩ j) = ⟨g, j, none⟩ by unfold Addr.add; split <;> simp_all]
            refine cell_stays hb ?_
            rw [e, ← hj, i64_at (by rw [PL.out]; exact hj2)])
          generalize hsk : fadd sm (fat xs k) = sk at *
          generalize hx : fat xs k = x at *
          have XX := hid hx
          clear hc hc1 hsk hx
          go_wp2_with (go_at_call 79; refine C.out.mono ?_; rintro e w' ⟨rfl, rfl⟩)
          --<
          refine wp_region_held (S := fun wx => wx.cell? ⟨sb, 0, none⟩ = some (.slice (some ⟨b1, o1, none⟩) n ca) ∧ wx.cell? ⟨b1, o1 + k, none⟩ = some (.float .f32 x)) (by kernel_rfl) ?_
          refine genG (p := wpAnyH _ _ _ _ _ _ _ _) (w0 := wr.drew) (fun x1 hx1 => ?_)
          have BE_1 : Hid (Below wr.heap.size wr x1) := hid (hx1 ▸ (Below.refl _ _).drew)
          clear hx1
          have C0_1 := hid (cell_stays BE_1.out c0)
          have C1_1 := hid (cell_stays BE_1.out c1)
          refine takeG (i := 0) (fuel := 16) (v := .pointer (some ⟨sb, 0, none⟩)) rfl (by kernel_rfl) (by kernel_rfl) (by kernel_rfl) (fun c a w h => h) (Or.inl ⟨by rfl, fun wx hx => by obtain ⟨s1, s2⟩ := hx; go_simp⟩) ⟨C0_1.out, C1_1.out⟩ ?_
          try simp only [Act.put, List.setIfInBounds_toArray, List.set_cons_zero, List.set_cons_succ]
          refine takeG (i := 2) (fuel := 15) (v := .slice (some ⟨g, 0, none⟩) m cap) rfl (by kernel_rfl) (by kernel_rfl) (by kernel_rfl) (fun c a w h => h) (Or.inl ⟨by rfl, fun wx hx => by obtain ⟨s1, s2⟩ := hx; go_simp⟩) ⟨C0_1.out, C1_1.out⟩ ?_
          try simp only [Act.put, List.setIfInBounds_toArray, List.set_cons_zero, List.set_cons_succ]
          refine takeG (i := 4) (fuel := 14) (v := .int .i64 (k : Int)) rfl (by kernel_rfl) (by kernel_rfl) (by kernel_rfl) (fun c a w h => h) (Or.inl ⟨by rfl, fun wx hx => by obtain ⟨s1, s2⟩ := hx; go_simp⟩) ⟨C0_1.out, C1_1.out⟩ ?_
          try simp only [Act.put, List.setIfInBounds_toArray, List.set_cons_zero, List.set_cons_succ]
          refine takeG (i := 7) (fuel := 13) (v := .float .f32 sm) rfl (by kernel_rfl) (by kernel_rfl) (by kernel_rfl) (fun c a w h => h) (Or.inl ⟨by rfl, fun wx hx => by obtain ⟨s1, s2⟩ := hx; go_simp⟩) ⟨C0_1.out, C1_1.out⟩ ?_
          try simp only [Act.put, List.setIfInBounds_toArray, List.set_cons_zero, List.set_cons_succ]
          refine takeG (i := 8) (fuel := 12) (v := .pointer (some ⟨sb, 0, none⟩)) rfl (by kernel_rfl) (by kernel_rfl) (by kernel_rfl) (fun c a w h => h) (Or.inl ⟨by rfl, fun wx hx => by obtain ⟨s1, s2⟩ := hx; go_simp⟩) ⟨C0_1.out, C1_1.out⟩ ?_
          try simp only [Act.put, List.setIfInBounds_toArray, List.set_cons_zero, List.set_cons_succ]
          refine takeG (i := 9) (fuel := 11) (v := .pointer (some ⟨sb, 0, none⟩)) rfl (by kernel_rfl) (by kernel_rfl) (by kernel_rfl) (fun c a w h => h) (Or.inl ⟨by rfl, fun wx hx => by obtain ⟨s1, s2⟩ := hx; go_simp⟩) ⟨C0_1.out, C1_1.out⟩ ?_
          try simp only [Act.put, List.setIfInBounds_toArray, List.set_cons_zero, List.set_cons_succ]
          refine takeG (i := 10) (fuel := 10) (v := .pointer (some ⟨sb, 0, none⟩)) rfl (by kernel_rfl) (by kernel_rfl) (by kernel_rfl) (fun c a w h => h) (Or.inl ⟨by rfl, fun wx hx => by obtain ⟨s1, s2⟩ := hx; go_simp⟩) ⟨C0_1.out, C1_1.out⟩ ?_
          try simp only [Act.put, List.setIfInBounds_toArray, List.set_cons_zero, List.set_cons_succ]
          refine takeG (i := 11) (fuel := 9) (v := .slice (some ⟨b1, o1, none⟩) n ca) rfl (by kernel_rfl) (by kernel_rfl) (by kernel_rfl) (fun c a w h => h) (Or.inl ⟨by rfl, fun wx hx => by obtain ⟨s1, s2⟩ := hx; go_simp⟩) ⟨C0_1.out, C1_1.out⟩ ?_
          try simp only [Act.put, List.setIfInBounds_toArray, List.set_cons_zero, List.set_cons_succ]
          refine takeG (i := 12) (fuel := 8) (v := .int .i64 (k : Int)) rfl (by kernel_rfl) (by kernel_rfl) (by kernel_rfl) (fun c a w h => h) (Or.inl ⟨by rfl, fun wx hx => by obtain ⟨s1, s2⟩ := hx; go_simp⟩) ⟨C0_1.out, C1_1.out⟩ ?_
          try simp only [Act.put, List.setIfInBounds_toArray, List.set_cons_zero, List.set_cons_succ]
          refine takeG (i := 13) (fuel := 7) (v := .pointer (some ⟨b1, o1 + k, none⟩)) rfl (by kernel_rfl) (by kernel_rfl) (by kernel_rfl) (fun c a w h => h) (Or.inl ⟨by rfl, fun wx hx => by obtain ⟨s1, s2⟩ := hx; go_simp⟩) ⟨C0_1.out, C1_1.out⟩ ?_
          try simp only [Act.put, List.setIfInBounds_toArray, List.set_cons_zero, List.set_cons_succ]
          refine takeG (i := 14) (fuel := 6) (v := .float .f32 x) rfl (by kernel_rfl) (by kernel_rfl) (by kernel_rfl) (fun c a w h => h) (Or.inl ⟨by rfl, fun wx hx => by obtain ⟨s1, s2⟩ := hx; go_simp⟩) ⟨C0_1.out, C1_1.out⟩ ?_
          try simp only [Act.put, List.setIfInBounds_toArray, List.set_cons_zero, List.set_cons_succ]
          refine takeG (i := 15) (fuel := 5) (v := .float .f32 sk) rfl (by kernel_rfl) (by kernel_rfl) (by kernel_rfl) (fun c a w h => h) (Or.inl ⟨by rfl, fun wx hx => by obtain ⟨s1, s2⟩ := hx; go_simp⟩) ⟨C0_1.out, C1_1.out⟩ ?_
          try simp only [Act.put, List.setIfInBounds_toArray, List.set_cons_zero, List.set_cons_succ]
          refine wpAnyH_all (rs := [1, 5]) (fuel := 4) (by kernel_rfl) (by simp) ?_
          intro i hi
          rcases (show i = 1 ∨ i = 5 from by simpa using hi) with rfl | rfl
          · clear hi
            refine plainG rfl ?_
            go_simp
            have DD := hid ((Below.refl x1.heap.size x1).alloc (Nat.le_refl _) (.cells #[] 2))
            refine ⟨⟨cell_stays DD.out C0_1.out, cell_stays DD.out C1_1.out⟩, ?_⟩
            have LT := hid (show wr.heap.size ≤ x1.heap.size from BE_1.out.size)
            have N1 := hid (show wr.heap.size ≤ x1.heap.size from LT.out)
            clear LT
            refine genG (p := wpAnyH _ _ _ _ _ _ _ _) (w0 := (x1.alloc (.cells #[] 2))) (fun x2 hx2 => ?_)
            have C0_2 := hid (show x2.cell? ⟨sb, 0, none⟩ = some (.slice (some ⟨b1, o1, none⟩) n ca) by rw [hx2]; exact cell_stays DD.out C0_1.out)
            have C1_2 := hid (show x2.cell? ⟨b1, o1 + k, none⟩ = some (.float .f32 x) by rw [hx2]; exact cell_stays DD.out C1_1.out)
            have BE_2 := hid (show Below wr.heap.size wr x2 by rw [hx2]; exact below_trans BE_1.out DD.out BE_1.out.size)
            have EE_2 := hid (show x2.heap[x1.heap.size]? = some (.cells #[] 2 (0, 0)) by rw [hx2]; exact blk_at _ _ _ rfl)
            clear hx2
            clear DD
            refine wpAnyH_all (rs := [3, 5]) (fuel := 3) (by kernel_rfl) (by simp) ?_
            intro i hi
            rcases (show i = 3 ∨ i = 5 from by simpa using hi) with rfl | rfl
            · clear hi
              refine plainG rfl ?_
              refine wp_append_own x2 _ _ 36 rfl wr.heap.size 2 i0 (.int .i64 0) 1 8 Try.underlying36 HI.out HZ0.out HZ1.out HZ2.out rfl (by decide) _ _ _ (by kernel_rfl) (own_at EE_2.out N1.out) ⟨g, 0, none⟩ m cap (p.map (Value.int .i64)) (by kernel_rfl) HLL.out (NW.out _ BE_2.out) H11.out (by unfold maxLen; omega) (by omega) BE_2.out.size ?_
              intro v' x3 hown' hgrow hnil
              rw [Nat.zero_add, List.nil_append] at hown'
              obtain ⟨g3, cap3, rfl⟩ := own_some hown' (fun e => absurd (hnil.1 e).1 (fun hc => by cases hc))
              have BE_3 := hid (BE_2.out.grown hgrow BE_2.out.size (fun r e => by cases e; exact N1.out))
              have OO_3 := hid hown'
              clear hown' hgrow hnil
              have C0_3 := hid (cell_stays BE_3.out c0)
              have C1_3 := hid (cell_stays BE_3.out c1)
              refine ⟨⟨C0_3.out, C1_3.out⟩, ?_⟩
              try simp only [Act.put, List.setIfInBounds_toArray, List.set_cons_zero, List.set_cons_succ]
              refine wpAnyH_all (rs := [5]) (fuel := 2) (by kernel_rfl) (by simp) ?_
              intro i hi
              obtain rfl : i = 5 := by simpa using hi
              clear hi
              refine plainG rfl ?_
              go_simp
              have DD := hid ((Below.refl x3.heap.size x3).alloc (Nat.le_refl _) (.cells #[.int .i64 (k : Int)] 2))
              refine ⟨⟨cell_stays DD.out C0_3.out, cell_stays DD.out C1_3.out⟩, ?_⟩
              have LT := hid (show wr.heap.size ≤ x3.heap.size from BE_3.out.size)
              have N5 := hid (show wr.heap.size ≤ x3.heap.size from LT.out)
              clear LT
              refine genG (p := wpAnyH _ _ _ _ _ _ _ _) (w0 := (x3.alloc (.cells #[.int .i64 (k : Int)] 2))) (fun x4 hx4 => ?_)
              have C0_4 := hid (show x4.cell? ⟨sb, 0, none⟩ = some (.slice (some ⟨b1, o1, none⟩) n ca) by rw [hx4]; exact cell_stays DD.out C0_3.out)
              have C1_4 := hid (show x4.cell? ⟨b1, o1 + k, none⟩ = some (.float .f32 x) by rw [hx4]; exact cell_stays DD.out C1_3.out)
              have BE_4 := hid (show Below wr.heap.size wr x4 by rw [hx4]; exact below_trans BE_3.out DD.out BE_3.out.size)
              have OO_4 := hid (show x4.ownsRow wr.heap.size 2 1 (.slice (some ⟨g3, 0, none⟩) m cap3) m (p.map (Value.int .i64)) by rw [hx4]; exact ownB OO_3.out DD.out)
              have KE_4 := hid (show x4.heap[x3.heap.size]? = some (.cells #[.int .i64 (k : Int)] 2 (0, 0)) by rw [hx4]; exact blk_at _ _ _ rfl)
              clear hx4
              clear DD
              refine wpAnyH_all (rs := [6]) (fuel := 1) (by kernel_rfl) (by simp) ?_
              intro i hi
              obtain rfl : i = 6 := by simpa using hi
              clear hi
              refine plainG rfl ?_
              refine wp_append_own x4 _ _ 36 rfl wr.heap.size 2 i0 (.int .i64 0) 1 8 Try.underlying36 HI.out HZ0.out HZ1.out HZ2.out rfl (by decide) _ _ _ (by kernel_rfl) OO_4.out ⟨x3.heap.size, 0, none⟩ 1 1 [.int .i64 (k : Int)] (by kernel_rfl) rfl (one_new KE_4.out) (one_cellI _) (by unfold maxLen; omega) (by omega) BE_4.out.size ?_
              intro v' x5 hown' hgrow hnil
              obtain ⟨g4, cap4, rfl⟩ := own_some hown' (fun e => absurd (hnil.1 e).1 (fun hc => by cases hc))
              have BE_5 := hid (BE_4.out.grown hgrow BE_4.out.size (fun r e => (OO_4.out.lt r e).1))
              have HV_5 : Hid (Has x5 lo g4 cap4 (m + 1) (p ++ [(k : Int)])) := hid ⟨by rw [List.map_append]; exact ownL hown' (Nat.le_trans LO.out KK.out.size), by simp [PL.out]⟩
              clear hown' hgrow hnil
              have C0_5 := hid (cell_stays BE_5.out c0)
              have C1_5 := hid (cell_stays BE_5.out c1)
              refine ⟨⟨C0_5.out, C1_5.out⟩, ?_⟩
              try simp only [Act.put, List.setIfInBounds_toArray, List.set_cons_zero, List.set_cons_succ]
              refine wpAnyH_all (rs := [16]) (fuel := 0) (by kernel_rfl) (by simp) ?_
              intro i hi
              obtain rfl : i = 16 := by simpa using hi
              clear hi
              refine plainG rfl ?_
              go_simp
              go_at_call 58
              refine (HI2 g4 cap4 x5 HV_5.out BE_5.out).mono ?_
              rintro e x6 ⟨rfl, h4, h5⟩
              have I4 := hid h4
              have K4 := hid h5
              clear h4 h5
              refine ⟨⟨(I4.out.cell0), VV.out.cell1 (KP.below (below_trans BW.out BE_5.out BW.out.size) K4.out HBS.out HBS.out (Nat.le_trans BW.out.size BE_5.out.size)) hlt XX.out⟩, ?_⟩
              refine wpAnyH_done (by kernel_rfl) ?_ 0
              try simp only [Exit.then]
              go_wp2_with fail
              exact ⟨⟨k + 1, by omega, by go_num, by rw [visitK_not HC.out]; exact I4.out, (KK.out.trans (KP.of_below BE_5.out)).trans K4.out⟩, by simp [intOf]; omega⟩
            · clear hi
              refine plainG rfl ?_
              go_simp
              have DD := hid ((Below.refl x2.heap.size x2).alloc (Nat.le_refl _) (.cells #[.int .i64 (k : Int)] 2))
              refine ⟨⟨cell_stays DD.out C0_2.out, cell_stays DD.out C1_2.out⟩, ?_⟩
              have LT := hid (show wr.heap.size ≤ x2.heap.size from BE_2.out.size)
              have N5 := hid (show wr.heap.size ≤ x2.heap.size from LT.out)
              clear LT
              have NE := hid (show x2.heap.size ≠ x1.heap.size from by have := block_lt EE_2.out; omega)
              refine genG (p := wpAnyH _ _ _ _ _ _ _ _) (w0 := (x2.alloc (.cells #[.int .i64 (k : Int)] 2))) (fun x3 hx3 => ?_)
              have C0_3 := hid (show x3.cell? ⟨sb, 0, none⟩ = some (.slice (some ⟨b1, o1, none⟩) n ca) by rw [hx3]; exact cell_stays DD.out C0_2.out)
              have C1_3 := hid (show x3.cell? ⟨b1, o1 + k, none⟩ = some (.float .f32 x) by rw [hx3]; exact cell_stays DD.out C1_2.out)
              have BE_3 := hid (show Below wr.heap.size wr x3 by rw [hx3]; exact below_trans BE_2.out DD.out BE_2.out.size)
              have EE_3 := hid (show x3.heap[x1.heap.size]? = some (.cells #[] 2 (0, 0)) by rw [hx3]; exact (DD.out.block _ (block_lt EE_2.out)).trans EE_2.out)
              have KE_3 := hid (show x3.heap[x2.heap.size]? = some (.cells #[.int .i64 (k : Int)] 2 (0, 0)) by rw [hx3]; exact blk_at _ _ _ rfl)
              clear hx3
              clear DD
              refine wpAnyH_all (rs := [3]) (fuel := 2) (by kernel_rfl) (by simp) ?_
              intro i hi
              obtain rfl : i = 3 := by simpa using hi
              clear hi
              refine plainG rfl ?_
              refine wp_append_own x3 _ _ 36 rfl wr.heap.size 2 i0 (.int .i64 0) 1 8 Try.underlying36 HI.out HZ0.out HZ1.out HZ2.out rfl (by decide) _ _ _ (by kernel_rfl) (own_at EE_3.out N1.out) ⟨g, 0, none⟩ m cap (p.map (Value.int .i64)) (by kernel_rfl) HLL.out (NW.out _ BE_3.out) H11.out (by unfold maxLen; omega) (by omega) BE_3.out.size ?_
              intro v' x4 hown' hgrow hnil
              rw [Nat.zero_add, List.nil_append] at hown'
              obtain ⟨g3, cap3, rfl⟩ := own_some hown' (fun e => absurd (hnil.1 e).1 (fun hc => by cases hc))
              have BE_4 := hid (BE_3.out.grown hgrow BE_3.out.size (fun r e => by cases e; exact N1.out))
              have OO_4 := hid hown'
              have KE_4 := hid ((hgrow.block _ (block_lt KE_3.out) (fun e => NE.out (Option.some.inj e))).trans KE_3.out)
              clear hown' hgrow hnil
              have C0_4 := hid (cell_stays BE_4.out c0)
              have C1_4 := hid (cell_stays BE_4.out c1)
              refine ⟨⟨C0_4.out, C1_4.out⟩, ?_⟩
              try simp only [Act.put, List.setIfInBounds_toArray, List.set_cons_zero, List.set_cons_succ]
              refine wpAnyH_all (rs := [6]) (fuel := 1) (by kernel_rfl) (by simp) ?_
              intro i hi
              obtain rfl : i = 6 := by simpa using hi
              clear hi
              refine plainG rfl ?_
              refine wp_append_own x4 _ _ 36 rfl wr.heap.size 2 i0 (.int .i64 0) 1 8 Try.underlying36 HI.out HZ0.out HZ1.out HZ2.out rfl (by decide) _ _ _ (by kernel_rfl) OO_4.out ⟨x2.heap.size, 0, none⟩ 1 1 [.int .i64 (k : Int)] (by kernel_rfl) rfl (one_new KE_4.out) (one_cellI _) (by unfold maxLen; omega) (by omega) BE_4.out.size ?_
              intro v' x5 hown' hgrow hnil
              obtain ⟨g4, cap4, rfl⟩ := own_some hown' (fun e => absurd (hnil.1 e).1 (fun hc => by cases hc))
              have BE_5 := hid (BE_4.out.grown hgrow BE_4.out.size (fun r e => (OO_4.out.lt r e).1))
              have HV_5 : Hid (Has x5 lo g4 cap4 (m + 1) (p ++ [(k : Int)])) := hid ⟨by rw [List.map_append]; exact ownL hown' (Nat.le_trans LO.out KK.out.size), by simp [PL.out]⟩
              clear hown' hgrow hnil
              have C0_5 := hid (cell_stays BE_5.out c0)
              have C1_5 := hid (cell_stays BE_5.out c1)
              refine ⟨⟨C0_5.out, C1_5.out⟩, ?_⟩
              try simp only [Act.put, List.setIfInBounds_toArray, List.set_cons_zero, List.set_cons_succ]
              refine wpAnyH_all (rs := [16]) (fuel := 0) (by kernel_rfl) (by simp) ?_
              intro i hi
              obtain rfl : i = 16 := by simpa using hi
              clear hi
              refine plainG rfl ?_
              go_simp
              go_at_call 58
              refine (HI2 g4 cap4 x5 HV_5.out BE_5.out).mono ?_
              rintro e x6 ⟨rfl, h4, h5⟩
              have I4 := hid h4
              have K4 := hid h5
              clear h4 h5
              refine ⟨⟨(I4.out.cell0), VV.out.cell1 (KP.below (below_trans BW.out BE_5.out BW.out.size) K4.out HBS.out HBS.out (Nat.le_trans BW.out.size BE_5.out.size)) hlt XX.out⟩, ?_⟩
              refine wpAnyH_done (by kernel_rfl) ?_ 0
              try simp only [Exit.then]
              go_wp2_with fail
              exact ⟨⟨k + 1, by omega, by go_num, by rw [visitK_not HC.out]; exact I4.out, (KK.out.trans (KP.of_below BE_5.out)).trans K4.out⟩, by simp [intOf]; omega⟩
          · clear hi
            refine plainG rfl ?_
            go_simp
            have DD := hid ((Below.refl x1.heap.size x1).alloc (Nat.le_refl _) (.cells #[.int .i64 (k : Int)] 2))
            refine ⟨⟨cell_stays DD.out C0_1.out, cell_stays DD.out C1_1.out⟩, ?_⟩
            have LT := hid (show wr.heap.size ≤ x1.heap.size from BE_1.out.size)
            have N5 := hid (show wr.heap.size ≤ x1.heap.size from LT.out)
            clear LT
            refine genG (p := wpAnyH _ _ _ _ _ _ _ _) (w0 := (x1.alloc (.cells #[.int .i64 (k : Int)] 2))) (fun x2 hx2 => ?_)
            have C0_2 := hid (show x2.cell? ⟨sb, 0, none⟩ = some (.slice (some ⟨b1, o1, none⟩) n ca) by rw [hx2]; exact cell_stays DD.out C0_1.out)
            have C1_2 := hid (show x2.cell? ⟨b1, o1 + k, none⟩ = some (.float .f32 x) by rw [hx2]; exact cell_stays DD.out C1_1.out)
            have BE_2 := hid (show Below wr.heap.size wr x2 by rw [hx2]; exact below_trans BE_1.out DD.out BE_1.out.size)
            have KE_2 := hid (show x2.heap[x1.heap.size]? = some (.cells #[.int .i64 (k : Int)] 2 (0, 0)) by rw [hx2]; exact blk_at _ _ _ rfl)
            clear hx2
            clear DD
            refine wpAnyH_all (rs := [1]) (fuel := 3) (by kernel_rfl) (by simp) ?_
            intro i hi
            obtain rfl : i = 1 := by simpa using hi
            clear hi
            refine plainG rfl ?_
            go_simp
            have DD := hid ((Below.refl x2.heap.size x2).alloc (Nat.le_refl _) (.cells #[] 2))
            refine ⟨⟨cell_stays DD.out C0_2.out, cell_stays DD.out C1_2.out⟩, ?_⟩
            have LT := hid (show wr.heap.size ≤ x2.heap.size from BE_2.out.size)
            have N1 := hid (show wr.heap.size ≤ x2.heap.size from LT.out)
            clear LT
            have NE := hid (show x1.heap.size ≠ x2.heap.size from by have := block_lt KE_2.out; omega)
            refine genG (p := wpAnyH _ _ _ _ _ _ _ _) (w0 := (x2.alloc (.cells #[] 2))) (fun x3 hx3 => ?_)
            have C0_3 := hid (show x3.cell? ⟨sb, 0, none⟩ = some (.slice (some ⟨b1, o1, none⟩) n ca) by rw [hx3]; exact cell_stays DD.out C0_2.out)
            have C1_3 := hid (show x3.cell? ⟨b1, o1 + k, none⟩ = some (.float .f32 x) by rw [hx3]; exact cell_stays DD.out C1_2.out)
            have BE_3 := hid (show Below wr.heap.size wr x3 by rw [hx3]; exact below_trans BE_2.out DD.out BE_2.out.size)
            have KE_3 := hid (show x3.heap[x1.heap.size]? = some (.cells #[.int .i64 (k : Int)] 2 (0, 0)) by rw [hx3]; exact (DD.out.block _ (block_lt KE_2.out)).trans KE_2.out)
            have EE_3 := hid (show x3.heap[x2.heap.size]? = some (.cells #[] 2 (0, 0)) by rw [hx3]; exact blk_at _ _ _ rfl)
            clear hx3
            clear DD
            refine wpAnyH_all (rs := [3]) (fuel := 2) (by kernel_rfl) (by simp) ?_
            intro i hi
            obtain rfl : i = 3 := by simpa using hi
            clear hi
            refine plainG rfl ?_
            refine wp_append_own x3 _ _ 36 rfl wr.heap.size 2 i0 (.int .i64 0) 1 8 Try.underlying36 HI.out HZ0.out HZ1.out HZ2.out rfl (by decide) _ _ _ (by kernel_rfl) (own_at EE_3.out N1.out) ⟨g, 0, none⟩ m cap (p.map (Value.int .i64)) (by kernel_rfl) HLL.out (NW.out _ BE_3.out) H11.out (by unfold maxLen; omega) (by omega) BE_3.out.size ?_
            intro v' x4 hown' hgrow hnil
            rw [Nat.zero_add, List.nil_append] at hown'
            obtain ⟨g3, cap3, rfl⟩ := own_some hown' (fun e => absurd (hnil.1 e).1 (fun hc => by cases hc))
            have BE_4 := hid (BE_3.out.grown hgrow BE_3.out.size (fun r e => by cases e; exact N1.out))
            have OO_4 := hid hown'
            have KE_4 := hid ((hgrow.block _ (block_lt KE_3.out) (fun e => NE.out (Option.some.inj e))).trans KE_3.out)
            clear hown' hgrow hnil
            have C0_4 := hid (cell_stays BE_4.out c0)
            have C1_4 := hid (cell_stays BE_4.out c1)
            refine ⟨⟨C0_4.out, C1_4.out⟩, ?_⟩
            try simp only [Act.put, List.setIfInBounds_toArray, List.set_cons_zero, List.set_cons_succ]
            refine wpAnyH_all (rs := [6]) (fuel := 1) (by kernel_rfl) (by simp) ?_
            intro i hi
            obtain rfl : i = 6 := by simpa using hi
            clear hi
            refine plainG rfl ?_
            refine wp_append_own x4 _ _ 36 rfl wr.heap.size 2 i0 (.int .i64 0) 1 8 Try.underlying36 HI.out HZ0.out HZ1.out HZ2.out rfl (by decide) _ _ _ (by kernel_rfl) OO_4.out ⟨x1.heap.size, 0, none⟩ 1 1 [.int .i64 (k : Int)] (by kernel_rfl) rfl (one_new KE_4.out) (one_cellI _) (by unfold maxLen; omega) (by omega) BE_4.out.size ?_
            intro v' x5 hown' hgrow hnil
            obtain ⟨g4, cap4, rfl⟩ := own_some hown' (fun e => absurd (hnil.1 e).1 (fun hc => by cases hc))
            have BE_5 := hid (BE_4.out.grown hgrow BE_4.out.size (fun r e => (OO_4.out.lt r e).1))
            have HV_5 : Hid (Has x5 lo g4 cap4 (m + 1) (p ++ [(k : Int)])) := hid ⟨by rw [List.map_append]; exact ownL hown' (Nat.le_trans LO.out KK.out.size), by simp [PL.out]⟩
            clear hown' hgrow hnil
            have C0_5 := hid (cell_stays BE_5.out c0)
            have C1_5 := hid (cell_stays BE_5.out c1)
            refine ⟨⟨C0_5.out, C1_5.out⟩, ?_⟩
            try simp only [Act.put, List.setIfInBounds_toArray, List.set_cons_zero, List.set_cons_succ]
            refine wpAnyH_all (rs := [16]) (fuel := 0) (by kernel_rfl) (by simp) ?_
            intro i hi
            obtain rfl : i = 16 := by simpa using hi
            clear hi
            refine plainG rfl ?_
            go_simp
            go_at_call 58
            refine (HI2 g4 cap4 x5 HV_5.out BE_5.out).mono ?_
            rintro e x6 ⟨rfl, h4, h5⟩
            have I4 := hid h4
            have K4 := hid h5
            clear h4 h5
            refine ⟨⟨(I4.out.cell0), VV.out.cell1 (KP.below (below_trans BW.out BE_5.out BW.out.size) K4.out HBS.out HBS.out (Nat.le_trans BW.out.size BE_5.out.size)) hlt XX.out⟩, ?_⟩
            refine wpAnyH_done (by kernel_rfl) ?_ 0
            try simp only [Exit.then]
            go_wp2_with fail
            exact ⟨⟨k + 1, by omega, by go_num, by rw [visitK_not HC.out]; exact I4.out, (KK.out.trans (KP.of_below BE_5.out)).trans K4.out⟩, by simp [intOf]; omega⟩
          -->
        · have HC := hid hc
          rw [hc] at C
          clear hc
          go_wp2_with (go_at_call 79; refine C.out.mono ?_; rintro e w' ⟨rfl, rfl⟩)
          exact ⟨⟨k + 1, by omega, by go_num, by rw [visitK_has HC.out]; exact I1.out, KK.out⟩, by simp [intOf]; omega⟩
      · obtain rfl : k = n := by omega
        go_wp2
        refine bodyPost_end (results_none rfl _ _ _) rfl ?_
        exact ⟨rfl, by rw [VS.out]; exact I1.out, KK.out⟩
set_option maxHeartbeats 1000000 in
theorem c_specGreatestOrder (a : Option Addr) (n ca : Nat) (xs : List Nat) (w : World) (hx : Flts w a n xs) :
    Calls Try.prog 26 #[.slice a n ca] w fun e w' => (∃ v, e = .returned (.tuple #[v, .float .f32 (goF xs), .int .i64 (goC xs)]) ∧ GotI w' w.heap.size v (goS xs)) ∧ Below w.heap.size w w' := by
  have X := hid hx
  have hs := hx.small
  have LN := hid hx.len
  have C := hid (c_l06Ok a n ca xs _ hx)
  clear hx
  cases hv : validL xs
  · have R : Hid (goC xs = 1) := hid (by simp [goC, hv])
    have H1 : Hid (Below w.heap.size w (w.alloc (.cells #[] 2))) := hid ((Below.refl _ _).alloc (Nat.le_refl _) _)
    have O1 := hid (owns_empty w 2)
    rw [hv] at C
    clear hv
    go_enter Try.func26, Try.ntmps26
    go_wp2_with (go_at_call 51; refine C.out.mono ?_; rintro e w' ⟨rfl, rfl⟩)
    go_ret3
    exact ⟨⟨_, by rw [goF, R.out]; rfl, by rw [goS, R.out]; exact O1.out⟩, H1.out⟩
  · have HV := hid hv
    rw [hv] at C
    clear hv
    by_cases h6 : n ≤ 6
    · have R : Hid (goC xs = 0) := hid (by simp [goC, HV.out, LN.out, h6])
      have V := hid (VL.of X.out HV.out)
      obtain ⟨wo, hwo⟩ : ∃ wo, wo = (w.alloc (.cells #[.slice a n ca, .slice none 0 0, .float .f32 0, .bool false] 60)).alloc (.cells #[] 2) := ⟨_, rfl⟩
      have WO := hid hwo
      have BO : Hid (Below w.heap.size w wo) := hid (by rw [hwo]; exact ((Below.refl _ _).alloc (Nat.le_refl _) _).alloc (by simp) _)
      have e1 : wo.heap[w.heap.size]? = some (.cells #[.slice a n ca, .slice none 0 0, .float .f32 0, .bool false] 60 (0, 0)) := by rw [hwo]; exact (blk_past _ _ _ (by simp)).trans (blk_at _ _ _ rfl)
      have I0 : InvS w.heap.size (w.heap.size + 1) a n ca (([], 0), false) wo := ⟨_, e1, GotI.nil _ _⟩
      have A0 : Has wo (w.heap.size + 1) (w.heap.size + 1) 0 0 [] := by
        rw [hwo]
        have := owns_empty (w.alloc (.cells #[.slice a n ca, .slice none 0 0, .float .f32 0, .bool false] 60)) 2
        simp at this
        exact ⟨this, rfl⟩
      have SZ : w.heap.size + 1 ≤ wo.heap.size := by rw [hwo]; simp
      have OC := c_from w w.heap.size (w.heap.size + 1) (by omega) (Nat.le_refl _) a n ca xs V.out h6 n [] _ 0 0 (([], 0), false) wo (by omega) (Prefix.nil _) A0 I0 BO.out SZ
      rw [psum_nil] at OC
      have BE : Hid (visit (qstep xs) n n [] (([], 0), false) = bestS xs) := hid (by rw [bestS, LN.out])
      rw [BE.out] at OC
      have OC := hid OC
      have SM := hid (best_same V.out.pl (by rw [LN.out]; exact h6))
      clear e1 I0 A0 SZ hwo
      go_enter Try.func26, Try.ntmps26
      go_wp2_with (first | (go_at_call 51; refine C.out.mono ?_; rintro e w' ⟨rfl, rfl⟩) | (go_at_call 58; rw [← WO.out]; refine OC.out.mono ?_; rintro e w2 ⟨rfl, h2, h3⟩; have K2 := hid h3; clear h3; obtain ⟨vb, hvb, hgb⟩ := h2.box; obtain ⟨d0, d1, d2, d3⟩ := box_cells hvb; have GB := hid hgb; clear h2 hvb hgb))
      go_quiet (fail)
      go_wp2
      go_ret3
      refine ⟨⟨_, by rw [goF, R.out, SM.out]; rfl, ?_⟩, ?_⟩
      · rw [goS, R.out, SM.out]; exact ownL (ownB GB.out (below_drawn (Below.refl _ _) _)) (by omega)
      · exact below_drawn (KP.below BO.out K2.out (Nat.le_refl _) (Nat.le_refl _) BO.out.size) _
    · have R : Hid (goC xs = 3) := hid (by simp [goC, HV.out, LN.out, h6])
      have H1 : Hid (Below w.heap.size w (w.alloc (.cells #[] 2))) := hid ((Below.refl _ _).alloc (Nat.le_refl _) _)
      have O1 := hid (owns_empty w 2)
      go_enter Try.func26, Try.ntmps26
      go_wp2_with (go_at_call 51; refine C.out.mono ?_; rintro e w' ⟨rfl, rfl⟩)
      go_ret3
      exact ⟨⟨_, by rw [goF, R.out]; rfl, by rw [goS, R.out]; exact O1.out⟩, H1.out⟩
theorem goF_fin {w : World} {a : Option Addr} {n : Nat} {xs : List Nat} (hx : Flts w a n xs) : isFin (goF xs) = true := by
  cases hv : validL xs
  · have e : goF xs = 0 := by simp [goF, goC, hv]
    rw [e]; decide
  · have V := VL.of hx hv
    by_cases h6 : xs.length ≤ 6
    · have e : goF xs = (bestI xs).2 := by simp [goF, goC, hv, h6]
      obtain ⟨p, hp, e2⟩ := best_sum V.pl h6
      rw [e, e2]; exact (psum_abs V.pl hp h6).fin
    · have e : goF xs = 0 := by simp [goF, goC, hv, h6]
      rw [e]; decide
theorem ints_of_got3 {P : Program} {f : FuncId} {args : Array Value} {w : World} {F : Nat} {C : Int} {L : List Int} (h : Calls P f args w fun e w' => (∃ v, e = .returned (.tuple #[v, .float .f32 F, .int .i64 C]) ∧ GotI w' w.heap.size v L) ∧ Below w.heap.size w w') (hl : L.length ≤ 999) :
    Calls P f args w fun e w' => (∃ v, e = .returned (.tuple #[v, .float .f32 F, .int .i64 C]) ∧ Ints w' v L) ∧ Below w.heap.size w w' :=
  h.mono fun _ _ ⟨⟨v, he, hg⟩, hb⟩ => ⟨⟨v, he, hg.reads hl⟩, hb⟩
end Go.Proofs.Ytpaoccnffmngfaa
