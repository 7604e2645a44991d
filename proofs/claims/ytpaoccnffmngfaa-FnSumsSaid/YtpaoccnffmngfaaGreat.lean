/- The order of numbers with the greatest sum: the program's side. -/
import Derived.Test.YtpaoccnffmngfaaPerms
import Derived.Test.YtpaoccnffmngfaaApp
import Derived.Test.YtpaoccnffmngfaaMarks
namespace Go.Proofs.Ytpaoccnffmngfaa
set_option maxRecDepth 20000
open Go.RowKit

/-- Of what was there only the blocks F and G may have turned. -/
structure KP (F G : Nat) (w w' : World) : Prop where
  os : w'.os = w.os
  tape : w'.tape = w.tape
  output : w'.output = w.output
  size : w.heap.size ≤ w'.heap.size
  block : ∀ b, b < w.heap.size → b ≠ F → b ≠ G → w'.heap[b]? = w.heap[b]?
theorem KP.refl (F G : Nat) (w : World) : KP F G w w := ⟨rfl, rfl, rfl, Nat.le_refl _, fun _ _ _ _ => rfl⟩
theorem KP.trans {F G : Nat} {a b c : World} (h : KP F G a b) (k : KP F G b c) : KP F G a c :=
  ⟨k.os.trans h.os, k.tape.trans h.tape, k.output.trans h.output, Nat.le_trans h.size k.size, fun i hi h1 h2 => (k.block i (Nat.lt_of_lt_of_le hi h.size) h1 h2).trans (h.block i hi h1 h2)⟩
theorem KP.of_below {F G : Nat} {a b : World} (h : Below a.heap.size a b) : KP F G a b := ⟨h.os, h.tape, h.output, h.size, fun i hi _ _ => h.block i hi⟩
theorem KP.below {F G B : Nat} {a b c : World} (h : Below B a b) (k : KP F G b c) (hF : B ≤ F) (hG : B ≤ G) (hB : B ≤ b.heap.size) : Below B a c :=
  h.trans ⟨k.os, k.tape, k.output, k.size, fun i hi => k.block i (by omega) (by omega) (by omega)⟩
theorem KP.set {F G : Nat} (w : World) (b : Nat) (h : b = F ∨ b = G) (k : Nat) (v : Value) : KP F G w (w.setCell ⟨b, k, none⟩ v) :=
  ⟨rfl, rfl, rfl, by simp, fun i _ h1 h2 => heap_setCell_other w ⟨b, k, none⟩ i v (by rcases h with rfl | rfl <;> assumption)⟩
theorem KP.own {F G lo s n : Nat} {w w' : World} {T : TypeId} {v : Value} {l : List Value} (h : KP F G w w') (hg : w.ownsRow lo T s v n l) (hF : F < lo) (hG : G < lo) : w'.ownsRow lo T s v n l :=
  ⟨hg.1, hg.2.imp id fun ⟨g, cap, cur, h1, h2, h3, h4⟩ => ⟨g, cap, cur, h1, h2, (h.block g (block_lt h3) (by omega) (by omega)).trans h3, h4⟩⟩
theorem ownB {w w' : World} {lo s n : Nat} {T : TypeId} {v : Value} {l : List Value} (h : w.ownsRow lo T s v n l) (hb : Below w.heap.size w w') : w'.ownsRow lo T s v n l :=
  ⟨h.1, h.2.imp id fun ⟨g, cap, cur, h1, h2, h3, h4⟩ => ⟨g, cap, cur, h1, h2, (hb.block g (block_lt h3)).trans h3, h4⟩⟩
theorem ownL {w : World} {lo lo' s n : Nat} {T : TypeId} {v : Value} {l : List Value} (h : w.ownsRow lo T s v n l) (hl : lo' ≤ lo) : w.ownsRow lo' T s v n l :=
  ⟨h.1, h.2.imp id fun ⟨g, cap, cur, h1, h2, h3, h4⟩ => ⟨g, cap, cur, h1, Nat.le_trans hl h2, h3, h4⟩⟩
theorem setB {w : World} {b : Nat} {v u : Value} {T : TypeId} (h : w.heap[b]? = some (.cells #[v] T (0, 0))) : (w.setCell ⟨b, 0, none⟩ u).heap[b]? = some (.cells #[u] T (0, 0)) := by
  have := heap_setCell_same w b 0 _ T u h
  simpa using this
theorem cellB {w : World} {b : Nat} {v : Value} {T : TypeId} (h : w.heap[b]? = some (.cells #[v] T (0, 0))) : w.cell? ⟨b, 0, none⟩ = some v := by
  rw [cell_of_row w b 0 _ _ _ h]; rfl
theorem frozenB {w : World} {b : Nat} {v : Value} {T : TypeId} (h : w.heap[b]? = some (.cells #[v] T (0, 0))) : w.frozen? ⟨b, 0, none⟩ = false := frozen_of_row w b 0 _ _ h
theorem iat_mem {p : List Int} {k : Nat} (h : k < p.length) : iat p k ∈ p := by simp [iat, h]
theorem picks_take {xs : List Nat} {p : List Int} {k : Nat} (h : k < p.length) : (picks xs p).take (k + 1) = (picks xs p).take k ++ [fat xs (iat p k).toNat] := by
  rw [List.take_add_one]; simp [picks, iat, h]
theorem has_yes {p : List Int} {z : Int} {k : Nat} (hk : k < p.length) (h : iat p k = z) : p.contains z = true := by
  rw [List.contains_iff_mem]; exact h ▸ iat_mem hk
theorem has_no {p : List Int} {z : Int} (h : ∀ k, k < p.length → iat p k ≠ z) : p.contains z = false := by
  rw [Bool.eq_false_iff]; intro hc
  rw [List.contains_iff_mem, List.mem_iff_getElem] at hc
  obtain ⟨k, hk, e⟩ := hc
  exact h k hk (by simp [iat, hk, e])
/-- A slice that is there, in memory of one's own: an order. -/
def Has (w : World) (lo : Nat) (g cap m : Nat) (p : List Int) : Prop := w.ownsRow lo 2 1 (.slice (some ⟨g, 0, none⟩) m cap) m (p.map (Value.int .i64)) ∧ p.length = m
theorem info_i64 : (Try.prog.info? 2).map (fun i => (i.zero, i.size, i.bytes)) = some (some (.int .i64 0), 1, 8) := by kernel_rfl
theorem one_cellI (x : Int) : ∀ u ∈ [Value.int .i64 x], u.oneCell' = true := by
  intro u hu; simp at hu; subst hu; rfl
theorem Has.cell {w : World} {lo g cap m : Nat} {p : List Int} (h : Has w lo g cap m p) {j : Nat} (hj : j < m) : w.cell? ⟨g, j, none⟩ = some (.int .i64 (iat p j)) := by
  have := h.1.cellAt j (by omega)
  rw [this]; exact i64_at (by rw [h.2]; exact hj)
theorem Has.got {w : World} {lo g cap m : Nat} {p : List Int} (h : Has w lo g cap m p) : GotI w lo (.slice (some ⟨g, 0, none⟩) m cap) p := by unfold GotI; rw [h.2]; exact h.1
theorem Has.kp {F G lo g cap m : Nat} {w w' : World} {p : List Int} (h : Has w lo g cap m p) (k : KP F G w w') (hF : F < lo) (hG : G < lo) : Has w' lo g cap m p := ⟨k.own h.1 hF hG, h.2⟩
theorem Has.below {lo g cap m : Nat} {w w' : World} {p : List Int} (h : Has w lo g cap m p) (k : Below w.heap.size w w') : Has w' lo g cap m p := ⟨ownB h.1 k, h.2⟩
theorem own_some {w : World} {lo m : Nat} {v : Value} {l : List Value} {T : TypeId} (h : w.ownsRow lo T 1 v m l) (hn : v ≠ .slice none 0 0) : ∃ g cap, v = .slice (some ⟨g, 0, none⟩) m cap := by
  rcases h.2 with h1 | ⟨g, cap, cur, h1, _⟩
  · exact absurd h1.1 hn
  · exact ⟨g, cap, h1⟩
theorem own_VL {w : World} {lo m : Nat} {v : Value} {l : List Nat} (h : w.ownsRow lo 26 1 v m (l.map (Value.float .f32))) (hm : l.length = m) (hp : Plains l) (hn : m ≤ 48) : ∃ a ca, v = .slice a m ca ∧ VL w a m l := by
  subst hm
  obtain ⟨a, ca, e, hf⟩ := GotF.reads (lo := lo) h (by omega) (fun k hk => (hp k hk).1)
  exact ⟨a, ca, e, hf, hp, hn⟩
theorem c_IndexI (g cap m lo : Nat) (p : List Int) (z : Int) (w : World) (hp : Has w lo g cap m p) (hm : m ≤ 99) :
    Calls Try.prog 91 #[.slice (some ⟨g, 0, none⟩) m cap, .int .i64 z] w fun e w' => (∃ r : Int, e = .returned (.int .i64 r) ∧ decide (0 ≤ r) = p.contains z) ∧ w = w' := by
  have X := hid hp
  clear hp
  go_enter Try.func91, Try.ntmps91
  go_wp2
  go_loop [8] (fun i => ∃ k : Nat, k ≤ m ∧ i = .int .i64 k ∧ ∀ j, j < k → iat p j ≠ z) (fun i => m - (intOf i).toNat)
  case atStart => exact ⟨0, by omega, rfl, by omega⟩
  case round =>
    obtain ⟨k, hk, rfl, hall⟩ := hrel
    have A := hid hall
    clear hall
    by_cases hlt : k < m
    · have h1 := X.out.cell hlt
      by_cases hz : iat p k = z
      · have Z := hid hz
        rw [hz] at h1
        clear hz
        go_wp2
        go_ret
        exact ⟨⟨_, rfl, by have hh := has_yes (by rw [X.out.2]; exact hlt) Z.out; rw [List.contains_iff_mem] at hh; exact ⟨fun _ => hh, fun _ => by omega⟩⟩, rfl⟩
      · have Z := hid hz
        have hz2 : ¬ z = iat p k := fun e => hz e.symm
        generalize iat p k = y at h1 hz2 hz
        clear hz
        go_wp2
        refine ⟨⟨k + 1, by omega, by go_num, fun j hj => ?_⟩, by simp [intOf]; omega⟩
        rcases Nat.lt_or_ge j k with h | h
        · exact A.out j h
        · obtain rfl : j = k := by omega
          exact Z.out
    · obtain rfl : k = m := by omega
      go_wp2
      go_ret
      exact ⟨⟨_, rfl, by have hh := has_no (z := z) (p := p) (by rw [X.out.2]; exact A.out); rw [Bool.eq_false_iff, ne_eq, List.contains_iff_mem] at hh; exact ⟨fun h => absurd h (by decide), fun h => absurd h hh⟩⟩, rfl⟩
theorem c_ContainsI (g cap m lo : Nat) (p : List Int) (z : Int) (w : World) (hp : Has w lo g cap m p) (hm : m ≤ 99) :
    Calls Try.prog 77 #[.slice (some ⟨g, 0, none⟩) m cap, .int .i64 z] w fun e w' => e = .returned (.bool (p.contains z)) ∧ w = w' := by
  have C := hid (c_IndexI g cap m lo p z w hp hm)
  clear hp
  go_enter Try.func77, Try.ntmps77
  go_wp2_with fail
  refine C.out.mono ?_
  rintro e w' ⟨⟨r, rfl, hr⟩, rfl⟩
  have R := hid hr
  clear hr
  go_wp2
  go_ret
  exact ⟨ret_bool (by rw [← R.out]), rfl⟩
theorem c_CloneI (g cap m lo : Nat) (p : List Int) (w : World) (hp : Has w lo g cap m p) (hm : m ≤ 99) :
    Calls Try.prog 78 #[.slice (some ⟨g, 0, none⟩) m cap] w fun e w' => (∃ g2 cap2, e = .returned (.slice (some ⟨g2, 0, none⟩) m cap2) ∧ Has w' w.heap.size g2 cap2 m p) ∧ Below w.heap.size w w' := by
  have PL := hid hp.2
  have hl : (p.map (Value.int .i64)).length = m * 1 := by simp [hp.2]
  have H1 : Hid (∀ u ∈ p.map (Value.int .i64), u.oneCell' = true) := hid (fun u hu => by simp at hu; obtain ⟨x, _, rfl⟩ := hu; rfl)
  have HL := hid hl
  obtain ⟨i0, hi, hz0, hz1, hz2⟩ := info_parts info_i64
  have HI := hid hi
  have HZ0 := hid hz0
  have HZ1 := hid hz1
  have HZ2 := hid hz2
  have B0 : Hid (Below w.heap.size w (w.alloc (.cells #[] 2))) := hid ((Below.refl _ _).alloc (Nat.le_refl _) _)
  have NW : Hid (∀ j u, (p.map (Value.int .i64))[j]? = some u → (w.alloc (.cells #[] 2)).cell? ((⟨g, 0, none⟩ : Addr).add j) = some u) := hid (fun j u hj => by
    have hj2 : j < m := by have := (List.getElem?_eq_some_iff.1 hj).1; simpa [hp.2] using this
    have e := hp.cell hj2
    rw [show (Addr.add ⟨g, 0, none⟩ j) = ⟨g, j, none⟩ by unfold Addr.add; split <;> simp_all]
    refine cell_stays B0.out ?_
    rw [e, ← hj, i64_at (by rw [hp.2]; exact hj2)])
  have nn : ∀ wx : World, (binOp .eql 36 (.slice (some ⟨g, 0, none⟩) m cap) (.slice none 0 0)).run Try.prog wx = .ok (.bool false) wx := fun wx => Lib.run_eql_slice_nil wx _ _ _ _ _ _ _ Try.underlying36
  clear hp hl hi hz0 hz1 hz2
  go_enter Try.func78, Try.ntmps78
  go_wp2_with (at_builtin; refine wpList_append_own _ rfl _ _ 36 rfl w.heap.size 2 i0 (.int .i64 0) 1 8 Try.underlying36 HI.out HZ0.out HZ1.out HZ2.out rfl (by decide) _ _ _ rfl (owns_empty w 2) ⟨g, 0, none⟩ m cap (p.map (Value.int .i64)) rfl HL.out NW.out H1.out (by unfold maxLen; omega) (by omega) (by simp) ?_; intro v' w3 hown' hgrow hnil)
  have O1 := hid hown'
  have B1 := hid (B0.out.grown hgrow B0.out.size (fun r e => by cases e; exact Nat.le_refl _))
  have N := hid hnil
  clear hown' hgrow hnil
  go_wp2
  go_ret
  have o := O1.out
  rw [Nat.zero_add, List.nil_append] at o
  refine ⟨?_, B1.out⟩
  obtain ⟨g2, cap2, rfl⟩ := own_some o (fun e => absurd (N.out.1 e).1 (fun hc => by cases hc))
  exact ⟨g2, cap2, rfl, o, PL.out⟩
structure InvO (lb bb mb lo : Nat) (a : Option Addr) (n ca : Nat) (S : List Int × Nat) (w : World) : Prop where
  list : w.heap[lb]? = some (.cells #[.slice a n ca] 24 (0, 0))
  best : ∃ v, w.heap[bb]? = some (.cells #[v] 36 (0, 0)) ∧ GotI w lo v S.1
  most : w.heap[mb]? = some (.cells #[.float .f32 S.2] 26 (0, 0))
theorem InvO.below {lb bb mb lo : Nat} {a : Option Addr} {n ca : Nat} {S : List Int × Nat} {w w' : World} (h : InvO lb bb mb lo a n ca S w) (hb : Below w.heap.size w w') : InvO lb bb mb lo a n ca S w' :=
  ⟨(hb.block _ (block_lt h.list)).trans h.list, let ⟨v, h1, h2⟩ := h.best; ⟨v, (hb.block _ (block_lt h1)).trans h1, ownB h2 hb⟩, (hb.block _ (block_lt h.most)).trans h.most⟩
/-- Where the boxes lie. -/
structure Lies (base lb bb mb lo : Nat) : Prop where
  b1 : base ≤ lb
  b2 : base ≤ bb
  b3 : base ≤ mb
  l1 : lb < lo
  l2 : bb < lo
  l3 : mb < lo
  n1 : lb ≠ bb
  n2 : lb ≠ mb
  n3 : bb ≠ mb
set_option maxHeartbeats 1000000 in
theorem c_GO1 (W0 : World) (lb bb mb lo : Nat) (L : Lies W0.heap.size lb bb mb lo) (a : Option Addr) (n ca : Nat) (xs : List Nat) (V : VL W0 a n xs) (hn : n ≤ 6) (p : List Int) (g cap m : Nat) (S : List Int × Nat) (w : World) (hp : Prefix n p) (hpv : Has w lo g cap m p) (hI : InvO lb bb mb lo a n ca S w) (hb : Below W0.heap.size W0 w) (hlo : lo ≤ w.heap.size) :
    Calls Try.prog 57 #[.slice (some ⟨g, 0, none⟩) m cap, .pointer (some ⟨lb, 0, none⟩), .pointer (some ⟨mb, 0, none⟩), .pointer (some ⟨bb, 0, none⟩)] w fun e w' => e = .returned (.tuple #[]) ∧ InvO lb bb mb lo a n ca (ostep xs S p) w' ∧ KP bb mb w w' := by
  have hm : m ≤ n := by have := hp.le; rw [hpv.2] at this; exact this
  have HP := hid hp
  have HV := hid hpv
  have I := hid hI
  have B := hid hb
  have LL := hid L
  have VV := hid V
  have LO := hid hlo
  obtain ⟨i0, hi, hz0, hz1, hz2⟩ := info_parts info_f32
  have HI := hid hi
  have HZ0 := hid hz0
  have HZ1 := hid hz1
  have HZ2 := hid hz2
  have PP : Hid (Plains (picks xs p)) := hid (picks_plain V.pl (by rw [V.len]; exact hp))
  have PL : Hid ((picks xs p).length = m) := hid (by rw [picks_len, hpv.2])
  clear hi hz0 hz1 hz2 hp hpv hI hb L V hlo
  go_enter Try.func57, Try.ntmps57
  go_wp2_with fail
  go_loopw [5, 12] (fun v i wr => ∃ k : Nat, k ≤ m ∧ i = .int .i64 k ∧ wr.ownsRow w.heap.size 26 1 v k (((picks xs p).take k).map (Value.float .f32)) ∧ Below w.heap.size w wr) (fun _ i _ => m - (intOf i).toNat)
  case atStart => exact ⟨0, by omega, rfl, by have := owns_empty w 26; simpa using this, (Below.refl _ _).alloc (Nat.le_refl _) _⟩
  case round =>
    obtain ⟨k, hk, rfl, hown, hbel⟩ := hrel
    have O := hid hown
    have BE := hid hbel
    clear hown hbel
    by_cases hlt : k < m
    · have hz := HP.out.mem _ (iat_mem (p := p) (k := k) (by rw [HV.out.2]; exact hlt))
      obtain ⟨q, hq⟩ : ∃ q : Nat, iat p k = (q : Int) := ⟨(iat p k).toNat, by omega⟩
      have hqn : q < n := by omega
      have c1 := (HV.out.below BE.out).cell hlt
      have c2 := cellB (I.out.below BE.out).list
      obtain ⟨b1, o1, rfl, hc⟩ := (VV.out.below (below_trans B.out BE.out B.out.size)).fl.at_ (by omega)
      have c3 := hc q hqn
      have PT := hid (picks_take (xs := xs) (p := p) (k := k) (by rw [HV.out.2]; exact hlt))
      rw [hq] at c1
      have HQ := hid hq
      clear hc hz hq
      generalize hx : fat xs q = x at c3
      have X := hid hx
      clear hx
      go_wp2_with (at_builtin; refine wpList_append_own _ rfl _ _ 24 rfl w.heap.size 26 i0 (.float .f32 0) 1 4 Try.underlying24 HI.out HZ0.out HZ1.out HZ2.out rfl (by decide) _ _ _ rfl (O.out.alloc _) ⟨wr.heap.size, 0, none⟩ 1 1 [.float .f32 x] rfl rfl (one_at _ _ _) (one_cell _) (by unfold maxLen; omega) (by omega) (by have := BE.out.size; simp; omega) ?_; intro v' w1 hown' hgrow _)
      have O1 := hid hown'
      have B1 := hid (append_below BE.out O.out hgrow)
      clear hown' hgrow
      go_wp2
      refine ⟨⟨k + 1, by omega, by go_num, ?_, B1.out⟩, by simp [intOf]; omega⟩
      rw [PT.out, List.map_append, HQ.out, Int.toNat_natCast, X.out]; exact O1.out
    · obtain rfl : k = m := by omega
      obtain ⟨a2, ca2, rfl, V2⟩ := own_VL (l := picks xs p) (by have := O.out; rw [List.take_of_length_le (by rw [PL.out]; exact Nat.le_refl _)] at this; exact this) PL.out PP.out (by omega)
      have V3 := hid V2
      have I1 := hid (I.out.below BE.out)
      have c4 := cellB I1.out.most
      have f4 := frozenB I1.out.most
      obtain ⟨vb, hvb, hgb⟩ := I1.out.best
      have c5 := cellB hvb
      have f5 := frozenB hvb
      have C := hid (c_left a2 k ca2 (picks xs p) wr V2)
      have VB := hid hvb
      have GB := hid hgb
      have HE : Hid (leftOf (picks xs p) = psum xs p) := hid rfl
      rw [HE.out] at C
      have HO : Hid (ostep xs S p = if fGt (psum xs p) S.2 then (p, psum xs p) else S) := hid rfl
      clear V2 hvb hgb
      cases hgt : fGt (psum xs p) S.2
      · have G0 : (FloatKind.f32.format.order (psum xs p) S.2 == some .gt) = false := hgt
        have GG := hid hgt
        clear hgt
        generalize psum xs p = sm at *
        generalize S.2 = s2 at *
        go_wp2_with (go_at_call 33; refine C.out.mono ?_; rintro e w' ⟨rfl, rfl⟩)
        go_end0
        refine ⟨rfl, ?_, KP.of_below BE.out⟩
        rw [HO.out, GG.out]; exact I1.out
      · have G0 : (FloatKind.f32.format.order (psum xs p) S.2 == some .gt) = true := hgt
        have GG := hid hgt
        have MB := hid I1.out.most
        have M2 : Hid ((wr.setCell ⟨bb, 0, none⟩ (.slice (some ⟨g, 0, none⟩) k cap)).heap[mb]? = some (.cells #[.float .f32 S.2] 26 (0, 0))) := hid ((heap_setCell_other wr ⟨bb, 0, none⟩ mb _ LL.out.n3.symm).trans MB.out)
        have c6 := cellB M2.out
        have f6 := frozenB M2.out
        clear hgt
        generalize psum xs p = sm at *
        generalize S.2 = s2 at *
        have KF := hid (((KP.of_below BE.out).trans (KP.set wr bb (.inl rfl) 0 (.slice (some ⟨g, 0, none⟩) k cap))).trans (KP.set (F := bb) _ mb (.inr rfl) 0 (.float .f32 sm)))
        go_wp2_with (go_at_call 33; refine C.out.mono ?_; rintro e w' ⟨rfl, rfl⟩)
        go_end0
        refine ⟨rfl, ?_, KF.out⟩
        rw [HO.out, GG.out]
        exact ⟨(heap_setCell_other _ ⟨mb, 0, none⟩ lb _ LL.out.n2).trans ((heap_setCell_other wr ⟨bb, 0, none⟩ lb _ LL.out.n1).trans I1.out.list), ⟨_, (heap_setCell_other _ ⟨mb, 0, none⟩ bb _ LL.out.n3).trans (setB VB.out), (HV.out.kp KF.out LL.out.l2 LL.out.l3).got⟩, setB M2.out⟩
theorem appB {wa w2 w3 : World} {base : Nat} {o : Obj} {v : Value} {k : Nat} {l : List Value} {T : TypeId} (B : Below base wa w2) (hb : base ≤ w2.heap.size) (O : w2.ownsRow base T 1 v k l) (hg : (w2.alloc o).grownBy w3 v.ownBlock) : Below base wa w3 :=
  (B.alloc hb _).grown hg (by simp; omega) (fun r e => (O.lt r e).1)
set_option maxHeartbeats 1000000 in
theorem c_orders (W0 : World) (lb bb mb lo : Nat) (L : Lies W0.heap.size lb bb mb lo) (a : Option Addr) (n ca : Nat) (xs : List Nat) (V : VL W0 a n xs) (hn : n ≤ 6) : ∀ (d : Nat) (p : List Int) (g cap m : Nat) (S : List Int × Nat) (w : World), m + d = n → Prefix n p → Has w lo g cap m p → InvO lb bb mb lo a n ca S w → Below W0.heap.size W0 w → lo ≤ w.heap.size →
    Calls Try.prog 56 #[.int .i64 (n : Int), .slice (some ⟨g, 0, none⟩) m cap, .func (.func 57) #[] #[.pointer (some ⟨lb, 0, none⟩), .pointer (some ⟨mb, 0, none⟩), .pointer (some ⟨bb, 0, none⟩)]] w fun e w' => e = .returned (.tuple #[]) ∧ InvO lb bb mb lo a n ca (visit (ostep xs) n d p S) w' ∧ KP bb mb w w'
  | 0, p, g, cap, m, S, w, hd, hp, hpv, hI, hb, hlo => by
    obtain rfl : m = n := by omega
    have C := hid (c_GO1 W0 lb bb mb lo L a m ca xs V hn p g cap m S w hp hpv hI hb hlo)
    clear hp hpv hI hb hlo hd L V
    go_enter Try.func56, Try.ntmps56
    go_wp2_with fail
    refine C.out.mono ?_
    rintro e w1 ⟨rfl, h1, h2⟩
    have H1 := hid h1
    have H2 := hid h2
    clear h1 h2
    go_wp2_with fail
    refine bodyPost_ret (results_none rfl _ _ _) rfl ?_
    exact ⟨rfl, H1.out, H2.out⟩
  | d + 1, p, g, cap, m, S, w, hd, hp, hpv, hI, hb, hlo => by
    have IH := hid (c_orders W0 lb bb mb lo L a n ca xs V hn d)
    have HP := hid hp
    have HV := hid hpv
    have I := hid hI
    have B := hid hb
    have LL := hid L
    have LO := hid hlo
    have hmn : m < n := by omega
    have HD : Hid (m + 1 + d = n) := hid (by omega)
    have VS : Hid (visit (ostep xs) n (d + 1) p S = visitK (ostep xs) n d p n S) := hid rfl
    have PL := hid hpv.2
    have hbq : ((m : Int) == (n : Int)) = false := by rw [cast_beq]; simp; omega
    obtain ⟨i0, hi, hz0, hz1, hz2⟩ := info_parts info_i64
    have HI := hid hi
    have HZ0 := hid hz0
    have HZ1 := hid hz1
    have HZ2 := hid hz2
    clear hi hz0 hz1 hz2 hp hpv hI hb L V hlo hd
    go_enter Try.func56, Try.ntmps56
    go_wp2_with fail
    go_loopw [15] (fun i wr => ∃ k : Nat, k ≤ n ∧ i = .int .i64 k ∧ InvO lb bb mb lo a n ca (visitK (ostep xs) n d p k S) wr ∧ KP bb mb w wr) (fun i _ => n - (intOf i).toNat)
    case atStart => exact ⟨0, by omega, rfl, I.out, KP.refl _ _ _⟩
    case round =>
      obtain ⟨k, hk, rfl, hi, hkp⟩ := hrel
      have I1 := hid hi
      have KK := hid hkp
      clear hi hkp
      by_cases hlt : k < n
      · have H1 := hid (HV.out.kp KK.out LL.out.l2 LL.out.l3)
        have C := hid (c_ContainsI g cap m lo p (k : Int) wr H1.out (by omega))
        cases hc : p.contains (k : Int)
        · have HC := hid hc
          rw [hc] at C
          clear hc
          go_wp2_with (first | (go_at_call 77; refine C.out.mono ?_; rintro e w' ⟨rfl, rfl⟩) | (go_at_call 78; refine (c_CloneI g cap m lo p wr H1.out (by omega)).mono ?_; rintro e w1 ⟨⟨g2, cap2, rfl, h1⟩, h2⟩; have HV2 := hid h1; have D1 := hid h2; clear h1 h2) | (at_builtin; refine wpList_append_own _ rfl _ _ 36 rfl wr.heap.size 2 i0 (.int .i64 0) 1 8 Try.underlying36 HI.out HZ0.out HZ1.out HZ2.out rfl (by decide) _ _ _ rfl (HV2.out.1.alloc _) ⟨w1.heap.size, 0, none⟩ 1 1 [.int .i64 (k : Int)] rfl rfl (one_at _ _ _) (one_cellI _) (by unfold maxLen; omega) (by omega) (by have := D1.out.size; simp; omega) ?_; intro v' w3 hown' hgrow hnil; obtain ⟨g3, cap3, rfl⟩ := own_some hown' (fun e => absurd (hnil.1 e).1 (fun hc => by cases hc)); have D3 := hid (appB D1.out D1.out.size HV2.out.1 hgrow); have HV3 : Hid (Has w3 lo g3 cap3 (m + 1) (p ++ [(k : Int)])) := hid ⟨by rw [List.map_append]; exact ownL hown' (Nat.le_trans LO.out KK.out.size), by simp [PL.out]⟩; clear hown' hgrow hnil) | (go_at_call 56; refine (IH.out (p ++ [(k : Int)]) g3 cap3 (m + 1) _ w3 HD.out (HP.out.snoc (by rw [PL.out]; exact hmn) hlt) HV3.out (I1.out.below D3.out) (below_trans (KP.below B.out KK.out LL.out.b2 LL.out.b3 B.out.size) D3.out (Nat.le_trans B.out.size KK.out.size)) (Nat.le_trans LO.out (Nat.le_trans KK.out.size D3.out.size))).mono ?_; rintro e w4 ⟨rfl, h4, h5⟩; have I4 := hid h4; have K4 := hid h5; clear h4 h5))
          exact ⟨⟨k + 1, by omega, by go_num, by rw [visitK_not HC.out]; exact I4.out, (KK.out.trans (KP.of_below D3.out)).trans K4.out⟩, by simp [intOf]; omega⟩
        · have HC := hid hc
          rw [hc] at C
          clear hc
          go_wp2_with (go_at_call 77; refine C.out.mono ?_; rintro e w' ⟨rfl, rfl⟩)
          exact ⟨⟨k + 1, by omega, by go_num, by rw [visitK_has HC.out]; exact I1.out, KK.out⟩, by simp [intOf]; omega⟩
      · obtain rfl : k = n := by omega
        go_wp2
        go_end0
        exact ⟨rfl, by rw [VS.out]; exact I1.out, KK.out⟩
def goC (xs : List Nat) : Int := if validL xs then (if xs.length ≤ 6 then 0 else 3) else 1
def goS (xs : List Nat) : List Int := if goC xs = 0 then (bestI xs).1 else []
def goF (xs : List Nat) : Nat := if goC xs = 0 then (bestI xs).2 else 0
theorem goS_len (xs : List Nat) : (goS xs).length ≤ 6 := by
  unfold goS; split
  · next h =>
    unfold goC at h
    split at h
    · split at h
      · have := (best_prefix xs).1.le; omega
      · cases h
    · cases h
  · simp
theorem frombits64_run (x : Nat) (w : World) : (callFunc 76 #[.int .u64 (x : Int)]).run Try.prog w = .ok (.value (.float .f64 x)) w := by
  kernel_rfl
set_option maxHeartbeats 1000000 in
theorem c_implGreatestOrder (a : Option Addr) (n ca : Nat) (xs : List Nat) (w : World) (hx : Flts w a n xs) :
    Calls Try.prog 25 #[.slice a n ca] w fun e w' => (∃ v, e = .returned (.tuple #[v, .float .f32 (goF xs), .int .i64 (goC xs)]) ∧ GotI w' w.heap.size v (goS xs)) ∧ Below w.heap.size w w' := by
  have X := hid hx
  have hs := hx.small
  have LN := hid hx.len
  have H1 : Hid (Below w.heap.size w (w.alloc (.cells #[.slice a n ca] 24))) := hid ((Below.refl _ _).alloc (Nat.le_refl _) _)
  have C := hid (c_listCode a n ca xs _ (hx.below H1.out))
  have fb : ∀ w, (callFunc 76 #[.int .u64 18442240474082181120]).run Try.prog w = .ok (.value (.float .f64 18442240474082181120)) w := fun w => frombits64_run 18442240474082181120 w
  have cv := run_toS (d := 18442240474082181120) (z := 4286578688) (by decide)
  clear hx
  cases hv : validL xs
  · have E : Hid (codeL xs 0 = 1) := hid (by simp [codeL, hv])
    have R : Hid (goC xs = 1) := hid (by simp [goC, hv])
    rw [E.out] at C
    clear hv
    go_enter Try.func25, Try.ntmps25
    go_wp2_with (go_at_call 48; refine C.out.mono ?_; rintro e w' ⟨rfl, rfl⟩)
    go_ret3
    exact ⟨⟨_, by rw [goF, R.out]; rfl, by rw [goS, R.out]; exact GotI.nil _ _⟩, H1.out⟩
  · have E : Hid (codeL xs 0 = 0) := hid (by simp [codeL, hv])
    have HV := hid hv
    rw [E.out] at C
    clear hv
    by_cases h6 : n ≤ 6
    · have R : Hid (goC xs = 0) := hid (by simp [goC, HV.out, LN.out, h6])
      have V := hid (VL.of X.out HV.out)
      have L : Lies w.heap.size w.heap.size (w.heap.size + 1) (w.heap.size + 1 + 1) (w.heap.size + 1 + 1 + 1) := ⟨by omega, by omega, by omega, by omega, by omega, by omega, by omega, by omega, by omega⟩
      obtain ⟨wo, hwo⟩ : ∃ wo, wo = (((w.alloc (.cells #[.slice a n ca] 24)).alloc (.cells #[.slice none 0 0] 36)).alloc (.cells #[.float .f32 4286578688] 26)).alloc (.cells #[] 2) := ⟨_, rfl⟩
      have WO := hid hwo
      have BO : Hid (Below w.heap.size w wo) := hid (by rw [hwo]; exact ((((Below.refl _ _).alloc (Nat.le_refl _) _).alloc (by simp) _).alloc (by first | (simp; done) | (simp; omega)) _).alloc (by first | (simp; done) | (simp; omega)) _)
      have e1 : wo.heap[w.heap.size]? = some (.cells #[.slice a n ca] 24 (0, 0)) := by rw [hwo]; exact (blk_past _ _ _ (by first | (simp; done) | (simp; omega))).trans ((blk_past _ _ _ (by first | (simp; done) | (simp; omega))).trans ((blk_past _ _ _ (by simp)).trans (blk_at _ _ _ rfl)))
      have e2 : wo.heap[w.heap.size + 1]? = some (.cells #[.slice none 0 0] 36 (0, 0)) := by rw [hwo]; exact (blk_past _ _ _ (by first | (simp; done) | (simp; omega))).trans ((blk_past _ _ _ (by simp)).trans (blk_at _ _ _ (by simp)))
      have e3 : wo.heap[w.heap.size + 1 + 1]? = some (.cells #[.float .f32 4286578688] 26 (0, 0)) := by rw [hwo]; exact (blk_past _ _ _ (by simp)).trans (blk_at _ _ _ (by simp))
      have I0 : InvO w.heap.size (w.heap.size + 1) (w.heap.size + 1 + 1) (w.heap.size + 1 + 1 + 1) a n ca ([], ninf) wo := ⟨e1, ⟨_, e2, GotI.nil _ _⟩, e3⟩
      have A0 : Has wo (w.heap.size + 1 + 1 + 1) (w.heap.size + 1 + 1 + 1) 0 0 [] := by
        rw [hwo]
        have := owns_empty (((w.alloc (.cells #[.slice a n ca] 24)).alloc (.cells #[.slice none 0 0] 36)).alloc (.cells #[.float .f32 4286578688] 26)) 2
        simp at this
        exact ⟨this, rfl⟩
      have SZ : w.heap.size + 1 + 1 + 1 ≤ wo.heap.size := by rw [hwo]; simp
      have OC := hid (c_orders w _ _ _ _ L a n ca xs V.out h6 n [] _ 0 0 ([], ninf) wo (by omega) (Prefix.nil _) A0 I0 BO.out SZ)
      have BE : Hid (visit (ostep xs) n n [] ([], ninf) = bestI xs) := hid (by rw [bestI, LN.out])
      rw [BE.out] at OC
      clear e1 e2 e3 I0 A0 SZ L hwo
      go_enter Try.func25, Try.ntmps25
      go_wp2_with (first | (go_at_call 48; refine C.out.mono ?_; rintro e w' ⟨rfl, rfl⟩) | (go_at_call 56; rw [← WO.out]; refine OC.out.mono ?_; rintro e w2 ⟨rfl, h2, h3⟩; have I2 := hid h2; have K2 := hid h3; clear h2 h3; obtain ⟨vb, hvb, hgb⟩ := I2.out.best; have c1 := cellB hvb; have c2 := cellB I2.out.most; have GB := hid hgb; clear hvb hgb) | go_in)
      go_quiet (fail)
      go_wp2
      go_ret3
      refine ⟨⟨_, by rw [goF, R.out]; rfl, ?_⟩, ?_⟩
      · rw [goS, R.out]; exact ownL (ownB GB.out (below_drawn (Below.refl _ _) _)) (by omega)
      · exact below_drawn (KP.below BO.out K2.out (by omega) (by omega) BO.out.size) _
    · have R : Hid (goC xs = 3) := hid (by simp [goC, HV.out, LN.out, h6])
      go_enter Try.func25, Try.ntmps25
      go_wp2_with (go_at_call 48; refine C.out.mono ?_; rintro e w' ⟨rfl, rfl⟩)
      go_ret3
      exact ⟨⟨_, by rw [goF, R.out]; rfl, by rw [goS, R.out]; exact GotI.nil _ _⟩, H1.out⟩
end Go.Proofs.Ytpaoccnffmngfaa
