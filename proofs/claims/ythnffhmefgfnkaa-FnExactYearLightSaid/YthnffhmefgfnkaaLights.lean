/- Walks of the light that passes in each hour of a plan. -/
import Derived.Test.YthnffhmefgfnkaaKeep
import Derived.Test.YthnffhmefgfnkaaApp
import Derived.Test.YthnffhmefgfnkaaMarks
import Derived.Deep.RegionLaw
namespace Go.Proofs.Ythnffhmefgfnkaa
set_option maxRecDepth 20000
open Go.RowKit

theorem step_append_own {P : Program} {ops : Array Oper} {o : Oper} {a : Act} {w : World} {K : Act → World → Prop} {Q : Exit → Act → World → Prop} {E : Prop} (hgd : o.guard = none) (s x : Operand) (t : TypeId)
    (ho : o.op = .call { callee := .builtin .append, args := #[s, x], argTypes := #[t, t] })
    (base : Nat) (e : TypeId) (i : TypeInfo) (z : Value) (size bytes : Nat) (ht : P.underlying t = some (.slice e)) (hi : P.info? e = some i) (hz : i.zero = some z)
    (hsize : i.size = size) (hby : i.bytes = bytes) (hzs : z.cells.size = size) (hsz : 0 < size)
    (v : Value) (n : Nat) (xs : List Value) (hs : a.eval s = v) (hown : w.ownsRow base e size v n xs)
    (ad : Addr) (m c : Nat) (news : List Value) (hx : a.eval x = .slice (some ad) m c) (hl : news.length = m * size) (hnews : ∀ j u, news[j]? = some u → w.cell? (ad.add j) = some u) (h1 : ∀ u ∈ news, u.oneCell' = true)
    (h63 : n + m ≤ maxLen) (hbytes : (n + m) * bytes ≤ 140737488355328) (hbase : base ≤ w.heap.size)
    (h : ∀ v' w', w'.ownsRow base e size v' (n + m) (xs ++ news) → w.grownBy w' v.ownBlock → (v' = .slice none 0 0 ↔ v = .slice none 0 0 ∧ m = 0) → K (a.put o.dst v') w') : if Region.wanted o (yielded ops a.tmps) = true then Oper.wp P o a w K Q else E := by
  rw [if_pos (by simp [Region.wanted, hgd])]
  exact wp_append_own w s x t ho base e i z size bytes ht hi hz hsize hby hzs hsz v n xs hs hown ad m c news hx hl hnews h1 h63 hbytes hbase h
theorem ownsRow_below {w w' : World} {lo s n : Nat} {T : TypeId} {v : Value} {l : List Value} (h : w.ownsRow lo T s v n l) (hb : Below w.heap.size w w') : w'.ownsRow lo T s v n l :=
  ⟨h.1, h.2.imp id fun ⟨g, cap, cur, h1, h2, h3, h4⟩ => ⟨g, cap, cur, h1, h2, (hb.block g (block_lt h3)).trans h3, h4⟩⟩
theorem append_below2 {wa w2 w3 : World} {base : Nat} {o : Obj} {v : Value} {k : Nat} {l : List Value} {T : TypeId} (B : Below base wa w2) (hb : base ≤ w2.heap.size) (O : w2.ownsRow base T 1 v k l) (hg : (w2.alloc o).grownBy w3 v.ownBlock) : Below base wa w3 :=
  (B.alloc hb _).grown hg (by simp; omega) (fun r e => (O.lt r e).1)
def lightsK (B : Bld) (hs ts : List Int) (f : Int) (p : List Int) (k : Nat) : List Nat := (List.range k).map fun j => windowW (tiltB B (iat p j)) hs ts j f
theorem lightsK_succ (B : Bld) (hs ts : List Int) (f : Int) (p : List Int) (k : Nat) : lightsK B hs ts f p (k + 1) = lightsK B hs ts f p k ++ [windowW (tiltB B (iat p k)) hs ts k f] := by simp [lightsK, List.range_succ]
theorem lightsK_len (B : Bld) (hs ts : List Int) (f : Int) (p : List Int) (k : Nat) : (lightsK B hs ts f p k).length = k := by simp [lightsK]
theorem lightsK_word {B : Bld} (hB : OkB B) {hs ts : List Int} (hs2 : okS hs ts = true) (f : Int) {p : List Int} (hp : ∀ k, k < 24 → -64 ≤ iat p k ∧ iat p k ≤ 64) : ∀ k, k < (lightsK B hs ts f p 24).length → fat (lightsK B hs ts f p 24) k < 4294967296 := fun k hk => by
  rw [lightsK_len] at hk
  have e : fat (lightsK B hs ts f p 24) k = windowW (tiltB B (iat p k)) hs ts k f := by simp [lightsK, fat, hk]
  rw [e]
  exact (window_in (hB.tilt (hp k hk).1 (hp k hk).2) hs ts f (okS_at hs2 hk).2.1).word
set_option maxHeartbeats 1000000 in
theorem c_lights (B : Bld) (hB : OkB B) (d b o : Nat) (hs ts p : List Int) (f : Int) (w : World) (hP : PlnAt w d p) (hS : SunAt w b o hs ts) (hs2 : okS hs ts = true) (hp : ∀ k, k < 24 → -64 ≤ iat p k ∧ iat p k ≤ 64) (hf : 0 ≤ f ∧ f ≤ 255) :
    Calls Try.prog 80 #[.pointer (some ⟨d, 0, none⟩), .agg (bcells B), .pointer (some ⟨b, o, none⟩), .int .i64 f] w fun e w' => (∃ v, e = .returned v ∧ w'.ownsRow (w.heap.size + 1) 23 1 v 24 ((lightsK B hs ts f p 24).map (Value.float .f32))) ∧ Below w.heap.size w w' := by
  have HB0 : Hid ((w.alloc (.cells (bcells B) 32)).heap[w.heap.size]? = some (.cells (bcells B) 32 (0, 0))) := hid (blk_at _ _ _ rfl)
  have H0 : Hid (Below w.heap.size w (w.alloc (.cells (bcells B) 32))) := hid ((Below.refl _ _).alloc (Nat.le_refl _) _)
  have S := hid (hS.below H0.out)
  have P := hid (hP.below H0.out)
  have HPP := hid hp
  have LO : Hid (∀ k : Nat, k < 24 → ∀ w, SunAt w b o hs ts → Calls Try.prog 78 #[.agg (bcells (tiltB B (iat p k))), .pointer (some ⟨b, o, none⟩), .int .i64 (k : Int), .int .i64 f] w fun e w' => e = .returned (.float .f32 (windowW (tiltB B (iat p k)) hs ts k f)) ∧ Below w.heap.size w w') := hid (fun k hk w hS => by
    have s := okS_at hs2 hk
    exact c_passWindow (tiltB B (iat p k)) (hB.tilt (hp k hk).1 (hp k hk).2) b o k hs ts f w hS hk ⟨s.1, s.2.1⟩ s.2.2 hf)
  obtain ⟨i0, hi, hz0, hz1, hz2⟩ := info_parts info_f32
  have HI := hid hi
  have HZ0 := hid hz0
  have HZ1 := hid hz1
  have HZ2 := hid hz2
  clear hP hS hs2 hp hf hB hi hz0 hz1 hz2
  go_enter Try.func80, Try.ntmps80
  go_wp2_with fail
  go_loopw [9, 12] (fun v i wr => ∃ k : Nat, k ≤ 24 ∧ i = .int .i64 k ∧ wr.ownsRow (w.heap.size + 1) 23 1 v k ((lightsK B hs ts f p k).map (Value.float .f32)) ∧ Below (w.heap.size + 1) (w.alloc (.cells (bcells B) 32)) wr) (fun _ i _ => 24 - (intOf i).toNat)
  case atStart => exact ⟨0, by omega, rfl, by have := owns_empty (w.alloc (.cells (bcells B) 32)) 23; simpa [lightsK] using this, (Below.refl _ _).alloc (by simp) _⟩
  case round =>
    obtain ⟨k, hk, rfl, hown, hbel⟩ := hrel
    have O := hid hown
    have BE := hid hbel
    clear hown hbel
    by_cases hlt : k < 24
    · have hki : (k : Int) < 24 := by omega
      have pk := HPP.out k hlt
      have hwr : IntKind.i64.wrap (iat p k) = iat p k := by rw [IntWalk.i64_in] <;> omega
      have B1 : Hid (Below (w.alloc (.cells (bcells B) 32)).heap.size (w.alloc (.cells (bcells B) 32)) wr) := hid (by have := BE.out; simpa using this)
      have S1 := hid ((S.out.below B1.out).below (Below.refl _ _).drew)
      have A1 := BldAt.of_block ((B1.out.block _ (block_lt HB0.out)).trans HB0.out)
      have q1 := A1.sl
      have q2 := A1.wi
      have q3 := A1.ga
      have q4 := A1.ti
      have q5 := A1.sh
      have q6 := P.out.below B1.out k hlt
      clear A1
      have C1 := fun w => c_tilted B (iat p k) pk w
      have C2 := LO.out k hlt
      simp only [bcells] at C1
      have C3 := hid C1
      have C4 := hid C2
      clear C1 C2
      generalize hx : windowW (tiltB B (iat p k)) hs ts k f = x at *
      have X := hid hx
      clear hx
      go_wp2_with fail
      go_region_law (first | (go_simp; go_at_call 77; refine (C3.out _).mono ?_; rintro e w1 ⟨rfl, h1⟩; have D1 := hid h1; have S2 := hid (S1.out.below h1); clear h1) | (go_simp; go_at_call 78; refine (C4.out _ S2.out).mono ?_; rintro e w2 ⟨rfl, h2⟩; have D2 := hid (below_trans D1.out h2 D1.out.size); clear h2) | (refine step_append_own rfl _ _ 64 rfl (w.heap.size + 1) 23 i0 (.float .f32 0) 1 4 Try.underlying64 HI.out HZ0.out HZ1.out HZ2.out rfl (by decide) _ _ _ rfl ((ownsRow_below O.out (below_trans (Below.refl _ _).drew D2.out (Nat.le_refl _))).alloc _) ⟨w2.heap.size, 0, none⟩ 1 1 [.float .f32 x] rfl rfl (one_at _ _ _) (one_cell _) (by unfold maxLen; omega) (by omega) (by have e1 := D2.out.size; have e2 := BE.out.size; simp at e1 e2 ⊢; omega) ?_; intro v' w3 hown' hgrow _))
      all_goals
        have O1 := hid hown'
        have B5 : Below wr.heap.size wr w2 := below_trans (Below.refl _ _).drew D2.out (Nat.le_refl _)
        have B3 : Hid (Below (w.heap.size + 1) (w.alloc (.cells (bcells B) 32)) w2) := hid (BE.out.trans (B5.mono (by have := BE.out.size; simp at this; omega)))
        clear B5
        have B4 := hid (append_below2 B3.out (by have := B3.out.size; simp at this; omega) (ownsRow_below O.out (below_trans (Below.refl _ _).drew D2.out (Nat.le_refl _))) hgrow)
        clear hown' hgrow
        go_wp2
        exact ⟨⟨k + 1, by omega, by go_num, by rw [lightsK_succ, List.map_append, X.out]; exact O1.out, B4.out⟩, by simp [intOf]; omega⟩
    · obtain rfl : k = 24 := by omega
      go_wp2
      go_ret
      exact ⟨⟨_, rfl, O.out⟩, H0.out.trans (BE.out.mono (by omega))⟩
end Go.Proofs.Ythnffhmefgfnkaa
