/- Walk of the program's sum from the last number to the first: a range over the library's function that goes through a slice backwards. -/
import Derived.RangeFuncBox
import Derived.RangeFuncLeaves
import Derived.Shelf.Abstract
import Derived.OwnWalkIn
import Derived.TacticsInMore
import Derived.LoopNIn
import Derived.LoopIn
import Derived.Test.YtpaoccnffmngfaaSumW
namespace Go.Proofs.Ytpaoccnffmngfaa
set_option maxRecDepth 20000
open Go.RowKit Go.Shelf
attribute [local go_sem] Oper.semAt_some

/-- What a round is given: an index and a plain number. -/
abbrev Got := { x : Nat × Nat // AbsLe x.2 PW }
def nums (l : List Got) : List Nat := l.map (·.1.2)
def sumUp (l : List Nat) : Nat := l.foldl fadd 0
theorem sumUp_snoc (l : List Nat) (x : Nat) : sumUp (l ++ [x]) = fadd (sumUp l) x := by simp [sumUp]
theorem nums_snoc (l : List Got) (x : Got) : nums (l ++ [x]) = nums l ++ [x.1.2] := by simp [nums]
theorem foldl_abs : ∀ (l : List Got) (acc i : Nat), AbsLe acc (bl i) → i + l.length ≤ 48 → AbsLe ((nums l).foldl fadd acc) (bl (i + l.length))
  | [], acc, i, h, _ => h
  | x :: l, acc, i, h, hl => by
    simp only [List.length_cons] at hl ⊢
    have := foldl_abs l (fadd acc x.1.2) (i + 1) (h.add x.2 (bl_ok (i + 1) (by omega))) (by omega)
    rw [show i + (l.length + 1) = i + 1 + l.length by omega]
    exact this
theorem sumUp_abs (l : List Got) (h : l.length ≤ 48) : AbsLe (sumUp (nums l)) (bl l.length) := by
  have := foldl_abs l 0 0 abs_zero (by omega)
  rwa [Nat.zero_add] at this
def backs (xs : List Nat) (n k : Nat) : List Nat := (List.range k).map fun j => fat xs (n - 1 - j)
theorem backs_succ (xs : List Nat) (n k : Nat) : backs xs n (k + 1) = backs xs n k ++ [fat xs (n - 1 - k)] := by simp [backs, List.range_succ]
theorem sum_backs (xs : List Nat) (n : Nat) : ∀ k, sumUp (backs xs n k) = rightK xs n k
  | 0 => rfl
  | k + 1 => by rw [backs_succ, sumUp_snoc, sum_backs xs n k, rightK]
/-- What a round keeps: what lay below, and the box of the slice. -/
def Kb (Bs n₀ : Nat) (v : Value) (W W' : World) : Prop := Below n₀ W W' ∧ (W.cell? ⟨Bs, 0, none⟩ = some v → W'.cell? ⟨Bs, 0, none⟩ = some v)
theorem kb_t {Bs n₀ : Nat} {v : Value} {A B C : World} (h : Kb Bs n₀ v A B) (k : Kb Bs n₀ v B C) : Kb Bs n₀ v A C := ⟨h.1.trans k.1, fun e => k.2 (h.2 e)⟩
theorem kb_b {Bs n₀ : Nat} {v : Value} {w : World} (hn : n₀ ≤ w.heap.size) (W : World) (l : Nat) (o o' : Obj) (hl : w.heap.size ≤ l) (h : W.heap[l]? = some o) (hc : o.isCells = false) (hw : o.isWalk = false) : Kb Bs n₀ v W (W.putObj l o') :=
  ⟨belowK_b hn W l o o' hl h hc hw, fun e => cell_kept e (grownBy_putObj' W l o') (fun r e => by cases e; exact ⟨o, h, hc⟩)⟩
set_option maxRecDepth 100000 in
set_option maxHeartbeats 2000000 in
theorem back1_in (F : Fence) (m : Nat) (hf : F.fn 84) (hro : F.round = none) (hm : 1 ≤ m) (l Bs n₀ : Nat) (a : Option Addr) (n ca : Nat) (xs : List Nat) (J Jx : List Got → World → Prop)
    (hY : ∀ pre x W, J pre W → pre.length < n → YieldAt F (m - 1) Try.prog l #[.int .i64 (x.1.1 : Int), .float .f32 x.1.2] W fun e W' =>
      (e = .returned (.bool true) ∧ J (pre ++ [x]) W' ∧ Kb Bs n₀ (.slice a n ca) W W') ∨ (e = .returned (.bool false) ∧ Jx (pre ++ [x]) W'))
    (W : World) (hBs : W.cell? ⟨Bs, 0, none⟩ = some (.slice a n ca)) (hv : VL W a n xs) (hlow : 0 < n → ∀ b o, a = some ⟨b, o, none⟩ → b < n₀) (h0 : J [] W) :
    CallsIn F m Try.prog 84 #[.func (.yield l) #[] #[], .pointer (some ⟨Bs, 0, none⟩)] W fun e W' => (∃ v, e = .returned v) ∧
      ((∃ ys, nums ys = backs xs n n ∧ J ys W') ∨ (∃ pre, True ∧ Jx pre W')) := by
  have hn := hv.le
  refine callsIn_of_wp Try.func84 rfl hf ?_ hro
  simp only [Try.ntmps84, List.size_toArray, List.length_cons, List.length_nil, Nat.reduceAdd, Nat.reduceSub, Array.replicate_succ, Array.replicate_zero, List.push_toArray, List.append_toArray, List.nil_append, List.cons_append]
  gi_wp2
  gi_loopw [3] (fun i wr => ∃ k : Nat, k ≤ n ∧ ∃ x : Int, x = (k : Int) - 1 ∧ i = .int .i64 x ∧ ∃ pre, nums pre = backs xs n (n - k) ∧ pre.length = n - k ∧ J pre wr ∧ Kb Bs n₀ (.slice a n ca) W wr)
    (fun i _ => (intOf i + 1).toNat)
  case atStart => exact ⟨n, Nat.le_refl _, _, rfl, rfl, [], by simp [nums, backs], by simp, h0, Below.refl _ _, id⟩
  case round =>
    obtain ⟨k, hk, x, hx, rfl, pre, hp, hpl, hJs, hnx⟩ := hrel
    have hBs' := hnx.2 hBs
    cases k with
    | succ j =>
      obtain rfl : x = (j : Int) := by omega
      clear hx
      obtain ⟨b1, o1, rfl, hc1⟩ := hv.fl.at_ (by omega)
      have h1 : wr.cell? ⟨b1, o1 + j, none⟩ = some (.float .f32 (fat xs j)) := (hnx.1.cell (p := ⟨b1, o1 + j, none⟩) (hlow (by omega) _ _ rfl)).trans (hc1 j (by omega))
      obtain ⟨fn, tmps, assign, body, hy, hR⟩ := hY pre ⟨(j, fat xs j), hv.pl.abs (k := j) (by rw [hv.len]; omega)⟩ wr hJs (by omega)
      dsimp only at hy
      gi_wp2
      refine hR.mono ?_
      rintro e W3 (⟨rfl, hJ3, hk3⟩ | ⟨rfl, hJx3⟩)
      · gi_wp2
        go_roundw
        case rel =>
          refine ⟨j, by omega, _, rfl, by simp, _, ?_, ?_, hJ3, kb_t hnx hk3⟩
          · rw [nums_snoc, hp, show n - j = (n - (j + 1)) + 1 by omega, backs_succ, show n - 1 - (n - (j + 1)) = j by omega]
          · simp; omega
        case measure => simp [intOf]
      · gi_wp2
        refine bodyPost_ret (results_none rfl _ _ _) rfl ?_
        exact ⟨⟨_, rfl⟩, .inr ⟨_, trivial, hJx3⟩⟩
    | zero =>
      obtain rfl : x = -1 := by omega
      clear hx
      gi_wp2
      go_end0
      exact ⟨⟨_, rfl⟩, .inl ⟨_, hp, hJs⟩⟩
theorem back_in (F : Fence) (m : Nat) (hf : F.fn 61) (hro : F.round = none) (a : Option Addr) (n ca : Nat) (w : World) :
    CallsIn F m Try.prog 61 #[.slice a n ca] w fun e w' => e = .returned (.func (.func 84) #[] #[.pointer (some ⟨w.heap.size, 0, none⟩)]) ∧ w' = w.alloc (.cells #[.slice a n ca] 24) := by
  refine callsIn_of_wp Try.func61 rfl hf ?_ hro
  simp only [Try.ntmps61, List.size_toArray, List.length_cons, List.length_nil, Nat.reduceAdd, Nat.reduceSub, Array.replicate_succ, Array.replicate_zero, List.push_toArray, List.append_toArray, List.nil_append, List.cons_append]
  gi_wp2
  go_ret
  exact ⟨rfl, rfl⟩
theorem back_stops (F : Fence) (m : Nat) (hf : F.fn 84) (hro : F.round = none) (hm : 1 ≤ m) (Bs n₀ : Nat) (a : Option Addr) (n ca : Nat) (xs : List Nat) (w : World) (hB : Bs < w.heap.size) (_ : n₀ ≤ w.heap.size)
    (hc : w.cell? ⟨Bs, 0, none⟩ = some (.slice a n ca)) (hv : VL w a n xs) (hlow : 0 < n → ∀ b o, a = some ⟨b, o, none⟩ → b < n₀) :
    SeqStopsK F m Try.prog 84 #[.pointer (some ⟨Bs, 0, none⟩)] (fun x : Got => #[Value.int .i64 (x.1.1 : Int), Value.float .f32 x.1.2]) (Kb Bs n₀ (.slice a n ca)) (fun ys => nums ys = backs xs n n)
      (fun _ => True) n w := fun l J Jx W hW _ _ hY h0 =>
  back1_in F m hf hro hm l Bs n₀ a n ca xs J Jx hY W ((hW.cell (p := ⟨Bs, 0, none⟩) hB).trans hc) (hv.below hW) hlow h0
set_option maxRecDepth 100000 in
set_option maxHeartbeats 2000000 in
theorem right_in (F : Fence) (m : Nat) (h3 : F.fn 34) (h5 : F.fn 61) (h7 : F.fn 84) (hro : F.round = none) (hm : 3 ≤ m) (a : Option Addr) (n ca : Nat) (xs : List Nat) (w : World) (hv : VL w a n xs) :
    CallsIn F m Try.prog 34 #[.slice a n ca] w fun e W' => e = .returned (.float .f32 (rightOf xs)) ∧ Below w.heap.size w W' := by
  have h1 : 1 ≤ m := by omega
  have hn := hv.le
  have hlow : 0 < n → ∀ b o, a = some ⟨b, o, none⟩ → b < w.heap.size := fun h0 b o e => by
    obtain ⟨b1, o1, e1, hc1⟩ := hv.fl.at_ h0
    rw [e] at e1; cases e1
    exact block_lt_of_cell (hc1 0 h0)
  refine callsIn_of_wp_marks Try.func34 rfl h3 ?_ hro
  simp only [Try.ntmps34, List.size_toArray, List.length_cons, List.length_nil, Nat.reduceAdd, Nat.reduceSub, Array.replicate_succ, Array.replicate_zero, List.push_toArray, List.append_toArray, List.nil_append, List.cons_append]
  gi_wp2_with (gi_at_call 61; refine (back_in F (m - 1) h5 hro _ _ _ _).mono ?_; rintro e w' ⟨rfl, rfl⟩)
  have bS := Boxed.new w 26 (.float .f32 0)
  have bN := Boxed.new (w.alloc (.cells #[.float .f32 0] 26)) 24 (.slice a n ca)
  rw [World.size_alloc] at bN
  have hB0 : Below w.heap.size w ((w.alloc (.cells #[.float .f32 0] 26)).alloc (.cells #[.slice a n ca] 24)) := ((Below.refl _ w).alloc (Nat.le_refl _) _).alloc (by simp) _
  refine wpIn_rangeFunc_ownG hro h1 (gf := 84) (lb := #[.pointer (some ⟨w.heap.size + 1, 0, none⟩)]) rfl h7 (enters_of Try.func84 (by kernel_rfl) rfl)
    (back_stops F (m - 1) h7 hro (by omega) (w.heap.size + 1) w.heap.size a n ca xs _ (by simp) (by simp; omega) bN.cell (hv.below hB0) hlow) kb_t (kb_b (by simp; omega)) (Below.refl _ _) (fun _ => rfl)
    (fun pre W => (W.cell? ⟨w.heap.size, 0, none⟩ = some (.float .f32 (sumUp (nums pre))) ∧ W.frozen? ⟨w.heap.size, 0, none⟩ = false) ∧ Below w.heap.size w W)
    (fun _ _ _ => False)
    (OwnFrom.and (Own.from (fun s A B row hs hg hr => ⟨cell_kept hs.1 hg hr, (frozen_kept hs.1 hg hr).trans hs.2⟩) _) (ownFrom_below (Nat.le_refl _) (by simp; omega)))
    (fun _ _ _ _ _ hs _ _ => hs)
    ⟨⟨(bS.alloc _).cell, (bS.alloc _).frozen⟩, hB0⟩
    (fun x => { tmps := #[.slice a n ca, undef, .float .f32 0, .pointer (some ⟨w.heap.size, 0, none⟩), undef, .float .f32 x.1.2, .slice a n ca, .func (.func 84) #[] #[.pointer (some ⟨w.heap.size + 1, 0, none⟩)], .int .i64 (x.1.1 : Int), .float .f32 x.1.2, undef, undef, undef, undef], defers := [] }) ?assign ?body ?done ?stop
  case assign =>
    intro l x W K hK
    gi_wp2
    exact hK
  case body =>
    rintro l pre x W ⟨⟨hc, hf⟩, hB⟩ hlt
    have ha := run_add (T := 26) (sumUp_abs pre (by omega)).fin x.2.fin
    gi_wp2
    refine ⟨(KeepsOthers.setCell _ _ _).from _, ⟨(Below.refl w.heap.size W).setCell (p := ⟨w.heap.size, 0, none⟩) (Nat.le_refl _) _, fun e => ?_⟩, ⟨by rw [nums_snoc, sumUp_snoc]; exact World.cell?_setCell_same' _ _ _ (by rw [hc]; rfl), by rw [World.frozen?_setCell]; exact hf⟩, hB.setCell (p := ⟨w.heap.size, 0, none⟩) (Nat.le_refl _) _⟩
    rw [World.cell?_setCell_other _ _ _ _ (by simp)]; exact e
  case done =>
    rintro D ys W hD hys ⟨⟨hc, _⟩, hB⟩ hK
    rw [hys, sum_backs] at hc
    gi_wp2
    refine ⟨by simp, .inl ⟨_, _, rfl, run_takeDeferred hK, ?_⟩⟩
    exact ⟨_, results_tmp rfl _ _ _, by rw [rightOf, hv.len]; rfl, hB.trans (belowK_b (w := w) (Nat.le_refl _) W D _ _ (by simp at hD; omega) hK rfl rfl)⟩
  case stop =>
    rintro D c pre W _ _ h _
    exact h.elim
theorem c_right (a : Option Addr) (n ca : Nat) (xs : List Nat) (w : World) (hv : VL w a n xs) :
    Calls Try.prog 34 #[.slice a n ca] w fun e w' => e = .returned (.float .f32 (rightOf xs)) ∧ Below w.heap.size w w' :=
  callsIn_wide.1 (right_in Fence.wide 3 trivial trivial trivial rfl (by omega) a n ca xs w hv)
end Go.Proofs.Ytpaoccnffmngfaa
