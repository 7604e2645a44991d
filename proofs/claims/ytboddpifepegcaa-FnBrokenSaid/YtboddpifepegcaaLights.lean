/- Walks of the light that passes in each hour of a plan. -/
import Derived.Test.YtboddpifepegcaaKeep
import Derived.Test.YtboddpifepegcaaApp
import Derived.Test.YtboddpifepegcaaMarks
import Derived.Deep.RegionLaw
namespace Go.Proofs.Ytboddpifepegcaa
set_option maxRecDepth 20000
open Go.RowKit

theorem step_append_own {P : Program} {ops : Array Oper} {o : Oper} {a : Act} {w : World} {K : Act → World → Prop} {Q : Exit → Act → World → Prop} {E : Prop} (hgd : o.guard = none) (s x : Operand) (t : TypeId)
    (ho : o.op = .call { callee := .builtin .append, args := #[s, x], argTypes := #[t, t] })
    (base : Nat) (e : TypeId) (i : TypeInfo) (z : Value) (size bytes : Nat) (ht : P.underlying t = some (.slice e)) (hi : P.info? e = some i) (hz : i.zero = some z)
    (hsize : i.size = size) (hby : i.bytes = bytes) (hzs : z.cells.size = size) (hsz : 0 < size)
    (v : Value) (n : Nat) (xs : List Value) (hs : a.eval s = v) (hown : w.ownsRow base e size v n xs)
    (ad : Addr) (m c : Nat) (news : List Value) (hx : a.eval x = .slice (some ad) m c) (hl : news.length = m * size) (hnews : ∀ j u, news[j]? = some u → w.cell? (ad.add j) = some u) (h1 : ∀ u ∈ news, u.oneCell' = true)
    (h63 : n + m ≤ maxLen) (hbytes : (n + m) * bytes ≤ 140737488355328) (hbase : base ≤ w.heap.size)
    (h : ∀ v' w', w'.ownsRow base e size v' (n + m) (xs ++ news) → w.grownBy w' v.ownBlock → (v' = .slice none 0 0 ↔ v = .slice none 0 0 ∧ m = 0) → K (a.put o.dst v') w') : if Region.wanted o (yielded ops a.tmps) = true then Oper.wp P o a w K Q else E := by
  rw [if_pos (by simp [Region.wanted, hgd])]
  exact wp_append_own w s x t ho base e i z size bytes ht hi hz hsize hby hzs hsz v n xs hs hown ad m c news hx hl hnews h1 h63 hbytes hbase h
theorem ownsRow_below {w w' : World} {lo s n : Nat} {T : TypeId} {v : Value} {l : List Value} (h : w.ownsRow lo T s v n l) (hb : Below w.heap.size w w') : w'.ownsRow lo T s v n l :=
  ⟨h.1, h.2.imp id fun ⟨g, cap, cur, h1, h2, h3, h4⟩ => ⟨g, cap, cur, h1, h2, (hb.block g (block_lt h3)).trans h3, h4⟩⟩
theorem append_below2 {wa w2 w3 : World} {base : Nat} {o : Obj} {v : Value} {k : Nat} {l : List Value} {T : TypeId} (B : Below base wa w2) (hb : base ≤ w2.heap.size) (O : w2.ownsRow base T 1 v k l) (hg : (w2.alloc o).grownBy w3 v.ownBlock) : Below base wa w3 :=
  (B.alloc hb _).grown hg (by simp; omega) (fun r e => (O.lt r e).1)
def lightsK (B : Bld) (hs ts : List Int) (f : Int) (p : List Int) (k : Nat) : List Nat := (List.range k).map fun j => windowW (tiltB B (iat p j)) hs ts j f
theorem lightsK_succ (B : Bld) (hs ts : List Int) (f : Int) (p : List Int) (k : Nat) : lightsK B hs ts f p (k + 1) = lightsK B hs ts f p k ++ [windowW (tiltB B (iat p k)) hs ts k f] := by simp [lightsK, List.range_succ]
theorem lightsK_len (B : Bld) (hs ts : List Int) (f : Int) (p : List Int) (k : Nat) : (lightsK B hs ts f p k).length = k := by simp [lightsK]
theorem lightsK_word {B : Bld} (hB : OkB B) {hs ts : List Int} (hs2 : okS hs ts = true) (f : Int) {p : List Int} (hp : ∀ k, k < 24 → -64 ≤ iat p k ∧ iat p k ≤ 64) : ∀ k, k < (lightsK B hs ts f p 24).length → fat (lightsK B hs ts f p 24) k < 4294967296 := fun k hk => by
  rw [lightsK_len] at hk
  have e : fat (lightsK B hs ts f p 24) k = windowW (tiltB B (iat p k)) hs ts k f := by simp [lightsK, fat, hk]
  rw [e]
  exact (window_in (hB.tilt (hp k hk).1 (hp k hk).2) hs ts f (okS_at hs2 hk).2.1).word
end Go.Proofs.Ytboddpifepegcaa
