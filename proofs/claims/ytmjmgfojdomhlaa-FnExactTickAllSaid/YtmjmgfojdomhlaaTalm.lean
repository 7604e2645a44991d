/- Lists of up to 100 lights: marked and looked for; and plain facts of TickAll. -/
import Derived.Test.YtmjmgfojdomhlaaTall
import Derived.Test.YtmjmgfojdomhlaaSteq
import Derived.Test.YtmjmgfojdomhlaaMarks
namespace Go.Proofs.Ytmjmgfojdomhlaa
set_option maxRecDepth 20000
open Go.RowKit

theorem mF_eq2 {m : Nat} (h : m ≤ 200) : (FloatKind.f32.format.order (floatOfInt .f32 (m : Int)) (floatOfInt .f32 (m : Int)) != some .eq) = false := by
  have h0 : ((List.range 201).all fun k => FloatKind.f32.format.order (floatOfInt .f32 (k : Int)) (floatOfInt .f32 (k : Int)) == some .eq) = true := by decide +kernel
  have h1 := List.all_eq_true.1 h0 m (List.mem_range.2 (by omega))
  simpa using h1
theorem GotF.owns2 {w : World} {lo : Nat} {v : Value} {l : List Nat} (h : GotF w lo v l) (hl : l.length ≤ 999) : OwnsF w lo v l.length (l.map (Value.float .f32)) :=
  ⟨h, by omega, fun j hj => ⟨_, f32_at hj⟩⟩
theorem GotF.reads2 {w : World} {lo : Nat} {v : Value} {l : List Nat} (h : GotF w lo v l) (hl : l.length ≤ 999) (hw : ∀ k, k < l.length → fat l k < 4294967296) : FltsV w v l := by
  have h' := h
  unfold GotF at h'
  rcases h.2 with ⟨rfl, h0⟩ | ⟨g, cap, cur, rfl, hlo, hb, _⟩
  · obtain rfl := List.length_eq_zero_iff.1 h0
    exact ⟨none, 0, rfl, rfl, by simp, fun k hk => by simp at hk, fun hk => by simp at hk⟩
  · exact ⟨_, cap, rfl, rfl, by omega, hw, fun _ => ⟨g, 0, rfl, fun j hj => by rw [Nat.zero_add, h'.cellAt j (by omega)]; exact f32_at hj⟩⟩
theorem taL_len (C : Ctl) (B : Bld) (s : Sta) (T : Nat → Tck) (n : Nat) : (taL C B s T n).length ≤ 100 := by
  unfold taL; split
  · next h =>
    obtain ⟨_, _, _, _, z5⟩ := tkC_zero h
    rw [lightsT_len]; omega
  · simp
theorem taL_word {C : Ctl} (wc : WfC C) {B : Bld} (wb : WfB B) (s : Sta) {T : Nat → Tck} {n : Nat} (hok : TcksOk T n) : ∀ k, k < (taL C B s T n).length → fat (taL C B s T n) k < 4294967296 := by
  unfold taL; split
  · next h =>
    obtain ⟨z1, z2, z3, z4, z5⟩ := tkC_zero h
    have hC := OkC.of wc z1
    have hB := OkB.of wb z2
    have hS := OkS.of z3
    intro k hk
    rw [lightsT_len] at hk
    rw [lightsT_at _ hk]
    exact (in_in hB (staK_ok hC B hS T k) (OkT.of (hok k hk) (okTs_at z4 hk))).word
  · intro k hk; simp at hk
theorem row_kept {w w2 : World} {b lo s n : Nat} {C : Array Value} {T U : TypeId} {v : Value} {l : List Value} (h : w.heap[b]? = some (.cells C U (0, 0))) (O : w.ownsRow lo T s v n l) (hg : w.grownBy w2 v.ownBlock) (hn : U ≠ T) : w2.heap[b]? = some (.cells C U (0, 0)) := (hg.block b (block_lt h) (own_ne h O hn)).trans h
theorem c_heldFloat32S2 (w : World) (v : Value) (n k0 : Nat) (h : Held w mF v n k0) (hk : k0 + n ≤ 200) (K : Int) (hK : K = (k0 : Int)) :
    Calls Try.prog 23 #[v, .int .i64 K] w fun e w' => e = .returned (.int .i64 (K + n)) ∧ Below w.heap.size w w' := by
  subst hK
  rcases h.at_ with ⟨rfl, rfl⟩ | ⟨g, cap, rfl, hlt, hc⟩
  · clear h
    go_enter Try.func23, Try.ntmps23
    go_wp2
    go_loopw [1, 5] (fun m i wr => m = .int .i64 k0 ∧ i = .int .i64 0 ∧ wr = w) (fun _ _ _ => 0)
    case atStart => exact ⟨rfl, rfl, rfl⟩
    case round =>
      obtain ⟨rfl, rfl, rfl⟩ := hrel
      go_wp2
      go_ret
      exact ⟨ret_int (by first | rfl | omega), Below.refl _ _⟩
  · have C := hid hc
    clear h hc
    go_enter Try.func23, Try.ntmps23
    go_wp2
    go_loopw [1, 5] (fun m i wr => ∃ k : Nat, k ≤ n ∧ m = .int .i64 ((k0 + k : Nat) : Int) ∧ i = .int .i64 k ∧ wr = w) (fun _ i _ => n - (intOf i).toNat)
    case atStart => exact ⟨0, by omega, rfl, rfl, rfl⟩
    case round =>
      obtain ⟨k, hk, rfl, rfl, rfl⟩ := hrel
      by_cases hlt : k < n
      · have h1 := C.out k hlt
        have h2 := mF_eq2 (m := k0 + k) (by omega)
        simp only [mF, Int.natCast_add] at h1 h2
        go_wp2
        refine ⟨⟨k + 1, by omega, by go_num, by go_num, by first | rfl | trivial⟩, by simp [intOf]; omega⟩
      · obtain rfl : k = n := by omega
        go_wp2
        go_ret
        exact ⟨ret_int (by first | rfl | omega), Below.refl _ _⟩
end Go.Proofs.Ytmjmgfojdomhlaa
