/- Walks over lists that count no sums: sameness by the reference, the number some steps away, the bits of the numbers above a bound. -/
import Derived.Test.YtpaoccnffmngfaaSumW
namespace Go.Proofs.Ytpaoccnffmngfaa
set_option maxRecDepth 20000
open Go.RowKit

theorem calls_below {P : Program} {f : FuncId} {args : Array Value} {w : World} {x : Ending} (h : Calls P f args w fun e w' => e = x ∧ w = w') : Calls P f args w fun e w' => e = x ∧ Below w.heap.size w w' :=
  h.mono fun _ _ ⟨h1, h2⟩ => ⟨h1, h2 ▸ Below.refl _ _⟩
theorem c_specSameList (a b : Option Addr) (n m ca cb : Nat) (xs ys : List Nat) (w : World) (hx : Flts w a n xs) (hy : Flts w b m ys) :
    Calls Try.prog 24 #[.slice a n ca, .slice b m cb] w fun e w' => e = .returned (.bool (sameL xs ys)) ∧ Below w.heap.size w w' := by
  have Hx := hid hx
  have Hy := hid hy
  have hn := hx.small
  have hm := hy.small
  clear hx hy
  by_cases he : n = m
  · subst he
    go_enter Try.func24, Try.ntmps24
    go_wp2
    go_loopw [5] (fun i wr => ∃ k : Nat, k ≤ n ∧ i = .int .i64 k ∧ (∀ j, j < k → sameN (fat xs j) (fat ys j) = true) ∧ Below w.heap.size w wr) (fun i _ => n - (intOf i).toNat)
    case atStart => exact ⟨0, by omega, rfl, by omega, Below.refl _ _⟩
    case round =>
      obtain ⟨k, hk, rfl, hall, hbel⟩ := hrel
      have Hall := hid hall
      have Hbel := hid hbel
      clear hall hbel
      by_cases hlt : k < n
      · obtain ⟨b1, o1, rfl, hc1⟩ := (Hx.out.below Hbel.out).at_ (by omega)
        obtain ⟨b2, o2, rfl, hc2⟩ := (Hy.out.below Hbel.out).at_ (by omega)
        have h1 := hc1 k hlt
        have h2 := hc2 k hlt
        clear hc1 hc2
        cases ht : sameN (fat xs k) (fat ys k)
        · go_wp2
          go_quiet ((go_at_call 46; exact quiet_left (c_l01Same _ _ _)))
          go_wp2
          go_ret
          exact ⟨ret_bool (sameL_no (j := k) (by rw [Hx.out.len]; exact hlt) ht).symm, below_drawn Hbel.out _⟩
        · go_wp2
          go_quiet ((go_at_call 46; exact quiet_left (c_l01Same _ _ _)))
          go_wp2
          refine ⟨⟨k + 1, by omega, by go_num, fun j hj => ?_, below_drawn Hbel.out _⟩, by simp [intOf]; omega⟩
          rcases Nat.lt_or_ge j k with h | h
          · exact Hall.out j h
          · obtain rfl : j = k := by omega
            exact ht
      · obtain rfl : k = n := by omega
        go_wp2
        go_ret
        exact ⟨ret_bool (sameL_yes (by rw [Hx.out.len, Hy.out.len]) (by rw [Hx.out.len]; exact Hall.out)).symm, Hbel.out⟩
  · have hne : ((n : Int) != (m : Int)) = true := by rw [bne_iff_ne]; omega
    go_enter Try.func24, Try.ntmps24
    go_wp2
    go_ret
    exact ⟨ret_bool (sameL_len (by rw [Hx.out.len, Hy.out.len]; exact he)).symm, Below.refl _ _⟩
theorem frombits_run (x : Nat) (w : World) : (callFunc 81 #[.int .u32 (x : Int)]).run Try.prog w = .ok (.value (.float .f32 x)) w := by
  kernel_rfl
theorem frombits_high (m : Nat) (w : World) : (callFunc 81 #[.int .u32 (2147483648 + (m : Int))]).run Try.prog w = .ok (.value (.float .f32 (2147483648 + m))) w := by
  have h := frombits_run (2147483648 + m) w
  rwa [show ((2147483648 + m : Nat) : Int) = 2147483648 + (m : Int) by omega] at h
/-- The word with a place among all words. -/
def atN (p : Int) : Nat := if p < 0 then 2147483648 + (-p).toNat else p.toNat
theorem atN_neg {m : Nat} (h : 0 < m) : atN (-(m : Int)) = 2147483648 + m := by unfold atN; rw [if_pos (by omega)]; omega
theorem atN_pos (m : Nat) : atN (m : Int) = m := by unfold atN; rw [if_neg (by omega)]; omega
theorem atN_lt {p : Int} (h : -2147483648 < p) (h' : p < 2147483648) : atN p < 4294967296 := by unfold atN; split <;> omega
theorem plain_step {x : Nat} (hx : x < 4294967296) (h : isPlain x = true) : -1233125376 ≤ stepOf x ∧ stepOf x ≤ 1233125376 := by
  have A := plain_abs hx h
  have h1 := A.le; have h2 := A.ge
  have m := magOf_le_iff (a := x % 2147483648) (b := PW)
  have e : x % 2147483648 ≤ PW := by
    apply m.1
    rcases fx_abs (x := x) with e | e <;> rw [e] at h1 h2 <;> omega
  unfold PW at e
  unfold stepOf
  split <;> omega
def sfC (x : Nat) (s : Int) : Int := if isPlain x then (if inB s (-1000000) 1000000 then (if isPlain (atN (stepOf x + s)) then 0 else 3) else 2) else 1
def sfN (x : Nat) (s : Int) : Nat := if sfC x s = 0 then atN (stepOf x + s) else 0
theorem sfN_fin {x : Nat} {s : Int} (hx : x < 4294967296) : isFin (sfN x s) = true := by
  unfold sfN
  split
  · next h =>
    unfold sfC at h
    split at h
    · next h1 =>
      split at h
      · next h2 =>
        split at h
        · next h3 =>
          have b := plain_step hx h1
          simp only [inB, Bool.and_eq_true, decide_eq_true_eq] at h2
          exact (plain_abs (atN_lt (by omega) (by omega)) h3).fin
        · omega
      · omega
    · omega
  · decide
/-- The bits of the first k numbers that are greater. -/
def packK (xs : List Nat) (b : Nat) : Nat → Int
  | 0 => 0
  | k + 1 => if fGt (fat xs k) b then bits .or .u64 (packK xs b k) (IntKind.u64.wrap (2 ^ k)) else packK xs b k
def paC (xs : List Nat) (b : Nat) : Int := if validL xs then (if isNum b then 0 else 2) else 1
def paN (xs : List Nat) (b : Nat) : Int := if validL xs && isNum b then packK xs b xs.length else 0
end Go.Proofs.Ytpaoccnffmngfaa
