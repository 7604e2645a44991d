/- Walks over lists that count no sums: sameness by the reference, the number some steps away, the bits of the numbers above a bound. -/
import Derived.Test.YtmipfbafbkdncaaSumW
namespace Go.Proofs.Ytmipfbafbkdncaa
open Go.RowKit

theorem calls_below {P : Program} {f : FuncId} {args : Array Value} {w : World} {x : Ending} (h : Calls P f args w fun e w' => e = x ∧ w = w') : Calls P f args w fun e w' => e = x ∧ Below w.heap.size w w' :=
  h.mono fun _ _ ⟨h1, h2⟩ => ⟨h1, h2 ▸ Below.refl _ _⟩
theorem c_specSameList (a b : Option Addr) (n m ca cb : Nat) (xs ys : List Nat) (w : World) (hx : Flts w a n xs) (hy : Flts w b m ys) :
    Calls Try.prog 15 #[.slice a n ca, .slice b m cb] w fun e w' => e = .returned (.bool (sameL xs ys)) ∧ Below w.heap.size w w' := by
  have Hx := hid hx
  have Hy := hid hy
  have hn := hx.small
  have hm := hy.small
  clear hx hy
  by_cases he : n = m
  · subst he
    go_enter Try.func15, Try.ntmps15
    go_wp2
    go_loopw [5] (fun i wr => ∃ k : Nat, k ≤ n ∧ i = .int .i64 k ∧ (∀ j, j < k → sameN (fat xs j) (fat ys j) = true) ∧ Below w.heap.size w wr) (fun i _ => n - (intOf i).toNat)
    case atStart => exact ⟨0, by omega, rfl, by omega, Below.refl _ _⟩
    case round =>
      obtain ⟨k, hk, rfl, hall, hbel⟩ := hrel
      have Hall := hid hall
      have Hbel := hid hbel
      clear hall hbel
      by_cases hlt : k < n
      · obtain ⟨b1, o1, rfl, hc1⟩ := (Hx.out.below Hbel.out).at_ (by omega)
        obtain ⟨b2, o2, rfl, hc2⟩ := (Hy.out.below Hbel.out).at_ (by omega)
        have h1 := hc1 k hlt
        have h2 := hc2 k hlt
        clear hc1 hc2
        cases ht : sameN (fat xs k) (fat ys k)
        · go_wp2
          go_quiet ((go_at_call 46; exact quiet_left (c_l01Same _ _ _)))
          go_wp2
          go_ret
          exact ⟨ret_bool (sameL_no (j := k) (by rw [Hx.out.len]; exact hlt) ht).symm, below_drawn Hbel.out _⟩
        · go_wp2
          go_quiet ((go_at_call 46; exact quiet_left (c_l01Same _ _ _)))
          go_wp2
          refine ⟨⟨k + 1, by omega, by go_num, fun j hj => ?_, below_drawn Hbel.out _⟩, by simp [intOf]; omega⟩
          rcases Nat.lt_or_ge j k with h | h
          · exact Hall.out j h
          · obtain rfl : j = k := by omega
            exact ht
      · obtain rfl : k = n := by omega
        go_wp2
        go_ret
        exact ⟨ret_bool (sameL_yes (by rw [Hx.out.len, Hy.out.len]) (by rw [Hx.out.len]; exact Hall.out)).symm, Hbel.out⟩
  · have hne : ((n : Int) != (m : Int)) = true := by rw [bne_iff_ne]; omega
    go_enter Try.func15, Try.ntmps15
    go_wp2
    go_ret
    exact ⟨ret_bool (sameL_len (by rw [Hx.out.len, Hy.out.len]; exact he)).symm, Below.refl _ _⟩
theorem frombits_run (x : Nat) (w : World) : (callFunc 76 #[.int .u32 (x : Int)]).run Try.prog w = .ok (.value (.float .f32 x)) w := by
  kernel_rfl
theorem frombits_high (m : Nat) (w : World) : (callFunc 76 #[.int .u32 (2147483648 + (m : Int))]).run Try.prog w = .ok (.value (.float .f32 (2147483648 + m))) w := by
  have h := frombits_run (2147483648 + m) w
  rwa [show ((2147483648 + m : Nat) : Int) = 2147483648 + (m : Int) by omega] at h
/-- The word with a place among all words. -/
def atN (p : Int) : Nat := if p < 0 then 2147483648 + (-p).toNat else p.toNat
theorem atN_neg {m : Nat} (h : 0 < m) : atN (-(m : Int)) = 2147483648 + m := by unfold atN; rw [if_pos (by omega)]; omega
theorem atN_pos (m : Nat) : atN (m : Int) = m := by unfold atN; rw [if_neg (by omega)]; omega
theorem atN_lt {p : Int} (h : -2147483648 < p) (h' : p < 2147483648) : atN p < 4294967296 := by unfold atN; split <;> omega
theorem c_l06At (p : Int) (h : -2147483648 < p) (h' : p < 2147483648) (w : World) :
    Calls Try.prog 51 #[.int .i64 p] w fun e w' => e = .returned (.float .f32 (atN p)) ∧ w = w' := by
  by_cases hp : p < 0
  · obtain ⟨m, rfl⟩ : ∃ m : Nat, p = -(m : Int) := ⟨(-p).toNat, by omega⟩
    have hb := frombits_high m
    have hm : 0 < m ∧ m < 2147483648 := by omega
    rw [atN_neg hm.1]
    go_enter Try.func51, Try.ntmps51
    go_wp2
    go_ret
    exact ⟨rfl, rfl⟩
  · obtain ⟨m, rfl⟩ : ∃ m : Nat, p = (m : Int) := ⟨p.toNat, by omega⟩
    have hb := frombits_run m
    rw [atN_pos]
    go_enter Try.func51, Try.ntmps51
    go_wp2
    go_ret
    exact ⟨rfl, rfl⟩
theorem xor_top {m : Nat} (h : m < 2147483648) : m ^^^ 2 ^ 31 = 2147483648 + m := by
  have h' : m < 2 ^ 31 := h
  have e : 2147483648 + m = 2 ^ 31 ||| m := Nat.two_pow_add_eq_or_of_lt h' 1 |> fun e => by simpa using e
  rw [e]
  apply Nat.eq_of_testBit_eq
  intro i
  rw [Nat.testBit_xor, Nat.testBit_or, Nat.testBit_two_pow]
  by_cases hi : 31 = i
  · subst hi
    rw [Nat.testBit_lt_two_pow h']; simp
  · simp [hi]
theorem run_negF {m : Nat} (h : m < 2147483648) (w : World) : (Op.unary .neg (.float .f32 m)).run Try.prog w = .ok (.float .f32 (2147483648 + m)) w := by
  rw [← xor_top h]; rfl
theorem c_atStep (p : Int) (h : -2147483648 < p) (h' : p < 2147483648) (w : World) :
    Calls Try.prog 55 #[.int .i64 p] w fun e w' => e = .returned (.float .f32 (atN p)) ∧ w = w' := by
  by_cases hp : p < 0
  · obtain ⟨m, rfl⟩ : ∃ m : Nat, p = -(m : Int) := ⟨(-p).toNat, by omega⟩
    have hb := frombits_run m
    have hm : 0 < m ∧ m < 2147483648 := by omega
    rw [atN_neg hm.1]
    have hn := run_negF hm.2
    go_enter Try.func55, Try.ntmps55
    go_wp2
    go_ret
    exact ⟨rfl, rfl⟩
  · obtain ⟨m, rfl⟩ : ∃ m : Nat, p = (m : Int) := ⟨p.toNat, by omega⟩
    have hb := frombits_run m
    rw [atN_pos]
    go_enter Try.func55, Try.ntmps55
    go_wp2
    go_ret
    exact ⟨rfl, rfl⟩
theorem plain_step {x : Nat} (hx : x < 4294967296) (h : isPlain x = true) : -1233125376 ≤ stepOf x ∧ stepOf x ≤ 1233125376 := by
  have A := plain_abs hx h
  have h1 := A.le; have h2 := A.ge
  have m := magOf_le_iff (a := x % 2147483648) (b := PW)
  have e : x % 2147483648 ≤ PW := by
    apply m.1
    rcases fx_abs (x := x) with e | e <;> rw [e] at h1 h2 <;> omega
  unfold PW at e
  unfold stepOf
  split <;> omega
def sfC (x : Nat) (s : Int) : Int := if isPlain x then (if inB s (-1000000) 1000000 then (if isPlain (atN (stepOf x + s)) then 0 else 3) else 2) else 1
def sfN (x : Nat) (s : Int) : Nat := if sfC x s = 0 then atN (stepOf x + s) else 0
theorem sfN_fin {x : Nat} {s : Int} (hx : x < 4294967296) : isFin (sfN x s) = true := by
  unfold sfN
  split
  · next h =>
    unfold sfC at h
    split at h
    · next h1 =>
      split at h
      · next h2 =>
        split at h
        · next h3 =>
          have b := plain_step hx h1
          simp only [inB, Bool.and_eq_true, decide_eq_true_eq] at h2
          exact (plain_abs (atN_lt (by omega) (by omega)) h3).fin
        · omega
      · omega
    · omega
  · decide
theorem c_specStepFrom (x : Nat) (s : Int) (hx : x < 4294967296) (w : World) :
    Calls Try.prog 19 #[.float .f32 x, .int .i64 s] w fun e w' => e = .returned (.tuple #[.float .f32 (sfN x s), .int .i64 (sfC x s)]) ∧ w = w' := by
  cases h1 : isPlain x
  case false =>
    clear hx
    go_enter Try.func19, Try.ntmps19
    go_wp2_with (go_at_call 49; refine (c_l01Plain _ _).mono ?_; rintro e w' ⟨rfl, rfl⟩)
    go_ret2
    exact ⟨by simp [sfN, sfC, h1], rfl⟩
  case true =>
    obtain ⟨b1, b2⟩ := plain_step hx h1
    have Hx := hid hx
    clear hx
    cases h2 : inB s (-1000000) 1000000
    case false =>
      go_enter Try.func19, Try.ntmps19
      go_wp2_with (first | (go_at_call 49; refine (c_l01Plain _ _).mono ?_; rintro e w' ⟨rfl, rfl⟩) | (go_at_call 50; refine (c_l00In _ _ _ _).mono ?_; rintro e w' ⟨rfl, rfl⟩))
      go_ret2
      exact ⟨by simp [sfN, sfC, h1, h2], rfl⟩
    case true =>
      have h2' := h2
      simp only [inB, Bool.and_eq_true, decide_eq_true_eq] at h2'
      cases h3 : isPlain (atN (stepOf x + s))
      all_goals
        go_enter Try.func19, Try.ntmps19
        go_wp2_with (first | (go_at_call 49; refine (c_l01Plain _ _).mono ?_; rintro e w' ⟨rfl, rfl⟩) | (go_at_call 50; refine (c_l00In _ _ _ _).mono ?_; rintro e w' ⟨rfl, rfl⟩) | (go_at_call 52; refine (c_l06Place _ Hx.out _).mono ?_; rintro e w' ⟨rfl, rfl⟩) | (go_at_call 51; refine (c_l06At _ (by omega) (by omega) _).mono ?_; rintro e w' ⟨rfl, rfl⟩))
        go_ret2
        exact ⟨by simp [sfN, sfC, h1, h2, h3], rfl⟩
theorem c_implStepFrom (x : Nat) (s : Int) (hx : x < 4294967296) (w : World) :
    Calls Try.prog 20 #[.float .f32 x, .int .i64 s] w fun e w' => e = .returned (.tuple #[.float .f32 (sfN x s), .int .i64 (sfC x s)]) ∧ w = w' := by
  cases h1 : isPlain x
  case false =>
    clear hx
    go_enter Try.func20, Try.ntmps20
    go_wp2_with (go_at_call 53; refine (c_IsPlain _ _).mono ?_; rintro e w' ⟨rfl, rfl⟩)
    go_ret2
    exact ⟨by simp [sfN, sfC, h1], rfl⟩
  case true =>
    obtain ⟨b1, b2⟩ := plain_step hx h1
    have Hx := hid hx
    clear hx
    cases h2 : inB s (-1000000) 1000000
    case false =>
      go_enter Try.func20, Try.ntmps20
      go_wp2_with (first | (go_at_call 53; refine (c_IsPlain _ _).mono ?_; rintro e w' ⟨rfl, rfl⟩) | (go_at_call 54; refine (c_within _ _ _ _).mono ?_; rintro e w' ⟨rfl, rfl⟩))
      go_ret2
      exact ⟨by simp [sfN, sfC, h1, h2], rfl⟩
    case true =>
      have h2' := h2
      simp only [inB, Bool.and_eq_true, decide_eq_true_eq] at h2'
      cases h3 : isPlain (atN (stepOf x + s))
      all_goals
        go_enter Try.func20, Try.ntmps20
        go_wp2_with (first | (go_at_call 53; refine (c_IsPlain _ _).mono ?_; rintro e w' ⟨rfl, rfl⟩) | (go_at_call 54; refine (c_within _ _ _ _).mono ?_; rintro e w' ⟨rfl, rfl⟩) | (go_at_call 56; refine (c_step _ Hx.out _).mono ?_; rintro e w' ⟨rfl, rfl⟩) | (go_at_call 55; refine (c_atStep _ (by omega) (by omega) _).mono ?_; rintro e w' ⟨rfl, rfl⟩))
        go_ret2
        exact ⟨by simp [sfN, sfC, h1, h2, h3], rfl⟩
theorem c_l03NotNan (x : Nat) (w : World) :
    Calls Try.prog 59 #[.float .f32 x] w fun e w' => e = .returned (.bool (isNum x)) ∧ w = w' := by
  go_enter Try.func59, Try.ntmps59
  go_wp2
  go_ret
  exact ⟨ret_bool (by simp_all [isNum, fEq]), rfl⟩
/-- The bits of the first k numbers that are greater. -/
def packK (xs : List Nat) (b : Nat) : Nat → Int
  | 0 => 0
  | k + 1 => if fGt (fat xs k) b then bits .or .u64 (packK xs b k) (IntKind.u64.wrap (2 ^ k)) else packK xs b k
def paC (xs : List Nat) (b : Nat) : Int := if validL xs then (if isNum b then 0 else 2) else 1
def paN (xs : List Nat) (b : Nat) : Int := if validL xs && isNum b then packK xs b xs.length else 0
theorem c_specPackAbove (a : Option Addr) (n ca : Nat) (xs : List Nat) (b : Nat) (w : World) (hx : Flts w a n xs) :
    Calls Try.prog 24 #[.slice a n ca, .float .f32 b] w fun e w' => e = .returned (.tuple #[.int .u64 (paN xs b), .int .i64 (paC xs b)]) ∧ w = w' := by
  have X := hid hx
  have hs := hx.small
  clear hx
  cases hv : validL xs
  case false =>
    go_enter Try.func24, Try.ntmps24
    go_wp2_with (go_at_call 57; refine (c_l06Ok _ _ _ _ _ X.out).mono ?_; rintro e w' ⟨rfl, rfl⟩)
    go_ret2
    exact ⟨by simp [paN, paC, hv], rfl⟩
  case true =>
    cases hb : isNum b
    case false =>
      go_enter Try.func24, Try.ntmps24
      go_wp2_with (first | (go_at_call 57; refine (c_l06Ok _ _ _ _ _ X.out).mono ?_; rintro e w' ⟨rfl, rfl⟩) | (go_at_call 59; refine (c_l03NotNan _ _).mono ?_; rintro e w' ⟨rfl, rfl⟩))
      go_ret2
      exact ⟨by simp [paN, paC, hv, hb], rfl⟩
    case true =>
      have V := hid (VL.of X.out hv)
      have hn := V.out.le
      go_enter Try.func24, Try.ntmps24
      go_wp2_with (first | (go_at_call 57; refine (c_l06Ok _ _ _ _ _ X.out).mono ?_; rintro e w' ⟨rfl, rfl⟩) | (go_at_call 59; refine (c_l03NotNan _ _).mono ?_; rintro e w' ⟨rfl, rfl⟩))
      go_loop [6, 7] (fun s i => ∃ k : Nat, k ≤ n ∧ i = .int .i64 k ∧ s = .int .u64 (packK xs b k)) (fun _ i => n - (intOf i).toNat)
      case atStart => exact ⟨0, by omega, rfl, rfl⟩
      case round =>
        obtain ⟨k, hk, rfl, rfl⟩ := hrel
        by_cases hlt : k < n
        · obtain ⟨b1, o1, rfl, hc1⟩ := V.out.fl.at_ (by omega)
          have h1 := hc1 k hlt
          clear hc1
          cases hg : fGt (fat xs k) b
          · have hg' := hg
            simp only [fGt] at hg'
            go_wp2
            refine ⟨⟨k + 1, by omega, by go_num, by simp [packK, hg]⟩, by simp [intOf]; omega⟩
          · have hg' := hg
            simp only [fGt] at hg'
            go_wp2
            refine ⟨⟨k + 1, by omega, by go_num, by simp [packK, hg]⟩, by simp [intOf]; omega⟩
        · obtain rfl : k = n := by omega
          go_wp2
          go_ret2
          exact ⟨by simp [paN, paC, hv, hb, V.out.len], rfl⟩
theorem c_implPackAbove (a : Option Addr) (n ca : Nat) (xs : List Nat) (b : Nat) (w : World) (hx : Flts w a n xs) :
    Calls Try.prog 25 #[.slice a n ca, .float .f32 b] w fun e w' => e = .returned (.tuple #[.int .u64 (paN xs b), .int .i64 (paC xs b)]) ∧ w = w' := by
  have X := hid hx
  have hs := hx.small
  clear hx
  cases hv : validL xs
  case false =>
    go_enter Try.func25, Try.ntmps25
    go_wp2_with (go_at_call 58; refine (c_implValidList _ _ _ _ _ X.out).mono ?_; rintro e w' ⟨rfl, rfl⟩)
    go_ret2
    exact ⟨by simp [paN, paC, hv], rfl⟩
  case true =>
    cases hb : isNum b
    case false =>
      have hb2 : (FloatKind.f32.format.order b b != some .eq) = true := by simpa [isNum, fEq] using hb
      go_enter Try.func25, Try.ntmps25
      go_wp2_with (first | (go_at_call 58; refine (c_implValidList _ _ _ _ _ X.out).mono ?_; rintro e w' ⟨rfl, rfl⟩))
      go_ret2
      exact ⟨by simp [paN, paC, hv, hb], rfl⟩
    case true =>
      have V := hid (VL.of X.out hv)
      have hn := V.out.le
      have hb2 : (FloatKind.f32.format.order b b != some .eq) = false := by simpa [isNum, fEq] using hb
      go_enter Try.func25, Try.ntmps25
      go_wp2_with (first | (go_at_call 58; refine (c_implValidList _ _ _ _ _ X.out).mono ?_; rintro e w' ⟨rfl, rfl⟩))
      go_loop [6, 19] (fun s i => ∃ k : Nat, k ≤ n ∧ i = .int .i64 k ∧ s = .int .u64 (packK xs b k)) (fun _ i => n - (intOf i).toNat)
      case atStart => exact ⟨0, by omega, rfl, rfl⟩
      case round =>
        obtain ⟨k, hk, rfl, rfl⟩ := hrel
        by_cases hlt : k < n
        · obtain ⟨b1, o1, rfl, hc1⟩ := V.out.fl.at_ (by omega)
          have h1 := hc1 k hlt
          clear hc1
          cases hg : fGt (fat xs k) b
          · have hg' := hg
            simp only [fGt] at hg'
            go_wp2
            refine ⟨⟨k + 1, by omega, by go_num, by simp [packK, hg]⟩, by simp [intOf]; omega⟩
          · have hg' := hg
            simp only [fGt] at hg'
            go_wp2
            refine ⟨⟨k + 1, by omega, by go_num, by simp [packK, hg]⟩, by simp [intOf]; omega⟩
        · obtain rfl : k = n := by omega
          go_wp2
          go_ret2
          exact ⟨by simp [paN, paC, hv, hb, V.out.len], rfl⟩
end Go.Proofs.Ytmipfbafbkdncaa
