/- Walks of the spread and the median of a list. -/
import Derived.Test.YtmhhgnalcapccaaSortW
namespace Go.Proofs.Ytmhhgnalcapccaa
set_option maxRecDepth 20000
open Go.RowKit

theorem OwnL.some {w : World} {lo n : Nat} {v : Value} {l : List Nat} (h : OwnL w lo v l) (hl : l.length = n) (hn : 1 ≤ n) : ∃ g cap, v = .slice (some ⟨g, 0, none⟩) n cap ∧ Row w lo g n cap l := by
  rcases h with ⟨_, rfl⟩ | ⟨g, q, cap, rfl, hR⟩
  · simp at hl; omega
  · have : q = n := by rw [← hl]; exact hR.len.symm
    subst this; exact ⟨g, cap, rfl, hR⟩
theorem c_specSpreadOf (ad : Addr) (n ca : Nat) (xs : List Nat) (w : World) (hx : Flts w (some ad) n xs) :
    Calls Try.prog 22 #[.slice (some ad) n ca] w fun e w' => e = .returned (.tuple #[.float .f32 (someN spreadOf xs), .int .i64 (codeL xs 1)]) ∧ Below w.heap.size w w' := by
  by_cases hc : codeL xs 1 = 0
  · obtain ⟨hv, hp⟩ := code_one hx.len hc
    have V := hid (VL.of hx hv)
    have X := hid hx
    have C := hid hc
    have S : Hid (someN spreadOf xs = spreadOf xs) := hid (by rw [someN, if_pos hc])
    clear hx hc hv
    have hn := V.out.le
    have hd := run_sub (T := 31) (V.out.sk (k := n - 1) (by omega)).fin (V.out.sk (k := 0) (by omega)).fin
    have SP : Hid (spreadOf xs = fsub (fat (sortK xs) (n - 1)) (fat (sortK xs) 0)) := hid (by unfold spreadOf; rw [V.out.len])
    have HD := hid hd
    clear hd
    go_enter Try.func22, Try.ntmps22
    go_wp2_with fail
    refine (c_l06Code _ n ca xs 1 (by omega) _ X.out).mono ?_
    rintro e w' ⟨rfl, rfl⟩
    rw [C.out]
    go_wp2_with fail
    refine (c_l06Sorted ad n ca xs _ V.out).mono ?_
    rintro e w1 ⟨⟨g, cap, rfl, hr⟩, hb⟩
    have R := hid hr
    have B := hid hb
    obtain ⟨q, rfl⟩ : ∃ q, n = q + 1 := ⟨n - 1, by omega⟩
    have h1 := hr.cell (k := q) (by omega)
    have h2 := hr.cell (k := 0) (by omega)
    clear hr hb
    rw [Nat.add_sub_cancel] at HD SP
    have hd := HD.out
    have w1 : IntKind.i64.wrap ((q : Int) + 1 - 1) = (q : Int) := by rw [IntWalk.i64_in _ (by omega)]; omega
    have w2 : (q : Int) + 1 - 1 = (q : Int) := by omega
    go_wp2_with fail
    go_quiet (fail)
    clear w1 w2
    go_wp2_with fail
    go_ret2
    exact ⟨by rw [S.out, C.out, SP.out]; rfl, below_drawn B.out _⟩
  · have hne : (codeL xs 1 != 0) = true := by simpa using hc
    have X := hid hx
    have S : Hid (someN spreadOf xs = 0) := hid (by rw [someN, if_neg hc])
    clear hx hc
    go_enter Try.func22, Try.ntmps22
    go_wp2_with fail
    refine (c_l06Code _ n ca xs 1 (by omega) _ X.out).mono ?_
    rintro e w' ⟨rfl, rfl⟩
    go_wp2_with fail
    go_ret2
    exact ⟨by rw [S.out]; rfl, Below.refl _ _⟩
theorem c_implSpreadOf (a : Option Addr) (n ca : Nat) (xs : List Nat) (w : World) (hx : Flts w a n xs) :
    Calls Try.prog 23 #[.slice a n ca] w fun e w' => e = .returned (.tuple #[.float .f32 (someN spreadOf xs), .int .i64 (codeL xs 1)]) ∧ Below w.heap.size w w' := by
  by_cases hc : codeL xs 1 = 0
  · obtain ⟨hv, hp⟩ := code_one hx.len hc
    have V := hid (VL.of hx hv)
    have X := hid hx
    have C := hid hc
    have S : Hid (someN spreadOf xs = spreadOf xs) := hid (by rw [someN, if_pos hc])
    clear hx hc hv
    have hn := V.out.le
    have hd := run_sub (T := 31) (V.out.sk (k := n - 1) (by omega)).fin (V.out.sk (k := 0) (by omega)).fin
    have SP : Hid (spreadOf xs = fsub (fat (sortK xs) (n - 1)) (fat (sortK xs) 0)) := hid (by unfold spreadOf; rw [V.out.len])
    have HD := hid hd
    clear hd
    go_enter Try.func23, Try.ntmps23
    go_wp2_with fail
    refine (c_someCode a n ca xs _ X.out).mono ?_
    rintro e w' ⟨rfl, rfl⟩
    rw [C.out]
    go_wp2_with fail
    refine (c_ordered a n ca xs _ V.out).mono ?_
    rintro e w1 ⟨⟨v, rfl, ho⟩, hb⟩
    obtain ⟨g, cap, rfl, hr⟩ := ho.some (by rw [sortK_len]; exact V.out.len) hp
    clear ho
    have R := hid hr
    have B := hid hb
    obtain ⟨q, rfl⟩ : ∃ q, n = q + 1 := ⟨n - 1, by omega⟩
    have h1 := hr.cell (k := q) (by omega)
    have h2 := hr.cell (k := 0) (by omega)
    clear hr hb
    rw [Nat.add_sub_cancel] at HD SP
    have hd := HD.out
    have w1 : IntKind.i64.wrap ((q : Int) + 1 - 1) = (q : Int) := by rw [IntWalk.i64_in _ (by omega)]; omega
    have w2 : (q : Int) + 1 - 1 = (q : Int) := by omega
    go_wp2_with fail
    go_quiet (fail)
    clear w1 w2
    go_wp2_with fail
    go_ret2
    exact ⟨by rw [S.out, C.out, SP.out]; rfl, below_drawn B.out _⟩
  · have hne : (codeL xs 1 != 0) = true := by simpa using hc
    have X := hid hx
    have S : Hid (someN spreadOf xs = 0) := hid (by rw [someN, if_neg hc])
    clear hx hc
    go_enter Try.func23, Try.ntmps23
    go_wp2_with fail
    refine (c_someCode a n ca xs _ X.out).mono ?_
    rintro e w' ⟨rfl, rfl⟩
    go_wp2_with fail
    go_ret2
    exact ⟨by rw [S.out]; rfl, Below.refl _ _⟩
theorem c_specMedianOf (ad : Addr) (n ca : Nat) (xs : List Nat) (w : World) (hx : Flts w (some ad) n xs) :
    Calls Try.prog 25 #[.slice (some ad) n ca] w fun e w' => e = .returned (.tuple #[.float .f32 (someN medianOf xs), .int .i64 (codeL xs 1)]) ∧ Below w.heap.size w w' := by
  by_cases hc : codeL xs 1 = 0
  · obtain ⟨hv, hp⟩ := code_one hx.len hc
    have V := hid (VL.of hx hv)
    have X := hid hx
    have C := hid hc
    have S : Hid (someN medianOf xs = medianOf xs) := hid (by rw [someN, if_pos hc])
    clear hx hc hv
    have hn := V.out.le
    by_cases hodd : n % 2 = 1
    · have SP : Hid (medianOf xs = fat (sortK xs) (n / 2)) := hid (by unfold medianOf; rw [V.out.len, if_pos hodd])
      have e1 : ((n : Int) % 2 == 1) = true := by simp; omega
      go_enter Try.func25, Try.ntmps25
      go_wp2_with fail
      refine (c_l06Code _ n ca xs 1 (by omega) _ X.out).mono ?_
      rintro e w' ⟨rfl, rfl⟩
      rw [C.out]
      go_wp2_with fail
      refine (c_l06Sorted ad n ca xs _ V.out).mono ?_
      rintro e w1 ⟨⟨g, cap, rfl, hr⟩, hb⟩
      have R := hid hr
      have B := hid hb
      obtain ⟨k, hk⟩ : ∃ k, k = n / 2 := ⟨_, rfl⟩
      have h1 := hr.cell (k := k) (by omega)
      have ek : (n : Int) / 2 = (k : Int) := by omega
      have EK := hid ek
      have SP2 : Hid (medianOf xs = fat (sortK xs) k) := hid (by rw [SP.out, hk])
      have kb : k < n := by omega
      have w5 : (k : Int) < (n : Int) := by omega
      clear hr hb hk
      go_wp2_with fail
      go_ret2
      exact ⟨by rw [S.out, C.out, SP2.out]; rfl, B.out⟩
    · have SP : Hid (medianOf xs = fdiv (midOf xs) W2) := hid (by unfold medianOf; rw [V.out.len, if_neg hodd])
      have e1 : ((n : Int) % 2 == 1) = false := by simp; omega
      have HA := hid (run_add (T := 31) (V.out.sk (k := n / 2 - 1) (by omega)).fin (V.out.sk (k := n / 2) (by omega)).fin)
      have HQ : Hid (∀ wx : World, (binOp .quo 31 (.float .f32 (midOf xs)) (.float .f32 1073741824)).run Try.prog wx = .ok (.float .f32 (fdiv (midOf xs) W2)) wx) := hid (run_div (T := 31) (mid_abs V.out hp).fin (show isFin W2 = true by decide) fx_W2_le)
      have MI : Hid (midOf xs = fadd (fat (sortK xs) (n / 2 - 1)) (fat (sortK xs) (n / 2))) := hid (by unfold midOf; rw [V.out.len])
      go_enter Try.func25, Try.ntmps25
      go_wp2_with fail
      refine (c_l06Code _ n ca xs 1 (by omega) _ X.out).mono ?_
      rintro e w' ⟨rfl, rfl⟩
      rw [C.out]
      go_wp2_with fail
      refine (c_l06Sorted ad n ca xs _ V.out).mono ?_
      rintro e w1 ⟨⟨g, cap, rfl, hr⟩, hb⟩
      have R := hid hr
      have B := hid hb
      obtain ⟨k, hk⟩ : ∃ k, k + 1 = n / 2 := ⟨n / 2 - 1, by omega⟩
      have h1 := hr.cell (k := k) (by omega)
      have h2 := hr.cell (k := k + 1) (by omega)
      have ek : (n : Int) / 2 = (k : Int) + 1 := by omega
      have ek2 : (n : Int).tdiv 2 = (k : Int) + 1 := by rw [Int.tdiv_eq_ediv_of_nonneg (by omega)]; omega
      have kb : k + 1 < n := by omega
      rw [← hk, Nat.add_sub_cancel] at HA MI
      rw [MI.out] at HQ
      have hd := HA.out
      have hq := HQ.out
      have SP2 : Hid (medianOf xs = fdiv (fadd (fat (sortK xs) k) (fat (sortK xs) (k + 1))) W2) := hid (by rw [SP.out, MI.out])
      have w1 : IntKind.i64.wrap ((k : Int) + 1 - 1) = (k : Int) := by rw [IntWalk.i64_in _ (by omega)]; omega
      have w2 : (k : Int) + 1 - 1 = (k : Int) := by omega
      have w3 : ((k : Int) + 1).toNat = k + 1 := by omega
      have w4 : (0 : Int) ≤ (k : Int) + 1 := by omega
      have w5 : (k : Int) + 1 < (n : Int) := by omega
      have w6 : IntKind.i64.wrap ((k : Int) + 1) = (k : Int) + 1 := IntWalk.i64_in _ (by omega)
      clear hr hb hk
      go_wp2_with fail
      go_quiet (fail)
      clear w1 w2 w3 w6 ek ek2
      go_wp2_with fail
      go_ret2
      exact ⟨by rw [S.out, C.out, SP2.out]; rfl, below_drawn B.out _⟩
  · have hne : (codeL xs 1 != 0) = true := by simpa using hc
    have X := hid hx
    have S : Hid (someN medianOf xs = 0) := hid (by rw [someN, if_neg hc])
    clear hx hc
    go_enter Try.func25, Try.ntmps25
    go_wp2_with fail
    refine (c_l06Code _ n ca xs 1 (by omega) _ X.out).mono ?_
    rintro e w' ⟨rfl, rfl⟩
    go_wp2_with fail
    go_ret2
    exact ⟨by rw [S.out]; rfl, Below.refl _ _⟩
theorem c_implMedianOf (a : Option Addr) (n ca : Nat) (xs : List Nat) (w : World) (hx : Flts w a n xs) :
    Calls Try.prog 26 #[.slice a n ca] w fun e w' => e = .returned (.tuple #[.float .f32 (someN medianOf xs), .int .i64 (codeL xs 1)]) ∧ Below w.heap.size w w' := by
  by_cases hc : codeL xs 1 = 0
  · obtain ⟨hv, hp⟩ := code_one hx.len hc
    have V := hid (VL.of hx hv)
    have X := hid hx
    have C := hid hc
    have S : Hid (someN medianOf xs = medianOf xs) := hid (by rw [someN, if_pos hc])
    clear hx hc hv
    have hn := V.out.le
    by_cases hodd : n % 2 = 1
    · have SP : Hid (medianOf xs = fat (sortK xs) (n / 2)) := hid (by unfold medianOf; rw [V.out.len, if_pos hodd])
      have e1 : ((n : Int) % 2 == 1) = true := by simp; omega
      go_enter Try.func26, Try.ntmps26
      go_wp2_with fail
      refine (c_someCode a n ca xs _ X.out).mono ?_
      rintro e w' ⟨rfl, rfl⟩
      rw [C.out]
      go_wp2_with fail
      refine (c_ordered a n ca xs _ V.out).mono ?_
      rintro e w1 ⟨⟨v, rfl, ho⟩, hb⟩
      obtain ⟨g, cap, rfl, hr⟩ := ho.some (by rw [sortK_len]; exact V.out.len) hp
      clear ho
      have R := hid hr
      have B := hid hb
      obtain ⟨k, hk⟩ : ∃ k, k = n / 2 := ⟨_, rfl⟩
      have h1 := hr.cell (k := k) (by omega)
      have ek : (n : Int) / 2 = (k : Int) := by omega
      have EK := hid ek
      have SP2 : Hid (medianOf xs = fat (sortK xs) k) := hid (by rw [SP.out, hk])
      have kb : k < n := by omega
      have w5 : (k : Int) < (n : Int) := by omega
      clear hr hb hk
      go_wp2_with fail
      go_ret2
      exact ⟨by rw [S.out, C.out, SP2.out]; rfl, B.out⟩
    · have SP : Hid (medianOf xs = fdiv (midOf xs) W2) := hid (by unfold medianOf; rw [V.out.len, if_neg hodd])
      have e1 : ((n : Int) % 2 == 1) = false := by simp; omega
      have HA := hid (run_add (T := 31) (V.out.sk (k := n / 2 - 1) (by omega)).fin (V.out.sk (k := n / 2) (by omega)).fin)
      have HQ : Hid (∀ wx : World, (binOp .quo 31 (.float .f32 (midOf xs)) (.float .f32 1073741824)).run Try.prog wx = .ok (.float .f32 (fdiv (midOf xs) W2)) wx) := hid (run_div (T := 31) (mid_abs V.out hp).fin (show isFin W2 = true by decide) fx_W2_le)
      have MI : Hid (midOf xs = fadd (fat (sortK xs) (n / 2 - 1)) (fat (sortK xs) (n / 2))) := hid (by unfold midOf; rw [V.out.len])
      go_enter Try.func26, Try.ntmps26
      go_wp2_with fail
      refine (c_someCode a n ca xs _ X.out).mono ?_
      rintro e w' ⟨rfl, rfl⟩
      rw [C.out]
      go_wp2_with fail
      refine (c_ordered a n ca xs _ V.out).mono ?_
      rintro e w1 ⟨⟨v, rfl, ho⟩, hb⟩
      obtain ⟨g, cap, rfl, hr⟩ := ho.some (by rw [sortK_len]; exact V.out.len) hp
      clear ho
      have R := hid hr
      have B := hid hb
      obtain ⟨k, hk⟩ : ∃ k, k + 1 = n / 2 := ⟨n / 2 - 1, by omega⟩
      have h1 := hr.cell (k := k) (by omega)
      have h2 := hr.cell (k := k + 1) (by omega)
      have ek : (n : Int) / 2 = (k : Int) + 1 := by omega
      have ek2 : (n : Int).tdiv 2 = (k : Int) + 1 := by rw [Int.tdiv_eq_ediv_of_nonneg (by omega)]; omega
      have kb : k + 1 < n := by omega
      rw [← hk, Nat.add_sub_cancel] at HA MI
      rw [MI.out] at HQ
      have hd := HA.out
      have hq := HQ.out
      have SP2 : Hid (medianOf xs = fdiv (fadd (fat (sortK xs) k) (fat (sortK xs) (k + 1))) W2) := hid (by rw [SP.out, MI.out])
      have w1 : IntKind.i64.wrap ((k : Int) + 1 - 1) = (k : Int) := by rw [IntWalk.i64_in _ (by omega)]; omega
      have w2 : (k : Int) + 1 - 1 = (k : Int) := by omega
      have w3 : ((k : Int) + 1).toNat = k + 1 := by omega
      have w4 : (0 : Int) ≤ (k : Int) + 1 := by omega
      have w5 : (k : Int) + 1 < (n : Int) := by omega
      have w6 : IntKind.i64.wrap ((k : Int) + 1) = (k : Int) + 1 := IntWalk.i64_in _ (by omega)
      clear hr hb hk
      go_wp2_with fail
      go_quiet (fail)
      clear w1 w2 w3 w6 ek ek2
      go_wp2_with fail
      go_ret2
      exact ⟨by rw [S.out, C.out, SP2.out]; rfl, below_drawn B.out _⟩
  · have hne : (codeL xs 1 != 0) = true := by simpa using hc
    have X := hid hx
    have S : Hid (someN medianOf xs = 0) := hid (by rw [someN, if_neg hc])
    clear hx hc
    go_enter Try.func26, Try.ntmps26
    go_wp2_with fail
    refine (c_someCode a n ca xs _ X.out).mono ?_
    rintro e w' ⟨rfl, rfl⟩
    go_wp2_with fail
    go_ret2
    exact ⟨by rw [S.out]; rfl, Below.refl _ _⟩
end Go.Proofs.Ytmhhgnalcapccaa
