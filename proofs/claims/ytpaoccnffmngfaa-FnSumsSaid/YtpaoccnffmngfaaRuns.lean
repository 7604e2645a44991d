/- Walks of the running sums and of the moving means. -/
import Derived.Test.YtpaoccnffmngfaaApp
import Derived.Test.YtpaoccnffmngfaaMarks
import Derived.Test.YtpaoccnffmngfaaMean
namespace Go.Proofs.Ytpaoccnffmngfaa
set_option maxRecDepth 20000
open Go.RowKit

def runK (xs : List Nat) (k : Nat) : List Nat := (List.range k).map fun j => leftK xs (j + 1)
theorem runK_succ (xs : List Nat) (k : Nat) : runK xs (k + 1) = runK xs k ++ [leftK xs (k + 1)] := by simp [runK, List.range_succ]
theorem runK_len (xs : List Nat) (k : Nat) : (runK xs k).length = k := by simp [runK]
def rsL (xs : List Nat) : List Nat := if validL xs then runK xs xs.length else []
theorem c_specRunningSums (a : Option Addr) (n ca : Nat) (xs : List Nat) (w : World) (hx : Flts w a n xs) :
    Calls Try.prog 23 #[.slice a n ca] w fun e w' => (∃ v, e = .returned (.tuple #[v, .int .i64 (codeL xs 0)]) ∧ GotF w' w.heap.size v (rsL xs)) ∧ Below w.heap.size w w' := by
  have X := hid hx
  have hs := hx.small
  clear hx
  have hxa : Hid (Flts (w.alloc (.cells #[] 26)) a n xs) := hid (X.out.below ((Below.refl _ _).alloc (Nat.le_refl _) _))
  have O0 := hid (owns_empty w 26)
  have B0 : Hid (Below w.heap.size w (w.alloc (.cells #[] 26))) := hid ((Below.refl _ _).alloc (Nat.le_refl _) _)
  cases hv : validL xs
  case false =>
    go_enter Try.func23, Try.ntmps23
    go_wp2_with (go_at_call 51; refine (c_l06Ok _ _ _ _ _ hxa.out).mono ?_; rintro e w' ⟨rfl, rfl⟩)
    go_ret2
    exact ⟨⟨_, by rw [code_no hv]; rfl, by rw [rsL, hv]; exact O0.out⟩, B0.out⟩
  case true =>
    have V := hid (VL.of X.out hv)
    have hn := V.out.le
    obtain ⟨i0, hi, hz0, hz1, hz2⟩ := info_parts info_f32
    have HI := hid hi
    have HZ0 := hid hz0
    have HZ1 := hid hz1
    have HZ2 := hid hz2
    clear hi hz0 hz1 hz2
    go_enter Try.func23, Try.ntmps23
    go_wp2_with (go_at_call 51; refine (c_l06Ok _ _ _ _ _ hxa.out).mono ?_; rintro e w' ⟨rfl, rfl⟩)
    go_loopw [4, 5, 6] (fun v s i wr => ∃ k : Nat, k ≤ n ∧ i = .int .i64 k ∧ s = .float .f32 (leftK xs k) ∧ wr.ownsRow w.heap.size 26 1 v k ((runK xs k).map (Value.float .f32)) ∧ Below w.heap.size w wr) (fun _ _ i _ => n - (intOf i).toNat)
    case atStart => exact ⟨0, by omega, rfl, rfl, O0.out, B0.out⟩
    case round =>
      obtain ⟨k, hk, rfl, rfl, hown, hbel⟩ := hrel
      have O := hid hown
      have B := hid hbel
      clear hown hbel
      by_cases hlt : k < n
      · obtain ⟨b1, o1, rfl, hc1⟩ := (V.out.fl.below B.out).at_ (by omega)
        have h1 := hc1 k hlt
        have ha : ∀ wx, (binOp .add 26 (.float .f32 (leftK xs k)) (.float .f32 (fat xs k))).run Try.prog wx = .ok (.float .f32 (leftK xs (k + 1))) wx := run_add (T := 26) (left_abs V.out.pl (by rw [V.out.len]; exact V.out.le) k (by rw [V.out.len]; omega)).fin (V.out.pl.abs (k := k) (by rw [V.out.len]; exact hlt)).fin
        clear hc1
        go_wp2_with (at_builtin; refine wpList_append_own _ rfl _ _ 24 rfl w.heap.size 26 i0 (.float .f32 0) 1 4 Try.underlying24 HI.out HZ0.out HZ1.out HZ2.out rfl (by decide) _ _ _ rfl (O.out.alloc _) ⟨wr.heap.size, 0, none⟩ 1 1 [.float .f32 (leftK xs (k + 1))] rfl rfl (one_at _ _ _) (one_cell _) (by unfold maxLen; omega) (by omega) (by have := B.out.size; simp; omega) ?_; intro v' w1 hown' hgrow _)
        have O1 := hid hown'
        have B1 := hid (append_below B.out O.out hgrow)
        clear hown' hgrow
        go_wp2
        exact ⟨⟨k + 1, by omega, by go_num, rfl, by rw [runK_succ, List.map_append]; exact O1.out, B1.out⟩, by simp [intOf]; omega⟩
      · obtain rfl : k = n := by omega
        go_wp2
        go_ret2
        exact ⟨⟨_, by rw [code_yes hv]; rfl, by rw [rsL, hv, if_pos rfl, V.out.len]; unfold GotF; rw [runK_len]; exact O.out⟩, B.out⟩
theorem leftK_take {xs : List Nat} {q : Nat} : ∀ k, k ≤ q → leftK (xs.take q) k = leftK xs k
  | 0, _ => rfl
  | k + 1, h => by rw [leftK, leftK, leftK_take k (by omega), fat_take (by omega)]
theorem leftOf_take {xs : List Nat} {q : Nat} (h : q ≤ xs.length) : leftOf (xs.take q) = leftK xs q := by
  rw [leftOf, List.length_take, Nat.min_eq_left h, leftK_take q (Nat.le_refl _)]
theorem c_implRunningSums (a : Option Addr) (n ca : Nat) (xs : List Nat) (w : World) (hx : Flts w a n xs) (hc : n ≤ ca) :
    Calls Try.prog 22 #[.slice a n ca] w fun e w' => (∃ v, e = .returned (.tuple #[v, .int .i64 (codeL xs 0)]) ∧ GotF w' w.heap.size v (rsL xs)) ∧ Below w.heap.size w w' := by
  have X := hid hx
  have HC := hid hc
  have hs := hx.small
  clear hx hc
  have O0 := hid (owns_empty w 26)
  have B0 : Hid (Below w.heap.size w (w.alloc (.cells #[] 26))) := hid ((Below.refl _ _).alloc (Nat.le_refl _) _)
  cases hv : validL xs
  case false =>
    have C := hid (code_no (k := 0) hv)
    go_enter Try.func22, Try.ntmps22
    go_wp2_with fail
    refine (c_listCode a n ca xs _ X.out).mono ?_
    rintro e w' ⟨rfl, rfl⟩
    rw [C.out]
    go_wp2
    go_ret2
    exact ⟨⟨_, by rw [C.out]; rfl, by rw [rsL, hv]; exact GotF.nil _ _⟩, Below.refl _ _⟩
  case true =>
    have C := hid (code_yes hv)
    have V := hid (VL.of X.out hv)
    have hn := V.out.le
    obtain ⟨i0, hi, hz0, hz1, hz2⟩ := info_parts info_f32
    have HI := hid hi
    have HZ0 := hid hz0
    have HZ1 := hid hz1
    have HZ2 := hid hz2
    clear hi hz0 hz1 hz2
    go_enter Try.func22, Try.ntmps22
    go_wp2_with fail
    refine (c_listCode a n ca xs _ X.out).mono ?_
    rintro e w' ⟨rfl, rfl⟩
    rw [C.out]
    go_wp2
    go_loopw [5, 15] (fun v i wr => ∃ k : Nat, k ≤ n ∧ i = .int .i64 k ∧ wr.ownsRow w.heap.size 26 1 v k ((runK xs k).map (Value.float .f32)) ∧ Below w.heap.size w wr) (fun _ i _ => n - (intOf i).toNat)
    case atStart => exact ⟨0, by omega, rfl, O0.out, B0.out⟩
    case round =>
      obtain ⟨k, hk, rfl, hown, hbel⟩ := hrel
      have O := hid hown
      have B := hid hbel
      clear hown hbel
      by_cases hlt : k < n
      · obtain ⟨b1, o1, rfl, _⟩ := V.out.fl.at_ (by omega)
        have hs1 : ∀ wx, (Instr.slice 24 (.slice (some ⟨b1, o1, none⟩) n ca) none (some (.int .i64 ((k : Int) + 1))) none).run Try.prog wx = .ok (.slice (some ⟨b1, o1, none⟩) (k + 1) ca) wx := fun wx => sl_to b1 o1 n ca (k + 1) (by have := HC.out; omega) wx
        have VT := hid ((V.out.below B.out).take (q := k + 1) (by omega) (by omega))
        have hl : leftOf (xs.take (k + 1)) = leftK xs (k + 1) := leftOf_take (by rw [V.out.len]; omega)
        have HL := hid hl
        clear hl
        go_wp2_with fail
        refine (c_left _ (k + 1) ca (xs.take (k + 1)) _ VT.out).mono ?_
        rintro e w' ⟨rfl, rfl⟩
        rw [HL.out]
        go_wp2_with (at_builtin; refine wpList_append_own _ rfl _ _ 24 rfl w.heap.size 26 i0 (.float .f32 0) 1 4 Try.underlying24 HI.out HZ0.out HZ1.out HZ2.out rfl (by decide) _ _ _ rfl (O.out.alloc _) ⟨wr.heap.size, 0, none⟩ 1 1 [.float .f32 (leftK xs (k + 1))] rfl rfl (one_at _ _ _) (one_cell _) (by unfold maxLen; omega) (by omega) (by have := B.out.size; simp; omega) ?_; intro v' w1 hown' hgrow _)
        have O1 := hid hown'
        have B1 := hid (append_below B.out O.out hgrow)
        clear hown' hgrow
        go_wp2
        exact ⟨⟨k + 1, by omega, by go_num, by rw [runK_succ, List.map_append]; exact O1.out, B1.out⟩, by simp [intOf]; omega⟩
      · obtain rfl : k = n := by omega
        go_wp2
        go_ret2
        exact ⟨⟨_, by rw [C.out]; rfl, by rw [rsL, hv, if_pos rfl, V.out.len]; unfold GotF; rw [runK_len]; exact O.out⟩, B.out⟩
theorem rsL_len {w : World} {a : Option Addr} {n : Nat} {xs : List Nat} (h : Flts w a n xs) : (rsL xs).length ≤ 99 := by
  unfold rsL
  split
  · next hv =>
    have V := VL.of h hv
    rw [runK_len, V.len]; have := V.le; omega
  · simp
theorem rsL_word {w : World} {a : Option Addr} {n : Nat} {xs : List Nat} (h : Flts w a n xs) : ∀ k, k < (rsL xs).length → fat (rsL xs) k < 4294967296 := by
  unfold rsL
  split
  · next hv =>
    have V := VL.of h hv
    intro k hk
    rw [runK_len] at hk
    have e : fat (runK xs xs.length) k = leftK xs (k + 1) := by simp [runK, fat, hk]
    rw [e]
    exact (left_abs V.pl (by rw [V.len]; exact V.le) (k + 1) (by omega)).word
  · intro k hk; simp at hk
theorem sl_mid (b o n c i j : Nat) (hij : i < j) (hj : j ≤ c) (w : World) :
    (Instr.slice 24 (.slice (some ⟨b, o, none⟩) n c) (some (.int .i64 i)) (some (.int .i64 j)) none).run Try.prog w = .ok (.slice (some ⟨b, o + i, none⟩) (j - i) (c - i)) w := by
  rw [run_slice_lh w 24 _ _ _ sl_und .i64 .i64 i j (by omega) (by omega) (by omega), sl_size]
  simp only [Result.andThen_ok, sliced, Int.toNat_natCast, Nat.mul_one]
  rw [if_neg (by omega)]
  have : (⟨b, o, none⟩ : Addr).add i = ⟨b, o + i, none⟩ := by unfold Addr.add; split <;> simp_all
  simp [this]
def mvK (xs : List Nat) (m k : Nat) : List Nat := (List.range k).map fun i => meanOf ((xs.drop i).take m)
theorem mvK_succ (xs : List Nat) (m k : Nat) : mvK xs m (k + 1) = mvK xs m k ++ [meanOf ((xs.drop k).take m)] := by simp [mvK, List.range_succ]
theorem mvK_len (xs : List Nat) (m k : Nat) : (mvK xs m k).length = k := by simp [mvK]
def mmC (xs : List Nat) (a : Int) : Int := if validL xs then (if inB a 1 48 then 0 else 2) else 1
def mmL (xs : List Nat) (a : Int) : List Nat := if mmC xs a = 0 then mvK xs a.toNat (xs.length + 1 - a.toNat) else []
theorem mmL_len {w : World} {a : Option Addr} {n : Nat} {xs : List Nat} {m : Int} (h : Flts w a n xs) : (mmL xs m).length ≤ 99 := by
  unfold mmL
  split
  · next hc =>
    rw [mvK_len]
    unfold mmC at hc
    split at hc
    · next hv =>
      have V := VL.of h hv
      have := V.le
      have := V.len
      omega
    · omega
  · simp
theorem mmL_word {w : World} {a : Option Addr} {n : Nat} {xs : List Nat} {m : Int} (h : Flts w a n xs) : ∀ k, k < (mmL xs m).length → fat (mmL xs m) k < 4294967296 := by
  unfold mmL
  split
  · next hc =>
    intro k hk
    rw [mvK_len] at hk
    unfold mmC at hc
    split at hc
    · next hv =>
      have V := VL.of h hv
      split at hc
      · next hm =>
        simp only [inB, Bool.and_eq_true, decide_eq_true_eq] at hm
        have e : fat (mvK xs m.toNat (xs.length + 1 - m.toNat)) k = meanOf ((xs.drop k).take m.toNat) := by simp [mvK, fat, hk]
        rw [e]
        have hl := V.len
        have hle := V.le
        obtain ⟨b, o, rfl, _⟩ := V.fl.at_ (by omega)
        have V2 := (V.drop (q := k) (by omega) (by omega)).take (q := m.toNat) (by omega) (by omega)
        exact (mean_abs V2.pl (by rw [V2.len]; exact V2.le) (by rw [V2.len]; omega)).word
      · omega
    · omega
  · intro k hk; simp at hk
end Go.Proofs.Ytpaoccnffmngfaa
