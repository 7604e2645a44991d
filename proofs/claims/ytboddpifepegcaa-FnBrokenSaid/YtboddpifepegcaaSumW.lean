/- Walks of the sums of a list in several orders, of what the reference does for them, and of what looks at a list. -/
import Derived.Test.YtboddpifepegcaaDbl
namespace Go.Proofs.Ytboddpifepegcaa
set_option maxRecDepth 20000
open Go.RowKit

theorem run_add {T : TypeId} {x y : Nat} (hx : isFin x = true) (hy : isFin y = true) (w : World) : (binOp .add T (.float .f32 x) (.float .f32 y)).run Try.prog w = .ok (.float .f32 (fadd x y)) w :=
  run_float_arith w .add T .f32 x y _ (add_fin hx hy).1
theorem run_sub {T : TypeId} {x y : Nat} (hx : isFin x = true) (hy : isFin y = true) (w : World) : (binOp .sub T (.float .f32 x) (.float .f32 y)).run Try.prog w = .ok (.float .f32 (fsub x y)) w :=
  run_float_arith w .sub T .f32 x y _ (sub_fin hx hy).1
theorem run_mul {T : TypeId} {x y : Nat} (hx : isFin x = true) (hy : isFin y = true) (w : World) : (binOp .mul T (.float .f32 x) (.float .f32 y)).run Try.prog w = .ok (.float .f32 (fmul x y)) w :=
  run_float_arith w .mul T .f32 x y _ (mul_fin hx hy).1

/-- A valid list: a slice that reads as plain words, at most 48 of them. -/
structure VL (w : World) (a : Option Addr) (n : Nat) (xs : List Nat) : Prop where
  fl : Flts w a n xs
  pl : Plains xs
  le : n ≤ 48
theorem VL.len {w : World} {a : Option Addr} {n : Nat} {xs : List Nat} (h : VL w a n xs) : xs.length = n := h.fl.len
theorem VL.below {w w' : World} {a : Option Addr} {n : Nat} {xs : List Nat} (h : VL w a n xs) (hb : Below w.heap.size w w') : VL w' a n xs := ⟨h.fl.below hb, h.pl, h.le⟩
theorem VL.of {w : World} {a : Option Addr} {n : Nat} {xs : List Nat} (h : Flts w a n xs) (hv : validL xs = true) : VL w a n xs := by
  simp only [validL, plains, Bool.and_eq_true, decide_eq_true_eq, List.all_eq_true, List.mem_range] at hv
  exact ⟨h, fun k hk => ⟨h.word k (by rw [← h.len]; exact hk), hv.2 k hk⟩, by rw [← h.len]; exact hv.1⟩

theorem c_left (a : Option Addr) (n ca : Nat) (xs : List Nat) (w : World) (hv : VL w a n xs) :
    Calls Try.prog 88 #[.slice a n ca] w fun e w' => e = .returned (.float .f32 (leftOf xs)) ∧ w = w' := by
  have hn := hv.le
  have V := hid hv
  clear hv
  go_enter Try.func88, Try.ntmps88
  go_wp2
  go_loop [3, 8] (fun s i => ∃ k : Nat, k ≤ n ∧ i = .int .i64 k ∧ s = .float .f32 (leftK xs k)) (fun _ i => n - (intOf i).toNat)
  case atStart => exact ⟨0, by omega, rfl, rfl⟩
  case round =>
    obtain ⟨k, hk, rfl, rfl⟩ := hrel
    by_cases hlt : k < n
    · obtain ⟨b1, o1, rfl, hc1⟩ := V.out.fl.at_ (by omega)
      have h1 := hc1 k hlt
      have ha := run_add (T := 27) (left_abs V.out.pl (by rw [V.out.len]; exact V.out.le) k (by rw [V.out.len]; omega)).fin (V.out.pl.abs (k := k) (by rw [V.out.len]; exact hlt)).fin
      clear hc1
      go_wp2
      refine ⟨⟨k + 1, by omega, by go_num, rfl⟩, by simp [intOf]; omega⟩
    · obtain rfl : k = n := by omega
      go_wp2
      go_ret
      exact ⟨ret_float (by rw [leftOf, V.out.len]), rfl⟩
/-- The code of a list that needs so many numbers. -/
def codeL (xs : List Nat) (least : Nat) : Int := if validL xs then (if xs.length < least then 6 else 0) else 1
theorem sl_size (w : World) : (sizeOf (Try.prog.elem 24)).run Try.prog w = .ok 1 w := by kernel_rfl
theorem sl_und : Try.prog.underlying 24 = some (.slice (Try.prog.elem 24)) := by kernel_rfl
theorem sl_to (b o n c q : Nat) (hq : q ≤ c) (w : World) :
    (Instr.slice 24 (.slice (some ⟨b, o, none⟩) n c) none (some (.int .i64 q)) none).run Try.prog w = .ok (.slice (some ⟨b, o, none⟩) q c) w := by
  rw [run_slice_h w 24 _ _ _ sl_und .i64 q (by omega) (by omega), sl_size]
  simp only [Result.andThen_ok, sliced, Int.toNat_natCast, Nat.sub_zero, Nat.zero_mul]
  have : (⟨b, o, none⟩ : Addr).add 0 = ⟨b, o, none⟩ := rfl
  split <;> simp [this]
theorem sl_from (b o n c q : Nat) (hq : q < n) (hc : n ≤ c) (w : World) :
    (Instr.slice 24 (.slice (some ⟨b, o, none⟩) n c) (some (.int .i64 q)) none none).run Try.prog w = .ok (.slice (some ⟨b, o + q, none⟩) (n - q) (c - q)) w := by
  rw [run_slice_l w 24 _ _ _ sl_und .i64 q (by omega) (by omega), sl_size]
  simp only [Result.andThen_ok, sliced, Int.toNat_natCast, Nat.mul_one]
  rw [if_neg (by omega)]
  have : (⟨b, o, none⟩ : Addr).add q = ⟨b, o + q, none⟩ := by unfold Addr.add; split <;> simp_all
  simp [this]
theorem fat_take {xs : List Nat} {q k : Nat} (h : k < q) : fat (xs.take q) k = fat xs k := by simp [fat, h]
theorem fat_drop {xs : List Nat} {q k : Nat} : fat (xs.drop q) k = fat xs (q + k) := by simp [fat, List.getElem?_drop]
theorem VL.take {w : World} {b o n q : Nat} {xs : List Nat} (h : VL w (some ⟨b, o, none⟩) n xs) (hq : q ≤ n) (h0 : 0 < n) : VL w (some ⟨b, o, none⟩) q (xs.take q) := by
  have hl := h.len
  have hle := h.le
  obtain ⟨b', o', he, hc⟩ := h.fl.at_ h0
  simp only [Option.some.injEq, Addr.mk.injEq] at he
  obtain ⟨rfl, rfl, _⟩ := he
  refine ⟨⟨by simp; omega, by omega, fun k hk => ?_, fun _ => ⟨_, _, rfl, fun k hk => ?_⟩⟩, fun k hk => ?_, by omega⟩
  · rw [fat_take hk]; exact h.fl.word k (by omega)
  · rw [fat_take hk]; exact hc k (by omega)
  · simp at hk; rw [fat_take (by omega)]; exact h.pl k (by omega)
theorem VL.drop {w : World} {b o n q : Nat} {xs : List Nat} (h : VL w (some ⟨b, o, none⟩) n xs) (hq : q ≤ n) (h0 : 0 < n) : VL w (some ⟨b, o + q, none⟩) (n - q) (xs.drop q) := by
  have hl := h.len
  have hle := h.le
  obtain ⟨b', o', he, hc⟩ := h.fl.at_ h0
  simp only [Option.some.injEq, Addr.mk.injEq] at he
  obtain ⟨rfl, rfl, _⟩ := he
  refine ⟨⟨by simp; omega, by omega, fun k hk => ?_, fun _ => ⟨_, _, rfl, fun k hk => ?_⟩⟩, fun k hk => ?_, by omega⟩
  · rw [fat_drop]; exact h.fl.word _ (by omega)
  · rw [fat_drop, Nat.add_assoc]; exact hc _ (by omega)
  · simp at hk; rw [fat_drop]; exact h.pl _ (by omega)
theorem VL.drawn {w : World} {a : Option Addr} {n : Nat} {xs : List Nat} (h : VL w a n xs) (q : Nat) : VL (w.drewN q) a n xs := ⟨h.fl.drawn q, h.pl, h.le⟩
end Go.Proofs.Ytboddpifepegcaa
