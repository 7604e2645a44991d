/- Whole numbers as texts: both sides. -/
import Derived.Test.YtdcjoafagalejaaDoorShelfA
import Derived.Test.YtdcjoafagalejaaDoorBase
import Derived.Lib.LaidTab
import Derived.Lib.ItoaNum
import Derived.Lib.ItoaLen
import Derived.Lib.AppendIntMem
import Derived.Laws.IdiomStrings
import Derived.Deep.RegionLaw
import Derived.WalkSmall
namespace Go.Proofs.YtdcjoafagalejaaDoor
set_option maxRecDepth 20000
open Go.RowKit

/-- A text by its bytes. -/
abbrev txt (l : List UInt8) : Value := .string ⟨l.toArray⟩
theorem ret_txt {a b : List UInt8} (h : a = b) : Ending.returned (txt a) = .returned (txt b) := by rw [h]
theorem var_stays {P : Program} {w w' : World} {n : String} {cs : Array Value} (h : w.var? P n = some cs) (hb : Below w.heap.size w w') : w'.var? P n = some cs := by
  unfold World.var? at h ⊢
  cases hg : P.globalNamed n with
  | none => rw [hg] at h; cases h
  | some g =>
    rw [hg] at h
    simp only [Option.bind_some] at h ⊢
    cases hx : w.heap[g]? with
    | none => rw [hx] at h; cases h
    | some o => rw [hb.block g (block_lt hx), hx]; rw [hx] at h; exact h
/-- The library's table lies in memory. -/
def Tab (w : World) : Prop := Lib.TabIs Tryd.prog w "internal/strconv.uint64pow10" .u64 Lib.pow10Tab
theorem Tab.below {w w' : World} (h : Tab w) (hb : Below w.heap.size w w') : Tab w' := var_stays h hb
theorem c_decimal (n : Int) (h0 : -9223372036854775808 ≤ n) (h1 : n ≤ 9223372036854775807) (w : World) (ht : Tab w) :
    Calls Tryd.prog 36 #[.int .i64 n] w fun e w' => e = .returned (txt (Lib.itoa n)) ∧ Below w.heap.size w w' := by
  have C := hid (Tryd.strconv_FormatInt_10 n h0 h1 w ht)
  clear ht
  go_enter Tryd.func36, Tryd.ntmps36
  go_wp2_with (go_at_call 62; refine C.out.mono ?_; rintro e w' ⟨rfl, k, os, rfl⟩)
  go_ret
  exact ⟨rfl, Lib.below_grow _ w (Nat.le_refl _) k os⟩
theorem run_cat (x y : List UInt8) (hx : x.length ≤ 8388608) (hy : y.length ≤ 8388608) (w : World) : (binOp .add 9 (txt x) (txt y)).run Tryd.prog w = .ok (txt (x ++ y)) w := by
  have := run_string_add_lists (P := Tryd.prog) w x y (by omega) (by omega)
  exact this
theorem cat_bytes (x y : List UInt8) : (⟨x.toArray⟩ : ByteArray) ++ ⟨y.toArray⟩ = ⟨(x ++ y).toArray⟩ := by
  apply ByteArray.ext; simp
theorem ret_cat (x y : List UInt8) : Ending.returned (.string ((⟨x.toArray⟩ : ByteArray) ++ ⟨y.toArray⟩)) = .returned (txt (x ++ y)) := by rw [cat_bytes]
theorem digit_conv (d : UInt8) (b : Nat) (W : World) (h : W.cell? ⟨b, 0, none⟩ = some (.int .u8 (d.toNat : Int))) : (convert 89 9 (.slice (some ⟨b, 0, none⟩) 1 1)).run Tryd.prog W = .ok (txt [d]) W :=
  run_convert_bytes_back W 89 9 5 ⟨b, 0, none⟩ 1 [d] Tryd.underlying89 Tryd.underlying5 Tryd.underlying9 (fun j hj => by
    match j, hj with
    | 0, _ => simpa [Addr.add] using h)
theorem dig_wrap {n : Nat} (h : n < 10) : IntKind.u8.wrap (48 + (n : Int)) = ((UInt8.ofNat (48 + n)).toNat : Int) :=
  (by decide : ∀ k : Fin 10, IntKind.u8.wrap (48 + (k.val : Int)) = ((UInt8.ofNat (48 + k.val)).toNat : Int)) ⟨n, h⟩
theorem decDigits_more {n : Nat} (h : ¬ n < 10) : Lib.decDigits n = Lib.decDigits (n / 10) ++ [UInt8.ofNat (48 + n % 10)] := by rw [Lib.decDigits, dif_neg h]
theorem decDigits_short {n : Nat} (h : n ≤ 999) : (Lib.decDigits n).length ≤ 20 := by rw [Lib.decDigits_length]; exact Lib.nDigits_le20 n (by omega)
theorem c_Decimal : ∀ (n : Nat) (w : World), n ≤ 999 →
    Calls Tryd.prog 60 #[.int .i64 (n : Int)] w fun e w' => e = .returned (txt (Lib.decDigits n)) ∧ Below w.heap.size w w' := by
  intro n
  induction n using Nat.strongRecOn with
  | ind n ih =>
    intro w hn
    by_cases h10 : n < 10
    · have D : Hid (Lib.decDigits n = [UInt8.ofNat (48 + n)]) := hid (Lib.decDigits_one h10)
      have hw := dig_wrap h10
      have hd := fun b W => digit_conv (UInt8.ofNat (48 + n)) b W
      generalize UInt8.ofNat (48 + n) = d at *
      clear ih
      go_enter Tryd.func60, Tryd.ntmps60
      go_wp2
      go_ret
      exact ⟨by rw [D.out]; rfl, (Below.refl _ _).alloc (Nat.le_refl _) _⟩
    · have D := hid (decDigits_more h10)
      have hw := dig_wrap (Nat.mod_lt n (by decide : 0 < 10))
      have hd := fun b W => digit_conv (UInt8.ofNat (48 + n % 10)) b W
      have IH := hid (fun w => ih (n / 10) (by omega) w (by omega))
      have hq : (n : Int).tdiv 10 = ((n / 10 : Nat) : Int) := by rw [Int.tdiv_eq_ediv_of_nonneg (by omega)]; omega
      have hr : (n : Int).tmod 10 = ((n % 10 : Nat) : Int) := by rw [Int.tmod_eq_emod_of_nonneg (by omega)]; omega
      have hc : ¬ (9223372036854775807 < (Lib.decDigits (n / 10)).length + 1) := by have := decDigits_short (n := n / 10) (by omega); omega
      have hlr : n % 10 < 10 := Nat.mod_lt n (by decide)
      generalize UInt8.ofNat (48 + n % 10) = d at *
      generalize hx : Lib.decDigits (n / 10) = ds at *
      generalize n % 10 = r at *
      generalize hy : n / 10 = q at *
      have hq9 : q ≤ 99 := by omega
      have k1 : IntKind.i64.wrap (q : Int) = q := by rw [IntWalk.i64_in] <;> omega
      have k2 : IntKind.i64.wrap (48 + (r : Int)) = 48 + (r : Int) := by rw [IntWalk.i64_in] <;> omega
      clear ih hx hy
      go_enter Tryd.func60, Tryd.ntmps60
      go_wp2_with fail
      go_region_law (go_simp; go_at_call 60; refine (IH.out _).mono ?_; rintro e w1 ⟨rfl, h1⟩; have D1 := hid h1; (try have e1 := cell_stays (a := ⟨w.heap.size, 0, none⟩) h1 (show (w.alloc (.cells #[.int .u8 (d.toNat : Int)] 5)).cell? ⟨w.heap.size, 0, none⟩ = some (.int .u8 (d.toNat : Int)) from by rw [cell_of_row _ w.heap.size 0 _ _ _ (blk_at _ _ _ rfl)]; rfl)); clear h1)
      all_goals
        go_wp2
        go_ret
        refine ⟨?_, ?_⟩
        · rw [D.out]; exact ret_cat _ _
        · first
          | exact (below_trans (Below.refl _ _).drew D1.out (Nat.le_refl _)).alloc D1.out.size _
          | exact below_trans (((Below.refl _ _).alloc (Nat.le_refl _) _).drew) D1.out (by simp)
theorem c_l01Signed (n : Int) (hn : -999 ≤ n ∧ n ≤ 999) (w : World) :
    Calls Tryd.prog 61 #[.int .i64 n] w fun e w' => e = .returned (txt (Lib.itoa n)) ∧ Below w.heap.size w w' := by
  by_cases h : n < 0
  · have D : Hid (Lib.itoa n = 45 :: Lib.decDigits n.natAbs) := hid (by rw [Lib.itoa, if_pos h])
    have C := hid (c_Decimal n.natAbs w (by omega))
    have hc : ¬ (9223372036854775807 < 1 + (Lib.decDigits n.natAbs).length) := by have := decDigits_short (n := n.natAbs) (by omega); omega
    have hm : -n = ((n.natAbs : Nat) : Int) := by omega
    have k1 : IntKind.i64.wrap ((n.natAbs : Nat) : Int) = ((n.natAbs : Nat) : Int) := by rw [IntWalk.i64_in] <;> omega
    go_enter Tryd.func61, Tryd.ntmps61
    go_wp2_with (go_at_call 60; refine C.out.mono ?_; rintro e w1 ⟨rfl, h1⟩; have D1 := hid h1; clear h1)
    go_ret
    exact ⟨by rw [D.out]; exact ret_cat [45] _, D1.out⟩
  · have D : Hid (Lib.itoa n = Lib.decDigits n.toNat) := hid (by rw [Lib.itoa, if_neg h])
    obtain ⟨m, rfl⟩ : ∃ m : Nat, n = (m : Int) := ⟨n.toNat, by omega⟩
    have C := hid (c_Decimal m w (by omega))
    clear hn
    go_enter Tryd.func61, Tryd.ntmps61
    go_wp2_with (go_at_call 60; refine C.out.mono ?_; rintro e w1 ⟨rfl, h1⟩; have D1 := hid h1; clear h1)
    go_ret
    exact ⟨by rw [D.out]; rfl, D1.out⟩
end Go.Proofs.YtdcjoafagalejaaDoor
