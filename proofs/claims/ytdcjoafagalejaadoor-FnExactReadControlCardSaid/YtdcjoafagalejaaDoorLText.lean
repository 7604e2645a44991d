/- The text of a list of numbers: both sides. -/
import Derived.Test.YtdcjoafagalejaaDoorHexS
import Derived.Test.YtdcjoafagalejaaDoorPText
import Derived.Test.YtdcjoafagalejaaDoorSum
namespace Go.Proofs.YtdcjoafagalejaaDoor
set_option maxRecDepth 20000
open Go.RowKit

/-! ### Plain -/
def wordsL (xs : List Nat) : List (List UInt8) := xs.map hex8
def listText (xs : List Nat) : List UInt8 := if validL xs then Lib.join (wordsL xs) [32] else []
theorem wordsL_len (xs : List Nat) : (wordsL xs).length = xs.length := by simp [wordsL]
theorem wordsL_take {xs : List Nat} {k : Nat} (h : k < xs.length) : (wordsL xs).take (k + 1) = (wordsL xs).take k ++ [hex8 (fat xs k)] := by
  rw [List.take_add_one]; simp [wordsL, fat, h]
theorem wordsL_short (xs : List Nat) : ∀ x ∈ wordsL xs, x.length ≤ 42 := by
  intro x hx; simp only [wordsL, List.mem_map] at hx; obtain ⟨y, _, rfl⟩ := hx
  rw [show (hex8 y).length = 8 from hexL_len y 8]; omega
theorem valid_fin {xs : List Nat} (hw : ∀ k, k < xs.length → fat xs k < 4294967296) (hv : validL xs = true) : xs.length ≤ 48 ∧ ∀ k, k < xs.length → fat xs k < 4294967296 ∧ isFin (fat xs k) = true := by
  simp only [validL, plains, Bool.and_eq_true, decide_eq_true_eq, List.all_eq_true, List.mem_range] at hv
  exact ⟨hv.1, fun k hk => ⟨hw k hk, (plain_abs (hw k hk) (hv.2 k hk)).fin⟩⟩
theorem c_Join2 (lo n : Nat) (v : Value) (ws : List (List UInt8)) (hn : ws.length = n) (hv : v ≠ .slice none 0 0) (hs : ∀ x ∈ ws, x.length ≤ 42) (hl : n ≤ 1000) (w : World) (O : w.ownsRow lo 9 1 v n (ws.map txt)) :
    Calls Tryd.prog 37 #[v, .string ⟨#[32]⟩] w fun e w' => e = .returned (txt (Lib.join ws [32])) ∧ Below w.heap.size w w' := by
  subst hn
  rcases O.2 with ⟨h0, _⟩ | ⟨g, cap, cur, rfl, _, hg, hcap, _, _, _⟩
  · exact absurd h0 hv
  · have e1 : (ws.map (fun l => (⟨l.toArray⟩ : ByteArray))).map (·.data.toList) = ws := by
      rw [List.map_map]; exact (List.map_congr_left (fun x _ => by simp)).trans (List.map_id _)
    have e2 : (⟨#[32]⟩ : ByteArray).data.toList = [32] := rfl
    have hj := join_short ws hs
    have C := Tryd.strings_Join g 0 cap (ws.map (fun l => (⟨l.toArray⟩ : ByteArray))) ⟨#[32]⟩ w (fun j x hx => by
      have hjl : j < ws.length := by have := (List.getElem?_eq_some_iff.1 hx).1; simpa using this
      rw [Nat.zero_add, O.cellAt j (by omega)]
      simp [hjl] at hx ⊢
      exact hx) (block_lt hg) (by simp; omega) (by simpa using hcap) (by rw [e1, e2]; omega)
    rw [e1, e2, List.length_map] at C
    exact C
set_option maxHeartbeats 1000000 in
theorem c_implListText (a : Option Addr) (n ca : Nat) (xs : List Nat) (w : World) (hx : Flts w a n xs) (hd : D64 w) :
    Calls Tryd.prog 15 #[.slice a n ca] w fun e w' => e = .returned (txt (listText xs)) ∧ Below w.heap.size w w' := by
  have X := hid hx
  have LN := hid hx.len
  have CV := hid (c_implValidList a n ca xs w hx)
  have DD := hid hd
  clear hd
  cases hv : validL xs
  · have E : Hid (listText xs = []) := hid (by rw [listText, hv]; rfl)
    rw [hv] at CV
    clear hv hx
    go_enter Tryd.func15, Tryd.ntmps15
    go_wp2_with (go_at_call 40; refine CV.out.mono ?_; rintro e w1 ⟨rfl, rfl⟩)
    go_ret
    exact ⟨by rw [E.out]; rfl, Below.refl _ _⟩
  · have E : Hid (listText xs = Lib.join (wordsL xs) [32]) := hid (by rw [listText, hv]; rfl)
    obtain ⟨h48, hf⟩ := valid_fin (fun k hk => hx.word k (by rw [← hx.len]; exact hk)) hv
    have F := hid hf
    have hn : n ≤ 48 := by rw [← hx.len]; exact h48
    rw [hv] at CV
    obtain ⟨i0, hi, hz0, hz1, hz2⟩ := info_parts info_str
    have HI := hid hi
    have HZ0 := hid hz0
    have HZ1 := hid hz1
    have HZ2 := hid hz2
    have O0 := hid (ownsS_empty w 9)
    have B0 : Hid (Below w.heap.size w (w.alloc (.cells #[] 9))) := hid ((Below.refl _ _).alloc (Nat.le_refl _) _)
    clear hv hx hf h48 hi hz0 hz1 hz2
    go_enter Tryd.func15, Tryd.ntmps15
    go_wp2_with (go_at_call 40; refine CV.out.mono ?_; rintro e w1 ⟨rfl, rfl⟩)
    go_loopw [3, 12] (fun v i wr => ∃ k : Nat, k ≤ n ∧ i = .int .i64 k ∧ wr.ownsRow w.heap.size 9 1 v k (((wordsL xs).take k).map txt) ∧ v ≠ .slice none 0 0 ∧ Below w.heap.size w wr) (fun _ i _ => n - (intOf i).toNat)
    case atStart => exact ⟨0, by omega, rfl, O0.out, by simp, B0.out⟩
    case round =>
      obtain ⟨k, hk, rfl, hown, hne, hbel⟩ := hrel
      have O := hid hown
      have NE := hid hne
      have B := hid hbel
      clear hown hne hbel
      by_cases hlt : k < n
      · obtain ⟨b1, o1, rfl, hc1⟩ := (X.out.below B.out).at_ (by omega)
        have h1 := hc1 k hlt
        have FK := hid (F.out k (by rw [LN.out]; exact hlt))
        have WT := hid (wordsL_take (xs := xs) (k := k) (by rw [LN.out]; exact hlt))
        have CN := hid (c_NumberText (fat xs k) FK.out.1 FK.out.2 wr (DD.out.below B.out))
        clear hc1
        generalize hex8 (fat xs k) = h8 at *
        generalize fat xs k = x at *
        go_wp2_with (first | (go_at_call 41; refine CN.out.mono ?_; rintro e w2 ⟨rfl, h2⟩; have D2 := hid h2; clear h2) | (at_builtin; refine wpList_append_own _ rfl _ _ 60 rfl w.heap.size 9 i0 (.string ByteArray.empty) 1 16 Tryd.underlying60 HI.out HZ0.out HZ1.out HZ2.out rfl (by decide) _ _ _ rfl ((ownsS_below O.out D2.out).alloc _) ⟨w2.heap.size, 0, none⟩ 1 1 [txt h8] rfl rfl (one_at _ _ _) (one_cellS _) (by unfold maxLen; omega) (by omega) (by have h1 := B.out.size; have h2 := D2.out.size; simp; omega) ?_; intro v' w3 hown' hgrow hnil; have NE2 : Hid (v' ≠ .slice none 0 0) := hid (fun e => NE.out (hnil.1 e).1); have O1 := hid hown'; have B1 := hid (appT (below_trans B.out D2.out B.out.size) (Nat.le_trans B.out.size D2.out.size) (ownsS_below O.out D2.out) hgrow); clear hown' hgrow hnil))
        exact ⟨⟨k + 1, by omega, by go_num, by rw [WT.out, List.map_append]; exact O1.out, NE2.out, B1.out⟩, by simp [intOf]; omega⟩
      · obtain rfl : k = n := by omega
        have o := O.out
        rw [List.take_of_length_le (by rw [wordsL_len, LN.out]; exact Nat.le_refl _)] at o
        have JC := hid (c_Join2 w.heap.size k _ (wordsL xs) (by rw [wordsL_len, LN.out]) NE.out (wordsL_short xs) (by omega) wr o)
        clear o
        go_wp2_with (go_at_call 37; refine JC.out.mono ?_; rintro e w2 ⟨rfl, h2⟩; have D2 := hid (below_trans B.out h2 B.out.size); clear h2)
        go_ret
        exact ⟨by rw [E.out]; rfl, D2.out⟩
theorem joinK_len (xs : List Nat) (k : Nat) : (Lib.join ((wordsL xs).take k) [32]).length ≤ 43 * k := by
  have h := join_short ((wordsL xs).take k) (fun x hx => wordsL_short xs x (List.mem_of_mem_take hx))
  have : ((wordsL xs).take k).length ≤ k := by rw [List.length_take]; omega
  omega
set_option maxHeartbeats 1000000 in
theorem c_l06Text (a : Option Addr) (n ca : Nat) (xs : List Nat) (w : World) (hx : Flts w a n xs) (hn : n ≤ 48) (hf : ∀ k, k < xs.length → fat xs k < 4294967296 ∧ isFin (fat xs k) = true) :
    Calls Tryd.prog 39 #[.slice a n ca] w fun e w' => e = .returned (txt (Lib.join (wordsL xs) [32])) ∧ Below w.heap.size w w' := by
  have X := hid hx
  have LN := hid hx.len
  have F := hid hf
  clear hx hf
  go_enter Tryd.func39, Tryd.ntmps39
  go_wp2
  go_loopw [3, 4] (fun o i wr => ∃ k : Nat, k ≤ n ∧ i = .int .i64 k ∧ o = txt (Lib.join ((wordsL xs).take k) [32]) ∧ Below w.heap.size w wr) (fun _ i _ => n - (intOf i).toNat)
  case atStart => exact ⟨0, by omega, rfl, rfl, Below.refl _ _⟩
  case round =>
    obtain ⟨k, hk, rfl, rfl, hbel⟩ := hrel
    have B := hid hbel
    clear hbel
    by_cases hlt : k < n
    · obtain ⟨b1, o1, rfl, hc1⟩ := (X.out.below B.out).at_ (by omega)
      have h1 := hc1 k hlt
      have FK := hid (F.out k (by rw [LN.out]; exact hlt))
      have WT := hid (wordsL_take (xs := xs) (k := k) (by rw [LN.out]; exact hlt))
      have WK : Hid (((wordsL xs).take k).length = k) := hid (by rw [List.length_take, wordsL_len, LN.out]; omega)
      have CN := hid (c_l01Hex (fat xs k) FK.out.1 FK.out.2 wr)
      have hjl := joinK_len xs k
      have h8l : (hex8 (fat xs k)).length = 8 := hexL_len _ 8
      have JN : Hid (k = 0 → Lib.join ((wordsL xs).take k) [32] = [] ∧ Lib.join ((wordsL xs).take k ++ [hex8 (fat xs k)]) [32] = hex8 (fat xs k)) := hid (fun h => by subst h; exact ⟨rfl, by rw [List.take_zero, List.nil_append, Lib.join_one]⟩)
      have JS : Hid (k ≠ 0 → Lib.join ((wordsL xs).take k ++ [hex8 (fat xs k)]) [32] = Lib.join ((wordsL xs).take k) [32] ++ ([32] ++ hex8 (fat xs k))) := hid (fun h => join_snoc _ _ (fun e => by have := WK.out; rw [e] at this; simp at this; omega))
      clear hc1
      generalize Lib.join ((wordsL xs).take k) [32] = js at *
      generalize hex8 (fat xs k) = h8 at *
      have hk1 : ¬ (9223372036854775807 < js.length + 1) := by omega
      have hk2 : ¬ (9223372036854775807 < js.length + 8) := by omega
      have hk3 : ¬ (9223372036854775807 < js.length + 1 + 8) := by omega
      clear hjl
      generalize fat xs k = x at *
      by_cases h0 : k = 0
      · have J := hid (JN.out h0)
        have hg : ¬ (0 < (k : Int)) := by omega
        have H0 := hid h0
        clear h0
        go_wp2_with (go_at_call 67; refine CN.out.mono ?_; rintro e w2 ⟨rfl, h2⟩; have D2 := hid (below_trans B.out h2 B.out.size); clear h2)
        refine ⟨⟨k + 1, by omega, by go_num, ?_, D2.out⟩, by simp [intOf]; omega⟩
        rw [WT.out, J.out.2, J.out.1]
        simp [cat_bytes]
      · have J := hid (JS.out h0)
        have hg : 0 < (k : Int) := by omega
        have H0 := hid h0
        clear h0
        go_wp2_with (go_at_call 67; refine CN.out.mono ?_; rintro e w2 ⟨rfl, h2⟩; have D2 := hid (below_trans B.out h2 B.out.size); clear h2)
        refine ⟨⟨k + 1, by omega, by go_num, ?_, D2.out⟩, by simp [intOf]; omega⟩
        rw [WT.out, J.out]
        simp [cat_bytes, List.append_assoc]
    · obtain rfl : k = n := by omega
      have WF : Hid ((wordsL xs).take k = wordsL xs) := hid (List.take_of_length_le (by rw [wordsL_len, LN.out]; exact Nat.le_refl _))
      go_wp2
      go_ret
      exact ⟨ret_txt (by rw [WF.out]), B.out⟩
theorem c_specListText (a : Option Addr) (n ca : Nat) (xs : List Nat) (w : World) (hx : Flts w a n xs) :
    Calls Tryd.prog 13 #[.slice a n ca] w fun e w' => e = .returned (txt (listText xs)) ∧ Below w.heap.size w w' := by
  have CV := hid (c_l06Ok a n ca xs w hx)
  cases hv : validL xs
  · have E : Hid (listText xs = []) := hid (by rw [listText, hv]; rfl)
    rw [hv] at CV
    clear hv hx
    go_enter Tryd.func13, Tryd.ntmps13
    go_wp2_with (go_at_call 38; refine CV.out.mono ?_; rintro e w1 ⟨rfl, rfl⟩)
    go_ret
    exact ⟨by rw [E.out]; rfl, Below.refl _ _⟩
  · have E : Hid (listText xs = Lib.join (wordsL xs) [32]) := hid (by rw [listText, hv]; rfl)
    obtain ⟨h48, hf⟩ := valid_fin (fun k hk => hx.word k (by rw [← hx.len]; exact hk)) hv
    have CT := hid (c_l06Text a n ca xs w hx (by rw [← hx.len]; exact h48) hf)
    rw [hv] at CV
    clear hv hx hf
    go_enter Tryd.func13, Tryd.ntmps13
    go_wp2_with (first | (go_at_call 38; refine CV.out.mono ?_; rintro e w1 ⟨rfl, rfl⟩) | (go_at_call 39; refine CT.out.mono ?_; rintro e w2 ⟨rfl, h2⟩; have D2 := hid h2; clear h2))
    go_ret
    exact ⟨by rw [E.out]; rfl, D2.out⟩
end Go.Proofs.YtdcjoafagalejaaDoor
