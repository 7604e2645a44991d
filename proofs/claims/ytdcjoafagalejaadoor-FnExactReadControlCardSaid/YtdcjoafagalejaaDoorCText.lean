/- The text of a control: both sides. -/
import Derived.Test.YtdcjoafagalejaaDoorCtl
import Derived.Test.YtdcjoafagalejaaDoorLText
import Derived.Test.YtdcjoafagalejaaDoorFall
namespace Go.Proofs.YtdcjoafagalejaaDoor
set_option maxRecDepth 20000
open Go.RowKit

/-! ### Plain -/
def wordsI (zs : List Int) : List (List UInt8) := zs.map Lib.itoa
theorem wordsI_len (zs : List Int) : (wordsI zs).length = zs.length := by simp [wordsI]
theorem wordsI_take {zs : List Int} {k : Nat} (h : k < zs.length) : (wordsI zs).take (k + 1) = (wordsI zs).take k ++ [Lib.itoa (iat zs k)] := by
  rw [List.take_add_one]; simp [wordsI, iat, h]
theorem wordsI_short {zs : List Int} (hz : ∀ k, k < zs.length → -999 ≤ iat zs k ∧ iat zs k ≤ 999) : ∀ x ∈ wordsI zs, x.length ≤ 42 := by
  intro x hx
  simp only [wordsI, List.mem_map] at hx
  obtain ⟨y, hy, rfl⟩ := hx
  obtain ⟨k, hk, e⟩ := List.mem_iff_getElem.1 hy
  have h := hz k hk
  rw [show iat zs k = y by simp [iat, hk, e]] at h
  exact Nat.le_trans (itoa_short h) (by omega)
set_option maxHeartbeats 1000000 in
theorem c_decimals (g n ca : Nat) (zs : List Int) (hn : zs.length = n) (h9 : n ≤ 9) (hz : ∀ k, k < zs.length → -999 ≤ iat zs k ∧ iat zs k ≤ 999) (w : World) (hc : ∀ k, k < n → w.cell? ⟨g, k, none⟩ = some (.int .i64 (iat zs k))) (hT : Tab w) :
    Calls Tryd.prog 50 #[.slice (some ⟨g, 0, none⟩) n ca] w fun e w' => e = .returned (txt (Lib.join (wordsI zs) [32])) ∧ Below w.heap.size w w' := by
  have LN := hid hn
  have HC := hid hc
  have HZ := hid hz
  have TT := hid hT
  obtain ⟨i0, hi, hz0, hz1, hz2⟩ := info_parts info_str
  have HI := hid hi
  have HZ0 := hid hz0
  have HZ1 := hid hz1
  have HZ2 := hid hz2
  have O0 := hid (ownsS_empty w 9)
  have B0 : Hid (Below w.heap.size w (w.alloc (.cells #[] 9))) := hid ((Below.refl _ _).alloc (Nat.le_refl _) _)
  clear hn hc hz hT hi hz0 hz1 hz2
  go_enter Tryd.func50, Tryd.ntmps50
  go_wp2
  go_loopw [3, 9] (fun v i wr => ∃ k : Nat, k ≤ n ∧ i = .int .i64 k ∧ wr.ownsRow w.heap.size 9 1 v k (((wordsI zs).take k).map txt) ∧ v ≠ .slice none 0 0 ∧ Below w.heap.size w wr) (fun _ i _ => n - (intOf i).toNat)
  case atStart => exact ⟨0, by omega, rfl, O0.out, by simp, B0.out⟩
  case round =>
    obtain ⟨k, hk, rfl, hown, hne, hbel⟩ := hrel
    have O := hid hown
    have NE := hid hne
    have B := hid hbel
    clear hown hne hbel
    by_cases hlt : k < n
    · have h1 := cell_stays B.out (HC.out k hlt)
      have ZK := hid (HZ.out k (by rw [LN.out]; exact hlt))
      have WT := hid (wordsI_take (zs := zs) (k := k) (by rw [LN.out]; exact hlt))
      have CN := hid (c_decimal (iat zs k) (by have := ZK.out; omega) (by have := ZK.out; omega) wr (TT.out.below B.out))
      generalize Lib.itoa (iat zs k) = h8 at *
      generalize iat zs k = x at *
      go_wp2_with (first | (go_at_call 36; refine CN.out.mono ?_; rintro e w2 ⟨rfl, h2⟩; have D2 := hid h2; clear h2) | (at_builtin; refine wpList_append_own _ rfl _ _ 60 rfl w.heap.size 9 i0 (.string ByteArray.empty) 1 16 Tryd.underlying60 HI.out HZ0.out HZ1.out HZ2.out rfl (by decide) _ _ _ rfl ((ownsS_below O.out D2.out).alloc _) ⟨w2.heap.size, 0, none⟩ 1 1 [txt h8] rfl rfl (one_at _ _ _) (one_cellS _) (by unfold maxLen; omega) (by omega) (by have h1 := B.out.size; have h2 := D2.out.size; simp; omega) ?_; intro v' w3 hown' hgrow hnil; have NE2 : Hid (v' ≠ .slice none 0 0) := hid (fun e => NE.out (hnil.1 e).1); have O1 := hid hown'; have B1 := hid (appT (below_trans B.out D2.out B.out.size) (Nat.le_trans B.out.size D2.out.size) (ownsS_below O.out D2.out) hgrow); clear hown' hgrow hnil))
      exact ⟨⟨k + 1, by omega, by go_num, by rw [WT.out, List.map_append]; exact O1.out, NE2.out, B1.out⟩, by simp [intOf]; omega⟩
    · obtain rfl : k = n := by omega
      have o := O.out
      rw [List.take_of_length_le (by rw [wordsI_len, LN.out]; exact Nat.le_refl _)] at o
      have JC := hid (c_Join2 w.heap.size k _ (wordsI zs) (by rw [wordsI_len, LN.out]) NE.out (wordsI_short HZ.out) (by omega) wr o)
      clear o
      go_wp2_with (go_at_call 37; refine JC.out.mono ?_; rintro e w2 ⟨rfl, h2⟩; have D2 := hid (below_trans B.out h2 B.out.size); clear h2)
      go_ret
      exact ⟨rfl, D2.out⟩
def told (X : Ctl) : List UInt8 := hex8 X.lo ++ [32] ++ hex8 X.hi ++ [32] ++ hex8 X.wi ++ [32] ++ Lib.itoa X.st ++ [32] ++ Lib.itoa X.de ++ [32] ++ Lib.itoa X.ca
def ctlText (X : Ctl) : List UInt8 := if okC X then told X else []
theorem told_join (X : Ctl) : told X = Lib.join [hex8 X.lo, hex8 X.hi, hex8 X.wi, Lib.join (wordsI [X.st, X.de, X.ca]) [32]] [32] := by
  simp [told, wordsI, Lib.join_cons, Lib.joinTail, List.append_assoc]
set_option maxHeartbeats 2000000 in
theorem c_l05Told (X : Ctl) (hX : OkC X) (b : Nat) (w : World) (hA : CtlAt w b X) :
    Calls Tryd.prog 48 #[.pointer (some ⟨b, 0, none⟩)] w fun e w' => e = .returned (txt (told X)) ∧ Below w.heap.size w w' := by
  have Q0 := hid hA.lo
  have Q1 := hid hA.hi
  have Q2 := hid hA.wi
  have Q3 := hid hA.st
  have Q4 := hid hA.de
  have Q5 := hid hA.ca
  have C0 := hid (fun w => c_l01Hex X.lo hX.lo.word hX.lo.fin w)
  have C1 := hid (fun w => c_l01Hex X.hi hX.hi.word hX.hi.fin w)
  have C2 := hid (fun w => c_l01Hex X.wi hX.wi.word hX.wi.fin w)
  have w0 := hX.st
  have w1 := hX.de
  have w2 := hX.ca
  have N0 : ∀ z : Int, 0 ≤ z ∧ z ≤ 64 → ∀ w, Calls Tryd.prog 60 #[.int .i64 z] w fun e w' => e = .returned (txt (Lib.itoa z)) ∧ Below w.heap.size w w' := fun z hz w => by
    obtain ⟨m, rfl⟩ : ∃ m : Nat, z = (m : Int) := ⟨z.toNat, by omega⟩
    rw [itoa_nat]; exact c_Decimal m w (by omega)
  have C3 := hid (N0 X.st (by omega))
  have C4 := hid (N0 X.de (by omega))
  have C5 := hid (N0 X.ca (by omega))
  have k3 : IntKind.i64.wrap X.st = X.st := by rw [IntWalk.i64_in] <;> omega
  have k4 : IntKind.i64.wrap X.de = X.de := by rw [IntWalk.i64_in] <;> omega
  have k5 : IntKind.i64.wrap X.ca = X.ca := by rw [IntWalk.i64_in] <;> omega
  have s3 := itoa_short (n := X.st) (by omega)
  have s4 := itoa_short (n := X.de) (by omega)
  have s5 := itoa_short (n := X.ca) (by omega)
  have T : Hid (told X = hex8 X.lo ++ [32] ++ hex8 X.hi ++ [32] ++ hex8 X.wi ++ [32] ++ Lib.itoa X.st ++ [32] ++ Lib.itoa X.de ++ [32] ++ Lib.itoa X.ca) := hid rfl
  have l0 : (hex8 X.lo).length = 8 := hexL_len _ 8
  have l1 : (hex8 X.hi).length = 8 := hexL_len _ 8
  have l2 : (hex8 X.wi).length = 8 := hexL_len _ 8
  clear hA hX N0 w0 w1 w2
  generalize Lib.itoa X.st = A at *
  generalize Lib.itoa X.de = D at *
  generalize Lib.itoa X.ca = E at *
  generalize hex8 X.lo = L at *
  generalize hex8 X.hi = H at *
  generalize hex8 X.wi = W at *
  have g1 : ¬ (9223372036854775807 < 27 + A.length) := by omega
  have g2 : ¬ (9223372036854775807 < 27 + A.length + 1) := by omega
  have g3 : ¬ (9223372036854775807 < 27 + A.length + 1 + D.length) := by omega
  have g4 : ¬ (9223372036854775807 < 27 + A.length + 1 + D.length + 1) := by omega
  have g5 : ¬ (9223372036854775807 < 27 + A.length + 1 + D.length + 1 + E.length) := by omega
  clear s3 s4 s5
  go_enter Tryd.func48, Tryd.ntmps48
  go_wp2_with fail
  refine wp_region_below (by kernel_rfl) (by kernel_rfl) ?_
  repeat (first | (refine wpQuiet_load_cell rfl 37 _ rfl ⟨b, 0, none⟩ rfl (.float .f32 X.lo) _ (fun wx hwx => cell_stays hwx.out Q0.out) Tryd.underlying37 rfl ?_) | (refine wpQuiet_load_cell rfl 37 _ rfl ⟨b, 1, none⟩ rfl (.float .f32 X.hi) _ (fun wx hwx => cell_stays hwx.out Q1.out) Tryd.underlying37 rfl ?_) | (refine wpQuiet_load_cell rfl 37 _ rfl ⟨b, 2, none⟩ rfl (.float .f32 X.wi) _ (fun wx hwx => cell_stays hwx.out Q2.out) Tryd.underlying37 rfl ?_) | (refine wpQuiet_step (fun K hK => ?_); go_simp; first | (refine hK _ ?_; clear hK K) | (refine ⟨_, fun _ _ => rfl, hK _ ?_⟩; clear hK K) | (apply Exists.intro; refine ⟨fun wx hwx => ?_, hK _ ?_⟩; (first | (with_reducible exact quiet_below hwx (C0.out _)) | (with_reducible exact quiet_below hwx (C1.out _)) | (with_reducible exact quiet_below hwx (C2.out _))); clear hK K)))
  refine wpQuiet_nil ?_
  intro w2 h2
  replace h2 := h2.out
  have Q3b := hid (cell_stays h2 Q3.out)
  have Q4b := hid (cell_stays h2 Q4.out)
  have Q5b := hid (cell_stays h2 Q5.out)
  have D2 := hid h2
  clear h2
  go_wp2_with fail
  refine wp_region_below (by kernel_rfl) (by kernel_rfl) ?_
  repeat (first | (refine wpQuiet_load_cell rfl 38 _ rfl ⟨b, 3, none⟩ rfl (.int .i8 X.st) _ (fun wx hwx => cell_stays hwx.out Q3b.out) Tryd.underlying38 rfl ?_) | (refine wpQuiet_load_cell rfl 38 _ rfl ⟨b, 4, none⟩ rfl (.int .i8 X.de) _ (fun wx hwx => cell_stays hwx.out Q4b.out) Tryd.underlying38 rfl ?_) | (refine wpQuiet_load_cell rfl 38 _ rfl ⟨b, 5, none⟩ rfl (.int .i8 X.ca) _ (fun wx hwx => cell_stays hwx.out Q5b.out) Tryd.underlying38 rfl ?_) | (refine wpQuiet_step (fun K hK => ?_); go_simp; first | (refine hK _ ?_; clear hK K) | (refine ⟨_, fun _ _ => rfl, hK _ ?_⟩; clear hK K) | (apply Exists.intro; refine ⟨fun wx hwx => ?_, hK _ ?_⟩; (first | (with_reducible exact quiet_below hwx (C3.out _)) | (with_reducible exact quiet_below hwx (C4.out _)) | (with_reducible exact quiet_below hwx (C5.out _))); clear hK K)))
  refine wpQuiet_nil ?_
  intro w3 h3
  replace h3 := h3.out
  have D3 := hid (below_trans D2.out h3 D2.out.size)
  clear h3
  go_wp2
  go_ret
  refine ⟨?_, D3.out⟩
  rw [T.out]
  simp [cat_bytes, List.append_assoc]
end Go.Proofs.YtdcjoafagalejaaDoor
