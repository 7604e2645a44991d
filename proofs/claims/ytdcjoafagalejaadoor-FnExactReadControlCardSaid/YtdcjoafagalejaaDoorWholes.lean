/- Whole numbers read from lists of texts. -/
import Derived.Test.YtdcjoafagalejaaDoorNumLaw
import Derived.Test.YtdcjoafagalejaaDoorSplit
import Derived.Test.YtdcjoafagalejaaDoorCText
namespace Go.Proofs.YtdcjoafagalejaaDoor
set_option maxRecDepth 20000
open Go.RowKit

/-- The whole number from lo to hi with a text. -/
def inR (lo hi : Int) (s : List UInt8) : Option Int :=
  match wholeOf s with
  | some v => if lo ≤ v ∧ v ≤ hi then some v else none
  | none => none
theorem inR_iff {lo hi : Int} {s : List UInt8} {v : Int} : inR lo hi s = some v ↔ wholeOf s = some v ∧ lo ≤ v ∧ v ≤ hi := by
  unfold inR
  cases h : wholeOf s with
  | none => simp
  | some u =>
    simp only [Option.some.injEq]
    split
    · rename_i h2; simp only [Option.some.injEq]
      exact ⟨fun e => ⟨e, e ▸ h2⟩, fun e => e.1⟩
    · rename_i h2
      exact ⟨fun e => (by cases e), fun e => absurd (e.1 ▸ e.2) h2⟩
theorem info_i64 : (Tryd.prog.info? 2).map (fun i => (i.zero, i.size, i.bytes)) = some (some (.int .i64 0), 1, 8) := by kernel_rfl
theorem one_cellI (x : Int) : ∀ u ∈ [Value.int .i64 x], u.oneCell' = true := by intro u hu; simp at hu; subst hu; rfl
theorem ownsI_empty (w : World) (T : TypeId) : (w.alloc (.cells #[] T)).ownsRow w.heap.size T 1 (.slice (some ⟨w.heap.size, 0, none⟩) 0 0) 0 [] :=
  World.ownsRow_made w #[] 0 (Nat.le_refl _) (by unfold maxLen; omega) rfl
def vints (zs : List Int) : List Value := zs.map (Value.int .i64)
theorem own_int {w : World} {lo n : Nat} {v : Value} {zs : List Int} (hn : zs.length = n) (hv : v ≠ .slice none 0 0) (O : w.ownsRow lo 2 1 v n (vints zs)) :
    ∃ g ca, v = .slice (some ⟨g, 0, none⟩) n ca ∧ (∀ k, k < n → w.cell? ⟨g, k, none⟩ = some (.int .i64 (iat zs k))) ∧ lo ≤ g := by
  subst hn
  rcases O.2 with ⟨h0, _⟩ | ⟨g, cap, cur, rfl, hlo, hg, hcap, _, _, _⟩
  · exact absurd h0 hv
  · exact ⟨g, cap, rfl, fun k hk => by
      rw [O.cellAt k (by omega)]
      simp [vints, iat, hk], hlo⟩
theorem wat_take {ws : List (List UInt8)} {zs : List Int} {k : Nat} {lo hi v : Int} (h : (ws.take k).map (inR lo hi) = zs.map some) (hk : k < ws.length) (hv : inR lo hi (wat ws k) = some v) : (ws.take (k + 1)).map (inR lo hi) = (zs ++ [v]).map some := by
  rw [List.take_add_one, List.getElem?_eq_getElem hk, List.map_append, List.map_append, h]
  have : wat ws k = ws[k] := by unfold wat; rw [List.getD_eq_getElem?_getD, List.getElem?_eq_getElem hk]; rfl
  rw [this] at hv
  simp [hv]
set_option maxHeartbeats 2000000 in
theorem c_readWholes (g o ca : Nat) (ws : List (List UInt8)) (lo hi : Int) (w : World) (hA : TxtAt w g o ws) (hs : ∀ k, k < ws.length → (wat ws k).length ≤ 1048576) (hl : ws.length ≤ 2000000) (hT : Tab w) (hE : Errs w) :
    Calls Tryd.prog 54 #[.slice (some ⟨g, o, none⟩) ws.length ca, .int .i64 lo, .int .i64 hi] w fun e w' =>
      ((∃ (zs : List Int) (b cb : Nat), ws.map (inR lo hi) = zs.map some ∧ e = .returned (.tuple #[.slice (some ⟨b, 0, none⟩) ws.length cb, .bool true]) ∧ ∀ k, k < ws.length → w'.cell? ⟨b, k, none⟩ = some (.int .i64 (iat zs k)))
        ∨ ((∃ k, k < ws.length ∧ inR lo hi (wat ws k) = none) ∧ e = .returned (.tuple #[.slice none 0 0, .bool false]))) ∧ Below w.heap.size w w' := by
  have AA := hid hA
  have HS := hid hs
  have HL := hid hl
  have TT := hid hT
  have EE := hid hE
  obtain ⟨i0, hi0, hz0, hz1, hz2⟩ := info_parts info_i64
  have HI := hid hi0
  have HZ0 := hid hz0
  have HZ1 := hid hz1
  have HZ2 := hid hz2
  have O0 := hid (ownsI_empty w 2)
  have B0 : Hid (Below w.heap.size w (w.alloc (.cells #[] 2))) := hid ((Below.refl _ _).alloc (Nat.le_refl _) _)
  clear hA hs hl hT hE hi0 hz0 hz1 hz2
  go_enter Tryd.func54, Tryd.ntmps54
  go_wp2
  go_loopw [8, 16] (fun v i wr => ∃ (k : Nat) (zs : List Int), k ≤ ws.length ∧ zs.length = k ∧ i = .int .i64 k ∧ wr.ownsRow w.heap.size 2 1 v k (vints zs) ∧ v ≠ .slice none 0 0 ∧ Below w.heap.size w wr ∧ (ws.take k).map (inR lo hi) = zs.map some) (fun _ i _ => ws.length - (intOf i).toNat)
  case atStart => exact ⟨0, [], by omega, rfl, rfl, O0.out, by simp, B0.out, by simp⟩
  case round =>
    obtain ⟨k, zs, hk, hz, rfl, hown, hne, hbel, hmap⟩ := hrel
    have O := hid hown
    have NE := hid hne
    have B := hid hbel
    have M := hid hmap
    have Z := hid hz
    clear hown hne hbel hmap hz
    by_cases hlt : k < ws.length
    · have LT := hid hlt
      have h1 := cell_stays B.out (AA.out k hlt)
      have CR := hid (c_readWhole (wat ws k) (HS.out k hlt) wr (TT.out.below B.out) (EE.out.below B.out))
      cases hw : wholeOf (wat ws k) with
      | none =>
        have hN : inR lo hi (wat ws k) = none := by unfold inR; rw [hw]
        have BAD : Hid (∃ k, k < ws.length ∧ inR lo hi (wat ws k) = none) := hid ⟨k, hlt, hN⟩
        rw [hw] at CR
        clear hN
        generalize wat ws k = s at *
        go_wp2_with (first | (go_at_call 57; refine CR.out.mono ?_; rintro e w2 ⟨⟨r, rfl, _⟩, h2⟩; have D2 := hid (below_trans B.out h2 B.out.size); clear h2) | (go_at_call 58; refine (c_within _ _ _ _).mono ?_; rintro e w' ⟨rfl, rfl⟩))
        go_ret2
        exact ⟨.inr ⟨BAD.out, rfl⟩, D2.out⟩
      | some x =>
        rw [hw] at CR
        by_cases hin : lo ≤ x ∧ x ≤ hi
        · have hS : inR lo hi (wat ws k) = some x := inR_iff.2 ⟨hw, hin⟩
          have GOOD := hid (wat_take M.out hlt hS)
          have IN : inB x lo hi = true := by simp [inB]; omega
          clear hS
          generalize wat ws k = s at *
          go_wp2_with (first | (go_at_call 57; refine CR.out.mono ?_; rintro e w2 ⟨⟨r, rfl, hr⟩, h2⟩; obtain rfl : r = x := hr x rfl; have D2 := hid (below_trans B.out h2 B.out.size); have D2' := hid h2; clear h2) | (go_at_call 58; refine (c_within _ _ _ _).mono ?_; rintro e w' ⟨rfl, rfl⟩; rw [IN]) | (at_builtin; refine wpList_append_own _ rfl _ _ 80 rfl w.heap.size 2 i0 (.int .i64 0) 1 8 Tryd.underlying80 HI.out HZ0.out HZ1.out HZ2.out rfl (by decide) _ _ _ rfl ((ownsS_below O.out D2'.out).alloc _) ⟨w2.heap.size, 0, none⟩ 1 1 [.int .i64 r] rfl rfl (one_at _ _ _) (one_cellI _) (by have := HL.out; unfold maxLen; omega) (by have := HL.out; omega) (by have h1 := B.out.size; have h2 := D2'.out.size; simp; omega) ?_; intro v' w3 hown' hgrow hnil; have NE2 : Hid (v' ≠ .slice none 0 0) := hid (fun e => NE.out (hnil.1 e).1); have O1 := hid hown'; have B1 := hid (appT D2.out (Nat.le_trans B.out.size D2'.out.size) (ownsS_below O.out D2'.out) hgrow); clear hown' hgrow hnil))
          have e1 : wrap64 ((k : Int) + 1) = ((k + 1 : Nat) : Int) := by have := LT.out; have := HL.out; unfold wrap64; omega
          rw [e1]
          exact ⟨⟨k + 1, zs ++ [r], by have := LT.out; omega, by simp [Z.out], rfl, by rw [show vints (zs ++ [r]) = vints zs ++ [Value.int .i64 r] from by simp [vints]]; exact O1.out, NE2.out, B1.out, GOOD.out⟩, by have := LT.out; simp [intOf]; omega⟩
        · have hN : inR lo hi (wat ws k) = none := by unfold inR; rw [hw]; simp only; rw [if_neg hin]
          have BAD : Hid (∃ k, k < ws.length ∧ inR lo hi (wat ws k) = none) := hid ⟨k, hlt, hN⟩
          have IN : inB x lo hi = false := by simp [inB]; omega
          clear hN
          generalize wat ws k = s at *
          go_wp2_with (first | (go_at_call 57; refine CR.out.mono ?_; rintro e w2 ⟨⟨r, rfl, hr⟩, h2⟩; obtain rfl : r = x := hr x rfl; have D2 := hid (below_trans B.out h2 B.out.size); clear h2) | (go_at_call 58; refine (c_within _ _ _ _).mono ?_; rintro e w' ⟨rfl, rfl⟩; rw [IN]))
          go_ret2
          exact ⟨.inr ⟨BAD.out, rfl⟩, D2.out⟩
    · obtain rfl : k = ws.length := by omega
      have m := M.out
      rw [List.take_length] at m
      obtain ⟨b, cb, rfl, hc, _⟩ := own_int Z.out NE.out O.out
      have HC := hid hc
      have HM := hid m
      clear hc m
      go_wp2
      go_ret2
      exact ⟨.inl ⟨zs, b, cb, HM.out, rfl, HC.out⟩, B.out⟩
end Go.Proofs.YtdcjoafagalejaaDoor
