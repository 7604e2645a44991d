/- FnSums returns true for all arguments: for any two slices of bytes (longer ones than 4096 bytes are let go by) all that the statement compares holds. No condition. -/
import Derived.Test.YtpaoccnffmngfaaSumsW
import Derived.Test.YtpaoccnffmngfaaByts
namespace Go.Proofs.Ytpaoccnffmngfaa.lawSums
set_option maxRecDepth 20000
open Go.ChangeShapes Go.WideShapes Go.ChangeAt Go.RowKit Go.Proofs.Ytpaoccnffmngfaa

set_option maxHeartbeats 8000000 in
theorem walk (a0 : Option Addr) (n0 c0 : Nat) (a1 : Option Addr) (n1 c1 : Nat) (w : World) (_m0 : n0 ≤ 9223372036854775807) (x0 : Bts w a0 n0) (_m1 : n1 ≤ 9223372036854775807) (x1 : Bts w a1 n1) :
    Calls Try.prog 3 #[.slice a0 n0 c0, .slice a1 n1 c1] w fun e w' => e = .returned (.bool true) ∧ Below w.heap.size w w' := by
  have X0 := hid x0
  have X1 := hid x1
  clear x0 x1
  by_cases hn0 : n0 ≤ 4096
  case neg =>
    have e0 : decide (4096 < n0) = true := by simp; omega
    go_enter Try.func3, Try.ntmps3
    go_wp2_with (go_at_call 4; refine (c_f6big _ _ _ _).mono ?_; rintro e w' ⟨rfl, rfl⟩; rw [e0])
    go_ret
    exact ⟨rfl, Below.refl _ _⟩
  have e0 : decide (4096 < n0) = false := by simp; omega
  by_cases hn1 : n1 ≤ 4096
  case neg =>
    have e1 : decide (4096 < n1) = true := by simp; omega
    go_enter Try.func3, Try.ntmps3
    go_wp2_with (go_at_call 4; first | (with_reducible refine (c_f6big a0 n0 c0 _).mono ?_; rintro e w' ⟨rfl, rfl⟩; rw [e0]) | (with_reducible refine (c_f6big a1 n1 c1 _).mono ?_; rintro e w' ⟨rfl, rfl⟩; rw [e1]))
    go_ret
    exact ⟨rfl, Below.refl _ _⟩
  have e1 : decide (4096 < n1) = false := by simp; omega
  have HN0 := hid hn0
  have HN1 := hid hn1
  clear hn0 hn1
  go_enter Try.func3, Try.ntmps3
  go_wp2_with (go_at_call 4; first | (with_reducible refine (c_f6big a0 n0 c0 _).mono ?_; rintro e w' ⟨rfl, rfl⟩; rw [e0]) | (with_reducible refine (c_f6big a1 n1 c1 _).mono ?_; rintro e w' ⟨rfl, rfl⟩; rw [e1]))
  refine (c_list w a0 n0 c0 12 (by omega) HN0.out X0.out).mono ?_
  rintro e w1 ⟨⟨g, k, cb, xs, rfl, hc, hk, F, hv⟩, hb⟩
  have F1 := hid F
  have V1 := hid hv
  have B1 := hid hb
  have E1 := hid (Below.refl w1.heap.size w1)
  have HC := hid hc
  have HK := hid hk
  obtain ⟨il, cl, dl⟩ := both_Left cb F hv
  obtain ⟨ir, cr, dr⟩ := both_Right cb F hv
  obtain ⟨ip, cp, dp⟩ := both_Pairs cb F hv hc
  obtain ⟨ik, ck, dk⟩ := both_Kept cb F hv
  obtain ⟨iw, cw, dw⟩ := both_Wide cb F hv
  obtain ⟨is, cs, ds⟩ := both_Small cb F hv
  obtain ⟨fl, hfl⟩ : ∃ f, f = leftOf xs := ⟨_, rfl⟩
  have HFL := hid hfl
  rw [← hfl] at il cl dl
  generalize rightOf xs = fr at ir cr dr
  generalize pairsOf xs = fp at ip cp dp
  generalize keptOf xs = fk at ik ck dk
  generalize wideOf xs = fw at iw cw dw
  generalize smallOf xs = fs at is cs ds
  have Il := hid il
  have Cl := hid cl
  have Dl := hid dl
  have Ir := hid ir
  have Cr := hid cr
  have Dr := hid dr
  have Ip := hid ip
  have Cp := hid cp
  have Dp := hid dp
  have Ik := hid ik
  have Ck := hid ck
  have Dk := hid dk
  have Iw := hid iw
  have Cw := hid cw
  have Dw := hid dw
  have Is := hid is
  have Cs := hid cs
  have Ds := hid ds
  clear F hv hb hc hk hfl il cl dl ir cr dr ip cp dp ik ck dk iw cw dw is cs ds e0 e1 HN0 X0
  have E1 := E1
  go_wp2_with fail
  refine (Cl.out _ (F1.out.below E1.out)).mono ?_
  rintro e w2 ⟨rfl, hb⟩
  have B2 := hid (below_trans B1.out hb B1.out.size)
  have E2 := hid (below_trans E1.out hb E1.out.size)
  clear hb
  clear B1 E1
  go_wp2_with fail
  refine (Cr.out _ (F1.out.below E2.out)).mono ?_
  rintro e w3 ⟨rfl, hb⟩
  have B3 := hid (below_trans B2.out hb B2.out.size)
  have E3 := hid (below_trans E2.out hb E2.out.size)
  clear hb
  clear B2 E2
  go_wp2_with fail
  refine (Cp.out _ (F1.out.below E3.out)).mono ?_
  rintro e w4 ⟨rfl, hb⟩
  have B4 := hid (below_trans B3.out hb B3.out.size)
  have E4 := hid (below_trans E3.out hb E3.out.size)
  clear hb
  clear B3 E3
  go_wp2_with fail
  refine (Ck.out _ (F1.out.below E4.out)).mono ?_
  rintro e w5 ⟨rfl, hb⟩
  have B5 := hid (below_trans B4.out hb B4.out.size)
  have E5 := hid (below_trans E4.out hb E4.out.size)
  clear hb
  clear B4 E4
  go_wp2_with fail
  refine (Cw.out _ (F1.out.below E5.out)).mono ?_
  rintro e w6 ⟨rfl, hb⟩
  have B6 := hid (below_trans B5.out hb B5.out.size)
  have E6 := hid (below_trans E5.out hb E5.out.size)
  clear hb
  clear B5 E5
  go_wp2_with fail
  refine (Cs.out _ (F1.out.below E6.out)).mono ?_
  rintro e w7 ⟨rfl, hb⟩
  have B7 := hid (below_trans B6.out hb B6.out.size)
  have E7 := hid (below_trans E6.out hb E6.out.size)
  clear hb
  clear B6 E6
  go_wp2_with fail
  refine (Dl.out _ (F1.out.below E7.out)).mono ?_
  rintro e w8 ⟨rfl, hb⟩
  have B8 := hid (below_trans B7.out hb B7.out.size)
  have E8 := hid (below_trans E7.out hb E7.out.size)
  clear hb
  clear B7 E7
  go_wp2_with fail
  refine (Dr.out _ (F1.out.below E8.out)).mono ?_
  rintro e w9 ⟨rfl, hb⟩
  have B9 := hid (below_trans B8.out hb B8.out.size)
  have E9 := hid (below_trans E8.out hb E8.out.size)
  clear hb
  clear B8 E8
  go_wp2_with fail
  refine (Dp.out _ (F1.out.below E9.out)).mono ?_
  rintro e w10 ⟨rfl, hb⟩
  have B10 := hid (below_trans B9.out hb B9.out.size)
  have E10 := hid (below_trans E9.out hb E9.out.size)
  clear hb
  clear B9 E9
  go_wp2_with fail
  refine (Dk.out _ (F1.out.below E10.out)).mono ?_
  rintro e w11 ⟨rfl, hb⟩
  have B11 := hid (below_trans B10.out hb B10.out.size)
  have E11 := hid (below_trans E10.out hb E10.out.size)
  clear hb
  clear B10 E10
  go_wp2_with fail
  refine (Dw.out _ (F1.out.below E11.out)).mono ?_
  rintro e w12 ⟨rfl, hb⟩
  have B12 := hid (below_trans B11.out hb B11.out.size)
  have E12 := hid (below_trans E11.out hb E11.out.size)
  clear hb
  clear B11 E11
  go_wp2_with fail
  refine (Ds.out _ (F1.out.below E12.out)).mono ?_
  rintro e w13 ⟨rfl, hb⟩
  have B13 := hid (below_trans B12.out hb B12.out.size)
  have E13 := hid (below_trans E12.out hb E12.out.size)
  clear hb
  clear B12 E12
  clear Cr Cp Ck Cw Cs Dl Dr Dp Dk Dw Ds
  have X1b := hid (bts_below X1.out B13.out)
  go_wp2_with (go_at_call 18; first | (with_reducible refine (c_SameNumber Il.out _).mono ?_; rintro e w' ⟨rfl, rfl⟩) | (with_reducible refine (c_SameNumber Ir.out _).mono ?_; rintro e w' ⟨rfl, rfl⟩) | (with_reducible refine (c_SameNumber Ip.out _).mono ?_; rintro e w' ⟨rfl, rfl⟩) | (with_reducible refine (c_SameNumber Ik.out _).mono ?_; rintro e w' ⟨rfl, rfl⟩) | (with_reducible refine (c_SameNumber Iw.out _).mono ?_; rintro e w' ⟨rfl, rfl⟩) | (with_reducible refine (c_SameNumber Is.out _).mono ?_; rintro e w' ⟨rfl, rfl⟩))
  refine (c_whole _ a1 n1 c1 HN1.out X1b.out).mono ?_
  rintro e w14 ⟨⟨gz, m, cz, ys, zs, rfl, hcz, hm, G, hv2, hz⟩, hb⟩
  have B14 := hid (below_trans B13.out hb B13.out.size)
  have E14 := hid (below_trans E13.out hb E13.out.size)
  have Z14 := hid (Below.refl w14.heap.size w14)
  have G0 := hid G
  have GZ := hid hz
  have HM := hid hm
  obtain ⟨y0, y3, y2, t, ht, i0, i3, i2, tb, q0, q3, q2, qa⟩ := whole_words cz G hv2 hz hm hcz
  have HT := hid ht
  have TB := hid tb
  have r0 : ∀ wx, (convert 26 2 (.float .f32 y0)).run Try.prog wx = .ok (.int .i64 t) wx := run_toI i0 (by omega)
  have r3 : ∀ wx, (convert 26 2 (.float .f32 y3)).run Try.prog wx = .ok (.int .i64 t) wx := run_toI i3 (by omega)
  have r2 : ∀ wx, (convert 26 2 (.float .f32 y2)).run Try.prog wx = .ok (.int .i64 t) wx := run_toI i2 (by omega)
  have R0 := hid r0
  have R3 := hid r3
  have R2 := hid r2
  have Q0 := hid q0
  have Q3 := hid q3
  have Q2 := hid q2
  have QA := hid qa
  clear hb G hz hm hcz hv2 ht tb i0 i3 i2 r0 r3 r2 q0 q3 q2 qa X1b B13 E13
  go_wp2_with fail
  go_loopw [31, 32] (fun s i wr => ∃ j : Nat, j ≤ m ∧ s = .int .i64 (sumK zs j) ∧ i = .int .i64 j ∧ Below w14.heap.size w14 wr) (fun _ i _ => m - (intOf i).toNat)
  case atStart => exact ⟨0, by omega, rfl, rfl, Below.refl _ _⟩
  case round =>
    obtain ⟨j, hj, rfl, rfl, hbel⟩ := hrel
    have D := hid hbel
    clear hbel
    by_cases hlt : j < m
    · obtain ⟨b1, o1, e1, hc1⟩ := (G0.out.below D.out).at_ (by omega)
      have h1 := hc1 j hlt
      have hb0 := GZ.out.bnd j (by rw [G0.out.len]; exact hlt)
      have hb1 := sumK_bnd GZ.out.bnd j (by rw [G0.out.len]; omega)
      have hI := GZ.out.at_ j (by rw [G0.out.len]; exact hlt)
      have ha : ∀ wx, (convert 26 2 (.float .f32 (fat ys j))).run Try.prog wx = .ok (.int .i64 (iat zs j)) wx := run_toI hI (by omega)
      have hm8 := HM.out
      have hs : sumK zs (j + 1) = sumK zs j + iat zs j := rfl
      have HS := hid hs
      clear hc1 hI hs
      generalize sumK zs j = s at *
      generalize iat zs j = z at *
      have s1 : -10000 ≤ s ∧ s ≤ 10000 := by omega
      cases e1
      rw [Nat.zero_add] at h1
      go_wp2
      exact ⟨⟨j + 1, by omega, by rw [HS.out], rfl, ⟨D.out.os, D.out.tape, D.out.output, D.out.size, D.out.block⟩⟩, by simp [intOf] <;> omega⟩
    · obtain rfl : j = m := by omega
      have hs : sumK zs j = t := HT.out
      have B := hid (below_trans B14.out D.out B14.out.size)
      have E := hid (below_trans E14.out D.out E14.out.size)
      have Z := hid (below_trans Z14.out D.out Z14.out.size)
      rw [hs]
      clear hs HT GZ HM D hlt hj
      clear B14 E14 Z14
      go_wp2_with fail
      refine (Q0.out _ (G0.out.below Z.out)).mono ?_
      rintro e w15 ⟨rfl, hb⟩
      replace B := hid (below_trans B.out hb B.out.size)
      replace E := hid (below_trans E.out hb E.out.size)
      replace Z := hid (below_trans Z.out hb Z.out.size)
      clear hb
      go_wp2_with fail
      refine (Q3.out _ (G0.out.below Z.out)).mono ?_
      rintro e w16 ⟨rfl, hb⟩
      replace B := hid (below_trans B.out hb B.out.size)
      replace E := hid (below_trans E.out hb E.out.size)
      replace Z := hid (below_trans Z.out hb Z.out.size)
      clear hb
      go_wp2_with fail
      refine (Q2.out _ (G0.out.below Z.out)).mono ?_
      rintro e w17 ⟨rfl, hb⟩
      replace B := hid (below_trans B.out hb B.out.size)
      replace E := hid (below_trans E.out hb E.out.size)
      replace Z := hid (below_trans Z.out hb Z.out.size)
      clear hb
      go_wp2_with fail
      refine (QA.out _ (G0.out.below Z.out)).mono ?_
      rintro e w18 ⟨rfl, hb⟩
      replace B := hid (below_trans B.out hb B.out.size)
      replace E := hid (below_trans E.out hb E.out.size)
      clear hb
      have r0 := R0.out
      have r3 := R3.out
      have r2 := R2.out
      have tb := TB.out
      clear Q0 Q3 Q2 QA Z G0 R0 R3 R2 TB
      obtain ⟨ao, aq, ha0, ai, as'⟩ := both_Apart cb F1.out HC.out
      obtain ⟨rs, hrl, hrr, hre, ri, rj⟩ := both_Run cb F1.out V1.out HC.out
      have HA := hid ha0
      have AI := hid ai
      have AS := hid as'
      have RL := hid hrl
      have RR := hid hrr
      have RE := hid hre
      have RI := hid ri
      have RJ := hid rj
      clear ha0 ai as' hrl hrr hre ri rj
      go_wp2_with fail
      refine (AI.out _ (F1.out.below E.out)).mono ?_
      rintro e w19 ⟨rfl, hb⟩
      replace B := hid (below_trans B.out hb B.out.size)
      replace E := hid (below_trans E.out hb E.out.size)
      clear hb
      clear r0 r3 r2 tb
      go_wp2_with fail
      refine (AS.out _ (F1.out.below E.out)).mono ?_
      rintro e w20 ⟨rfl, hb⟩
      replace B := hid (below_trans B.out hb B.out.size)
      replace E := hid (below_trans E.out hb E.out.size)
      clear hb
      go_wp2_with fail
      refine (RI.out _ (F1.out.below E.out)).mono ?_
      rintro e w21 ⟨⟨ru, ruc, rfl, hu⟩, hb⟩
      replace B := hid (below_trans B.out hb B.out.size)
      replace E := hid (below_trans E.out hb E.out.size)
      have U := hid hu
      clear hu
      clear hb
      go_wp2_with fail
      refine (RJ.out _ (F1.out.below E.out)).mono ?_
      rintro e w22 ⟨⟨rv, rvc, rfl, hu⟩, hb⟩
      replace B := hid (below_trans B.out hb B.out.size)
      replace E := hid (below_trans E.out hb E.out.size)
      have W0 := hid hu
      have U1 := hid (U.out.below hb)
      clear hu U
      clear hb
      have U := U1
      clear U1
      have ha0 := HA.out
      have kk := HK.out
      have CSL : Hid (Calls Try.prog 24 #[.slice ru k ruc, .slice rv k rvc] w22 fun e w' => e = .returned (.bool true) ∧ Below w22.heap.size w22 w') := hid (by
        have := c_specSameList ru rv k k ruc rvc rs rs _ U.out W0.out
        rwa [RR.out] at this)
      clear AI AS RI RJ
      by_cases k0 : k = 0
      · have kz : ¬ (0 : Int) < k := by omega
        clear RE k0
        go_wp2_with (first | (go_at_call 24; refine CSL.out.mono ?_; rintro e wq ⟨rfl, hq⟩; replace B := hid (below_trans B.out hq B.out.size); replace E := hid (below_trans E.out hq E.out.size); have X1b := hid (bts_below X1.out B.out); clear hq CSL U W0) | (go_at_call 18; first | (with_reducible refine (c_SameNumber Il.out _).mono ?_; rintro e w' ⟨rfl, rfl⟩)))
        refine (c_list _ a1 n1 c1 5 (by omega) HN1.out X1b.out).mono ?_
        rintro e w23 ⟨⟨gf, m5, cf, us, rfl, hcf, hm, G, hv2⟩, hb⟩
        replace B := hid (below_trans B.out hb B.out.size)
        replace E := hid (below_trans E.out hb E.out.size)
        have C := hid (Below.refl w23.heap.size w23)
        have G0 := hid G
        have HM := hid hm
        obtain ⟨p, s, gp, gl, gs, gi, gpl, gv, glt, grt, gI, gS⟩ := both_Great cf G hv2 (by omega)
        obtain ⟨il2, cl2, _⟩ := both_Left cf G hv2
        obtain ⟨ir2, cr2, _⟩ := both_Right cf G hv2
        have ng1 : fGt (leftOf us) s = false := by rw [fGt_fin' il2 gi]; simp; omega
        have ng2 : fGt (rightOf us) s = false := by rw [fGt_fin' ir2 gi]; simp; omega
        have GP := hid gp
        have GL := hid gl
        have GS := hid gs
        have GV := hid gv
        have GPL := hid gpl
        have Ig := hid gi
        have GI := hid gI
        have GSP := hid gS
        have CL2 := hid cl2
        have CR2 := hid cr2
        have NG1 := hid ng1
        have NG2 := hid ng2
        generalize leftOf us = x6 at NG1 CL2
        generalize rightOf us = x7 at NG2 CR2
        clear hb G hv2 hm hcf gp gl gs gi gpl gv glt grt gI gS il2 ir2 cl2 cr2 ng1 ng2 X1b X1 ha0 HA kk kz
        go_wp2_with fail
        refine (GI.out _ (G0.out.below C.out)).mono ?_
        rintro e w24 ⟨⟨v1, rfl, hu⟩, hb⟩
        replace B := hid (below_trans B.out hb B.out.size)
        replace E := hid (below_trans E.out hb E.out.size)
        replace C := hid (below_trans C.out hb C.out.size)
        have U := hid hu
        clear hu GI
        clear hb
        go_wp2_with fail
        refine (GSP.out _ (G0.out.below C.out)).mono ?_
        rintro e w25 ⟨⟨v2, rfl, hu⟩, hb⟩
        replace B := hid (below_trans B.out hb B.out.size)
        replace E := hid (below_trans E.out hb E.out.size)
        replace C := hid (below_trans C.out hb C.out.size)
        have W0 := hid hu
        have U1 := hid (U.out.below hb)
        clear hu U GSP
        clear hb
        have U := U1
        clear U1
        have CSN : Hid (∀ w, Ints w v1 p → Ints w v2 p → Calls Try.prog 27 #[v1, v2] w fun e w' => e = .returned (.bool true) ∧ Below w.heap.size w w') := hid (fun w h1 h2 => c_SameNumbers v1 v2 p (by have := GL.out; have := HM.out; omega) w h1 h2)
        obtain ⟨av, cv, hve, _, hcell⟩ := W0.out.any
        have HCL := hid hcell
        have HV := hid hve
        rw [GL.out] at hve
        have HV2 := hid hve
        clear hcell hve
        have wc := hid (rfl : w25 = w25)
        clear wc
        obtain ⟨i0, hi, hz0, hz1, hz2⟩ := info_parts info_f32
        have HI := hid hi
        have HZ0 := hid hz0
        have HZ1 := hid hz1
        have HZ2 := hid hz2
        clear hi hz0 hz1 hz2
        have O0 := hid (owns_empty w25 26)
        have D0 : Hid (Below w25.heap.size w25 (w25.alloc (.cells #[] 26))) := hid ((Below.refl _ _).alloc (Nat.le_refl _) _)
        have hv2e : v2 = .slice av m5 cv := HV2.out
        subst hv2e
        go_wp2_with fail
        go_loopw [56, 57] (fun v i wr => ∃ j : Nat, j ≤ m5 ∧ i = .int .i64 j ∧ wr.ownsRow w25.heap.size 26 1 v j (((picks us p).take j).map (Value.float .f32)) ∧ Below w25.heap.size w25 wr) (fun _ i _ => m5 - (intOf i).toNat)
        case atStart => exact ⟨0, by omega, rfl, O0.out, D0.out⟩
        case round =>
          obtain ⟨j, hj, rfl, hown, hbel⟩ := hrel
          have O := hid hown
          have D := hid hbel
          clear hown hbel
          by_cases hlt : j < m5
          · obtain ⟨bv, ov, hve, hc1⟩ := HCL.out (by rw [GL.out]; omega)
            have h1 := cell_stays D.out (hc1 j (by rw [GL.out]; exact hlt))
            obtain ⟨bf, off, hfe, hc2⟩ := (G0.out.below (below_trans C.out D.out C.out.size)).at_ (by omega)
            have hmem := GP.out.mem _ (iat_mem (p := p) (k := j) (by rw [GL.out]; exact hlt))
            obtain ⟨q, hq⟩ : ∃ q : Nat, iat p j = q := ⟨(iat p j).toNat, by omega⟩
            have hqm : q < m5 := by omega
            have h2 := hc2 q hqm
            have hm5 := HM.out
            have HT := hid (picks_take (xs := us) (p := p) (k := j) (by rw [GL.out]; exact hlt))
            rw [hq] at h1 HT
            have HT2 : Hid ((picks us p).take (j + 1) = (picks us p).take j ++ [fat us q]) := HT
            clear hc1 hc2 hmem hq HT
            cases hve
            cases hfe
            rw [Nat.zero_add] at h2
            generalize fat us q = x at *
            go_wp2_with (at_builtin; refine wpList_append_own _ rfl _ _ 24 rfl w25.heap.size 26 i0 (.float .f32 0) 1 4 Try.underlying24 HI.out HZ0.out HZ1.out HZ2.out rfl (by decide) _ _ _ rfl (O.out.alloc _) ⟨wr.heap.size, 0, none⟩ 1 1 [.float .f32 x] rfl rfl (one_at _ _ _) (one_cell _) (by unfold maxLen; omega) (by omega) (by have := D.out.size; simp; omega) ?_; intro v' w1x hown' hgrow _)
            have O1 := hid hown'
            have B1x := hid (append_below D.out O.out hgrow)
            clear hown' hgrow
            go_wp2
            exact ⟨⟨j + 1, by omega, rfl, by rw [HT2.out, List.map_append]; exact O1.out, B1x.out⟩, by simp [intOf]; omega⟩
          · obtain rfl : j = m5 := by omega
            have hall : (picks us p).take j = picks us p := by rw [← GL.out, ← picks_len us p, List.take_length]
            rw [hall] at O
            replace B := hid (below_trans B.out D.out B.out.size)
            replace E := hid (below_trans E.out D.out E.out.size)
            replace C := hid (below_trans C.out D.out C.out.size)
            obtain ⟨at_, ct, hte, VT⟩ := own_VL O.out (by rw [picks_len, GL.out]) GPL.out (by have := HM.out; omega)
            have D0b := D
            clear hall O D
            have UU := hid (U.out.below D0b.out)
            have WW := hid (W0.out.below D0b.out)
            clear U W0
            have FT := hid VT.fl
            have CT : Hid (∀ w, Flts w at_ j (picks us p) → Calls Try.prog 6 #[.slice at_ j ct] w fun e w' => e = .returned (.tuple #[.float .f32 s, .int .i64 0]) ∧ Below w.heap.size w w') := hid (fun w h => by
              have := c_implSumLeft _ j ct (picks us p) w h
              rwa [sumN_yes GV.out, code_yes GV.out, GS.out] at this)
            subst hte
            go_wp2_with fail
            refine (CT.out _ FT.out).mono ?_
            rintro e w26 ⟨rfl, hb⟩
            replace B := hid (below_trans B.out hb B.out.size)
            replace E := hid (below_trans E.out hb E.out.size)
            replace C := hid (below_trans C.out hb C.out.size)
            replace UU := hid (UU.out.below hb)
            replace WW := hid (WW.out.below hb)
            clear hb
            clear CT FT VT
            go_wp2_with fail
            refine (CL2.out _ (G0.out.below C.out)).mono ?_
            rintro e w27 ⟨rfl, hb⟩
            replace B := hid (below_trans B.out hb B.out.size)
            replace E := hid (below_trans E.out hb E.out.size)
            replace C := hid (below_trans C.out hb C.out.size)
            replace UU := hid (UU.out.below hb)
            replace WW := hid (WW.out.below hb)
            clear hb
            go_wp2_with fail
            refine (CR2.out _ (G0.out.below C.out)).mono ?_
            rintro e w28 ⟨rfl, hb⟩
            replace B := hid (below_trans B.out hb B.out.size)
            replace E := hid (below_trans E.out hb E.out.size)
            replace C := hid (below_trans C.out hb C.out.size)
            replace UU := hid (UU.out.below hb)
            replace WW := hid (WW.out.below hb)
            clear hb
            have ng1 := NG1.out
            have ng2 := NG2.out
            unfold fGt at ng1 ng2
            have hm5 := HM.out
            obtain ⟨d, di, dg, ci, ds2⟩ := both_Dot cb F1.out V1.out
            have Id := hid di
            have DG := hid dg
            have CI := hid ci
            have CS2 := hid ds2
            clear di dg ci ds2 NG1 NG2 CL2 CR2 C G0
            go_wp2_with (first | (go_at_call 27; refine (CSN.out _ UU.out WW.out).mono ?_; rintro e wq ⟨rfl, hq⟩; replace B := hid (below_trans B.out hq B.out.size); replace E := hid (below_trans E.out hq E.out.size); clear hq CSN UU WW) | (go_at_call 18; first | (with_reducible refine (c_SameNumber Ig.out _).mono ?_; rintro e w' ⟨rfl, rfl⟩)))
            refine (CI.out _ (F1.out.below E.out)).mono ?_
            rintro e w29 ⟨rfl, hb⟩
            replace B := hid (below_trans B.out hb B.out.size)
            replace E := hid (below_trans E.out hb E.out.size)
            clear hb ng1 ng2
            go_wp2_with fail
            refine (CS2.out _ (F1.out.below E.out)).mono ?_
            rintro e w30 ⟨rfl, hb⟩
            replace B := hid (below_trans B.out hb B.out.size)
            replace E := hid (below_trans E.out hb E.out.size)
            have O0 := hid (owns_empty w30 26)
            have D0 : Hid (Below w30.heap.size w30 (w30.alloc (.cells #[] 26))) := hid ((Below.refl _ _).alloc (Nat.le_refl _) _)
            clear hb
            have kk := HK.out
            go_wp2_with fail
            go_loopw [68, 69] (fun v i wr => ∃ j : Nat, j ≤ k ∧ i = .int .i64 j ∧ wr.ownsRow w30.heap.size 26 1 v j ((onesL j).map (Value.float .f32)) ∧ Below w30.heap.size w30 wr) (fun _ i _ => k - (intOf i).toNat)
            case atStart => exact ⟨0, by omega, rfl, O0.out, D0.out⟩
            case round =>
              obtain ⟨j, hj, rfl, hown, hbel⟩ := hrel
              have O := hid hown
              have D := hid hbel
              clear hown hbel
              by_cases hlt : j < k
              · exfalso; omega
              · obtain rfl : j = k := by omega
                replace B := hid (below_trans B.out D.out B.out.size)
                replace E := hid (below_trans E.out D.out E.out.size)
                obtain ⟨ha1, ha2⟩ := dot_again F1.out V1.out
                have pl1 : Plains (onesL j) := fun i hi => by
                  have hi2 : i < j := by simpa [onesL] using hi
                  have e : fat (onesL j) i = 1065353216 := by simp [onesL, fat, hi2]
                  rw [e]; exact ⟨by decide, by decide⟩
                obtain ⟨ao1, ct1, hte, VT⟩ := own_VL O.out (by simp [onesL]) pl1 (by omega)
                have FT := hid VT.fl
                have CT := hid (c_implDotOf _ _ j j cb ct1 xs (onesL j) _ (F1.out.below E.out) FT.out)
                rw [ha1, ha2, ← HFL.out] at CT
                have gd : fGe d 0 = true := by rw [fGe_fin Id.out (by decide)]; have := DG.out; simpa [fx_zero0] using this
                clear ha1 ha2 pl1 O D VT
                subst hte
                go_wp2_with fail
                refine CT.out.mono ?_
                rintro e w31 ⟨rfl, hb⟩
                replace B := hid (below_trans B.out hb B.out.size)
                clear hb CT FT E
                unfold fGe at gd
                go_wp2_with (go_at_call 18; first | (with_reducible refine (c_SameNumber Id.out _).mono ?_; rintro e w' ⟨rfl, rfl⟩) | (with_reducible refine (c_SameNumber Il.out _).mono ?_; rintro e w' ⟨rfl, rfl⟩))
                go_ret
                exact ⟨rfl, B.out⟩
      · have ek : (k : Int) - 1 = ((k - 1 : Nat) : Int) := by omega
        have hre := RE.out (by omega)
        obtain ⟨bv, ov, hve, hcv⟩ := W0.out.at_ (by omega)
        have h1 := hcv (k - 1) (by omega)
        rw [hre, ← HFL.out] at h1
        have qk : k - 1 < k := by omega
        generalize k - 1 = q at *
        have kz : (0 : Int) < k := by omega
        subst hve
        clear RE k0 hcv hre
        go_wp2_with (first | (go_at_call 24; refine CSL.out.mono ?_; rintro e wq ⟨rfl, hq⟩; replace B := hid (below_trans B.out hq B.out.size); replace E := hid (below_trans E.out hq E.out.size); have X1b := hid (bts_below X1.out B.out); replace h1 := cell_stays hq h1; clear hq CSL U W0) | (go_at_call 18; first | (with_reducible refine (c_SameNumber Il.out _).mono ?_; rintro e w' ⟨rfl, rfl⟩)))
        refine (c_list _ a1 n1 c1 5 (by omega) HN1.out X1b.out).mono ?_
        rintro e w23 ⟨⟨gf, m5, cf, us, rfl, hcf, hm, G, hv2⟩, hb⟩
        replace B := hid (below_trans B.out hb B.out.size)
        replace E := hid (below_trans E.out hb E.out.size)
        have C := hid (Below.refl w23.heap.size w23)
        have G0 := hid G
        have HM := hid hm
        obtain ⟨p, s, gp, gl, gs, gi, gpl, gv, glt, grt, gI, gS⟩ := both_Great cf G hv2 (by omega)
        obtain ⟨il2, cl2, _⟩ := both_Left cf G hv2
        obtain ⟨ir2, cr2, _⟩ := both_Right cf G hv2
        have ng1 : fGt (leftOf us) s = false := by rw [fGt_fin' il2 gi]; simp; omega
        have ng2 : fGt (rightOf us) s = false := by rw [fGt_fin' ir2 gi]; simp; omega
        have GP := hid gp
        have GL := hid gl
        have GS := hid gs
        have GV := hid gv
        have GPL := hid gpl
        have Ig := hid gi
        have GI := hid gI
        have GSP := hid gS
        have CL2 := hid cl2
        have CR2 := hid cr2
        have NG1 := hid ng1
        have NG2 := hid ng2
        generalize leftOf us = x6 at NG1 CL2
        generalize rightOf us = x7 at NG2 CR2
        clear hb G hv2 hm hcf gp gl gs gi gpl gv glt grt gI gS il2 ir2 cl2 cr2 ng1 ng2 X1b X1 ha0 HA kk kz h1 ek qk
        go_wp2_with fail
        refine (GI.out _ (G0.out.below C.out)).mono ?_
        rintro e w24 ⟨⟨v1, rfl, hu⟩, hb⟩
        replace B := hid (below_trans B.out hb B.out.size)
        replace E := hid (below_trans E.out hb E.out.size)
        replace C := hid (below_trans C.out hb C.out.size)
        have U := hid hu
        clear hu GI
        clear hb
        go_wp2_with fail
        refine (GSP.out _ (G0.out.below C.out)).mono ?_
        rintro e w25 ⟨⟨v2, rfl, hu⟩, hb⟩
        replace B := hid (below_trans B.out hb B.out.size)
        replace E := hid (below_trans E.out hb E.out.size)
        replace C := hid (below_trans C.out hb C.out.size)
        have W0 := hid hu
        have U1 := hid (U.out.below hb)
        clear hu U GSP
        clear hb
        have U := U1
        clear U1
        have CSN : Hid (∀ w, Ints w v1 p → Ints w v2 p → Calls Try.prog 27 #[v1, v2] w fun e w' => e = .returned (.bool true) ∧ Below w.heap.size w w') := hid (fun w h1 h2 => c_SameNumbers v1 v2 p (by have := GL.out; have := HM.out; omega) w h1 h2)
        obtain ⟨av, cv, hve, _, hcell⟩ := W0.out.any
        have HCL := hid hcell
        have HV := hid hve
        rw [GL.out] at hve
        have HV2 := hid hve
        clear hcell hve
        have wc := hid (rfl : w25 = w25)
        clear wc
        obtain ⟨i0, hi, hz0, hz1, hz2⟩ := info_parts info_f32
        have HI := hid hi
        have HZ0 := hid hz0
        have HZ1 := hid hz1
        have HZ2 := hid hz2
        clear hi hz0 hz1 hz2
        have O0 := hid (owns_empty w25 26)
        have D0 : Hid (Below w25.heap.size w25 (w25.alloc (.cells #[] 26))) := hid ((Below.refl _ _).alloc (Nat.le_refl _) _)
        have hv2e : v2 = .slice av m5 cv := HV2.out
        subst hv2e
        go_wp2_with fail
        go_loopw [56, 57] (fun v i wr => ∃ j : Nat, j ≤ m5 ∧ i = .int .i64 j ∧ wr.ownsRow w25.heap.size 26 1 v j (((picks us p).take j).map (Value.float .f32)) ∧ Below w25.heap.size w25 wr) (fun _ i _ => m5 - (intOf i).toNat)
        case atStart => exact ⟨0, by omega, rfl, O0.out, D0.out⟩
        case round =>
          obtain ⟨j, hj, rfl, hown, hbel⟩ := hrel
          have O := hid hown
          have D := hid hbel
          clear hown hbel
          by_cases hlt : j < m5
          · obtain ⟨bv, ov, hve, hc1⟩ := HCL.out (by rw [GL.out]; omega)
            have h1 := cell_stays D.out (hc1 j (by rw [GL.out]; exact hlt))
            obtain ⟨bf, off, hfe, hc2⟩ := (G0.out.below (below_trans C.out D.out C.out.size)).at_ (by omega)
            have hmem := GP.out.mem _ (iat_mem (p := p) (k := j) (by rw [GL.out]; exact hlt))
            obtain ⟨q, hq⟩ : ∃ q : Nat, iat p j = q := ⟨(iat p j).toNat, by omega⟩
            have hqm : q < m5 := by omega
            have h2 := hc2 q hqm
            have hm5 := HM.out
            have HT := hid (picks_take (xs := us) (p := p) (k := j) (by rw [GL.out]; exact hlt))
            rw [hq] at h1 HT
            have HT2 : Hid ((picks us p).take (j + 1) = (picks us p).take j ++ [fat us q]) := HT
            clear hc1 hc2 hmem hq HT
            cases hve
            cases hfe
            rw [Nat.zero_add] at h2
            generalize fat us q = x at *
            go_wp2_with (at_builtin; refine wpList_append_own _ rfl _ _ 24 rfl w25.heap.size 26 i0 (.float .f32 0) 1 4 Try.underlying24 HI.out HZ0.out HZ1.out HZ2.out rfl (by decide) _ _ _ rfl (O.out.alloc _) ⟨wr.heap.size, 0, none⟩ 1 1 [.float .f32 x] rfl rfl (one_at _ _ _) (one_cell _) (by unfold maxLen; omega) (by omega) (by have := D.out.size; simp; omega) ?_; intro v' w1x hown' hgrow _)
            have O1 := hid hown'
            have B1x := hid (append_below D.out O.out hgrow)
            clear hown' hgrow
            go_wp2
            exact ⟨⟨j + 1, by omega, rfl, by rw [HT2.out, List.map_append]; exact O1.out, B1x.out⟩, by simp [intOf]; omega⟩
          · obtain rfl : j = m5 := by omega
            have hall : (picks us p).take j = picks us p := by rw [← GL.out, ← picks_len us p, List.take_length]
            rw [hall] at O
            replace B := hid (below_trans B.out D.out B.out.size)
            replace E := hid (below_trans E.out D.out E.out.size)
            replace C := hid (below_trans C.out D.out C.out.size)
            obtain ⟨at_, ct, hte, VT⟩ := own_VL O.out (by rw [picks_len, GL.out]) GPL.out (by have := HM.out; omega)
            have D0b := D
            clear hall O D
            have UU := hid (U.out.below D0b.out)
            have WW := hid (W0.out.below D0b.out)
            clear U W0
            have FT := hid VT.fl
            have CT : Hid (∀ w, Flts w at_ j (picks us p) → Calls Try.prog 6 #[.slice at_ j ct] w fun e w' => e = .returned (.tuple #[.float .f32 s, .int .i64 0]) ∧ Below w.heap.size w w') := hid (fun w h => by
              have := c_implSumLeft _ j ct (picks us p) w h
              rwa [sumN_yes GV.out, code_yes GV.out, GS.out] at this)
            subst hte
            go_wp2_with fail
            refine (CT.out _ FT.out).mono ?_
            rintro e w26 ⟨rfl, hb⟩
            replace B := hid (below_trans B.out hb B.out.size)
            replace E := hid (below_trans E.out hb E.out.size)
            replace C := hid (below_trans C.out hb C.out.size)
            replace UU := hid (UU.out.below hb)
            replace WW := hid (WW.out.below hb)
            clear hb
            clear CT FT VT
            go_wp2_with fail
            refine (CL2.out _ (G0.out.below C.out)).mono ?_
            rintro e w27 ⟨rfl, hb⟩
            replace B := hid (below_trans B.out hb B.out.size)
            replace E := hid (below_trans E.out hb E.out.size)
            replace C := hid (below_trans C.out hb C.out.size)
            replace UU := hid (UU.out.below hb)
            replace WW := hid (WW.out.below hb)
            clear hb
            go_wp2_with fail
            refine (CR2.out _ (G0.out.below C.out)).mono ?_
            rintro e w28 ⟨rfl, hb⟩
            replace B := hid (below_trans B.out hb B.out.size)
            replace E := hid (below_trans E.out hb E.out.size)
            replace C := hid (below_trans C.out hb C.out.size)
            replace UU := hid (UU.out.below hb)
            replace WW := hid (WW.out.below hb)
            clear hb
            have ng1 := NG1.out
            have ng2 := NG2.out
            unfold fGt at ng1 ng2
            have hm5 := HM.out
            obtain ⟨d, di, dg, ci, ds2⟩ := both_Dot cb F1.out V1.out
            have Id := hid di
            have DG := hid dg
            have CI := hid ci
            have CS2 := hid ds2
            clear di dg ci ds2 NG1 NG2 CL2 CR2 C G0
            go_wp2_with (first | (go_at_call 27; refine (CSN.out _ UU.out WW.out).mono ?_; rintro e wq ⟨rfl, hq⟩; replace B := hid (below_trans B.out hq B.out.size); replace E := hid (below_trans E.out hq E.out.size); clear hq CSN UU WW) | (go_at_call 18; first | (with_reducible refine (c_SameNumber Ig.out _).mono ?_; rintro e w' ⟨rfl, rfl⟩)))
            refine (CI.out _ (F1.out.below E.out)).mono ?_
            rintro e w29 ⟨rfl, hb⟩
            replace B := hid (below_trans B.out hb B.out.size)
            replace E := hid (below_trans E.out hb E.out.size)
            clear hb ng1 ng2
            go_wp2_with fail
            refine (CS2.out _ (F1.out.below E.out)).mono ?_
            rintro e w30 ⟨rfl, hb⟩
            replace B := hid (below_trans B.out hb B.out.size)
            replace E := hid (below_trans E.out hb E.out.size)
            have O0 := hid (owns_empty w30 26)
            have D0 : Hid (Below w30.heap.size w30 (w30.alloc (.cells #[] 26))) := hid ((Below.refl _ _).alloc (Nat.le_refl _) _)
            clear hb
            have kk := HK.out
            go_wp2_with fail
            go_loopw [68, 69] (fun v i wr => ∃ j : Nat, j ≤ k ∧ i = .int .i64 j ∧ wr.ownsRow w30.heap.size 26 1 v j ((onesL j).map (Value.float .f32)) ∧ Below w30.heap.size w30 wr) (fun _ i _ => k - (intOf i).toNat)
            case atStart => exact ⟨0, by omega, rfl, O0.out, D0.out⟩
            case round =>
              obtain ⟨j, hj, rfl, hown, hbel⟩ := hrel
              have O := hid hown
              have D := hid hbel
              clear hown hbel
              by_cases hlt : j < k
              · go_wp2_with (at_builtin; refine wpList_append_own _ rfl _ _ 24 rfl w30.heap.size 26 i0 (.float .f32 0) 1 4 Try.underlying24 HI.out HZ0.out HZ1.out HZ2.out rfl (by decide) _ _ _ rfl (O.out.alloc _) ⟨wr.heap.size, 0, none⟩ 1 1 [.float .f32 1065353216] rfl rfl (one_at _ _ _) (one_cell _) (by unfold maxLen; omega) (by omega) (by have := D.out.size; simp; omega) ?_; intro v' w1x hown' hgrow _)
                have O1 := hid hown'
                have B1x := hid (append_below D.out O.out hgrow)
                clear hown' hgrow
                go_wp2
                exact ⟨⟨j + 1, by omega, rfl, by rw [show (onesL (j + 1)).map (Value.float .f32) = (onesL j).map (Value.float .f32) ++ [.float .f32 1065353216] by simp [onesL, List.replicate_succ']]; exact O1.out, B1x.out⟩, by simp [intOf]; omega⟩
              · obtain rfl : j = k := by omega
                replace B := hid (below_trans B.out D.out B.out.size)
                replace E := hid (below_trans E.out D.out E.out.size)
                obtain ⟨ha1, ha2⟩ := dot_again F1.out V1.out
                have pl1 : Plains (onesL j) := fun i hi => by
                  have hi2 : i < j := by simpa [onesL] using hi
                  have e : fat (onesL j) i = 1065353216 := by simp [onesL, fat, hi2]
                  rw [e]; exact ⟨by decide, by decide⟩
                obtain ⟨ao1, ct1, hte, VT⟩ := own_VL O.out (by simp [onesL]) pl1 (by omega)
                have FT := hid VT.fl
                have CT := hid (c_implDotOf _ _ j j cb ct1 xs (onesL j) _ (F1.out.below E.out) FT.out)
                rw [ha1, ha2, ← HFL.out] at CT
                have gd : fGe d 0 = true := by rw [fGe_fin Id.out (by decide)]; have := DG.out; simpa [fx_zero0] using this
                clear ha1 ha2 pl1 O D VT
                subst hte
                go_wp2_with fail
                refine CT.out.mono ?_
                rintro e w31 ⟨rfl, hb⟩
                replace B := hid (below_trans B.out hb B.out.size)
                clear hb CT FT E
                unfold fGe at gd
                go_wp2_with (go_at_call 18; first | (with_reducible refine (c_SameNumber Id.out _).mono ?_; rintro e w' ⟨rfl, rfl⟩) | (with_reducible refine (c_SameNumber Il.out _).mono ?_; rintro e w' ⟨rfl, rfl⟩))
                go_ret
                exact ⟨rfl, B.out⟩

set_option maxRecDepth 100000 in
theorem lifted (os : Os) (started : os.Started) (H : Type) (enc : TypeId × Value → H) :
    ReturnsInHanded {} Try.checked os 3 .any (Rows.fnSumsSpec.pre6 enc Try.prog Try.f3 Rows.fnSumsRow.domain false) (Rows.fnSumsSpec.post enc Try.prog Try.f3 false true false false) := by
  refine returnsInHanded_of_change (C := Try.checked) own started (by kernel_rfl) Try.func3
    (ChangeSpec.witness6 (enc := enc) (C := Try.checked) false ⟨#[], #[.slice none 0 0, .slice none 0 0], []⟩ 8 (by kernel_rfl) (by kernel_rfl) (by kernel_rfl) (by kernel_rfl)) ?_
  intro W base args ds gs before hval0 hW hcnd _
  have hval : ∀ (j : Nat) t v, Try.f3.params[j]? = some t → args[j]? = some v → Value.okWide Try.prog W .any base t v := hval0
  have hW' := hW
  obtain ⟨p, q, hA0, hV, rfl, hfz, hnd⟩ := hW
  have hA : DataW.TrodAll enc Try.prog W 0 (fun _ => true) true Try.f3.params.toList args.toList ds p := hA0
  rw [Try.params3] at hA hval
  obtain ⟨v0, vs0, d0, ds0, p0, q0, hargs, rfl, rfl, h0, r0⟩ := trodAll_cons hA
  obtain ⟨v1, vs1, d1, ds1, p1, q1, rfl, rfl, rfl, h1, r1⟩ := trodAll_cons r0
  obtain ⟨rfl, rfl, rfl⟩ := trodAll_nil r1
  obtain rfl : args = #[v0, v1] := by cases args; simp_all
  obtain ⟨rfl, rfl⟩ := trodVars_none hV
  have k0 := h0
  have lt0 : ∀ x ∈ p0, x.block < W.heap.size := by obtain ⟨m, hm⟩ := k0; exact DataW.trod_lt m _ _ _ hm
  have k1 := h1
  have lt1 : ∀ x ∈ p1, x.block < W.heap.size := by obtain ⟨m, hm⟩ := k1; exact DataW.trod_lt m _ _ _ hm
  obtain ⟨a0, n0, c0, rfl, m0, x0⟩ := open_byts Try.underlying22 (by kernel_rfl) (by kernel_rfl) (hval 0 22 v0 rfl rfl) h0
  obtain ⟨a1, n1, c1, rfl, m1, x1⟩ := open_byts Try.underlying22 (by kernel_rfl) (by kernel_rfl) (hval 1 22 v1 rfl rfl) h1
  clear hA0 hval0
  refine (walk a0 n0 c0 a1 n1 c1 W m0 x0 m1 x1).mono fun e W' ⟨he, bel⟩ => ?_
  subst he
  exact ⟨_, rfl, _, _, _, [], _, [], hW', trodAll_mk1 (shut_bool Try.underlying4 _), (trodAll_cons_mk (Below.trod laidOut (by kernel_rfl) (of_decide_eq_true (by kernel_rfl)) k0 bel lt0) (trodAll_cons_mk (Below.trod laidOut (by kernel_rfl) (of_decide_eq_true (by kernel_rfl)) k1 bel lt1) trodAll_mk0)), rfl, bel.frame _, fun h => by cases h⟩

theorem proved : Rows.FnSumsSaid :=
  OpenClaim.holds_of_wide 3 Try.f3 rfl rfl rfl rfl rfl rfl rfl ⟨rfl, rfl, rfl, rfl, rfl⟩ rfl rfl rfl rfl rfl (by kernel_rfl) Try.func3 (by kernel_rfl)
    (of_decide_eq_true (by kernel_rfl)) (by unfold Func.isWrapper; first | (rw [if_pos (by decide +kernel)]; kernel_rfl) | (rw [if_neg (by decide +kernel)]; exact ⟨rfl, rfl⟩))
    (fun os started H enc _ => lifted os started H enc)
#print axioms proved
end Go.Proofs.Ytpaoccnffmngfaa.lawSums
