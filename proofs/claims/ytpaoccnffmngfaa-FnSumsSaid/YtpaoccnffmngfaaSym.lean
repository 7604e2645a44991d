/- Walk of the library's merging in place: the general case. -/
import Derived.Test.YtpaoccnffmngfaaMerge
namespace Go.Proofs.Ytpaoccnffmngfaa
set_option maxRecDepth 20000
open Go.RowKit
--%
set_option maxHeartbeats 8000000 in
theorem c_sym_a (le : Nat → Nat → Prop) (hO : Ord le) (c : Nat) (ci : Nat → Nat → Int) (hc : Cmp c ci) (lo g n cap : Nat) (hn : n ≤ 1048576) (d : Nat) (ih : ∀ (d' : Nat), d' < d → ∀ (a m b : Nat) (l : List Nat) (w : World), b - a ≤ d' → Row w lo g n cap l → a < m → m < b → b ≤ n → Srt le l a m → Srt le l m b →
    (∀ i j, a ≤ i → i < m → m ≤ j → j < b → Tells le (lessBy ci) (fat l j) (fat l i)) →
    Calls Try.prog 94 #[.slice (some ⟨g, 0, none⟩) n cap, .int .i64 (a : Int), .int .i64 (m : Int), .int .i64 (b : Int), .func (.func c) #[] #[]] w (Merged le lo g n cap a b l w)) (a m b : Nat) (l : List Nat) (w : World) (hd : b - a ≤ d) (hR : Row w lo g n cap l) (ham : a < m) (hmb : m < b) (hbn : b ≤ n) (hS1 : Srt le l a m) (hS2 : Srt le l m b)
    (hT : ∀ i j, a ≤ i → i < m → m ≤ j → j < b → Tells le (lessBy ci) (fat l j) (fat l i)) (_ : ¬ m = a + 1) (_ : ¬ b = m + 1) (hm : (a + b) / 2 < m) :
    Calls Try.prog 94 #[.slice (some ⟨g, 0, none⟩) n cap, .int .i64 (a : Int), .int .i64 (m : Int), .int .i64 (b : Int), .func (.func c) #[] #[]] w (Merged le lo g n cap a b l w) := by
  have IH := hid ih
  have HC0 := hid hc
  have eg := hc.1
  have R := hid hR
  have HC := hid hc.2
  have HT := hid hT
  have HO := hid hO
  have S1 := hid hS1
  have S2 := hid hS2
  have hlen : Hid (l.length = n) := hid hR.len
  have HD := hid hd
  clear hR hc hT hO hS1 hS2 ih hd
  have z1 : ((m : Int) - (a : Int) == 1) = false := by simp; omega
  have z2 : ((b : Int) - (m : Int) == 1) = false := by simp; omega
  obtain ⟨mid, hmid⟩ : ∃ mid, mid = (a + b) / 2 := ⟨_, rfl⟩
  have em : ((a : Int) + (b : Int)) / 2 = (mid : Int) := by omega
  have EM := hid em
  have bm : a < mid ∧ mid < b := by omega
  have HM := hid hmid
  clear hmid em
  obtain ⟨p, hp⟩ : ∃ p, p + 1 = mid + m := ⟨mid + m - 1, by omega⟩
  have P := hid hp
  have ep : (mid : Int) + (m : Int) - 1 = (p : Int) := by omega
  have EP := hid ep
  clear hp ep
  -- the bounds of the search
  obtain ⟨l0, r0, hl0⟩ : ∃ l0 r0, a ≤ l0 ∧ l0 ≤ r0 ∧ r0 ≤ mid ∧ r0 ≤ m ∧ mid + m ≤ l0 + b ∧ (l0 = a ∨ l0 + b = mid + m) ∧ (r0 = m ∨ r0 = mid) ∧ (if mid < m then l0 + b = mid + m ∧ r0 = mid else l0 = a ∧ r0 = m) := by
    by_cases h : mid < m
    · exact ⟨mid + m - b, mid, by have := HM.out; omega, by omega, by omega, by omega, by omega, .inr (by have := HM.out; omega), .inr rfl, by rw [if_pos h]; exact ⟨by have := HM.out; omega, rfl⟩⟩
    · exact ⟨a, m, by omega, by omega, by omega, by omega, by have := HM.out; omega, .inl rfl, .inl rfl, by rw [if_neg h]; exact ⟨rfl, rfl⟩⟩
  have L0 := hid hl0
  clear hl0
  have INV : Hid (∀ st en, l0 ≤ st → st ≤ r0 → st + en = mid + m → (st = l0 ∨ 1 ≤ st ∧ le (fat l (st - 1)) (fat l (p - (st - 1)))) → (st = r0 ∨ le (fat l (p - st)) (fat l st)) →
      a ≤ st ∧ st ≤ m ∧ m ≤ en ∧ en ≤ b ∧ st ≤ mid ∧ mid ≤ en ∧ (st = a ∨ en = b ∨ le (fat l (st - 1)) (fat l en)) ∧ (st = m ∨ en = m ∨ le (fat l (en - 1)) (fat l st))) := hid (by
    intro st en h1 h2 h3 h4 h5
    obtain ⟨q1, q2, q3, q4, q5, q6, q7, q8⟩ := L0.out
    have hP := P.out
    refine ⟨by omega, by omega, by omega, by omega, by omega, by omega, ?_, ?_⟩
    · rcases h4 with h | ⟨h, h'⟩
      · rcases q6 with e | e
        · left; omega
        · right; left; omega
      · right; right; rw [show p - (st - 1) = en by omega] at h'; exact h'
    · rcases h5 with h | h
      · rcases q7 with e | e
        · left; omega
        · right; left; omega
      · right; right; rw [show p - st = en - 1 by omega] at h; exact h)
  have hm : mid < m := by rw [HM.out]; exact hm
  obtain ⟨q1, q2, q3, q4, q5, q6, q7, q8⟩ := L0.out
  have t0 : ((a : Int) + (b : Int)) / 2 < (m : Int) := by have := EM.out; omega
  rw [if_pos hm] at q8
  have e0 : (mid : Int) + (m : Int) - (b : Int) = (l0 : Int) := by omega
  have e1 : (mid : Int) = (r0 : Int) := by omega
  have E0 := hid e0
  have E1 := hid e1
  clear e0 e1 q6 q7 q8
  go_enter Try.func94, Try.ntmps94
  go_wp2_with fail
  have e0 := E0.out
  have e1 := E1.out
  simp only [EM.out]
  simp only [EP.out]
  go_loopw [20, 21] (fun sv rv wr => ∃ (st r : Nat), l0 ≤ st ∧ st ≤ r ∧ r ≤ r0 ∧ sv = .int .i64 st ∧ rv = .int .i64 r ∧ (st = l0 ∨ 1 ≤ st ∧ le (fat l (st - 1)) (fat l (p - (st - 1)))) ∧ (r = r0 ∨ le (fat l (p - r)) (fat l r)) ∧ Row wr lo g n cap l ∧ w.grownBy wr (some g)) (fun sv rv _ => (intOf rv).toNat - (intOf sv).toNat)
  case atStart => exact ⟨l0, r0, by omega, q2, by omega, by rw [e0], by rw [e1], .inl rfl, .inl rfl, R.out, World.grownBy.refl _ _⟩
  case round =>
    clear e0 e1
    obtain ⟨st, r, hs1, hs3, hs2, rfl, rfl, hlo, hhi, hr, hg⟩ := hrel
    have LO := hid hlo
    have HI := hid hhi
    have R1 := hid hr
    have G1 := hid hg
    clear hlo hhi hr hg
    by_cases hlt : st < r
    · obtain ⟨h, hh⟩ : ∃ h, h = (st + r) / 2 := ⟨_, rfl⟩
      have b1 : st ≤ h ∧ h < r := by omega
      have HH := hid hh
      clear hh
      obtain ⟨y, hy⟩ : ∃ y, y = p - h := ⟨_, rfl⟩
      have yb : m ≤ y ∧ y < b ∧ a ≤ h ∧ h < m := by have := P.out; omega
      have ey : (p : Int) - (h : Int) = (y : Int) := by have := P.out; omega
      have EY := hid ey
      have Y := hid hy
      clear ey hy
      have h1 := R1.out.cell (k := y) (by omega)
      have h2 := R1.out.cell (k := h) (by omega)
      have TT := hid (HT.out h y (by omega) (by omega) (by omega) (by omega))
      cases hcf : lessBy ci (fat l y) (fat l h)
      case true =>
        have hcf' : decide (ci (fat l y) (fat l h) < 0) = true := hcf
        have NX := hid (TT.out.1 hcf)
        clear hcf
        go_wp2
        rw [show ((st : Int) + (r : Int)) / 2 = (h : Int) by have := HH.out; omega]
        have wy : IntKind.i64.wrap ((p : Int) - (h : Int)) = (y : Int) := by have e := EY.out; rw [IntWalk.i64_in _ (by omega)]; exact e
        have wz : (p : Int) - (h : Int) = (y : Int) := EY.out
        go_quiet ((go_at_fn c; exact quiet_left (HC.out _ _ _ (R1.out.ok _) (R1.out.ok _))))
        clear wy wz
        go_wp2
        exact ⟨⟨st, h, hs1, by omega, by omega, rfl, by go_num, LO.out, .inr (Y.out ▸ NX.out), R1.out.drewN _, grown_drewN G1.out _⟩, by simp [intOf]; omega⟩
      case false =>
        have hcf' : decide (ci (fat l y) (fat l h) < 0) = false := hcf
        have NX := hid (TT.out.2 hcf)
        clear hcf
        go_wp2
        rw [show ((st : Int) + (r : Int)) / 2 = (h : Int) by have := HH.out; omega]
        have wy : IntKind.i64.wrap ((p : Int) - (h : Int)) = (y : Int) := by have e := EY.out; rw [IntWalk.i64_in _ (by omega)]; exact e
        have wz : (p : Int) - (h : Int) = (y : Int) := EY.out
        go_quiet ((go_at_fn c; exact quiet_left (HC.out _ _ _ (R1.out.ok _) (R1.out.ok _))))
        clear wy wz
        go_wp2
        exact ⟨⟨h + 1, r, by omega, by omega, hs2, by go_num, rfl, .inr ⟨by omega, by rw [Nat.add_sub_cancel, ← Y.out]; exact NX.out⟩, HI.out, R1.out.drewN _, grown_drewN G1.out _⟩, by simp [intOf]; omega⟩
    · obtain rfl : st = r := by omega
      clear hlt
      obtain ⟨en, hen⟩ : ∃ en, st + en = mid + m := ⟨mid + m - st, by have := L0.out; omega⟩
      obtain ⟨k1, k2, k3, k4, k5, k6, k7, k8⟩ := INV.out st en hs1 hs2 hen LO.out HI.out
      have BL := hid k7
      have BH := hid k8
      clear k7 k8
      have een : (mid : Int) + (m : Int) - (st : Int) = (en : Int) := by omega
      have EN := hid een
      have HEN := hid hen
      rcases Nat.lt_or_ge st mid with x2 | x2
      · have y0 : st < mid := by omega
        have y4 : st < m := by omega
        have y1 : m < en := by omega
        have y2 : mid < en := by omega
        clear een hen
        rcases Nat.lt_or_ge a st with x3 | x3
        · rcases Nat.lt_or_ge en b with x4 | x4
          · skip
            go_wp2_with fail
            try simp only [EN.out]
            refine (c_rotate c lo g n cap st m en l _ R1.out hn (by omega) (by omega) (by omega)).mono ?_
            rintro e w1 ⟨rfl, r1, hst1, hrt1, hR1, hg1⟩
            have RT := hid hrt1
            have T1 := hid (hst1.wide (a' := a) (b' := b) (by omega) (by omega))
            have R2 := hid hR1
            have G2 := hid (grows G1.out hg1)
            clear hst1 hrt1 hR1 hg1
            have SP := hid (split_of (l1 := r1) HO.out S1.out S2.out (mid := mid) (st := st) (en := en) (by omega) (by omega) (by omega) (by omega) HEN.out (by omega) (by omega) RT.out BL.out BH.out)
            go_wp2_with fail
            try simp only [EN.out]
            refine (IH.out (mid - a) (by have := HD.out; omega) a st mid r1 _ (Nat.le_refl _) R2.out (by omega) (by omega) (by omega) SP.out.s1 SP.out.s2 (fun i j h1 h2 h3 h4 => by obtain ⟨i2, j2, k1, k2, k3, k4, k5, k6⟩ := SP.out.t1 i j h1 h2 h3 h4; rw [k5, k6]; exact HT.out i2 j2 k1 k2 k3 k4)).mono ?_
            rintro e w2 ⟨rfl, r2, hst2, hs2, hR2, hg2⟩
            have T2 := hid hst2
            have SS2 := hid hs2
            have R3 := hid hR2
            have G3 := hid (grows G2.out hg2)
            clear hst2 hs2 hR2 hg2
            have K3 : Hid (Srt le r2 mid en) := hid (fun i j h1 h2 h3 => by rw [T2.out.out i (by omega), T2.out.out j (by omega)]; exact SP.out.s3 i j h1 h2 h3)
            have K4 : Hid (Srt le r2 en b) := hid (fun i j h1 h2 h3 => by rw [T2.out.out i (by omega), T2.out.out j (by omega)]; exact SP.out.s4 i j h1 h2 h3)
            go_wp2_with fail
            try simp only [EN.out]
            refine (IH.out (b - mid) (by have := HD.out; omega) mid en b r2 _ (Nat.le_refl _) R3.out (by omega) (by omega) (by omega) K3.out K4.out (fun i j h1 h2 h3 h4 => by obtain ⟨i2, j2, k1, k2, k3, k4, k5, k6⟩ := SP.out.t2 i j h1 h2 h3 h4; rw [T2.out.out i (by omega), T2.out.out j (by omega), k5, k6]; exact HT.out i2 j2 k1 k2 k3 k4)).mono ?_
            rintro e w3 ⟨rfl, r3, hst3, hs3, hR3, hg3⟩
            have T3 := hid hst3
            have SS3 := hid hs3
            have R4 := hid hR3
            have G4 := hid (grows G3.out hg3)
            clear hst3 hs3 hR3 hg3
            go_wp2
            go_end0
            exact ⟨rfl, r3, (T1.out.trans (T2.out.wide (Nat.le_refl _) (by omega))).trans (T3.out.wide (by omega) (Nat.le_refl _)), merge_done SP.out.cross T2.out SS2.out T3.out SS3.out, R4.out, G4.out⟩
          · skip
            go_wp2_with fail
            try simp only [EN.out]
            refine (c_rotate c lo g n cap st m en l _ R1.out hn (by omega) (by omega) (by omega)).mono ?_
            rintro e w1 ⟨rfl, r1, hst1, hrt1, hR1, hg1⟩
            have RT := hid hrt1
            have T1 := hid (hst1.wide (a' := a) (b' := b) (by omega) (by omega))
            have R2 := hid hR1
            have G2 := hid (grows G1.out hg1)
            clear hst1 hrt1 hR1 hg1
            have SP := hid (split_of (l1 := r1) HO.out S1.out S2.out (mid := mid) (st := st) (en := en) (by omega) (by omega) (by omega) (by omega) HEN.out (by omega) (by omega) RT.out BL.out BH.out)
            go_wp2_with fail
            try simp only [EN.out]
            refine (IH.out (mid - a) (by have := HD.out; omega) a st mid r1 _ (Nat.le_refl _) R2.out (by omega) (by omega) (by omega) SP.out.s1 SP.out.s2 (fun i j h1 h2 h3 h4 => by obtain ⟨i2, j2, k1, k2, k3, k4, k5, k6⟩ := SP.out.t1 i j h1 h2 h3 h4; rw [k5, k6]; exact HT.out i2 j2 k1 k2 k3 k4)).mono ?_
            rintro e w2 ⟨rfl, r2, hst2, hs2, hR2, hg2⟩
            have T2 := hid hst2
            have SS2 := hid hs2
            have R3 := hid hR2
            have G3 := hid (grows G2.out hg2)
            clear hst2 hs2 hR2 hg2
            have K3 : Hid (Srt le r2 mid en) := hid (fun i j h1 h2 h3 => by rw [T2.out.out i (by omega), T2.out.out j (by omega)]; exact SP.out.s3 i j h1 h2 h3)
            have K4 : Hid (Srt le r2 en b) := hid (fun i j h1 h2 h3 => by rw [T2.out.out i (by omega), T2.out.out j (by omega)]; exact SP.out.s4 i j h1 h2 h3)
            obtain ⟨r3, hr3⟩ : ∃ r3, r3 = r2 := ⟨_, rfl⟩
            have T3 : Hid (Steps mid b r2 r3) := hid (by rw [hr3]; exact .refl _ _ _)
            have SS3 : Hid (Srt le r3 mid b) := hid (by rw [hr3]; first | (have e : en = mid := (by omega); exact e ▸ K4.out) | (have e : en = b := (by omega); exact e ▸ K3.out))
            have R4 : Hid (Row _ lo g n cap r3) := hid (by rw [hr3]; exact R3.out)
            have G4 := hid G3.out
            clear hr3
            go_wp2
            go_end0
            exact ⟨rfl, r3, (T1.out.trans (T2.out.wide (Nat.le_refl _) (by omega))).trans (T3.out.wide (by omega) (Nat.le_refl _)), merge_done SP.out.cross T2.out SS2.out T3.out SS3.out, R4.out, G4.out⟩
        · rcases Nat.lt_or_ge en b with x4 | x4
          · skip
            go_wp2_with fail
            try simp only [EN.out]
            refine (c_rotate c lo g n cap st m en l _ R1.out hn (by omega) (by omega) (by omega)).mono ?_
            rintro e w1 ⟨rfl, r1, hst1, hrt1, hR1, hg1⟩
            have RT := hid hrt1
            have T1 := hid (hst1.wide (a' := a) (b' := b) (by omega) (by omega))
            have R2 := hid hR1
            have G2 := hid (grows G1.out hg1)
            clear hst1 hrt1 hR1 hg1
            have SP := hid (split_of (l1 := r1) HO.out S1.out S2.out (mid := mid) (st := st) (en := en) (by omega) (by omega) (by omega) (by omega) HEN.out (by omega) (by omega) RT.out BL.out BH.out)
            obtain ⟨r2, hr2⟩ : ∃ r2, r2 = r1 := ⟨_, rfl⟩
            have T2 : Hid (Steps a mid r1 r2) := hid (by rw [hr2]; exact .refl _ _ _)
            have SS2 : Hid (Srt le r2 a mid) := hid (by rw [hr2]; first | (have e : st = a := (by omega); exact e ▸ SP.out.s2) | (have e : st = mid := (by omega); exact e ▸ SP.out.s1))
            have R3 : Hid (Row _ lo g n cap r2) := hid (by rw [hr2]; exact R2.out)
            have G3 := hid G2.out
            clear hr2
            have K3 : Hid (Srt le r2 mid en) := hid (fun i j h1 h2 h3 => by rw [T2.out.out i (by omega), T2.out.out j (by omega)]; exact SP.out.s3 i j h1 h2 h3)
            have K4 : Hid (Srt le r2 en b) := hid (fun i j h1 h2 h3 => by rw [T2.out.out i (by omega), T2.out.out j (by omega)]; exact SP.out.s4 i j h1 h2 h3)
            go_wp2_with fail
            try simp only [EN.out]
            refine (IH.out (b - mid) (by have := HD.out; omega) mid en b r2 _ (Nat.le_refl _) R3.out (by omega) (by omega) (by omega) K3.out K4.out (fun i j h1 h2 h3 h4 => by obtain ⟨i2, j2, k1, k2, k3, k4, k5, k6⟩ := SP.out.t2 i j h1 h2 h3 h4; rw [T2.out.out i (by omega), T2.out.out j (by omega), k5, k6]; exact HT.out i2 j2 k1 k2 k3 k4)).mono ?_
            rintro e w3 ⟨rfl, r3, hst3, hs3, hR3, hg3⟩
            have T3 := hid hst3
            have SS3 := hid hs3
            have R4 := hid hR3
            have G4 := hid (grows G3.out hg3)
            clear hst3 hs3 hR3 hg3
            go_wp2
            go_end0
            exact ⟨rfl, r3, (T1.out.trans (T2.out.wide (Nat.le_refl _) (by omega))).trans (T3.out.wide (by omega) (Nat.le_refl _)), merge_done SP.out.cross T2.out SS2.out T3.out SS3.out, R4.out, G4.out⟩
          · skip
            go_wp2_with fail
            try simp only [EN.out]
            refine (c_rotate c lo g n cap st m en l _ R1.out hn (by omega) (by omega) (by omega)).mono ?_
            rintro e w1 ⟨rfl, r1, hst1, hrt1, hR1, hg1⟩
            have RT := hid hrt1
            have T1 := hid (hst1.wide (a' := a) (b' := b) (by omega) (by omega))
            have R2 := hid hR1
            have G2 := hid (grows G1.out hg1)
            clear hst1 hrt1 hR1 hg1
            have SP := hid (split_of (l1 := r1) HO.out S1.out S2.out (mid := mid) (st := st) (en := en) (by omega) (by omega) (by omega) (by omega) HEN.out (by omega) (by omega) RT.out BL.out BH.out)
            obtain ⟨r2, hr2⟩ : ∃ r2, r2 = r1 := ⟨_, rfl⟩
            have T2 : Hid (Steps a mid r1 r2) := hid (by rw [hr2]; exact .refl _ _ _)
            have SS2 : Hid (Srt le r2 a mid) := hid (by rw [hr2]; first | (have e : st = a := (by omega); exact e ▸ SP.out.s2) | (have e : st = mid := (by omega); exact e ▸ SP.out.s1))
            have R3 : Hid (Row _ lo g n cap r2) := hid (by rw [hr2]; exact R2.out)
            have G3 := hid G2.out
            clear hr2
            have K3 : Hid (Srt le r2 mid en) := hid (fun i j h1 h2 h3 => by rw [T2.out.out i (by omega), T2.out.out j (by omega)]; exact SP.out.s3 i j h1 h2 h3)
            have K4 : Hid (Srt le r2 en b) := hid (fun i j h1 h2 h3 => by rw [T2.out.out i (by omega), T2.out.out j (by omega)]; exact SP.out.s4 i j h1 h2 h3)
            obtain ⟨r3, hr3⟩ : ∃ r3, r3 = r2 := ⟨_, rfl⟩
            have T3 : Hid (Steps mid b r2 r3) := hid (by rw [hr3]; exact .refl _ _ _)
            have SS3 : Hid (Srt le r3 mid b) := hid (by rw [hr3]; first | (have e : en = mid := (by omega); exact e ▸ K4.out) | (have e : en = b := (by omega); exact e ▸ K3.out))
            have R4 : Hid (Row _ lo g n cap r3) := hid (by rw [hr3]; exact R3.out)
            have G4 := hid G3.out
            clear hr3
            go_wp2
            go_end0
            exact ⟨rfl, r3, (T1.out.trans (T2.out.wide (Nat.le_refl _) (by omega))).trans (T3.out.wide (by omega) (Nat.le_refl _)), merge_done SP.out.cross T2.out SS2.out T3.out SS3.out, R4.out, G4.out⟩
      · have y1 : en ≤ m := by omega
        have y2 : mid < en := by omega
        have y3 : en < b := by omega
        clear een hen
        obtain ⟨r1, hr1⟩ : ∃ r1, r1 = l := ⟨_, rfl⟩
        have RT : Hid (∀ k, fat r1 k = rotT l st m en k) := hid (fun k => by rw [hr1]; exact (rot_same l (by omega) (by omega) (by omega) k).symm)
        have T1 : Hid (Steps a b l r1) := hid (by rw [hr1]; exact .refl _ _ _)
        have R2 : Hid (Row _ lo g n cap r1) := hid (by rw [hr1]; exact R1.out)
        have G2 := hid G1.out
        clear hr1
        have SP := hid (split_of (l1 := r1) HO.out S1.out S2.out (mid := mid) (st := st) (en := en) (by omega) (by omega) (by omega) (by omega) HEN.out (by omega) (by omega) RT.out BL.out BH.out)
        obtain ⟨r2, hr2⟩ : ∃ r2, r2 = r1 := ⟨_, rfl⟩
        have T2 : Hid (Steps a mid r1 r2) := hid (by rw [hr2]; exact .refl _ _ _)
        have SS2 : Hid (Srt le r2 a mid) := hid (by rw [hr2]; first | (have e : st = a := (by omega); exact e ▸ SP.out.s2) | (have e : st = mid := (by omega); exact e ▸ SP.out.s1))
        have R3 : Hid (Row _ lo g n cap r2) := hid (by rw [hr2]; exact R2.out)
        have G3 := hid G2.out
        clear hr2
        have K3 : Hid (Srt le r2 mid en) := hid (fun i j h1 h2 h3 => by rw [T2.out.out i (by omega), T2.out.out j (by omega)]; exact SP.out.s3 i j h1 h2 h3)
        have K4 : Hid (Srt le r2 en b) := hid (fun i j h1 h2 h3 => by rw [T2.out.out i (by omega), T2.out.out j (by omega)]; exact SP.out.s4 i j h1 h2 h3)
        go_wp2_with fail
        try simp only [EN.out]
        refine (IH.out (b - mid) (by have := HD.out; omega) mid en b r2 _ (Nat.le_refl _) R3.out (by omega) (by omega) (by omega) K3.out K4.out (fun i j h1 h2 h3 h4 => by obtain ⟨i2, j2, k1, k2, k3, k4, k5, k6⟩ := SP.out.t2 i j h1 h2 h3 h4; rw [T2.out.out i (by omega), T2.out.out j (by omega), k5, k6]; exact HT.out i2 j2 k1 k2 k3 k4)).mono ?_
        rintro e w3 ⟨rfl, r3, hst3, hs3, hR3, hg3⟩
        have T3 := hid hst3
        have SS3 := hid hs3
        have R4 := hid hR3
        have G4 := hid (grows G3.out hg3)
        clear hst3 hs3 hR3 hg3
        go_wp2
        go_end0
        exact ⟨rfl, r3, (T1.out.trans (T2.out.wide (Nat.le_refl _) (by omega))).trans (T3.out.wide (by omega) (Nat.le_refl _)), merge_done SP.out.cross T2.out SS2.out T3.out SS3.out, R4.out, G4.out⟩
--%
set_option maxHeartbeats 8000000 in
theorem c_sym_b (le : Nat → Nat → Prop) (hO : Ord le) (c : Nat) (ci : Nat → Nat → Int) (hc : Cmp c ci) (lo g n cap : Nat) (hn : n ≤ 1048576) (d : Nat) (ih : ∀ (d' : Nat), d' < d → ∀ (a m b : Nat) (l : List Nat) (w : World), b - a ≤ d' → Row w lo g n cap l → a < m → m < b → b ≤ n → Srt le l a m → Srt le l m b →
    (∀ i j, a ≤ i → i < m → m ≤ j → j < b → Tells le (lessBy ci) (fat l j) (fat l i)) →
    Calls Try.prog 94 #[.slice (some ⟨g, 0, none⟩) n cap, .int .i64 (a : Int), .int .i64 (m : Int), .int .i64 (b : Int), .func (.func c) #[] #[]] w (Merged le lo g n cap a b l w)) (a m b : Nat) (l : List Nat) (w : World) (hd : b - a ≤ d) (hR : Row w lo g n cap l) (ham : a < m) (hmb : m < b) (hbn : b ≤ n) (hS1 : Srt le l a m) (hS2 : Srt le l m b)
    (hT : ∀ i j, a ≤ i → i < m → m ≤ j → j < b → Tells le (lessBy ci) (fat l j) (fat l i)) (_ : ¬ m = a + 1) (_ : ¬ b = m + 1) (hm : ¬ (a + b) / 2 < m) :
    Calls Try.prog 94 #[.slice (some ⟨g, 0, none⟩) n cap, .int .i64 (a : Int), .int .i64 (m : Int), .int .i64 (b : Int), .func (.func c) #[] #[]] w (Merged le lo g n cap a b l w) := by
  have IH := hid ih
  have HC0 := hid hc
  have eg := hc.1
  have R := hid hR
  have HC := hid hc.2
  have HT := hid hT
  have HO := hid hO
  have S1 := hid hS1
  have S2 := hid hS2
  have hlen : Hid (l.length = n) := hid hR.len
  have HD := hid hd
  clear hR hc hT hO hS1 hS2 ih hd
  have z1 : ((m : Int) - (a : Int) == 1) = false := by simp; omega
  have z2 : ((b : Int) - (m : Int) == 1) = false := by simp; omega
  obtain ⟨mid, hmid⟩ : ∃ mid, mid = (a + b) / 2 := ⟨_, rfl⟩
  have em : ((a : Int) + (b : Int)) / 2 = (mid : Int) := by omega
  have EM := hid em
  have bm : a < mid ∧ mid < b := by omega
  have HM := hid hmid
  clear hmid em
  obtain ⟨p, hp⟩ : ∃ p, p + 1 = mid + m := ⟨mid + m - 1, by omega⟩
  have P := hid hp
  have ep : (mid : Int) + (m : Int) - 1 = (p : Int) := by omega
  have EP := hid ep
  clear hp ep
  -- the bounds of the search
  obtain ⟨l0, r0, hl0⟩ : ∃ l0 r0, a ≤ l0 ∧ l0 ≤ r0 ∧ r0 ≤ mid ∧ r0 ≤ m ∧ mid + m ≤ l0 + b ∧ (l0 = a ∨ l0 + b = mid + m) ∧ (r0 = m ∨ r0 = mid) ∧ (if mid < m then l0 + b = mid + m ∧ r0 = mid else l0 = a ∧ r0 = m) := by
    by_cases h : mid < m
    · exact ⟨mid + m - b, mid, by have := HM.out; omega, by omega, by omega, by omega, by omega, .inr (by have := HM.out; omega), .inr rfl, by rw [if_pos h]; exact ⟨by have := HM.out; omega, rfl⟩⟩
    · exact ⟨a, m, by omega, by omega, by omega, by omega, by have := HM.out; omega, .inl rfl, .inl rfl, by rw [if_neg h]; exact ⟨rfl, rfl⟩⟩
  have L0 := hid hl0
  clear hl0
  have INV : Hid (∀ st en, l0 ≤ st → st ≤ r0 → st + en = mid + m → (st = l0 ∨ 1 ≤ st ∧ le (fat l (st - 1)) (fat l (p - (st - 1)))) → (st = r0 ∨ le (fat l (p - st)) (fat l st)) →
      a ≤ st ∧ st ≤ m ∧ m ≤ en ∧ en ≤ b ∧ st ≤ mid ∧ mid ≤ en ∧ (st = a ∨ en = b ∨ le (fat l (st - 1)) (fat l en)) ∧ (st = m ∨ en = m ∨ le (fat l (en - 1)) (fat l st))) := hid (by
    intro st en h1 h2 h3 h4 h5
    obtain ⟨q1, q2, q3, q4, q5, q6, q7, q8⟩ := L0.out
    have hP := P.out
    refine ⟨by omega, by omega, by omega, by omega, by omega, by omega, ?_, ?_⟩
    · rcases h4 with h | ⟨h, h'⟩
      · rcases q6 with e | e
        · left; omega
        · right; left; omega
      · right; right; rw [show p - (st - 1) = en by omega] at h'; exact h'
    · rcases h5 with h | h
      · rcases q7 with e | e
        · left; omega
        · right; left; omega
      · right; right; rw [show p - st = en - 1 by omega] at h; exact h)
  have hm : ¬ mid < m := by rw [HM.out]; exact hm
  obtain ⟨q1, q2, q3, q4, q5, q6, q7, q8⟩ := L0.out
  have t0 : (m : Int) ≤ ((a : Int) + (b : Int)) / 2 := by have := EM.out; omega
  rw [if_neg hm] at q8
  have e0 : (a : Int) = (l0 : Int) := by omega
  have e1 : (m : Int) = (r0 : Int) := by omega
  have E0 := hid e0
  have E1 := hid e1
  clear e0 e1 q6 q7 q8
  go_enter Try.func94, Try.ntmps94
  go_wp2_with fail
  have e0 := E0.out
  have e1 := E1.out
  simp only [EM.out]
  simp only [EP.out]
  go_loopw [20, 21] (fun sv rv wr => ∃ (st r : Nat), l0 ≤ st ∧ st ≤ r ∧ r ≤ r0 ∧ sv = .int .i64 st ∧ rv = .int .i64 r ∧ (st = l0 ∨ 1 ≤ st ∧ le (fat l (st - 1)) (fat l (p - (st - 1)))) ∧ (r = r0 ∨ le (fat l (p - r)) (fat l r)) ∧ Row wr lo g n cap l ∧ w.grownBy wr (some g)) (fun sv rv _ => (intOf rv).toNat - (intOf sv).toNat)
  case atStart => exact ⟨l0, r0, by omega, q2, by omega, by rw [e0], by rw [e1], .inl rfl, .inl rfl, R.out, World.grownBy.refl _ _⟩
  case round =>
    clear e0 e1
    obtain ⟨st, r, hs1, hs3, hs2, rfl, rfl, hlo, hhi, hr, hg⟩ := hrel
    have LO := hid hlo
    have HI := hid hhi
    have R1 := hid hr
    have G1 := hid hg
    clear hlo hhi hr hg
    by_cases hlt : st < r
    · obtain ⟨h, hh⟩ : ∃ h, h = (st + r) / 2 := ⟨_, rfl⟩
      have b1 : st ≤ h ∧ h < r := by omega
      have HH := hid hh
      clear hh
      obtain ⟨y, hy⟩ : ∃ y, y = p - h := ⟨_, rfl⟩
      have yb : m ≤ y ∧ y < b ∧ a ≤ h ∧ h < m := by have := P.out; omega
      have ey : (p : Int) - (h : Int) = (y : Int) := by have := P.out; omega
      have EY := hid ey
      have Y := hid hy
      clear ey hy
      have h1 := R1.out.cell (k := y) (by omega)
      have h2 := R1.out.cell (k := h) (by omega)
      have TT := hid (HT.out h y (by omega) (by omega) (by omega) (by omega))
      cases hcf : lessBy ci (fat l y) (fat l h)
      case true =>
        have hcf' : decide (ci (fat l y) (fat l h) < 0) = true := hcf
        have NX := hid (TT.out.1 hcf)
        clear hcf
        go_wp2
        rw [show ((st : Int) + (r : Int)) / 2 = (h : Int) by have := HH.out; omega]
        have wy : IntKind.i64.wrap ((p : Int) - (h : Int)) = (y : Int) := by have e := EY.out; rw [IntWalk.i64_in _ (by omega)]; exact e
        have wz : (p : Int) - (h : Int) = (y : Int) := EY.out
        go_quiet ((go_at_fn c; exact quiet_left (HC.out _ _ _ (R1.out.ok _) (R1.out.ok _))))
        clear wy wz
        go_wp2
        exact ⟨⟨st, h, hs1, by omega, by omega, rfl, by go_num, LO.out, .inr (Y.out ▸ NX.out), R1.out.drewN _, grown_drewN G1.out _⟩, by simp [intOf]; omega⟩
      case false =>
        have hcf' : decide (ci (fat l y) (fat l h) < 0) = false := hcf
        have NX := hid (TT.out.2 hcf)
        clear hcf
        go_wp2
        rw [show ((st : Int) + (r : Int)) / 2 = (h : Int) by have := HH.out; omega]
        have wy : IntKind.i64.wrap ((p : Int) - (h : Int)) = (y : Int) := by have e := EY.out; rw [IntWalk.i64_in _ (by omega)]; exact e
        have wz : (p : Int) - (h : Int) = (y : Int) := EY.out
        go_quiet ((go_at_fn c; exact quiet_left (HC.out _ _ _ (R1.out.ok _) (R1.out.ok _))))
        clear wy wz
        go_wp2
        exact ⟨⟨h + 1, r, by omega, by omega, hs2, by go_num, rfl, .inr ⟨by omega, by rw [Nat.add_sub_cancel, ← Y.out]; exact NX.out⟩, HI.out, R1.out.drewN _, grown_drewN G1.out _⟩, by simp [intOf]; omega⟩
    · obtain rfl : st = r := by omega
      clear hlt
      obtain ⟨en, hen⟩ : ∃ en, st + en = mid + m := ⟨mid + m - st, by have := L0.out; omega⟩
      obtain ⟨k1, k2, k3, k4, k5, k6, k7, k8⟩ := INV.out st en hs1 hs2 hen LO.out HI.out
      have BL := hid k7
      have BH := hid k8
      clear k7 k8
      have een : (mid : Int) + (m : Int) - (st : Int) = (en : Int) := by omega
      have EN := hid een
      have HEN := hid hen
      rcases Nat.lt_or_ge st m with x2 | x2
      · have y0 : st < mid := by omega
        have y4 : st < m := by omega
        have y1 : m < en := by omega
        have y2 : mid < en := by omega
        clear een hen
        rcases Nat.lt_or_ge a st with x3 | x3
        · rcases Nat.lt_or_ge en b with x4 | x4
          · skip
            go_wp2_with fail
            try simp only [EN.out]
            refine (c_rotate c lo g n cap st m en l _ R1.out hn (by omega) (by omega) (by omega)).mono ?_
            rintro e w1 ⟨rfl, r1, hst1, hrt1, hR1, hg1⟩
            have RT := hid hrt1
            have T1 := hid (hst1.wide (a' := a) (b' := b) (by omega) (by omega))
            have R2 := hid hR1
            have G2 := hid (grows G1.out hg1)
            clear hst1 hrt1 hR1 hg1
            have SP := hid (split_of (l1 := r1) HO.out S1.out S2.out (mid := mid) (st := st) (en := en) (by omega) (by omega) (by omega) (by omega) HEN.out (by omega) (by omega) RT.out BL.out BH.out)
            go_wp2_with fail
            try simp only [EN.out]
            refine (IH.out (mid - a) (by have := HD.out; omega) a st mid r1 _ (Nat.le_refl _) R2.out (by omega) (by omega) (by omega) SP.out.s1 SP.out.s2 (fun i j h1 h2 h3 h4 => by obtain ⟨i2, j2, k1, k2, k3, k4, k5, k6⟩ := SP.out.t1 i j h1 h2 h3 h4; rw [k5, k6]; exact HT.out i2 j2 k1 k2 k3 k4)).mono ?_
            rintro e w2 ⟨rfl, r2, hst2, hs2, hR2, hg2⟩
            have T2 := hid hst2
            have SS2 := hid hs2
            have R3 := hid hR2
            have G3 := hid (grows G2.out hg2)
            clear hst2 hs2 hR2 hg2
            have K3 : Hid (Srt le r2 mid en) := hid (fun i j h1 h2 h3 => by rw [T2.out.out i (by omega), T2.out.out j (by omega)]; exact SP.out.s3 i j h1 h2 h3)
            have K4 : Hid (Srt le r2 en b) := hid (fun i j h1 h2 h3 => by rw [T2.out.out i (by omega), T2.out.out j (by omega)]; exact SP.out.s4 i j h1 h2 h3)
            go_wp2_with fail
            try simp only [EN.out]
            refine (IH.out (b - mid) (by have := HD.out; omega) mid en b r2 _ (Nat.le_refl _) R3.out (by omega) (by omega) (by omega) K3.out K4.out (fun i j h1 h2 h3 h4 => by obtain ⟨i2, j2, k1, k2, k3, k4, k5, k6⟩ := SP.out.t2 i j h1 h2 h3 h4; rw [T2.out.out i (by omega), T2.out.out j (by omega), k5, k6]; exact HT.out i2 j2 k1 k2 k3 k4)).mono ?_
            rintro e w3 ⟨rfl, r3, hst3, hs3, hR3, hg3⟩
            have T3 := hid hst3
            have SS3 := hid hs3
            have R4 := hid hR3
            have G4 := hid (grows G3.out hg3)
            clear hst3 hs3 hR3 hg3
            go_wp2
            go_end0
            exact ⟨rfl, r3, (T1.out.trans (T2.out.wide (Nat.le_refl _) (by omega))).trans (T3.out.wide (by omega) (Nat.le_refl _)), merge_done SP.out.cross T2.out SS2.out T3.out SS3.out, R4.out, G4.out⟩
          · skip
            go_wp2_with fail
            try simp only [EN.out]
            refine (c_rotate c lo g n cap st m en l _ R1.out hn (by omega) (by omega) (by omega)).mono ?_
            rintro e w1 ⟨rfl, r1, hst1, hrt1, hR1, hg1⟩
            have RT := hid hrt1
            have T1 := hid (hst1.wide (a' := a) (b' := b) (by omega) (by omega))
            have R2 := hid hR1
            have G2 := hid (grows G1.out hg1)
            clear hst1 hrt1 hR1 hg1
            have SP := hid (split_of (l1 := r1) HO.out S1.out S2.out (mid := mid) (st := st) (en := en) (by omega) (by omega) (by omega) (by omega) HEN.out (by omega) (by omega) RT.out BL.out BH.out)
            go_wp2_with fail
            try simp only [EN.out]
            refine (IH.out (mid - a) (by have := HD.out; omega) a st mid r1 _ (Nat.le_refl _) R2.out (by omega) (by omega) (by omega) SP.out.s1 SP.out.s2 (fun i j h1 h2 h3 h4 => by obtain ⟨i2, j2, k1, k2, k3, k4, k5, k6⟩ := SP.out.t1 i j h1 h2 h3 h4; rw [k5, k6]; exact HT.out i2 j2 k1 k2 k3 k4)).mono ?_
            rintro e w2 ⟨rfl, r2, hst2, hs2, hR2, hg2⟩
            have T2 := hid hst2
            have SS2 := hid hs2
            have R3 := hid hR2
            have G3 := hid (grows G2.out hg2)
            clear hst2 hs2 hR2 hg2
            have K3 : Hid (Srt le r2 mid en) := hid (fun i j h1 h2 h3 => by rw [T2.out.out i (by omega), T2.out.out j (by omega)]; exact SP.out.s3 i j h1 h2 h3)
            have K4 : Hid (Srt le r2 en b) := hid (fun i j h1 h2 h3 => by rw [T2.out.out i (by omega), T2.out.out j (by omega)]; exact SP.out.s4 i j h1 h2 h3)
            obtain ⟨r3, hr3⟩ : ∃ r3, r3 = r2 := ⟨_, rfl⟩
            have T3 : Hid (Steps mid b r2 r3) := hid (by rw [hr3]; exact .refl _ _ _)
            have SS3 : Hid (Srt le r3 mid b) := hid (by rw [hr3]; first | (have e : en = mid := (by omega); exact e ▸ K4.out) | (have e : en = b := (by omega); exact e ▸ K3.out))
            have R4 : Hid (Row _ lo g n cap r3) := hid (by rw [hr3]; exact R3.out)
            have G4 := hid G3.out
            clear hr3
            go_wp2
            go_end0
            exact ⟨rfl, r3, (T1.out.trans (T2.out.wide (Nat.le_refl _) (by omega))).trans (T3.out.wide (by omega) (Nat.le_refl _)), merge_done SP.out.cross T2.out SS2.out T3.out SS3.out, R4.out, G4.out⟩
        · rcases Nat.lt_or_ge en b with x4 | x4
          · skip
            go_wp2_with fail
            try simp only [EN.out]
            refine (c_rotate c lo g n cap st m en l _ R1.out hn (by omega) (by omega) (by omega)).mono ?_
            rintro e w1 ⟨rfl, r1, hst1, hrt1, hR1, hg1⟩
            have RT := hid hrt1
            have T1 := hid (hst1.wide (a' := a) (b' := b) (by omega) (by omega))
            have R2 := hid hR1
            have G2 := hid (grows G1.out hg1)
            clear hst1 hrt1 hR1 hg1
            have SP := hid (split_of (l1 := r1) HO.out S1.out S2.out (mid := mid) (st := st) (en := en) (by omega) (by omega) (by omega) (by omega) HEN.out (by omega) (by omega) RT.out BL.out BH.out)
            obtain ⟨r2, hr2⟩ : ∃ r2, r2 = r1 := ⟨_, rfl⟩
            have T2 : Hid (Steps a mid r1 r2) := hid (by rw [hr2]; exact .refl _ _ _)
            have SS2 : Hid (Srt le r2 a mid) := hid (by rw [hr2]; first | (have e : st = a := (by omega); exact e ▸ SP.out.s2) | (have e : st = mid := (by omega); exact e ▸ SP.out.s1))
            have R3 : Hid (Row _ lo g n cap r2) := hid (by rw [hr2]; exact R2.out)
            have G3 := hid G2.out
            clear hr2
            have K3 : Hid (Srt le r2 mid en) := hid (fun i j h1 h2 h3 => by rw [T2.out.out i (by omega), T2.out.out j (by omega)]; exact SP.out.s3 i j h1 h2 h3)
            have K4 : Hid (Srt le r2 en b) := hid (fun i j h1 h2 h3 => by rw [T2.out.out i (by omega), T2.out.out j (by omega)]; exact SP.out.s4 i j h1 h2 h3)
            go_wp2_with fail
            try simp only [EN.out]
            refine (IH.out (b - mid) (by have := HD.out; omega) mid en b r2 _ (Nat.le_refl _) R3.out (by omega) (by omega) (by omega) K3.out K4.out (fun i j h1 h2 h3 h4 => by obtain ⟨i2, j2, k1, k2, k3, k4, k5, k6⟩ := SP.out.t2 i j h1 h2 h3 h4; rw [T2.out.out i (by omega), T2.out.out j (by omega), k5, k6]; exact HT.out i2 j2 k1 k2 k3 k4)).mono ?_
            rintro e w3 ⟨rfl, r3, hst3, hs3, hR3, hg3⟩
            have T3 := hid hst3
            have SS3 := hid hs3
            have R4 := hid hR3
            have G4 := hid (grows G3.out hg3)
            clear hst3 hs3 hR3 hg3
            go_wp2
            go_end0
            exact ⟨rfl, r3, (T1.out.trans (T2.out.wide (Nat.le_refl _) (by omega))).trans (T3.out.wide (by omega) (Nat.le_refl _)), merge_done SP.out.cross T2.out SS2.out T3.out SS3.out, R4.out, G4.out⟩
          · skip
            go_wp2_with fail
            try simp only [EN.out]
            refine (c_rotate c lo g n cap st m en l _ R1.out hn (by omega) (by omega) (by omega)).mono ?_
            rintro e w1 ⟨rfl, r1, hst1, hrt1, hR1, hg1⟩
            have RT := hid hrt1
            have T1 := hid (hst1.wide (a' := a) (b' := b) (by omega) (by omega))
            have R2 := hid hR1
            have G2 := hid (grows G1.out hg1)
            clear hst1 hrt1 hR1 hg1
            have SP := hid (split_of (l1 := r1) HO.out S1.out S2.out (mid := mid) (st := st) (en := en) (by omega) (by omega) (by omega) (by omega) HEN.out (by omega) (by omega) RT.out BL.out BH.out)
            obtain ⟨r2, hr2⟩ : ∃ r2, r2 = r1 := ⟨_, rfl⟩
            have T2 : Hid (Steps a mid r1 r2) := hid (by rw [hr2]; exact .refl _ _ _)
            have SS2 : Hid (Srt le r2 a mid) := hid (by rw [hr2]; first | (have e : st = a := (by omega); exact e ▸ SP.out.s2) | (have e : st = mid := (by omega); exact e ▸ SP.out.s1))
            have R3 : Hid (Row _ lo g n cap r2) := hid (by rw [hr2]; exact R2.out)
            have G3 := hid G2.out
            clear hr2
            have K3 : Hid (Srt le r2 mid en) := hid (fun i j h1 h2 h3 => by rw [T2.out.out i (by omega), T2.out.out j (by omega)]; exact SP.out.s3 i j h1 h2 h3)
            have K4 : Hid (Srt le r2 en b) := hid (fun i j h1 h2 h3 => by rw [T2.out.out i (by omega), T2.out.out j (by omega)]; exact SP.out.s4 i j h1 h2 h3)
            obtain ⟨r3, hr3⟩ : ∃ r3, r3 = r2 := ⟨_, rfl⟩
            have T3 : Hid (Steps mid b r2 r3) := hid (by rw [hr3]; exact .refl _ _ _)
            have SS3 : Hid (Srt le r3 mid b) := hid (by rw [hr3]; first | (have e : en = mid := (by omega); exact e ▸ K4.out) | (have e : en = b := (by omega); exact e ▸ K3.out))
            have R4 : Hid (Row _ lo g n cap r3) := hid (by rw [hr3]; exact R3.out)
            have G4 := hid G3.out
            clear hr3
            go_wp2
            go_end0
            exact ⟨rfl, r3, (T1.out.trans (T2.out.wide (Nat.le_refl _) (by omega))).trans (T3.out.wide (by omega) (Nat.le_refl _)), merge_done SP.out.cross T2.out SS2.out T3.out SS3.out, R4.out, G4.out⟩
      · have y1 : en ≤ mid := by omega
        clear een hen
        rcases Nat.lt_or_ge m mid with x3 | x3
        · have y3 : st < mid := by omega
          have y4 : a < st := by omega
          obtain ⟨r1, hr1⟩ : ∃ r1, r1 = l := ⟨_, rfl⟩
          have RT : Hid (∀ k, fat r1 k = rotT l st m en k) := hid (fun k => by rw [hr1]; exact (rot_same l (by omega) (by omega) (by omega) k).symm)
          have T1 : Hid (Steps a b l r1) := hid (by rw [hr1]; exact .refl _ _ _)
          have R2 : Hid (Row _ lo g n cap r1) := hid (by rw [hr1]; exact R1.out)
          have G2 := hid G1.out
          clear hr1
          have SP := hid (split_of (l1 := r1) HO.out S1.out S2.out (mid := mid) (st := st) (en := en) (by omega) (by omega) (by omega) (by omega) HEN.out (by omega) (by omega) RT.out BL.out BH.out)
          go_wp2_with fail
          try simp only [EN.out]
          refine (IH.out (mid - a) (by have := HD.out; omega) a st mid r1 _ (Nat.le_refl _) R2.out (by omega) (by omega) (by omega) SP.out.s1 SP.out.s2 (fun i j h1 h2 h3 h4 => by obtain ⟨i2, j2, k1, k2, k3, k4, k5, k6⟩ := SP.out.t1 i j h1 h2 h3 h4; rw [k5, k6]; exact HT.out i2 j2 k1 k2 k3 k4)).mono ?_
          rintro e w2 ⟨rfl, r2, hst2, hs2, hR2, hg2⟩
          have T2 := hid hst2
          have SS2 := hid hs2
          have R3 := hid hR2
          have G3 := hid (grows G2.out hg2)
          clear hst2 hs2 hR2 hg2
          have K3 : Hid (Srt le r2 mid en) := hid (fun i j h1 h2 h3 => by rw [T2.out.out i (by omega), T2.out.out j (by omega)]; exact SP.out.s3 i j h1 h2 h3)
          have K4 : Hid (Srt le r2 en b) := hid (fun i j h1 h2 h3 => by rw [T2.out.out i (by omega), T2.out.out j (by omega)]; exact SP.out.s4 i j h1 h2 h3)
          obtain ⟨r3, hr3⟩ : ∃ r3, r3 = r2 := ⟨_, rfl⟩
          have T3 : Hid (Steps mid b r2 r3) := hid (by rw [hr3]; exact .refl _ _ _)
          have SS3 : Hid (Srt le r3 mid b) := hid (by rw [hr3]; first | (have e : en = mid := (by omega); exact e ▸ K4.out) | (have e : en = b := (by omega); exact e ▸ K3.out))
          have R4 : Hid (Row _ lo g n cap r3) := hid (by rw [hr3]; exact R3.out)
          have G4 := hid G3.out
          clear hr3
          go_wp2
          go_end0
          exact ⟨rfl, r3, (T1.out.trans (T2.out.wide (Nat.le_refl _) (by omega))).trans (T3.out.wide (by omega) (Nat.le_refl _)), merge_done SP.out.cross T2.out SS2.out T3.out SS3.out, R4.out, G4.out⟩
        · have y3 : mid ≤ st := by omega
          obtain ⟨r1, hr1⟩ : ∃ r1, r1 = l := ⟨_, rfl⟩
          have RT : Hid (∀ k, fat r1 k = rotT l st m en k) := hid (fun k => by rw [hr1]; exact (rot_same l (by omega) (by omega) (by omega) k).symm)
          have T1 : Hid (Steps a b l r1) := hid (by rw [hr1]; exact .refl _ _ _)
          have R2 : Hid (Row _ lo g n cap r1) := hid (by rw [hr1]; exact R1.out)
          have G2 := hid G1.out
          clear hr1
          have SP := hid (split_of (l1 := r1) HO.out S1.out S2.out (mid := mid) (st := st) (en := en) (by omega) (by omega) (by omega) (by omega) HEN.out (by omega) (by omega) RT.out BL.out BH.out)
          obtain ⟨r2, hr2⟩ : ∃ r2, r2 = r1 := ⟨_, rfl⟩
          have T2 : Hid (Steps a mid r1 r2) := hid (by rw [hr2]; exact .refl _ _ _)
          have SS2 : Hid (Srt le r2 a mid) := hid (by rw [hr2]; first | (have e : st = a := (by omega); exact e ▸ SP.out.s2) | (have e : st = mid := (by omega); exact e ▸ SP.out.s1))
          have R3 : Hid (Row _ lo g n cap r2) := hid (by rw [hr2]; exact R2.out)
          have G3 := hid G2.out
          clear hr2
          have K3 : Hid (Srt le r2 mid en) := hid (fun i j h1 h2 h3 => by rw [T2.out.out i (by omega), T2.out.out j (by omega)]; exact SP.out.s3 i j h1 h2 h3)
          have K4 : Hid (Srt le r2 en b) := hid (fun i j h1 h2 h3 => by rw [T2.out.out i (by omega), T2.out.out j (by omega)]; exact SP.out.s4 i j h1 h2 h3)
          obtain ⟨r3, hr3⟩ : ∃ r3, r3 = r2 := ⟨_, rfl⟩
          have T3 : Hid (Steps mid b r2 r3) := hid (by rw [hr3]; exact .refl _ _ _)
          have SS3 : Hid (Srt le r3 mid b) := hid (by rw [hr3]; first | (have e : en = mid := (by omega); exact e ▸ K4.out) | (have e : en = b := (by omega); exact e ▸ K3.out))
          have R4 : Hid (Row _ lo g n cap r3) := hid (by rw [hr3]; exact R3.out)
          have G4 := hid G3.out
          clear hr3
          go_wp2
          go_end0
          exact ⟨rfl, r3, (T1.out.trans (T2.out.wide (Nat.le_refl _) (by omega))).trans (T3.out.wide (by omega) (Nat.le_refl _)), merge_done SP.out.cross T2.out SS2.out T3.out SS3.out, R4.out, G4.out⟩
theorem c_symMerge (le : Nat → Nat → Prop) (hO : Ord le) (c : Nat) (ci : Nat → Nat → Int) (hc : Cmp c ci) (lo g n cap : Nat) (hn : n ≤ 1048576) : ∀ (d a m b : Nat) (l : List Nat) (w : World), b - a ≤ d → Row w lo g n cap l → a < m → m < b → b ≤ n → Srt le l a m → Srt le l m b →
    (∀ i j, a ≤ i → i < m → m ≤ j → j < b → Tells le (lessBy ci) (fat l j) (fat l i)) →
    Calls Try.prog 94 #[.slice (some ⟨g, 0, none⟩) n cap, .int .i64 (a : Int), .int .i64 (m : Int), .int .i64 (b : Int), .func (.func c) #[] #[]] w (Merged le lo g n cap a b l w) := by
  intro d
  induction d using Nat.strongRecOn with
  | ind d ih =>
    intro a m b l w hd hR ham hmb hbn hS1 hS2 hT
    by_cases hone : m = a + 1
    · exact c_merge_one le hO c ci hc lo g n cap a m b l w hR hn hone hmb hbn hS2 (fun j h1 h2 => hT a j (Nat.le_refl _) ham h1 h2)
    by_cases hlast : b = m + 1
    · exact c_merge_last le hO c ci hc lo g n cap a m b l w hR hn (by omega) hlast hbn hS1 (fun j h1 h2 => hT j m h1 h2 (Nat.le_refl _) hmb)
    by_cases hm : (a + b) / 2 < m
    · exact c_sym_a le hO c ci hc lo g n cap hn d ih a m b l w hd hR ham hmb hbn hS1 hS2 hT hone hlast hm
    · exact c_sym_b le hO c ci hc lo g n cap hn d ih a m b l w hd hR ham hmb hbn hS1 hS2 hT hone hlast hm
end Go.Proofs.Ytpaoccnffmngfaa
