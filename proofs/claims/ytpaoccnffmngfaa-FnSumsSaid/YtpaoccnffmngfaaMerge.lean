/- Walk of the library's merging in place. -/
import Derived.Test.YtpaoccnffmngfaaStab
namespace Go.Proofs.Ytpaoccnffmngfaa
set_option maxRecDepth 20000
open Go.RowKit

def Merged (le : Nat → Nat → Prop) (lo g n cap a b : Nat) (l : List Nat) (w : World) (e : Ending) (w' : World) : Prop :=
  e = .returned (.tuple #[]) ∧ ∃ r, Steps a b l r ∧ Srt le r a b ∧ Row w' lo g n cap r ∧ w.grownBy w' (some g)
theorem half_lt {i j : Nat} (h : i < j) : i ≤ (i + j) / 2 ∧ (i + j) / 2 < j := by omega
set_option maxRecDepth 20000 in
set_option maxHeartbeats 2000000 in
theorem c_merge_one (le : Nat → Nat → Prop) (hO : Ord le) (c : Nat) (ci : Nat → Nat → Int) (hc : Cmp c ci) (lo g n cap a m b : Nat) (l : List Nat) (w : World) (hR : Row w lo g n cap l) (hn : n ≤ 1048576) (ham : m = a + 1) (hmb : m < b) (hbn : b ≤ n)
    (hS : Srt le l m b) (hT : ∀ j, m ≤ j → j < b → Tells le (lessBy ci) (fat l j) (fat l a)) :
    Calls Try.prog 94 #[.slice (some ⟨g, 0, none⟩) n cap, .int .i64 (a : Int), .int .i64 (m : Int), .int .i64 (b : Int), .func (.func c) #[] #[]] w (Merged le lo g n cap a b l w) := by
  subst ham
  have eg := hc.1
  have R := hid hR
  have HC := hid hc.2
  have HT := hid hT
  have HO := hid hO
  have HS := hid hS
  have hlen : Hid (l.length = n) := hid hR.len
  clear hR hc hT hO hS
  go_enter Try.func94, Try.ntmps94
  go_wp2
  go_loopw [10, 11] (fun iv jv wr => ∃ (i j : Nat), a + 1 ≤ i ∧ i ≤ j ∧ j ≤ b ∧ iv = .int .i64 i ∧ jv = .int .i64 j ∧ (i = a + 1 ∨ le (fat l (i - 1)) (fat l a)) ∧ (j = b ∨ le (fat l a) (fat l j)) ∧ Row wr lo g n cap l ∧ w.grownBy wr (some g)) (fun iv jv _ => (intOf jv).toNat - (intOf iv).toNat)
  case atStart => exact ⟨a + 1, b, by omega, by omega, by omega, by go_num, rfl, .inl rfl, .inl rfl, R.out, World.grownBy.refl _ _⟩
  case round =>
    obtain ⟨i, j, hi1, hij, hjb, rfl, rfl, hlo, hhi, hr, hg⟩ := hrel
    have LO := hid hlo
    have HI := hid hhi
    have R1 := hid hr
    have G1 := hid hg
    clear hlo hhi hr hg
    by_cases hlt : i < j
    · obtain ⟨h, hh⟩ : ∃ h, h = (i + j) / 2 := ⟨_, rfl⟩
      have b1 : i ≤ h ∧ h < j := by omega
      have HH := hid hh
      clear hh
      have h1 := R1.out.cell (k := h) (by omega)
      have h2 := R1.out.cell (k := a) (by omega)
      have TT := hid (HT.out h (by omega) (by omega))
      cases hcf : lessBy ci (fat l h) (fat l a)
      case true =>
        have hcf' : ci (fat l h) (fat l a) < 0 := by simpa [lessBy] using hcf
        have NX := hid (TT.out.1 hcf)
        clear hcf
        go_wp2
        rw [show ((i : Int) + (j : Int)) / 2 = (h : Int) by have := HH.out; omega]
        go_quiet ((go_at_fn c; exact quiet_left (HC.out _ _ _ (R1.out.ok _) (R1.out.ok _))))
        go_wp2
        exact ⟨⟨h + 1, j, by omega, by omega, hjb, by go_num, rfl, .inr NX.out, HI.out, R1.out.drewN _, grown_drewN G1.out _⟩, by simp [intOf]; omega⟩
      case false =>
        have hcf' : 0 ≤ ci (fat l h) (fat l a) := by simpa [lessBy] using hcf
        have NX := hid (TT.out.2 hcf)
        clear hcf
        go_wp2
        rw [show ((i : Int) + (j : Int)) / 2 = (h : Int) by have := HH.out; omega]
        go_quiet ((go_at_fn c; exact quiet_left (HC.out _ _ _ (R1.out.ok _) (R1.out.ok _))))
        go_wp2
        exact ⟨⟨i, h, hi1, by omega, by omega, rfl, by go_num, LO.out, .inr NX.out, R1.out.drewN _, grown_drewN G1.out _⟩, by simp [intOf]; omega⟩
    · obtain rfl : i = j := by omega
      go_wp2
      go_loopw [13] (fun kv wr => ∃ q : Nat, a + 1 + q ≤ i ∧ (∃ k : Nat, k = a + q ∧ kv = .int .i64 k) ∧ Row wr lo g n cap (shR l a q) ∧ w.grownBy wr (some g)) (fun kv _ => i - (intOf kv).toNat)
      case atStart => exact ⟨0, by omega, ⟨a, by omega, rfl⟩, R1.out, G1.out⟩
      case round =>
        obtain ⟨q, hq, ⟨k, hk, rfl⟩, hr, hg⟩ := hrel
        have R2 := hid hr
        have G2 := hid hg
        have K := hid hk
        have Q := hid hq
        clear hr hg hk hq
        by_cases hlt2 : k + 1 < i
        · have h1 := R2.out.cell (k := k) (by omega)
          have h2 := R2.out.cell (k := k + 1) (by omega)
          have SW := hid (fun q => ((R2.out.drewN q).swap k (k + 1)))
          have GR := hid (fun q => grows (grown_drewN G2.out q) (SW.out q).2)
          have SE : Hid (sw (shR l a q) k (k + 1) = shR l a (q + 1)) := hid (by rw [shR, ← K.out])
          have f1 := R2.out.frozen k
          have f2 := R2.out.frozen (k + 1)
          have t1 : (k : Int) < (i : Int) - 1 := by omega
          clear hlt2
          go_wp2
          go_region
          go_wp2
          exact ⟨⟨q + 1, by have := K.out; have := Q.out; omega, ⟨k + 1, by have := K.out; omega, by go_num⟩, SE.out ▸ (SW.out _).1, GR.out _⟩, by simp [intOf]; omega⟩
        · have t1 : (i : Int) - 1 ≤ (k : Int) := by omega
          have E : Hid (i = a + q + 1) := hid (by have := K.out; have := Q.out; omega)
          clear hlt2
          go_wp2
          go_end0
          refine ⟨rfl, _, shR_steps l q (Nat.le_refl _) (by have := E.out; omega) (by rw [hlen.out]; omega), ?_, R2.out, G2.out⟩
          refine ins_up HO.out HS.out (by have := E.out; omega) (by rw [hlen.out]; omega) (fun p hp1 hp2 => ?_) ?_
          · rcases LO.out with h | h
            · have := E.out; omega
            · exact HO.out.trans (HS.out p (i - 1) (by omega) (by have := E.out; omega) (by omega)) h
          · rcases HI.out with h | h
            · left; have := E.out; omega
            · right; rw [← E.out]; exact h
set_option maxRecDepth 20000 in
set_option maxHeartbeats 2000000 in
theorem c_merge_last (le : Nat → Nat → Prop) (hO : Ord le) (c : Nat) (ci : Nat → Nat → Int) (hc : Cmp c ci) (lo g n cap a m b : Nat) (l : List Nat) (w : World) (hR : Row w lo g n cap l) (hn : n ≤ 1048576) (ham : a + 1 < m) (hmb : b = m + 1) (hbn : b ≤ n)
    (hS : Srt le l a m) (hT : ∀ j, a ≤ j → j < m → Tells le (lessBy ci) (fat l m) (fat l j)) :
    Calls Try.prog 94 #[.slice (some ⟨g, 0, none⟩) n cap, .int .i64 (a : Int), .int .i64 (m : Int), .int .i64 (b : Int), .func (.func c) #[] #[]] w (Merged le lo g n cap a b l w) := by
  subst hmb
  have eg := hc.1
  have R := hid hR
  have HC := hid hc.2
  have HT := hid hT
  have HO := hid hO
  have HS := hid hS
  have hlen : Hid (l.length = n) := hid hR.len
  clear hR hc hT hO hS
  have z1 : ((m : Int) - (a : Int) == 1) = false := by simp; omega
  go_enter Try.func94, Try.ntmps94
  go_wp2
  go_loopw [14, 15] (fun iv jv wr => ∃ (i j : Nat), a ≤ i ∧ i ≤ j ∧ j ≤ m ∧ iv = .int .i64 i ∧ jv = .int .i64 j ∧ (i = a ∨ le (fat l (i - 1)) (fat l m)) ∧ (j = m ∨ le (fat l m) (fat l j)) ∧ Row wr lo g n cap l ∧ w.grownBy wr (some g)) (fun iv jv _ => (intOf jv).toNat - (intOf iv).toNat)
  case atStart => exact ⟨a, m, by omega, by omega, by omega, rfl, rfl, .inl rfl, .inl rfl, R.out, World.grownBy.refl _ _⟩
  case round =>
    obtain ⟨i, j, hi1, hij, hjb, rfl, rfl, hlo, hhi, hr, hg⟩ := hrel
    have LO := hid hlo
    have HI := hid hhi
    have R1 := hid hr
    have G1 := hid hg
    clear hlo hhi hr hg
    by_cases hlt : i < j
    · obtain ⟨h, hh⟩ : ∃ h, h = (i + j) / 2 := ⟨_, rfl⟩
      have b1 : i ≤ h ∧ h < j := by omega
      have HH := hid hh
      clear hh
      have h1 := R1.out.cell (k := h) (by omega)
      have h2 := R1.out.cell (k := m) (by omega)
      have TT := hid (HT.out h (by omega) (by omega))
      cases hcf : lessBy ci (fat l m) (fat l h)
      case true =>
        have hcf' : decide (ci (fat l m) (fat l h) < 0) = true := hcf
        have NX := hid (TT.out.1 hcf)
        clear hcf
        go_wp2
        rw [show ((i : Int) + (j : Int)) / 2 = (h : Int) by have := HH.out; omega]
        go_quiet ((go_at_fn c; exact quiet_left (HC.out _ _ _ (R1.out.ok _) (R1.out.ok _))))
        go_wp2
        exact ⟨⟨i, h, hi1, by omega, by omega, rfl, by go_num, LO.out, .inr NX.out, R1.out.drewN _, grown_drewN G1.out _⟩, by simp [intOf]; omega⟩
      case false =>
        have hcf' : decide (ci (fat l m) (fat l h) < 0) = false := hcf
        have NX := hid (TT.out.2 hcf)
        clear hcf
        go_wp2
        rw [show ((i : Int) + (j : Int)) / 2 = (h : Int) by have := HH.out; omega]
        go_quiet ((go_at_fn c; exact quiet_left (HC.out _ _ _ (R1.out.ok _) (R1.out.ok _))))
        go_wp2
        exact ⟨⟨h + 1, j, by omega, by omega, hjb, by go_num, rfl, .inr NX.out, HI.out, R1.out.drewN _, grown_drewN G1.out _⟩, by simp [intOf]; omega⟩
    · obtain rfl : i = j := by omega
      go_wp2
      go_loopw [17] (fun kv wr => ∃ q : Nat, i + q ≤ m ∧ (∃ k : Nat, k = m - q ∧ kv = .int .i64 k) ∧ Row wr lo g n cap (shL l m q) ∧ w.grownBy wr (some g)) (fun kv _ => (intOf kv).toNat)
      case atStart => exact ⟨0, by omega, ⟨m, by omega, rfl⟩, R1.out, G1.out⟩
      case round =>
        obtain ⟨q, hq, ⟨k, hk, rfl⟩, hr, hg⟩ := hrel
        have R2 := hid hr
        have G2 := hid hg
        have hkm : k ≤ m := by omega
        have K := hid hk
        have Q := hid hq
        clear hr hg hk hq
        by_cases hlt2 : i < k
        · obtain ⟨p, rfl⟩ : ∃ p, k = p + 1 := ⟨k - 1, by omega⟩
          have h1 := R2.out.cell (k := p + 1) (by omega)
          have h2 := R2.out.cell (k := p) (by omega)
          have SW := hid (fun q => ((R2.out.drewN q).swap (p + 1) p))
          have GR := hid (fun q => grows (grown_drewN G2.out q) (SW.out q).2)
          have SE : Hid (sw (shL l m q) (p + 1) p = shL l m (q + 1)) := hid (by rw [shL, ← K.out]; rfl)
          have f1 := R2.out.frozen (p + 1)
          have f2 := R2.out.frozen p
          have t1 : (i : Int) < (p : Int) + 1 := by omega
          clear hlt2
          go_wp2
          go_region
          go_wp2
          exact ⟨⟨q + 1, by have := K.out; have := Q.out; omega, ⟨p, by have := K.out; omega, by go_num⟩, SE.out ▸ (SW.out _).1, GR.out _⟩, by simp [intOf]⟩
        · obtain rfl : k = i := by have := K.out; have := Q.out; omega
          clear hlt2
          go_wp2
          go_end0
          refine ⟨rfl, _, shL_steps l q (by have := K.out; have := Q.out; omega) (by omega) (by rw [hlen.out]; omega), ?_, R2.out, G2.out⟩
          refine ins_done HO.out HS.out (by have := K.out; have := Q.out; omega) (by rw [hlen.out]; omega) (fun p hp1 hp2 => ?_) ?_
          · rcases HI.out with h | h
            · have := K.out; omega
            · exact HO.out.trans h (HS.out k p (by omega) (by have := K.out; omega) (by omega))
          · rcases LO.out with h | h
            · left; have := K.out; omega
            · right; rw [← K.out]; exact h
end Go.Proofs.Ytpaoccnffmngfaa
