/- Walks of the reference's sorted lists. -/
import Derived.Test.YtpaoccnffmngfaaSorted
namespace Go.Proofs.Ytpaoccnffmngfaa
set_option maxRecDepth 20000
open Go.RowKit

theorem bits64_run (x : Nat) (w : World) : (callFunc 97 #[.float .f64 x]).run Try.prog w = .ok (.value (.int .u64 x)) w := by
  kernel_rfl
def sgnD (y : Nat) : Bool := decide (wrap64 (y : Int) < 0)
theorem c_Signbit (y : Nat) (w : World) : Calls Try.prog 95 #[.float .f64 y] w fun e w' => e = .returned (.bool (sgnD y)) ∧ w = w' := by
  have hb := bits64_run
  unfold sgnD
  go_enter Try.func95, Try.ntmps95
  go_wp2
  go_ret
  exact ⟨rfl, rfl⟩
def belowW (x y : Nat) : Bool := decide (key x < key y)
theorem below_eq {x y : Nat} (hx : Okv x) (hy : Okv y) (h : fEq x y = true) : belowW x y = (sgnD (toD x) && !sgnD (toD y)) := by
  rw [fEq_fin hx.2 hy.2] at h
  rcases fx_same hx.1 hy.1 (of_decide_eq_true h) with e | ⟨e1, e2⟩ | ⟨e1, e2⟩
  · subst e; simp [belowW]
  · subst e1 e2; decide +kernel
  · subst e1 e2; decide +kernel
theorem below_lt {x y : Nat} (hx : Okv x) (hy : Okv y) (h : fLt x y = true) : belowW x y = true := by
  rw [fLt_fin hx.2 hy.2] at h
  exact decide_eq_true (fx_lt hx.1 hy.1 (of_decide_eq_true h))
theorem below_gt {x y : Nat} (hx : Okv x) (hy : Okv y) (h : fLt x y = false) (h2 : fEq x y = false) : belowW x y = false := by
  rw [fLt_fin hx.2 hy.2] at h
  rw [fEq_fin hx.2 hy.2] at h2
  have h3 := of_decide_eq_false h
  have h4 := of_decide_eq_false h2
  have := fx_lt hy.1 hx.1 (show fx y < fx x by omega)
  exact decide_eq_false (by omega)
theorem c_l06Below (x y : Nat) (hx : Okv x) (hy : Okv y) (w : World) : Calls Try.prog 89 #[.float .f32 x, .float .f32 y] w fun e w' => e = .returned (.bool (belowW x y)) ∧ w = w' := by
  have hcx := run_toD hx.2
  have hcy := run_toD hy.2
  cases e1 : fLt x y
  · have a1 : (FloatKind.f32.format.order x y == some .lt) = false := e1
    cases e2 : fEq x y
    · have a2 : (FloatKind.f32.format.order x y == some .eq) = false := e2
      rw [below_gt hx hy e1 e2]
      clear e1 e2 hx hy
      go_enter Try.func89, Try.ntmps89
      go_wp2_with fail
      go_ret
      exact ⟨rfl, rfl⟩
    · have a2 : (FloatKind.f32.format.order x y == some .eq) = true := e2
      rw [below_eq hx hy e2]
      clear e1 e2 hx hy
      have CX := fun w => c_Signbit (toD x) w
      have CY := hid (fun w => c_Signbit (toD y) w)
      generalize sgnD (toD x) = u at *
      generalize sgnD (toD y) = v at *
      cases u
      · rw [Bool.false_and]
        have C1 := hid CX
        clear CX
        go_enter Try.func89, Try.ntmps89
        go_wp2_with fail
        refine (C1.out _).mono ?_
        rintro e w1 ⟨rfl, rfl⟩
        go_wp2_with fail
        go_ret
        exact ⟨rfl, rfl⟩
      · rw [Bool.true_and]
        have C1 := hid CX
        clear CX
        go_enter Try.func89, Try.ntmps89
        go_wp2_with fail
        refine (C1.out _).mono ?_
        rintro e w1 ⟨rfl, rfl⟩
        go_wp2_with fail
        refine (CY.out _).mono ?_
        rintro e w1 ⟨rfl, rfl⟩
        go_wp2_with fail
        go_ret
        exact ⟨rfl, rfl⟩
  · have a1 : (FloatKind.f32.format.order x y == some .lt) = true := e1
    rw [below_lt hx hy e1]
    clear e1 hx hy
    go_enter Try.func89, Try.ntmps89
    go_wp2_with fail
    go_ret
    exact ⟨rfl, rfl⟩
theorem append_row (ad : Addr) {n : Nat} {xs : List Nat} {w : World} (hx : Flts w (some ad) n xs) : (mF32 xs).length = n * 1 ∧ (∀ j u, (mF32 xs)[j]? = some u → (w.alloc (.cells #[] 26)).cell? (ad.add j) = some u) ∧ ∀ u ∈ mF32 xs, u.oneCell' = true := by
  refine ⟨by simp [mF32, hx.len], fun j u hj => ?_, fun u hu => ?_⟩
  · have hj2 : j < n := by have := (List.getElem?_eq_some_iff.1 hj).1; simpa [mF32, hx.len] using this
    obtain ⟨b, o, e, hc⟩ := hx.at_ (by omega)
    cases e
    have := hc j hj2
    refine cell_stays ((Below.refl _ _).alloc (Nat.le_refl _) _) ?_
    rw [show (Addr.add ⟨b, o, none⟩ j) = ⟨b, o + j, none⟩ by simp [Addr.add], this]
    have : j < xs.length := by rw [hx.len]; exact hj2
    simp [mF32, this] at hj
    rw [← hj]; simp [fat, this]
  · simp [mF32] at hu; obtain ⟨x, _, rfl⟩ := hu; rfl
theorem below_tells (x y : Nat) : Tells leK belowW y x := ⟨fun h => by have := of_decide_eq_true h; show key y ≤ key x; omega, fun h => by have := of_decide_eq_false h; show key x ≤ key y; omega⟩
set_option maxHeartbeats 2000000 in
theorem c_l06Sorted (ad : Addr) (n ca : Nat) (l : List Nat) (w : World) (hv : VL w (some ad) n l) :
    Calls Try.prog 67 #[.slice (some ad) n ca] w fun e w' => (∃ g cap, e = .returned (.slice (some ⟨g, 0, none⟩) n cap) ∧ Row w' w.heap.size g n cap (sortK l)) ∧ Below w.heap.size w w' := by
  obtain ⟨hl, hnw, h1⟩ := append_row ad hv.fl
  have HL := hid hl
  have NW := hid hnw
  have H1 := hid h1
  have OK := hid hv.okv
  have LEN := hid hv.len
  have hn := hv.le
  obtain ⟨i0, hi, hz0, hz1, hz2⟩ := info_parts info_f32
  have HI := hid hi
  have HZ0 := hid hz0
  have HZ1 := hid hz1
  have HZ2 := hid hz2
  have B0 : Hid (Below w.heap.size w (w.alloc (.cells #[] 26))) := hid ((Below.refl _ _).alloc (Nat.le_refl _) _)
  clear hv hl hnw h1 hi hz0 hz1 hz2
  go_enter Try.func67, Try.ntmps67
  go_wp2_with (at_builtin; refine wpList_append_own _ rfl _ _ 24 rfl w.heap.size 26 i0 (.float .f32 0) 1 4 Try.underlying24 HI.out HZ0.out HZ1.out HZ2.out rfl (by decide) _ _ _ rfl (owns_empty w 26) ad n ca (mF32 l) rfl HL.out NW.out H1.out (by unfold maxLen; omega) (by omega) (by simp) ?_; intro v' w3 hown' hgrow hnil)
  have B1 := hid (B0.out.grown hgrow B0.out.size (fun r e => by cases e; exact Nat.le_refl _))
  obtain ⟨g, cap, hv', hR⟩ : ∃ g cap, v' = .slice (some ⟨g, 0, none⟩) n cap ∧ Row w3 w.heap.size g n cap l := by
    rw [Nat.zero_add, List.nil_append] at hown'
    rcases hown'.2 with h | ⟨g, cap, cur, h1, h2⟩
    · exact absurd (hnil.1 h.1).1 (fun hc => by cases hc)
    · subst h1
      exact ⟨g, cap, rfl, hown', LEN.out, OK.out⟩
  subst hv'
  have R := hid hR
  clear hown' hgrow hnil hR
  -- loops of l06Sorted
  have HO := hid ordK
  go_wp2_with fail
  go_loopw [4] (fun iv wr => ∃ (i : Nat) (m : List Nat), 1 ≤ i ∧ (i ≤ n ∨ (i = 1 ∧ m = l)) ∧ iv = .int .i64 i ∧ Srt leK m 0 i ∧ Steps 0 i l m ∧ Row wr w.heap.size g n cap m ∧ w3.grownBy wr (some g)) (fun iv _ => n + 1 - (intOf iv).toNat)
  case atStart => exact ⟨1, l, by omega, .inr ⟨rfl, rfl⟩, rfl, Srt.one HO.out l 0, .refl _ _ _, R.out, World.grownBy.refl _ _⟩
  case round =>
    obtain ⟨i, m, hi1, hi2, rfl, hs, hst, hr, hg⟩ := hrel
    have S := hid hs
    have ST := hid hst
    have R1 := hid hr
    have G1 := hid hg
    have I2 := hid hi2
    clear hs hst hr hg hi2
    by_cases hlt : i < n
    · go_wp2_with fail
      go_loopw [5] (fun jv wr => ∃ (k : Nat), k ≤ i ∧ (∃ j : Nat, j = i - k ∧ jv = .int .i64 j) ∧ (∀ q, i - k ≤ q → q < i → leK (fat m i) (fat m q)) ∧ Row wr w.heap.size g n cap (shL m i k) ∧ w3.grownBy wr (some g)) (fun jv _ => (intOf jv).toNat)
      case atStart => exact ⟨0, by omega, ⟨i, by omega, rfl⟩, fun q _ _ => by omega, R1.out, G1.out⟩
      case round =>
        obtain ⟨k, hk, ⟨j, hj, rfl⟩, hq, hr, hg⟩ := hrel
        have Q := hid hq
        have R2 := hid hr
        have G2 := hid hg
        have hji : j ≤ i := by omega
        have K := hid hk
        have J := hid hj
        clear hq hr hg hk hj
        by_cases hlj : 0 < j
        · obtain ⟨p, rfl⟩ : ∃ p, j = p + 1 := ⟨j - 1, by omega⟩
          have hil : i < m.length := by rw [R1.out.len]; omega
          have h1 : wr.cell? ⟨g, p + 1, none⟩ = some (.float .f32 (fat m i)) := by
            rw [R2.out.cell (by omega), shL_at m k (by have := K.out; omega) hil, if_pos J.out]
          have h2 : wr.cell? ⟨g, p, none⟩ = some (.float .f32 (fat m p)) := by
            rw [R2.out.cell (by omega), shL_at m k (by have := K.out; omega) hil, if_neg (by have := J.out; omega), if_neg (by have := J.out; omega)]
          have SW := hid (fun q => ((R2.out.drewN q).swap (p + 1) p))
          have e1 : fat (shL m i k) (p + 1) = fat m i := by rw [shL_at m k (by have := K.out; omega) hil, if_pos J.out]
          have e2 : fat (shL m i k) p = fat m p := by rw [shL_at m k (by have := K.out; omega) hil, if_neg (by have := J.out; omega), if_neg (by have := J.out; omega)]
          have SE : Hid (sw (shL m i k) (p + 1) p = shL m i (k + 1)) := hid (by rw [shL, ← J.out]; rfl)
          rw [e1, e2, SE.out] at SW
          have GR := hid (fun q => grows (grown_drewN G2.out q) (SW.out q).2)
          have FM : Hid (fat m i = fat l i) := hid (ST.out.out i (by omega))
          have f1 := R2.out.frozen (p + 1)
          have f2 := R2.out.frozen p
          have wp1 : IntKind.i64.wrap ((p : Int) + 1 - 1) = (p : Int) := by rw [IntWalk.i64_in _ (by omega)]; omega
          have wp2 : (p : Int) + 1 - 1 = (p : Int) := by omega
          clear e1 e2 hil hlj
          cases hcf : belowW (fat m i) (fat m p)
          case true =>
            have hb := fun w => hcf ▸ c_l06Below _ _ (R1.out.ok i) (R1.out.ok p) w
            have HB := hid hb
            clear hb
            go_wp2_with fail
            go_quiet ((go_at_call 89; exact quiet_left (HB.out _)))
            clear wp1
            go_wp2_with fail
            refine ⟨⟨k + 1, by have := J.out; omega, ⟨p, by have := J.out; omega, by go_num⟩, fun q h3 h4 => ?_, (SW.out _).1, GR.out _⟩, by simp [intOf]⟩
            by_cases hqp : q = p
            · subst hqp
              obtain ⟨q', hq1, hq2, hq3⟩ := ST.out.from_ q (by omega) h4
              rw [FM.out, hq3]
              refine ((fun a b (_ : a < b) (_ : b < n) => below_tells (fat l a) (fat l b)) q' i hq2 hlt).1 ?_
              rw [← FM.out, ← hq3]; exact hcf
            · exact Q.out q (by have := J.out; omega) h4
          case false =>
            have hb := fun w => hcf ▸ c_l06Below _ _ (R1.out.ok i) (R1.out.ok p) w
            have HB := hid hb
            clear hb
            go_wp2_with fail
            go_quiet ((go_at_call 89; exact quiet_left (HB.out _)))
            clear wp1 wp2
            go_wp2_with fail
            refine ⟨⟨i + 1, shL m i k, by omega, .inl (by omega), by go_num, ?_, ?_, R2.out.drewN _, grown_drewN G2.out _⟩, by simp [intOf]; omega⟩
            · refine ins_done HO.out S.out (by have := K.out; omega) (by rw [R1.out.len]; omega) Q.out (.inr ?_)
              rw [show i - k - 1 = p by have := J.out; omega]
              obtain ⟨q', hq1, hq2, hq3⟩ := ST.out.from_ p (by omega) (by have := J.out; omega)
              rw [FM.out, hq3]
              refine ((fun a b (_ : a < b) (_ : b < n) => below_tells (fat l a) (fat l b)) q' i hq2 hlt).2 ?_
              rw [← FM.out, ← hq3]; exact hcf
            · exact (ST.out.wide (Nat.le_refl _) (by omega)).trans (shL_steps m k (by have := K.out; omega) (by omega) (by rw [R1.out.len]; omega))
        · obtain rfl : j = 0 := by omega
          go_wp2_with fail
          go_quiet (fail)
          go_wp2_with fail
          refine ⟨⟨i + 1, shL m i k, by omega, .inl (by omega), by go_num, ?_, ?_, R2.out.drewN _, grown_drewN G2.out _⟩, by simp [intOf]; omega⟩
          · exact ins_done HO.out S.out (by have := K.out; omega) (by rw [R1.out.len]; omega) Q.out (.inl J.out.symm)
          · exact (ST.out.wide (Nat.le_refl _) (by omega)).trans (shL_steps m k (by have := K.out; omega) (by omega) (by rw [R1.out.len]; omega))
    · have F : Hid (m.Perm l ∧ Srt leK m 0 n) := hid (by
        rcases I2.out with h | ⟨h, h'⟩
        · obtain rfl : i = n := by omega
          exact ⟨ST.out.perm, S.out⟩
        · exact ⟨ST.out.perm, S.out.sub (Nat.le_refl _) (by omega)⟩)
      have E := sorted_is F.out.1 (by rw [LEN.out]; exact F.out.2)
      subst E
      go_wp2_with fail
      go_ret
      exact ⟨⟨g, cap, rfl, R1.out⟩, B1.out.grown G1.out B1.out.size (fun r e => by cases e; exact (R.out.own.lt _ rfl).1)⟩
def smallOf (xs : List Nat) : Nat := leftOf (sortZ (sortK xs))
def sizB (x y : Nat) : Bool := fLt (sizeW x) (sizeW y)
theorem sizB_is {x y : Nat} (_ : Okv x) (_ : Okv y) : sizB x y = lessBy sizC x y := by
  unfold sizB lessBy sizC cmpW
  cases h : fLt (sizeW x) (sizeW y)
  · rw [if_neg (by simp)]; split <;> rfl
  · rw [if_pos rfl]; rfl
set_option maxHeartbeats 2000000 in
theorem c_l06Small (ad : Addr) (n ca : Nat) (xs : List Nat) (w : World) (hv : VL w (some ad) n xs) :
    Calls Try.prog 45 #[.slice (some ad) n ca] w fun e w' => e = .returned (.float .f32 (smallOf xs)) ∧ Below w.heap.size w w' := by
  have C := hid (c_l06Sorted ad n ca xs w hv)
  have hn := hv.le
  have V := hid hv
  obtain ⟨l, hl⟩ : ∃ l, l = sortK xs := ⟨_, rfl⟩
  have LK := hid hl
  have PL : Hid (Plains l) := hid (by rw [hl]; exact hv.pl.perm (sortK_perm xs))
  have LEN : Hid (l.length = n) := hid (by rw [hl, sortK_len]; exact hv.len)
  have KS : Hid (Srt leK l 0 n) := hid (by rw [hl, ← hv.len]; exact sortK_srt xs)
  clear hv hl
  rw [← LK.out] at C
  go_enter Try.func45, Try.ntmps45
  go_wp2_with fail
  refine C.out.mono ?_
  rintro e w3 ⟨⟨g, cap, rfl, hR⟩, hb⟩
  have B1 := hid hb
  have HO := hid ordZ
  have TZ : Hid (∀ a b, a < b → b < n → Tells leZ sizB (fat l b) (fat l a)) := hid (fun a b h1 h2 => by
    have := siz_tells (hR.ok a).abs (hR.ok b).abs (KS.out a b (Nat.zero_le _) (by omega) h2)
    have e := sizB_is (hR.ok b) (hR.ok a)
    exact ⟨fun h => this.1 (by rw [e] at h; exact h), fun h => this.2 (by rw [e] at h; exact h)⟩)
  have R := hid hR
  clear hb hR
  -- loops of l06Small
  go_wp2_with fail
  go_loopw [4] (fun iv wr => ∃ (i : Nat) (m : List Nat), 1 ≤ i ∧ (i ≤ n ∨ (i = 1 ∧ m = l)) ∧ iv = .int .i64 i ∧ Srt leZ m 0 i ∧ Steps 0 i l m ∧ Row wr w.heap.size g n cap m ∧ w3.grownBy wr (some g)) (fun iv _ => n + 1 - (intOf iv).toNat)
  case atStart => exact ⟨1, l, by omega, .inr ⟨rfl, rfl⟩, rfl, Srt.one HO.out l 0, .refl _ _ _, R.out, World.grownBy.refl _ _⟩
  case round =>
    obtain ⟨i, m, hi1, hi2, rfl, hs, hst, hr, hg⟩ := hrel
    have S := hid hs
    have ST := hid hst
    have R1 := hid hr
    have G1 := hid hg
    have I2 := hid hi2
    clear hs hst hr hg hi2
    by_cases hlt : i < n
    · go_wp2_with fail
      go_loopw [5] (fun jv wr => ∃ (k : Nat), k ≤ i ∧ (∃ j : Nat, j = i - k ∧ jv = .int .i64 j) ∧ (∀ q, i - k ≤ q → q < i → leZ (fat m i) (fat m q)) ∧ Row wr w.heap.size g n cap (shL m i k) ∧ w3.grownBy wr (some g)) (fun jv _ => (intOf jv).toNat)
      case atStart => exact ⟨0, by omega, ⟨i, by omega, rfl⟩, fun q _ _ => by omega, R1.out, G1.out⟩
      case round =>
        obtain ⟨k, hk, ⟨j, hj, rfl⟩, hq, hr, hg⟩ := hrel
        have Q := hid hq
        have R2 := hid hr
        have G2 := hid hg
        have hji : j ≤ i := by omega
        have K := hid hk
        have J := hid hj
        clear hq hr hg hk hj
        by_cases hlj : 0 < j
        · obtain ⟨p, rfl⟩ : ∃ p, j = p + 1 := ⟨j - 1, by omega⟩
          have hil : i < m.length := by rw [R1.out.len]; omega
          have h1 : wr.cell? ⟨g, p + 1, none⟩ = some (.float .f32 (fat m i)) := by
            rw [R2.out.cell (by omega), shL_at m k (by have := K.out; omega) hil, if_pos J.out]
          have h2 : wr.cell? ⟨g, p, none⟩ = some (.float .f32 (fat m p)) := by
            rw [R2.out.cell (by omega), shL_at m k (by have := K.out; omega) hil, if_neg (by have := J.out; omega), if_neg (by have := J.out; omega)]
          have SW := hid (fun q => ((R2.out.drewN q).swap (p + 1) p))
          have e1 : fat (shL m i k) (p + 1) = fat m i := by rw [shL_at m k (by have := K.out; omega) hil, if_pos J.out]
          have e2 : fat (shL m i k) p = fat m p := by rw [shL_at m k (by have := K.out; omega) hil, if_neg (by have := J.out; omega), if_neg (by have := J.out; omega)]
          have SE : Hid (sw (shL m i k) (p + 1) p = shL m i (k + 1)) := hid (by rw [shL, ← J.out]; rfl)
          rw [e1, e2, SE.out] at SW
          have GR := hid (fun q => grows (grown_drewN G2.out q) (SW.out q).2)
          have FM : Hid (fat m i = fat l i) := hid (ST.out.out i (by omega))
          have f1 := R2.out.frozen (p + 1)
          have f2 := R2.out.frozen p
          have wp1 : IntKind.i64.wrap ((p : Int) + 1 - 1) = (p : Int) := by rw [IntWalk.i64_in _ (by omega)]; omega
          have wp2 : (p : Int) + 1 - 1 = (p : Int) := by omega
          clear e1 e2 hil hlj
          cases hcf : sizB (fat m i) (fat m p)
          case true =>
            have a1 : (FloatKind.f32.format.order (sizeW (fat m i)) (sizeW (fat m p)) == some .lt) = true := hcf
            have CZ := hid (fun x (h : Okv x) w => c_l01Size h.abs w)
            go_wp2_with fail
            go_quiet ((go_at_call 68; exact quiet_left (CZ.out _ (R1.out.ok _) _)))
            clear wp1
            go_wp2_with fail
            refine ⟨⟨k + 1, by have := J.out; omega, ⟨p, by have := J.out; omega, by go_num⟩, fun q h3 h4 => ?_, (SW.out _).1, GR.out _⟩, by simp [intOf]⟩
            by_cases hqp : q = p
            · subst hqp
              obtain ⟨q', hq1, hq2, hq3⟩ := ST.out.from_ q (by omega) h4
              rw [FM.out, hq3]
              refine ((fun a b (hab : a < b) (hbn : b < n) => TZ.out a b hab hbn) q' i hq2 hlt).1 ?_
              rw [← FM.out, ← hq3]; exact hcf
            · exact Q.out q (by have := J.out; omega) h4
          case false =>
            have a1 : (FloatKind.f32.format.order (sizeW (fat m i)) (sizeW (fat m p)) == some .lt) = false := hcf
            have CZ := hid (fun x (h : Okv x) w => c_l01Size h.abs w)
            go_wp2_with fail
            go_quiet ((go_at_call 68; exact quiet_left (CZ.out _ (R1.out.ok _) _)))
            clear wp1 wp2
            go_wp2_with fail
            refine ⟨⟨i + 1, shL m i k, by omega, .inl (by omega), by go_num, ?_, ?_, R2.out.drewN _, grown_drewN G2.out _⟩, by simp [intOf]; omega⟩
            · refine ins_done HO.out S.out (by have := K.out; omega) (by rw [R1.out.len]; omega) Q.out (.inr ?_)
              rw [show i - k - 1 = p by have := J.out; omega]
              obtain ⟨q', hq1, hq2, hq3⟩ := ST.out.from_ p (by omega) (by have := J.out; omega)
              rw [FM.out, hq3]
              refine ((fun a b (hab : a < b) (hbn : b < n) => TZ.out a b hab hbn) q' i hq2 hlt).2 ?_
              rw [← FM.out, ← hq3]; exact hcf
            · exact (ST.out.wide (Nat.le_refl _) (by omega)).trans (shL_steps m k (by have := K.out; omega) (by omega) (by rw [R1.out.len]; omega))
        · obtain rfl : j = 0 := by omega
          go_wp2_with fail
          go_quiet (fail)
          go_wp2_with fail
          refine ⟨⟨i + 1, shL m i k, by omega, .inl (by omega), by go_num, ?_, ?_, R2.out.drewN _, grown_drewN G2.out _⟩, by simp [intOf]; omega⟩
          · exact ins_done HO.out S.out (by have := K.out; omega) (by rw [R1.out.len]; omega) Q.out (.inl J.out.symm)
          · exact (ST.out.wide (Nat.le_refl _) (by omega)).trans (shL_steps m k (by have := K.out; omega) (by omega) (by rw [R1.out.len]; omega))
    · have F : Hid (m.Perm l ∧ Srt leZ m 0 n) := hid (by
        rcases I2.out with h | ⟨h, h'⟩
        · obtain rfl : i = n := by omega
          exact ⟨ST.out.perm, S.out⟩
        · exact ⟨ST.out.perm, S.out.sub (Nat.le_refl _) (by omega)⟩)
      have E := sized_is F.out.1 (by rw [LEN.out]; exact F.out.2)
      have VV := hid (R1.out.vl (PL.out.perm F.out.1) hn)
      have BB := hid (B1.out.grown G1.out B1.out.size (fun r e => by cases e; exact (R.out.own.lt _ rfl).1))
      have EE := hid (show leftOf m = smallOf xs by rw [E, LK.out]; rfl)
      clear E
      go_wp2_with fail
      refine (c_l06Left _ _ _ _ _ VV.out).mono ?_
      rintro e w5 ⟨rfl, rfl⟩
      go_wp2_with fail
      go_ret
      exact ⟨ret_float EE.out, BB.out⟩
end Go.Proofs.Ytpaoccnffmngfaa
