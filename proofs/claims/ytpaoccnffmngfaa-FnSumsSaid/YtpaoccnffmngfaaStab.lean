/- Walks of the library's stable sort of a slice of numbers of 32 bits by a comparison of two of them. -/
import Derived.Test.YtpaoccnffmngfaaApp
import Derived.Test.YtpaoccnffmngfaaSort
import Derived.Shelf.Abstract
namespace Go.Proofs.Ytpaoccnffmngfaa
set_option maxRecDepth 20000
open Go.RowKit

def mF32 (l : List Nat) : List Value := l.map (Value.float .f32)
/-- A word that is a number, and finite. -/
def Okv (x : Nat) : Prop := x < 4294967296 ∧ isFin x = true
/-- A slice's own row of numbers. -/
structure Row (w : World) (lo g n cap : Nat) (l : List Nat) : Prop where
  own : w.ownsRow lo 26 1 (.slice (some ⟨g, 0, none⟩) n cap) n (mF32 l)
  len : l.length = n
  ok : ∀ k, Okv (fat l k)
theorem Row.cell {w : World} {lo g n cap : Nat} {l : List Nat} (h : Row w lo g n cap l) {k : Nat} (hk : k < n) : w.cell? ⟨g, k, none⟩ = some (.float .f32 (fat l k)) := by
  have e := h.len
  have : k < l.length := by omega
  rw [h.own.cellAt k (by omega)]
  simp [mF32, fat, this]
theorem Row.frozen {w : World} {lo g n cap : Nat} {l : List Nat} (h : Row w lo g n cap l) (k : Nat) : w.frozen? ⟨g, k, none⟩ = false := h.own.frozenAt k
theorem Row.drewN {w : World} {lo g n cap : Nat} {l : List Nat} (h : Row w lo g n cap l) (q : Nat) : Row (w.drewN q) lo g n cap l := ⟨h.own, h.len, h.ok⟩
theorem grown_drewN {a w : World} {r : Option Nat} (h : a.grownBy w r) (q : Nat) : a.grownBy (w.drewN q) r := ⟨h.os, h.tape, h.output, h.size, h.block⟩
theorem Row.set {w : World} {lo g n cap : Nat} {l : List Nat} (h : Row w lo g n cap l) (k v : Nat) (hv : Okv v) : Row (w.setCell ⟨g, k, none⟩ (.float .f32 v)) lo g n cap (l.set k v) ∧ w.grownBy (w.setCell ⟨g, k, none⟩ (.float .f32 v)) (some g) := by
  have h1 := h.own.stored k (.float .f32 v)
  refine ⟨⟨?_, by simp [h.len], fun q => by rw [fat_set]; split <;> first | exact hv | exact h.ok q⟩, h1.2⟩
  have e : (mF32 l).set k (.float .f32 v) = mF32 (l.set k v) := by simp [mF32, List.map_set]
  rw [← e]; exact h1.1
theorem grows {a b c : World} {r : Option Nat} (h : a.grownBy b r) (k : b.grownBy c r) : a.grownBy c r :=
  ⟨k.os.trans h.os, k.tape.trans h.tape, k.output.trans h.output, Nat.le_trans h.size k.size, fun i hi hne => (k.block i (Nat.lt_of_lt_of_le hi h.size) hne).trans (h.block i hi hne)⟩
/-- The values at i and j change places: first i is written, then j. -/
theorem Row.swap {w : World} {lo g n cap : Nat} {l : List Nat} (h : Row w lo g n cap l) (i j : Nat) :
    Row ((w.setCell ⟨g, i, none⟩ (.float .f32 (fat l j))).setCell ⟨g, j, none⟩ (.float .f32 (fat l i))) lo g n cap (sw l i j) ∧ w.grownBy ((w.setCell ⟨g, i, none⟩ (.float .f32 (fat l j))).setCell ⟨g, j, none⟩ (.float .f32 (fat l i))) (some g) := by
  obtain ⟨r1, g1⟩ := h.set i (fat l j) (h.ok j)
  obtain ⟨r2, g2⟩ := r1.set j (fat l i) (h.ok i)
  exact ⟨r2, grows g1 g2⟩
/-- What a comparison hands back. -/
def Cmp (c : Nat) (ci : Nat → Nat → Int) : Prop := (∀ args w, (callFunc c args).run Try.prog w = .ok (.enter c args) w) ∧ ∀ x y w, Okv x → Okv y → Calls Try.prog c #[.float .f32 x, .float .f32 y] w fun e w' => e = .returned (.int .i64 (ci x y)) ∧ w = w'
def lessBy (ci : Nat → Nat → Int) (x y : Nat) : Bool := decide (ci x y < 0)
set_option maxRecDepth 20000 in
set_option maxHeartbeats 1000000 in
theorem c_insertionSort (le : Nat → Nat → Prop) (hO : Ord le) (c : Nat) (ci : Nat → Nat → Int) (hc : Cmp c ci) (lo g n cap a b : Nat) (l : List Nat) (w : World) (hR : Row w lo g n cap l) (hn : n ≤ 1048576) (hab : a ≤ b) (hbn : b ≤ n)
    (hT : ∀ i j, a ≤ i → i < j → j < b → Tells le (lessBy ci) (fat l j) (fat l i)) :
    Calls Try.prog 93 #[.slice (some ⟨g, 0, none⟩) n cap, .int .i64 (a : Int), .int .i64 (b : Int), .func (.func c) #[] #[]] w fun e w' => e = .returned (.tuple #[]) ∧ ∃ m, Steps a b l m ∧ Srt le m a b ∧ Row w' lo g n cap m ∧ w.grownBy w' (some g) := by
  have eg := hc.1
  have R := hid hR
  have HC := hid hc.2
  have HT := hid hT
  have HO := hid hO
  clear hR hc hT hO
  go_enter Try.func93, Try.ntmps93
  go_wp2
  go_loopw [8] (fun iv wr => ∃ (i : Nat) (m : List Nat), a + 1 ≤ i ∧ (i ≤ b ∨ (i = a + 1 ∧ m = l)) ∧ iv = .int .i64 i ∧ Srt le m a i ∧ Steps a i l m ∧ Row wr lo g n cap m ∧ w.grownBy wr (some g)) (fun iv _ => b + 1 - (intOf iv).toNat)
  case atStart => exact ⟨a + 1, l, by omega, .inr ⟨rfl, rfl⟩, by go_num, Srt.one HO.out l a, .refl _ _ _, R.out, World.grownBy.refl _ _⟩
  case round =>
    obtain ⟨i, m, hi1, hi2, rfl, hs, hst, hr, hg⟩ := hrel
    have S := hid hs
    have ST := hid hst
    have R1 := hid hr
    have G1 := hid hg
    have I2 := hid hi2
    clear hs hst hr hg hi2
    by_cases hlt : i < b
    · go_wp2
      go_loopw [9] (fun jv wr => ∃ (k : Nat), a + k ≤ i ∧ (∃ j : Nat, j = i - k ∧ jv = .int .i64 j) ∧ (∀ q, i - k ≤ q → q < i → le (fat m i) (fat m q)) ∧ Row wr lo g n cap (shL m i k) ∧ w.grownBy wr (some g)) (fun jv _ => (intOf jv).toNat)
      case atStart => exact ⟨0, by omega, ⟨i, by omega, rfl⟩, fun q _ _ => by omega, R1.out, G1.out⟩
      case round =>
        obtain ⟨k, hk, ⟨j, hj, rfl⟩, hq, hr, hg⟩ := hrel
        have Q := hid hq
        have R2 := hid hr
        have G2 := hid hg
        have hja : a ≤ j := by omega
        have hji : j ≤ i := by omega
        have K := hid hk
        have J := hid hj
        clear hq hr hg hk hj
        by_cases hlj : a < j
        · obtain ⟨p, rfl⟩ : ∃ p, j = p + 1 := ⟨j - 1, by omega⟩
          have hil : i < m.length := by rw [R1.out.len]; omega
          have h1 : wr.cell? ⟨g, p + 1, none⟩ = some (.float .f32 (fat m i)) := by
            rw [R2.out.cell (by omega), shL_at m k (by have := K.out; omega) hil, if_pos J.out]
          have h2 : wr.cell? ⟨g, p, none⟩ = some (.float .f32 (fat m p)) := by
            rw [R2.out.cell (by omega), shL_at m k (by have := K.out; omega) hil, if_neg (by have := J.out; omega), if_neg (by have := J.out; omega)]
          have SW := hid (fun q => ((R2.out.drewN q).swap (p + 1) p))
          have e1 : fat (shL m i k) (p + 1) = fat m i := by rw [shL_at m k (by have := K.out; omega) hil, if_pos J.out]
          have e2 : fat (shL m i k) p = fat m p := by rw [shL_at m k (by have := K.out; omega) hil, if_neg (by have := J.out; omega), if_neg (by have := J.out; omega)]
          have SE : Hid (sw (shL m i k) (p + 1) p = shL m i (k + 1)) := hid (by rw [shL, ← J.out]; rfl)
          rw [e1, e2, SE.out] at SW
          have GR := hid (fun q => grows (grown_drewN G2.out q) (SW.out q).2)
          have TL := hid (HT.out p i (by omega) (by have := J.out; omega) hlt)
          have FM : Hid (fat m i = fat l i) := hid (ST.out.out i (by omega))
          have f1 := R2.out.frozen (p + 1)
          have f2 := R2.out.frozen p
          have t1 : (a : Int) < (p : Int) + 1 := by omega
          clear e1 e2 hil hlj
          cases hcf : lessBy ci (fat m i) (fat m p)
          case true =>
            have hcf' : ci (fat m i) (fat m p) < 0 := by simpa [lessBy] using hcf
            go_wp2
            go_quiet ((go_at_fn c; exact quiet_left (HC.out _ _ _ (R1.out.ok _) (R1.out.ok _))))
            go_wp2
            go_region
            go_wp2
            refine ⟨⟨k + 1, by have := J.out; omega, ⟨p, by have := J.out; omega, by go_num⟩, fun q h3 h4 => ?_, (SW.out _).1, GR.out _⟩, by simp [intOf]⟩
            by_cases hqp : q = p
            · subst hqp
              obtain ⟨q', hq1, hq2, hq3⟩ := ST.out.from_ q (by omega) h4
              rw [FM.out, hq3]
              refine (HT.out q' i hq1 hq2 hlt).1 ?_
              rw [← FM.out, ← hq3]; exact hcf
            · exact Q.out q (by have := J.out; omega) h4
          case false =>
            have hcf' : 0 ≤ ci (fat m i) (fat m p) := by simpa [lessBy] using hcf
            go_wp2
            go_quiet ((go_at_fn c; exact quiet_left (HC.out _ _ _ (R1.out.ok _) (R1.out.ok _))))
            go_wp2
            refine ⟨⟨i + 1, shL m i k, by omega, .inl (by omega), by go_num, ?_, ?_, R2.out.drewN _, grown_drewN G2.out _⟩, by simp [intOf]; omega⟩
            · refine ins_done HO.out S.out (by have := K.out; omega) (by rw [R1.out.len]; omega) Q.out (.inr ?_)
              rw [show i - k - 1 = p by have := J.out; omega]
              obtain ⟨q', hq1, hq2, hq3⟩ := ST.out.from_ p (by omega) (by have := J.out; omega)
              rw [FM.out, hq3]
              refine (HT.out q' i hq1 hq2 hlt).2 ?_
              rw [← FM.out, ← hq3]; exact hcf
            · exact (ST.out.wide (Nat.le_refl _) (by omega)).trans (shL_steps m k (by have := K.out; omega) (by omega) (by rw [R1.out.len]; omega))
        · obtain rfl : j = a := by omega
          go_wp2
          go_quiet (fail)
          go_wp2
          refine ⟨⟨i + 1, shL m i k, by omega, .inl (by omega), by go_num, ?_, ?_, R2.out.drewN _, grown_drewN G2.out _⟩, by simp [intOf]; omega⟩
          · exact ins_done HO.out S.out (by have := K.out; omega) (by rw [R1.out.len]; omega) Q.out (.inl J.out.symm)
          · exact (ST.out.wide (Nat.le_refl _) (by omega)).trans (shL_steps m k (by have := K.out; omega) (by omega) (by rw [R1.out.len]; omega))
    · go_wp2
      go_end0
      rcases I2.out with h | ⟨h, h'⟩
      · obtain rfl : i = b := by omega
        exact ⟨rfl, m, ST.out, S.out, R1.out, G1.out⟩
      · subst h'
        exact ⟨rfl, m, .refl _ _ _, S.out.sub (Nat.le_refl _) (by omega), R1.out, G1.out⟩
set_option maxRecDepth 20000 in
set_option maxHeartbeats 1000000 in
theorem c_swapRange (c : Nat) (lo g n cap a b q : Nat) (l : List Nat) (w : World) (hR : Row w lo g n cap l) (hn : n ≤ 1048576) (hab : a + q ≤ b) (hbn : b + q ≤ n) :
    Calls Try.prog 98 #[.slice (some ⟨g, 0, none⟩) n cap, .int .i64 (a : Int), .int .i64 (b : Int), .int .i64 (q : Int), .func (.func c) #[] #[]] w fun e w' => e = .returned (.tuple #[]) ∧ Row w' lo g n cap (swR l a b q) ∧ w.grownBy w' (some g) := by
  have R := hid hR
  clear hR
  have HAB := hid hab
  have HBN := hid hbn
  have ha1 : a ≤ 1048576 := by omega
  have hb1 : b ≤ 1048576 := by omega
  have hq1 : q ≤ 1048576 := by omega
  clear hab hbn
  go_enter Try.func98, Try.ntmps98
  go_wp2
  go_loopw [10] (fun iv wr => ∃ i : Nat, i ≤ q ∧ iv = .int .i64 i ∧ Row wr lo g n cap (swR l a b i) ∧ w.grownBy wr (some g)) (fun iv _ => q - (intOf iv).toNat)
  case atStart => exact ⟨0, by omega, rfl, R.out, World.grownBy.refl _ _⟩
  case round =>
    obtain ⟨i, hi, rfl, hr, hg⟩ := hrel
    have R1 := hid hr
    have G1 := hid hg
    clear hr hg
    by_cases hlt : i < q
    · have h1 := R1.out.cell (k := a + i) (by have := HAB.out; have := HBN.out; omega)
      have h2 := R1.out.cell (k := b + i) (by have := HAB.out; have := HBN.out; omega)
      have SW := hid (fun q => ((R1.out.drewN q).swap (a + i) (b + i)))
      have GR := hid (fun q => grows (grown_drewN G1.out q) (SW.out q).2)
      have f1 := R1.out.frozen (a + i)
      have f2 := R1.out.frozen (b + i)
      have t1 : a + i < n := by have := HAB.out; have := HBN.out; omega
      have t2 : b + i < n := by have := HAB.out; have := HBN.out; omega
      have t3 : ¬ a = b := by have := HAB.out; omega
      have t4 : ¬ b = a := by have := HAB.out; omega
      go_wp2
      go_region
      go_wp2
      exact ⟨⟨i + 1, by omega, by go_num, (SW.out _).1, GR.out _⟩, by simp [intOf]; omega⟩
    · obtain rfl : i = q := by omega
      go_wp2
      go_end0
      exact ⟨rfl, R1.out, G1.out⟩
set_option maxRecDepth 20000 in
set_option maxHeartbeats 1000000 in
theorem c_rotate (c : Nat) (lo g n cap a m b : Nat) (l : List Nat) (w : World) (hR : Row w lo g n cap l) (hn : n ≤ 1048576) (ham : a < m) (hmb : m < b) (hbn : b ≤ n) :
    Calls Try.prog 96 #[.slice (some ⟨g, 0, none⟩) n cap, .int .i64 (a : Int), .int .i64 (m : Int), .int .i64 (b : Int), .func (.func c) #[] #[]] w fun e w' => e = .returned (.tuple #[]) ∧ ∃ r, Steps a b l r ∧ (∀ k, fat r k = rotT l a m b k) ∧ Row w' lo g n cap r ∧ w.grownBy w' (some g) := by
  have R := hid hR
  clear hR
  have ST0 := hid (Rot.start l (a := a) (m := m) (b := b) (by omega) (by omega))
  go_enter Try.func96, Try.ntmps96
  go_wp2
  go_loopw [10, 11] (fun iv jv wr => ∃ (i j : Nat) (r : List Nat), 1 ≤ i ∧ 1 ≤ j ∧ i + a ≤ m ∧ m + j ≤ b ∧ iv = .int .i64 i ∧ jv = .int .i64 j ∧ Rot (rotT l a m b) m i j r ∧ Steps a b l r ∧ Row wr lo g n cap r ∧ w.grownBy wr (some g)) (fun iv jv _ => (intOf iv).toNat + (intOf jv).toNat)
  case atStart => exact ⟨m - a, b - m, l, by omega, by omega, by omega, by omega, by go_num, by go_num, ST0.out, .refl _ _ _, R.out, World.grownBy.refl _ _⟩
  case round =>
    obtain ⟨i, j, r, hi1, hj1, hia, hjb, rfl, rfl, hro, hst, hr, hg⟩ := hrel
    have RO := hid hro
    have ST := hid hst
    have R1 := hid hr
    have G1 := hid hg
    have hl : Hid (r.length = n) := hid hr.len
    clear hro hst hr hg
    have eI : Hid (((m - i : Nat) : Int) = (m : Int) - i) := hid (by omega)
    rcases Nat.lt_trichotomy i j with hij | hij | hij
    · have eJ : Hid (((m + j - i : Nat) : Int) = (m : Int) + j - i) := hid (by omega)
      have C := hid (fun wx hx => c_swapRange c lo g n cap (m - i) (m + j - i) i r wx hx hn (by omega) (by omega))
      rw [eI.out, eJ.out] at C
      go_wp2_with fail
      refine (C.out _ R1.out).mono ?_
      rintro e w' ⟨rfl, hr2, hg2⟩
      have R2 := hid hr2
      have G2 := hid (grows G1.out hg2)
      clear hr2 hg2
      go_wp2
      refine ⟨⟨i, j - i, swR r (m - i) (m + j - i) i, hi1, by omega, hia, by omega, by go_num, by go_num, RO.out.less (by omega) hij (by rw [hl.out]; omega), ST.out.trans (swR_steps r i (by omega) (by omega) (by omega) (by rw [hl.out]; omega)), R2.out, G2.out⟩, by simp [intOf]; omega⟩
    · subst hij
      have C := hid (fun wx hx => c_swapRange c lo g n cap (m - i) m i r wx hx hn (by omega) (by omega))
      rw [eI.out] at C
      go_wp2_with fail
      refine (C.out _ R1.out).mono ?_
      rintro e w' ⟨rfl, hr2, hg2⟩
      have R2 := hid hr2
      have G2 := hid (grows G1.out hg2)
      clear hr2 hg2
      go_wp2
      go_end0
      exact ⟨rfl, _, ST.out.trans (swR_steps r i (by omega) (by omega) (by omega) (by rw [hl.out]; omega)), fun k => RO.out.done (by omega) (by rw [hl.out]; omega) k, R2.out, G2.out⟩
    · have C := hid (fun wx hx => c_swapRange c lo g n cap (m - i) m j r wx hx hn (by omega) (by omega))
      rw [eI.out] at C
      go_wp2_with fail
      refine (C.out _ R1.out).mono ?_
      rintro e w' ⟨rfl, hr2, hg2⟩
      have R2 := hid hr2
      have G2 := hid (grows G1.out hg2)
      clear hr2 hg2
      go_wp2
      refine ⟨⟨i - j, j, swR r (m - i) m j, by omega, hj1, by omega, hjb, by go_num, by go_num, RO.out.more (by omega) hij (by rw [hl.out]; omega), ST.out.trans (swR_steps r j (by omega) (by omega) (by omega) (by rw [hl.out]; omega)), R2.out, G2.out⟩, by simp [intOf]; omega⟩
end Go.Proofs.Ytpaoccnffmngfaa
