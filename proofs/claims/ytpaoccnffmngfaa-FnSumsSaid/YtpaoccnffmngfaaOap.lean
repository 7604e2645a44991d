/- Walks of how far apart the sums of a list lie. -/
import Derived.Test.YtpaoccnffmngfaaSortX
import Derived.Test.YtpaoccnffmngfaaRight
namespace Go.Proofs.Ytpaoccnffmngfaa
set_option maxRecDepth 20000
open Go.RowKit

theorem ap_self (x : Nat) : apartOf x x = 0 := by unfold apartOf; omega
theorem ap_comm (x y : Nat) : apartOf x y = apartOf y x := by unfold apartOf; omega
theorem ap_ge (x y : Nat) : 0 ≤ apartOf x y := by unfold apartOf; omega
def mxR (f : Nat → Int) (m : Int) : Nat → Int
  | 0 => m
  | k + 1 => max (mxR f m k) (f k)
theorem mxR_le (f : Nat → Int) (m B : Int) : ∀ k, mxR f m k ≤ B ↔ m ≤ B ∧ ∀ j, j < k → f j ≤ B
  | 0 => by simp [mxR]
  | k + 1 => by
    rw [mxR, Int.max_le, mxR_le f m B k]
    constructor
    · rintro ⟨⟨h1, h2⟩, h3⟩
      exact ⟨h1, fun j hj => (Nat.lt_or_ge j k).elim (fun h => h2 j h) (fun h => (show j = k by omega) ▸ h3)⟩
    · rintro ⟨h1, h2⟩
      exact ⟨⟨h1, fun j hj => h2 j (by omega)⟩, h2 k (by omega)⟩
/-- The greatest of f i k, k below g i, i below n. -/
def mxQ (f : Nat → Nat → Int) (g : Nat → Nat) : Nat → Int
  | 0 => 0
  | i + 1 => mxR (f i) (mxQ f g i) (g i)
theorem mxQ_le (f : Nat → Nat → Int) (g : Nat → Nat) (B : Int) : ∀ n, mxQ f g n ≤ B ↔ 0 ≤ B ∧ ∀ i, i < n → ∀ k, k < g i → f i k ≤ B
  | 0 => by simp [mxQ]
  | n + 1 => by
    rw [mxQ, mxR_le, mxQ_le f g B n]
    constructor
    · rintro ⟨⟨h1, h2⟩, h3⟩
      exact ⟨h1, fun i hi => (Nat.lt_or_ge i n).elim (fun h => h2 i h) (fun h => (show i = n by omega) ▸ h3)⟩
    · rintro ⟨h1, h2⟩
      exact ⟨⟨h1, fun i hi => h2 i (by omega)⟩, h2 n (by omega)⟩
theorem mx_same (f : Nat → Nat → Int) (h0 : ∀ i, f i i = 0) (hc : ∀ i k, f i k = f k i) : mxQ f (fun _ => 6) 6 = mxQ f (fun i => i) 6 := by
  apply Int.le_antisymm
  · rw [mxQ_le]
    have h := (mxQ_le f (fun i => i) _ 6).1 (Int.le_refl _)
    refine ⟨h.1, fun i hi k hk => ?_⟩
    rcases Nat.lt_trichotomy i k with c | c | c
    · rw [hc]; exact h.2 k hk i c
    · subst c; rw [h0]; exact h.1
    · exact h.2 i hi k c
  · rw [mxQ_le]
    have h := (mxQ_le f (fun _ => 6) _ 6).1 (Int.le_refl _)
    exact ⟨h.1, fun i hi k hk => h.2 i hi k (by omega)⟩
def sumsOf (xs : List Nat) : List Nat := [leftOf xs, rightOf xs, pairsOf xs, keptOf xs, wideOf xs, smallOf xs]
def oaC (xs : List Nat) : Int := if validL xs then (if validL (sumsOf xs) then 0 else 3) else 1
def oaM (xs : List Nat) : Int := mxQ (fun i k => apartOf (fat (sumsOf xs) i) (fat (sumsOf xs) k)) (fun _ => 6) 6
def oaN (xs : List Nat) : Int := if oaC xs = 0 then oaM xs else 0
theorem sums_word {w : World} {a : Option Addr} {n : Nat} {xs : List Nat} (h : VL w a n xs) : ∀ k, k < 6 → fat (sumsOf xs) k < 4294967296 := by
  have hn : xs.length ≤ 48 := by rw [h.len]; exact h.le
  have hl : (sortZ (sortK xs)).length = n := by rw [sortZ_len, sortK_len]; exact h.len
  have hp : Plains (sortZ (sortK xs)) := (h.pl.perm (sortK_perm xs)).perm (sortZ_perm _)
  intro k hk
  match k, hk with
  | 0, _ => exact (left_abs h.pl hn _ (Nat.le_refl _)).word
  | 1, _ => exact (right_abs h.pl hn _ (Nat.le_refl _)).word
  | 2, _ => exact (pairs_abs _ rfl h.pl hn).word
  | 3, _ => exact (kept_abs h.pl hn _ (Nat.le_refl _)).1.word
  | 4, _ => exact (wide_fin h.pl hn).2.word
  | 5, _ => exact (left_abs hp (by rw [hl]; exact h.le) _ (Nat.le_refl _)).word
set_option maxHeartbeats 2000000 in
theorem c_implOrdersApart (a : Option Addr) (n ca : Nat) (xs : List Nat) (w : World) (hx : Flts w a n xs) (hc : n ≤ ca) :
    Calls Try.prog 20 #[.slice a n ca] w fun e w' => e = .returned (.tuple #[.int .i64 (oaN xs), .int .i64 (oaC xs)]) ∧ Below w.heap.size w w' := by
  have X := hid hx
  have HC := hid hc
  clear hx hc
  cases hv : validL xs
  · have C := hid (code_no (k := 0) hv)
    have OC : Hid (oaC xs = 1) := hid (by simp [oaC, hv])
    have ON : Hid (oaN xs = 0) := hid (by simp [oaN, OC.out])
    go_enter Try.func20, Try.ntmps20
    go_wp2_with fail
    refine (c_listCode a n ca xs _ X.out).mono ?_
    rintro e w' ⟨rfl, rfl⟩
    rw [C.out]
    go_wp2_with fail
    go_ret2
    exact ⟨by rw [OC.out, ON.out]; rfl, Below.refl _ _⟩
  · have C := hid (code_yes hv)
    have V := hid (VL.of X.out hv)
    have SW := hid (sums_word V.out)
    go_enter Try.func20, Try.ntmps20
    go_wp2_with fail
    refine (c_listCode a n ca xs _ X.out).mono ?_
    rintro e w' ⟨rfl, rfl⟩
    rw [C.out]
    go_wp2_with fail
    refine (c_left a n ca xs _ V.out).mono ?_
    rintro e w1 ⟨rfl, rfl⟩
    go_wp2_with fail
    refine (c_right a n ca xs _ V.out).mono ?_
    rintro e w2 ⟨rfl, h2⟩
    have B2 := hid h2
    have V2 := hid (V.out.below h2)
    clear h2
    go_wp2_with fail
    refine (c_pairs n a ca xs _ V2.out HC.out).mono ?_
    rintro e w3 ⟨rfl, q3, rfl⟩
    have B3 := hid (below_drawn B2.out q3)
    have V3 := hid (V2.out.drawn q3)
    go_wp2_with fail
    refine (c_kept a n ca xs _ V3.out).mono ?_
    rintro e w4 ⟨rfl, rfl⟩
    go_wp2_with fail
    refine (c_wide a n ca xs _ V3.out).mono ?_
    rintro e w5 ⟨rfl, rfl⟩
    go_wp2_with fail
    refine (c_small a n ca xs _ V3.out).mono ?_
    rintro e w6 ⟨rfl, h6⟩
    have B6 := hid (below_trans B3.out h6 B3.out.size)
    have V6 := hid (V3.out.below h6)
    clear h6
    go_wp2_with fail
    have FS := hid (flts_of_block (xs := sumsOf xs) (n := 6) rfl (by omega) SW.out (show (w6.alloc (.cells (f32s (sumsOf xs)) 26)).heap[w6.heap.size]? = some (.cells (f32s (sumsOf xs)) 26 (0, 0)) from heap_alloc_new w6 _))
    have BA := hid (B6.out.alloc B6.out.size (.cells (f32s (sumsOf xs)) 26))
    cases hv2 : validL (sumsOf xs)
    · have OC : Hid (oaC xs = 3) := hid (by simp [oaC, hv, hv2])
      have ON : Hid (oaN xs = 0) := hid (by simp [oaN, OC.out])
      refine (hv2 ▸ c_implValidList _ 6 6 (sumsOf xs) _ FS.out).mono ?_
      rintro e w7 ⟨rfl, rfl⟩
      go_wp2_with fail
      go_ret2
      exact ⟨by rw [OC.out, ON.out]; rfl, BA.out⟩
    · have OC : Hid (oaC xs = 0) := hid (by simp [oaC, hv, hv2])
      have ON : Hid (oaN xs = oaM xs) := hid (by simp [oaN, OC.out])
      refine (hv2 ▸ c_implValidList _ 6 6 (sumsOf xs) _ FS.out).mono ?_
      rintro e w7 ⟨rfl, rfl⟩
      go_wp2_with fail
      have AP := hid (fun x y (hx : x < 4294967296) (hy : y < 4294967296) w => c_apart x y hx hy w)
      obtain ⟨F, hF⟩ : ∃ F : Nat → Nat → Int, ∀ i k, F i k = apartOf (fat (sumsOf xs) i) (fat (sumsOf xs) k) := ⟨_, fun _ _ => rfl⟩
      have FF := hid hF
      have OM : Hid (oaM xs = mxQ F (fun _ => 6) 6) := hid (by rw [show F = (fun i k => apartOf (fat (sumsOf xs) i) (fat (sumsOf xs) k)) from funext fun i => funext fun k => hF i k]; rfl)
      generalize hg : w6.heap.size = g at *
      generalize hwa : w6.alloc (.cells (f32s (sumsOf xs)) 26) = wa at *
      have CE : Hid (∀ k, k < 6 → wa.cell? ⟨g, k, none⟩ = some (.float .f32 (fat (sumsOf xs) k))) := hid (fun k hk => by
        obtain ⟨b, o, e, hc⟩ := FS.out.at_ (by omega)
        cases e
        have := hc k hk
        rwa [Nat.zero_add] at this)
      clear hF hg hwa
      go_loopw [6, 34] (fun mv iv wr => ∃ i : Nat, i ≤ 6 ∧ iv = .int .i64 i ∧ mv = .int .i64 (mxQ F (fun _ => 6) i) ∧ wa = wr) (fun _ iv _ => 6 - (intOf iv).toNat)
      case atStart => exact ⟨0, by omega, rfl, rfl, rfl⟩
      case round =>
        obtain ⟨i, hi, rfl, rfl, rfl⟩ := hrel
        by_cases hli : i < 6
        · have c1 := CE.out i hli
          have s1 := SW.out i hli
          go_wp2_with fail
          go_loopw [6, 40] (fun mv kv wr => ∃ k : Nat, k ≤ 6 ∧ kv = .int .i64 k ∧ mv = .int .i64 (mxR (F i) (mxQ F (fun _ => 6) i) k) ∧ wa = wr) (fun _ kv _ => 6 - (intOf kv).toNat)
          case atStart => exact ⟨0, by omega, rfl, rfl, rfl⟩
          case round =>
            obtain ⟨k, hk, rfl, rfl, rfl⟩ := hrel
            by_cases hlk : k < 6
            · have c2 := CE.out k hlk
              have A1 := hid (fun w => (FF.out i k).symm ▸ AP.out _ _ s1 (SW.out k hlk) w)
              have MX : Hid (mxR (F i) (mxQ F (fun _ => 6) i) (k + 1) = max (mxR (F i) (mxQ F (fun _ => 6) i) k) (F i k)) := hid rfl
              generalize mxR (F i) (mxQ F (fun _ => 6) i) k = m0 at *
              generalize F i k = fk at *
              go_wp2_with fail
              refine (A1.out _).mono ?_
              rintro e w8 ⟨rfl, rfl⟩
              go_wp2_with fail
              all_goals
                refine ⟨⟨_, _, _, ⟨k + 1, by omega, ?_, ?_⟩, rfl, rfl, rfl⟩, by simp [intOf]; omega⟩
                · go_num
                · rw [MX.out]; congr 1; omega
            · obtain rfl : k = 6 := by omega
              go_wp2_with fail
              exact ⟨⟨i + 1, by omega, by go_num, rfl, trivial⟩, by simp [intOf]; omega⟩
        · obtain rfl : i = 6 := by omega
          go_wp2_with fail
          go_ret2
          exact ⟨by rw [OC.out, ON.out, OM.out]; rfl, BA.out⟩
set_option maxHeartbeats 2000000 in
theorem c_specOrdersApart (ad : Addr) (n ca : Nat) (xs : List Nat) (w : World) (hx : Flts w (some ad) n xs) (hc : n ≤ ca) :
    Calls Try.prog 21 #[.slice (some ad) n ca] w fun e w' => e = .returned (.tuple #[.int .i64 (oaN xs), .int .i64 (oaC xs)]) ∧ Below w.heap.size w w' := by
  have X := hid hx
  have HC := hid hc
  clear hx hc
  cases hv : validL xs
  · have C := hid (code_no (k := 0) hv)
    have OC : Hid (oaC xs = 1) := hid (by simp [oaC, hv])
    have ON : Hid (oaN xs = 0) := hid (by simp [oaN, OC.out])
    go_enter Try.func21, Try.ntmps21
    go_wp2_with fail
    refine (hv ▸ c_l06Ok _ n ca xs _ X.out).mono ?_
    rintro e w' ⟨rfl, rfl⟩
    go_wp2_with fail
    go_ret2
    exact ⟨by rw [OC.out, ON.out]; rfl, Below.refl _ _⟩
  · have C := hid (code_yes hv)
    have V := hid (VL.of X.out hv)
    have SW := hid (sums_word V.out)
    go_enter Try.func21, Try.ntmps21
    go_wp2_with fail
    refine (hv ▸ c_l06Ok _ n ca xs _ X.out).mono ?_
    rintro e w' ⟨rfl, rfl⟩
    go_wp2_with fail
    refine (c_l06Left (some ad) n ca xs _ V.out).mono ?_
    rintro e w1 ⟨rfl, rfl⟩
    go_wp2_with fail
    refine (c_l06Right (some ad) n ca xs _ V.out).mono ?_
    rintro e w2 ⟨rfl, rfl⟩
    go_wp2_with fail
    refine (c_l06Pairs n (some ad) ca xs _ V.out HC.out).mono ?_
    rintro e w3 ⟨rfl, q3, rfl⟩
    have B3 := hid (below_drawn (Below.refl w.heap.size w) q3)
    have V3 := hid (V.out.drawn q3)
    go_wp2_with fail
    refine (c_l06Kept (some ad) n ca xs _ V3.out).mono ?_
    rintro e w4 ⟨rfl, rfl⟩
    go_wp2_with fail
    refine (c_l06Wide (some ad) n ca xs _ V3.out).mono ?_
    rintro e w5 ⟨rfl, rfl⟩
    go_wp2_with fail
    refine (c_l06Small ad n ca xs _ V3.out).mono ?_
    rintro e w6 ⟨rfl, h6⟩
    have B6 := hid (below_trans B3.out h6 B3.out.size)
    have V6 := hid (V3.out.below h6)
    clear h6
    go_wp2_with fail
    have FS := hid (flts_of_block (xs := sumsOf xs) (n := 6) rfl (by omega) SW.out (show (w6.alloc (.cells (f32s (sumsOf xs)) 26)).heap[w6.heap.size]? = some (.cells (f32s (sumsOf xs)) 26 (0, 0)) from heap_alloc_new w6 _))
    have BA := hid (B6.out.alloc B6.out.size (.cells (f32s (sumsOf xs)) 26))
    cases hv2 : validL (sumsOf xs)
    · have OC : Hid (oaC xs = 3) := hid (by simp [oaC, hv, hv2])
      have ON : Hid (oaN xs = 0) := hid (by simp [oaN, OC.out])
      refine (hv2 ▸ c_l06Ok _ 6 6 (sumsOf xs) _ FS.out).mono ?_
      rintro e w7 ⟨rfl, rfl⟩
      go_wp2_with fail
      go_ret2
      exact ⟨by rw [OC.out, ON.out]; rfl, BA.out⟩
    · have OC : Hid (oaC xs = 0) := hid (by simp [oaC, hv, hv2])
      have ON : Hid (oaN xs = mxQ (fun i k => apartOf (fat (sumsOf xs) i) (fat (sumsOf xs) k)) (fun i => i) 6) := hid (by simp only [oaN, OC.out, if_pos]; exact mx_same _ (fun _ => ap_self _) (fun _ _ => ap_comm _ _))
      refine (hv2 ▸ c_l06Ok _ 6 6 (sumsOf xs) _ FS.out).mono ?_
      rintro e w7 ⟨rfl, rfl⟩
      go_wp2_with fail
      have PL := hid (fun x (hx : x < 4294967296) w => c_l06Place x hx w)
      obtain ⟨F, hF⟩ : ∃ F : Nat → Nat → Int, ∀ i k, F i k = apartOf (fat (sumsOf xs) i) (fat (sumsOf xs) k) := ⟨_, fun _ _ => rfl⟩
      have FF := hid hF
      have OM : Hid (oaN xs = mxQ F (fun i => i) 6) := hid (by rw [show F = (fun i k => apartOf (fat (sumsOf xs) i) (fat (sumsOf xs) k)) from funext fun i => funext fun k => hF i k]; exact ON.out)
      generalize hg : w6.heap.size = g at *
      generalize hwa : w6.alloc (.cells (f32s (sumsOf xs)) 26) = wa at *
      have CE : Hid (∀ k, k < 6 → wa.cell? ⟨g, k, none⟩ = some (.float .f32 (fat (sumsOf xs) k))) := hid (fun k hk => by
        obtain ⟨b, o, e, hc⟩ := FS.out.at_ (by omega)
        cases e
        have := hc k hk
        rwa [Nat.zero_add] at this)
      clear hF hg hwa
      go_loopw [5, 6] (fun mv iv wr => ∃ i : Nat, i ≤ 6 ∧ iv = .int .i64 i ∧ mv = .int .i64 (mxQ F (fun i => i) i) ∧ ∃ q, wr = wa.drewN q) (fun _ iv _ => 6 - (intOf iv).toNat)
      case atStart => exact ⟨0, by omega, rfl, rfl, 0, rfl⟩
      case round =>
        obtain ⟨i, hi, rfl, rfl, q, rfl⟩ := hrel
        by_cases hli : i < 6
        · have s1 := SW.out i hli
          have hli2 : (i : Int) < 6 := by omega
          go_wp2_with fail
          go_loopw [5, 7] (fun mv kv wr => ∃ k : Nat, k ≤ i ∧ kv = .int .i64 k ∧ mv = .int .i64 (mxR (F i) (mxQ F (fun i => i) i) k) ∧ ∃ q, wr = wa.drewN q) (fun _ kv _ => 6 - (intOf kv).toNat)
          case atStart => exact ⟨0, by omega, rfl, rfl, q, rfl⟩
          case round =>
            obtain ⟨k, hk, rfl, rfl, q2, rfl⟩ := hrel
            by_cases hlk : k < i
            · have c1 := CE.out i hli
              have c2 := CE.out k (by omega)
              have s2 := SW.out k (by omega)
              have hlk2 : (k : Int) < 6 := by omega
              obtain ⟨b1, b2⟩ := stepOf_bd _ s1
              obtain ⟨b3, b4⟩ := stepOf_bd _ s2
              have A1 := hid (fun w => c_l06Far _ _ b1 b2 b3 b4 w)
              have S1 := hid s1
              have S2 := hid s2
              have MX : Hid (mxR (F i) (mxQ F (fun i => i) i) (k + 1) = max (mxR (F i) (mxQ F (fun i => i) i) k) (max (stepOf (fat (sumsOf xs) i) - stepOf (fat (sumsOf xs) k)) (stepOf (fat (sumsOf xs) k) - stepOf (fat (sumsOf xs) i)))) := hid (by rw [mxR, FF.out i k]; rfl)
              generalize mxR (F i) (mxQ F (fun i => i) i) k = m0 at *
              have P1 := hid (fun w => PL.out _ S1.out w)
              have P2 := hid (fun w => PL.out _ S2.out w)
              generalize stepOf (fat (sumsOf xs) i) = p1 at *
              generalize stepOf (fat (sumsOf xs) k) = p2 at *
              clear s1 s2
              go_wp2_with fail
              go_quiet ((first | (go_at_call 54; first | (with_reducible exact quiet_add_left (P1.out _)) | (with_reducible exact quiet_add_left (P2.out _))) | (go_at_call 53; exact quiet_add_left (A1.out _)) | (go_at_call 52; exact quiet_add_left (c_l00Max _ _ _))))
              go_wp2_with fail
              go_roundw
              case rel => exact ⟨k + 1, by omega, by go_num, by rw [MX.out], _, rfl⟩
              case measure => simp [intOf]; omega
            · obtain rfl : k = i := by omega
              go_wp2_with fail
              exact ⟨⟨k + 1, by omega, by go_num, rfl, _, rfl⟩, by simp [intOf]; omega⟩
        · obtain rfl : i = 6 := by omega
          go_wp2_with fail
          go_ret2
          exact ⟨by rw [OC.out, OM.out]; rfl, below_drawn BA.out _⟩
end Go.Proofs.Ytpaoccnffmngfaa
