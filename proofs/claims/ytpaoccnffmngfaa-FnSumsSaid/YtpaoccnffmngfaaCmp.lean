/- Walks of the comparisons by which lists are sorted, and of the copy of a slice. -/
import Derived.Test.YtpaoccnffmngfaaStable
import Derived.Test.YtpaoccnffmngfaaOrd
import Derived.Test.YtpaoccnffmngfaaShine
namespace Go.Proofs.Ytpaoccnffmngfaa
set_option maxRecDepth 20000
open Go.RowKit

theorem c_compare (x y : Nat) (w : World) : Calls Try.prog 65 #[.float .f32 x, .float .f32 y] w fun e w' => e = .returned (.int .i64 (cmpW x y)) ∧ w = w' := by
  unfold cmpW
  cases e1 : fLt x y
  · have a1 : (FloatKind.f32.format.order x y == some .lt) = false := e1
    cases e2 : fGt x y
    · have a2 : (FloatKind.f32.format.order x y == some .gt) = false := e2
      go_enter Try.func65, Try.ntmps65
      go_wp2
      go_ret
      exact ⟨rfl, rfl⟩
    · have a2 : (FloatKind.f32.format.order x y == some .gt) = true := e2
      go_enter Try.func65, Try.ntmps65
      go_wp2
      go_ret
      exact ⟨rfl, rfl⟩
  · have a1 : (FloatKind.f32.format.order x y == some .lt) = true := e1
    go_enter Try.func65, Try.ntmps65
    go_wp2
    go_ret
    exact ⟨rfl, rfl⟩
theorem c_sign (x : Nat) (hx : x < 4294967296) (w : World) : Calls Try.prog 87 #[.float .f32 x] w fun e w' => e = .returned (.float .f32 (signW x)) ∧ w = w' := by
  have hb := bits_run
  unfold signW
  by_cases h : 2147483648 ≤ x
  · rw [if_pos h]
    have e1 : ((x : Int) / 2147483648 == 1) = true := by simp; omega
    go_enter Try.func87, Try.ntmps87
    go_wp2
    go_ret
    exact ⟨rfl, rfl⟩
  · rw [if_neg h]
    have e1 : ((x : Int) / 2147483648 == 1) = false := by simp; omega
    go_enter Try.func87, Try.ntmps87
    go_wp2
    go_ret
    exact ⟨rfl, rfl⟩
theorem c_ordered1 : Cmp 86 ordC := by
  refine ⟨fun args w => rfl, fun x y w hx hy => ?_⟩
  have CS := hid (fun x hx w => c_sign x hx w)
  have W1 := hid hx.1
  have W2 := hid hy.1
  clear hx hy
  unfold ordC
  by_cases h0 : cmpW x y = 0
  · rw [if_pos h0]
    have CC := hid (fun w => h0 ▸ c_compare x y w)
    clear h0
    go_enter Try.func86, Try.ntmps86
    go_wp2_with fail
    refine (CC.out _).mono ?_
    rintro e w1 ⟨rfl, rfl⟩
    go_wp2_with fail
    refine (CS.out x W1.out _).mono ?_
    rintro e w1 ⟨rfl, rfl⟩
    go_wp2_with fail
    refine (CS.out y W2.out _).mono ?_
    rintro e w1 ⟨rfl, rfl⟩
    go_wp2_with fail
    refine (c_compare _ _ _).mono ?_
    rintro e w1 ⟨rfl, rfl⟩
    go_wp2_with fail
    go_ret
    exact ⟨rfl, rfl⟩
  · rw [if_neg h0]
    have CC := hid (fun w => c_compare x y w)
    have hne : (cmpW x y != 0) = true := by rw [bne_iff_ne]; exact h0
    clear h0
    go_enter Try.func86, Try.ntmps86
    go_wp2_with fail
    refine (CC.out _).mono ?_
    rintro e w1 ⟨rfl, rfl⟩
    go_wp2_with fail
    go_ret
    exact ⟨rfl, rfl⟩
theorem Okv.abs {x : Nat} (h : Okv x) : AbsLe x 2139095039 := by
  obtain ⟨h1, h2⟩ := h
  have h3 : x % 2147483648 < 2139095040 := by simpa [isFin] using h2
  have h4 := (magOf_le_iff (a := x % 2147483648) (b := 2139095039)).2 (by omega)
  refine ⟨h1, h2, by omega, ?_, ?_⟩ <;> (rw [fx_of h1]; split <;> omega)
theorem c_small1 : Cmp 64 sizC := by
  refine ⟨fun args w => rfl, fun x y w hx hy => ?_⟩
  have C1 := hid (fun w => c_sizeOf hx.abs w)
  have C2 := hid (fun w => c_sizeOf hy.abs w)
  clear hx hy
  unfold sizC
  go_enter Try.func64, Try.ntmps64
  go_wp2_with fail
  refine (C1.out _).mono ?_
  rintro e w1 ⟨rfl, rfl⟩
  go_wp2_with fail
  refine (C2.out _).mono ?_
  rintro e w1 ⟨rfl, rfl⟩
  go_wp2_with fail
  refine (c_compare _ _ _).mono ?_
  rintro e w1 ⟨rfl, rfl⟩
  go_wp2_with fail
  go_ret
  exact ⟨rfl, rfl⟩
theorem c_SortStable (le : Nat → Nat → Prop) (hO : Ord le) (c : Nat) (ci : Nat → Nat → Int) (hc : Cmp c ci) (lo g n cap : Nat) (l : List Nat) (w : World) (hR : Row w lo g n cap l) (hn : n ≤ 48) (hT : ∀ i j, i < j → j < n → Tells le (lessBy ci) (fat l j) (fat l i)) :
    Calls Try.prog 63 #[.slice (some ⟨g, 0, none⟩) n cap, .func (.func c) #[] #[]] w fun e w' => e = .returned (.tuple #[]) ∧ ∃ m, m.Perm l ∧ Srt le m 0 n ∧ Row w' lo g n cap m ∧ w.grownBy w' (some g) := by
  have C := hid (c_stable le hO c ci hc lo g n cap l w hR hn hT)
  clear hR hc hO hT
  go_enter Try.func63, Try.ntmps63
  go_wp2_with fail
  refine C.out.mono ?_
  rintro e w1 ⟨rfl, h⟩
  have H := hid h
  clear h
  go_wp2_with fail
  go_end0
  exact ⟨rfl, H.out⟩
theorem c_Clone_some (ad : Addr) (n ca : Nat) (xs : List Nat) (w : World) (hx : Flts w (some ad) n xs) (hn : n ≤ 1048576) (hok : ∀ k, Okv (fat xs k)) :
    Calls Try.prog 85 #[.slice (some ad) n ca] w fun e w' => (∃ g cap, e = .returned (.slice (some ⟨g, 0, none⟩) n cap) ∧ Row w' w.heap.size g n cap xs) ∧ Below w.heap.size w w' := by
  have hl : (mF32 xs).length = n * 1 := by simp [mF32, hx.len]
  have hnews : Hid (∀ j u, (mF32 xs)[j]? = some u → w.cell? (ad.add j) = some u) := hid (fun j u hj => by
    have hj2 : j < n := by have := (List.getElem?_eq_some_iff.1 hj).1; simpa [mF32, hx.len] using this
    obtain ⟨b, o, e, hc⟩ := hx.at_ (by omega)
    cases e
    have := hc j hj2
    rw [show (Addr.add ⟨b, o, none⟩ j) = ⟨b, o + j, none⟩ by simp [Addr.add], this]
    have : j < xs.length := by rw [hx.len]; exact hj2
    simp [mF32, this] at hj
    rw [← hj]; simp [fat, this])
  have H1 : Hid (∀ u ∈ mF32 xs, u.oneCell' = true) := hid (fun u hu => by simp [mF32] at hu; obtain ⟨x, _, rfl⟩ := hu; rfl)
  have HL := hid hl
  have OK := hid hok
  have LEN := hid hx.len
  obtain ⟨i0, hi, hz0, hz1, hz2⟩ := info_parts info_f32
  have HI := hid hi
  have HZ0 := hid hz0
  have HZ1 := hid hz1
  have HZ2 := hid hz2
  have B0 : Hid (Below w.heap.size w (w.alloc (.cells #[] 26))) := hid ((Below.refl _ _).alloc (Nat.le_refl _) _)
  have NW : Hid (∀ j u, (mF32 xs)[j]? = some u → (w.alloc (.cells #[] 26)).cell? (ad.add j) = some u) := hid (fun j u hj => cell_stays B0.out (hnews.out j u hj))
  have nn : ∀ wx : World, (binOp .eql 24 (.slice (some ad) n ca) (.slice none 0 0)).run Try.prog wx = .ok (.bool false) wx := fun wx => Lib.run_eql_slice_nil wx _ _ _ _ _ _ _ Try.underlying24
  clear hx hok hl hi hz0 hz1 hz2
  go_enter Try.func85, Try.ntmps85
  go_wp2_with (at_builtin; refine wpList_append_own _ rfl _ _ 24 rfl w.heap.size 26 i0 (.float .f32 0) 1 4 Try.underlying24 HI.out HZ0.out HZ1.out HZ2.out rfl (by decide) _ _ _ rfl (owns_empty w 26) ad n ca (mF32 xs) rfl HL.out NW.out H1.out (by unfold maxLen; omega) (by omega) (by simp) ?_; intro v' w3 hown' hgrow hnil)
  have O1 := hid hown'
  have B1 := hid (B0.out.grown hgrow B0.out.size (fun r e => by cases e; exact Nat.le_refl _))
  have N := hid hnil
  clear hown' hgrow hnil
  go_wp2
  go_ret
  have o := O1.out
  rw [Nat.zero_add, List.nil_append] at o
  refine ⟨?_, B1.out⟩
  rcases o.2 with h | ⟨g, cap, cur, h1, h2⟩
  · exact absurd (N.out.1 h.1).1 (fun hc => by cases hc)
  · subst h1
    exact ⟨g, cap, rfl, o, LEN.out, OK.out⟩
end Go.Proofs.Ytpaoccnffmngfaa
