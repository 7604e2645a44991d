/- Walks of what looks whether blinds, suns, plans and numbers are right. -/
import Derived.Test.YtboddpifepegcaaFall
namespace Go.Proofs.Ytboddpifepegcaa
set_option maxRecDepth 20000
open Go.RowKit

theorem c_isLength (x : Nat) (w : World) :
    Calls Try.prog 102 #[.float .f32 x] w fun e w' => e = .returned (.bool (isLen x)) ∧ w = w' := by
  go_enter Try.func102, Try.ntmps102
  go_wp2
  all_goals (go_ret; refine ⟨ret_bool ?_, rfl⟩; simp_all [isLen, WL, W64, fGe, fLe])
theorem c_l02Length (x : Nat) (w : World) :
    Calls Try.prog 104 #[.float .f32 x] w fun e w' => e = .returned (.bool (isLen x)) ∧ w = w' := by
  go_enter Try.func104, Try.ntmps104
  go_wp2
  all_goals (go_ret; refine ⟨ret_bool ?_, rfl⟩; simp_all [isLen, WL, W64, fGe, fLe])
theorem five {a b c d e : Bool} : (a = false) ∨ (a = true ∧ b = false) ∨ (a = true ∧ b = true ∧ c = false) ∨ (a = true ∧ b = true ∧ c = true ∧ d = false) ∨ (a = true ∧ b = true ∧ c = true ∧ d = true ∧ e = false) ∨ (a = true ∧ b = true ∧ c = true ∧ d = true ∧ e = true) := by
  cases a <;> cases b <;> cases c <;> cases d <;> cases e <;> simp
theorem c_ValidBlind (B : Bld) (wf : WfB B) (w : World) :
    Calls Try.prog 61 #[.agg (bcells B)] w fun e w' => e = .returned (.bool (okB B)) ∧ Below w.heap.size w w' := by
  have ws := wf.sl
  have wt := wf.ti
  simp only [bcells]
  rcases five (a := inB B.sl 1 60) (b := isLen B.wi) (c := isLen B.ga) (d := inB B.ti (-64) 64) (e := isPart B.sh) with e1 | ⟨e1, e2⟩ | ⟨e1, e2, e3⟩ | ⟨e1, e2, e3, e4⟩ | ⟨e1, e2, e3, e4, e5⟩ | ⟨e1, e2, e3, e4, e5⟩
  all_goals
    go_enter Try.func61, Try.ntmps61
    go_wp2_with (first | (go_at_call 62; refine (c_within _ _ _ _).mono ?_; rintro e w' ⟨rfl, rfl⟩) | (go_at_call 102; refine (c_isLength _ _).mono ?_; rintro e w' ⟨rfl, rfl⟩) | (go_at_call 103; refine (c_isTilt _ _).mono ?_; rintro e w' ⟨rfl, rfl⟩) | (go_at_call 63; refine (c_IsPart _ _).mono ?_; rintro e w' ⟨rfl, rfl⟩))
    go_ret
    exact ⟨ret_bool (by simp only [okB, Bool.and_true, Bool.and_false, Bool.false_and, *]), (Below.refl _ _).alloc (Nat.le_refl _) _⟩
theorem c_l02Ok (B : Bld) (wf : WfB B) (b o : Nat) (w : World) (hA : BldAt w b o B) :
    Calls Try.prog 65 #[.pointer (some ⟨b, o, none⟩)] w fun e w' => e = .returned (.bool (okB B)) ∧ w = w' := by
  have ws := wf.sl
  have wt := wf.ti
  have q1 := hA.sl
  have q2 := hA.wi
  have q3 := hA.ga
  have q4 := hA.ti
  have q5 := hA.sh
  clear hA wf
  rcases five (a := inB B.sl 1 60) (b := isLen B.wi) (c := isLen B.ga) (d := inB B.ti (-64) 64) (e := isPart B.sh) with e1 | ⟨e1, e2⟩ | ⟨e1, e2, e3⟩ | ⟨e1, e2, e3, e4⟩ | ⟨e1, e2, e3, e4, e5⟩ | ⟨e1, e2, e3, e4, e5⟩
  all_goals
    go_enter Try.func65, Try.ntmps65
    go_wp2_with (first | (go_at_call 66; refine (c_l00In _ _ _ _).mono ?_; rintro e w' ⟨rfl, rfl⟩) | (go_at_call 104; refine (c_l02Length _ _).mono ?_; rintro e w' ⟨rfl, rfl⟩) | (go_at_call 68; refine (c_l02Tilt _ _).mono ?_; rintro e w' ⟨rfl, rfl⟩) | (go_at_call 67; refine (c_l01Part _ _).mono ?_; rintro e w' ⟨rfl, rfl⟩))
    go_ret
    exact ⟨ret_bool (by simp only [okB, Bool.and_true, Bool.and_false, Bool.false_and, *]), rfl⟩
theorem c_isHeight (n : Int) (w : World) :
    Calls Try.prog 48 #[.int .i64 n] w fun e w' => e = .returned (.bool (inB n 1 64)) ∧ w = w' := by
  go_enter Try.func48, Try.ntmps48
  go_wp2_with (go_at_call 62; refine (c_within _ _ _ _).mono ?_; rintro e w' ⟨rfl, rfl⟩)
  go_ret
  exact ⟨rfl, rfl⟩
theorem c_l02Up (n : Int) (w : World) :
    Calls Try.prog 55 #[.int .i64 n] w fun e w' => e = .returned (.bool (inB n 1 64)) ∧ w = w' := by
  go_enter Try.func55, Try.ntmps55
  go_wp2_with (go_at_call 66; refine (c_l00In _ _ _ _).mono ?_; rintro e w' ⟨rfl, rfl⟩)
  go_ret
  exact ⟨rfl, rfl⟩
theorem c_isFacing (n : Int) (w : World) :
    Calls Try.prog 80 #[.int .i64 n] w fun e w' => e = .returned (.bool (inB n 0 255)) ∧ w = w' := by
  go_enter Try.func80, Try.ntmps80
  go_wp2_with (go_at_call 62; refine (c_within _ _ _ _).mono ?_; rintro e w' ⟨rfl, rfl⟩)
  go_ret
  exact ⟨rfl, rfl⟩
theorem c_l01Faced (n : Int) (w : World) :
    Calls Try.prog 85 #[.int .i64 n] w fun e w' => e = .returned (.bool (inB n 0 255)) ∧ w = w' := by
  go_enter Try.func85, Try.ntmps85
  go_wp2_with (go_at_call 66; refine (c_l00In _ _ _ _).mono ?_; rintro e w' ⟨rfl, rfl⟩)
  go_ret
  exact ⟨rfl, rfl⟩
theorem c_l01Height (n : Int) (w : World) :
    Calls Try.prog 121 #[.int .i64 n] w fun e w' => e = .returned (.bool (inB n (-64) 64)) ∧ w = w' := by
  go_enter Try.func121, Try.ntmps121
  go_wp2_with (go_at_call 66; refine (c_l00In _ _ _ _).mono ?_; rintro e w' ⟨rfl, rfl⟩)
  go_ret
  exact ⟨rfl, rfl⟩
theorem c_ValidSun (hs ts : List Int) (lh : hs.length = 24) (lt : ts.length = 24) (w : World) (bh : I16 hs) (bt : I16 ts) :
    Calls Try.prog 109 #[.agg (scells hs ts)] w fun e w' => e = .returned (.bool (okS hs ts)) ∧ Below w.heap.size w w' := by
  have S : Hid (SunAt (w.alloc (.cells (scells hs ts) 59)) w.heap.size 0 hs ts) := hid (SunAt.of_block lh lt (heap_alloc_new w _))
  have BH := hid bh
  have BT := hid bt
  clear bh bt lh lt
  go_enter Try.func109, Try.ntmps109
  go_wp2
  go_loop [4] (fun i => ∃ k : Nat, k ≤ 24 ∧ i = .int .i64 k ∧ ∀ j, j < k → inB (iat hs j) (-64) 64 = true ∧ inB (iat ts j) 0 255 = true) (fun i => 24 - (intOf i).toNat)
  case atStart => exact ⟨0, by omega, rfl, by omega⟩
  case round =>
    obtain ⟨k, hk, rfl, hall⟩ := hrel
    have Hall := hid hall
    clear hall
    by_cases hlt : k < 24
    · have q1 := S.out.h k hlt
      have q2 := S.out.t k hlt
      have b1 := BH.out k hlt
      have b2 := BT.out k hlt
      have hki : (k : Int) < 24 := by omega
      simp only [Nat.zero_add] at q1 q2
      cases e1 : inB (iat hs k) (-64) 64
      · go_wp2_with (go_at_call 62; refine (c_within _ _ _ _).mono ?_; rintro e w' ⟨rfl, rfl⟩)
        go_ret
        exact ⟨ret_bool (okS_no hlt (by simp [e1])).symm, (Below.refl _ _).alloc (Nat.le_refl _) _⟩
      · cases e2 : inB (iat ts k) 0 255
        · go_wp2_with (go_at_call 62; refine (c_within _ _ _ _).mono ?_; rintro e w' ⟨rfl, rfl⟩)
          go_ret
          exact ⟨ret_bool (okS_no hlt (by simp [e2])).symm, (Below.refl _ _).alloc (Nat.le_refl _) _⟩
        · go_wp2_with (go_at_call 62; refine (c_within _ _ _ _).mono ?_; rintro e w' ⟨rfl, rfl⟩)
          refine ⟨⟨k + 1, by omega, by go_num, fun j hj => ?_⟩, by simp [intOf]; omega⟩
          rcases Nat.lt_or_ge j k with h | h
          · exact Hall.out j h
          · obtain rfl : j = k := by omega
            exact ⟨e1, e2⟩
    · obtain rfl : k = 24 := by omega
      go_wp2
      go_ret
      exact ⟨ret_bool (okS_yes Hall.out).symm, (Below.refl _ _).alloc (Nat.le_refl _) _⟩
theorem c_l01Ok (hs ts : List Int) (b o : Nat) (w : World) (hS : SunAt w b o hs ts) (bh : I16 hs) (bt : I16 ts) :
    Calls Try.prog 110 #[.pointer (some ⟨b, o, none⟩)] w fun e w' => e = .returned (.bool (okS hs ts)) ∧ w = w' := by
  have S := hid hS
  have BH := hid bh
  have BT := hid bt
  clear bh bt hS
  go_enter Try.func110, Try.ntmps110
  go_wp2
  go_loop [3] (fun i => ∃ k : Nat, k ≤ 24 ∧ i = .int .i64 k ∧ ∀ j, j < k → inB (iat hs j) (-64) 64 = true ∧ inB (iat ts j) 0 255 = true) (fun i => 24 - (intOf i).toNat)
  case atStart => exact ⟨0, by omega, rfl, by omega⟩
  case round =>
    obtain ⟨k, hk, rfl, hall⟩ := hrel
    have Hall := hid hall
    clear hall
    by_cases hlt : k < 24
    · have q1 := S.out.h k hlt
      have q2 := S.out.t k hlt
      have b1 := BH.out k hlt
      have b2 := BT.out k hlt
      have hki : (k : Int) < 24 := by omega
      cases e1 : inB (iat hs k) (-64) 64
      · go_wp2_with (first | (go_at_call 121; refine (c_l01Height _ _).mono ?_; rintro e w' ⟨rfl, rfl⟩) | (go_at_call 85; refine (c_l01Faced _ _).mono ?_; rintro e w' ⟨rfl, rfl⟩))
        go_ret
        exact ⟨ret_bool (okS_no hlt (by simp [e1])).symm, rfl⟩
      · cases e2 : inB (iat ts k) 0 255
        · go_wp2_with (first | (go_at_call 121; refine (c_l01Height _ _).mono ?_; rintro e w' ⟨rfl, rfl⟩) | (go_at_call 85; refine (c_l01Faced _ _).mono ?_; rintro e w' ⟨rfl, rfl⟩))
          go_ret
          exact ⟨ret_bool (okS_no hlt (by simp [e2])).symm, rfl⟩
        · go_wp2_with (first | (go_at_call 121; refine (c_l01Height _ _).mono ?_; rintro e w' ⟨rfl, rfl⟩) | (go_at_call 85; refine (c_l01Faced _ _).mono ?_; rintro e w' ⟨rfl, rfl⟩))
          refine ⟨⟨k + 1, by omega, by go_num, fun j hj => ?_⟩, by simp [intOf]; omega⟩
          rcases Nat.lt_or_ge j k with h | h
          · exact Hall.out j h
          · obtain rfl : j = k := by omega
            exact ⟨e1, e2⟩
    · obtain rfl : k = 24 := by omega
      go_wp2
      go_ret
      exact ⟨ret_bool (okS_yes Hall.out).symm, rfl⟩
def codeOf (ok right : Bool) : Int := if ok then (if right then 0 else 2) else 1
theorem size_blind (B : Bld) : (Try.prog.info? 30).map (·.size) = some (bcells B).size := by kernel_rfl
theorem c_blindCode (B : Bld) (wf : WfB B) (r : Bool) (w : World) :
    Calls Try.prog 47 #[.agg (bcells B), .bool r] w fun e w' => e = .returned (.int .i64 (codeOf (okB B) r)) ∧ Below w.heap.size w w' := by
  have hsz := hid (size_blind B)
  have C := hid (fun w => c_ValidBlind B wf w)
  clear wf
  cases e1 : okB B <;> cases r
  all_goals
    go_enter Try.func47, Try.ntmps47
    go_wp2_with (first | (refine wpList_load_row rfl 30 _ rfl (w.heap.size) rfl 30 (bcells B) (0, 0) _ (blk_at _ _ _ rfl) Try.underlying30 rfl hsz.out ?_) | (go_at_call 61; refine (C.out _).mono ?_; rintro e w1 ⟨rfl, h1⟩))
    go_ret
    exact ⟨rfl, below_trans ((Below.refl _ _).alloc (Nat.le_refl _) _) h1 (by simp)⟩
theorem c_l02Asked (B : Bld) (wf : WfB B) (r : Bool) (b o : Nat) (w : World) (hA : BldAt w b o B) :
    Calls Try.prog 54 #[.pointer (some ⟨b, o, none⟩), .bool r] w fun e w' => e = .returned (.int .i64 (codeOf (okB B) r)) ∧ w = w' := by
  have C := hid (c_l02Ok B wf b o w hA)
  clear wf hA
  cases e1 : okB B <;> cases r
  all_goals
    go_enter Try.func54, Try.ntmps54
    go_wp2_with (go_at_call 65; refine C.out.mono ?_; rintro e w1 ⟨rfl, rfl⟩)
    go_ret
    exact ⟨rfl, rfl⟩
theorem c_windowCode (B : Bld) (wf : WfB B) (hs ts : List Int) (lh : hs.length = 24) (lt : ts.length = 24) (bh : I16 hs) (bt : I16 ts) (r : Bool) (w : World) :
    Calls Try.prog 89 #[.agg (bcells B), .agg (scells hs ts), .bool r] w fun e w' => e = .returned (.int .i64 (codeOf (okS hs ts && okB B) r)) ∧ Below w.heap.size w w' := by
  have hsz := hid (size_blind B)
  have hss : Hid ((Try.prog.info? 59).map (·.size) = some (scells hs ts).size) := hid (by rw [scells_size lh lt]; kernel_rfl)
  have C1 := hid (fun w => c_ValidSun hs ts lh lt w bh bt)
  have C2 := hid (fun w => c_blindCode B wf r w)
  have HB1 : Hid (((w.alloc (.cells (bcells B) 30)).alloc (.cells (scells hs ts) 59)).heap[w.heap.size]? = some (.cells (bcells B) 30 (0, 0))) := hid (by repeat (first | exact blk_at _ _ _ (by simp) | rw [blk_past _ _ _ (by simp)]))
  have HB2 : Hid (((w.alloc (.cells (bcells B) 30)).alloc (.cells (scells hs ts) 59)).heap[w.heap.size + 1]? = some (.cells (scells hs ts) 59 (0, 0))) := hid (by repeat (first | exact blk_at _ _ _ (by simp) | rw [blk_past _ _ _ (by simp)]))
  have H0 : Hid (Below w.heap.size w ((w.alloc (.cells (bcells B) 30)).alloc (.cells (scells hs ts) 59))) := hid (((Below.refl _ _).alloc (Nat.le_refl _) _).alloc (by simp) _)
  clear wf lh lt bh bt
  cases e1 : okS hs ts
  · go_enter Try.func89, Try.ntmps89
    go_wp2_with (first | (refine wpList_load_row rfl 30 _ rfl (w.heap.size) rfl 30 (bcells B) (0, 0) _ HB1.out Try.underlying30 rfl hsz.out ?_) | (refine wpList_load_row rfl 59 _ rfl (w.heap.size + 1) rfl 59 (scells hs ts) (0, 0) _ HB2.out Try.underlying59 rfl hss.out ?_) | (go_at_call 109; refine (C1.out _).mono ?_; rintro e w1 ⟨rfl, h1⟩))
    go_ret
    exact ⟨by simp [codeOf], below_trans H0.out h1 H0.out.size⟩
  · go_enter Try.func89, Try.ntmps89
    go_wp2_with (first | (refine wpList_load_row rfl 59 _ rfl (w.heap.size + 1) rfl 59 (scells hs ts) (0, 0) _ HB2.out Try.underlying59 rfl hss.out ?_) | (go_at_call 109; refine (C1.out _).mono ?_; rintro e w1 ⟨rfl, h1⟩; have HB3 := hid ((h1.block w.heap.size (block_lt HB1.out)).trans HB1.out); have H1 := hid (below_trans H0.out h1 H0.out.size); clear h1) | (refine wpList_load_row rfl 30 _ rfl (w.heap.size) rfl 30 (bcells B) (0, 0) _ HB3.out Try.underlying30 rfl hsz.out ?_) | (go_at_call 47; refine (C2.out _).mono ?_; rintro e w2 ⟨rfl, h2⟩))
    go_ret
    exact ⟨by simp, below_trans H1.out h2 H1.out.size⟩
end Go.Proofs.Ytboddpifepegcaa
