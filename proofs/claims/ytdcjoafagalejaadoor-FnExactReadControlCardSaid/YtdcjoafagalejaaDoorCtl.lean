/- Controls where no tick is reached: whether they are right; the laws' copy. -/
import Derived.Test.YtdcjoafagalejaaDoorTickV
import Derived.Test.YtdcjoafagalejaaDoorOpen
namespace Go.Proofs.YtdcjoafagalejaaDoor
set_option maxRecDepth 20000
open Go.RowKit
theorem c_ValidCtl (X : Ctl) (wf : WfC X) (w : World) :
    Calls Tryd.prog 49 #[.agg (ccells X)] w fun e w' => e = .returned (.bool (okC X)) ∧ Below w.heap.size w w' := by
  have ws0 := wf.st
  have ws1 := wf.de
  have ws2 := wf.ca
  simp only [ccells]
  rcases ways7 (a := isPart X.lo) (b := isPart X.hi) (c := isPart X.wi) (d := fLe X.lo X.hi) (e := inB X.st 1 64) (f := inB X.de 0 20) (g := inB X.ca 1 20) with e1 | ⟨e1, e2⟩ | ⟨e1, e2, e3⟩ | ⟨e1, e2, e3, e4⟩ | ⟨e1, e2, e3, e4, e5⟩ | ⟨e1, e2, e3, e4, e5, e6⟩ | ⟨e1, e2, e3, e4, e5, e6, e7⟩ | ⟨e1, e2, e3, e4, e5, e6, e7⟩
  all_goals
    try (have e4b := show (FloatKind.f32.format.order X.lo X.hi == some .lt || FloatKind.f32.format.order X.lo X.hi == some .eq) = _ from e4)
    have WF := hid wf
    clear wf
    go_enter Tryd.func49, Tryd.ntmps49
    go_wp2_with (first | (go_at_call 58; refine (c_within _ _ _ _).mono ?_; rintro e w' ⟨rfl, rfl⟩) | (go_at_call 80; refine (c_IsPart _ _).mono ?_; rintro e w' ⟨rfl, rfl⟩))
    go_ret
    exact ⟨ret_bool (by simp only [okC, Bool.and_true, Bool.and_false, Bool.false_and, *]), (Below.refl _ _).alloc (Nat.le_refl _) _⟩
--%
theorem c_okCtl (X : Ctl) (wf : WfC X) (b : Nat) (w : World) (hA : CtlAt w b X) :
    Calls Tryd.prog 47 #[.pointer (some ⟨b, 0, none⟩)] w fun e w' => e = .returned (.bool (okC X)) ∧ Below w.heap.size w w' := by
  have ws0 := wf.st
  have ws1 := wf.de
  have ws2 := wf.ca
  have q0 := hA.lo
  have q1 := hA.hi
  have q2 := hA.wi
  have q3 := hA.st
  have q4 := hA.de
  have q5 := hA.ca
  rcases ways7 (a := isPart X.lo) (b := isPart X.hi) (c := isPart X.wi) (d := fLe X.lo X.hi) (e := inB X.st 1 64) (f := inB X.de 0 20) (g := inB X.ca 1 20) with e1 | ⟨e1, e2⟩ | ⟨e1, e2, e3⟩ | ⟨e1, e2, e3, e4⟩ | ⟨e1, e2, e3, e4, e5⟩ | ⟨e1, e2, e3, e4, e5, e6⟩ | ⟨e1, e2, e3, e4, e5, e6, e7⟩ | ⟨e1, e2, e3, e4, e5, e6, e7⟩
  all_goals
    try (have e4b := le_gt_no wf e1 e2 e4)
    try (have e4b := le_gt_yes wf e1 e2 e4)
    have WF := hid wf
    clear wf hA
    go_enter Tryd.func47, Tryd.ntmps47
    go_wp2
    go_quiet ((go_at_call 78; exact quiet_left (c_l01Part _ _)))
    go_wp2_with (first | (go_at_call 79; refine (c_l00In _ _ _ _).mono ?_; rintro e w' ⟨rfl, rfl⟩) | (go_at_call 78; refine (c_l01Part _ _).mono ?_; rintro e w' ⟨rfl, rfl⟩))
    go_ret
    exact ⟨ret_bool (by simp only [okC, Bool.and_true, Bool.and_false, Bool.false_and, *]), below_drawn (Below.refl _ _) _⟩
theorem size_ct (c : Ctl) : (Tryd.prog.info? 42).map (·.size) = some (ccells c).size := by kernel_rfl
theorem c_toCtl (c : Ctl) (w : World) :
    Calls Tryd.prog 22 #[.agg (ccells c)] w fun e w' => e = .returned (.agg (ccells c)) ∧ Below w.heap.size w w' := by
  have hsz := size_ct c
  simp only [ccells] at hsz ⊢
  have hs := hid hsz
  clear hsz
  go_enter Tryd.func22, Tryd.ntmps22
  go_wp2
  refine bodyPost_ret (v := .agg #[.float .f32 c.lo, .float .f32 c.hi, .float .f32 c.wi, .int .i8 c.st, .int .i8 c.de, .int .i8 c.ca]) (results_cell_row rfl _ _ (w.heap.size + 1) 42 _ (0, 0) _ rfl ?_ Tryd.underlying42 rfl hs.out) rfl ⟨rfl, ?_⟩
  · exact (blk_past _ _ _ (by simp)).trans (blk_at _ _ _ (by simp))
  · exact (((Below.refl _ _).alloc (Nat.le_refl _) _).alloc (by simp) _).alloc (by simp; omega) _
end Go.Proofs.YtdcjoafagalejaaDoor
