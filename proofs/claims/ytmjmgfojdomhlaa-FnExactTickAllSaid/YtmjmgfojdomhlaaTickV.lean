/- Walks of what looks whether controls, states and ticks are right. -/
import Derived.Test.YtmjmgfojdomhlaaTick
namespace Go.Proofs.Ytmjmgfojdomhlaa
set_option maxRecDepth 20000
open Go.RowKit

theorem ways7 {a b c d e f g : Bool} : (a = false) ∨ (a = true ∧ b = false) ∨ (a = true ∧ b = true ∧ c = false) ∨ (a = true ∧ b = true ∧ c = true ∧ d = false) ∨ (a = true ∧ b = true ∧ c = true ∧ d = true ∧ e = false) ∨ (a = true ∧ b = true ∧ c = true ∧ d = true ∧ e = true ∧ f = false) ∨ (a = true ∧ b = true ∧ c = true ∧ d = true ∧ e = true ∧ f = true ∧ g = false) ∨ (a = true ∧ b = true ∧ c = true ∧ d = true ∧ e = true ∧ f = true ∧ g = true) := by
  cases a <;> cases b <;> cases c <;> cases d <;> cases e <;> cases f <;> cases g <;> simp
theorem ways3 {a b c : Bool} : (a = false) ∨ (a = true ∧ b = false) ∨ (a = true ∧ b = true ∧ c = false) ∨ (a = true ∧ b = true ∧ c = true) := by
  cases a <;> cases b <;> cases c <;> simp
theorem le_gt_no {X : Ctl} (wf : WfC X) (e1 : isPart X.lo = true) (e2 : isPart X.hi = true) (e4 : fLe X.lo X.hi = false) : (FloatKind.f32.format.order X.lo X.hi == some .gt) = true := by
  have h := fLe_gt (part_in wf.lo e1).fin (part_in wf.hi e2).fin
  rw [e4] at h
  show fGt X.lo X.hi = true
  cases hq : fGt X.lo X.hi
  · rw [hq] at h; simp at h
  · rfl
theorem le_gt_yes {X : Ctl} (wf : WfC X) (e1 : isPart X.lo = true) (e2 : isPart X.hi = true) (e4 : fLe X.lo X.hi = true) : (FloatKind.f32.format.order X.lo X.hi == some .gt) = false := by
  have h := fLe_gt (part_in wf.lo e1).fin (part_in wf.hi e2).fin
  rw [e4] at h
  show fGt X.lo X.hi = false
  cases hq : fGt X.lo X.hi
  · rfl
  · rw [hq] at h; simp at h
theorem c_ValidControl (X : Ctl) (wf : WfC X) (w : World) :
    Calls Try.prog 141 #[.agg (ccells X)] w fun e w' => e = .returned (.bool (okC X)) ∧ Below w.heap.size w w' := by
  have ws0 := wf.st
  have ws1 := wf.de
  have ws2 := wf.ca
  simp only [ccells]
  rcases ways7 (a := isPart X.lo) (b := isPart X.hi) (c := isPart X.wi) (d := fLe X.lo X.hi) (e := inB X.st 1 64) (f := inB X.de 0 20) (g := inB X.ca 1 20) with e1 | ⟨e1, e2⟩ | ⟨e1, e2, e3⟩ | ⟨e1, e2, e3, e4⟩ | ⟨e1, e2, e3, e4, e5⟩ | ⟨e1, e2, e3, e4, e5, e6⟩ | ⟨e1, e2, e3, e4, e5, e6, e7⟩ | ⟨e1, e2, e3, e4, e5, e6, e7⟩
  all_goals
    try (have e4b := show (FloatKind.f32.format.order X.lo X.hi == some .lt || FloatKind.f32.format.order X.lo X.hi == some .eq) = _ from e4)
    have WF := hid wf
    clear wf
    go_enter Try.func141, Try.ntmps141
    go_wp2_with (first | (go_at_call 111; refine (c_within _ _ _ _).mono ?_; rintro e w' ⟨rfl, rfl⟩) | (go_at_call 171; refine (c_isTilt _ _).mono ?_; rintro e w' ⟨rfl, rfl⟩) | (go_at_call 75; refine (c_IsPart _ _).mono ?_; rintro e w' ⟨rfl, rfl⟩) | (go_at_call 90; refine (c_isHeight _ _).mono ?_; rintro e w' ⟨rfl, rfl⟩))
    go_ret
    exact ⟨ret_bool (by simp only [okC, Bool.and_true, Bool.and_false, Bool.false_and, *]), (Below.refl _ _).alloc (Nat.le_refl _) _⟩
--%
theorem c_l05Ok (X : Ctl) (wf : WfC X) (b : Nat) (w : World) (hA : CtlAt w b X) :
    Calls Try.prog 136 #[.pointer (some ⟨b, 0, none⟩)] w fun e w' => e = .returned (.bool (okC X)) ∧ Below w.heap.size w w' := by
  have ws0 := wf.st
  have ws1 := wf.de
  have ws2 := wf.ca
  have q0 := hA.lo
  have q1 := hA.hi
  have q2 := hA.wi
  have q3 := hA.st
  have q4 := hA.de
  have q5 := hA.ca
  rcases ways7 (a := isPart X.lo) (b := isPart X.hi) (c := isPart X.wi) (d := fLe X.lo X.hi) (e := inB X.st 1 64) (f := inB X.de 0 20) (g := inB X.ca 1 20) with e1 | ⟨e1, e2⟩ | ⟨e1, e2, e3⟩ | ⟨e1, e2, e3, e4⟩ | ⟨e1, e2, e3, e4, e5⟩ | ⟨e1, e2, e3, e4, e5, e6⟩ | ⟨e1, e2, e3, e4, e5, e6, e7⟩ | ⟨e1, e2, e3, e4, e5, e6, e7⟩
  all_goals
    try (have e4b := le_gt_no wf e1 e2 e4)
    try (have e4b := le_gt_yes wf e1 e2 e4)
    have WF := hid wf
    clear wf hA
    go_enter Try.func136, Try.ntmps136
    go_wp2
    go_quiet ((go_at_call 74; exact quiet_left (c_l01Part _ _)))
    go_wp2_with (first | (go_at_call 113; refine (c_l00In _ _ _ _).mono ?_; rintro e w' ⟨rfl, rfl⟩) | (go_at_call 135; refine (c_l02Tilt _ _).mono ?_; rintro e w' ⟨rfl, rfl⟩) | (go_at_call 74; refine (c_l01Part _ _).mono ?_; rintro e w' ⟨rfl, rfl⟩) | (go_at_call 95; refine (c_l02Up _ _).mono ?_; rintro e w' ⟨rfl, rfl⟩))
    go_ret
    exact ⟨ret_bool (by simp only [okC, Bool.and_true, Bool.and_false, Bool.false_and, *]), below_drawn (Below.refl _ _) _⟩
theorem c_ValidState (X : Sta) (wf : WfS X) (w : World) :
    Calls Try.prog 142 #[.agg (stcells X)] w fun e w' => e = .returned (.bool (okSt X)) ∧ Below w.heap.size w w' := by
  have ws0 := wf.ti
  have ws1 := wf.wa
  have ws2 := wf.so
  simp only [stcells]
  rcases ways3 (a := inB X.ti (-64) 64) (b := inB X.wa 0 20) (c := inB X.so 0 20) with e1 | ⟨e1, e2⟩ | ⟨e1, e2, e3⟩ | ⟨e1, e2, e3⟩
  all_goals
    have WF := hid wf
    clear wf
    go_enter Try.func142, Try.ntmps142
    go_wp2_with (first | (go_at_call 111; refine (c_within _ _ _ _).mono ?_; rintro e w' ⟨rfl, rfl⟩) | (go_at_call 171; refine (c_isTilt _ _).mono ?_; rintro e w' ⟨rfl, rfl⟩) | (go_at_call 75; refine (c_IsPart _ _).mono ?_; rintro e w' ⟨rfl, rfl⟩) | (go_at_call 90; refine (c_isHeight _ _).mono ?_; rintro e w' ⟨rfl, rfl⟩))
    go_ret
    exact ⟨ret_bool (by simp only [okSt, Bool.and_true, Bool.and_false, Bool.false_and, *]), (Below.refl _ _).alloc (Nat.le_refl _) _⟩
theorem c_l05State (X : Sta) (wf : WfS X) (b : Nat) (w : World) (hA : StaAt w b X) :
    Calls Try.prog 137 #[.pointer (some ⟨b, 0, none⟩)] w fun e w' => e = .returned (.bool (okSt X)) ∧ w = w' := by
  have ws0 := wf.ti
  have ws1 := wf.wa
  have ws2 := wf.so
  have q0 := hA.ti
  have q1 := hA.wa
  have q2 := hA.so
  rcases ways3 (a := inB X.ti (-64) 64) (b := inB X.wa 0 20) (c := inB X.so 0 20) with e1 | ⟨e1, e2⟩ | ⟨e1, e2, e3⟩ | ⟨e1, e2, e3⟩
  all_goals
    have WF := hid wf
    clear wf hA
    go_enter Try.func137, Try.ntmps137
    go_wp2_with (first | (go_at_call 113; refine (c_l00In _ _ _ _).mono ?_; rintro e w' ⟨rfl, rfl⟩) | (go_at_call 135; refine (c_l02Tilt _ _).mono ?_; rintro e w' ⟨rfl, rfl⟩) | (go_at_call 74; refine (c_l01Part _ _).mono ?_; rintro e w' ⟨rfl, rfl⟩) | (go_at_call 95; refine (c_l02Up _ _).mono ?_; rintro e w' ⟨rfl, rfl⟩))
    go_ret
    exact ⟨ret_bool (by simp only [okSt, Bool.and_true, Bool.and_false, Bool.false_and, *]), rfl⟩
theorem c_ValidTick (X : Tck) (wf : WfT X) (w : World) :
    Calls Try.prog 145 #[.agg (tcells X)] w fun e w' => e = .returned (.bool (okT X)) ∧ Below w.heap.size w w' := by
  have ws0 := wf.he
  simp only [tcells]
  rcases ways3 (a := isPart X.li) (b := isPart X.gu) (c := inB X.he 1 64) with e1 | ⟨e1, e2⟩ | ⟨e1, e2, e3⟩ | ⟨e1, e2, e3⟩
  all_goals
    have WF := hid wf
    clear wf
    go_enter Try.func145, Try.ntmps145
    go_wp2_with (first | (go_at_call 111; refine (c_within _ _ _ _).mono ?_; rintro e w' ⟨rfl, rfl⟩) | (go_at_call 171; refine (c_isTilt _ _).mono ?_; rintro e w' ⟨rfl, rfl⟩) | (go_at_call 75; refine (c_IsPart _ _).mono ?_; rintro e w' ⟨rfl, rfl⟩) | (go_at_call 90; refine (c_isHeight _ _).mono ?_; rintro e w' ⟨rfl, rfl⟩))
    go_ret
    exact ⟨ret_bool (by simp only [okT, Bool.and_true, Bool.and_false, Bool.false_and, *]), (Below.refl _ _).alloc (Nat.le_refl _) _⟩
theorem c_l05Tick (X : Tck) (wf : WfT X) (b o : Nat) (w : World) (hA : TckAt w b o X) :
    Calls Try.prog 138 #[.pointer (some ⟨b, o, none⟩)] w fun e w' => e = .returned (.bool (okT X)) ∧ w = w' := by
  have ws0 := wf.he
  have q0 := hA.li
  have q1 := hA.gu
  have q2 := hA.he
  rcases ways3 (a := isPart X.li) (b := isPart X.gu) (c := inB X.he 1 64) with e1 | ⟨e1, e2⟩ | ⟨e1, e2, e3⟩ | ⟨e1, e2, e3⟩
  all_goals
    have WF := hid wf
    clear wf hA
    go_enter Try.func138, Try.ntmps138
    go_wp2_with (first | (go_at_call 113; refine (c_l00In _ _ _ _).mono ?_; rintro e w' ⟨rfl, rfl⟩) | (go_at_call 135; refine (c_l02Tilt _ _).mono ?_; rintro e w' ⟨rfl, rfl⟩) | (go_at_call 74; refine (c_l01Part _ _).mono ?_; rintro e w' ⟨rfl, rfl⟩) | (go_at_call 95; refine (c_l02Up _ _).mono ?_; rintro e w' ⟨rfl, rfl⟩))
    go_ret
    exact ⟨ret_bool (by simp only [okT, Bool.and_true, Bool.and_false, Bool.false_and, *]), rfl⟩
end Go.Proofs.Ytmjmgfojdomhlaa
