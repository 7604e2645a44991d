/- Walks of the light that falls on a window, and of what a blind blocks, leaves open and lets pass. -/
import Derived.Test.YtboddpifepegcaaShine
import Derived.Outline
namespace Go.Proofs.Ytboddpifepegcaa
set_option maxRecDepth 20000
open Go.RowKit

/-- A cell that holds a number is read in a region, whatever its order. -/
theorem wpQuiet_load_cell {P : Program} {ops : Array Oper} {C : World → Prop} {Q : Act → Prop} {rest : List Oper} {o : Oper} {a : Act} (hgd : o.guard = none) (ty : TypeId) (x : Operand) (ho : o.op = .load ty x)
    (ad : Addr) (hx : a.eval x = .pointer (some ad)) (v : Value) (d : TypeDesc) (hg : ∀ w, C w → w.cell? ad = some v)
    (hu : P.underlying ty = some d) (hd : (match d with | .struct _ | .array _ _ => true | _ => false) = false)
    (h : wpQuiet P ops C Q rest (a.put o.dst v)) : wpQuiet P ops C Q (o :: rest) a :=
  wpQuiet_step fun K hK => by
    rw [if_pos (by simp [Region.wanted, hgd])]
    refine ⟨v, fun w hw => ?_, hK _ h⟩
    have hagg : (isAgg ty).run P w = .ok false w := by
      unfold isAgg
      rw [Sem.run_bind, run_underlying hu w]
      cases d <;> simp_all
    unfold Oper.quietAt execOp
    simp [ho, hx, Instr.loadAt, Instr.sureAddr, loadVar, hagg, hg w hw]
    exact ⟨rfl, rfl⟩
theorem c_isUp (u : Bool) (b o k : Nat) (hs ts : List Int) (w : World) (hS : SunAt w b o hs ts) (hk : k < 24) (hu : decide (0 < iat hs k) = u) :
    Calls Try.prog 112 #[.pointer (some ⟨b, o, none⟩), .int .i64 (k : Int)] w fun e w' => e = .returned (.bool u) ∧ w = w' := by
  have h1 := hS.h k hk
  have U := hid hu
  clear hS hu
  go_enter Try.func112, Try.ntmps112
  go_wp2
  go_ret
  exact ⟨ret_bool U.out, rfl⟩
theorem c_fall (b o k : Nat) (hs ts : List Int) (f : Int) (w : World) (hS : SunAt w b o hs ts) (hk : k < 24) (hh : -64 ≤ iat hs k ∧ iat hs k ≤ 64) (ht : 0 ≤ iat ts k ∧ iat ts k ≤ 255) (hf : 0 ≤ f ∧ f ≤ 255) :
    Calls Try.prog 113 #[.pointer (some ⟨b, o, none⟩), .int .i64 (k : Int), .int .i64 f] w fun e w' => e = .returned (.float .f32 (fallW hs ts k f)) ∧ Below w.heap.size w w' := by
  have h1 := hS.h k hk
  have h2 := hS.t k hk
  have S := hid hS
  have r1 := run_mul (T := 27) (cosI_abs (iat hs k)).fin (cosI_abs (iat ts k - f)).fin
  clear hS
  by_cases hz : 0 < iat hs k
  · have F : Hid (fallW hs ts k f = pos0 (fmul (cosI (iat hs k)) (cosI (iat ts k - f)))) := hid (by unfold fallW; rw [if_neg (by omega)])
    go_enter Try.func113, Try.ntmps113
    go_wp2_with (go_at_call 112; refine (c_isUp true b o k hs ts _ S.out hk (by simpa using hz)).mono ?_; rintro e w' ⟨rfl, rfl⟩)
    go_quiet (first | (go_at_call 118; exact quiet_left (c_CosineOf (iat hs k) _)) | (go_at_call 118; exact quiet_left (c_CosineOf (iat ts k - f) _)) | (go_at_call 123; exact quiet_left (c_atLeast0 (prod_abs _ _) _)))
    go_wp2
    go_ret
    exact ⟨ret_float F.out.symm, below_drawn (Below.refl _ _) _⟩
  · have F : Hid (fallW hs ts k f = 0) := hid (by unfold fallW; rw [if_pos (by omega)])
    go_enter Try.func113, Try.ntmps113
    go_wp2_with (go_at_call 112; refine (c_isUp false b o k hs ts _ S.out hk (by simpa using hz)).mono ?_; rintro e w' ⟨rfl, rfl⟩)
    go_ret
    exact ⟨ret_float F.out.symm, Below.refl _ _⟩
theorem c_l01Fall (b o k : Nat) (hs ts : List Int) (f : Int) (w : World) (hS : SunAt w b o hs ts) (hk : k < 24) (hh : -64 ≤ iat hs k ∧ iat hs k ≤ 64) (ht : 0 ≤ iat ts k ∧ iat ts k ≤ 255) (hf : 0 ≤ f ∧ f ≤ 255) :
    Calls Try.prog 122 #[.pointer (some ⟨b, o, none⟩), .int .i64 (k : Int), .int .i64 f] w fun e w' => e = .returned (.float .f32 (fallW hs ts k f)) ∧ Below w.heap.size w w' := by
  have h1 := hS.h k hk
  have h2 := hS.t k hk
  have r1 := run_mul (T := 27) (cosI_abs (iat hs k)).fin (cosI_abs (iat ts k - f)).fin
  clear hS
  by_cases hz : iat hs k ≤ 0
  · have F : Hid (fallW hs ts k f = 0) := hid (by unfold fallW; rw [if_pos hz])
    go_enter Try.func122, Try.ntmps122
    go_wp2
    go_ret
    exact ⟨ret_float F.out.symm, Below.refl _ _⟩
  · have F : Hid (fallW hs ts k f = pos0 (fmul (cosI (iat hs k)) (cosI (iat ts k - f)))) := hid (by unfold fallW; rw [if_neg hz])
    cases hg : fGt (fmul (cosI (iat hs k)) (cosI (iat ts k - f))) 0
    · have hg' : (FloatKind.f32.format.order (fmul (cosI (iat hs k)) (cosI (iat ts k - f))) 0 == some .gt) = false := hg
      have G : Hid (pos0 (fmul (cosI (iat hs k)) (cosI (iat ts k - f))) = 0) := hid (by unfold pos0; rw [hg]; rfl)
      clear hg
      go_enter Try.func122, Try.ntmps122
      go_wp2
      go_quiet (first | (go_at_call 120; exact quiet_left (c_l01Cosine (iat hs k) _)) | (go_at_call 120; exact quiet_left (c_l01Cosine (iat ts k - f) _)))
      go_wp2
      go_ret
      exact ⟨ret_float (F.out.trans G.out).symm, below_drawn (Below.refl _ _) _⟩
    · have hg' : (FloatKind.f32.format.order (fmul (cosI (iat hs k)) (cosI (iat ts k - f))) 0 == some .gt) = true := hg
      have G : Hid (pos0 (fmul (cosI (iat hs k)) (cosI (iat ts k - f))) = fmul (cosI (iat hs k)) (cosI (iat ts k - f))) := hid (by unfold pos0; rw [hg]; rfl)
      clear hg
      go_enter Try.func122, Try.ntmps122
      go_wp2
      go_quiet (first | (go_at_call 120; exact quiet_left (c_l01Cosine (iat hs k) _)) | (go_at_call 120; exact quiet_left (c_l01Cosine (iat ts k - f) _)))
      go_wp2
      go_ret
      exact ⟨ret_float (F.out.trans G.out).symm, below_drawn (Below.refl _ _) _⟩
theorem c_blocked (B : Bld) (hB : OkB B) (h : Int) (h1 : 1 ≤ h) (h2 : h ≤ 64) (w : World) :
    Calls Try.prog 98 #[.agg (bcells B), .int .i64 h] w fun e w' => e = .returned (.float .f32 (blockedW B h)) ∧ Below w.heap.size w w' := by
  have K := blk_fin hB h1 h2
  have tb := hB.ti
  have r1 := run_mul (T := 27) hB.wi.fin K.s.fin
  have r2 := run_mul (T := 27) hB.ga.fin K.c.fin
  have C1 := hid (fun w => c_SineOf (h + B.ti) w)
  have C2 := hid (fun w => c_sizeOf (sineI_abs (h + B.ti)) w)
  have C3 := hid (fun w => c_CosineOf h w)
  simp only [bcells]
  cases hc : fEq (cosI h) 0
  · obtain ⟨d1, d2, d3⟩ := K.den hc
    have r3 := run_quo (T := 27) K.num.fin d1.fin d2
    have r4 := run_minF (x := fdiv (fmul B.wi (sizeW (sineI (h + B.ti)))) (fmul B.ga (cosI h))) (y := 1065353216) d3.fin (by decide)
    rw [show (1065353216 : Nat) = W1 from rfl, minF_one d3.word d3.fin] at r4
    simp only [W1] at r4
    have F : Hid (blockedW B h = minOne (fdiv (fmul B.wi (sizeW (sineI (h + B.ti)))) (fmul B.ga (cosI h)))) := hid (by unfold blockedW; rw [hc]; rfl)
    have hc' : (FloatKind.f32.format.order (cosI h) 0 == some .eq) = false := hc
    clear hc d1 d2 d3 K hB
    generalize minOne (fdiv (fmul B.wi (sizeW (sineI (h + B.ti)))) (fmul B.ga (cosI h))) = v5 at *
    generalize fdiv (fmul B.wi (sizeW (sineI (h + B.ti)))) (fmul B.ga (cosI h)) = v4 at *
    generalize fmul B.ga (cosI h) = v3 at *
    generalize fmul B.wi (sizeW (sineI (h + B.ti))) = v2 at *
    generalize sizeW (sineI (h + B.ti)) = v1 at *
    generalize sineI (h + B.ti) = v0 at *
    generalize hcv : cosI h = cv at *
    go_enter Try.func98, Try.ntmps98
    go_wp2_with (first | (go_at_call 117; refine (C1.out _).mono ?_; rintro e w' ⟨rfl, rfl⟩) | (go_at_call 118; refine (C3.out _).mono ?_; rintro e w' ⟨rfl, rfl⟩) | (go_at_call 53; refine (C2.out _).mono ?_; rintro e w' ⟨rfl, rfl⟩))
    go_ret
    exact ⟨ret_float F.out.symm, (Below.refl _ _).alloc (Nat.le_refl _) _⟩
  · have F : Hid (blockedW B h = W1) := hid (by unfold blockedW; rw [hc]; rfl)
    have hc' : (FloatKind.f32.format.order (cosI h) 0 == some .eq) = true := hc
    clear hc K hB
    generalize sizeW (sineI (h + B.ti)) = v1 at *
    generalize sineI (h + B.ti) = v0 at *
    generalize hcv : cosI h = cv at *
    go_enter Try.func98, Try.ntmps98
    go_wp2_with (first | (go_at_call 117; refine (C1.out _).mono ?_; rintro e w' ⟨rfl, rfl⟩) | (go_at_call 118; refine (C3.out _).mono ?_; rintro e w' ⟨rfl, rfl⟩) | (go_at_call 53; refine (C2.out _).mono ?_; rintro e w' ⟨rfl, rfl⟩))
    go_ret
    exact ⟨ret_float F.out.symm, (Below.refl _ _).alloc (Nat.le_refl _) _⟩
theorem c_open (B : Bld) (hB : OkB B) (h : Int) (h1 : 1 ≤ h) (h2 : h ≤ 64) (w : World) :
    Calls Try.prog 72 #[.agg (bcells B), .int .i64 h] w fun e w' => e = .returned (.float .f32 (openW B h)) ∧ Below w.heap.size w w' := by
  have K := blk_fin hB h1 h2
  have r1 : ∀ wx, (binOp .sub 27 (.float .f32 1065353216) (.float .f32 (blockedW B h))).run Try.prog wx = .ok (.float .f32 (openW B h)) wx := run_sub (by decide) K.blk.fin
  have C := hid (fun w => c_blocked B hB h h1 h2 w)
  have hsz : Hid ((Try.prog.info? 30).map (·.size) = some (bcells B).size) := hid (by kernel_rfl)
  clear K hB
  generalize openW B h = v2 at *
  generalize blockedW B h = v1 at *
  go_enter Try.func72, Try.ntmps72
  go_wp2_with (first | (refine wpList_load_row rfl 30 _ rfl (w.heap.size) rfl 30 (bcells B) (0, 0) _ (blk_at _ _ _ rfl) Try.underlying30 rfl hsz.out ?_) | (go_at_call 98; refine (C.out _).mono ?_; rintro e w1 ⟨rfl, h1⟩))
  go_ret
  exact ⟨rfl, below_trans ((Below.refl _ _).alloc (Nat.le_refl _) _) h1 (by simp)⟩
theorem c_l02Blocked (B : Bld) (hB : OkB B) (h : Int) (h1 : 1 ≤ h) (h2 : h ≤ 64) (b o : Nat) (w : World) (hA : BldAt w b o B) :
    Calls Try.prog 99 #[.pointer (some ⟨b, o, none⟩), .int .i64 h] w fun e w' => e = .returned (.float .f32 (blockedW B h)) ∧ Below w.heap.size w w' := by
  have K := blk_fin hB h1 h2
  have tb := hB.ti
  have q1 := hA.wi
  have q2 := hA.ga
  have q3 := hA.ti
  have r1 := run_mul (T := 27) hB.wi.fin K.s.fin
  have r2 := run_mul (T := 27) hB.ga.fin K.c.fin
  have C1 := hid (fun w => c_l01Sine (h + B.ti) w)
  have C2 := hid (fun w => c_l01Size (sineI_abs (h + B.ti)) w)
  have C3 := hid (fun w => c_l01Cosine h w)
  clear hA
  cases hc : fEq (cosI h) 0
  · obtain ⟨d1, d2, d3⟩ := K.den hc
    have r3 := run_quo (T := 27) K.num.fin d1.fin d2
    have F : Hid (blockedW B h = minOne (fdiv (fmul B.wi (sizeW (sineI (h + B.ti)))) (fmul B.ga (cosI h)))) := hid (by unfold blockedW; rw [hc]; rfl)
    have hc' : (FloatKind.f32.format.order (cosI h) 0 == some .eq) = false := hc
    cases hg : fGt (fdiv (fmul B.wi (sizeW (sineI (h + B.ti)))) (fmul B.ga (cosI h))) W1
    · have hg' : (FloatKind.f32.format.order (fdiv (fmul B.wi (sizeW (sineI (h + B.ti)))) (fmul B.ga (cosI h))) 1065353216 == some .gt) = false := hg
      have G : Hid (blockedW B h = fdiv (fmul B.wi (sizeW (sineI (h + B.ti)))) (fmul B.ga (cosI h))) := hid (by rw [F.out]; unfold minOne; rw [hg]; rfl)
      clear hc hg d1 d2 d3 K hB F
      generalize fdiv (fmul B.wi (sizeW (sineI (h + B.ti)))) (fmul B.ga (cosI h)) = v4 at *
      generalize fmul B.ga (cosI h) = v3 at *
      generalize fmul B.wi (sizeW (sineI (h + B.ti))) = v2 at *
      generalize sizeW (sineI (h + B.ti)) = v1 at *
      generalize sineI (h + B.ti) = v0 at *
      generalize hcv : cosI h = cv at *
      go_enter Try.func99, Try.ntmps99
      go_wp2_with (first | (go_at_call 119; refine (C1.out _).mono ?_; rintro e w' ⟨rfl, rfl⟩) | (go_at_call 120; refine (C3.out _).mono ?_; rintro e w' ⟨rfl, rfl⟩) | (go_at_call 57; refine (C2.out _).mono ?_; rintro e w' ⟨rfl, rfl⟩))
      go_quiet (fail)
      go_wp2
      go_ret
      exact ⟨ret_float G.out.symm, below_drawn (Below.refl _ _) _⟩
    · have hg' : (FloatKind.f32.format.order (fdiv (fmul B.wi (sizeW (sineI (h + B.ti)))) (fmul B.ga (cosI h))) 1065353216 == some .gt) = true := hg
      have G : Hid (blockedW B h = W1) := hid (by rw [F.out]; unfold minOne; rw [hg]; rfl)
      clear hc hg d1 d2 d3 K hB F
      generalize fdiv (fmul B.wi (sizeW (sineI (h + B.ti)))) (fmul B.ga (cosI h)) = v4 at *
      generalize fmul B.ga (cosI h) = v3 at *
      generalize fmul B.wi (sizeW (sineI (h + B.ti))) = v2 at *
      generalize sizeW (sineI (h + B.ti)) = v1 at *
      generalize sineI (h + B.ti) = v0 at *
      generalize hcv : cosI h = cv at *
      go_enter Try.func99, Try.ntmps99
      go_wp2_with (first | (go_at_call 119; refine (C1.out _).mono ?_; rintro e w' ⟨rfl, rfl⟩) | (go_at_call 120; refine (C3.out _).mono ?_; rintro e w' ⟨rfl, rfl⟩) | (go_at_call 57; refine (C2.out _).mono ?_; rintro e w' ⟨rfl, rfl⟩))
      go_quiet (fail)
      go_wp2
      go_ret
      exact ⟨ret_float G.out.symm, below_drawn (Below.refl _ _) _⟩
  · have F : Hid (blockedW B h = W1) := hid (by unfold blockedW; rw [hc]; rfl)
    have hc' : (FloatKind.f32.format.order (cosI h) 0 == some .eq) = true := hc
    clear hc K hB
    generalize sizeW (sineI (h + B.ti)) = v1 at *
    generalize sineI (h + B.ti) = v0 at *
    generalize hcv : cosI h = cv at *
    go_enter Try.func99, Try.ntmps99
    go_wp2_with (first | (go_at_call 119; refine (C1.out _).mono ?_; rintro e w' ⟨rfl, rfl⟩) | (go_at_call 120; refine (C3.out _).mono ?_; rintro e w' ⟨rfl, rfl⟩) | (go_at_call 57; refine (C2.out _).mono ?_; rintro e w' ⟨rfl, rfl⟩))
    go_ret
    exact ⟨ret_float F.out.symm, Below.refl _ _⟩
theorem c_l02Open (B : Bld) (hB : OkB B) (h : Int) (h1 : 1 ≤ h) (h2 : h ≤ 64) (b o : Nat) (w : World) (hA : BldAt w b o B) :
    Calls Try.prog 74 #[.pointer (some ⟨b, o, none⟩), .int .i64 h] w fun e w' => e = .returned (.float .f32 (openW B h)) ∧ Below w.heap.size w w' := by
  have K := blk_fin hB h1 h2
  have r1 : ∀ wx, (binOp .sub 27 (.float .f32 1065353216) (.float .f32 (blockedW B h))).run Try.prog wx = .ok (.float .f32 (openW B h)) wx := run_sub (by decide) K.blk.fin
  have C := hid (c_l02Blocked B hB h h1 h2 b o w hA)
  clear K hB hA
  generalize openW B h = v2 at *
  generalize blockedW B h = v1 at *
  go_enter Try.func74, Try.ntmps74
  go_wp2_with (go_at_call 99; refine C.out.mono ?_; rintro e w1 ⟨rfl, h1⟩)
  go_ret
  exact ⟨rfl, h1⟩
theorem c_pass (B : Bld) (hB : OkB B) (h : Int) (h1 : 1 ≤ h) (h2 : h ≤ 64) (w : World) :
    Calls Try.prog 52 #[.agg (bcells B), .int .i64 h] w fun e w' => e = .returned (.float .f32 (passW B h)) ∧ Below w.heap.size w w' := by
  have K := pass_fin hB h1 h2
  have r1 := run_mul (T := 27) (blk_fin hB h1 h2).blk.fin hB.sh.fin
  have r2 := run_mul (T := 27) K.bs.fin (open_in hB (h := 1) (by omega) (by omega)).fin
  have r3 : ∀ wx, (binOp .quo 27 (.float .f32 (fmul (fmul (blockedW B h) B.sh) (openW B 1))) (.float .f32 1073741824)).run Try.prog wx = .ok (.float .f32 (bounceW B h)) wx := run_quo K.bo.fin (by decide) fx_W2p
  have r4 : ∀ wx, (binOp .add 27 (.float .f32 (openW B h)) (.float .f32 (bounceW B h))).run Try.prog wx = .ok (.float .f32 (passW B h)) wx := run_add (open_in hB h1 h2).fin K.bn.fin
  have C1 := hid (fun w => c_blocked B hB h h1 h2 w)
  have C2 := hid (fun w => c_open B hB 1 (by omega) (by omega) w)
  have C3 := hid (fun w => c_open B hB h h1 h2 w)
  have hsz : Hid ((Try.prog.info? 30).map (·.size) = some (bcells B).size) := hid (by kernel_rfl)
  clear K hB
  generalize passW B h = v7 at *
  generalize bounceW B h = v6 at *
  generalize fmul (fmul (blockedW B h) B.sh) (openW B 1) = v5 at *
  generalize fmul (blockedW B h) B.sh = v4 at *
  generalize openW B h = v3 at *
  generalize openW B 1 = v2 at *
  generalize blockedW B h = v1 at *
  go_enter Try.func52, Try.ntmps52
  go_wp2_with (refine wpList_load_row rfl 30 _ rfl (w.heap.size) rfl 30 (bcells B) (0, 0) _ (blk_at _ _ _ rfl) Try.underlying30 rfl hsz.out ?_)
  refine wp_region_below (by kernel_rfl) (by kernel_rfl) ?_
  repeat (first | (refine wpQuiet_load_row rfl 30 _ rfl (w.heap.size) rfl 30 (bcells B) (0, 0) _ (fun wx hwx => (hwx.out.block _ (by simp)).trans (blk_at _ _ _ rfl)) Try.underlying30 rfl hsz.out ?_) | (refine wpQuiet_load_cell rfl 27 _ rfl ⟨w.heap.size, 4, none⟩ rfl (.float .f32 B.sh) _ (fun wx hwx => (BldAt.of_block ((hwx.out.block _ (by simp)).trans (blk_at _ _ _ rfl))).sh) Try.underlying27 rfl ?_) | (refine wpQuiet_step (fun K hK => ?_); go_simp; first | (refine hK _ ?_; clear hK K) | (refine ⟨_, fun _ _ => rfl, hK _ ?_⟩; clear hK K) | (apply Exists.intro; refine ⟨fun wx hwx => ?_, hK _ ?_⟩; (first | (with_reducible exact quiet_below hwx (C1.out _)) | (with_reducible exact quiet_below hwx (C2.out _))); clear hK K)))
  refine wpQuiet_nil ?_
  intro w2 h2
  replace h2 := h2.out
  have B2 := hid (below_trans ((Below.refl _ _).alloc (Nat.le_refl _) _) h2 (by simp))
  have HB := hid ((h2.block w.heap.size (by simp)).trans (blk_at _ _ _ rfl))
  clear h2
  go_wp2_with (first | (refine wpList_load_row rfl 30 _ rfl (w.heap.size) rfl 30 (bcells B) (0, 0) _ HB.out Try.underlying30 rfl hsz.out ?_) | (go_at_call 72; refine (C3.out _).mono ?_; rintro e w3 ⟨rfl, h3⟩))
  go_ret
  exact ⟨rfl, below_trans B2.out h3 B2.out.size⟩
theorem c_l02Pass (B : Bld) (hB : OkB B) (h : Int) (h1 : 1 ≤ h) (h2 : h ≤ 64) (b o : Nat) (w : World) (hA : BldAt w b o B) :
    Calls Try.prog 56 #[.pointer (some ⟨b, o, none⟩), .int .i64 h] w fun e w' => e = .returned (.float .f32 (passW B h)) ∧ Below w.heap.size w w' := by
  have K := pass_fin hB h1 h2
  have r1 := run_mul (T := 27) (blk_fin hB h1 h2).blk.fin hB.sh.fin
  have r2 := run_mul (T := 27) K.bs.fin (open_in hB (h := 1) (by omega) (by omega)).fin
  have r3 : ∀ wx, (binOp .quo 27 (.float .f32 (fmul (fmul (blockedW B h) B.sh) (openW B 1))) (.float .f32 1073741824)).run Try.prog wx = .ok (.float .f32 (bounceW B h)) wx := run_quo K.bo.fin (by decide) fx_W2p
  have r4 : ∀ wx, (binOp .add 27 (.float .f32 (openW B h)) (.float .f32 (bounceW B h))).run Try.prog wx = .ok (.float .f32 (passW B h)) wx := run_add (open_in hB h1 h2).fin K.bn.fin
  have C1 := hid (fun w hA => c_l02Blocked B hB h h1 h2 b o w hA)
  have C2 := hid (fun w hA => c_l02Open B hB 1 (by omega) (by omega) b o w hA)
  have C3 := hid (fun w hA => c_l02Open B hB h h1 h2 b o w hA)
  have A := hid hA
  clear K hB hA
  generalize passW B h = v7 at *
  generalize bounceW B h = v6 at *
  generalize fmul (fmul (blockedW B h) B.sh) (openW B 1) = v5 at *
  generalize fmul (blockedW B h) B.sh = v4 at *
  generalize openW B h = v3 at *
  generalize openW B 1 = v2 at *
  generalize blockedW B h = v1 at *
  go_enter Try.func56, Try.ntmps56
  go_wp2_with (go_at_call 74; refine (C2.out _ A.out).mono ?_; rintro e w1 ⟨rfl, h1⟩)
  have A1 := hid (A.out.below h1)
  have B1 := hid h1
  clear h1
  refine wp_region_below (by kernel_rfl) (by kernel_rfl) ?_
  repeat (first | (refine wpQuiet_load_cell rfl 27 _ rfl ⟨b, o + 4, none⟩ rfl (.float .f32 B.sh) _ (fun wx hwx => (A1.out.below hwx.out).sh) Try.underlying27 rfl ?_) | (refine wpQuiet_step (fun K hK => ?_); go_simp; first | (refine hK _ ?_; clear hK K) | (refine ⟨_, fun _ _ => rfl, hK _ ?_⟩; clear hK K) | (apply Exists.intro; refine ⟨fun wx hwx => ?_, hK _ ?_⟩; (first | (with_reducible exact quiet_below hwx (C1.out _ (A1.out.below hwx.out)))); clear hK K)))
  refine wpQuiet_nil ?_
  intro w2 h2
  replace h2 := h2.out
  have A2 := hid (A1.out.below h2)
  have B2 := hid (below_trans B1.out h2 B1.out.size)
  clear h2
  go_wp2_with (go_at_call 74; refine (C3.out _ A2.out).mono ?_; rintro e w3 ⟨rfl, h3⟩)
  go_ret
  exact ⟨rfl, below_trans B2.out h3 B2.out.size⟩
theorem c_passWindow (B : Bld) (hB : OkB B) (b o k : Nat) (hs ts : List Int) (f : Int) (w : World) (hS : SunAt w b o hs ts) (hk : k < 24) (hh : -64 ≤ iat hs k ∧ iat hs k ≤ 64) (ht : 0 ≤ iat ts k ∧ iat ts k ≤ 255) (hf : 0 ≤ f ∧ f ≤ 255) :
    Calls Try.prog 92 #[.agg (bcells B), .pointer (some ⟨b, o, none⟩), .int .i64 (k : Int), .int .i64 f] w fun e w' => e = .returned (.float .f32 (windowW B hs ts k f)) ∧ Below w.heap.size w w' := by
  have S : Hid (SunAt (w.alloc (.cells (bcells B) 30)) b o hs ts) := hid (hS.below ((Below.refl _ _).alloc (Nat.le_refl _) _))
  have hsz : Hid ((Try.prog.info? 30).map (·.size) = some (bcells B).size) := hid (by kernel_rfl)
  have hki : (k : Int) < 24 := by omega
  have hwr : IntKind.i64.wrap (iat hs k) = iat hs k := by rw [IntWalk.i64_in] <;> omega
  by_cases hz : 0 < iat hs k
  · have F : Hid (windowW B hs ts k f = fmul (fallW hs ts k f) (passW B (iat hs k))) := hid (by unfold windowW; rw [if_neg (by omega)])
    have r1 := run_mul (T := 27) (fall_in hs ts k f).fin (pass_fin hB (h := iat hs k) (by omega) hh.2).all.fin
    have C1 := hid (fun w hS => c_fall b o k hs ts f w hS hk hh ht hf)
    have C2 := hid (fun w => c_pass B hB (iat hs k) (by omega) hh.2 w)
    clear hS hB
    go_enter Try.func92, Try.ntmps92
    go_wp2_with (go_at_call 112; refine (c_isUp true b o k hs ts _ S.out hk (by simpa using hz)).mono ?_; rintro e w' ⟨rfl, rfl⟩)
    refine wp_region_below (by kernel_rfl) (by kernel_rfl) ?_
    repeat (first | (refine wpQuiet_load_row rfl 30 _ rfl (w.heap.size) rfl 30 (bcells B) (0, 0) _ (fun wx hwx => (hwx.out.block _ (by simp)).trans (blk_at _ _ _ rfl)) Try.underlying30 rfl hsz.out ?_) | (refine wpQuiet_load_cell rfl 28 _ rfl ⟨b, o + k, none⟩ rfl (.int .i16 (iat hs k)) _ (fun wx hwx => (S.out.below hwx.out).h k hk) Try.underlying28 rfl ?_) | (refine wpQuiet_step (fun K hK => ?_); go_simp; first | (refine hK _ ?_; clear hK K) | (refine ⟨_, fun _ _ => rfl, hK _ ?_⟩; clear hK K) | (apply Exists.intro; refine ⟨fun wx hwx => ?_, hK _ ?_⟩; (first | (with_reducible exact quiet_below hwx (C1.out _ (S.out.below hwx.out))) | (with_reducible exact quiet_below hwx (C2.out _))); clear hK K)))
    refine wpQuiet_nil ?_
    intro w2 h2
    replace h2 := h2.out
    go_wp2
    go_ret
    exact ⟨ret_float F.out.symm, below_trans ((Below.refl _ _).alloc (Nat.le_refl _) _) h2 (by simp)⟩
  · have F : Hid (windowW B hs ts k f = 0) := hid (by unfold windowW; rw [if_pos (by omega)])
    clear hS hB
    go_enter Try.func92, Try.ntmps92
    go_wp2_with (go_at_call 112; refine (c_isUp false b o k hs ts _ S.out hk (by simpa using hz)).mono ?_; rintro e w' ⟨rfl, rfl⟩)
    go_ret
    exact ⟨ret_float F.out.symm, (Below.refl _ _).alloc (Nat.le_refl _) _⟩
theorem c_l02Window (B : Bld) (hB : OkB B) (c q : Nat) (b o k : Nat) (hs ts : List Int) (f : Int) (w : World) (hA : BldAt w c q B) (hS : SunAt w b o hs ts) (hk : k < 24) (hh : -64 ≤ iat hs k ∧ iat hs k ≤ 64) (ht : 0 ≤ iat ts k ∧ iat ts k ≤ 255) (hf : 0 ≤ f ∧ f ≤ 255) :
    Calls Try.prog 111 #[.pointer (some ⟨c, q, none⟩), .pointer (some ⟨b, o, none⟩), .int .i64 (k : Int), .int .i64 f] w fun e w' => e = .returned (.float .f32 (windowW B hs ts k f)) ∧ Below w.heap.size w w' := by
  have S := hid hS
  have A := hid hA
  have q1 := hS.h k hk
  have hki : (k : Int) < 24 := by omega
  have hwr : IntKind.i64.wrap (iat hs k) = iat hs k := by rw [IntWalk.i64_in] <;> omega
  by_cases hz : iat hs k ≤ 0
  · have F : Hid (windowW B hs ts k f = 0) := hid (by unfold windowW; rw [if_pos hz])
    clear hS hA hB
    go_enter Try.func111, Try.ntmps111
    go_wp2
    go_ret
    exact ⟨ret_float F.out.symm, Below.refl _ _⟩
  · have F : Hid (windowW B hs ts k f = fmul (fallW hs ts k f) (passW B (iat hs k))) := hid (by unfold windowW; rw [if_neg hz])
    have r1 := run_mul (T := 27) (fall_in hs ts k f).fin (pass_fin hB (h := iat hs k) (by omega) hh.2).all.fin
    have C1 := hid (fun w hS => c_l01Fall b o k hs ts f w hS hk hh ht hf)
    have C2 := hid (fun w hA => c_l02Pass B hB (iat hs k) (by omega) hh.2 c q w hA)
    clear hS hA hB
    go_enter Try.func111, Try.ntmps111
    go_wp2
    refine wp_region_below (by kernel_rfl) (by kernel_rfl) ?_
    repeat (first | (refine wpQuiet_load_cell rfl 28 _ rfl ⟨b, o + k, none⟩ rfl (.int .i16 (iat hs k)) _ (fun wx hwx => (S.out.below hwx.out).h k hk) Try.underlying28 rfl ?_) | (refine wpQuiet_step (fun K hK => ?_); go_simp; first | (refine hK _ ?_; clear hK K) | (refine ⟨_, fun _ _ => rfl, hK _ ?_⟩; clear hK K) | (apply Exists.intro; refine ⟨fun wx hwx => ?_, hK _ ?_⟩; (first | (with_reducible exact quiet_below hwx (C1.out _ (S.out.below hwx.out))) | (with_reducible exact quiet_below hwx (C2.out _ (A.out.below hwx.out)))); clear hK K)))
    refine wpQuiet_nil ?_
    intro w2 h2
    replace h2 := h2.out
    go_wp2
    go_ret
    exact ⟨ret_float F.out.symm, h2⟩
end Go.Proofs.Ytboddpifepegcaa
