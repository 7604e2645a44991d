/- FnExactReadControl returns true for all arguments: for each text of at most 1048576 bytes the program's ReadControl and the reference's return the same control and the same code. No condition. A tied card: the tables and errors that the library reads lie as the program's text lays them. -/
import Derived.Test.YtdcjoafagalejaaDoorRCtl
import Derived.Test.YtdcjoafagalejaaDoorPinned
import Derived.Test.YtdcjoafagalejaaDoorEq
import Derived.Test.YtdcjoafagalejaaDoorCards
import Derived.Test.YtdcjoafagalejaaDoorTie
import Derived.ChangeMaps5
namespace Go.Proofs.YtdcjoafagalejaaDoor.lawReadControl
set_option maxRecDepth 20000
open Go.ChangeMaps Go.ChangeShapes Go.WideShapes Go.ChangeAt Go.RowKit Go.Proofs.YtdcjoafagalejaaDoor

theorem same {s : List UInt8} {e1 e2 : Ending} (h1 : CtRet s e1) (h2 : CtRet s e2) : e2 = e1 := by
  rcases h1 with ⟨X, hx, rfl⟩ | ⟨hn, rfl⟩
  · rcases h2 with ⟨Y, hy, rfl⟩ | ⟨hn, rfl⟩
    · rw [isCt_one hx hy]
    · exact absurd hx (hn X)
  · rcases h2 with ⟨Y, hy, rfl⟩ | ⟨_, rfl⟩
    · exact absurd hy (hn Y)
    · rfl
theorem form {s : List UInt8} {e : Ending} (h : CtRet s e) : ∃ (a b c : Nat) (x y z d : Int), (isFin a = true ∧ isFin b = true ∧ isFin c = true) ∧ e = .returned (.tuple #[.agg #[.float .f32 a, .float .f32 b, .float .f32 c, .int .i8 x, .int .i8 y, .int .i8 z], .int .i64 d]) := by
  rcases h with ⟨X, hx, rfl⟩ | ⟨_, rfl⟩
  · have ok := hx.ok
    simp only [okC, Bool.and_eq_true] at ok
    exact ⟨_, _, _, _, _, _, _, ⟨(part_in hx.lo.1 ok.1).fin, (part_in hx.hi.1 ok.2.1).fin, (part_in hx.wi.1 ok.2.2.1).fin⟩, rfl⟩
  · exact ⟨_, _, _, _, _, _, _, ⟨by decide, by decide, by decide⟩, rfl⟩
theorem fin_word {x : Nat} (h : isFin x = true) : isWord x = true := by simp [isWord, h]
set_option maxHeartbeats 1000000 in
theorem c_eqControl (a b c : Nat) (x y z : Int) (ha : isFin a = true) (hb : isFin b = true) (hc : isFin c = true) (w : World) :
    Calls Tryd.prog 29 #[.agg #[.float .f32 a, .float .f32 b, .float .f32 c, .int .i8 x, .int .i8 y, .int .i8 z], .agg #[.float .f32 a, .float .f32 b, .float .f32 c, .int .i8 x, .int .i8 y, .int .i8 z]] w fun e w' => e = .returned (.bool true) ∧ Below w.heap.size w w' := by
  obtain ⟨w2, hw2⟩ : ∃ w2, w2 = (w.alloc (.cells #[.float .f32 a, .float .f32 b, .float .f32 c, .int .i8 x, .int .i8 y, .int .i8 z] 42)).alloc (.cells #[.float .f32 a, .float .f32 b, .float .f32 c, .int .i8 x, .int .i8 y, .int .i8 z] 42) := ⟨_, rfl⟩
  have W2 := hid hw2
  have H0 : Hid (Below w.heap.size w w2) := hid (by rw [hw2]; exact ((Below.refl _ _).alloc (Nat.le_refl _) _).alloc (by simp) _)
  have HA : w2.heap[w.heap.size]? = some (.cells #[.float .f32 a, .float .f32 b, .float .f32 c, .int .i8 x, .int .i8 y, .int .i8 z] 42 (0, 0)) := by rw [hw2]; exact (blk_past _ _ _ (by simp)).trans (blk_at _ _ _ rfl)
  have HB : w2.heap[w.heap.size + 1]? = some (.cells #[.float .f32 a, .float .f32 b, .float .f32 c, .int .i8 x, .int .i8 y, .int .i8 z] 42 (0, 0)) := by rw [hw2]; exact blk_at _ _ _ (by simp)
  have a0 : w2.cell? ⟨w.heap.size, 0, none⟩ = some (.float .f32 a) := cell_of_row _ _ 0 _ _ _ HA
  have a1 : w2.cell? ⟨w.heap.size, 1, none⟩ = some (.float .f32 b) := cell_of_row _ _ 1 _ _ _ HA
  have a2 : w2.cell? ⟨w.heap.size, 2, none⟩ = some (.float .f32 c) := cell_of_row _ _ 2 _ _ _ HA
  have a3 : w2.cell? ⟨w.heap.size, 3, none⟩ = some (.int .i8 x) := cell_of_row _ _ 3 _ _ _ HA
  have a4 : w2.cell? ⟨w.heap.size, 4, none⟩ = some (.int .i8 y) := cell_of_row _ _ 4 _ _ _ HA
  have a5 : w2.cell? ⟨w.heap.size, 5, none⟩ = some (.int .i8 z) := cell_of_row _ _ 5 _ _ _ HA
  have b0 : w2.cell? ⟨w.heap.size + 1, 0, none⟩ = some (.float .f32 a) := cell_of_row _ _ 0 _ _ _ HB
  have b1 : w2.cell? ⟨w.heap.size + 1, 1, none⟩ = some (.float .f32 b) := cell_of_row _ _ 1 _ _ _ HB
  have b2 : w2.cell? ⟨w.heap.size + 1, 2, none⟩ = some (.float .f32 c) := cell_of_row _ _ 2 _ _ _ HB
  have b3 : w2.cell? ⟨w.heap.size + 1, 3, none⟩ = some (.int .i8 x) := cell_of_row _ _ 3 _ _ _ HB
  have b4 : w2.cell? ⟨w.heap.size + 1, 4, none⟩ = some (.int .i8 y) := cell_of_row _ _ 4 _ _ _ HB
  have b5 : w2.cell? ⟨w.heap.size + 1, 5, none⟩ = some (.int .i8 z) := cell_of_row _ _ 5 _ _ _ HB
  have c0 := run_conv_word (fin_word ha)
  have c1 := run_conv_word (fin_word hb)
  have c2 := run_conv_word (fin_word hc)
  have S : ∀ v, isFin v = true → ∀ w, Calls Tryd.prog 42 #[.float .f64 (toD v), .float .f64 (toD v)] w fun e w' => e = .returned (.bool true) ∧ w = w' := fun v hv w => by
    have := c_sameFloat (toD v) (toD v) (finDZero hv) (finDZero hv) w
    rw [same64_self hv] at this; exact this
  have S0 := hid (S a ha)
  have S1 := hid (S b hb)
  have S2 := hid (S c hc)
  clear hw2 HA HB S ha hb hc
  generalize toD a = da at *
  generalize toD b = db at *
  generalize toD c = dc at *
  go_enter Tryd.func29, Tryd.ntmps29
  go_wp2_with (first | (rw [← W2.out]) | (go_at_call 42; with_reducible refine (S0.out _).mono ?_; rintro e w' ⟨rfl, rfl⟩) | (go_at_call 42; with_reducible refine (S1.out _).mono ?_; rintro e w' ⟨rfl, rfl⟩) | (go_at_call 42; with_reducible refine (S2.out _).mono ?_; rintro e w' ⟨rfl, rfl⟩))
  go_ret
  exact ⟨rfl, H0.out⟩
theorem d64_of {x : String × DataW Unit} {rest : List (String × DataW Unit)} {w : World} (h : laidMet Tryd.prog (x :: ("math/bits.deBruijn64tab", Rows.laid_math_bits_deBruijn64tab) :: rest) w) : D64 w := by
  have e : (Rows.laid_math_bits_deBruijn64tab : DataW Unit) = Lib.tabData .u8 [0, 1, 56, 2, 57, 49, 28, 3, 61, 58, 42, 50, 38, 29, 17, 4, 62, 47, 59, 36, 45, 43, 51, 22, 53, 39, 33, 30, 24, 18, 12, 5, 63, 55, 48, 27, 60, 41, 37, 16, 46, 35, 44, 21, 52, 32, 23, 11, 54, 26, 40, 15, 34, 20, 31, 10, 25, 14, 19, 9, 13, 8, 7, 6] := by kernel_rfl
  have h2 := laidMet.tail h
  rw [e] at h2
  have t := Lib.tabIs_of_head (g := (Tryd.prog.globalNamed "math/bits.deBruijn64tab").getD 0) (t := 163) (e := 5) (n := 64) (by kernel_rfl) (by kernel_rfl) (by kernel_rfl) (by kernel_rfl) (by kernel_rfl) (by kernel_rfl) h2
  exact ⟨_, t, rfl⟩
set_option maxHeartbeats 1000000 in
theorem walk (a0 : List UInt8) (w : World) (hL : laidMetH Tryd.prog Rows.fnExactReadControlRow.laid w) (hS : w.ShapedOpen Tryd.prog) :
    Calls Tryd.prog 8 #[txt a0] w fun e w' => e = .returned (.bool true) ∧ Below w.heap.size w w' := by
  rw [MakeChecks.laidMetH_plain _ _ _ (by kernel_rfl)] at hL
  have T0 := hid (tab_of hL)
  have E0 := hid (errs_of hL)
  have G0 := hid (d64_of hL)
  have M0 := hid (maxl_of hS)
  clear hL hS
  by_cases hs : a0.length ≤ 1048576
  · have CS := hid (fun w => c_specReadControl a0 hs w)
    have CI := hid (fun w hM hT hE hD => c_implReadControl a0 hs w hM hT hE hD)
    have SM := hid (fun e1 e2 => same (s := a0) (e1 := e1) (e2 := e2))
    have hs' : ¬ (1048576 : Int) < a0.length := by omega
    clear hs
    go_enter Tryd.func8, Tryd.ntmps8
    go_wp2_with fail
    refine (CS.out _).mono ?_
    rintro e1 w1 ⟨r1, h1⟩
    have D1 := hid h1
    obtain ⟨a, b, cc, x, y, z, c, ⟨fa, fb, fc⟩, rfl⟩ := form r1
    have R1 := hid r1
    have CE := hid (fun w => c_eqControl a b cc x y z fa fb fc w)
    have D2 : Hid (Below w.heap.size w (w1.alloc (.cells #[.float .f32 a, .float .f32 b, .float .f32 cc, .int .i8 x, .int .i8 y, .int .i8 z] 42))) := hid (D1.out.alloc D1.out.size _)
    have HB1 : Hid ((w1.alloc (.cells #[.float .f32 a, .float .f32 b, .float .f32 cc, .int .i8 x, .int .i8 y, .int .i8 z] 42)).heap[w1.heap.size]? = some (.cells #[.float .f32 a, .float .f32 b, .float .f32 cc, .int .i8 x, .int .i8 y, .int .i8 z] 42 (0, 0))) := hid (blk_at _ _ _ rfl)
    clear h1 r1 fa fb fc
    go_wp2_with fail
    refine (CI.out _ (M0.out.below D2.out) (T0.out.below D2.out) (E0.out.below D2.out) (G0.out.below D2.out)).mono ?_
    rintro e2 w2 ⟨r2, h2⟩
    obtain rfl := SM.out _ _ R1.out r2
    have D3 := hid (below_trans D2.out h2 D2.out.size)
    have HB2 := hid ((h2.block _ (block_lt HB1.out)).trans HB1.out)
    clear h2 r2
    have b0 : w2.cell? ⟨w1.heap.size, 0, none⟩ = some (.float .f32 a) := cell_of_row _ _ 0 _ _ _ HB2.out
    have b1 : w2.cell? ⟨w1.heap.size, 1, none⟩ = some (.float .f32 b) := cell_of_row _ _ 1 _ _ _ HB2.out
    have b2 : w2.cell? ⟨w1.heap.size, 2, none⟩ = some (.float .f32 cc) := cell_of_row _ _ 2 _ _ _ HB2.out
    have b3 : w2.cell? ⟨w1.heap.size, 3, none⟩ = some (.int .i8 x) := cell_of_row _ _ 3 _ _ _ HB2.out
    have b4 : w2.cell? ⟨w1.heap.size, 4, none⟩ = some (.int .i8 y) := cell_of_row _ _ 4 _ _ _ HB2.out
    have b5 : w2.cell? ⟨w1.heap.size, 5, none⟩ = some (.int .i8 z) := cell_of_row _ _ 5 _ _ _ HB2.out
    have LT2 := block_lt HB2.out
    have D4 : Hid (Below w.heap.size w (w2.alloc (.cells #[.float .f32 a, .float .f32 b, .float .f32 cc, .int .i8 x, .int .i8 y, .int .i8 z] 42))) := hid (D3.out.alloc D3.out.size _)
    go_wp2_with (go_at_call 29; refine (CE.out _).mono ?_; rintro e3 w3 ⟨rfl, h3⟩; have D5 := hid (below_trans D4.out h3 D4.out.size); clear h3)
    go_ret
    exact ⟨rfl, D5.out⟩
  · have hs' : (1048576 : Int) < a0.length := by omega
    go_enter Tryd.func8, Tryd.ntmps8
    go_wp2
    go_ret
    exact ⟨rfl, Below.refl _ _⟩

set_option maxRecDepth 100000 in
set_option maxRecDepth 100000 in
theorem lifted (os : Os) (started : os.Started) (H : Type) (enc : TypeId × Value → H) :
    ReturnsInHanded {} Tryd.checked os 8 .any (fun w args => (Rows.fnExactReadControlSpec.pre enc Tryd.prog Tryd.f8 [] false w args ∧ laidMetH Tryd.prog Rows.fnExactReadControlRow.laid w) ∧ sizedMet enc Tryd.prog Tryd.f8 (OpenSpec.ofChange Rows.fnExactReadControlSpec) false w args) (Rows.fnExactReadControlSpec.post enc Tryd.prog Tryd.f8 false true false false) := by
  refine handed_both (C := Tryd.checked) (X := fun w _ => laidMetH Tryd.prog Rows.fnExactReadControlRow.laid w) (fun _ _ _ hh h => h.of_heap hh) own started (by kernel_rfl) Tryd.func8
    (ChangeSpec.witness_shaped (enc := enc) (C := Tryd.checked) (os := os) (X := fun w _ => laidMetH Tryd.prog Rows.fnExactReadControlRow.laid w) false (World.laidAll Tryd.prog os Rows.fnExactReadControlRow.laid) #[.string ByteArray.empty] 8 (World.laidAll_os _ _ _)
      (World.shaped_of_ZipB (by kernel_rfl) (by kernel_rfl)) (by kernel_rfl) (by kernel_rfl) (by kernel_rfl)
      (by rw [MakeChecks.laidMetH_plain _ _ _ (by kernel_rfl)]; exact laidMet_laidAll _ (by kernel_rfl) (by kernel_rfl))) ?_
  intro W base args ds gs before hval0 hW hL hS
  have hval : ∀ (j : Nat) t v, Tryd.f8.params[j]? = some t → args[j]? = some v → Value.okWide Tryd.prog W .any base t v := hval0
  have hW' := hW
  obtain ⟨p, q, hA0, hV, rfl, hfz, hnd⟩ := hW
  have hA : DataW.TrodAll enc Tryd.prog W 0 (fun _ => true) true Tryd.f8.params.toList args.toList ds p := hA0
  rw [Tryd.params8] at hA hval
  obtain ⟨v0, vs0, d0, ds0, p0, q0, hargs, rfl, rfl, h0, r0⟩ := trodAll_cons hA
  obtain ⟨rfl, rfl, rfl⟩ := trodAll_nil r0
  obtain rfl : args = #[v0] := by cases args; simp_all
  obtain ⟨rfl, rfl⟩ := trodVars_none hV
  have k0 := h0
  have lt0 : ∀ x ∈ p0, x.block < W.heap.size := by obtain ⟨m, hm⟩ := k0; exact DataW.trod_lt m _ _ _ hm
  obtain ⟨y0, rfl, _, _, _⟩ := open_string Tryd.underlying9 (hval 0 9 v0 rfl rfl) h0
  obtain ⟨⟨s0⟩⟩ := y0
  clear hA0 hval0
  refine (walk s0 W  hL hS).mono fun e W' ⟨he, bel⟩ => ?_
  subst he
  exact ⟨_, rfl, _, _, _, [], _, [], hW', trodAll_mk1 (shut_bool Tryd.underlying4 _), (trodAll_cons_mk (Below.trod laidOut (by kernel_rfl) (of_decide_eq_true (by kernel_rfl)) k0 bel lt0) trodAll_mk0), rfl, bel.frame _, fun h => by cases h⟩

theorem row_holds : Rows.FnExactReadControlSaid :=
  OpenClaim.holds_of_wide 8 Tryd.f8 rfl rfl rfl rfl rfl rfl rfl ⟨rfl, rfl, rfl, rfl, rfl⟩ rfl rfl rfl rfl rfl (by kernel_rfl) Tryd.func8 (by kernel_rfl)
    (of_decide_eq_true (by kernel_rfl)) (by unfold Func.isWrapper; first | (rw [if_pos (by decide +kernel)]; kernel_rfl) | (rw [if_neg (by decide +kernel)]; exact ⟨rfl, rfl⟩))
    (fun os started H enc _ => lifted os started H enc)

theorem proved : Rows.FnExactReadControlCardSaid :=
  Claim7.holds_tied_plain_at .later [] [.data, .data, .data, .data, .sentinel, .sentinel, .pinned] true Rows.fnExactReadControlCard.stood.harness true
    row_holds (fun _ h => by cases h) (by kernel_rfl) (fun _ h => by cases h) fnExactReadControl_row_tie rfl ⟨rfl, rfl⟩ (by kernel_rfl) rfl
    (fun f fn hf hfn => by
      obtain rfl : f = 8 := Option.some.inj ((show Tryd.prog.funcNamed "loop.example/g01367/laws.FnExactReadControl" = some 8 by kernel_rfl).symm.trans hf) |>.symm
      obtain rfl : fn = Tryd.f8 := (Option.some.inj (Tryd.func8.symm.trans hfn)).symm
      exact ⟨by kernel_rfl, fun j t ht => by
        rw [Tryd.params8] at ht
        have hm : t ∈ [9] := by simpa using Array.mem_of_getElem? ht
        have hall : ([9].all fun u => !Tryd.prog.wantsStandIn u) = true := by kernel_rfl
        exact (show Tryd.prog.wantsStandIn t = false by simpa using List.all_eq_true.1 hall t hm)⟩)
    (by kernel_rfl)
#print axioms proved
end Go.Proofs.YtdcjoafagalejaaDoor.lawReadControl
