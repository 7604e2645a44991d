/- FnExactReadPlan returns true for all arguments: for each text of at most 1048576 bytes the program's ReadPlan and the reference's return the same plan and the same code. No condition. A tied card: the tables and errors that the library reads lie as the program's text lays them. -/
import Derived.Test.YtdcjoafagalejaaDoorRPlanS
import Derived.Test.YtdcjoafagalejaaDoorPinned
import Derived.Test.YtdcjoafagalejaaDoorCards
import Derived.Test.YtdcjoafagalejaaDoorTie
import Derived.ChangeMaps5
namespace Go.Proofs.YtdcjoafagalejaaDoor.lawReadPlan
set_option maxRecDepth 20000
open Go.ChangeMaps Go.ChangeShapes Go.WideShapes Go.ChangeAt Go.RowKit Go.Proofs.YtdcjoafagalejaaDoor

theorem same {s : List UInt8} {e1 e2 : Ending} (h1 : PlRet s e1) (h2 : PlRet s e2) : e2 = e1 := by
  rcases h1 with ⟨X, hx, rfl⟩ | ⟨hn, rfl⟩
  · rcases h2 with ⟨Y, hy, rfl⟩ | ⟨hn, rfl⟩
    · rw [isPl_one hx hy]
    · exact absurd hx (hn X)
  · rcases h2 with ⟨Y, hy, rfl⟩ | ⟨_, rfl⟩
    · exact absurd hy (hn Y)
    · rfl
theorem form {s : List UInt8} {e : Ending} (h : PlRet s e) : ∃ (p : List Int) (c : Int), p.length = 24 ∧ e = .returned (.tuple #[.agg (i16s p), .int .i64 c]) := by
  rcases h with ⟨X, hx, rfl⟩ | ⟨_, rfl⟩
  · exact ⟨X, _, hx.1, rfl⟩
  · exact ⟨pad [], _, pad_len (by simp [ex]), by rw [zP_pad]⟩
theorem c_eqPlan (p : List Int) (lp : p.length = 24) (w : World) :
    Calls Tryd.prog 32 #[.agg (i16s p), .agg (i16s p)] w fun e w' => e = .returned (.bool true) ∧ Below w.heap.size w w' := by
  have H0 : Hid (Below w.heap.size w ((w.alloc (.cells (i16s p) 25)).alloc (.cells (i16s p) 25))) := hid (((Below.refl _ _).alloc (Nat.le_refl _) _).alloc (by simp) _)
  have hb1 : ((w.alloc (.cells (i16s p) 25)).alloc (.cells (i16s p) 25)).heap[w.heap.size]? = some (.cells (i16s p) 25 (0, 0)) := (blk_past _ _ _ (by simp)).trans (blk_at _ _ _ rfl)
  have hb2 : ((w.alloc (.cells (i16s p) 25)).alloc (.cells (i16s p) 25)).heap[w.heap.size + 1]? = some (.cells (i16s p) 25 (0, 0)) := blk_at _ _ _ (by simp)
  have X1 := hid (fun k (hk : k < 24) => (cell_of_row _ _ k _ _ _ hb1).trans (i16s_at lp hk))
  have X2 := hid (fun k (hk : k < 24) => (cell_of_row _ _ k _ _ _ hb2).trans (i16s_at lp hk))
  clear hb1 hb2 lp
  go_enter Tryd.func32, Tryd.ntmps32
  go_wp2
  go_loopw [5] (fun i wr => ∃ k : Nat, k ≤ 24 ∧ i = .int .i64 k ∧ Below ((w.alloc (.cells (i16s p) 25)).alloc (.cells (i16s p) 25)).heap.size ((w.alloc (.cells (i16s p) 25)).alloc (.cells (i16s p) 25)) wr) (fun i _ => 24 - (intOf i).toNat)
  case atStart => exact ⟨0, by omega, rfl, Below.refl _ _⟩
  case round =>
    obtain ⟨k, hk, rfl, hbel⟩ := hrel
    have Hbel := hid hbel
    clear hbel
    by_cases hlt : k < 24
    · have h1 := cell_stays Hbel.out (X1.out k hlt)
      have h2 := cell_stays Hbel.out (X2.out k hlt)
      have h3 : (iat p k != iat p k) = false := by simp
      go_wp2_with fail
      refine wp_region_below (by kernel_rfl) (by kernel_rfl) ?_
      repeat (first | (refine wpQuiet_load_cell rfl 22 _ rfl ⟨w.heap.size, k, none⟩ rfl (.int .i16 (iat p k)) _ (fun wx hwx => cell_stays hwx.out h1) Tryd.underlying22 rfl ?_) | (refine wpQuiet_load_cell rfl 22 _ rfl ⟨w.heap.size + 1, k, none⟩ rfl (.int .i16 (iat p k)) _ (fun wx hwx => cell_stays hwx.out h2) Tryd.underlying22 rfl ?_) | (refine wpQuiet_step (fun K hK => ?_); go_simp; first | (refine hK _ ?_; clear hK K) | (refine ⟨_, fun _ _ => rfl, hK _ ?_⟩; clear hK K)))
      refine wpQuiet_nil ?_
      intro w2 h2b
      replace h2b := h2b.out
      go_wp2
      all_goals (refine ⟨⟨k + 1, by omega, by go_num, below_trans Hbel.out h2b Hbel.out.size⟩, by simp [intOf]; omega⟩)
    · obtain rfl : k = 24 := by omega
      go_wp2
      go_ret
      exact ⟨rfl, below_trans H0.out Hbel.out H0.out.size⟩
set_option maxHeartbeats 1000000 in
theorem walk (a0 : List UInt8) (w : World) (hL : laidMetH Tryd.prog Rows.fnExactReadPlanRow.laid w) (hS : w.ShapedOpen Tryd.prog) :
    Calls Tryd.prog 9 #[txt a0] w fun e w' => e = .returned (.bool true) ∧ Below w.heap.size w w' := by
  rw [MakeChecks.laidMetH_plain _ _ _ (by kernel_rfl)] at hL
  have T0 := hid (tab_of hL)
  have E0 := hid (errs_of hL)
  have M0 := hid (maxl_of hS)
  clear hL hS
  by_cases hs : a0.length ≤ 1048576
  · have CS := hid (fun w => c_specReadPlan a0 hs w)
    have CI := hid (fun w hM hT hE => c_implReadPlan a0 hs w hM hT hE)
    have SM := hid (fun e1 e2 => same (s := a0) (e1 := e1) (e2 := e2))
    have hs' : ¬ (1048576 : Int) < a0.length := by omega
    clear hs
    go_enter Tryd.func9, Tryd.ntmps9
    go_wp2_with fail
    refine (CS.out _).mono ?_
    rintro e1 w1 ⟨r1, h1⟩
    have D1 := hid h1
    obtain ⟨p, c, lp, rfl⟩ := form r1
    have R1 := hid r1
    have CE := hid (fun w => c_eqPlan p lp w)
    have SP : Hid ((i16s p).size = 24) := hid (by simp [i16s, lp])
    have ZI : Hid ((Tryd.prog.info? 25).map (·.size) = some (i16s p).size) := hid (by rw [SP.out]; kernel_rfl)
    have SE : Hid (zP.size = (i16s p).size) := hid (by rw [SP.out]; rfl)
    have HA : Hid ((w1.alloc (.cells zP 25)).heap[w1.heap.size]? = some (.cells zP 25 (0, 0))) := hid (blk_at _ _ _ rfl)
    have D2 : Hid (Below w.heap.size w ((w1.alloc (.cells zP 25)).setRow w1.heap.size (i16s p))) := hid (below_setRow (D1.out.alloc D1.out.size _) D1.out.size _)
    have HB1 : Hid (((w1.alloc (.cells zP 25)).setRow w1.heap.size (i16s p)).heap[w1.heap.size]? = some (.cells (i16s p) 25 (0, 0))) := hid (blk_row_same _ _ _ _ _ _ HA.out)
    clear h1 r1 lp
    go_wp2_with (refine wpList_store_row rfl 25 _ _ rfl (w1.heap.size) (i16s p) rfl rfl 25 zP HA.out ZI.out SE.out (i16s_all _) ?_)
    refine (CI.out _ (M0.out.below D2.out) (T0.out.below D2.out) (E0.out.below D2.out)).mono ?_
    rintro e2 w2 ⟨r2, h2⟩
    obtain rfl := SM.out _ _ R1.out r2
    have D3 := hid (below_trans D2.out h2 D2.out.size)
    have HB2 := hid ((h2.block _ (block_lt HB1.out)).trans HB1.out)
    clear h2 r2
    have LT2 := hid (block_lt HB2.out)
    have HA2 : Hid ((w2.alloc (.cells zP 25)).heap[w2.heap.size]? = some (.cells zP 25 (0, 0))) := hid (blk_at _ _ _ rfl)
    have D4 : Hid (Below w.heap.size w ((w2.alloc (.cells zP 25)).setRow w2.heap.size (i16s p))) := hid (below_setRow (D3.out.alloc D3.out.size _) D3.out.size _)
    have HC1 : Hid (((w2.alloc (.cells zP 25)).setRow w2.heap.size (i16s p)).heap[w1.heap.size]? = some (.cells (i16s p) 25 (0, 0))) := hid ((setRow_other _ _ _ _ (by have := LT2.out; omega)).trans ((blk_past _ _ _ LT2.out).trans HB2.out))
    have HC2 : Hid (((w2.alloc (.cells zP 25)).setRow w2.heap.size (i16s p)).heap[w2.heap.size]? = some (.cells (i16s p) 25 (0, 0))) := hid (blk_row_same _ _ _ _ _ _ HA2.out)
    go_wp2_with (first | (refine wpList_store_row rfl 25 _ _ rfl (w2.heap.size) (i16s p) rfl rfl 25 zP HA2.out ZI.out SE.out (i16s_all _) ?_) | (refine wpList_load_row rfl 25 _ rfl (w2.heap.size) rfl 25 (i16s p) (0, 0) _ HC2.out Tryd.underlying25 rfl ZI.out ?_) | (refine wpList_load_row rfl 25 _ rfl (w1.heap.size) rfl 25 (i16s p) (0, 0) _ HC1.out Tryd.underlying25 rfl ZI.out ?_) | (go_at_call 32; refine (CE.out _).mono ?_; rintro e3 w3 ⟨rfl, h3⟩; have D5 := hid (below_trans D4.out h3 D4.out.size); clear h3))
    go_ret
    exact ⟨rfl, D5.out⟩
  · have hs' : (1048576 : Int) < a0.length := by omega
    go_enter Tryd.func9, Tryd.ntmps9
    go_wp2
    go_ret
    exact ⟨rfl, Below.refl _ _⟩

set_option maxRecDepth 100000 in
set_option maxRecDepth 100000 in
theorem lifted (os : Os) (started : os.Started) (H : Type) (enc : TypeId × Value → H) :
    ReturnsInHanded {} Tryd.checked os 9 .any (fun w args => (Rows.fnExactReadPlanSpec.pre enc Tryd.prog Tryd.f9 [] false w args ∧ laidMetH Tryd.prog Rows.fnExactReadPlanRow.laid w) ∧ sizedMet enc Tryd.prog Tryd.f9 (OpenSpec.ofChange Rows.fnExactReadPlanSpec) false w args) (Rows.fnExactReadPlanSpec.post enc Tryd.prog Tryd.f9 false true false false) := by
  refine handed_both (C := Tryd.checked) (X := fun w _ => laidMetH Tryd.prog Rows.fnExactReadPlanRow.laid w) (fun _ _ _ hh h => h.of_heap hh) own started (by kernel_rfl) Tryd.func9
    (ChangeSpec.witness_shaped (enc := enc) (C := Tryd.checked) (os := os) (X := fun w _ => laidMetH Tryd.prog Rows.fnExactReadPlanRow.laid w) false (World.laidAll Tryd.prog os Rows.fnExactReadPlanRow.laid) #[.string ByteArray.empty] 8 (World.laidAll_os _ _ _)
      (World.shaped_of_ZipB (by kernel_rfl) (by kernel_rfl)) (by kernel_rfl) (by kernel_rfl) (by kernel_rfl)
      (by rw [MakeChecks.laidMetH_plain _ _ _ (by kernel_rfl)]; exact laidMet_laidAll _ (by kernel_rfl) (by kernel_rfl))) ?_
  intro W base args ds gs before hval0 hW hL hS
  have hval : ∀ (j : Nat) t v, Tryd.f9.params[j]? = some t → args[j]? = some v → Value.okWide Tryd.prog W .any base t v := hval0
  have hW' := hW
  obtain ⟨p, q, hA0, hV, rfl, hfz, hnd⟩ := hW
  have hA : DataW.TrodAll enc Tryd.prog W 0 (fun _ => true) true Tryd.f9.params.toList args.toList ds p := hA0
  rw [Tryd.params9] at hA hval
  obtain ⟨v0, vs0, d0, ds0, p0, q0, hargs, rfl, rfl, h0, r0⟩ := trodAll_cons hA
  obtain ⟨rfl, rfl, rfl⟩ := trodAll_nil r0
  obtain rfl : args = #[v0] := by cases args; simp_all
  obtain ⟨rfl, rfl⟩ := trodVars_none hV
  have k0 := h0
  have lt0 : ∀ x ∈ p0, x.block < W.heap.size := by obtain ⟨m, hm⟩ := k0; exact DataW.trod_lt m _ _ _ hm
  obtain ⟨y0, rfl, _, _, _⟩ := open_string Tryd.underlying9 (hval 0 9 v0 rfl rfl) h0
  obtain ⟨⟨s0⟩⟩ := y0
  clear hA0 hval0
  refine (walk s0 W  hL hS).mono fun e W' ⟨he, bel⟩ => ?_
  subst he
  exact ⟨_, rfl, _, _, _, [], _, [], hW', trodAll_mk1 (shut_bool Tryd.underlying4 _), (trodAll_cons_mk (Below.trod laidOut (by kernel_rfl) (of_decide_eq_true (by kernel_rfl)) k0 bel lt0) trodAll_mk0), rfl, bel.frame _, fun h => by cases h⟩

theorem row_holds : Rows.FnExactReadPlanSaid :=
  OpenClaim.holds_of_wide 9 Tryd.f9 rfl rfl rfl rfl rfl rfl rfl ⟨rfl, rfl, rfl, rfl, rfl⟩ rfl rfl rfl rfl rfl (by kernel_rfl) Tryd.func9 (by kernel_rfl)
    (of_decide_eq_true (by kernel_rfl)) (by unfold Func.isWrapper; first | (rw [if_pos (by decide +kernel)]; kernel_rfl) | (rw [if_neg (by decide +kernel)]; exact ⟨rfl, rfl⟩))
    (fun os started H enc _ => lifted os started H enc)

theorem proved : Rows.FnExactReadPlanCardSaid :=
  Claim7.holds_tied_plain_at .later [] [.data, .data, .data, .data, .sentinel, .sentinel, .pinned] true Rows.fnExactReadPlanCard.stood.harness true
    row_holds (fun _ h => by cases h) (by kernel_rfl) (fun _ h => by cases h) fnExactReadPlan_row_tie rfl ⟨rfl, rfl⟩ (by kernel_rfl) rfl
    (fun f fn hf hfn => by
      obtain rfl : f = 9 := Option.some.inj ((show Tryd.prog.funcNamed "loop.example/g01367/laws.FnExactReadPlan" = some 9 by kernel_rfl).symm.trans hf) |>.symm
      obtain rfl : fn = Tryd.f9 := (Option.some.inj (Tryd.func9.symm.trans hfn)).symm
      exact ⟨by kernel_rfl, fun j t ht => by
        rw [Tryd.params9] at ht
        have hm : t ∈ [9] := by simpa using Array.mem_of_getElem? ht
        have hall : ([9].all fun u => !Tryd.prog.wantsStandIn u) = true := by kernel_rfl
        exact (show Tryd.prog.wantsStandIn t = false by simpa using List.all_eq_true.1 hall t hm)⟩)
    (by kernel_rfl)
#print axioms proved
end Go.Proofs.YtdcjoafagalejaaDoor.lawReadPlan
