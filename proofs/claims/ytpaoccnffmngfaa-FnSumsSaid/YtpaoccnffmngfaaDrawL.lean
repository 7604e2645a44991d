/- Lists of plain numbers drawn. -/
import Derived.Test.YtpaoccnffmngfaaDraw
import Derived.Test.YtpaoccnffmngfaaMarks
namespace Go.Proofs.Ytpaoccnffmngfaa
set_option maxRecDepth 20000
open Go.RowKit

theorem Only.alloc {b : Nat} {w w' : World} (h : Only b w w') (o : Obj) : Only b w (w'.alloc o) :=
  ⟨h.os, h.tape, h.output, Nat.le_trans h.size (by simp), fun k hk hn => (blk_past _ _ _ (Nat.lt_of_lt_of_le hk h.size)).trans (h.block k hk hn)⟩
theorem Src.alloc {w : World} {b K n ca : Nat} {a : Option Addr} (h : Src w b K a n ca) (o : Obj) : Src (w.alloc o) b K a n ca := by
  obtain ⟨p, z, h1, h2, h3⟩ := h.cells
  exact ⟨⟨p, z, (blk_past _ _ _ (block_lt h1)).trans h1, h2, h3⟩, h.small, fun hn => by
    obtain ⟨g, off, e, hc⟩ := h.bts hn
    refine ⟨g, off, e, fun k hk => ?_⟩
    obtain ⟨c, c1, c2⟩ := hc k hk
    exact ⟨c, c1, (World.cell?_alloc_past _ _ _ (block_lt_of_cell c2)).trans c2⟩, h.away⟩
theorem Src.lt {w : World} {b K n ca : Nat} {a : Option Addr} (h : Src w b K a n ca) : b < w.heap.size := by
  obtain ⟨p, z, h1, _⟩ := h.cells; exact block_lt h1
theorem frombits80 (w : World) : (callFunc 81 #[.int .u32 2147483648]).run Try.prog w = .ok (.value (.float .f32 2147483648)) w := by
  kernel_rfl
theorem drawn80 : Drawn 2147483648 := ⟨by decide, by decide⟩
set_option maxHeartbeats 2000000 in
theorem c_l06Some (w : World) (b K : Nat) (a : Option Addr) (n ca : Nat) (hK : K ≤ 600000) (h : Src w b K a n ca) :
    Calls Try.prog 60 #[.pointer (some ⟨b, 0, none⟩)] w fun e w' => (∃ x, Drawn x ∧ e = .returned (.float .f32 x)) ∧ Src w' b (K + 8) a n ca ∧ Only b w w' := by
  have C1 := hid (c_pick w b K a n ca 8 (by omega) (by omega) (by omega) h)
  have C2000 := hid (fun w2 h2 => c_pick w2 b (K + 2) a n ca 2000 (by omega) (by omega) (by omega) h2)
  have C2001 := hid (fun w2 h2 => c_pick w2 b (K + 2) a n ca 2001 (by omega) (by omega) (by omega) h2)
  have CT := hid (fun w2 h2 => c_l01Tone w2 b (K + 2) a n ca (by omega) h2)
  have CF := hid (fun w2 h2 => c_l01Few w2 b (K + 2) a n ca (by omega) h2)
  have CA := hid (fun w2 g h2 hg h3 h4 h5 => c_among3 w2 b (K + 2) a n ca g 1048576 (-1048576) 65536 (by omega) h2 hg h3 h4 h5)
  clear h
  go_enter Try.func60, Try.ntmps60
  go_wp2_with fail
  refine C1.out.mono ?_
  rintro e w1 ⟨⟨k, hk, rfl⟩, s1, o1⟩
  have S1 := hid s1
  have O1 := hid o1
  clear s1 o1 C1
  rcases (by omega : k = 0 ∨ k = 1 ∨ k = 2 ∨ k = 3 ∨ k = 4 ∨ 5 ≤ k) with rfl | rfl | rfl | rfl | rfl | h5
  · have SA := hid (S1.out.alloc (.cells #[.int .i64 1048576, .int .i64 (-1048576), .int .i64 65536] 2))
    have OA := hid (O1.out.alloc (.cells #[.int .i64 1048576, .int .i64 (-1048576), .int .i64 65536] 2))
    have LB := hid (Nat.ne_of_gt S1.out.lt)
    clear C2000 C2001 CT CF
    go_wp2_with fail
    refine (CA.out _ _ SA.out LB.out (by rw [World.cell?_alloc_new]; rfl) (by rw [World.cell?_alloc_new]; rfl) (by rw [World.cell?_alloc_new]; rfl)).mono ?_
    rintro e w2 ⟨⟨r, hr, rfl⟩, s2, o2⟩
    have S2 := hid (s2.mono (L := K + 8) (by omega))
    have O2 := hid (OA.out.trans o2)
    have A := hid ((isI_foi (n := r) (by omega)).abs (by omega))
    clear s2 o2 CA
    generalize hf : floatOfInt .f32 r = f at *
    go_wp2
    go_ret
    exact ⟨⟨_, Drawn.of A.out, rfl⟩, S2.out, O2.out⟩
  · clear C2001 CT CF CA
    go_wp2_with fail
    refine (C2000.out _ S1.out).mono ?_
    rintro e w2 ⟨⟨x, hx, rfl⟩, s2, o2⟩
    have S2 := hid (s2.mono (L := K + 8) (by omega))
    have O2 := hid (O1.out.trans o2)
    have I := isI_foi (n := (x : Int) - 1000) (by omega)
    have A := I.abs (by omega)
    have Q := A.div (y := 1191182336) (by decide) (by decide +kernel)
    have q1 := fun w => run_quo' (T := 26) (y := 1191182336) A.fin (by decide) (by decide +kernel) w
    have AA := hid Q
    clear s2 o2 I A Q C2000
    generalize hf : floatOfInt .f32 ((x : Int) - 1000) = f at *
    go_wp2
    go_ret
    exact ⟨⟨_, Drawn.of AA.out, rfl⟩, S2.out, O2.out⟩
  · have S2 := hid (S1.out.mono (L := K + 8) (by omega))
    have F0 := frombits80
    clear C2000 C2001 CT CF CA
    go_wp2
    go_ret
    exact ⟨⟨_, drawn80, rfl⟩, S2.out, O1.out⟩
  · clear C2000 C2001 CF CA
    go_wp2_with fail
    refine (CT.out _ S1.out).mono ?_
    rintro e w2 ⟨⟨x, hx, rfl⟩, s2, o2⟩
    have HX := hid hx
    have S2 := hid s2
    have O2 := hid (O1.out.trans o2)
    clear s2 o2 hx CT
    go_wp2
    go_ret
    exact ⟨⟨_, HX.out, rfl⟩, S2.out, O2.out⟩
  · clear C2000 CT CF CA
    go_wp2_with fail
    refine (C2001.out _ S1.out).mono ?_
    rintro e w2 ⟨⟨x, hx, rfl⟩, s2, o2⟩
    have S2 := hid (s2.mono (L := K + 8) (by omega))
    have O2 := hid (O1.out.trans o2)
    have A := hid ((isI_foi (n := (x : Int) - 1000) (by omega)).abs (by omega))
    clear s2 o2 C2001
    generalize hf : floatOfInt .f32 ((x : Int) - 1000) = f at *
    go_wp2
    go_ret
    exact ⟨⟨_, Drawn.of A.out, rfl⟩, S2.out, O2.out⟩
  · have e0 : ((k : Int) == 0) = false := by rw [beq_eq_false_iff_ne]; omega
    have e1 : ((k : Int) == 1) = false := by rw [beq_eq_false_iff_ne]; omega
    have e2 : ((k : Int) == 2) = false := by rw [beq_eq_false_iff_ne]; omega
    have e3 : ((k : Int) == 3) = false := by rw [beq_eq_false_iff_ne]; omega
    have e4 : ((k : Int) == 4) = false := by rw [beq_eq_false_iff_ne]; omega
    clear C2000 C2001 CT CA h5 hk
    go_wp2_with fail
    refine (CF.out _ S1.out).mono ?_
    rintro e w2 ⟨⟨x, hx, rfl⟩, s2, o2⟩
    have HX := hid hx
    have S2 := hid (s2.mono (L := K + 8) (by omega))
    have O2 := hid (O1.out.trans o2)
    clear s2 o2 hx CF
    go_wp2
    go_ret
    exact ⟨⟨_, HX.out, rfl⟩, S2.out, O2.out⟩
theorem Only.app {b : Nat} {w w2 w3 : World} {o : Obj} {v : Value} {k : Nat} {l : List Value} {T : TypeId} (h : Only b w w2) (O : w2.ownsRow w.heap.size T 1 v k l) (hg : (w2.alloc o).grownBy w3 v.ownBlock) : Only b w w3 :=
  ⟨hg.os.trans h.os, hg.tape.trans h.tape, hg.output.trans h.output, Nat.le_trans h.size (Nat.le_trans (by simp) hg.size), fun j hj hn =>
    (hg.block j (Nat.lt_of_lt_of_le hj (Nat.le_trans h.size (by simp))) (fun e => by have := (O.lt j e.symm).1; omega)).trans ((blk_past _ _ _ (Nat.lt_of_lt_of_le hj h.size)).trans (h.block j hj hn))⟩
theorem Src.grown {w0 w w' : World} {b K K0 n ca : Nat} {a : Option Addr} {r : Option Nat} (h0 : Src w0 b K0 a n ca) (h : Src w b K a n ca) (hg : w.grownBy w' r) (hr : ∀ q, r = some q → w0.heap.size ≤ q) : Src w' b K a n ca := by
  have lb := h0.lt
  obtain ⟨p, z, h1, h2, h3⟩ := h.cells
  refine ⟨⟨p, z, (hg.block b (block_lt h1) (fun e => by have := hr b e.symm; omega)).trans h1, h2, h3⟩, h.small, fun hn => ?_, h.away⟩
  obtain ⟨g, off, e, hc⟩ := h.bts hn
  obtain ⟨g0, off0, e0, hc0⟩ := h0.bts hn
  have eg : g = g0 := by rw [e] at e0; simp at e0; exact e0.1
  obtain ⟨c0, _, d0⟩ := hc0 0 hn
  have lg : g0 < w0.heap.size := block_lt_of_cell d0
  refine ⟨g, off, e, fun k hk => ?_⟩
  obtain ⟨c, c1, c2⟩ := hc k hk
  exact ⟨c, c1, hg.cell c2 (fun e2 => by have := hr g e2.symm; omega)⟩
theorem info_fl2 : (Try.prog.info? 26).map (fun i => (i.zero, i.size, i.bytes)) = some (some (.float .f32 0), 1, 4) := by kernel_rfl
theorem own_only {b lo s n : Nat} {w w' : World} {T : TypeId} {v : Value} {l : List Value} (h : w.ownsRow lo T s v n l) (ho : Only b w w') (hb : b < lo) : w'.ownsRow lo T s v n l :=
  ⟨h.1, h.2.imp id fun ⟨g, cap, cur, h1, h2, h3, h4⟩ => ⟨g, cap, cur, h1, h2, (ho.block g (block_lt h3) (by simp; omega)).trans h3, h4⟩⟩
set_option maxHeartbeats 2000000 in
theorem c_l06Drawn (w : World) (b K : Nat) (a : Option Addr) (n ca : Nat) (m : Nat) (hm : 1 ≤ m ∧ m ≤ 40) (hK : K ≤ 100000) (h : Src w b K a n ca) :
    Calls Try.prog 30 #[.pointer (some ⟨b, 0, none⟩), .int .i64 (m : Int)] w fun e w' => (∃ v xs, e = .returned v ∧ GotF w' w.heap.size v xs ∧ v ≠ .slice none 0 0 ∧ xs.length ≤ m ∧ ∀ k, k < xs.length → Drawn (fat xs k)) ∧ Only b w w' := by
  have H0 := hid h
  have LB := hid h.lt
  obtain ⟨i0, hi, hz0, hz1, hz2⟩ := info_parts info_fl2
  have HI := hid hi
  have HZ0 := hid hz0
  have HZ1 := hid hz1
  have HZ2 := hid hz2
  have O0 : Hid ((w.alloc (.cells #[] 26)).ownsRow w.heap.size 26 1 (.slice (some ⟨w.heap.size, 0, none⟩) 0 0) 0 []) := hid (World.ownsRow_made w #[] 0 (Nat.le_refl _) (by unfold maxLen; omega) rfl)
  have SA := hid (h.alloc (.cells #[] 26))
  have OA := hid ((Only.refl b w).alloc (.cells #[] 26))
  have C1 := hid (c_pick _ b K a n ca (m + 1) (by omega) (by omega) (by omega) SA.out)
  have CS := hid (fun w2 L hL h2 => c_l06Some w2 b L a n ca hL h2)
  clear hi hz0 hz1 hz2 h
  go_enter Try.func30, Try.ntmps30
  go_wp2_with fail
  refine C1.out.mono ?_
  rintro e w1 ⟨⟨k0, hk0, rfl⟩, s1, o1⟩
  have O1 := hid (own_only O0.out o1 LB.out)
  have S1 := hid s1
  have D1 := hid (OA.out.trans o1)
  clear s1 o1 C1 O0 SA OA
  go_wp2_with fail
  go_loopw [5, 6] (fun v k wr => ∃ (j : Nat) (xs : List Nat), j ≤ k0 ∧ xs.length = j ∧ k = .int .i64 ((k0 - j : Nat) : Int) ∧ wr.ownsRow w.heap.size 26 1 v j (xs.map (Value.float .f32)) ∧ v ≠ .slice none 0 0 ∧ (∀ i, i < xs.length → Drawn (fat xs i)) ∧ Src wr b (K + 2 + 8 * j) a n ca ∧ Only b w wr) (fun _ k _ => (intOf k).toNat)
  case atStart => exact ⟨0, [], by omega, rfl, rfl, O1.out, by simp, (fun i hi => absurd hi (Nat.not_lt_zero i)), S1.out, D1.out⟩
  case round =>
    obtain ⟨j, xs, hj, hxl, rfl, hown, hne, hdr, hsrc, hon⟩ := hrel
    have O := hid hown
    have NE := hid hne
    have DR := hid hdr
    have S := hid hsrc
    have ON := hid hon
    have XL := hid hxl
    clear hown hne hdr hsrc hon hxl
    by_cases hlt : j < k0
    · have hpos : (0 : Int) < ((k0 - j : Nat) : Int) := by omega
      have e1 : ((k0 - j : Nat) : Int) - 1 = ((k0 - (j + 1) : Nat) : Int) := by omega
      have kb : k0 ≤ 41 := by omega
      generalize hq : k0 - j = q at *
      go_wp2_with fail
      refine (CS.out _ _ (by omega) S.out).mono ?_
      rintro e w2 ⟨⟨x, hx, rfl⟩, s2, o2⟩
      have HX := hid hx
      have S2 := hid s2
      have ON2 := hid (ON.out.trans o2)
      have OW2 := hid (own_only O.out o2 LB.out)
      have LS := hid o2.size
      have LE := hid (show w.heap.size ≤ w2.heap.size from Nat.le_trans ON.out.size o2.size)
      clear s2 o2 hx
      have hqb : (q : Int) ≤ 41 := by omega
      go_wp2_with (at_builtin; refine wpList_append_own _ rfl _ _ 24 rfl w.heap.size 26 i0 (.float .f32 0) 1 4 Try.underlying24 HI.out HZ0.out HZ1.out HZ2.out rfl (by decide) _ _ _ rfl (OW2.out.alloc _) ⟨w2.heap.size, 0, none⟩ 1 1 [.float .f32 x] rfl rfl (one_at _ _ _) (one_cell _) (by unfold maxLen; omega) (by omega) (by have := LE.out; simp; omega) ?_; intro v' w3 hown' hgrow hnil; have NE2 : Hid (v' ≠ .slice none 0 0) := hid (fun e => NE.out (hnil.1 e).1); have OW3 := hid hown'; have S3 := hid (H0.out.grown (S2.out.alloc _) hgrow (fun r e => (OW2.out.lt r e).1)); have ON3 := hid (ON2.out.app OW2.out hgrow); clear hown' hgrow hnil)
      refine ⟨⟨j + 1, xs ++ [x], by omega, by simp [XL.out], rfl, by rw [List.map_append]; exact OW3.out, NE2.out, ?_, S3.out.mono (by omega), ON3.out⟩, by simp [intOf]; omega⟩
      intro i hi
      by_cases hik : i < xs.length
      · rw [show fat (xs ++ [x]) i = fat xs i by unfold fat; rw [List.getD_eq_getElem?_getD, List.getD_eq_getElem?_getD, List.getElem?_append_left hik]]
        exact DR.out i hik
      · have hi2 : i = xs.length := by simp at hi; omega
        subst hi2
        rw [show fat (xs ++ [x]) xs.length = x by unfold fat; rw [List.getD_eq_getElem?_getD, List.getElem?_append_right (Nat.le_refl _)]; simp]
        exact HX.out
    · obtain rfl : j = k0 := by omega
      have hz : ¬ (0 : Int) < ((j - j : Nat) : Int) := by omega
      generalize ((j - j : Nat) : Int) = q at *
      go_wp2
      go_ret
      exact ⟨⟨_, rfl, xs, by unfold GotF; rw [XL.out]; exact O.out, NE.out, by rw [XL.out]; omega, DR.out⟩, ON.out⟩
theorem gotF_from {w : World} {lo lo' : Nat} {v : Value} {l : List Nat} (h : GotF w lo v l) (hl : lo' ≤ lo) : GotF w lo' v l :=
  ⟨h.1, h.2.imp id fun ⟨g, cap, cur, h1, h2, h3, h4⟩ => ⟨g, cap, cur, h1, Nat.le_trans hl h2, h3, h4⟩⟩
set_option maxHeartbeats 1000000 in
theorem c_P6List (w : World) (a : Option Addr) (n ca : Nat) (m : Nat) (hm : 1 ≤ m ∧ m ≤ 40) (hn : n ≤ 4096) (hb : Bts w a n) :
    Calls Try.prog 5 #[.slice a n ca, .int .i64 (m : Int)] w fun e w' => (∃ v xs, e = .returned v ∧ GotF w' w.heap.size v xs ∧ v ≠ .slice none 0 0 ∧ xs.length ≤ m ∧ ∀ k, k < xs.length → Drawn (fat xs k)) ∧ Below w.heap.size w w' := by
  have CF : Hid (Calls Try.prog 31 #[.slice a n ca] w fun e w' => e = .returned (.pointer (some ⟨w.heap.size, 0, none⟩)) ∧ w' = w.alloc (.cells #[.slice a n ca, .int .i64 0, .int .u64 0] 65)) := hid (by
    go_enter Try.func31, Try.ntmps31
    go_wp2
    go_ret
    exact ⟨rfl, rfl⟩)
  have SA : Hid (Src (w.alloc (.cells #[.slice a n ca, .int .i64 0, .int .u64 0] 65)) w.heap.size 0 a n ca) := hid ⟨⟨0, 0, blk_at _ _ _ rfl, Nat.le_refl _, by omega⟩, hn, fun h0 => by
    obtain ⟨g, off, e, hc⟩ := hb h0
    refine ⟨g, off, e, fun k hk => ?_⟩
    obtain ⟨c, c1, c2⟩ := hc k hk
    exact ⟨c, c1, (World.cell?_alloc_past _ _ _ (block_lt_of_cell c2)).trans c2⟩, fun h0 g off e => by
    obtain ⟨g2, off2, e2, hc⟩ := hb h0
    obtain ⟨c, _, c2⟩ := hc 0 h0
    have l := block_lt_of_cell c2
    rw [e] at e2; simp at e2
    have : g2 < w.heap.size := l
    omega⟩
  have CD := hid (c_l06Drawn _ w.heap.size 0 a n ca m hm (by omega) SA.out)
  clear hb hm hn
  go_enter Try.func5, Try.ntmps5
  go_wp2_with (first | (go_at_call 31; refine CF.out.mono ?_; rintro e w1 ⟨rfl, rfl⟩) | (go_at_call 30; refine CD.out.mono ?_; rintro e w2 ⟨⟨v, xs, rfl, hg, hne, hl, hd⟩, ho⟩; have G := hid hg; have NE := hid hne; have HL := hid hl; have HD := hid hd; have HO := hid ho; clear hg hne hl hd ho))
  go_ret
  have ho := HO.out
  exact ⟨⟨_, xs, rfl, gotF_from G.out (by simp), NE.out, HL.out, HD.out⟩, ho.os, ho.tape, ho.output, Nat.le_trans (by simp) ho.size, fun k hk => (ho.block k (by simp; omega) (by simp; omega)).trans (blk_past _ _ _ hk)⟩
set_option maxHeartbeats 2000000 in
theorem c_P6Whole (w : World) (a : Option Addr) (n ca : Nat) (hn : n ≤ 4096) (hb : Bts w a n) :
    Calls Try.prog 19 #[.slice a n ca] w fun e w' => (∃ v xs zs, e = .returned v ∧ GotF w' w.heap.size v xs ∧ v ≠ .slice none 0 0 ∧ xs.length ≤ 8 ∧ Ints500 xs zs) ∧ Below w.heap.size w w' := by
  have CF : Hid (Calls Try.prog 31 #[.slice a n ca] w fun e w' => e = .returned (.pointer (some ⟨w.heap.size, 0, none⟩)) ∧ w' = w.alloc (.cells #[.slice a n ca, .int .i64 0, .int .u64 0] 65)) := hid (by
    go_enter Try.func31, Try.ntmps31
    go_wp2
    go_ret
    exact ⟨rfl, rfl⟩)
  have SA0 : Hid (Src (w.alloc (.cells #[.slice a n ca, .int .i64 0, .int .u64 0] 65)) w.heap.size 0 a n ca) := hid ⟨⟨0, 0, blk_at _ _ _ rfl, Nat.le_refl _, by omega⟩, hn, fun h0 => by
    obtain ⟨g, off, e, hc⟩ := hb h0
    refine ⟨g, off, e, fun k hk => ?_⟩
    obtain ⟨c, c1, c2⟩ := hc k hk
    exact ⟨c, c1, (World.cell?_alloc_past _ _ _ (block_lt_of_cell c2)).trans c2⟩, fun h0 g off e => by
    obtain ⟨g2, off2, e2, hc⟩ := hb h0
    obtain ⟨c, _, c2⟩ := hc 0 h0
    have l := block_lt_of_cell c2
    rw [e] at e2; simp at e2
    have : g2 < w.heap.size := l
    omega⟩
  obtain ⟨wb, hwb⟩ : ∃ wb, wb = w.alloc (.cells #[.slice a n ca, .int .i64 0, .int .u64 0] 65) := ⟨_, rfl⟩
  have WB := hid hwb
  have SZ : Hid (wb.heap.size = w.heap.size + 1) := hid (by rw [hwb]; simp)
  rw [← hwb] at SA0 CF
  have BW : Hid (∀ w', Only w.heap.size wb w' → Below w.heap.size w w') := hid (fun w' ho => by
    rw [hwb] at ho
    exact ⟨ho.os, ho.tape, ho.output, Nat.le_trans (by simp) ho.size, fun k hk => (ho.block k (by simp; omega) (by simp; omega)).trans (blk_past _ _ _ hk)⟩)
  clear hwb
  generalize hbb : w.heap.size = b at *
  obtain ⟨i0, hi, hz0, hz1, hz2⟩ := info_parts info_fl2
  have HI := hid hi
  have HZ0 := hid hz0
  have HZ1 := hid hz1
  have HZ2 := hid hz2
  have LB := hid SA0.out.lt
  have O0 : Hid ((wb.alloc (.cells #[] 26)).ownsRow wb.heap.size 26 1 (.slice (some ⟨wb.heap.size, 0, none⟩) 0 0) 0 []) := hid (World.ownsRow_made wb #[] 0 (Nat.le_refl _) (by unfold maxLen; omega) rfl)
  have SA := hid (SA0.out.alloc (.cells #[] 26))
  have OA := hid ((Only.refl b wb).alloc (.cells #[] 26))
  have C1 := hid (c_pick _ b 0 a n ca 9 (by omega) (by omega) (by omega) SA.out)
  have CS := hid (fun w2 L hL h2 => c_pick w2 b L a n ca 1001 (by omega) (by omega) hL h2)
  clear hi hz0 hz1 hz2 hb hn
  go_enter Try.func19, Try.ntmps19
  go_wp2_with (go_at_call 31; refine CF.out.mono ?_; rintro e w1 ⟨rfl, rfl⟩)
  refine C1.out.mono ?_
  rintro e wc ⟨⟨k0, hk0, rfl⟩, s1, o1⟩
  have O1 := hid (own_only O0.out o1 LB.out)
  have S1 := hid s1
  have D1 := hid (OA.out.trans o1)
  clear s1 o1 C1 O0 SA OA
  go_wp2_with fail
  go_loopw [4, 5] (fun v k wr => ∃ (j : Nat) (xs : List Nat) (zs : List Int), j ≤ k0 ∧ xs.length = j ∧ k = .int .i64 ((k0 - j : Nat) : Int) ∧ wr.ownsRow w1.heap.size 26 1 v j (xs.map (Value.float .f32)) ∧ v ≠ .slice none 0 0 ∧ Ints500 xs zs ∧ Src wr b (2 + 2 * j) a n ca ∧ Only b w1 wr) (fun _ k _ => (intOf k).toNat)
  case atStart => exact ⟨0, [], [], by omega, rfl, rfl, O1.out, by simp, ⟨rfl, (fun i hi => absurd hi (Nat.not_lt_zero i)), (fun i hi => absurd hi (Nat.not_lt_zero i))⟩, S1.out, D1.out⟩
  case round =>
    obtain ⟨j, xs, zs, hj, hxl, rfl, hown, hne, hdr, hsrc, hon⟩ := hrel
    have O := hid hown
    have NE := hid hne
    have DR := hid hdr
    have S := hid hsrc
    have ON := hid hon
    have XL := hid hxl
    clear hown hne hdr hsrc hon hxl
    by_cases hlt : j < k0
    · have hpos : (0 : Int) < ((k0 - j : Nat) : Int) := by omega
      have e1 : ((k0 - j : Nat) : Int) - 1 = ((k0 - (j + 1) : Nat) : Int) := by omega
      have kb : k0 ≤ 8 := by omega
      generalize hq : k0 - j = q at *
      go_wp2_with fail
      refine (CS.out _ _ (by omega) S.out).mono ?_
      rintro e w2 ⟨⟨x, hx, rfl⟩, s2, o2⟩
      have S2 := hid s2
      have ON2 := hid (ON.out.trans o2)
      have OW2 := hid (own_only O.out o2 LB.out)
      have LE := hid (show w1.heap.size ≤ w2.heap.size from Nat.le_trans ON.out.size o2.size)
      have IX := hid (isI_foi (n := (x : Int) - 500) (by omega))
      have BX := hid (show -500 ≤ (x : Int) - 500 ∧ (x : Int) - 500 ≤ 500 by omega)
      clear s2 o2
      have hqb : (q : Int) ≤ 8 := by omega
      generalize hf : floatOfInt .f32 ((x : Int) - 500) = f at *
      go_wp2_with (at_builtin; refine wpList_append_own _ rfl _ _ 24 rfl w1.heap.size 26 i0 (.float .f32 0) 1 4 Try.underlying24 HI.out HZ0.out HZ1.out HZ2.out rfl (by decide) _ _ _ rfl (OW2.out.alloc _) ⟨w2.heap.size, 0, none⟩ 1 1 [.float .f32 f] rfl rfl (one_at _ _ _) (one_cell _) (by unfold maxLen; omega) (by omega) (by have := LE.out; simp; omega) ?_; intro v' w3 hown' hgrow hnil; have NE2 : Hid (v' ≠ .slice none 0 0) := hid (fun e => NE.out (hnil.1 e).1); have OW3 := hid hown'; have S3 := hid (SA0.out.grown (S2.out.alloc _) hgrow (fun r e => (OW2.out.lt r e).1)); have ON3 := hid (ON2.out.app OW2.out hgrow); clear hown' hgrow hnil)
      refine ⟨⟨j + 1, xs ++ [f], zs ++ [(x : Int) - 500], by omega, by simp [XL.out], rfl, by rw [List.map_append]; exact OW3.out, NE2.out, ?_, S3.out.mono (by omega), ON3.out⟩, by simp [intOf]; omega⟩
      have zl := DR.out.len
      refine ⟨by simp [zl], fun i hi => ?_, fun i hi => ?_⟩
      · by_cases hik : i < xs.length
        · rw [show fat (xs ++ [f]) i = fat xs i by unfold fat; rw [List.getD_eq_getElem?_getD, List.getD_eq_getElem?_getD, List.getElem?_append_left hik], show iat (zs ++ [(x : Int) - 500]) i = iat zs i by unfold iat; rw [List.getD_eq_getElem?_getD, List.getD_eq_getElem?_getD, List.getElem?_append_left (by omega)]]
          exact DR.out.at_ i hik
        · have hi2 : i = xs.length := by simp at hi; omega
          subst hi2
          rw [show fat (xs ++ [f]) xs.length = f by unfold fat; rw [List.getD_eq_getElem?_getD, List.getElem?_append_right (Nat.le_refl _)]; simp, show iat (zs ++ [(x : Int) - 500]) xs.length = (x : Int) - 500 by unfold iat; rw [zl, List.getD_eq_getElem?_getD, List.getElem?_append_right (Nat.le_refl _)]; simp]
          exact IX.out
      · by_cases hik : i < xs.length
        · rw [show iat (zs ++ [(x : Int) - 500]) i = iat zs i by unfold iat; rw [List.getD_eq_getElem?_getD, List.getD_eq_getElem?_getD, List.getElem?_append_left (by omega)]]
          exact DR.out.bnd i hik
        · have hi2 : i = xs.length := by simp at hi; omega
          subst hi2
          rw [show iat (zs ++ [(x : Int) - 500]) xs.length = (x : Int) - 500 by unfold iat; rw [zl, List.getD_eq_getElem?_getD, List.getElem?_append_right (Nat.le_refl _)]; simp]
          exact BX.out
    · obtain rfl : j = k0 := by omega
      have hz : ¬ (0 : Int) < ((j - j : Nat) : Int) := by omega
      have LW := hid (show b ≤ w1.heap.size from Nat.le_of_lt LB.out)
      generalize ((j - j : Nat) : Int) = q at *
      go_wp2
      go_ret
      have G : GotF wr w1.heap.size u4 xs := by unfold GotF; rw [XL.out]; exact O.out
      first
        | exact ⟨⟨_, rfl, xs, gotF_from G LW.out, NE.out, by rw [XL.out]; omega, zs, DR.out⟩, BW.out _ ON.out⟩
        | exact ⟨⟨_, xs, zs, rfl, gotF_from G LW.out, NE.out, by rw [XL.out]; omega, DR.out⟩, BW.out _ ON.out⟩
end Go.Proofs.Ytpaoccnffmngfaa
