/- Texts cut at a byte: both sides. -/
import Derived.Test.YtdcjoafagalejaaDoorText
import Derived.Test.YtdcjoafagalejaaDoorPText
import Derived.Test.YtdcjoafagalejaaDoorShelfC
import Derived.Test.YtdcjoafagalejaaDoorNum
import Derived.Lib.SplitLaws
namespace Go.Proofs.YtdcjoafagalejaaDoor
set_option maxRecDepth 20000
open Go.RowKit

/-! ### Plain -/
def glue (p : List UInt8) : List (List UInt8) → List (List UInt8)
  | [] => [p]
  | w :: ws => (p ++ w) :: ws
/-- A text cut at a byte. -/
def cuts (c : UInt8) : List UInt8 → List (List UInt8)
  | [] => [[]]
  | b :: r => if b = c then [] :: cuts c r else glue [b] (cuts c r)
def wat (ws : List (List UInt8)) (k : Nat) : List UInt8 := ws.getD k []
theorem glue_glue (p q : List UInt8) : ∀ ws, glue p (glue q ws) = glue (p ++ q) ws
  | [] => by simp [glue]
  | w :: ws => by simp [glue]
theorem glue_ne (p : List UInt8) (ws : List (List UInt8)) : glue p ws ≠ [] := by cases ws <;> simp [glue]
theorem cuts_ne (c : UInt8) : ∀ s, cuts c s ≠ []
  | [] => by simp [cuts]
  | b :: r => by rw [cuts]; split <;> simp [glue_ne]
theorem glue_nil {ws : List (List UInt8)} (h : ws ≠ []) : glue [] ws = ws := by cases ws <;> simp_all [glue]
theorem glue_len (p : List UInt8) {ws : List (List UInt8)} (h : ws ≠ []) : (glue p ws).length = ws.length := by cases ws <;> simp_all [glue]
theorem cuts_len (c : UInt8) : ∀ s, (cuts c s).length ≤ s.length + 1
  | [] => by simp [cuts]
  | b :: r => by
    have := cuts_len c r
    rw [cuts]; split
    · simp; omega
    · rw [glue_len _ (cuts_ne c r)]; simp; omega
theorem cuts_short (c : UInt8) : ∀ s, ∀ x ∈ cuts c s, x.length ≤ s.length
  | [], x, h => by simp [cuts] at h; simp [h]
  | b :: r, x, h => by
    have ih := cuts_short c r
    rw [cuts] at h; split at h
    · rcases List.mem_cons.1 h with rfl | h
      · simp
      · have := ih x h; simp; omega
    · cases hc : cuts c r with
      | nil => exact absurd hc (cuts_ne c r)
      | cons w ws =>
        rw [hc] at h ih
        simp only [glue] at h
        rcases List.mem_cons.1 h with rfl | h
        · have := ih w (by simp); simp; omega
        · have := ih x (by simp [h]); simp; omega
theorem wat_mem {ws : List (List UInt8)} {k : Nat} (h : k < ws.length) : wat ws k ∈ ws := by
  unfold wat; rw [List.getD_eq_getElem?_getD, List.getElem?_eq_getElem h]; simp
theorem wat_short {c : UInt8} {s : List UInt8} {k : Nat} (h : k < (cuts c s).length) : (wat (cuts c s) k).length ≤ s.length := cuts_short c s _ (wat_mem h)
/-- The library's cut is ours. -/
theorem split_cuts (c : UInt8) : ∀ s, Lib.split s [c] = cuts c s
  | [] => by simp [Lib.split, Lib.count_one, Lib.splitK, cuts]
  | b :: l => by
    have ih := split_cuts c l
    unfold Lib.split at *
    by_cases h : b = c
    · subst h
      have hix : Lib.index (b :: l) [b] = ((0 : Nat) : Int) := by rw [Lib.index]; simp [List.isPrefixOf]
      rw [Lib.count_cons_eq, show 1 + Lib.count l [b] = Lib.count l [b] + 1 by omega, Lib.splitK, hix, cuts, if_pos rfl, ← ih]
      simp
    · have hp : ([c] : List UInt8).isPrefixOf (b :: l) = false := by simp [List.isPrefixOf, Ne.symm h]
      have hix : Lib.index (b :: l) [c] = if Lib.index l [c] == -1 then -1 else Lib.index l [c] + 1 := by rw [Lib.index, hp]; simp
      rw [Lib.count_cons_ne b c l h, cuts, if_neg h, ← ih]
      by_cases hm : Lib.index l [c] = -1
      · rw [Lib.count_miss hm]; simp [Lib.splitK, glue]
      · have hge := Lib.index_ge l [c]
        obtain ⟨j, hj⟩ : ∃ j : Nat, Lib.index l [c] = j := ⟨(Lib.index l [c]).toNat, by omega⟩
        have hix' : Lib.index (b :: l) [c] = ((j + 1 : Nat) : Int) := by rw [hix, if_neg (fun e => hm (beq_iff_eq.1 e)), hj]; omega
        rw [Lib.count_hit (by simp) hj, show ∀ x, 1 + x = x + 1 from fun x => by omega, Lib.splitK, Lib.splitK, hix', hj]
        have n1 : ¬ (((j + 1 : Nat) : Int) == -1) = true := fun e => by have := beq_iff_eq.1 e; omega
        have n2 : ¬ (((j : Nat) : Int) == -1) = true := fun e => by have := beq_iff_eq.1 e; omega
        rw [if_neg n1, if_neg n2]
        simp [glue]
/-- The part of a text from f up to k. -/
def seg (s : List UInt8) (f k : Nat) : List UInt8 := (s.take k).drop f
theorem seg_txt (s : List UInt8) (f k : Nat) : (⟨s.toArray⟩ : ByteArray).extract f k = ⟨(seg s f k).toArray⟩ := by
  apply ByteArray.ext; rw [ByteArray.data_extract]; simp [seg, List.drop_take]
theorem seg_self (s : List UInt8) (k : Nat) : seg s k k = [] := by simp [seg]
theorem seg_succ {s : List UInt8} {f k : Nat} (hf : f ≤ k) (hk : k < s.length) : seg s f (k + 1) = seg s f k ++ [bat s k] := by
  unfold seg bat
  rw [List.take_add_one, List.getElem?_eq_getElem hk, List.drop_append_of_le_length (by simp; omega), List.getD_eq_getElem?_getD, List.getElem?_eq_getElem hk]; rfl
theorem seg_end (s : List UInt8) (f : Nat) : seg s f s.length = s.drop f := by simp [seg]
theorem drop_bat {s : List UInt8} {k : Nat} (hk : k < s.length) : s.drop k = bat s k :: s.drop (k + 1) := by
  rw [List.drop_eq_getElem_cons hk]; unfold bat; rw [List.getD_eq_getElem?_getD, List.getElem?_eq_getElem hk]; rfl
/-- How far a text is cut. -/
def CutAt (c : UInt8) (s : List UInt8) (L : List (List UInt8)) (f k : Nat) : Prop := cuts c s = L ++ glue (seg s f k) (cuts c (s.drop k))
theorem cutAt_start (c : UInt8) (s : List UInt8) : CutAt c s [] 0 0 := by
  unfold CutAt; rw [seg_self, List.drop_zero, glue_nil (cuts_ne c s)]; rfl
theorem cutAt_hit {c : UInt8} {s : List UInt8} {L : List (List UInt8)} {f k : Nat} (h : CutAt c s L f k) (hk : k < s.length) (e : bat s k = c) : CutAt c s (L ++ [seg s f k]) (k + 1) (k + 1) := by
  unfold CutAt at *
  rw [drop_bat hk, cuts, if_pos e] at h
  rw [h, seg_self, glue_nil (cuts_ne c _)]
  simp [glue]
theorem cutAt_miss {c : UInt8} {s : List UInt8} {L : List (List UInt8)} {f k : Nat} (h : CutAt c s L f k) (hf : f ≤ k) (hk : k < s.length) (e : bat s k ≠ c) : CutAt c s L f (k + 1) := by
  unfold CutAt at *
  rw [drop_bat hk, cuts, if_neg e, glue_glue, ← seg_succ hf hk] at h
  exact h
theorem cutAt_end {c : UInt8} {s : List UInt8} {L : List (List UInt8)} {f : Nat} (h : CutAt c s L f s.length) : cuts c s = L ++ [s.drop f] := by
  unfold CutAt at h
  rw [List.drop_length, seg_end] at h
  simpa [cuts, glue] using h
theorem CutAt.len {c : UInt8} {s : List UInt8} {L : List (List UInt8)} {f k : Nat} (h : CutAt c s L f k) : L.length ≤ s.length := by
  have := cuts_len c s
  unfold CutAt at h
  rw [h] at this
  have h2 : 1 ≤ (glue (seg s f k) (cuts c (s.drop k))).length := List.length_pos_iff.2 (glue_ne _ _)
  simp only [List.length_append] at this; omega
/-- A slice of texts in memory. -/
def TxtAt (w : World) (g o : Nat) (ws : List (List UInt8)) : Prop := ∀ k, k < ws.length → w.cell? ⟨g, o + k, none⟩ = some (txt (wat ws k))
/-- The same, with the row that holds them. -/
def TxtBlk (w : World) (g : Nat) (ws : List (List UInt8)) : Prop := ∃ cs : Array Value, w.heap[g]? = some (.cells cs 9 (0, 0)) ∧ ∀ k, k < ws.length → cs[k]? = some (txt (wat ws k))
theorem TxtBlk.at_ {w : World} {g : Nat} {ws : List (List UInt8)} (h : TxtBlk w g ws) : TxtAt w g 0 ws := fun k hk => by
  obtain ⟨cs, hb, hc⟩ := h
  rw [Nat.zero_add, cell_of_row w g k _ _ _ hb]; exact hc k hk
theorem TxtBlk.below {w w' : World} {g : Nat} {ws : List (List UInt8)} (h : TxtBlk w g ws) (hb : Below w.heap.size w w') : TxtBlk w' g ws :=
  let ⟨cs, h1, h2⟩ := h; ⟨cs, (hb.block _ (block_lt h1)).trans h1, h2⟩
theorem TxtBlk.alloc {w : World} {g : Nat} {ws : List (List UInt8)} (h : TxtBlk w g ws) (o : Obj) : TxtBlk (w.alloc o) g ws :=
  let ⟨cs, h1, h2⟩ := h; ⟨cs, (blk_past _ _ _ (block_lt h1)).trans h1, h2⟩
theorem TxtBlk.kept {w w' : World} {g lo s n : Nat} {ws : List (List UInt8)} {T : TypeId} {v : Value} {l : List Value} (h : TxtBlk w g ws) (O : w.ownsRow lo T s v n l) (hT : T ≠ 9) (hg : w.grownBy w' v.ownBlock) : TxtBlk w' g ws := by
  obtain ⟨cs, h1, h2⟩ := h
  refine ⟨cs, (hg.block g (block_lt h1) (fun e => ?_)).trans h1, h2⟩
  rcases O.2 with ⟨rfl, _⟩ | ⟨g2, cap, cur, rfl, _, hb, _⟩
  · cases e
  · simp only [Value.ownBlock, Option.some.injEq] at e
    subst e
    rw [h1] at hb
    simp only [Option.some.injEq, Obj.cells.injEq] at hb
    exact hT hb.2.1.symm
theorem TxtAt.below {w w' : World} {g o : Nat} {ws : List (List UInt8)} (h : TxtAt w g o ws) (hb : Below w.heap.size w w') : TxtAt w' g o ws := fun k hk => cell_stays hb (h k hk)
/-- strings.Split cuts as we cut. -/
theorem c_SplitB (s : List UInt8) (c : UInt8) (hs : s.length ≤ 1048576) (m : Int) (w : World) (hm : w.cell? ⟨1, 0, none⟩ = some (.int .i64 m)) :
    Calls Tryd.prog 45 #[txt s, txt [c]] w fun e w' => e = .returned (.slice (some ⟨w.heap.size, 0, none⟩) (cuts c s).length (cuts c s).length) ∧ TxtBlk w' w.heap.size (cuts c s) ∧ Below w.heap.size w w' := by
  have e1 : (⟨s.toArray⟩ : ByteArray).data.toList = s := by simp
  have e3 : (⟨[c].toArray⟩ : ByteArray).data.toList = [c] := by simp
  have e2 : (⟨s.toArray⟩ : ByteArray).size = s.length := by simp [ByteArray.size]
  have hl : (Lib.splitB ⟨[c].toArray⟩ 0 (Lib.countB ⟨s.toArray⟩ ⟨[c].toArray⟩) ⟨s.toArray⟩).map (·.data.toList) = cuts c s := by
    rw [Lib.splitB_data, e1, e3, ← split_cuts]
    unfold Lib.split
    congr 1
  have hk : Lib.countB ⟨s.toArray⟩ ⟨[c].toArray⟩ + 1 = (cuts c s).length := by
    rw [← hl, List.length_map, Lib.splitB_all _ (by simp [ByteArray.size]) _ _ _ rfl]
  refine (Tryd.strings_Split ⟨s.toArray⟩ ⟨[c].toArray⟩ m w (by rw [e2]; omega) hm (by simp [ByteArray.size])).mono fun e w' ⟨he, hw⟩ => ⟨?_, ⟨_, (congrArg (fun x : World => x.heap[w.heap.size]?) hw).trans (blk_at _ _ _ rfl), fun k hlt => ?_⟩, ?_⟩
  · rw [he, ← hk]
  · have hk2 : k < (Lib.splitB ⟨[c].toArray⟩ 0 (Lib.countB ⟨s.toArray⟩ ⟨[c].toArray⟩) ⟨s.toArray⟩).length := by rw [← hl, List.length_map] at hlt; exact hlt
    rw [List.getElem?_toArray, List.getElem?_map, List.getElem?_eq_getElem hk2, ← hl]
    unfold wat
    rw [List.getD_eq_getElem?_getD, List.getElem?_map, List.getElem?_eq_getElem hk2]
    simp [txt]
  · rw [hw]; exact (Below.refl _ _).alloc (Nat.le_refl _) _
theorem c_Split (s : List UInt8) (c : UInt8) (hs : s.length ≤ 1048576) (m : Int) (w : World) (hm : w.cell? ⟨1, 0, none⟩ = some (.int .i64 m)) :
    Calls Tryd.prog 45 #[txt s, txt [c]] w fun e w' => e = .returned (.slice (some ⟨w.heap.size, 0, none⟩) (cuts c s).length (cuts c s).length) ∧ TxtAt w' w.heap.size 0 (cuts c s) ∧ Below w.heap.size w w' :=
  (c_SplitB s c hs m w hm).mono fun _ _ ⟨h1, h2, h3⟩ => ⟨h1, h2.at_, h3⟩
theorem own_txt {w : World} {lo n : Nat} {v : Value} {ws : List (List UInt8)} (hn : ws.length = n) (hv : v ≠ .slice none 0 0) (O : w.ownsRow lo 9 1 v n (ws.map txt)) :
    ∃ g ca, v = .slice (some ⟨g, 0, none⟩) n ca ∧ TxtBlk w g ws ∧ lo ≤ g := by
  subst hn
  rcases O.2 with ⟨h0, _⟩ | ⟨g, cap, cur, rfl, hlo, hg, hcap, _, _, _⟩
  · exact absurd h0 hv
  · exact ⟨g, cap, rfl, ⟨cur, hg, fun k hk => by
      rw [← cell_of_row w g k _ _ _ hg, O.cellAt k (by omega)]
      simp [wat, hk]⟩, hlo⟩
set_option maxHeartbeats 1000000 in
theorem c_l01SplitB (s : List UInt8) (c : UInt8) (hs : s.length ≤ 1048576) (w : World) :
    Calls Tryd.prog 43 #[txt s, .int .u8 c.toNat] w fun e w' => (∃ g ca : Nat, e = .returned (.slice (some ⟨g, 0, none⟩) (cuts c s).length ca) ∧ TxtBlk w' g (cuts c s)) ∧ Below w.heap.size w w' := by
  have HS := hid hs
  obtain ⟨i0, hi, hz0, hz1, hz2⟩ := info_parts info_str
  have HI := hid hi
  have HZ0 := hid hz0
  have HZ1 := hid hz1
  have HZ2 := hid hz2
  have O0 := hid (ownsS_empty w 9)
  have B0 : Hid (Below w.heap.size w (w.alloc (.cells #[] 9))) := hid ((Below.refl _ _).alloc (Nat.le_refl _) _)
  clear hi hz0 hz1 hz2
  go_enter Tryd.func43, Tryd.ntmps43
  go_wp2
  go_loopw [5, 6, 7] (fun v f i wr => ∃ (k m : Nat) (L : List (List UInt8)), k ≤ s.length ∧ m ≤ k ∧ i = .int .i64 k ∧ f = .int .i64 m ∧ wr.ownsRow w.heap.size 9 1 v L.length (L.map txt) ∧ v ≠ .slice none 0 0 ∧ Below w.heap.size w wr ∧ CutAt c s L m k) (fun _ _ i _ => s.length - (intOf i).toNat)
  case atStart => exact ⟨0, 0, [], by omega, by omega, rfl, rfl, O0.out, by simp, B0.out, cutAt_start c s⟩
  case round =>
    obtain ⟨k, m, L, hk, hm, rfl, rfl, hown, hne, hbel, hcut⟩ := hrel
    have O := hid hown
    have NE := hid hne
    have B := hid hbel
    have CA := hid hcut
    have LL := hid hcut.len
    clear hown hne hbel hcut
    by_cases hlt : k < s.length
    · have bk : (⟨s.toArray⟩ : ByteArray)[k]'(by show k < s.toArray.size; simp; omega) = bat s k := bat_at hlt _
      by_cases hc : bat s k = c
      · have C1 := hid (cutAt_hit CA.out hlt hc)
        have hc' : ((bat s k).toNat : Int) = (c.toNat : Int) := by rw [hc]
        have ST := hid (seg_txt s m k)
        clear hc
        go_wp2_with (at_builtin; refine wpList_append_own _ rfl _ _ 60 rfl w.heap.size 9 i0 (.string ByteArray.empty) 1 16 Tryd.underlying60 HI.out HZ0.out HZ1.out HZ2.out rfl (by decide) _ _ _ rfl (O.out.alloc _) ⟨wr.heap.size, 0, none⟩ 1 1 [.string ((⟨s.toArray⟩ : ByteArray).extract m k)] rfl rfl (one_at _ _ _) (by rw [ST.out]; exact one_cellS _) (by have := LL.out; have := HS.out; unfold maxLen; omega) (by have := LL.out; have := HS.out; omega) (by have h1 := B.out.size; simp; omega) ?_; intro v' w3 hown' hgrow hnil; have NE2 : Hid (v' ≠ .slice none 0 0) := hid (fun e => NE.out (hnil.1 e).1); have O1 := hid hown'; have B1 := hid (appT B.out B.out.size O.out hgrow); clear hown' hgrow hnil)
        refine ⟨⟨k + 1, k + 1, L ++ [seg s m k], by omega, by omega, by go_num, by go_num, ?_, NE2.out, B1.out, C1.out⟩, by simp [intOf]; omega⟩
        have o := O1.out
        rw [ST.out] at o
        rw [List.map_append, List.length_append]; exact o
      · have C1 := hid (cutAt_miss CA.out hm hlt hc)
        have hc' : ¬ ((bat s k).toNat : Int) = (c.toNat : Int) := fun e => hc (UInt8.toNat_inj.1 (by omega))
        clear hc
        go_wp2
        exact ⟨⟨k + 1, m, L, by omega, by omega, by go_num, rfl, O.out, NE.out, B.out, C1.out⟩, by simp [intOf]; omega⟩
    · obtain rfl : k = s.length := by omega
      have CE := hid (cutAt_end CA.out)
      have ST := hid (seg_txt s m s.length)
      have SE := hid (seg_end s m)
      go_wp2_with (at_builtin; refine wpList_append_own _ rfl _ _ 60 rfl w.heap.size 9 i0 (.string ByteArray.empty) 1 16 Tryd.underlying60 HI.out HZ0.out HZ1.out HZ2.out rfl (by decide) _ _ _ rfl (O.out.alloc _) ⟨wr.heap.size, 0, none⟩ 1 1 [.string ((⟨s.toArray⟩ : ByteArray).extract m s.length)] rfl rfl (one_at _ _ _) (by rw [ST.out]; exact one_cellS _) (by have := LL.out; have := HS.out; unfold maxLen; omega) (by have := LL.out; have := HS.out; omega) (by have h1 := B.out.size; simp; omega) ?_; intro v' w3 hown' hgrow hnil; have O1 := hid hown'; have B1 := hid (appT B.out B.out.size O.out hgrow); have NE2 : Hid (v' ≠ .slice none 0 0) := hid (fun e => NE.out (hnil.1 e).1); clear hown' hgrow hnil)
      go_ret
      have o := O1.out
      rw [ST.out, SE.out, show List.map txt L ++ [Value.string ⟨(s.drop m).toArray⟩] = (L ++ [s.drop m]).map txt from by simp [txt], ← CE.out, show L.length + 1 = (cuts c s).length from by rw [CE.out]; simp] at o
      obtain ⟨g, ca, rfl, ht, _⟩ := own_txt rfl NE2.out o
      exact ⟨⟨g, ca, rfl, ht⟩, B1.out⟩
theorem c_l01Split (s : List UInt8) (c : UInt8) (hs : s.length ≤ 1048576) (w : World) :
    Calls Tryd.prog 43 #[txt s, .int .u8 c.toNat] w fun e w' => (∃ g ca : Nat, e = .returned (.slice (some ⟨g, 0, none⟩) (cuts c s).length ca) ∧ TxtAt w' g 0 (cuts c s)) ∧ Below w.heap.size w w' :=
  (c_l01SplitB s c hs w).mono fun _ _ ⟨⟨g, ca, h1, h2⟩, h3⟩ => ⟨⟨g, ca, h1, h2.at_⟩, h3⟩
end Go.Proofs.YtdcjoafagalejaaDoor
