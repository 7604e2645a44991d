/- Plans with few changes: plain theory; the numbers that two lists have: walks. -/
import Derived.Test.YthnffhmefgfnkaaTiltsAt
import Derived.Test.YthnffhmefgfnkaaPlan
import Derived.Test.YthnffhmefgfnkaaMarks
namespace Go.Proofs.Ythnffhmefgfnkaa
set_option maxRecDepth 20000
open Go.RowKit

/-! ### Filling a run of a plan -/
theorem iat_set' (l : List Int) (j k : Nat) (v : Int) : iat (l.set j v) k = if j = k ∧ j < l.length then v else iat l k := by
  unfold iat
  rw [List.getD_eq_getElem?_getD, List.getD_eq_getElem?_getD, List.getElem?_set]
  by_cases h : j = k
  · subst h
    by_cases h2 : j < l.length
    · simp [h2]
    · simp [h2]
  · simp [h]
theorem list_iat {l m : List Int} (h : l.length = m.length) (h2 : ∀ k, k < l.length → iat l k = iat m k) : l = m := by
  apply List.ext_getElem h
  intro k h3 h4
  have := h2 k h3
  simpa [iat, h3, h4] using this
def fillP (P : List Int) (a : Nat) (v : Int) : Nat → List Int
  | 0 => P
  | n + 1 => (fillP P a v n).set (a + n) v
theorem fillP_len (P : List Int) (a : Nat) (v : Int) : ∀ n, (fillP P a v n).length = P.length
  | 0 => rfl
  | n + 1 => by rw [fillP, List.length_set, fillP_len P a v n]
theorem fillP_at (P : List Int) (a : Nat) (v : Int) (k : Nat) (hk : k < P.length) : ∀ n, iat (fillP P a v n) k = if a ≤ k ∧ k < a + n then v else iat P k
  | 0 => by rw [if_neg (by omega)]; rfl
  | n + 1 => by
    rw [fillP, iat_set', fillP_len, fillP_at P a v k hk n]
    by_cases h1 : a + n = k
    · rw [if_pos ⟨h1, by omega⟩, if_pos (by omega)]
    · rw [if_neg (by omega)]
      by_cases h2 : a ≤ k ∧ k < a + n
      · rw [if_pos h2, if_pos (by omega)]
      · rw [if_neg h2, if_neg (by omega)]
theorem fillP_over (P : List Int) (a : Nat) (v u : Int) {n m : Nat} (h : n ≤ m) : fillP (fillP P a v n) a u m = fillP P a u m := by
  apply list_iat (by simp [fillP_len])
  intro k hk
  rw [fillP_len, fillP_len] at hk
  rw [fillP_at _ a u k (by rw [fillP_len]; exact hk), fillP_at P a u k hk, fillP_at P a v k hk]
  by_cases h1 : a ≤ k ∧ k < a + m
  · rw [if_pos h1, if_pos h1]
  · rw [if_neg h1, if_neg h1, if_neg (by omega)]
/-! ### The numbers of a list that another one has -/
def bothL (a b : List Int) : List Int := a.filter fun n => b.contains n
theorem bothL_self (a : List Int) : bothL a a = a := List.filter_eq_self.2 fun x hx => by simpa using hx
theorem bothL_sub {a b : List Int} {x : Int} (h : x ∈ bothL a b) : x ∈ a := (List.mem_filter.1 h).1
theorem bothL_len (a b : List Int) : (bothL a b).length ≤ a.length := List.length_filter_le _ _
/-! ### Hour by hour -/
def fwC (T : Nat → List Int) : Nat → List Int
  | 0 => T 0
  | h + 1 => if (bothL (fwC T h) (T (h + 1))).isEmpty then T (h + 1) else bothL (fwC T h) (T (h + 1))
def fwF (T : Nat → List Int) : Nat → Nat
  | 0 => 0
  | h + 1 => if (bothL (fwC T h) (T (h + 1))).isEmpty then h + 1 else fwF T h
theorem fwF_le (T : Nat → List Int) : ∀ h, fwF T h ≤ h
  | 0 => Nat.le_refl _
  | h + 1 => by have := fwF_le T h; unfold fwF; split <;> omega
def hd (l : List Int) : Int := l.headD 0
/-- The plan behind h hours, as the reference has it. -/
def fwS (T : Nat → List Int) : Nat → List Int
  | 0 => z24
  | h + 1 => fillP (fwS T h) (fwF T h) (hd (fwC T h)) (h + 1 - fwF T h)
/-- The plan behind h hours, as the program has it: what lies from fwF on is not yet filled. -/
def fwI (T : Nat → List Int) : Nat → List Int
  | 0 => z24
  | 1 => z24
  | h + 2 => if (bothL (fwC T h) (T (h + 1))).isEmpty then fillP (fwI T (h + 1)) (fwF T h) (hd (fwC T h)) (h + 1 - fwF T h) else fwI T (h + 1)
theorem fwS_len (T : Nat → List Int) : ∀ h, (fwS T h).length = 24
  | 0 => rfl
  | h + 1 => by rw [fwS, fillP_len, fwS_len T h]
theorem fwI_len (T : Nat → List Int) : ∀ h, (fwI T h).length = 24
  | 0 => rfl
  | 1 => rfl
  | h + 2 => by
    unfold fwI
    split
    · rw [fillP_len]; exact fwI_len T (h + 1)
    · exact fwI_len T (h + 1)
theorem fw_same (T : Nat → List Int) : ∀ h, fwS T (h + 1) = fillP (fwI T (h + 1)) (fwF T h) (hd (fwC T h)) (h + 1 - fwF T h)
  | 0 => rfl
  | h + 1 => by
    have ih := fw_same T h
    have hf := fwF_le T h
    rw [fwS]
    by_cases hb : (bothL (fwC T h) (T (h + 1))).isEmpty = true
    · have e1 : fwF T (h + 1) = h + 1 := by rw [fwF, if_pos hb]
      have e2 : fwI T (h + 1 + 1) = fillP (fwI T (h + 1)) (fwF T h) (hd (fwC T h)) (h + 1 - fwF T h) := by
        show (if (bothL (fwC T h) (T (h + 1))).isEmpty then _ else _) = _
        rw [if_pos hb]
      rw [e2, ih]
    · have e1 : fwF T (h + 1) = fwF T h := by rw [fwF, if_neg hb]
      have e2 : fwI T (h + 1 + 1) = fwI T (h + 1) := by
        show (if (bothL (fwC T h) (T (h + 1))).isEmpty then _ else _) = _
        rw [if_neg hb]
      rw [e1, e2, ih, fillP_over _ _ _ _ (by omega)]
theorem fwC_mem {T : Nat → List Int} {Q : Int → Prop} (hT : ∀ h x, x ∈ T h → Q x) : ∀ h x, x ∈ fwC T h → Q x
  | 0, x, hx => hT 0 x hx
  | h + 1, x, hx => by
    unfold fwC at hx
    split at hx
    · exact hT _ x hx
    · exact fwC_mem hT h x (bothL_sub hx)
theorem fwC_ne {T : Nat → List Int} (hT : ∀ h, h < 24 → T h ≠ []) : ∀ h, h < 24 → fwC T h ≠ []
  | 0, hh => hT 0 hh
  | h + 1, hh => by
    unfold fwC
    split
    · exact hT _ hh
    · next hb => intro e; rw [e] at hb; simp at hb
theorem fwC_len {T : Nat → List Int} (hT : ∀ h, (T h).length ≤ 129) : ∀ h, (fwC T h).length ≤ 129
  | 0 => hT 0
  | h + 1 => by
    unfold fwC
    split
    · exact hT _
    · have := bothL_len (fwC T h) (T (h + 1)); have := fwC_len hT h; omega
theorem hd_mem {l : List Int} (h : l ≠ []) : hd l ∈ l := by
  cases l with
  | nil => exact absurd rfl h
  | cons x r => simp [hd]
theorem hd_iat {l : List Int} : hd l = iat l 0 := by cases l <;> rfl
theorem tiltsK_mem {g : Int → Bool} {x : Int} (h : x ∈ tiltsK g 129) : -64 ≤ x ∧ x ≤ 64 := by
  simp only [tiltsK, List.mem_filter, List.mem_map, List.mem_range] at h
  obtain ⟨⟨j, hj, rfl⟩, _⟩ := h
  omega
theorem tiltsK_nodup (g : Int → Bool) (n : Nat) : (tiltsK g n).Nodup := by
  unfold tiltsK
  refine List.Pairwise.filter _ ?_
  rw [List.pairwise_map]
  exact List.nodup_range.imp fun hab e => hab (by omega)
/-- What the program's two loops write down: n as often as b has it. -/
def cntL (n : Int) (b : List Int) : List Int := (b.filter fun m => n == m).map fun _ => n
theorem cntL_nodup {n : Int} {b : List Int} (h : b.Nodup) : cntL n b = if b.contains n then [n] else [] := by
  unfold cntL
  induction b with
  | nil => rfl
  | cons x r ih =>
    rw [List.nodup_cons] at h
    have ih := ih h.2
    by_cases e : n = x
    · subst e
      have h0 : r.filter (fun m => n == m) = [] := List.filter_eq_nil_iff.2 fun y hy hc => h.1 (by have := beq_iff_eq.1 hc; subst this; exact hy)
      simp [h0]
    · have e2 : (n == x) = false := by simpa using e
      rw [List.filter_cons, e2]
      simp only [Bool.false_eq_true, if_false]
      rw [ih, List.contains_cons, e2, Bool.false_or]
def bothK (a b : List Int) (k : Nat) : List Int := bothL (a.take k) b
theorem bothK_succ (a b : List Int) {k : Nat} (hk : k < a.length) : bothK a b (k + 1) = bothK a b k ++ if b.contains (iat a k) then [iat a k] else [] := by
  have e : a.take (k + 1) = a.take k ++ [iat a k] := by rw [List.take_succ_eq_append_getElem hk]; simp [iat, hk]
  unfold bothK bothL
  rw [e, List.filter_append]
  congr 1
  simp [List.filter_cons]
theorem bothK_all (a b : List Int) : bothK a b a.length = bothL a b := by simp [bothK]
theorem bothK_len (a b : List Int) (k : Nat) : (bothK a b k).length ≤ a.length := by
  have := bothL_len (a.take k) b
  unfold bothK
  simp at this
  omega
theorem cntL_succ (n : Int) (b : List Int) {k : Nat} (hk : k < b.length) : cntL n (b.take (k + 1)) = cntL n (b.take k) ++ if n == iat b k then [n] else [] := by
  have e : b.take (k + 1) = b.take k ++ [iat b k] := by rw [List.take_succ_eq_append_getElem hk]; simp [iat, hk]
  unfold cntL
  rw [e, List.filter_append, List.map_append]
  congr 1
  by_cases h : n = iat b k
  · simp [h]
  · have : (n == iat b k) = false := by simpa using h
    simp [this]
theorem cntL_len (n : Int) (b : List Int) : (cntL n b).length ≤ b.length := by simp only [cntL, List.length_map]; exact List.length_filter_le _ _
theorem contains_take (b : List Int) (n : Int) {k : Nat} (hk : k < b.length) : (b.take (k + 1)).contains n = ((b.take k).contains n || iat b k == n) := by
  have e : b.take (k + 1) = b.take k ++ [iat b k] := by rw [List.take_succ_eq_append_getElem hk]; simp [iat, hk]
  rw [e, Bool.eq_iff_iff]
  simp only [List.contains_iff_mem, List.mem_append, List.mem_singleton, Bool.or_eq_true, beq_iff_eq]
  exact or_congr_right ⟨fun h => h.symm, fun h => h.symm⟩
theorem c_l00Has (v : Value) (L : List Int) (n : Int) (w : World) (hL : Ints w v L) :
    Calls Try.prog 122 #[v, .int .i64 n] w fun e w' => e = .returned (.bool (L.contains n)) ∧ w = w' := by
  obtain ⟨a, cap, rfl, hl, hat⟩ := hL.any
  have AT := hid hat
  clear hat hL
  go_enter Try.func122, Try.ntmps122
  go_wp2_with fail
  go_loop [5] (fun i => ∃ k : Nat, k ≤ L.length ∧ i = .int .i64 k ∧ Hid ((L.take k).contains n = false)) (fun i => L.length - (intOf i).toNat)
  case atStart => exact ⟨0, by omega, rfl, hid (by simp)⟩
  case round =>
    obtain ⟨k, hk, rfl, hc⟩ := hrel
    by_cases hlt : k < L.length
    · obtain ⟨b, o, rfl, hcell⟩ := AT.out (by omega)
      have h1 := hcell k hlt
      have CT := hid (contains_take L n hlt)
      clear hcell
      cases he : (iat L k == n)
      · have N : Hid ((L.take (k + 1)).contains n = false) := hid (by rw [CT.out, hc.out, he]; rfl)
        go_wp2_with fail
        go_round
        case rel => exact ⟨k + 1, by omega, by go_num, N⟩
        case measure => simp [intOf]; omega
      · have N : Hid (L.contains n = true) := hid (by
          have : (L.take (k + 1)).contains n = true := by rw [CT.out, he, Bool.or_true]
          rw [List.contains_iff_mem] at this ⊢
          exact List.mem_of_mem_take this)
        go_wp2_with fail
        go_ret
        exact ⟨ret_bool (by have h := N.out; simp only [List.contains_eq_mem] at h; simp at h; simp [h]), rfl⟩
    · obtain rfl : k = L.length := by omega
      have N : Hid (L.contains n = false) := hid (by have := hc.out; rwa [List.take_length] at this)
      go_wp2_with fail
      go_ret
      exact ⟨ret_bool (by have h := N.out; simp only [List.contains_eq_mem] at h; simp at h; simp [h]), rfl⟩
theorem c_l07Both (u v : Value) (A L : List Int) (w : World) (hA : Ints w u A) (hL : Ints w v L) (h129 : A.length ≤ 129) :
    Calls Try.prog 95 #[u, v] w fun e w' => (∃ r, e = .returned r ∧ GotI w' w.heap.size r (bothL A L)) ∧ Below w.heap.size w w' := by
  have HA := hid hA
  have HL := hid hL
  obtain ⟨a, cap, rfl, hl, hat⟩ := hA.any
  obtain ⟨i0, hi, hz0, hz1, hz2⟩ := info_parts info_int64
  have HI := hid hi
  have HZ0 := hid hz0
  have HZ1 := hid hz1
  have HZ2 := hid hz2
  clear hat hA hL hi hz0 hz1 hz2
  go_enter Try.func95, Try.ntmps95
  go_wp2_with fail
  go_loopw [5, 6] (fun r i wr => ∃ k : Nat, k ≤ A.length ∧ i = .int .i64 k ∧ wr.ownsRow w.heap.size 2 1 r (bothK A L k).length (mInt (bothK A L k)) ∧ Below w.heap.size w wr) (fun _ i _ => A.length - (intOf i).toNat)
  case atStart => exact ⟨0, by omega, rfl, by have := owns_empty w 2; simpa [bothK, bothL, mInt] using this, (Below.refl _ _).alloc (Nat.le_refl _) _⟩
  case round =>
    obtain ⟨k, hk, rfl, hown, hbel⟩ := hrel
    have O := hid hown
    have BE := hid hbel
    clear hown hbel
    by_cases hlt : k < A.length
    · have HA1 := hid (HA.out.below BE.out)
      have HL1 := hid (HL.out.below BE.out)
      obtain ⟨a', cap', e', _, hat'⟩ := HA1.out.any
      cases e'
      obtain ⟨b, o, rfl, hcell⟩ := hat' (by omega)
      have h1 := hcell k hlt
      have BS := hid (bothK_succ A L hlt)
      have BL := bothK_len A L k
      clear hcell hat'
      cases he : L.contains (iat A k)
      · have C := hid (fun w hL => he ▸ c_l00Has v L (iat A k) w hL)
        have N : Hid (bothK A L (k + 1) = bothK A L k) := hid (by rw [BS.out, he]; simp)
        go_wp2_with fail
        refine (C.out _ HL1.out).mono ?_
        rintro e w4 ⟨rfl, rfl⟩
        go_wp2_with fail
        exact ⟨⟨k + 1, by omega, by go_num, by rw [N.out]; exact O.out, BE.out⟩, by simp [intOf]; omega⟩
      · have C := hid (fun w hL => he ▸ c_l00Has v L (iat A k) w hL)
        have N : Hid (bothK A L (k + 1) = bothK A L k ++ [iat A k]) := hid (by rw [BS.out, he]; simp)
        go_wp2_with fail
        refine (C.out _ HL1.out).mono ?_
        rintro e w4 ⟨rfl, rfl⟩
        go_wp2_with (at_builtin; refine wpList_append_own _ rfl _ _ 58 rfl w.heap.size 2 i0 (.int .i64 0) 1 8 Try.underlying58 HI.out HZ0.out HZ1.out HZ2.out rfl (by decide) _ _ _ rfl (O.out.alloc _) ⟨wr.heap.size, 0, none⟩ 1 1 [.int .i64 (iat A k)] rfl rfl (one_at _ _ _) (int_cell _) (by unfold maxLen; omega) (by omega) (by have e2 := BE.out.size; simp; omega) ?_; intro v' w3 hown' hgrow _)
        have O1 := hid hown'
        have B4 := hid (append_below2 BE.out BE.out.size O.out hgrow)
        clear hown' hgrow
        go_wp2_with fail
        exact ⟨⟨k + 1, by omega, by go_num, by rw [N.out, mInt, List.map_append, List.length_append]; exact O1.out, B4.out⟩, by simp [intOf]; omega⟩
    · obtain rfl : k = A.length := by omega
      have O2 : Hid (GotI wr w.heap.size _ (bothL A L)) := hid (by have := O.out; rw [bothK_all] at this; exact this)
      go_wp2_with fail
      go_ret
      exact ⟨⟨_, rfl, O2.out⟩, BE.out⟩
theorem c_both (u v : Value) (A L : List Int) (w : World) (hA : Ints w u A) (hL : Ints w v L) (h129 : A.length ≤ 129) (hL129 : L.length ≤ 129) (hnd : L.Nodup) :
    Calls Try.prog 98 #[u, v] w fun e w' => (∃ r, e = .returned r ∧ GotI w' w.heap.size r (bothL A L)) ∧ Below w.heap.size w w' := by
  have HA := hid hA
  have HL := hid hL
  have ND := hid hnd
  obtain ⟨a, cap, rfl, hl, hat⟩ := hA.any
  obtain ⟨a2, cap2, rfl, hl2, hat2⟩ := hL.any
  obtain ⟨i0, hi, hz0, hz1, hz2⟩ := info_parts info_int64
  have HI := hid hi
  have HZ0 := hid hz0
  have HZ1 := hid hz1
  have HZ2 := hid hz2
  clear hat hat2 hA hL hi hz0 hz1 hz2 hnd
  go_enter Try.func98, Try.ntmps98
  go_wp2_with fail
  go_loopw [5, 13] (fun r i wr => ∃ k : Nat, k ≤ A.length ∧ i = .int .i64 k ∧ wr.ownsRow w.heap.size 2 1 r (bothK A L k).length (mInt (bothK A L k)) ∧ Below w.heap.size w wr) (fun _ i _ => A.length - (intOf i).toNat)
  case atStart => exact ⟨0, by omega, rfl, by have := owns_empty w 2; simpa [bothK, bothL, mInt] using this, (Below.refl _ _).alloc (Nat.le_refl _) _⟩
  case round =>
    obtain ⟨k, hk, rfl, hown, hbel⟩ := hrel
    have O := hid hown
    have BE := hid hbel
    clear hown hbel
    by_cases hlt : k < A.length
    · have HA1 := hid (HA.out.below BE.out)
      obtain ⟨a', cap', e', _, hat'⟩ := HA1.out.any
      cases e'
      obtain ⟨b, o, rfl, hcell⟩ := hat' (by omega)
      have h1 := hcell k hlt
      have BS := hid (bothK_succ A L hlt)
      have BL := bothK_len A L k
      clear hcell hat'
      go_wp2_with fail
      go_loopw [5, 19] (fun r i wr => ∃ q : Nat, q ≤ L.length ∧ i = .int .i64 q ∧ wr.ownsRow w.heap.size 2 1 r (bothK A L k ++ cntL (iat A k) (L.take q)).length (mInt (bothK A L k ++ cntL (iat A k) (L.take q))) ∧ Below w.heap.size w wr) (fun _ i _ => L.length - (intOf i).toNat)
      case atStart => exact ⟨0, by omega, rfl, by have := O.out; simpa [cntL] using this, BE.out⟩
      case round =>
        obtain ⟨q, hq, rfl, hown, hbel⟩ := hrel
        have O2 := hid hown
        have BE2 := hid hbel
        clear hown hbel
        by_cases hlq : q < L.length
        · have HL1 := hid (HL.out.below BE2.out)
          obtain ⟨a3, cap3, e3, _, hat3⟩ := HL1.out.any
          cases e3
          obtain ⟨b3, o3, rfl, hcell3⟩ := hat3 (by omega)
          have h3 := hcell3 q hlq
          have CS := hid (cntL_succ (iat A k) L hlq)
          have CL := cntL_len (iat A k) (L.take q)
          have TL : (L.take q).length ≤ 129 := by simp; omega
          clear hcell3 hat3
          cases he : (iat A k == iat L q)
          · have N : Hid (bothK A L k ++ cntL (iat A k) (L.take (q + 1)) = bothK A L k ++ cntL (iat A k) (L.take q)) := hid (by rw [CS.out, he]; simp)
            go_wp2_with fail
            exact ⟨⟨q + 1, by omega, by go_num, by rw [N.out]; exact O2.out, BE2.out⟩, by simp [intOf]; omega⟩
          · have N : Hid (bothK A L k ++ cntL (iat A k) (L.take (q + 1)) = (bothK A L k ++ cntL (iat A k) (L.take q)) ++ [iat A k]) := hid (by rw [CS.out, he]; simp)
            have LB : (bothK A L k ++ cntL (iat A k) (L.take q)).length ≤ 300 := by rw [List.length_append]; omega
            go_wp2_with (at_builtin; refine wpList_append_own _ rfl _ _ 58 rfl w.heap.size 2 i0 (.int .i64 0) 1 8 Try.underlying58 HI.out HZ0.out HZ1.out HZ2.out rfl (by decide) _ _ _ rfl (O2.out.alloc _) ⟨wr.heap.size, 0, none⟩ 1 1 [.int .i64 (iat A k)] rfl rfl (one_at _ _ _) (int_cell _) (by unfold maxLen; omega) (by omega) (by have e2 := BE2.out.size; simp; omega) ?_; intro v' w3 hown' hgrow _)
            have O1 := hid hown'
            have B4 := hid (append_below2 BE2.out BE2.out.size O2.out hgrow)
            clear hown' hgrow LB
            go_wp2_with fail
            exact ⟨⟨q + 1, by omega, by go_num, by rw [N.out, mInt, List.map_append, List.length_append (bs := [iat A k])]; exact O1.out, B4.out⟩, by simp [intOf]; omega⟩
        · obtain rfl : q = L.length := by omega
          have N : Hid (bothK A L k ++ cntL (iat A k) (L.take L.length) = bothK A L (k + 1)) := hid (by rw [List.take_length, cntL_nodup ND.out, BS.out])
          go_wp2_with fail
          exact ⟨⟨k + 1, by omega, by go_num, by rw [← N.out]; exact O2.out, BE2.out⟩, by simp [intOf]; omega⟩
    · obtain rfl : k = A.length := by omega
      have O2 : Hid (GotI wr w.heap.size _ (bothL A L)) := hid (by have := O.out; rw [bothK_all] at this; exact this)
      go_wp2_with fail
      go_ret
      exact ⟨⟨_, rfl, O2.out⟩, BE.out⟩
end Go.Proofs.Ythnffhmefgfnkaa
