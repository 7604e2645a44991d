/- Walks of the library's stable sort of at most 48 numbers of 32 bits. -/
import Derived.Test.YtpaoccnffmngfaaSym
namespace Go.Proofs.Ytpaoccnffmngfaa
set_option maxRecDepth 20000
open Go.RowKit

/-! ### Blocks that are sorted, and have the numbers that they had at first -/
def Inb (l m : List Nat) (x y : Nat) : Prop := ∀ i, x ≤ i → i < y → ∃ j, x ≤ j ∧ j < y ∧ fat m i = fat l j
structure Blk (le : Nat → Nat → Prop) (l m : List Nat) (x y : Nat) : Prop where
  srt : Srt le m x y
  inb : Inb l m x y
theorem Inb.refl (l : List Nat) (x y : Nat) : Inb l l x y := fun i h1 h2 => ⟨i, h1, h2, rfl⟩
theorem Inb.of {l m : List Nat} {x y : Nat} (h : ∀ k, x ≤ k → fat m k = fat l k) : Inb l m x y := fun i h1 h2 => ⟨i, h1, h2, h i h1⟩
theorem Inb.step {l m m' : List Nat} {x y : Nat} (h : Inb l m x y) (s : Steps x y m m') : Inb l m' x y := fun i h1 h2 => by
  obtain ⟨j, a1, a2, a3⟩ := s.from_ i h1 h2
  obtain ⟨k, b1, b2, b3⟩ := h j a1 a2
  exact ⟨k, b1, b2, a3.trans b3⟩
theorem Inb.join {l m : List Nat} {x y z : Nat} (h : Inb l m x y) (k : Inb l m y z) (h1 : x ≤ y) (h2 : y ≤ z) : Inb l m x z := fun i a b => by
  rcases Nat.lt_or_ge i y with c | c
  · obtain ⟨j, p, q, r⟩ := h i a c; exact ⟨j, p, by omega, r⟩
  · obtain ⟨j, p, q, r⟩ := k i c b; exact ⟨j, by omega, q, r⟩
theorem Blk.none (le : Nat → Nat → Prop) (l m : List Nat) {x y : Nat} (h : y ≤ x) : Blk le l m x y := ⟨Srt.none _ _ _ h, fun i _ _ => by omega⟩
theorem Blk.keep {le : Nat → Nat → Prop} {l m m' : List Nat} {p q x y : Nat} (h : Blk le l m p q) (s : Steps x y m m') (ho : q ≤ x ∨ y ≤ p) : Blk le l m' p q :=
  ⟨fun i j h1 h2 h3 => by rw [s.out i (by omega), s.out j (by omega)]; exact h.srt i j h1 h2 h3, fun i h1 h2 => by rw [s.out i (by omega)]; exact h.inb i h1 h2⟩
/-- What holds when the blocks below x are sorted. -/
structure P1 (le : Nat → Nat → Prop) (l m : List Nat) (x : Nat) : Prop where
  perm : m.Perm l
  is : x = 0 ∨ x = 20 ∨ x = 40
  out : ∀ k, x ≤ k → fat m k = fat l k
  a : 20 ≤ x → Blk le l m 0 20
  b : 40 ≤ x → Blk le l m 20 40
structure P20 (le : Nat → Nat → Prop) (l m : List Nat) (n : Nat) : Prop where
  perm : m.Perm l
  a : Blk le l m 0 (min 20 n)
  b : Blk le l m (min 20 n) (min 40 n)
  c : Blk le l m (min 40 n) n
structure P40 (le : Nat → Nat → Prop) (l m : List Nat) (n : Nat) : Prop where
  perm : m.Perm l
  a : Blk le l m 0 (min 40 n)
  b : Blk le l m (min 40 n) n
structure P80 (le : Nat → Nat → Prop) (l m : List Nat) (n : Nat) : Prop where
  perm : m.Perm l
  a : Blk le l m 0 n
theorem P1.start (le : Nat → Nat → Prop) (l : List Nat) : P1 le l l 0 := ⟨.refl _, .inl rfl, fun _ _ => rfl, fun h => by omega, fun h => by omega⟩
theorem P1.next {le : Nat → Nat → Prop} {l m m' : List Nat} {x n : Nat} (h : P1 le l m x) (hx : x + 20 ≤ n) (hn : n ≤ 48) (s : Steps x (x + 20) m m') (hs : Srt le m' x (x + 20)) : P1 le l m' (x + 20) := by
  have B : Blk le l m' x (x + 20) := ⟨hs, (Inb.of h.out).step s⟩
  refine ⟨s.perm.trans h.perm, ?_, fun k hk => (s.out k (by omega)).trans (h.out k (by omega)), fun _ => ?_, fun _ => ?_⟩
  · rcases h.is with e | e | e <;> omega
  · rcases h.is with e | e | e
    · subst e; exact B
    · exact (h.a (by omega)).keep s (by omega)
    · omega
  · rcases h.is with e | e | e
    · omega
    · subst e; exact B
    · omega
theorem P1.done {le : Nat → Nat → Prop} {l m m' : List Nat} {x n : Nat} (h : P1 le l m x) (hx : x ≤ n) (hx2 : n < x + 20) (hn : n ≤ 48) (s : Steps x n m m') (hs : Srt le m' x n) : P20 le l m' n := by
  have B : Blk le l m' x n := ⟨hs, (Inb.of h.out).step s⟩
  refine ⟨s.perm.trans h.perm, ?_, ?_, ?_⟩
  · rcases h.is with e | e | e
    · subst e; rw [show min 20 n = n by omega]; exact B
    · rw [show min 20 n = 20 by omega]; exact (h.a (by omega)).keep s (by omega)
    · rw [show min 20 n = 20 by omega]; exact (h.a (by omega)).keep s (by omega)
  · rcases h.is with e | e | e
    · exact Blk.none _ _ _ (by omega)
    · subst e; rw [show min 20 n = 20 by omega, show min 40 n = n by omega]; exact B
    · rw [show min 20 n = 20 by omega, show min 40 n = 40 by omega]; exact (h.b (by omega)).keep s (by omega)
  · rcases h.is with e | e | e
    · exact Blk.none _ _ _ (by omega)
    · exact Blk.none _ _ _ (by omega)
    · subst e; rw [show min 40 n = 40 by omega]; exact B
theorem P20.merge {le : Nat → Nat → Prop} {l m m' : List Nat} {n y : Nat} (h : P20 le l m n) (hy : y = min 40 n) (h20 : 20 ≤ n) (s : Steps 0 y m m') (hs : Srt le m' 0 y) : P40 le l m' n := by
  subst hy
  refine ⟨s.perm.trans h.perm, ⟨hs, (h.a.inb.join h.b.inb (by omega) (by omega)).step s⟩, h.c.keep s (by omega)⟩
theorem P20.low {le : Nat → Nat → Prop} {l m : List Nat} {n : Nat} (h : P20 le l m n) (hn : n ≤ 20) : m.Perm l ∧ Srt le m 0 n := by
  have := h.a.srt; rw [show min 20 n = n by omega] at this; exact ⟨h.perm, this⟩
theorem P40.low {le : Nat → Nat → Prop} {l m : List Nat} {n : Nat} (h : P40 le l m n) (hn : n ≤ 40) : m.Perm l ∧ Srt le m 0 n := by
  have := h.a.srt; rw [show min 40 n = n by omega] at this; exact ⟨h.perm, this⟩
theorem P40.merge {le : Nat → Nat → Prop} {l m m' : List Nat} {n : Nat} (h : P40 le l m n) (s : Steps 0 n m m') (hs : Srt le m' 0 n) : P80 le l m' n :=
  ⟨s.perm.trans h.perm, ⟨hs, (h.a.inb.join h.b.inb (by omega) (by omega)).step s⟩⟩
theorem tells_of {le : Nat → Nat → Prop} {cf : Nat → Nat → Bool} {l m : List Nat} {a k b n : Nat} (hT : ∀ i j, i < j → j < n → Tells le cf (fat l j) (fat l i)) (h1 : Inb l m a k) (h2 : Inb l m k b) (hb : b ≤ n) :
    ∀ i j, a ≤ i → i < k → k ≤ j → j < b → Tells le cf (fat m j) (fat m i) := fun i j p1 p2 p3 p4 => by
  obtain ⟨i', a1, a2, a3⟩ := h1 i p1 p2
  obtain ⟨j', b1, b2, b3⟩ := h2 j p3 p4
  rw [a3, b3]
  exact hT i' j' (by omega) (by omega)
/-- How far the blocks are merged at a size. -/
def AtSize (le : Nat → Nat → Prop) (l m : List Nat) (n bs : Nat) : Prop := (bs = 20 ∧ P20 le l m n) ∨ (bs = 40 ∧ P40 le l m n) ∨ (bs = 80 ∧ P80 le l m n)
theorem AtSize.end_ {le : Nat → Nat → Prop} {l m : List Nat} {n bs : Nat} (h : AtSize le l m n bs) (hn : n ≤ bs) (h48 : n ≤ 48) : m.Perm l ∧ Srt le m 0 n := by
  rcases h with ⟨e, h⟩ | ⟨e, h⟩ | ⟨e, h⟩
  · exact h.low (by omega)
  · exact h.low (by omega)
  · exact ⟨h.perm, h.a.srt⟩
/-- Within a size: behind block x. -/
def InSize (le : Nat → Nat → Prop) (l m : List Nat) (n bs x : Nat) : Prop := (bs = 20 ∧ x = 0 ∧ P20 le l m n) ∨ (bs = 20 ∧ x = 40 ∧ 40 ≤ n ∧ P40 le l m n) ∨ (bs = 40 ∧ x = 0 ∧ P40 le l m n)
set_option maxHeartbeats 4000000 in
theorem c_stable (le : Nat → Nat → Prop) (hO : Ord le) (c : Nat) (ci : Nat → Nat → Int) (hc : Cmp c ci) (lo g n cap : Nat) (l : List Nat) (w : World) (hR : Row w lo g n cap l) (hn : n ≤ 48) (hT : ∀ i j, i < j → j < n → Tells le (lessBy ci) (fat l j) (fat l i)) :
    Calls Try.prog 88 #[.slice (some ⟨g, 0, none⟩) n cap, .int .i64 (n : Int), .func (.func c) #[] #[]] w fun e w' => e = .returned (.tuple #[]) ∧ ∃ m, m.Perm l ∧ Srt le m 0 n ∧ Row w' lo g n cap m ∧ w.grownBy w' (some g) := by
  have eg := hc.1
  have HC := hid hc
  have R := hid hR
  have HO := hid hO
  have HT := hid hT
  clear hR hc hO hT
  have IS := hid (fun (a b : Nat) (m : List Nat) wx hR h1 h2 h3 => c_insertionSort le HO.out c ci HC.out lo g n cap a b m wx hR (by omega) h1 h2 h3)
  have SM := hid (fun (a k b : Nat) (m : List Nat) wx hR h1 h2 h3 h4 h5 h6 => c_symMerge le HO.out c ci HC.out lo g n cap (by omega) b a k b m wx (by omega) hR h1 h2 h3 h4 h5 h6)
  go_enter Try.func88, Try.ntmps88
  go_wp2_with fail
  go_loopw [7, 8] (fun av bv wr => ∃ (x y : Nat) (m : List Nat), y = x + 20 ∧ x ≤ n ∧ av = .int .i64 x ∧ bv = .int .i64 y ∧ P1 le l m x ∧ Row wr lo g n cap m ∧ w.grownBy wr (some g)) (fun av _ _ => 48 - (intOf av).toNat)
  case atStart => exact ⟨0, 20, l, by omega, by omega, rfl, rfl, P1.start _ _, R.out, World.grownBy.refl _ _⟩
  case round =>
    obtain ⟨x, y, m, hy, hx, rfl, rfl, hp, hr, hg⟩ := hrel
    have Y := hid hy
    have P := hid hp
    have R1 := hid hr
    have G1 := hid hg
    clear hy hp hr hg
    have ml : m.length = n := R1.out.len
    have ML := hid ml
    clear ml
    by_cases hlt : y ≤ n
    · go_wp2_with fail
      refine (IS.out x y m _ R1.out (by have := Y.out; omega) (by omega) (fun i j h1 h2 h3 => by rw [P.out.out i h1, P.out.out j (by omega)]; exact HT.out i j h2 (by omega))).mono ?_
      rintro e w1 ⟨rfl, m1, hs, ht, hr, hg⟩
      have S1 := hid hs
      have T1 := hid ht
      have R2 := hid hr
      have G2 := hid (grows G1.out hg)
      clear hs ht hr hg
      go_wp2_with fail
      exact ⟨⟨y, y + 20, m1, rfl, hlt, rfl, by go_num, by have e := Y.out; subst e; exact P.out.next hlt hn S1.out T1.out, R2.out, G2.out⟩, by have := Y.out; simp [intOf]; omega⟩
    · go_wp2_with fail
      refine (IS.out x n m _ R1.out hx (Nat.le_refl _) (fun i j h1 h2 h3 => by rw [P.out.out i h1, P.out.out j (by omega)]; exact HT.out i j h2 (by omega))).mono ?_
      rintro e w1 ⟨rfl, m1, hs, ht, hr, hg⟩
      have Q := hid (P.out.done hx (by have := Y.out; omega) hn hs ht)
      have R2 := hid hr
      have G2 := hid (grows G1.out hg)
      clear hs ht hr hg
      go_wp2_with fail
      go_loopw [6] (fun sv wr => ∃ (bs : Nat) (m : List Nat), 20 ≤ bs ∧ bs ≤ 80 ∧ sv = .int .i64 bs ∧ AtSize le l m n bs ∧ Row wr lo g n cap m ∧ w.grownBy wr (some g)) (fun sv _ => 96 - (intOf sv).toNat)
      case atStart => exact ⟨20, m1, by omega, by omega, rfl, .inl ⟨rfl, Q.out⟩, R2.out, G2.out⟩
      case round =>
        obtain ⟨bs, m2, hb1, hb2, rfl, ha, hr, hg⟩ := hrel
        have A := hid ha
        have R3 := hid hr
        have G3 := hid hg
        clear ha hr hg
        by_cases hlb : bs < n
        · obtain ⟨y2, hy2⟩ : ∃ y2 : Nat, y2 = 2 * bs := ⟨_, rfl⟩
          have Y2 := hid hy2
          have I0 : Hid (InSize le l m2 n bs 0) := hid (by
            rcases A.out with ⟨e, h⟩ | ⟨e, h⟩ | ⟨e, h⟩
            · exact .inl ⟨e, rfl, h⟩
            · exact .inr (.inr ⟨e, rfl, h⟩)
            · omega)
          clear hy2
          go_wp2_with fail
          go_loopw [7, 8] (fun av bv wr => ∃ (x y : Nat) (m : List Nat), y = x + y2 ∧ x ≤ n ∧ av = .int .i64 x ∧ bv = .int .i64 y ∧ InSize le l m n bs x ∧ Row wr lo g n cap m ∧ w.grownBy wr (some g)) (fun av _ _ => 48 - (intOf av).toNat)
          case atStart => exact ⟨0, y2, m2, by omega, by omega, rfl, by have := Y2.out; go_num, I0.out, R3.out, G3.out⟩
          case round =>
            obtain ⟨x, y, m, hy, hx, rfl, rfl, hp, hr, hg⟩ := hrel
            have Y := hid hy
            have P := hid hp
            have R4 := hid hr
            have G4 := hid hg
            obtain ⟨z, hz⟩ : ∃ z, z = x + bs := ⟨_, rfl⟩
            have Z := hid hz
            clear hy hp hr hg hz
            have ez : (x : Int) + (bs : Int) = (z : Int) := by have := Z.out; omega
            have EZ := hid ez
            clear ez
            by_cases hly : y ≤ n
            · obtain ⟨e1, e2, h20⟩ : bs = 20 ∧ x = 0 ∧ P20 le l m n := by
                rcases P.out with ⟨e, e2, h⟩ | ⟨e, e2, h, h3⟩ | ⟨e, e2, h⟩
                · exact ⟨e, e2, h⟩
                · have := Y.out; have := Y2.out; omega
                · have := Y.out; have := Y2.out; omega
              have E1 := hid e1
              have E2 := hid e2
              have H20 := hid h20
              have k1 : Hid (z = 20 ∧ y = 40) := hid (by have := Y.out; have := Y2.out; have := Z.out; omega)
              clear e1 e2 h20
              go_wp2_with fail
              simp only [EZ.out]
              refine (SM.out x z y m _ R4.out (by have := k1.out; have := E2.out; omega) (by have := k1.out; omega) hly
                (by have h := H20.out.a.srt; have := k1.out; have := E2.out; rw [show min 20 n = z by omega] at h; rw [show x = 0 by omega]; exact h)
                (by have h := H20.out.b.srt; have := k1.out; rw [show min 20 n = z by omega, show min 40 n = y by omega] at h; exact h)
                (tells_of HT.out (by have h := H20.out.a.inb; have := k1.out; have := E2.out; rw [show min 20 n = z by omega] at h; rw [show x = 0 by omega]; exact h)
                  (by have h := H20.out.b.inb; have := k1.out; rw [show min 20 n = z by omega, show min 40 n = y by omega] at h; exact h) hly)).mono ?_
              rintro e w3 ⟨rfl, m3, hs, ht, hr, hg⟩
              have N := hid (H20.out.merge (m' := m3) (y := y) (by have := k1.out; omega) (by have := k1.out; omega) (by have := E2.out; rwa [show x = 0 by omega] at hs) (by have := E2.out; rwa [show x = 0 by omega] at ht))
              have R5 := hid hr
              have G5 := hid (grows G4.out hg)
              clear hs ht hr hg
              go_wp2_with fail
              exact ⟨⟨y, y + y2, m3, rfl, hly, rfl, by have := Y2.out; go_num, .inr (.inl ⟨E1.out, k1.out.2, by have := k1.out; omega, N.out⟩), R5.out, G5.out⟩, by have := k1.out; have := E2.out; simp [intOf]; omega⟩
            · by_cases hlz : z < n
              · have hc : (bs = 20 ∧ P20 le l m n ∧ n < 40) ∨ (bs = 40 ∧ P40 le l m n) := by
                  rcases P.out with ⟨e, e2, h⟩ | ⟨e, e2, h, h3⟩ | ⟨e, e2, h⟩
                  · exact .inl ⟨e, h, by have := Y.out; have := Y2.out; omega⟩
                  · have := Z.out; omega
                  · exact .inr ⟨e, h⟩
                have hx0 : x = 0 := by
                  rcases P.out with ⟨e, e2, h⟩ | ⟨e, e2, h, h3⟩ | ⟨e, e2, h⟩
                  · exact e2
                  · have := Z.out; omega
                  · exact e2
                have hbz : z = bs := by have := Z.out; omega
                have HCC := hid hc
                have X0 := hid hx0
                have BZ := hid hbz
                have SS : Hid (Blk le l m x z ∧ Blk le l m z n) := hid (by
                  rw [X0.out, BZ.out]
                  rcases HCC.out with ⟨e, h, h3⟩ | ⟨e, h⟩
                  · have b := h.b
                    have a := h.a
                    rw [show min 20 n = bs by have := BZ.out; omega] at a b
                    rw [show min 40 n = n by omega] at b
                    exact ⟨a, b⟩
                  · have b := h.b
                    have a := h.a
                    rw [show min 40 n = bs by have := BZ.out; omega] at a b
                    exact ⟨a, b⟩)
                clear hc hx0 hbz
                have hlx : x + bs < n := by have := Z.out; omega
                go_wp2_with fail
                simp only [EZ.out]
                refine (SM.out x z n m _ R4.out (by have := X0.out; have := BZ.out; omega) hlz (Nat.le_refl _) SS.out.1.srt SS.out.2.srt (tells_of HT.out SS.out.1.inb SS.out.2.inb (Nat.le_refl _))).mono ?_
                rintro e w3 ⟨rfl, m3, hs, ht, hr, hg⟩
                have N : Hid (AtSize le l m3 n (bs * 2)) := hid (by
                  rw [X0.out] at hs ht
                  rcases HCC.out with ⟨e, h, h3⟩ | ⟨e, h⟩
                  · exact .inr (.inl ⟨by omega, h.merge (y := n) (by omega) (by have := BZ.out; omega) hs ht⟩)
                  · exact .inr (.inr ⟨by omega, h.merge hs ht⟩))
                have NB : bs * 2 ≤ 80 := by rcases HCC.out with ⟨e, _⟩ | ⟨e, _⟩ <;> omega
                have R5 := hid hr
                have G5 := hid (grows G4.out hg)
                clear hs ht hr hg
                go_wp2_with fail
                exact ⟨⟨bs * 2, m3, by omega, NB, by go_num, N.out, R5.out, G5.out⟩, by simp [intOf]; omega⟩
              · have N : Hid (AtSize le l m n (bs * 2)) := hid (by
                  rcases P.out with ⟨e, e2, h⟩ | ⟨e, e2, h, h3⟩ | ⟨e, e2, h⟩
                  · have := Z.out; omega
                  · exact .inr (.inl ⟨by omega, h3⟩)
                  · have := Z.out; omega)
                have NB : bs * 2 ≤ 80 := by rcases N.out with ⟨e, _⟩ | ⟨e, _⟩ | ⟨e, _⟩ <;> omega
                have hlx : n ≤ x + bs := by have := Z.out; omega
                go_wp2_with fail
                exact ⟨⟨bs * 2, m, by omega, NB, by go_num, N.out, R4.out, G4.out⟩, by simp [intOf]; omega⟩
        · have E := hid (A.out.end_ (by omega) hn)
          go_wp2_with fail
          go_end0
          exact ⟨rfl, m2, E.out.1, E.out.2, R3.out, G3.out⟩
end Go.Proofs.Ytpaoccnffmngfaa
