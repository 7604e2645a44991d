/- Whole numbers read from texts: the program's side. -/
import Derived.Test.YtdcjoafagalejaaDoorText
import Derived.Test.YtdcjoafagalejaaDoorShelfC
import Derived.Lib.ParseIntBTie
import Derived.Lib.AtoiErrMem
namespace Go.Proofs.YtdcjoafagalejaaDoor
set_option maxRecDepth 20000
open Go.RowKit

/-- The whole number with a text in decimal. -/
def wholeOf (s : List UInt8) : Option Int :=
  match Lib.parseIntB 64 s with
  | .ok v => if Lib.itoa v = s then some v else none
  | _ => none
/-- What the library's two errors hold. -/
def Errs (w : World) : Prop := (∃ te pe, w.cell? ⟨3, 0, none⟩ = some (.iface te pe)) ∧ ∃ te pe, w.cell? ⟨4, 0, none⟩ = some (.iface te pe)
theorem Errs.below {w w' : World} (h : Errs w) (hb : Below w.heap.size w w') : Errs w' :=
  ⟨let ⟨t, p, h1⟩ := h.1; ⟨t, p, cell_stays hb h1⟩, let ⟨t, p, h1⟩ := h.2; ⟨t, p, cell_stays hb h1⟩⟩
theorem c_readWhole_bad (s : List UInt8) (hs : s.length ≤ 1048576) (hp : ∀ v, Lib.parseIntB 64 s ≠ .ok v) (w : World) (hE : Errs w) :
    Calls Tryd.prog 57 #[txt s] w fun e w' => (∃ r : Int, e = .returned (.tuple #[.int .i64 r, .bool false])) ∧ Below w.heap.size w w' := by
  have C : Hid (Calls Tryd.prog 82 #[txt s, .int .i64 10, .int .i64 64] w fun e w' => (∃ (N : Nat) (r : Int) (T : TypeId), e = .returned (.tuple #[.int .i64 r, .iface T (.pointer (some ⟨N, 0, none⟩))])) ∧ Below w.heap.size w w') := hid (by
    have e1 : (⟨s.toArray⟩ : ByteArray).data.toList = s := by simp
    have e2 : (⟨s.toArray⟩ : ByteArray).size = s.length := by simp [ByteArray.size]
    cases h : Lib.parseIntB 64 s
    · exact absurd h (hp _)
    · obtain ⟨te, pe, h3⟩ := hE.1
      exact (Tryd.strconv_ParseInt_10_at64_bad ⟨s.toArray⟩ (by rw [e2]; omega) (by rw [e1]; exact hp) (by rw [e1, h]; exact fun e => by cases e) _ w h3 (.inr ⟨te, pe, rfl⟩)).mono fun e w' ⟨N, he, _, _, hb⟩ => ⟨⟨N, _, _, he⟩, hb⟩
    · obtain ⟨te, pe, h3⟩ := hE.2
      exact (Tryd.strconv_ParseInt_10_at64_range ⟨s.toArray⟩ (by rw [e2]; omega) (by rw [e1]; exact h) _ w h3 (.inr ⟨te, pe, rfl⟩)).mono fun e w' ⟨N, he, _, _, hb⟩ => ⟨⟨N, _, _, he⟩, hb⟩)
  clear hp hE
  go_enter Tryd.func57, Tryd.ntmps57
  go_wp2_with (go_at_call 82; refine C.out.mono ?_; rintro e w1 ⟨⟨N, r, T, rfl⟩, h1⟩; have D1 := hid h1; clear h1)
  go_ret2
  exact ⟨⟨_, rfl⟩, D1.out⟩
theorem c_readWhole_ok (s : List UInt8) (hs : s.length ≤ 1048576) (v : Int) (hp : Lib.parseIntB 64 s = .ok v) (w : World) (hT : Tab w) :
    Calls Tryd.prog 57 #[txt s] w fun e w' => e = .returned (.tuple #[.int .i64 v, .bool (Lib.itoa v == s)]) ∧ Below w.heap.size w w' := by
  have e1 : (⟨s.toArray⟩ : ByteArray).data.toList = s := by simp
  have e2 : (⟨s.toArray⟩ : ByteArray).size = s.length := by simp [ByteArray.size]
  have hv := Lib.parseIntB_bounds hp
  have C : Hid (Calls Tryd.prog 82 #[txt s, .int .i64 10, .int .i64 64] w fun e w' => e = .returned (.tuple #[.int .i64 v, .nilIface]) ∧ Below w.heap.size w w') := hid
    ((Tryd.strconv_ParseInt_10_at64_ok ⟨s.toArray⟩ (by rw [e2]; omega) v (by rw [e1]; exact hp) w).mono fun e w' ⟨he, hw⟩ => ⟨he, by
      rcases hw with rfl | ⟨t, rfl⟩
      · exact Below.refl _ _
      · exact Lib.bytesWorld_below _ _ _⟩)
  have CD := hid (fun w2 (h : Below w.heap.size w w2) => c_decimal v (by omega) (by omega) w2 (hT.below h))
  clear hp hv hT e1 e2
  generalize Lib.itoa v = iv at *
  go_enter Tryd.func57, Tryd.ntmps57
  go_wp2_with (first | (go_at_call 82; refine C.out.mono ?_; rintro e w1 ⟨rfl, h1⟩; have D1 := hid h1; clear h1) | (go_at_call 36; refine (CD.out _ D1.out).mono ?_; rintro e w2 ⟨rfl, h2⟩; have D2 := hid (below_trans D1.out h2 D1.out.size); clear h2))
  go_ret2
  exact ⟨rfl, D2.out⟩
theorem c_readWhole (s : List UInt8) (hs : s.length ≤ 1048576) (w : World) (hT : Tab w) (hE : Errs w) :
    Calls Tryd.prog 57 #[txt s] w fun e w' => (∃ r : Int, e = .returned (.tuple #[.int .i64 r, .bool (wholeOf s).isSome]) ∧ ∀ v, wholeOf s = some v → r = v) ∧ Below w.heap.size w w' := by
  cases hp : Lib.parseIntB 64 s
  · rename_i v
    refine (c_readWhole_ok s hs v hp w hT).mono fun e w' ⟨he, hb⟩ => ⟨⟨v, ?_, fun u hu => ?_⟩, hb⟩
    · rw [he]
      have : (wholeOf s).isSome = (Lib.itoa v == s) := by
        unfold wholeOf; rw [hp]
        by_cases h : Lib.itoa v = s
        · simp [h]
        · simp [h]
      rw [this]
    · unfold wholeOf at hu; rw [hp] at hu
      simp only at hu
      split at hu
      · exact Option.some.inj hu
      · cases hu
  · have hn : wholeOf s = none := by unfold wholeOf; rw [hp]
    exact (c_readWhole_bad s hs (fun v h => by rw [hp] at h; cases h) w hE).mono fun e w' ⟨⟨r, he⟩, hb⟩ => ⟨⟨r, by rw [he, hn]; rfl, fun v h => by rw [hn] at h; cases h⟩, hb⟩
  · have hn : wholeOf s = none := by unfold wholeOf; rw [hp]
    exact (c_readWhole_bad s hs (fun v h => by rw [hp] at h; cases h) w hE).mono fun e w' ⟨⟨r, he⟩, hb⟩ => ⟨⟨r, by rw [he, hn]; rfl, fun v h => by rw [hn] at h; cases h⟩, hb⟩
end Go.Proofs.YtdcjoafagalejaaDoor
