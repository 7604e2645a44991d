/- Walks of the program's ordered lists. -/
import Derived.Test.YtpaoccnffmngfaaCmp
import Derived.Test.YtpaoccnffmngfaaMarks
namespace Go.Proofs.Ytpaoccnffmngfaa
set_option maxRecDepth 20000
open Go.RowKit

theorem VL.okv {w : World} {a : Option Addr} {n : Nat} {xs : List Nat} (h : VL w a n xs) : ∀ k, Okv (fat xs k) := fun k => by
  by_cases hk : k < xs.length
  · exact ⟨(h.pl k hk).1, (h.pl.abs hk).fin⟩
  · have : fat xs k = 0 := by simp only [fat]; rw [List.getD_eq_getElem?_getD, List.getElem?_eq_none (by omega)]; rfl
    rw [this]; exact ⟨by omega, by decide⟩
theorem VL.none_nil {w : World} {n : Nat} {xs : List Nat} (h : VL w none n xs) : n = 0 ∧ xs = [] := by
  have : n = 0 := by
    rcases Nat.eq_zero_or_pos n with e | e
    · exact e
    · obtain ⟨b, o, e, _⟩ := h.fl.at_ e; cases e
  subst this
  exact ⟨rfl, List.length_eq_zero_iff.1 h.len⟩
theorem Row.got {w : World} {lo g n cap : Nat} {l : List Nat} (h : Row w lo g n cap l) : GotF w lo (.slice (some ⟨g, 0, none⟩) n cap) l := by
  have := h.own
  unfold GotF
  rw [h.len]; exact this
theorem Row.vl {w : World} {lo g n cap : Nat} {l : List Nat} (h : Row w lo g n cap l) (hp : Plains l) (hn : n ≤ 48) : VL w (some ⟨g, 0, none⟩) n l :=
  ⟨⟨h.len, by omega, fun k _ => (h.ok k).1, fun _ => ⟨g, 0, rfl, fun k hk => by rw [Nat.zero_add]; exact h.cell hk⟩⟩, hp, hn⟩
theorem c_insertion_nil (c : Nat) (w : World) : Calls Try.prog 93 #[.slice none 0 0, .int .i64 0, .int .i64 0, .func (.func c) #[] #[]] w fun e w' => e = .returned (.tuple #[]) ∧ w = w' := by
  go_enter Try.func93, Try.ntmps93
  go_wp2_with fail
  go_loopw [8] (fun iv wr => iv = .int .i64 1 ∧ w = wr) (fun _ _ => 0)
  case atStart => exact ⟨rfl, rfl⟩
  case round =>
    obtain ⟨rfl, rfl⟩ := hrel
    go_wp2_with fail
    go_end0
    exact ⟨rfl, rfl⟩
theorem c_stable_nil (c : Nat) (w : World) : Calls Try.prog 88 #[.slice none 0 0, .int .i64 0, .func (.func c) #[] #[]] w fun e w' => e = .returned (.tuple #[]) ∧ w = w' := by
  go_enter Try.func88, Try.ntmps88
  go_wp2_with fail
  go_loopw [7, 8] (fun av bv wr => av = .int .i64 0 ∧ bv = .int .i64 20 ∧ w = wr) (fun _ _ _ => 0)
  case atStart => exact ⟨rfl, rfl, rfl⟩
  case round =>
    obtain ⟨rfl, rfl, rfl⟩ := hrel
    go_wp2_with fail
    refine (c_insertion_nil c _).mono ?_
    rintro e w1 ⟨rfl, rfl⟩
    go_wp2_with fail
    go_loopw [6] (fun sv wr => sv = .int .i64 20 ∧ w = wr) (fun _ _ => 0)
    case atStart => exact ⟨rfl, rfl⟩
    case round =>
      obtain ⟨rfl, rfl⟩ := hrel
      go_wp2_with fail
      go_end0
      exact ⟨rfl, rfl⟩
theorem c_SortStable_nil (c : Nat) (w : World) : Calls Try.prog 63 #[.slice none 0 0, .func (.func c) #[] #[]] w fun e w' => e = .returned (.tuple #[]) ∧ w = w' := by
  go_enter Try.func63, Try.ntmps63
  go_wp2_with fail
  refine (c_stable_nil c _).mono ?_
  rintro e w1 ⟨rfl, rfl⟩
  go_wp2_with fail
  go_end0
  exact ⟨rfl, rfl⟩
theorem c_Clone_nil (n ca : Nat) (w : World) :
    Calls Try.prog 85 #[.slice none n ca] w fun e w' => e = .returned (.slice none 0 0) ∧ w = w' := by
  have nn : ∀ wx : World, (binOp .eql 24 (.slice none n ca) (.slice none 0 0)).run Try.prog wx = .ok (.bool true) wx := fun wx => Lib.run_eql_slice_nil wx _ _ _ _ _ _ _ Try.underlying24
  go_enter Try.func85, Try.ntmps85
  go_wp2_with fail
  go_ret
  exact ⟨rfl, rfl⟩
theorem tells_ord {xs : List Nat} (hok : ∀ k, Okv (fat xs k)) (i j : Nat) : Tells leK (lessBy ordC) (fat xs j) (fat xs i) :=
  ord_tells (hok i).1 (hok j).1 (hok i).2 (hok j).2
/-- A list of the program's own: what it owns, and where it lies. -/
def OwnL (w : World) (lo : Nat) (v : Value) (l : List Nat) : Prop := (v = .slice none 0 0 ∧ l = []) ∨ ∃ g n cap, v = .slice (some ⟨g, 0, none⟩) n cap ∧ Row w lo g n cap l
theorem OwnL.got {w : World} {lo : Nat} {v : Value} {l : List Nat} (h : OwnL w lo v l) : GotF w lo v l := by
  rcases h with ⟨rfl, rfl⟩ | ⟨g, n, cap, rfl, h⟩
  · exact GotF.nil _ _
  · exact h.got
theorem c_ordered (a : Option Addr) (n ca : Nat) (xs : List Nat) (w : World) (hv : VL w a n xs) :
    Calls Try.prog 62 #[.slice a n ca] w fun e w' => (∃ v, e = .returned v ∧ OwnL w' w.heap.size v (sortK xs)) ∧ Below w.heap.size w w' := by
  cases a with
  | none =>
    obtain ⟨rfl, rfl⟩ := hv.none_nil
    clear hv
    go_enter Try.func62, Try.ntmps62
    go_wp2_with fail
    refine (c_Clone_nil _ _ _).mono ?_
    rintro e w1 ⟨rfl, rfl⟩
    go_wp2_with fail
    refine (c_SortStable_nil _ _).mono ?_
    rintro e w1 ⟨rfl, rfl⟩
    go_wp2_with fail
    go_ret
    exact ⟨⟨_, rfl, .inl ⟨rfl, rfl⟩⟩, Below.refl _ _⟩
  | some ad =>
    have C := hid (c_Clone_some ad n ca xs w hv.fl (by have := hv.le; omega) hv.okv)
    have HN := hid hv.le
    have T := hid (fun i j (_ : i < j) (_ : j < n) => tells_ord hv.okv i j)
    have LEN := hid hv.len
    clear hv
    go_enter Try.func62, Try.ntmps62
    go_wp2_with fail
    refine C.out.mono ?_
    rintro e w1 ⟨⟨g, cap, rfl, hr⟩, hb⟩
    have R := hid hr
    have B := hid hb
    clear hr hb
    go_wp2_with fail
    refine (c_SortStable leK ordK _ ordC c_ordered1 _ g n cap xs _ R.out HN.out T.out).mono ?_
    rintro e w2 ⟨rfl, m, hp, hs, hr, hg⟩
    have e := sorted_is hp (by rw [LEN.out]; exact hs)
    subst e
    have R2 := hid hr
    have B2 := hid (B.out.grown hg B.out.size (fun r e => by cases e; exact (R.out.own.lt _ rfl).1))
    clear hp hs hr hg
    go_wp2_with fail
    go_ret
    exact ⟨⟨_, rfl, .inr ⟨g, n, cap, rfl, R2.out⟩⟩, B2.out⟩
end Go.Proofs.Ytpaoccnffmngfaa
