/- Walks wanted for the law of sums. -/
import Derived.Test.YtpaoccnffmngfaaSumsQ
import Derived.Test.YtpaoccnffmngfaaDrawL
import Derived.Test.YtpaoccnffmngfaaGreatS
import Derived.Test.YtpaoccnffmngfaaMisc
namespace Go.Proofs.Ytpaoccnffmngfaa
set_option maxRecDepth 20000
open Go.RowKit

theorem sameN_self {x : Nat} (h : isFin x = true) : sameN x x = true := by
  have e : isNum x = true := by
    show (Ieee.single.order x x == some .eq) = true
    rw [order_self_fin h]; rfl
  unfold sameN; rw [e]; simp
theorem c_SameNumber {x : Nat} (h : isFin x = true) (w : World) :
    Calls Try.prog 18 #[.float .f32 x, .float .f32 x] w fun e w' => e = .returned (.bool true) ∧ w = w' := by
  have C := hid (c_l01Same x x)
  rw [sameN_self h] at C
  clear h
  go_enter Try.func18, Try.ntmps18
  go_wp2_with (go_at_call 46; refine (C.out _).mono ?_; rintro e w1 ⟨rfl, rfl⟩)
  go_ret
  exact ⟨rfl, rfl⟩
theorem c_l00Same (a b : Option Addr) (n ca cb : Nat) (L : List Int) (hn : L.length = n) (h9 : n ≤ 99) (w : World) (hx : 0 < n → ∃ g off, a = some ⟨g, off, none⟩ ∧ ∀ j, j < n → w.cell? ⟨g, off + j, none⟩ = some (.int .i64 (iat L j))) (hy : 0 < n → ∃ g off, b = some ⟨g, off, none⟩ ∧ ∀ j, j < n → w.cell? ⟨g, off + j, none⟩ = some (.int .i64 (iat L j))) :
    Calls Try.prog 59 #[.slice a n ca, .slice b n cb] w fun e w' => e = .returned (.bool true) ∧ Below w.heap.size w w' := by
  have X := hid hx
  have Y := hid hy
  clear hx hy
  go_enter Try.func59, Try.ntmps59
  go_wp2
  go_loopw [5] (fun i wr => ∃ k : Nat, k ≤ n ∧ i = .int .i64 k ∧ Below w.heap.size w wr) (fun i _ => n - (intOf i).toNat)
  case atStart => exact ⟨0, by omega, rfl, Below.refl _ _⟩
  case round =>
    obtain ⟨k, hk, rfl, hb⟩ := hrel
    have B := hid hb
    clear hb
    by_cases hlt : k < n
    · obtain ⟨g, off, rfl, hc⟩ := X.out (by omega)
      obtain ⟨g2, off2, rfl, hd⟩ := Y.out (by omega)
      have c1 := cell_stays B.out (hc k hlt)
      have c2 := cell_stays B.out (hd k hlt)
      have e1 : (iat L k != iat L k) = false := by simp
      clear hc hd
      generalize iat L k = z at *
      go_wp2_with fail
      go_region
      go_wp2
      exact ⟨⟨k + 1, by omega, rfl, ⟨B.out.os, B.out.tape, B.out.output, B.out.size, B.out.block⟩⟩, by simp [intOf]; omega⟩
    · obtain rfl : k = n := by omega
      go_wp2
      go_ret
      exact ⟨rfl, B.out⟩
theorem c_SameNumbers (u v : Value) (L : List Int) (h9 : L.length ≤ 99) (w : World) (hx : Ints w u L) (hy : Ints w v L) :
    Calls Try.prog 27 #[u, v] w fun e w' => e = .returned (.bool true) ∧ Below w.heap.size w w' := by
  have key : ∀ u, Ints w u L → ∃ a ca, u = .slice a L.length ca ∧ (0 < L.length → ∃ g off, a = some ⟨g, off, none⟩ ∧ ∀ j, j < L.length → w.cell? ⟨g, off + j, none⟩ = some (.int .i64 (iat L j))) := fun u h => by
    rcases h.at_ with ⟨rfl, rfl⟩ | ⟨a, ca, rfl, _, h2⟩
    · exact ⟨none, 0, rfl, fun h => absurd h (by simp)⟩
    · exact ⟨a, ca, rfl, h2⟩
  obtain ⟨a, ca, rfl, h1⟩ := key u hx
  obtain ⟨b, cb, rfl, h2⟩ := key v hy
  have C := hid (c_l00Same a b L.length ca cb L rfl h9 w h1 h2)
  clear hx hy key h1 h2
  generalize L.length = n at *
  go_enter Try.func27, Try.ntmps27
  go_wp2_with (go_at_call 59; refine C.out.mono ?_; rintro e w1 ⟨rfl, h1⟩; have D := hid h1; clear h1)
  go_ret
  exact ⟨rfl, D.out⟩
theorem c_f6big (a : Option Addr) (n ca : Nat) (w : World) :
    Calls Try.prog 4 #[.slice a n ca] w fun e w' => e = .returned (.bool (decide (4096 < n))) ∧ w = w' := by
  go_enter Try.func4, Try.ntmps4
  go_wp2
  go_ret
  exact ⟨ret_bool (by by_cases h : 4096 < n <;> simp [h] <;> omega), rfl⟩
theorem gotF_parts {w : World} {lo : Nat} {v : Value} {l : List Nat} (h : GotF w lo v l) (hv : v ≠ .slice none 0 0) (hl : l.length ≤ 1000) (hw : ∀ k, k < l.length → fat l k < 4294967296) : ∃ g ca, v = .slice (some ⟨g, 0, none⟩) l.length ca ∧ l.length ≤ ca ∧ Flts w (some ⟨g, 0, none⟩) l.length l := by
  have h' := h
  unfold GotF at h'
  rcases h.2 with ⟨h0, _⟩ | ⟨g, cap, cur, rfl, hlo, hb, hc, _⟩
  · exact absurd h0 hv
  · exact ⟨g, cap, rfl, hc, ⟨rfl, by omega, hw, fun _ => ⟨g, 0, rfl, fun j hj => by rw [Nat.zero_add, h'.cellAt j (by omega)]; exact f32_at hj⟩⟩⟩
theorem drawn_valid {xs : List Nat} {m : Nat} (hl : xs.length ≤ m) (hm : m ≤ 48) (h : ∀ k, k < xs.length → Drawn (fat xs k)) : validL xs = true := by
  simp only [validL, Bool.and_eq_true, decide_eq_true_eq]
  exact ⟨by omega, plains_yes (fun j hj => (h j hj).pl)⟩
end Go.Proofs.Ytpaoccnffmngfaa
