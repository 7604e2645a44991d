/- Slices of bytes that come in, read as lists. -/
import Derived.Test.YtboddpifepegcaaLift
import Derived.Test.YtboddpifepegcaaSrc
namespace Go.Proofs.Ytboddpifepegcaa
set_option maxRecDepth 20000
open Go.ChangeShapes Go.WideShapes Go.ChangeAt Go.RowKit

theorem bts_of_rows {w : World} {a : Option Addr} {n : Nat} {rows : List (List Value)} (h : RowsIn w a n 1 [.i .u8] rows) : Bts w a n := fun hn => by
  obtain ⟨b, off, rfl, hc⟩ := h.at_ hn
  refine ⟨b, off, rfl, fun k hk => ?_⟩
  have hkl : k < rows.length := by rw [h.len]; exact hk
  have hr : rows[k]? = some rows[k] := List.getElem?_eq_getElem hkl
  obtain ⟨hl, hf⟩ := h.fits k _ hr
  match hc2 : rows[k], hl with
  | [v], _ =>
    obtain ⟨x, rfl, hx⟩ := hf 0 (.i .u8) v rfl (by rw [hc2]; rfl)
    have hb : 0 ≤ x ∧ x ≤ 255 := by simpa [Lit.wf, IntKind.min, IntKind.max, IntKind.signed, IntKind.bits] using hx
    have := hc k _ hr 0 (.int .u8 x) (by rw [hc2]; rfl)
    refine ⟨x.toNat, by omega, ?_⟩
    rw [show ((x.toNat : Nat) : Int) = x by omega]
    simpa using this
section
variable {H : Type} {enc : TypeId × Value → H} {P : Program} {w : World} {base : Nat} {spare : Nat → Bool} {held : Bool}
theorem open_byts {r : Reach} {b0 : Nat} {t e : TypeId} {v : Value} {d : DataW H} {ps : List MemPlace} (ht : P.underlying t = some (.slice e)) (hs : P.cellsOf e = 1) (hl : leaves P 2 e = some [.i .u8])
    (hv : Value.okWide P w r b0 t v) (hd : DataW.Trod enc P w base spare held t v d ps) : ∃ a n c, v = .slice a n c ∧ n ≤ 9223372036854775807 ∧ Bts w a n := by
  obtain ⟨a, n, c, rows, rfl, h⟩ := open_rows (ks := [.i .u8]) 2 ht hs (by decide) hl hv hd
  exact ⟨a, n, c, rfl, h.small, bts_of_rows h⟩
end
end Go.Proofs.Ytboddpifepegcaa
