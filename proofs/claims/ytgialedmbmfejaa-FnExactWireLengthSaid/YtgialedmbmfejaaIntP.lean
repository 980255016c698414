/- Slices of numbers as they come in. -/
import Derived.Test.YtgialedmbmfejaaRd
import Derived.Test.YtgialedmbmfejaaFrame
namespace Go.Proofs.Ytgialedmbmfejaa
open Go.ChangeShapes Go.WideShapes Go.ChangeAt Go.RowKit
set_option maxRecDepth 100000
set_option linter.unusedVariables false
set_option linter.unusedSimpArgs false
/-- A slice of numbers as it comes in. -/
structure IntsIn (w : World) (a : Option Addr) (c : Nat) (xs : List Int) : Prop where
  at_ : IntsAt w a xs
  le : xs.length ≤ c
  cap : c ≤ maxLen
theorem open_intS {H : Type} {enc : TypeId × Value → H} {w : World} {base : Nat} {spare : Nat → Bool} {held : Bool} {r : Reach} {b0 : Nat} {v : Value} {d : DataW H} {p : List MemPlace} (hv : Value.okWide Try.prog w r b0 23 v) (h : DataW.Trod enc Try.prog w base spare held 23 v d p) :
    ∃ a c xs, v = .slice a xs.length c ∧ IntsIn w a c xs := by
  obtain ⟨a', l', c', rfl⟩ := okWide_slice Try.underlying23 hv
  obtain ⟨fuel, hf⟩ := h
  obtain ⟨a, c, xs, e, s, l, m⟩ := open_slice (E := EInt .i64) (sz := 1) Try.underlying23 (by kernel_rfl) (by decide) (dec_int Try.underlying3) (v := .slice a' l' c') (by simpa [Value.cells] using hf)
  exact ⟨a, c, xs, e, s.ints, l, m⟩
end Go.Proofs.Ytgialedmbmfejaa
