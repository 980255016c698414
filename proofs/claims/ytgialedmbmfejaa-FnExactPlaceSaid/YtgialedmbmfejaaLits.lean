/- Contracts: values of literals, bits of numbers. -/
import Derived.Test.YtgialedmbmfejaaEval3
namespace Go.Proofs.Ytgialedmbmfejaa
open Go.RowKit
set_option maxRecDepth 100000
set_option linter.unusedVariables false
set_option linter.unusedSimpArgs false
theorem lit_ok {ls : List Int} {n : Int} (h : LitsOk ls n) (k : Nat) (hk : k < ls.length) : 0 ≤ ls.getD k 0 ∧ ls.getD k 0 < 2 * n := by
  have h2 := h k hk
  simpa [litB] using h2
def LitsRel (w : World) (vs : List Bool) (ls : List Int) (u5 u6 : Value) (wr : World) : Prop :=
  ∃ k : Nat, k ≤ ls.length ∧ u6 = .int .i64 k ∧ OwnB wr w.heap.size u5 (litsV vs (ls.take k)) ∧ Ext w wr
end Go.Proofs.Ytgialedmbmfejaa
