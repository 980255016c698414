/- Contracts: the values of a circuit's variables, the reference's way. -/
import Derived.Test.YtgialedmbmfejaaEval2
import Derived.Test.YtgialedmbmfejaaSpec1
import Derived.Test.YtgialedmbmfejaaOwnB
import Derived.Test.YtgialedmbmfejaaRes
namespace Go.Proofs.Ytgialedmbmfejaa
open Go.RowKit
set_option maxRecDepth 100000
set_option linter.unusedVariables false
set_option linter.unusedSimpArgs false
theorem MadeBools.own {w w' : World} {xs : List Bool} {e : Ending} (h : MadeBools w xs e w') (hl : xs.length ≤ maxLen) : ∃ v, e = .returned v ∧ OwnB w' w.heap.size v xs ∧ Ext w w' := by
  obtain ⟨B, rfl, hB, hI, hE⟩ := h
  exact ⟨_, rfl, hI.owns (by simp) hB hl, hE⟩
end Go.Proofs.Ytgialedmbmfejaa
