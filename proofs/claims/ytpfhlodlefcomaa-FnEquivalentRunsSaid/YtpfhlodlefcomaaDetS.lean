/- Contracts: faults, the reference's way. -/
import Derived.Test.YtpfhlodlefcomaaDet
namespace Go.Proofs.Ytpfhlodlefcomaa
open Go.RowKit
set_option maxRecDepth 100000
set_option linter.unusedVariables false
set_option linter.unusedSimpArgs false
theorem base0_pos (s : Int) (b : Bool) (ins st : List Bool) (h : 1 ≤ s) (hl : s < 1 + ins.length + st.length) : base0 s b ins st = (vals0 ins st).set s.toNat b := by unfold base0; rw [if_pos (by omega)]
theorem base0_big (s : Int) (b : Bool) (ins st : List Bool) (h : 1 ≤ s) (hl : ¬ s < 1 + ins.length + st.length) : base0 s b ins st = vals0 ins st := by
  unfold base0
  rw [if_pos (by omega), List.set_eq_of_length_le]
  simp only [vals0, List.length_cons, List.length_append]; omega
theorem sVals_zero (s : Int) (b : Bool) (ins st : List Bool) : sVals s b ins st [] = base0 s b ins st := rfl
end Go.Proofs.Ytpfhlodlefcomaa
