/- Contracts of EvalVars, for all arguments. -/
import Derived.Test.YtkdiniaddnhkdaaBits
namespace Go.Proofs.Ytkdiniaddnhkdaa
open Go.RowKit
set_option maxRecDepth 100000
set_option linter.unusedVariables false
set_option linter.unusedSimpArgs false
open Classical in
/-- What EvalVars returns. -/
noncomputable def evalV (c : Circ) (st ins : List Bool) : List Bool := if EvOk c st ins then valsOf ins st c.gates else []
theorem evalV_ok {c : Circ} {st ins : List Bool} (h : EvOk c st ins) : evalV c st ins = valsOf ins st c.gates := by unfold evalV; rw [if_pos h]
theorem evalV_no {c : Circ} {st ins : List Bool} (h : ¬ EvOk c st ins) : evalV c st ins = [] := by unfold evalV; rw [if_neg h]
theorem ev_len {c : Circ} {st ins : List Bool} (h : EvOk c st ins) : (valsOf ins st c.gates).length ≤ 22 := by
  have := h.V.i4
  have := h.V.ln
  have := h.V.lg
  have := h.ls
  have := h.li
  unfold valsOf
  rw [sVals_length]; omega
end Go.Proofs.Ytkdiniaddnhkdaa
