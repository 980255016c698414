/- Contracts: EvalVars, the program's. -/
import Derived.Test.YtgialedmbmfejaaEval
namespace Go.Proofs.Ytgialedmbmfejaa
open Go.RowKit
set_option maxRecDepth 100000
set_option linter.unusedVariables false
set_option linter.unusedSimpArgs false
/-- The arguments fit. -/
structure EvOk (c : Circ) (st ins : List Bool) : Prop where
  V : c.Valid
  ls : st.length = c.next.length
  li : (ins.length : Int) = c.inputs
end Go.Proofs.Ytgialedmbmfejaa
