/- Contracts of the exact laws' helpers on slices of truth values: compare, mark, look at the marks. -/
import Derived.Test.YtgialedmbmfejaaOwn
namespace Go.Proofs.Ytgialedmbmfejaa
open Go.RowKit
set_option maxRecDepth 100000
set_option linter.unusedVariables false
set_option linter.unusedSimpArgs false
end Go.Proofs.Ytgialedmbmfejaa
