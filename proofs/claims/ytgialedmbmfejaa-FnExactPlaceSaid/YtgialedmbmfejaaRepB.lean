/- Slices of truth values that a call gives back, as the exact laws compare and mark them. -/
import Derived.Test.YtgialedmbmfejaaMidB
import Derived.Test.YtgialedmbmfejaaMark
import Derived.Test.YtgialedmbmfejaaBoolG
namespace Go.Proofs.Ytgialedmbmfejaa
open Go.RowKit
set_option maxRecDepth 100000
set_option linter.unusedVariables false
set_option linter.unusedSimpArgs false
theorem Ext.size1 {w W : World} {o : Obj} (h : Ext (w.alloc o) W) : w.heap.size + 1 ≤ W.heap.size := by have := h.size; simpa using this
end Go.Proofs.Ytgialedmbmfejaa
