/- Contracts: the values of a circuit's variables, the program's way. -/
import Derived.Test.YtgialedmbmfejaaVal
import Derived.Test.YtgialedmbmfejaaOwn
import Derived.Test.YtgialedmbmfejaaBoolG
import Derived.Laws.CopyOwn
namespace Go.Proofs.Ytgialedmbmfejaa
open Go.RowKit
set_option maxRecDepth 100000
set_option linter.unusedVariables false
set_option linter.unusedSimpArgs false
theorem row_src {w : World} {a : Option Addr} {cs : List Value} (h : RowAt w a cs) (h0 : 0 < cs.length) : ∃ ad, a = some ad ∧ ∀ j v, cs[j]? = some v → w.cell? (ad.add j) = some v := by
  rcases h with rfl | ⟨b, o, rfl, hb, hc⟩
  · simp at h0
  · refine ⟨_, rfl, fun j v hj => ?_⟩
    have : (⟨b, o, none⟩ : Addr).add j = ⟨b, o + j, none⟩ := by unfold Addr.add; split <;> simp_all
    rw [this]; exact hc j v hj
end Go.Proofs.Ytgialedmbmfejaa
