/- What the calls give back, as the exact laws compare and mark it. -/
import Derived.Test.YtgialedmbmfejaaMid
import Derived.Test.YtgialedmbmfejaaLits
import Derived.Test.YtgialedmbmfejaaRepB
namespace Go.Proofs.Ytgialedmbmfejaa
open Go.RowKit
set_option maxRecDepth 100000
set_option linter.unusedVariables false
set_option linter.unusedSimpArgs false
theorem MadeAt.le {w : World} {b b2 N : Nat} {c : Circ} {p : Where3} (h : MadeAt w b N c p) (hb : b2 ≤ b) : MadeAt w b2 N c p := by
  obtain ⟨B1, B2, B3, h0, h1, h2, h3, h4, k1, k2, k3⟩ := h
  exact ⟨B1, B2, B3, h0, Nat.le_trans hb h1, h2, h3, h4, k1, k2, k3⟩
theorem MadeAt.mid {w w' : World} {b N b' N' : Nat} {c : Circ} {p : Where3} (h : MadeAt w b' N' c p) (m : Mid b N w w') (hr : N ≤ b') : MadeAt w' b' N' c p := by
  obtain ⟨B1, B2, B3, h0, h1, h2, h3, h4, k1, k2, k3⟩ := h
  exact ⟨B1, B2, B3, h0, h1, h2, h3, h4, k1.mid m (.inr (by omega)), k2.mid m (.inr (by omega)), k3.mid m (.inr (by omega))⟩
end Go.Proofs.Ytgialedmbmfejaa
