/- Rows that lie apart. -/
import Derived.Test.YtgialedmbmfejaaLib
namespace Go.Proofs.Ytgialedmbmfejaa
open Go.RowKit
set_option linter.unusedVariables false
theorem off_row {v u : Value} (hd : ∀ k, u.ownBlock = some k → v.ownBlock ≠ some k) : u.ownBlock = none ∨ u.ownBlock ≠ v.ownBlock := by
 cases e : u.ownBlock with
 | none => exact .inl rfl
 | some k => right; exact (hd k e).symm
theorem ownsRow_base {w : World} {b b' : Nat} {e : TypeId} {size : Nat} {v : Value} {n : Nat} {xs : List Value} (h : w.ownsRow b e size v n xs) (hb : b' ≤ b) : w.ownsRow b' e size v n xs := by
 refine ⟨h.1, ?_⟩
 rcases h.2 with h2 | ⟨g, cap, cur, hv, hg, r⟩
 ·exact .inl h2
 ·exact .inr ⟨g, cap, cur, hv, Nat.le_trans hb hg, r⟩
theorem off_swap {v u : Value} (hd : ∀ k, u.ownBlock = some k → v.ownBlock ≠ some k) : ∀ k, v.ownBlock = some k → u.ownBlock ≠ some k := fun k hk e => hd k e hk
end Go.Proofs.Ytgialedmbmfejaa
