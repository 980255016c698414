/- What the laws' proofs share: how a slice that came in reads. -/
import Derived.Test.YtgialedmbmfejaaRows
import Derived.Test.YtgialedmbmfejaaLib
import Derived.ProofKit
import Derived.OpenShut
import Derived.ShutString
import Derived.ChangeOld
import Derived.Below
namespace Go.Proofs.Ytgialedmbmfejaa
open Go.ChangeShapes Go.WideShapes Go.ChangeAt Go.RowKit
theorem own : ownKnob Try.prog.godebug = none := by kernel_rfl
theorem laidOut : laidOutB Try.prog = true := by kernel_rfl
/-- A slice of integers that came in: nil, or a row of cells. -/
def IsRow (k : IntKind) (w : World) (a : Option Addr) (len cap : Nat) (zs : List Int) : Prop :=
 (a = none ∧ len = 0 ∧ cap = 0 ∧ zs = []) ∨
 ∃ x, a = some x ∧ len ≤ cap ∧ cap ≤ maxLen ∧ zs.length = cap ∧ (∀ i, i < zs.length → w.cell? (x.add i) = some (.int k (zs.getD i 0))) ∧ ∀ n ∈ zs, (Lit.int k n).wf = true
theorem cell_in {w : World} {b o : Nat} {k : Option Nat} {v : Value} (h : w.cell? ⟨b, o, k⟩ = some v) : b < w.heap.size ∧ k = none := by
 unfold World.cell? at h
 split at h
 ·next c _ _ hq =>
  cases k with
  | none => exact ⟨(Array.getElem?_eq_some_iff.1 hq).1, rfl⟩
  | some k => simp at h
 ·cases h
theorem add_plain (b o j : Nat) : (⟨b, o, none⟩ : Addr).add j = ⟨b, o + j, none⟩ := by
 unfold Addr.add
 split
 ·next h => subst h; rfl
 ·rfl
end Go.Proofs.Ytgialedmbmfejaa
