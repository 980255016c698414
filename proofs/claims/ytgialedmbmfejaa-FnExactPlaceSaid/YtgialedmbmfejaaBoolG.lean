/- Slices of truth values that a call makes or gives back. -/
import Derived.Test.YtgialedmbmfejaaOwnB
namespace Go.Proofs.Ytgialedmbmfejaa
open Go.RowKit
def MadeBools (w : World) (xs : List Bool) (e : Ending) (w' : World) : Prop :=
  ∃ B, e = .returned (.slice (some ⟨B, 0, none⟩) xs.length xs.length) ∧ w.heap.size ≤ B ∧ Blk w' B 4 (xs.map Value.bool) ∧ Ext w w'
theorem boolInfo' : (Try.prog.info? 4).map (fun i => (i.zero, i.size, i.bytes)) = some (some (.bool false), 1, 1) := by kernel_rfl
/-- The call makes a slice of truth values. -/
def GiveB (w : World) (xs : List Bool) (e : Ending) (w' : World) : Prop := ∃ v, e = .returned v ∧ OwnB w' w.heap.size v xs ∧ Ext w w'
end Go.Proofs.Ytgialedmbmfejaa
