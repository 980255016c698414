/- Plain: the bitstream of a configuration. -/
import Derived.Test.YtkdiniaddnhkdaaConfK
namespace Go.Proofs.Ytkdiniaddnhkdaa
open Go.RowKit
set_option maxRecDepth 100000
set_option linter.unusedVariables false
def flagV (b : Bool) : Int := if b then 1 else 0
def encT (x : Tile) : List Int := (x.tb :: x.sl) ++ (flagV x.rg :: x.dr)
def encTs (ts : List Tile) : List Int := ts.flatMap encT
def encPs (ps : List (Int × Bool)) : List Int := ps.flatMap fun p => [p.1, flagV p.2]
def sumV (bs : List Int) : Int := bs.foldl (fun s b => (s * 257 + b + 1) % 65521) 1
def bodyV (k : Conf) : List Int := encTs k.ts ++ encPs k.ps
/-- The bitstream of a configuration; nothing where it is not valid. -/
noncomputable def encV (k : Conf) : List Int := if confB k then bodyV k ++ [sumV (bodyV k) / 256, sumV (bodyV k) % 256] else []
theorem sumV_app (bs : List Int) (b : Int) : sumV (bs ++ [b]) = (sumV bs * 257 + b + 1) % 65521 := by simp [sumV]
theorem sumV_lt (bs : List Int) : 0 ≤ sumV bs ∧ sumV bs < 65521 := by
  rcases List.eq_nil_or_concat bs with rfl | ⟨cs, b, rfl⟩
  · simp [sumV]
  · rw [List.concat_eq_append, sumV_app]; omega
theorem encTs_snoc (ts : List Tile) (x : Tile) : encTs (ts ++ [x]) = encTs ts ++ encT x := by simp [encTs]
theorem encPs_snoc (ps : List (Int × Bool)) (p : Int × Bool) : encPs (ps ++ [p]) = encPs ps ++ [p.1, flagV p.2] := by simp [encPs]
theorem encT_length (x : Tile) : (encT x).length = 2 + x.sl.length + x.dr.length := by simp [encT]; omega
end Go.Proofs.Ytkdiniaddnhkdaa
