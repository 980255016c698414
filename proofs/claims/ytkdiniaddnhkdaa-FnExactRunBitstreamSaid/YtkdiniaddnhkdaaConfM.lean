/- How the exact laws mark configurations that the call owns. -/
import Derived.Test.YtkdiniaddnhkdaaConfT
import Derived.Test.YtkdiniaddnhkdaaMarkI
import Derived.Test.YtkdiniaddnhkdaaMidB
import Derived.Test.YtkdiniaddnhkdaaVal
namespace Go.Proofs.Ytkdiniaddnhkdaa
open Go.RowKit
set_option maxRecDepth 100000
set_option linter.unusedVariables false
set_option linter.unusedSimpArgs false
/-- The marks of a tile, from number k on. -/
def mkT (k : Int) (x : Tile) : Tile := ⟨k, mksI (k + 1) x.sl.length, (k + 1 + x.sl.length) % 3 == 0, mksI (k + 1 + x.sl.length + 1) x.dr.length⟩
def szM (x : Tile) : Nat := 2 + x.sl.length + x.dr.length
def mkTs : Int → List Tile → List Tile
  | _, [] => []
  | k, x :: xs => mkT k x :: mkTs (k + szM x) xs
def totM (ts : List Tile) : Nat := ts.foldr (fun x n => szM x + n) 0
theorem mkTs_length : ∀ (ts : List Tile) (k : Int), (mkTs k ts).length = ts.length
  | [], _ => rfl
  | x :: xs, k => by simp [mkTs, mkTs_length xs]
theorem totM_append (a b : List Tile) : totM (a ++ b) = totM a + totM b := by
  induction a with
  | nil => simp [totM]
  | cons x xs ih =>
    have e1 : totM (x :: xs ++ b) = szM x + totM (xs ++ b) := rfl
    have e2 : totM (x :: xs) = szM x + totM xs := rfl
    rw [e1, e2, ih]; omega
theorem mkTs_append : ∀ (a b : List Tile) (k : Int), mkTs k (a ++ b) = mkTs k a ++ mkTs (k + totM a) b
  | [], b, k => by simp [mkTs, totM]
  | x :: xs, b, k => by
    have e2 : totM (x :: xs) = szM x + totM xs := rfl
    rw [List.cons_append, mkTs, mkTs, mkTs_append xs b, e2, List.cons_append]
    have e3 : k + (szM x : Int) + (totM xs : Int) = k + ((szM x + totM xs : Nat) : Int) := by omega
    rw [e3]
/-- The first j tiles marked. -/
def midT (k : Int) (ts : List Tile) (j : Nat) : List Tile := mkTs k (ts.take j) ++ ts.drop j
theorem midT_length (k : Int) (ts : List Tile) (j : Nat) (hj : j ≤ ts.length) : (midT k ts j).length = ts.length := by
  unfold midT; rw [List.length_append, mkTs_length, List.length_take, List.length_drop]; omega
theorem midT_at (k : Int) (ts : List Tile) (j : Nat) (hj : j < ts.length) : (midT k ts j).getD j tile0 = ts.getD j tile0 := by
  unfold midT
  rw [List.getD_eq_getElem?_getD, List.getElem?_append_right (by rw [mkTs_length, List.length_take]; omega), mkTs_length, List.length_take, List.getElem?_drop, List.getD_eq_getElem?_getD]
  have e : j + (j - min j ts.length) = j := by omega
  rw [e]
theorem midT_set (k : Int) (ts : List Tile) (j : Nat) (hj : j < ts.length) : (midT k ts j).set j (mkT (k + totM (ts.take j)) (ts.getD j tile0)) = midT k ts (j + 1) := by
  unfold midT
  have hl : (mkTs k (ts.take j)).length = j := by rw [mkTs_length, List.length_take]; omega
  rw [List.set_append_right _ _ (by omega), hl, Nat.sub_self, List.drop_eq_getElem_cons hj, List.set_cons_zero, take_snocG ts j tile0 hj, mkTs_append]
  rw [List.append_assoc]; rfl
theorem totM_take (ts : List Tile) (j : Nat) (hj : j < ts.length) : totM (ts.take (j + 1)) = totM (ts.take j) + szM (ts.getD j tile0) := by
  rw [take_snocG ts j tile0 hj, totM_append]; rfl
theorem totM_le (ts : List Tile) (j : Nat) : totM (ts.take j) ≤ totM ts := by
  conv => rhs; rw [← List.take_append_drop j ts]
  rw [totM_append]; omega
end Go.Proofs.Ytkdiniaddnhkdaa
