/- Plain: the steps of the placer, one by one. -/
import Derived.Test.YtgialedmbmfejaaWl1
import Derived.Test.YtgialedmbmfejaaOwn
namespace Go.Proofs.Ytgialedmbmfejaa
set_option linter.unusedVariables false
set_option linter.unusedSimpArgs false
def trF (place : List Int) (i : Nat) (t : Int) (k : Nat) : Int := if place.getD k 0 = t then place.getD i 0 else place.getD k 0
theorem over_same {f : Nat → Int} {xs : List Int} {j : Nat} (h : j < xs.length) (e : f j = xs.getD j 0) : over f xs (j + 1) = over f xs j := by
  unfold over
  rw [List.range_succ, List.map_append, List.append_assoc]
  congr 1
  have e2 : xs.drop j = xs.getD j 0 :: xs.drop (j + 1) := by
    rw [List.drop_eq_getElem_cons h, List.getD_eq_getElem?_getD, List.getElem?_eq_getElem h]; rfl
  rw [e2, List.map_singleton, e]; rfl
theorem over_get {f : Nat → Int} {xs : List Int} {j : Nat} (h : j < xs.length) : (over f xs j)[j]? = some (xs.getD j 0) := by
  unfold over
  rw [List.getElem?_append_right (by simp), List.length_map, List.length_range, Nat.sub_self, List.getElem?_drop, Nat.add_zero, List.getElem?_eq_getElem h, List.getD_eq_getElem?_getD, List.getElem?_eq_getElem h]; rfl
theorem tr_all (place : List Int) (i : Nat) (t : Int) : (over (trF place i t) place place.length).set i t = tryV place i t := by
  rw [over_all]
  unfold tryV
  congr 1
  refine List.ext_getElem? (fun k => ?_)
  rw [List.getElem?_map, List.getElem?_map]
  rcases Nat.lt_or_ge k place.length with h | h
  · rw [List.getElem?_range h, List.getElem?_eq_getElem h]
    have hg : place.getD k 0 = place[k] := by rw [List.getD_eq_getElem?_getD, List.getElem?_eq_getElem h]; rfl
    show some (trF place i t k) = some _
    unfold trF
    rw [hg]
  · rw [List.getElem?_eq_none (by simpa using h), List.getElem?_eq_none h]; rfl
def rangeI (k : Nat) : List Int := (List.range k).map (fun (i : Nat) => (i : Int))
theorem rangeI_succ (k : Nat) : rangeI (k + 1) = rangeI k ++ [(k : Int)] := by unfold rangeI; rw [List.range_succ, List.map_append]; rfl
theorem rangeI_length (k : Nat) : (rangeI k).length = k := by simp [rangeI]
theorem rangeI_ok {k : Nat} (h : k ≤ 25) : PlOk (rangeI k) := init_ok h
theorem plCell_zero (c : Circ) (cs : List CellT) (s : List Int × Int) (i : Nat) : plCell c cs 0 s i = s := by unfold plCell; rfl
theorem plCell_succ (c : Circ) (cs : List CellT) (t : Nat) (s : List Int × Int) (i : Nat) : plCell c cs (t + 1) s i = plStep c cs i (plCell c cs t s i) t := by
  unfold plCell
  rw [List.range_succ, List.foldl_append, List.foldl_cons, List.foldl_nil]
theorem plSweep_zero (c : Circ) (cs : List CellT) (s : List Int × Int) : plSweep c cs 0 s = s := by unfold plSweep; rfl
theorem plSweep_succ (c : Circ) (cs : List CellT) (j : Nat) (s : List Int × Int) : plSweep c cs (j + 1) s = plCell c cs 25 (plSweep c cs j s) j := by
  unfold plSweep
  rw [List.range_succ, List.foldl_append, List.foldl_cons, List.foldl_nil]
theorem plK_zero (c : Circ) (cs : List CellT) (k : Nat) (hk : k = 0) : (plK c cs k).1 = rangeI cs.length ∧ (plK c cs k).2 = costV c cs (rangeI cs.length) := by
  subst hk
  unfold rangeI
  constructor <;> rw [plK]
theorem plK_succ (c : Circ) (cs : List CellT) (k : Nat) : plK c cs (k + 1) = plSweep c cs cs.length (plK c cs k) := by rw [plK]
end Go.Proofs.Ytgialedmbmfejaa
