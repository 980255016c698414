/- Plain: a run of the fabric. -/
import Derived.Test.YtkdiniaddnhkdaaStp0
import Derived.Test.YtkdiniaddnhkdaaRowB
namespace Go.Proofs.Ytkdiniaddnhkdaa
open Go.RowKit
set_option maxRecDepth 100000
set_option linter.unusedVariables false
set_option linter.unusedSimpArgs false
def reset25 : List Bool := List.replicate 25 false
noncomputable def stF (k : Conf) (st : List Bool) (xss : List (List Bool)) : List Bool := xss.foldl (fun st r => nextV k st r 25) st
noncomputable def runF (k : Conf) : List Bool → List (List Bool) → List (List Bool)
  | _, [] => []
  | st, r :: rs => outsV k st r 3 :: runF k (nextV k st r 25) rs
theorem runF_snoc (k : Conf) (r : List Bool) : ∀ (rs : List (List Bool)) (st : List Bool), runF k st (rs ++ [r]) = runF k st rs ++ [outsV k (stF k st rs) r 3]
  | [], st => rfl
  | x :: rs, st => by
    rw [List.cons_append, runF, runF_snoc k r rs]
    rfl
theorem stF_snoc (k : Conf) (r : List Bool) (rs : List (List Bool)) (st : List Bool) : stF k st (rs ++ [r]) = nextV k (stF k st rs) r 25 := by
  unfold stF; rw [List.foldl_append]; rfl
theorem runF_length (k : Conf) : ∀ (rs : List (List Bool)) (st : List Bool), (runF k st rs).length = rs.length
  | [], _ => rfl
  | x :: rs, st => by rw [runF, List.length_cons, List.length_cons, runF_length k rs]
theorem stF_len (k : Conf) (rs : List (List Bool)) : (stF k reset25 rs).length = 25 := by
  rcases List.eq_nil_or_concat rs with rfl | ⟨cs, b, rfl⟩
  · simp [stF, reset25]
  · rw [List.concat_eq_append, stF_snoc, nextV_len]
structure FitF (k : Conf) (xss : List (List Bool)) : Prop where
  a : acyV k = true
  n : xss.length ≤ 40
  r : ∀ j, j < xss.length → (xss.getD j []).length ≤ 4
open Classical in
noncomputable def runFV (k : Conf) (xss : List (List Bool)) : List (List Bool) := if FitF k xss then runF k reset25 xss else []
theorem runFV_pos {k : Conf} {xss : List (List Bool)} (h : FitF k xss) : runFV k xss = runF k reset25 xss := by unfold runFV; exact if_pos h
theorem runFV_neg {k : Conf} {xss : List (List Bool)} (h : ¬ FitF k xss) : runFV k xss = [] := by unfold runFV; exact if_neg h
theorem OwnR.setCell {w : World} {base : Nat} {v : Value} {vals : List Value} {xss : List (List Bool)} (h : OwnR w base v vals xss) {p : Addr} (hp : p.block < base) (u : Value) : OwnR (w.setCell p u) base v vals xss :=
  { h with row := ownsRow_set h.row (fun q => by have := (World.ownsRow.lt h.row _ q).1; omega) u, el := fun j hj => OwnB.setOther (h.el j hj) (fun q => by have := ((h.el j hj).lt' _ q).1; omega) u }
theorem runF_rl (k : Conf) : ∀ (rs : List (List Bool)) (st : List Bool), ∀ r ∈ runF k st rs, r.length = 3
  | [], _, r, h => by cases h
  | x :: rs, st, r, h => by
    rcases List.mem_cons.1 h with rfl | h
    · exact outsV_len _ _ _ _
    · exact runF_rl k rs _ r h
end Go.Proofs.Ytkdiniaddnhkdaa
