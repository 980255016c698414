/- Slices of truth values that a call owns. -/
import Derived.Test.YtgialedmbmfejaaOwn
namespace Go.Proofs.Ytgialedmbmfejaa
open Go.RowKit
set_option maxRecDepth 100000
set_option linter.unusedVariables false
set_option linter.unusedSimpArgs false
theorem tyBools : RowTy Try.prog 65 4 1 1 := RowTy.mk' (z := .bool false) Try.underlying65 (by kernel_rfl) rfl (by decide) (by decide)
/-- A slice of truth values that the call owns. -/
def OwnB (w : World) (base : Nat) (v : Value) (xs : List Bool) : Prop := w.ownsRow base 4 1 v xs.length (xs.map Value.bool)
theorem OwnB.opened {w : World} {base : Nat} {v : Value} {xs : List Bool} (h : OwnB w base v xs) : ∃ a c, v = .slice a xs.length c ∧ BoolsAt w a xs := by
  obtain ⟨a, c, hv, hr, _⟩ := ownsRow_row h
  exact ⟨a, c, hv, boolsAt_of_row hr⟩
theorem OwnB.ext {w w' : World} {base : Nat} {v : Value} {xs : List Bool} (h : OwnB w base v xs) (e : Ext w w') : OwnB w' base v xs := ownsRow_ext h e
theorem OwnB.le {w : World} {base b : Nat} {v : Value} {xs : List Bool} (h : OwnB w base v xs) (hb : b ≤ base) : OwnB w b v xs := by
  refine ⟨h.1, ?_⟩
  rcases h.2 with h | ⟨g, cap, cur, h1, h2, h3⟩
  · exact .inl h
  · exact .inr ⟨g, cap, cur, h1, Nat.le_trans hb h2, h3⟩
theorem OwnB.app {w' : World} {base : Nat} {v' : Value} {xs ys : List Bool} {n m : Nat} (hn : n = xs.length) (hm : m = ys.length) (h : w'.ownsRow base 4 1 v' (n + m) (xs.map Value.bool ++ ys.map Value.bool)) : OwnB w' base v' (xs ++ ys) := by
  subst hn hm
  unfold OwnB
  rw [List.length_append, List.map_append]; exact h
theorem OwnB.len {w : World} {base : Nat} {v : Value} {xs : List Bool} (h : OwnB w base v xs) : ∃ a c, v = .slice a xs.length c ∧ xs.length ≤ c ∧ c ≤ maxLen := by
  obtain ⟨a, c, hv, _, h1, h2, _⟩ := ownsRow_row h
  exact ⟨a, c, hv, h1, h2⟩
theorem OwnB.nil {w : World} {base : Nat} : OwnB w base (.slice none 0 0) [] := World.ownsRow_nil _ _ _ _
theorem OwnB.lt' {w : World} {b : Nat} {v : Value} {xs : List Bool} (h : OwnB w b v xs) : ∀ k, v.ownBlock = some k → b ≤ k ∧ k < w.heap.size := by
  obtain ⟨_, h2⟩ := h
  rcases h2 with ⟨rfl, _⟩ | ⟨g, cap, cur, rfl, hb, hgg, rest⟩
  · intro k hk; cases hk
  · intro k hk; cases hk; exact ⟨hb, (Array.getElem?_eq_some_iff.1 hgg).1⟩
theorem OwnB.setOther {w : World} {b : Nat} {v : Value} {xs : List Bool} (h : OwnB w b v xs) {p : Addr} (hne : v.ownBlock ≠ some p.block) (u : Value) : OwnB (w.setCell p u) b v xs := ownsRow_set h hne u
end Go.Proofs.Ytgialedmbmfejaa
