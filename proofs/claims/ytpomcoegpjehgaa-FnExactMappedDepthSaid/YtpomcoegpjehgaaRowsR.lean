/- Rows of slices of numbers that others own: how they read. -/
import Derived.Test.YtpomcoegpjehgaaCutT
namespace Go.Proofs.Ytpomcoegpjehgaa
open Go.RowKit
set_option maxRecDepth 100000
set_option linter.unusedVariables false
set_option linter.unusedSimpArgs false
/-- The slices read ar xss. -/
def ReadII (w : World) (vals : List Value) (xss : List (List Int)) : Prop := vals.length = xss.length ∧ ∀ j, j < xss.length → ∃ a c, vals[j]? = some (.slice a (xss.getD j []).length c) ∧ IntsAt w a (xss.getD j [])
theorem ReadII.ext {w w' : World} {vals : List Value} {xss : List (List Int)} (h : ReadII w vals xss) (e : Ext w w') : ReadII w' vals xss := ⟨h.1, fun j hj => by
  obtain ⟨a, c, h1, h2⟩ := h.2 j hj
  exact ⟨a, c, h1, h2.ext e⟩⟩
theorem ReadII.snoc {w : World} {vals : List Value} {xss : List (List Int)} (h : ReadII w vals xss) {a : Option Addr} {c : Nat} {x : List Int} (hx : IntsAt w a x) : ReadII w (vals ++ [.slice a x.length c]) (xss ++ [x]) := by
  refine ⟨by simp [h.1], fun j hj => ?_⟩
  by_cases e : j < xss.length
  · obtain ⟨a', c', h1, h2⟩ := h.2 j e
    have : (xss ++ [x]).getD j [] = xss.getD j [] := by rw [List.getD_eq_getElem?_getD, List.getElem?_append_left e, List.getD_eq_getElem?_getD]
    rw [this]
    exact ⟨a', c', by rw [List.getElem?_append_left (by rw [h.1]; exact e)]; exact h1, h2⟩
  · have hj2 : j = xss.length := by simp at hj; omega
    subst hj2
    have : (xss ++ [x]).getD xss.length [] = x := by simp [List.getD_eq_getElem?_getD]
    rw [this]
    exact ⟨a, c, by rw [← h.1]; simp, hx⟩
theorem ReadII.set {w : World} {vals : List Value} {xss : List (List Int)} (h : ReadII w vals xss) (j : Nat) {a : Option Addr} {c : Nat} {x : List Int} (hx : IntsAt w a x) : ReadII w (vals.set j (.slice a x.length c)) (xss.set j x) := by
  refine ⟨by simp [h.1], fun i hi => ?_⟩
  rw [List.length_set] at hi
  by_cases e : j = i
  · subst e
    have : (xss.set j x).getD j [] = x := by simp [List.getD_eq_getElem?_getD, hi]
    rw [this]
    exact ⟨a, c, by rw [List.getElem?_set_self (by rw [h.1]; exact hi)], hx⟩
  · have : (xss.set j x).getD i [] = xss.getD i [] := by simp [List.getD_eq_getElem?_getD, List.getElem?_set, e]
    rw [this, List.getElem?_set_ne e]
    exact h.2 i hi
theorem ReadII.nils (w : World) (n : Nat) : ReadII w (List.replicate n (.slice none 0 0)) (List.replicate n []) := by
  refine ⟨by simp, fun j hj => ?_⟩
  rw [List.length_replicate] at hj
  have : (List.replicate n ([] : List Int)).getD j [] = [] := by simp [List.getD_eq_getElem?_getD, List.getElem?_replicate, hj]
  rw [this]
  exact ⟨none, 0, by simp [List.getElem?_replicate, hj], .inl rfl⟩
/-- What the search for the best cuts gives back. -/
def BestPost (w : World) (bs : List (List Int)) (ar : List Int) (e : Ending) (w' : World) : Prop := ∃ bv av vals, e = .returned (.tuple #[bv, av]) ∧ w'.ownsRow w.heap.size 23 1 bv bs.length vals ∧ OwnInts w' w.heap.size 3 av ar ∧ ReadII w' vals bs ∧ Ext w w'
end Go.Proofs.Ytpomcoegpjehgaa
