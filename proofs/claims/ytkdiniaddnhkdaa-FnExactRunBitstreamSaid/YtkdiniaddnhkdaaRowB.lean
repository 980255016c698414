/- Slices of slices of truth values. -/
import Derived.Test.YtkdiniaddnhkdaaOwnB
import Derived.Test.YtkdiniaddnhkdaaOffB
import Derived.Test.YtkdiniaddnhkdaaVal
namespace Go.Proofs.Ytkdiniaddnhkdaa
open Go.RowKit
set_option maxRecDepth 100000
set_option linter.unusedVariables false
set_option linter.unusedSimpArgs false
/-- How a slice of slices of truth values reads. -/
def RowsAt (w : World) (a : Option Addr) (xss : List (List Bool)) : Prop :=
  xss = [] ∨ ∃ b o, a = some ⟨b, o, none⟩ ∧ b < w.heap.size ∧ ∀ j, j < xss.length → ∃ aj cj, w.cell? ⟨b, o + j, none⟩ = some (.slice aj (xss.getD j []).length cj) ∧ BoolsAt w aj (xss.getD j [])
section
variable {w w' : World} {a : Option Addr} {xss : List (List Bool)}
theorem RowsAt.get (h : RowsAt w a xss) (hn : 0 < xss.length) : ∃ b o, a = some ⟨b, o, none⟩ ∧ b < w.heap.size ∧ ∀ j, j < xss.length → ∃ aj cj, w.cell? ⟨b, o + j, none⟩ = some (.slice aj (xss.getD j []).length cj) ∧ BoolsAt w aj (xss.getD j []) := by
  rcases h with rfl | h
  · simp at hn
  · exact h
theorem RowsAt.ext (h : RowsAt w a xss) (e : Ext w w') : RowsAt w' a xss := by
  rcases h with rfl | ⟨b, o, ha, hb, hc⟩
  · exact .inl rfl
  · refine .inr ⟨b, o, ha, Nat.lt_of_lt_of_le hb e.size, fun j hj => ?_⟩
    obtain ⟨aj, cj, h1, h2⟩ := hc j hj
    exact ⟨aj, cj, ((ecell e).1 b _ hb).trans h1, h2.ext e⟩
end
theorem tyRows : RowTy Try.prog 76 59 1 24 := RowTy.mk' (z := .slice none 0 0) Try.underlying76 (by kernel_rfl) rfl (by decide) (by decide)
/-- A slice of slices that the call owns: all rows lie apart, and apart from the slice itself. -/
structure OwnR (w : World) (base : Nat) (v : Value) (vals : List Value) (xss : List (List Bool)) : Prop where
  len : vals.length = xss.length
  row : w.ownsRow base 59 1 v xss.length vals
  el : ∀ j, j < xss.length → OwnB w base (vals.getD j (.slice none 0 0)) (xss.getD j [])
  off : ∀ j k, j < xss.length → (vals.getD j (.slice none 0 0)).ownBlock = some k → v.ownBlock ≠ some k
  dis : ∀ i j k, i < j → j < xss.length → (vals.getD i (.slice none 0 0)).ownBlock = some k → (vals.getD j (.slice none 0 0)).ownBlock ≠ some k
section
variable {w w' : World} {base : Nat} {v : Value} {vals : List Value} {xss : List (List Bool)}
theorem OwnR.nil : OwnR w base (.slice none 0 0) [] [] := ⟨rfl, ownsRow_nil, fun j hj => by simp at hj, fun j k hj => by simp at hj, fun i j k _ hj => by simp at hj⟩
theorem OwnR.ext (h : OwnR w base v vals xss) (e : Ext w w') : OwnR w' base v vals xss := { h with row := ownsRow_ext h.row e, el := fun j hj => (h.el j hj).ext e }
theorem OwnR.le {b2 : Nat} (h : OwnR w base v vals xss) (hb : b2 ≤ base) : OwnR w b2 v vals xss := { h with row := ownsRow_base h.row hb, el := fun j hj => (h.el j hj).le hb }
theorem OwnB.lt2 {xs : List Bool} (h : OwnB w base v xs) : ∀ k, v.ownBlock = some k → base ≤ k ∧ k < w.heap.size := h.lt'
theorem OwnR.at_ {a : Option Addr} {n c : Nat} (h : OwnR w base (.slice a n c) vals xss) : RowsAt w a xss := by
  by_cases h0 : xss.length = 0
  · exact .inl (List.eq_nil_of_length_eq_zero h0)
  · have hn : n = xss.length := by
      obtain ⟨a', c', e, _⟩ := ownsRow_row h.row
      cases e; rfl
    subst hn
    obtain ⟨g, rfl, _, hg⟩ := ownsRow_block h.row (by omega)
    refine .inr ⟨g, 0, rfl, hg, fun j hj => ?_⟩
    obtain ⟨aj, cj, hv, hA⟩ := (h.el j hj).opened
    refine ⟨aj, cj, ?_, hA⟩
    rw [Nat.zero_add, ← hv]
    exact ownsRow_cell h.row (by rw [List.getD_eq_getElem?_getD, List.getElem?_eq_getElem (by rw [h.len]; exact hj)]; rfl)
/-- 'out = append(out, row)', the row made since w0. -/
theorem OwnR.snoc {w0 : World} {u v' : Value} {x : List Bool} {n : Nat} (h : OwnR w0 base v vals xss) (e : Ext w0 w) (hu : OwnB w base u x) (hN : ∀ k, u.ownBlock = some k → w0.heap.size ≤ k) (hg : w.grownBy w' v.ownBlock) (hm : RowMoved w v v')
    (hn : n = xss.length + 1) (ho : w'.ownsRow base 59 1 v' n (vals ++ [u])) : OwnR w' base v' (vals ++ [u]) (xss ++ [x]) := by
  subst hn
  have hl := h.len
  have old : ∀ j, j < xss.length → (vals ++ [u]).getD j (.slice none 0 0) = vals.getD j (.slice none 0 0) ∧ (xss ++ [x]).getD j [] = xss.getD j [] :=
    fun j hj => ⟨getD_append_left _ _ _ _ (by omega), getD_append_left _ _ _ _ hj⟩
  have new : (vals ++ [u]).getD xss.length (.slice none 0 0) = u ∧ (xss ++ [x]).getD xss.length [] = x := by
    refine ⟨?_, by simp [List.getD_eq_getElem?_getD]⟩
    rw [← hl]; simp [List.getD_eq_getElem?_getD]
  have vlt : ∀ k, v.ownBlock = some k → k < w0.heap.size := fun k hk => (h.row.lt k hk).2
  have elt : ∀ j, j < xss.length → ∀ k, (vals.getD j (.slice none 0 0)).ownBlock = some k → k < w0.heap.size := fun j hj k hk => ((h.el j hj).lt2 k hk).2
  have ge : ∀ (z : Value), (∀ k, z.ownBlock = some k → v.ownBlock ≠ some k) → z.ownBlock = none ∨ z.ownBlock ≠ v.ownBlock := fun z hz => off_row hz
  have uv : ∀ k, u.ownBlock = some k → v.ownBlock ≠ some k := fun k hk hv => by have := hN k hk; have := vlt k hv; omega
  refine ⟨by simp [hl], by rw [List.length_append]; exact ho, fun j hj => ?_, fun j k hj hk => ?_, fun i j k hij hj hk => ?_⟩
  · rw [List.length_append, List.length_singleton] at hj
    by_cases hlt : j < xss.length
    · rw [(old j hlt).1, (old j hlt).2]
      exact ownsRow_gr ((h.el j hlt).ext e) hg (ge _ (fun k hk => h.off j k hlt hk))
    · have : j = xss.length := by omega
      subst this
      rw [new.1, new.2]
      exact ownsRow_gr hu hg (ge _ uv)
  · rw [List.length_append, List.length_singleton] at hj
    by_cases hlt : j < xss.length
    · rw [(old j hlt).1] at hk
      rcases hm with em | ⟨q, em, hq⟩
      · rw [em]; exact h.off j k hlt hk
      · rw [em]; intro e2; have : q = k := Option.some.inj e2; have := elt j hlt k hk; have := e.size; omega
    · have : j = xss.length := by omega
      subst this
      rw [new.1] at hk
      rcases hm with em | ⟨q, em, hq⟩
      · rw [em]; exact uv k hk
      · rw [em]; intro e2; have : q = k := Option.some.inj e2; have := (hu.lt2 k hk).2; omega
  · rw [List.length_append, List.length_singleton] at hj
    have hi : i < xss.length := by omega
    rw [(old i hi).1] at hk
    by_cases hlt : j < xss.length
    · rw [(old j hlt).1]; exact h.dis i j k hij hlt hk
    · have : j = xss.length := by omega
      subst this
      rw [new.1]
      intro hu2
      have := hN k hu2
      have := elt i hi k hk
      omega
end
def GiveRows (w : World) (xss : List (List Bool)) (e : Ending) (w' : World) : Prop := ∃ v vals, e = .returned v ∧ OwnR w' w.heap.size v vals xss ∧ Ext w w'
end Go.Proofs.Ytkdiniaddnhkdaa
