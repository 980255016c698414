/- Slices of slices of truth values; what Simulate computes. -/
import Derived.Test.YtpfhlodlefcomaaStep
import Derived.Test.YtpfhlodlefcomaaOwnB
import Derived.Test.YtpfhlodlefcomaaCBuild
namespace Go.Proofs.Ytpfhlodlefcomaa
open Go.RowKit
set_option maxRecDepth 100000
set_option linter.unusedVariables false
set_option linter.unusedSimpArgs false
/-- How a slice of slices of truth values reads. -/
def RowsAt (w : World) (a : Option Addr) (xss : List (List Bool)) : Prop :=
  xss = [] ∨ ∃ b o, a = some ⟨b, o, none⟩ ∧ b < w.heap.size ∧ ∀ j, j < xss.length → ∃ aj cj, w.cell? ⟨b, o + j, none⟩ = some (.slice aj (xss.getD j []).length cj) ∧ BoolsAt w aj (xss.getD j [])
section
variable {w w' : World} {a : Option Addr} {xss : List (List Bool)}
theorem RowsAt.get (h : RowsAt w a xss) (hn : 0 < xss.length) : ∃ b o, a = some ⟨b, o, none⟩ ∧ b < w.heap.size ∧ ∀ j, j < xss.length → ∃ aj cj, w.cell? ⟨b, o + j, none⟩ = some (.slice aj (xss.getD j []).length cj) ∧ BoolsAt w aj (xss.getD j []) := by
  rcases h with rfl | h
  · simp at hn
  · exact h
theorem RowsAt.ext (h : RowsAt w a xss) (e : Ext w w') : RowsAt w' a xss := by
  rcases h with rfl | ⟨b, o, ha, hb, hc⟩
  · exact .inl rfl
  · refine .inr ⟨b, o, ha, Nat.lt_of_lt_of_le hb e.size, fun j hj => ?_⟩
    obtain ⟨aj, cj, h1, h2⟩ := hc j hj
    exact ⟨aj, cj, ((ecell e).1 b _ hb).trans h1, h2.ext e⟩
end
theorem tyRows : RowTy Try.prog 33 38 1 24 := RowTy.mk' (z := .slice none 0 0) Try.underlying33 (by kernel_rfl) rfl (by decide) (by decide)
/-- A slice of slices that the call owns: all rows lie apart, and apart from the slice itself. -/
structure OwnR (w : World) (base : Nat) (v : Value) (vals : List Value) (xss : List (List Bool)) : Prop where
  len : vals.length = xss.length
  row : w.ownsRow base 38 1 v xss.length vals
  el : ∀ j, j < xss.length → OwnB w base (vals.getD j (.slice none 0 0)) (xss.getD j [])
  off : ∀ j k, j < xss.length → (vals.getD j (.slice none 0 0)).ownBlock = some k → v.ownBlock ≠ some k
  dis : ∀ i j k, i < j → j < xss.length → (vals.getD i (.slice none 0 0)).ownBlock = some k → (vals.getD j (.slice none 0 0)).ownBlock ≠ some k
section
variable {w w' : World} {base : Nat} {v : Value} {vals : List Value} {xss : List (List Bool)}
theorem OwnR.nil : OwnR w base (.slice none 0 0) [] [] := ⟨rfl, ownsRow_nil, fun j hj => by simp at hj, fun j k hj => by simp at hj, fun i j k _ hj => by simp at hj⟩
theorem OwnR.ext (h : OwnR w base v vals xss) (e : Ext w w') : OwnR w' base v vals xss := { h with row := ownsRow_ext h.row e, el := fun j hj => (h.el j hj).ext e }
theorem OwnR.le {b2 : Nat} (h : OwnR w base v vals xss) (hb : b2 ≤ base) : OwnR w b2 v vals xss := { h with row := ownsRow_base h.row hb, el := fun j hj => (h.el j hj).le hb }
theorem OwnB.lt2 {xs : List Bool} (h : OwnB w base v xs) : ∀ k, v.ownBlock = some k → base ≤ k ∧ k < w.heap.size := h.lt'
theorem OwnR.at_ {a : Option Addr} {n c : Nat} (h : OwnR w base (.slice a n c) vals xss) : RowsAt w a xss := by
  by_cases h0 : xss.length = 0
  · exact .inl (List.eq_nil_of_length_eq_zero h0)
  · have hn : n = xss.length := by
      obtain ⟨a', c', e, _⟩ := ownsRow_row h.row
      cases e; rfl
    subst hn
    obtain ⟨g, rfl, _, hg⟩ := ownsRow_block h.row (by omega)
    refine .inr ⟨g, 0, rfl, hg, fun j hj => ?_⟩
    obtain ⟨aj, cj, hv, hA⟩ := (h.el j hj).opened
    refine ⟨aj, cj, ?_, hA⟩
    rw [Nat.zero_add, ← hv]
    exact ownsRow_cell h.row (by rw [List.getD_eq_getElem?_getD, List.getElem?_eq_getElem (by rw [h.len]; exact hj)]; rfl)
/-- 'out = append(out, row)', the row made since w0. -/
theorem OwnR.snoc {w0 : World} {u v' : Value} {x : List Bool} {n : Nat} (h : OwnR w0 base v vals xss) (e : Ext w0 w) (hu : OwnB w base u x) (hN : ∀ k, u.ownBlock = some k → w0.heap.size ≤ k) (hg : w.grownBy w' v.ownBlock) (hm : RowMoved w v v')
    (hn : n = xss.length + 1) (ho : w'.ownsRow base 38 1 v' n (vals ++ [u])) : OwnR w' base v' (vals ++ [u]) (xss ++ [x]) := by
  subst hn
  have hl := h.len
  have old : ∀ j, j < xss.length → (vals ++ [u]).getD j (.slice none 0 0) = vals.getD j (.slice none 0 0) ∧ (xss ++ [x]).getD j [] = xss.getD j [] :=
    fun j hj => ⟨getD_append_left _ _ _ _ (by omega), getD_append_left _ _ _ _ hj⟩
  have new : (vals ++ [u]).getD xss.length (.slice none 0 0) = u ∧ (xss ++ [x]).getD xss.length [] = x := by
    refine ⟨?_, by simp [List.getD_eq_getElem?_getD]⟩
    rw [← hl]; simp [List.getD_eq_getElem?_getD]
  have vlt : ∀ k, v.ownBlock = some k → k < w0.heap.size := fun k hk => (h.row.lt k hk).2
  have elt : ∀ j, j < xss.length → ∀ k, (vals.getD j (.slice none 0 0)).ownBlock = some k → k < w0.heap.size := fun j hj k hk => ((h.el j hj).lt2 k hk).2
  have ge : ∀ (z : Value), (∀ k, z.ownBlock = some k → v.ownBlock ≠ some k) → z.ownBlock = none ∨ z.ownBlock ≠ v.ownBlock := fun z hz => off_row hz
  have uv : ∀ k, u.ownBlock = some k → v.ownBlock ≠ some k := fun k hk hv => by have := hN k hk; have := vlt k hv; omega
  refine ⟨by simp [hl], by rw [List.length_append]; exact ho, fun j hj => ?_, fun j k hj hk => ?_, fun i j k hij hj hk => ?_⟩
  · rw [List.length_append, List.length_singleton] at hj
    by_cases hlt : j < xss.length
    · rw [(old j hlt).1, (old j hlt).2]
      exact ownsRow_gr ((h.el j hlt).ext e) hg (ge _ (fun k hk => h.off j k hlt hk))
    · have : j = xss.length := by omega
      subst this
      rw [new.1, new.2]
      exact ownsRow_gr hu hg (ge _ uv)
  · rw [List.length_append, List.length_singleton] at hj
    by_cases hlt : j < xss.length
    · rw [(old j hlt).1] at hk
      rcases hm with em | ⟨q, em, hq⟩
      · rw [em]; exact h.off j k hlt hk
      · rw [em]; intro e2; have : q = k := Option.some.inj e2; have := elt j hlt k hk; have := e.size; omega
    · have : j = xss.length := by omega
      subst this
      rw [new.1] at hk
      rcases hm with em | ⟨q, em, hq⟩
      · rw [em]; exact uv k hk
      · rw [em]; intro e2; have : q = k := Option.some.inj e2; have := (hu.lt2 k hk).2; omega
  · rw [List.length_append, List.length_singleton] at hj
    have hi : i < xss.length := by omega
    rw [(old i hi).1] at hk
    by_cases hlt : j < xss.length
    · rw [(old j hlt).1]; exact h.dis i j k hij hlt hk
    · have : j = xss.length := by omega
      subst this
      rw [new.1]
      intro hu2
      have := hN k hu2
      have := elt i hi k hk
      omega
end
def GiveRows (w : World) (xss : List (List Bool)) (e : Ending) (w' : World) : Prop := ∃ v vals, e = .returned v ∧ OwnR w' w.heap.size v vals xss ∧ Ext w w'
/-! ### What Simulate computes -/
noncomputable def stRun (c : Circ) (st : List Bool) (xss : List (List Bool)) : List Bool := xss.foldl (fun st r => (stepV c st r).2) st
noncomputable def runV (c : Circ) : List Bool → List (List Bool) → List (List Bool)
  | _, [] => []
  | st, r :: rs => (stepV c st r).1 :: runV c (stepV c st r).2 rs
theorem runV_snoc (c : Circ) (r : List Bool) : ∀ (rs : List (List Bool)) (st : List Bool), runV c st (rs ++ [r]) = runV c st rs ++ [(stepV c (stRun c st rs) r).1]
  | [], st => rfl
  | x :: rs, st => by
    rw [List.cons_append, runV, runV_snoc c r rs]
    rfl
theorem stRun_snoc (c : Circ) (r : List Bool) (rs : List (List Bool)) (st : List Bool) : stRun c st (rs ++ [r]) = (stepV c (stRun c st rs) r).2 := by
  unfold stRun; rw [List.foldl_append]; rfl
theorem runV_length (c : Circ) : ∀ (rs : List (List Bool)) (st : List Bool), (runV c st rs).length = rs.length
  | [], _ => rfl
  | x :: rs, st => by rw [runV, List.length_cons, List.length_cons, runV_length c rs]
noncomputable def fitB (c : Circ) (xss : List (List Bool)) : Bool := validB c && decide (xss.length ≤ 40) && xss.all (fun r => (r.length : Int) == c.inputs)
structure FitR (c : Circ) (xss : List (List Bool)) : Prop where
  V : c.Valid
  n : xss.length ≤ 40
  r : ∀ j, j < xss.length → ((xss.getD j []).length : Int) = c.inputs
theorem fitB_iff {c : Circ} {xss : List (List Bool)} : fitB c xss = true ↔ FitR c xss := by
  unfold fitB
  simp only [Bool.and_eq_true, decide_eq_true_eq, List.all_eq_true, beq_iff_eq, validB_iff]
  constructor
  · rintro ⟨⟨h1, h2⟩, h3⟩
    exact ⟨h1, h2, fun j hj => h3 _ (by rw [List.getD_eq_getElem?_getD, List.getElem?_eq_getElem hj]; exact List.getElem_mem hj)⟩
  · rintro ⟨h1, h2, h3⟩
    refine ⟨⟨h1, h2⟩, fun r hr => ?_⟩
    obtain ⟨i, hi, rfl⟩ := List.mem_iff_getElem.1 hr
    have := h3 i hi
    rwa [List.getD_eq_getElem?_getD, List.getElem?_eq_getElem hi] at this
def st0 (c : Circ) : List Bool := List.replicate c.next.length false
noncomputable def simV (c : Circ) (xss : List (List Bool)) : List (List Bool) := if fitB c xss then runV c (st0 c) xss else []
theorem stepV_len {c : Circ} {st ins : List Bool} (ok : EvOk c st ins) : (stepV c st ins).1.length = c.outs.length ∧ (stepV c st ins).2.length = c.next.length := by
  rw [stepV_ok ok]; exact ⟨litsV_length _ _, litsV_length _ _⟩
theorem stRun_len {c : Circ} {xss : List (List Bool)} (F : FitR c xss) (k : Nat) (hk : k ≤ xss.length) : (stRun c (st0 c) (xss.take k)).length = c.next.length := by
  induction k with
  | zero => simp [stRun, st0]
  | succ k ih =>
    rw [take_snocG xss k [] (by omega), stRun_snoc]
    exact (stepV_len ⟨F.V, ih (by omega), F.r k (by omega)⟩).2
theorem evOk_run {c : Circ} {xss : List (List Bool)} (F : FitR c xss) (k : Nat) (hk : k < xss.length) : EvOk c (stRun c (st0 c) (xss.take k)) (xss.getD k []) := ⟨F.V, stRun_len F k (by omega), F.r k hk⟩
end Go.Proofs.Ytpfhlodlefcomaa
