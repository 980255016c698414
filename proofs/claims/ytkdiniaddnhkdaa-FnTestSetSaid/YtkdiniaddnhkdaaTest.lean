/- Plain lists: the set of tests that TestSet chooses. -/
import Derived.Test.YtkdiniaddnhkdaaFaults
import Derived.Test.YtkdiniaddnhkdaaFind
import Derived.Test.YtkdiniaddnhkdaaFindS
namespace Go.Proofs.Ytkdiniaddnhkdaa
set_option linter.unusedVariables false
set_option linter.unusedSimpArgs false
theorem faultsN_get : ∀ n k, k < n * 2 → (faultsN n).getD k (0, false) = ((((k / 2 : Nat) : Int) + 1), k % 2 == 1) := by
  intro n
  induction n with
  | zero => intro k h; omega
  | succ n ih =>
    intro k h
    rw [faultsN_succ]
    have hl := faultsN_length n
    rcases Nat.lt_or_ge k (n * 2) with hk | hk
    · rw [getD_append_left _ _ _ _ (by omega)]; exact ih k hk
    · rw [List.getD_eq_getElem?_getD, List.getElem?_append_right (by omega), hl]
      rcases Nat.eq_or_lt_of_le hk with he | he
      · subst he
        have e1 : n * 2 / 2 = n := by omega
        have e2 : n * 2 % 2 = 0 := by omega
        simp [e1, e2]
      · have e0 : k = n * 2 + 1 := by omega
        subst e0
        have e1 : (n * 2 + 1) / 2 = n := by omega
        have e2 : (n * 2 + 1) % 2 = 1 := by omega
        have e3 : n * 2 + 1 - n * 2 = 1 := by omega
        simp [e1, e2, e3]
theorem fault_in {c : Circ} (V : c.Valid) (k : Nat) (h : k < (faultsN (c.vars - 1).toNat).length) : 1 ≤ ((faultsN (c.vars - 1).toNat).getD k (0, false)).1 ∧ ((faultsN (c.vars - 1).toNat).getD k (0, false)).1 < c.vars := by
  rw [faultsN_length] at h
  rw [faultsN_get _ _ h]
  have := vars_le V
  constructor <;> simp <;> omega
theorem own_ne' {v u : Value} (h : ∀ k, v.ownBlock = some k → u.ownBlock = some k → False) : v.ownBlock = none ∨ v.ownBlock ≠ u.ownBlock := by
  cases hb : v.ownBlock with
  | none => exact .inl rfl
  | some k => exact .inr (fun hh => h k hb hh.symm)
/-- The smallest test of a fault. -/
def fst_ (c : Circ) (f : Int × Bool) : Int := firstD (detV c f.1 f.2) (assigns c)
def seenV (c : Circ) (f : Int × Bool) (S : List Int) : Bool := S.any (fun x => detV c f.1 f.2 x.toNat)
def tsStep (c : Circ) (S : List Int) (f : Int × Bool) : List Int := if seenV c f S then S else if 0 ≤ fst_ c f then S ++ [fst_ c f] else S
noncomputable def tsV (c : Circ) : List Int := (faultsV c).foldl (tsStep c) []
theorem fst_lt (c : Circ) (f : Int × Bool) : fst_ c f < assigns c := (firstD_lt _ _).1
theorem fst_hit {c : Circ} {f : Int × Bool} (h : 0 ≤ fst_ c f) : detV c f.1 f.2 (fst_ c f).toNat = true := by
  unfold fst_ firstD at *
  cases hf : (List.range (assigns c)).find? (detV c f.1 f.2) with
  | none => rw [hf] at h; exact absurd h (by decide)
  | some x => simpa using List.find?_some hf
theorem fst_of {c : Circ} {f : Int × Bool} {x : Int} (h0 : 0 ≤ x) (h1 : x < assigns c) (h : detV c f.1 f.2 x.toNat = true) : 0 ≤ fst_ c f := by
  rcases Int.lt_or_le (fst_ c f) 0 with hh | hh
  · have := firstD_before (detV c f.1 f.2) (assigns c) x.toNat (by omega) (.inl hh)
    rw [h] at this; cases this
  · exact hh
theorem tsStep_cases (c : Circ) (S : List Int) (f : Int × Bool) : tsStep c S f = S ∨ (seenV c f S = false ∧ 0 ≤ fst_ c f ∧ tsStep c S f = S ++ [fst_ c f]) := by
  unfold tsStep
  cases h : seenV c f S
  · by_cases h2 : 0 ≤ fst_ c f
    · right; exact ⟨rfl, h2, by simp [h2]⟩
    · left; simp [h2]
  · left; simp
theorem seen_mono {c : Circ} {f : Int × Bool} {S : List Int} (T : List Int) (h : seenV c f S = true) : seenV c f (S ++ T) = true := by
  unfold seenV at *
  rw [List.any_append, h]; rfl
structure TsOk (c : Circ) (F : List (Int × Bool)) (S : List Int) : Prop where
  rng : ∀ x ∈ S, 0 ≤ x ∧ x < assigns c
  all : ∀ f ∈ F, 0 ≤ fst_ c f → seenV c f S = true
  need : ∀ k, k < S.length → ∃ i, i < F.length ∧ fst_ c (F.getD i (0, false)) = S.getD k 0 ∧ ∀ j, j < k → detV c (F.getD i (0, false)).1 (F.getD i (0, false)).2 (S.getD j 0).toNat = false
  len : S.length ≤ F.length
theorem TsOk.nil (c : Circ) : TsOk c [] [] := ⟨by simp, by simp, fun k hk => by simp at hk, Nat.le_refl _⟩
theorem seen_no {c : Circ} {f : Int × Bool} {S : List Int} (h : seenV c f S = false) {j : Nat} (hj : j < S.length) : detV c f.1 f.2 (S.getD j 0).toNat = false := by
  unfold seenV at h
  rw [List.any_eq_false] at h
  have hm : S.getD j 0 ∈ S := by rw [List.getD_eq_getElem?_getD, List.getElem?_eq_getElem hj]; exact List.getElem_mem hj
  simpa using h _ hm
theorem TsOk.step {c : Circ} {F : List (Int × Bool)} {S : List Int} (h : TsOk c F S) (f : Int × Bool) : TsOk c (F ++ [f]) (tsStep c S f) := by
  have old : ∀ i, i < F.length → (F ++ [f]).getD i (0, false) = F.getD i (0, false) := fun i hi => by
    rw [List.getD_eq_getElem?_getD, List.getD_eq_getElem?_getD, List.getElem?_append_left hi]
  have new : (F ++ [f]).getD F.length (0, false) = f := by simp [List.getD_eq_getElem?_getD]
  rcases tsStep_cases c S f with e | ⟨h1, h2, e⟩
  · rw [e]
    refine ⟨h.rng, fun g hg h0 => ?_, fun k hk => ?_, by simp; have := h.len; omega⟩
    · rcases List.mem_append.1 hg with hg | hg
      · exact h.all g hg h0
      · rw [List.mem_singleton] at hg
        subst hg
        cases hs : seenV c g S
        · unfold tsStep at e
          rw [hs] at e
          simp [h0] at e
        · rfl
    · obtain ⟨i, hi, h3, h4⟩ := h.need k hk
      exact ⟨i, by simp; omega, by rw [old i hi]; exact h3, by rw [old i hi]; exact h4⟩
  · rw [e]
    refine ⟨fun x hx => ?_, fun g hg h0 => ?_, fun k hk => ?_, by simp; have := h.len; omega⟩
    · rcases List.mem_append.1 hx with hx | hx
      · exact h.rng x hx
      · rw [List.mem_singleton] at hx; subst hx
        exact ⟨h2, fst_lt c f⟩
    · rcases List.mem_append.1 hg with hg | hg
      · exact seen_mono _ (h.all g hg h0)
      · rw [List.mem_singleton] at hg
        subst hg
        unfold seenV
        rw [List.any_append]
        simp [fst_hit h2]
    · have gl : ∀ j, j < S.length → (S ++ [fst_ c f]).getD j 0 = S.getD j 0 := fun j hj => by
        rw [List.getD_eq_getElem?_getD, List.getD_eq_getElem?_getD, List.getElem?_append_left hj]
      have gn : (S ++ [fst_ c f]).getD S.length 0 = fst_ c f := by simp [List.getD_eq_getElem?_getD]
      rw [List.length_append, List.length_singleton] at hk
      by_cases hlt : k < S.length
      · obtain ⟨i, hi, h3, h4⟩ := h.need k hlt
        refine ⟨i, by simp; omega, by rw [old i hi, gl k hlt]; exact h3, fun j hj => ?_⟩
        rw [old i hi, gl j (by omega)]
        exact h4 j hj
      · have : k = S.length := by omega
        subst this
        refine ⟨F.length, by simp, by rw [new, gn], fun j hj => ?_⟩
        rw [new, gl j hj]
        exact seen_no h1 hj
theorem TsOk.fold (c : Circ) : ∀ (G F : List (Int × Bool)) (S : List Int), TsOk c F S → TsOk c (F ++ G) (G.foldl (tsStep c) S)
  | [], F, S, h => by simpa using h
  | g :: G, F, S, h => by
    have := TsOk.fold c G (F ++ [g]) (tsStep c S g) (h.step g)
    simpa using this
theorem tsV_ok (c : Circ) : TsOk c (faultsV c) (tsV c) := by
  have := TsOk.fold c (faultsV c) [] [] (TsOk.nil c)
  rw [List.nil_append] at this
  exact this
theorem ts_take (c : Circ) (F : List (Int × Bool)) (k : Nat) (hk : k ≤ F.length) : TsOk c (F.take k) ((F.take k).foldl (tsStep c) []) := by
  have := TsOk.fold c (F.take k) [] [] (TsOk.nil c)
  simpa using this
theorem ts_snoc (c : Circ) (F : List (Int × Bool)) (k : Nat) (hk : k < F.length) : (F.take (k + 1)).foldl (tsStep c) [] = tsStep c ((F.take k).foldl (tsStep c) []) (F.getD k (0, false)) := by
  rw [take_snocG F k (0, false) hk, List.foldl_append]; rfl
theorem seen_iff {c : Circ} {F : List (Int × Bool)} {S : List Int} (h : TsOk c F S) {f : Int × Bool} (hf : f ∈ F) : seenV c f S = decide (0 ≤ fst_ c f) := by
  by_cases h0 : 0 ≤ fst_ c f
  · rw [h.all f hf h0, decide_eq_true h0]
  · cases hs : seenV c f S
    · rw [decide_eq_false h0]
    · unfold seenV at hs
      rw [List.any_eq_true] at hs
      obtain ⟨x, hx, hd⟩ := hs
      have := h.rng x hx
      exact absurd (fst_of this.1 this.2 hd) h0
end Go.Proofs.Ytkdiniaddnhkdaa
