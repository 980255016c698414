/- Plain lists: what Optimize keeps (values, levels), and which gates are used. -/
import Derived.Test.YtpfhlodlefcomaaOptV
import Derived.Test.YtpfhlodlefcomaaRes
namespace Go.Proofs.Ytpfhlodlefcomaa
open Go.RowKit
set_option linter.unusedVariables false
set_option linter.unusedSimpArgs false
/-- What is built when k gates are done. -/
def bState (share : Bool) (c : Circ) (k : Nat) : List (Int × Int) × List Int := ((c.gates.zip (usedV c)).take k).foldl (bStep share c.first) ([], own0 c.first.toNat)
theorem bState_all (share : Bool) (c : Circ) : bState share c c.gates.length = buildS share c := by
  unfold bState buildS
  rw [List.take_of_length_le (by rw [List.length_zip, usedV_length]; omega)]
theorem bState_succ (share : Bool) (c : Circ) (k : Nat) (hk : k < c.gates.length) : bState share c (k + 1) = bStep share c.first (bState share c k) (c.gates.getD k (0, 0), (usedV c).getD k false) := by
  unfold bState
  rw [take_snocG _ k ((0, 0), false) (by rw [List.length_zip, usedV_length]; omega), List.foldl_append, zip_getD _ _ _ hk (usedV_length c)]; rfl
theorem bState_ok {c : Circ} (V : c.Valid) (share : Bool) (k : Nat) (hk : k ≤ c.gates.length) : BOk c.first k (bState share c k) := by
  have hf := V.first
  have hl : ((c.gates.zip (usedV c)).take k).length = k := by rw [List.length_take, List.length_zip, usedV_length]; omega
  have := BOk.fold hf.1 share ((c.gates.zip (usedV c)).take k) 0 ([], own0 c.first.toNat) (BOk.start hf.1) (fun j hj => by
    rw [hl] at hj
    have e : ((c.gates.zip (usedV c)).take k).getD j ((0, 0), false) = (c.gates.zip (usedV c)).getD j ((0, 0), false) := by
      rw [List.getD_eq_getElem?_getD, List.getD_eq_getElem?_getD, List.getElem?_take_of_lt hj]
    rw [e, zip_getD _ _ _ (by omega) (usedV_length c), Nat.zero_add]
    exact V.gs j (by omega))
  rw [hl, Nat.zero_add] at this
  exact this
/-- Which gates are used: those that a root or a later used gate names. -/
theorem markG_get (f : Int) (us : List Bool) (l : Int) (i : Nat) (hi : i < us.length) : (markG f us l).getD i false = (us.getD i false || decide (l / 2 = f + i)) := by
  unfold markG
  split
  · next h =>
    rw [List.getD_eq_getElem?_getD, List.getD_eq_getElem?_getD, List.getElem?_set]
    by_cases e : (l / 2 - f).toNat = i
    · rw [if_pos e, if_pos (by omega)]
      have : l / 2 = f + i := by omega
      simp [this]
    · rw [if_neg e]
      have : ¬ l / 2 = f + i := by omega
      simp [this]
  · next h =>
    have : ¬ l / 2 = f + i := by omega
    simp [this]
theorem foldl_mark_get (f : Int) (rs : List Int) : ∀ (us : List Bool) (i : Nat), i < us.length → (rs.foldl (markG f) us).getD i false = (us.getD i false || rs.any (fun l => decide (l / 2 = f + i))) := by
  induction rs with
  | nil => intro us i hi; simp
  | cons r rs ih =>
    intro us i hi
    rw [List.foldl_cons, ih _ _ (by rw [markG_length]; exact hi), markG_get _ _ _ _ hi, List.any_cons, Bool.or_assoc]
theorem rootU_get (f : Int) (n : Nat) (rs : List Int) (i : Nat) (hi : i < n) : (rootU f n rs).getD i false = rs.any (fun l => decide (l / 2 = f + i)) := by
  unfold rootU
  rw [foldl_mark_get _ _ _ _ (by simpa using hi)]
  simp [List.getD_eq_getElem?_getD, List.getElem?_replicate, hi]
def refs (f : Int) (gs : List (Int × Int)) (j i : Nat) : Prop := (gs.getD j (0, 0)).1 / 2 = f + i ∨ (gs.getD j (0, 0)).2 / 2 = f + i
theorem useStep_get (f : Int) (gs : List (Int × Int)) (us : List Bool) (k i : Nat) (hi : i < us.length) : (useStep f gs us k).getD i false = true ↔ (us.getD i false = true ∨ (us.getD k false = true ∧ refs f gs k i)) := by
  unfold useStep refs
  split
  · next h =>
    rw [markG_get _ _ _ _ (by rw [markG_length]; exact hi), markG_get _ _ _ _ hi, h]
    simp [or_assoc]
  · next h => exact ⟨.inl, fun h' => h'.elim id (fun h' => absurd h'.1 h)⟩
theorem useDown_get {f : Int} {gs : List (Int × Int)} (hg : GsIn f gs) : ∀ (k : Nat) (us : List Bool), k ≤ gs.length → us.length = gs.length → ∀ i, i < gs.length →
    ((useDown f gs k us).getD i false = true ↔ (us.getD i false = true ∨ ∃ j, i < j ∧ j < k ∧ (useDown f gs k us).getD j false = true ∧ refs f gs j i))
  | 0, us, hk, hl, i, hi => by
    simp [useDown]
  | k + 1, us, hk, hl, i, hi => by
    have hr : ∀ i, refs f gs k i → i < k := by
      intro i h
      have hv := hg k (by omega)
      rw [litB_ii, litB_ii] at hv
      unfold refs at h
      omega
    have ih := useDown_get hg k (useStep f gs us k) (by omega) (by rw [useStep_length, hl])
    rw [show useDown f gs (k + 1) us = useDown f gs k (useStep f gs us k) from rfl]
    have hkk : (useDown f gs k (useStep f gs us k)).getD k false = true ↔ us.getD k false = true := by
      rw [ih k (by omega), useStep_get _ _ _ _ _ (by omega)]
      constructor
      · rintro ((h | ⟨h, _⟩) | ⟨j, h1, h2, _⟩)
        · exact h
        · exact h
        · omega
      · exact fun h => .inl (.inl h)
    rw [ih i hi, useStep_get _ _ _ _ _ (by omega)]
    constructor
    · rintro ((h | ⟨h, h2⟩) | ⟨j, h1, h2, h3, h4⟩)
      · exact .inl h
      · exact .inr ⟨k, hr _ h2, by omega, hkk.2 h, h2⟩
      · exact .inr ⟨j, h1, by omega, h3, h4⟩
    · rintro (h | ⟨j, h1, h2, h3, h4⟩)
      · exact .inl (.inl h)
      · by_cases e : j = k
        · subst e; exact .inl (.inr ⟨hkk.1 h3, h4⟩)
        · exact .inr ⟨j, h1, by omega, h3, h4⟩
theorem usedV_iff {c : Circ} (V : c.Valid) (i : Nat) (hi : i < c.gates.length) : (usedV c).getD i false = true ↔
    ((∃ l ∈ c.outs ++ c.next, l / 2 = c.first + i) ∨ ∃ j, i < j ∧ j < c.gates.length ∧ (usedV c).getD j false = true ∧ refs c.first c.gates j i) := by
  have := useDown_get V.gs c.gates.length (rootU c.first c.gates.length (c.outs ++ c.next)) (Nat.le_refl _) (rootU_length _ _ _) i hi
  rw [rootU_get _ _ _ _ hi] at this
  unfold usedV
  rw [this, List.any_eq_true]
  simp only [decide_eq_true_eq]
/-- A literal that may be asked for: of an input, a latch or a used gate among the first k. -/
def Live (c : Circ) (k : Nat) (l : Int) : Prop := 0 ≤ l ∧ (l / 2 < c.first ∨ ∃ i, i < k ∧ l / 2 = c.first + i ∧ (usedV c).getD i false = true)
theorem live_root {c : Circ} (V : c.Valid) {l : Int} (hl : l ∈ c.next ++ c.outs) : Live c c.gates.length l := by
  have h := LitsOk.mem.1 V.rs l hl
  rw [litB_ii] at h
  refine ⟨h.1, ?_⟩
  by_cases e : l / 2 < c.first
  · exact .inl e
  · have hv : c.vars = c.first + c.gates.length := rfl
    refine .inr ⟨(l / 2 - c.first).toNat, by omega, by omega, ?_⟩
    rw [usedV_iff V _ (by omega)]
    exact .inl ⟨l, by rw [List.mem_append] at hl ⊢; exact hl.symm, by omega⟩
theorem live_op {c : Circ} (V : c.Valid) {k : Nat} (hk : k < c.gates.length) (hu : (usedV c).getD k false = true) : Live c k (c.gates.getD k (0, 0)).1 ∧ Live c k (c.gates.getD k (0, 0)).2 := by
  have h := V.gs k hk
  rw [litB_ii, litB_ii] at h
  constructor
  · refine ⟨h.1.1, ?_⟩
    by_cases e : (c.gates.getD k (0, 0)).1 / 2 < c.first
    · exact .inl e
    · refine .inr ⟨((c.gates.getD k (0, 0)).1 / 2 - c.first).toNat, by omega, by omega, ?_⟩
      rw [usedV_iff V _ (by omega)]
      exact .inr ⟨k, by omega, hk, hu, .inl (by omega)⟩
  · refine ⟨h.2.1, ?_⟩
    by_cases e : (c.gates.getD k (0, 0)).2 / 2 < c.first
    · exact .inl e
    · refine .inr ⟨((c.gates.getD k (0, 0)).2 / 2 - c.first).toNat, by omega, by omega, ?_⟩
      rw [usedV_iff V _ (by omega)]
      exact .inr ⟨k, by omega, hk, hu, .inr (by omega)⟩
/-- A relation between old and new literals that holds of the variables at the start and goes on from gate to gate. -/
theorem bState_rel {c : Circ} (V : c.Valid) (share : Bool) (P : List (Int × Int) → Int → Int → Prop)
    (h0 : ∀ v : Nat, (v : Int) < c.first → P [] (2 * v) (2 * v))
    (hx : ∀ gs l y, P gs (2 * (l / 2)) y → 0 ≤ l → 0 ≤ y → P gs l (xorL y l))
    (hs : ∀ k, k < c.gates.length → (usedV c).getD k false = true → ∀ ms, BOk c.first k ((bState share c k).1, ms) →
      P (bState share c k).1 (c.gates.getD k (0, 0)).1 (mapL ms (c.gates.getD k (0, 0)).1) → P (bState share c k).1 (c.gates.getD k (0, 0)).2 (mapL ms (c.gates.getD k (0, 0)).2) →
      ∀ k', bState share c (k + 1) = (k'.1, ms ++ [k'.2]) → k' = (if share then andG c.first (bState share c k).1 (mapL ms (c.gates.getD k (0, 0)).1) (mapL ms (c.gates.getD k (0, 0)).2) else ((bState share c k).1 ++ [(mapL ms (c.gates.getD k (0, 0)).1, mapL ms (c.gates.getD k (0, 0)).2)], 2 * (c.first + (bState share c k).1.length))) →
      P k'.1 (2 * (c.first + k)) k'.2)
    (hm : ∀ gs gs' l y, GsIn c.first gs' → (∃ t, gs' = gs ++ t) → litB y (c.first + gs.length) = true → P gs l y → P gs' l y) :
    ∀ k, k ≤ c.gates.length → ∀ l, Live c k l → P (bState share c k).1 l (mapL (bState share c k).2 l) := by
  have hf := V.first
  have key : ∀ k, k ≤ c.gates.length → ∀ v : Nat, Live c k (2 * (v : Int)) → P (bState share c k).1 (2 * (v : Int)) ((bState share c k).2.getD v 0) := by
    intro k
    induction k with
    | zero =>
      intro _ v hv
      obtain ⟨_, hv | ⟨i, hi, _⟩⟩ := hv
      · have e : bState share c 0 = ([], own0 c.first.toNat) := rfl
        rw [e]
        dsimp only
        rw [own0_get _ _ (by omega)]
        exact h0 v (by omega)
      · omega
    | succ k ih =>
      intro hk v hv
      have ih := ih (by omega)
      have B := bState_ok V share k (by omega)
      have B' := bState_ok V share (k + 1) hk
      have hml := B.ml
      have hst := bState_succ share c k (by omega)
      have lit : ∀ l, Live c k l → P (bState share c k).1 l (mapL (bState share c k).2 l) := by
        intro l hl
        have h := ih (l / 2).toNat (by
          obtain ⟨h0, h⟩ := hl
          refine ⟨by omega, ?_⟩
          have e : 2 * ((l / 2).toNat : Int) / 2 = l / 2 := by omega
          rw [e]; exact h)
        have e : 2 * ((l / 2).toNat : Int) = 2 * (l / 2) := by have := hl.1; omega
        rw [e] at h
        have hin : (l / 2).toNat < (bState share c k).2.length := by
          obtain ⟨h0, h | ⟨i, hi, h, _⟩⟩ := hl <;> omega
        exact hx _ _ _ h hl.1 (by have := B.ms _ (getD_mem (d := 0) hin); rw [litB_ii] at this; exact this.1)
      have old : Live c k (2 * (v : Int)) → P (bState share c (k + 1)).1 (2 * (v : Int)) ((bState share c (k + 1)).2.getD v 0) := by
        intro h
        have hin : v < (bState share c k).2.length := by
          obtain ⟨h0, h | ⟨i, hi, h, _⟩⟩ := h <;> omega
        have e : (bState share c (k + 1)).2.getD v 0 = (bState share c k).2.getD v 0 := by
          rw [hst]; unfold bStep
          split
          · split <;> exact getD_append_left _ _ _ _ hin
          · exact getD_append_left _ _ _ _ hin
        rw [e]
        refine hm (bState share c k).1 _ _ _ B'.gs ?_ (B.ms _ (getD_mem hin)) (ih v h)
        rw [hst]; unfold bStep
        split
        · split
          · unfold andG andS
            split <;> (split; exact ⟨[], by simp⟩; split; exact ⟨[], by simp⟩; dsimp only; split; exact ⟨[], by simp⟩; exact ⟨_, rfl⟩)
          · exact ⟨_, rfl⟩
        · exact ⟨[], by simp⟩
      obtain ⟨hv0, hv | ⟨i, hi, hv, hu⟩⟩ := hv
      · exact old ⟨hv0, .inl hv⟩
      · by_cases e : i = k
        · subst e
          obtain ⟨o1, o2⟩ := live_op V (by omega) hu
          have hvv : v = (bState share c i).2.length := by omega
          have h2 : 2 * (v : Int) = 2 * (c.first + i) := by omega
          rw [hu] at hst
          have hst2 : bState share c (i + 1) = ((if share then andG c.first (bState share c i).1 (mapL (bState share c i).2 (c.gates.getD i (0, 0)).1) (mapL (bState share c i).2 (c.gates.getD i (0, 0)).2) else ((bState share c i).1 ++ [(mapL (bState share c i).2 (c.gates.getD i (0, 0)).1, mapL (bState share c i).2 (c.gates.getD i (0, 0)).2)], 2 * (c.first + (bState share c i).1.length))).1,
            (bState share c i).2 ++ [(if share then andG c.first (bState share c i).1 (mapL (bState share c i).2 (c.gates.getD i (0, 0)).1) (mapL (bState share c i).2 (c.gates.getD i (0, 0)).2) else ((bState share c i).1 ++ [(mapL (bState share c i).2 (c.gates.getD i (0, 0)).1, mapL (bState share c i).2 (c.gates.getD i (0, 0)).2)], 2 * (c.first + (bState share c i).1.length))).2]) := by
            rw [hst]; unfold bStep; cases share <;> rfl
          have := hs i (by omega) hu (bState share c i).2 B (lit _ o1) (lit _ o2) _ hst2 rfl
          rw [h2, hst2, hvv]
          simpa [List.getD_eq_getElem?_getD] using this
        · exact old ⟨hv0, .inr ⟨i, by omega, hv, hu⟩⟩
  intro k hk l hl
  have B := bState_ok V share k hk
  have hml := B.ml
  have h := key k hk (l / 2).toNat (by
    obtain ⟨h0, h⟩ := hl
    refine ⟨by omega, ?_⟩
    have e : 2 * ((l / 2).toNat : Int) / 2 = l / 2 := by omega
    rw [e]; exact h)
  have e : 2 * ((l / 2).toNat : Int) = 2 * (l / 2) := by have := hl.1; omega
  rw [e] at h
  have hin : (l / 2).toNat < (bState share c k).2.length := by
    obtain ⟨h0, h | ⟨i, hi, h, _⟩⟩ := hl <;> omega
  exact hx _ _ _ h hl.1 (by have := B.ms _ (getD_mem (d := 0) hin); rw [litB_ii] at this; exact this.1)
end Go.Proofs.Ytpfhlodlefcomaa
