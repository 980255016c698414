/- Plain: the leaves of a cut determine its variable. -/
import Derived.Test.YtgialedmbmfejaaBLut
import Derived.Test.YtgialedmbmfejaaBEv
namespace Go.Proofs.Ytgialedmbmfejaa
set_option linter.unusedVariables false
set_option linter.unusedSimpArgs false
/-- Every way from variable u down to an input or latch meets a leaf. -/
inductive Cov (c : Circ) (L : List Int) : Nat → Prop
 | leaf {u : Nat} : (u : Int) ∈ L → Cov c L u
 | zero : Cov c L 0
 | gate {k : Nat} : k < c.gates.length → Cov c L ((c.gates.getD k (0, 0)).1 / 2).toNat → Cov c L ((c.gates.getD k (0, 0)).2 / 2).toNat → Cov c L (c.first.toNat + k)
theorem Cov.mono {c : Circ} {L M : List Int} {u : Nat} (h : Cov c L u) (hs : ∀ z ∈ L, z ∈ M) : Cov c M u := by
 induction h with
 | leaf h => exact .leaf (hs _ h)
 | zero => exact .zero
 | gate hk _ _ ih1 ih2 => exact .gate hk ih1 ih2
theorem joinV_mem {a b : List (List Int)} : ∀ z ∈ joinV a b, ∃ x ∈ a, ∃ y ∈ b, z = mrg x y := by
 unfold joinV
 refine foldl_inv_mem (p := fun o => ∀ z ∈ o, ∃ x ∈ a, ∃ y ∈ b, z = mrg x y) _ (fun o cut hc ho z hz => ?_) [] (fun z hz => by simp at hz)
 unfold joinStep at hz
 split at hz
 ·exact ho z hz
 ·split at hz
  ·exact ho z hz
  ·rcases List.mem_append.1 hz with h | h
   ·exact ho z h
   ·simp at h
    subst h
    obtain ⟨x, hx, hc2⟩ := List.mem_flatMap.1 hc
    obtain ⟨y, hy, e⟩ := List.mem_map.1 hc2
    exact ⟨x, hx, y, hy, e.symm⟩
theorem cutsK_cov {c : Circ} (V : c.Valid) : ∀ k, k ≤ c.gates.length → ∀ v, v < ((c.gates.take k).foldl cutStep (cuts0 c.first)).length → ∀ x ∈ ((c.gates.take k).foldl cutStep (cuts0 c.first)).getD v [], Cov c x v := by
 have hi0 := V.i0
 have hf : 1 ≤ c.first := by unfold Circ.first; omega
 intro k
 induction k with
 | zero =>
  intro _ v hv x hx
  rw [List.take_zero, List.foldl_nil] at hv hx
  rw [cuts0_get v hv] at hx
  by_cases h : v = 0
  ·subst h; exact .zero
  ·rw [if_neg h] at hx
   simp at hx
   subst hx
   exact .leaf (by simp)
 | succ k ih =>
  intro hk v hv x hx
  have IH := ih (by omega)
  have hl := (cutsK_ok V k (by omega)).2
  rw [foldl_snocD cutStep c.gates k (0, 0) _ (by omega)] at hv hx
  generalize (c.gates.take k).foldl cutStep (cuts0 c.first) = all at IH hl hv hx
  have g := V.gs k (by omega)
  have h1 := litB_ok g.1
  have h2 := litB_ok g.2
  unfold cutStep at hx
  rw [getD_snoc] at hx
  rw [cutStep_length] at hv
  by_cases h : v < all.length
  ·rw [if_pos h] at hx; exact IH v h x hx
  ·have hv2 : v = all.length := by omega
   have hv3 : v = c.first.toNat + k := by omega
   rw [if_neg h, if_pos hv2] at hx
   rcases List.mem_append.1 hx with h3 | h3
   ·obtain ⟨xa, ha, xb, hb, rfl⟩ := joinV_mem x h3
    rw [hv3]
    exact .gate (by omega) ((IH _ (by omega) xa ha).mono (fun z hz => mem_mrg.2 (.inl hz))) ((IH _ (by omega) xb hb).mono (fun z hz => mem_mrg.2 (.inr hz)))
   ·simp at h3
    subst h3
    exact .leaf (by simp [hv2])
theorem cuts_cov {c : Circ} (V : c.Valid) {v : Nat} (hv : v < (cutsN c).length) : ∀ x ∈ (cutsN c).getD v [], Cov c x v := by
 have := cutsK_cov V c.gates.length (Nat.le_refl _) v
 rw [List.take_length] at this
 exact this hv
theorem sv_pre (s : Int) (b : Bool) (gs : List (Int × Int)) : ∀ (L : List Bool) (i : Nat), i < L.length → (gs.foldl (sStep s b) L).getD i false = L.getD i false := by
 induction gs with
 | nil => intro L i hi; rfl
 | cons g gs ih =>
  intro L i hi
  rw [List.foldl_cons, ih _ _ (by rw [sStep, List.length_append]; omega), sStep, getD_append_left _ _ _ _ hi]
theorem sv_take (ins st : List Bool) (gs : List (Int × Int)) (k i : Nat) (hi : i < 1 + ins.length + st.length + k) (hk : k ≤ gs.length) : (valsOf ins st gs).getD i false = (valsOf ins st (gs.take k)).getD i false := by
 have e : valsOf ins st gs = (gs.drop k).foldl (sStep (-1) false) (valsOf ins st (gs.take k)) := by
  unfold valsOf sVals; rw [← List.foldl_append, List.take_append_drop]
 rw [e]
 refine sv_pre _ _ _ _ _ ?_
 unfold valsOf
 rw [sVals_length, List.length_take]; omega
theorem vals_zero (ins st : List Bool) (gs : List (Int × Int)) : (valsOf ins st gs).getD 0 false = false := by
 rw [sv_take ins st gs 0 0 (by omega) (Nat.zero_le _)]
 simp [valsOf, sVals, base0, vals0]
theorem vals_gate {c : Circ} (V : c.Valid) {ins st : List Bool} (hi : (ins.length : Int) = c.inputs) (hs : st.length = c.next.length) {k : Nat} (hk : k < c.gates.length) :
  (valsOf ins st c.gates).getD (c.first.toNat + k) false = (litV (valsOf ins st c.gates) (c.gates.getD k (0, 0)).1 && litV (valsOf ins st c.gates) (c.gates.getD k (0, 0)).2) := by
 have hf : c.first.toNat = 1 + ins.length + st.length := by unfold Circ.first; omega
 have g := V.gs k hk
 have h1 := litB_ok g.1
 have h2 := litB_ok g.2
 have hl : (valsOf ins st (c.gates.take k)).length = c.first.toNat + k := by unfold valsOf; rw [sVals_length, List.length_take]; omega
 rw [sv_take ins st c.gates (k + 1) _ (by omega) (by omega)]
 have e : valsOf ins st (c.gates.take (k + 1)) = sStep (-1) false (valsOf ins st (c.gates.take k)) (c.gates.getD k (0, 0)) := by
  unfold valsOf; rw [take_snocG c.gates k (0, 0) hk, sVals_snoc]
 rw [e, sStep, getD_snoc, if_neg (by omega), if_pos hl.symm, if_neg (by omega)]
 unfold litV
 rw [sv_take ins st c.gates k _ (by omega) (by omega), sv_take ins st c.gates k ((c.gates.getD k (0, 0)).2 / 2).toNat (by omega) (by omega)]
/-- The value over the leaves is the variable's value. -/
theorem cov_val {c : Circ} (V : c.Valid) {ins st : List Bool} (hi : (ins.length : Int) = c.inputs) (hs : st.length = c.next.length) {L : List Int} (ha : Asc L) (hlo : ∀ z ∈ L, 0 < z) {t : Nat}
  (hat : ∀ j, j < L.length → bitN t j = (valsOf ins st c.gates).getD (L.getD j 0).toNat false) {u : Nat} (h : Cov c L u) (hu : (u : Int) < c.vars) : coneB c L t u = (valsOf ins st c.gates).getD u false := by
 have hleaf : ∀ u : Nat, (u : Int) ∈ L → (u : Int) < c.vars → coneB c L t u = (valsOf ins st c.gates).getD u false := by
  intro u hm hu
  obtain ⟨j, hj, e⟩ := mem_getN (d := 0) hm
  rw [coneB_leaf V ha hu hj e, hat j hj, e, Int.toNat_natCast]
 induction h with
 | leaf h => exact hleaf _ h hu
 | zero => rw [coneB_zero V hlo, vals_zero]
 | @gate k hk _ _ ih1 ih2 =>
  by_cases hm : ((c.first.toNat + k : Nat) : Int) ∈ L
  ·exact hleaf _ hm hu
  ·have hf : 1 ≤ c.first := by have := V.i0; unfold Circ.first; omega
   have g := V.gs k hk
   have h1 := litB_ok g.1
   have h2 := litB_ok g.2
   have a1 := ih1 (by unfold Circ.vars; omega)
   have a2 := ih2 (by unfold Circ.vars; omega)
   have hn : leafIdx L ((c.first.toNat + k : Nat) : Int) = none := leafIdx_none (fun j hj e => hm (by rw [← e]; exact getN_mem hj))
   rw [coneB_gate hk (by omega) (by omega), vals_gate V hi hs hk, a1, a2]
   unfold leafB
   rw [hn]
   rfl
/-- The number that the leaves' values make. -/
def atN (vs : List Bool) (L : List Int) (k : Nat) : Nat := tabN (fun j => vs.getD (L.getD j 0).toNat false) k
theorem atN_lt (vs : List Bool) (L : List Int) (k : Nat) : atN vs L k < 2 ^ k := tabN_lt _ _
theorem atN_succ (vs : List Bool) (L : List Int) (k : Nat) : atN vs L (k + 1) = atN vs L k + if vs.getD (L.getD k 0).toNat false then 2 ^ k else 0 := rfl
theorem cone_at {c : Circ} (V : c.Valid) {ins st : List Bool} (hi : (ins.length : Int) = c.inputs) (hs : st.length = c.next.length) {L : List Int} (ha : Asc L) (hlo : ∀ z ∈ L, 0 < z) {u : Nat} (h : Cov c L u) (hu : (u : Int) < c.vars) :
  coneB c L (atN (valsOf ins st c.gates) L L.length) u = (valsOf ins st c.gates).getD u false :=
 cov_val V hi hs ha hlo (fun j hj => tabN_bit _ _ j hj) h hu
/-- The table's bit at that number. -/
theorem table_at {c : Circ} (V : c.Valid) {ins st : List Bool} (hi : (ins.length : Int) = c.inputs) (hs : st.length = c.next.length) {L : List Int} (ha : Asc L) (hlo : ∀ z ∈ L, 0 < z) {u : Nat} (h : Cov c L u) (hu : (u : Int) < c.vars) :
  bitN (tableV c L u) (atN (valsOf ins st c.gates) L L.length) = (valsOf ins st c.gates).getD u false := by
 unfold tableV
 rw [tabN_bit _ _ _ (atN_lt _ _ _), cone_at V hi hs ha hlo h hu]
end Go.Proofs.Ytgialedmbmfejaa
