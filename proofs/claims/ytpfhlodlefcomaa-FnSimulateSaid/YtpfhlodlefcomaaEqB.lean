/- Equivalence, in plain Lean: symmetric; a valid circuit is equivalent to itself and to its optimized circuit. -/
import Derived.Test.YtpfhlodlefcomaaDiff
import Derived.Test.YtpfhlodlefcomaaOptE
namespace Go.Proofs.Ytpfhlodlefcomaa
set_option linter.unusedVariables false
set_option linter.unusedSimpArgs false
noncomputable def eqB (a b : Circ) : Bool := sameI a b && !(cexV a b).1
theorem cexV_found {a b : Circ} : (cexV a b).1 = true ↔ sameI a b = true ∧ 0 ≤ firstD (diffV a b) (assigns a) := by
  unfold cexV
  by_cases h : sameI a b = true ∧ 0 ≤ firstD (diffV a b) (assigns a)
  · rw [if_pos h]; exact ⟨fun _ => h, fun _ => rfl⟩
  · rw [if_neg h]; exact ⟨(fun e => by cases e), fun e => absurd e h⟩
theorem eqB_iff {a b : Circ} : eqB a b = true ↔ sameI a b = true ∧ ∀ x, x < assigns a → resV a (-1) false x = resV b (-1) false x := by
  unfold eqB
  rw [Bool.and_eq_true]
  constructor
  · rintro ⟨h1, h2⟩
    refine ⟨h1, fun x hx => ?_⟩
    have h3 : ¬ (cexV a b).1 = true := by simpa using h2
    rw [cexV_found] at h3
    have h4 : firstD (diffV a b) (assigns a) < 0 := by
      rcases Int.lt_or_le (firstD (diffV a b) (assigns a)) 0 with h | h
      · exact h
      · exact absurd ⟨h1, h⟩ h3
    have h5 := firstD_before (diffV a b) (assigns a) x hx (.inl h4)
    unfold diffV at h5
    simpa using h5
  · rintro ⟨h1, h2⟩
    refine ⟨h1, ?_⟩
    have h3 : firstD (diffV a b) (assigns a) = -1 := firstD_none _ _ (fun y hy => by unfold diffV; simp [h2 y hy])
    have h4 : ¬ (cexV a b).1 = true := by rw [cexV_found, h3]; rintro ⟨_, h⟩; omega
    simpa using h4
theorem sameI_assigns {a b : Circ} (h : sameI a b = true) : assigns a = assigns b := by
  obtain ⟨_, _, h1, h2, _⟩ := sameI_iff.1 h
  unfold assigns; rw [h1, h2]
theorem sameI_comm (c d : Circ) : sameI d c = sameI c d := by
  rw [Bool.eq_iff_iff, sameI_iff, sameI_iff]
  constructor <;> (rintro ⟨a, b, h1, h2, h3⟩; exact ⟨b, a, h1.symm, h2.symm, h3.symm⟩)
theorem sameI_refl (c : Circ) : sameI c c = validB c := by
  rw [Bool.eq_iff_iff, sameI_iff, validB_iff]
  exact ⟨fun h => h.1, fun h => ⟨h, h, rfl, rfl, rfl⟩⟩
theorem eqB_comm (a b : Circ) : eqB b a = eqB a b := by
  rw [Bool.eq_iff_iff, eqB_iff, eqB_iff]
  constructor
  · rintro ⟨h1, h2⟩
    exact ⟨by rw [sameI_comm]; exact h1, fun x hx => (h2 x (by rw [sameI_assigns h1]; exact hx)).symm⟩
  · rintro ⟨h1, h2⟩
    exact ⟨by rw [sameI_comm]; exact h1, fun x hx => (h2 x (by rw [sameI_assigns h1]; exact hx)).symm⟩
theorem eqB_refl (a : Circ) : eqB a a = validB a := by
  rw [Bool.eq_iff_iff, eqB_iff, sameI_refl]
  exact ⟨fun h => h.1, fun h => ⟨h, fun _ _ => rfl⟩⟩
theorem eqB_valid {a b : Circ} (h : eqB a b = true) : a.Valid ∧ b.Valid := by
  obtain ⟨h1, _⟩ := eqB_iff.1 h
  obtain ⟨h2, h3, _⟩ := sameI_iff.1 h1
  exact ⟨h2, h3⟩
theorem evOk_bitsE {c : Circ} (V : c.Valid) (x : Nat) : EvOk c (stB c x) (inB c x) :=
  ⟨V, by unfold stB; rw [bitsN_length], by unfold inB; rw [bitsN_length]; exact Int.toNat_of_nonneg V.i0⟩
theorem resV_step {c : Circ} (V : c.Valid) (x : Nat) : resV c (-1) false x = (stepV c (stB c x) (inB c x)).2 ++ (stepV c (stB c x) (inB c x)).1 := by
  rw [stepV_ok (evOk_bitsE V x)]
  unfold resV litsV valsOf
  rw [List.map_append]
theorem optV_face {c : Circ} (V : c.Valid) : (optV c).inputs = c.inputs ∧ (optV c).next.length = c.next.length ∧ (optV c).outs.length = c.outs.length := by
  have ok := evOk_bitsE V 0
  obtain ⟨ok2, hs⟩ := step_opt ok
  have h1 := ok2.li
  have h2 := ok2.ls
  rw [ok.li] at h1
  rw [ok.ls] at h2
  rw [stepV_ok ok, stepV_ok ok2] at hs
  have h3 := congrArg (fun p : List Bool × List Bool => p.1.length) hs
  simp [litsV] at h3
  exact ⟨h1.symm, h2.symm, h3⟩
theorem sameI_opt {c : Circ} (V : c.Valid) : sameI c (optV c) = true := by
  obtain ⟨h1, h2, h3⟩ := optV_face V
  exact sameI_iff.2 ⟨V, optV_valid V, h1.symm, h2.symm, h3.symm⟩
theorem resV_opt {c : Circ} (V : c.Valid) (x : Nat) : resV (optV c) (-1) false x = resV c (-1) false x := by
  obtain ⟨h1, h2, _⟩ := optV_face V
  have e1 : inB (optV c) x = inB c x := by unfold inB; rw [h1]
  have e2 : stB (optV c) x = stB c x := by unfold stB; rw [h1, h2]
  rw [resV_step V, resV_step (optV_valid V), e1, e2, (step_opt (evOk_bitsE V x)).2]
theorem eqB_opt {a : Circ} (V : a.Valid) : eqB a (optV a) = true := eqB_iff.2 ⟨sameI_opt V, fun x _ => (resV_opt V x).symm⟩
theorem eqB_opt2 {a b : Circ} (V : a.Valid) (W : b.Valid) : eqB (optV a) (optV b) = eqB a b := by
  obtain ⟨a1, a2, a3⟩ := optV_face V
  obtain ⟨b1, b2, b3⟩ := optV_face W
  have hs : sameI (optV a) (optV b) = sameI a b := by
    rw [Bool.eq_iff_iff, sameI_iff, sameI_iff, a1, a2, a3, b1, b2, b3]
    exact ⟨fun h => ⟨V, W, h.2.2⟩, fun h => ⟨optV_valid V, optV_valid W, h.2.2⟩⟩
  have ha : assigns (optV a) = assigns a := (sameI_assigns (sameI_opt V)).symm
  rw [Bool.eq_iff_iff, eqB_iff, eqB_iff, hs, ha]
  constructor
  · rintro ⟨h1, h2⟩
    exact ⟨h1, fun x hx => by rw [← resV_opt V, ← resV_opt W]; exact h2 x hx⟩
  · rintro ⟨h1, h2⟩
    exact ⟨h1, fun x hx => by rw [resV_opt V, resV_opt W]; exact h2 x hx⟩
/-- Where the interfaces are alike, two circuits differ at an assignment if their steps do. -/
theorem diffV_step {c d : Circ} (h : sameI c d = true) (k : Nat) :
    diffV c d k = (!((stepV c (stB c k) (inB c k)).1 == (stepV d (stB c k) (inB c k)).1) || !((stepV c (stB c k) (inB c k)).2 == (stepV d (stB c k) (inB c k)).2)) := by
  obtain ⟨V, W, h1, h2, h3⟩ := sameI_iff.1 h
  have e1 : inB d k = inB c k := by unfold inB; rw [h1]
  have e2 : stB d k = stB c k := by unfold stB; rw [h1, h2]
  have okc := evOk_bitsE V k
  have okd := evOk_bitsE W k
  unfold diffV
  rw [resV_step V, resV_step W]
  rw [e1, e2] at okd ⊢
  rw [stepV_ok okc, stepV_ok okd]
  have hl : (litsV (valsOf (inB c k) (stB c k) c.gates) c.next).length = (litsV (valsOf (inB c k) (stB c k) d.gates) d.next).length := by simp [litsV, h2]
  generalize litsV (valsOf (inB c k) (stB c k) c.gates) c.next = A at *
  generalize litsV (valsOf (inB c k) (stB c k) d.gates) d.next = B at *
  generalize litsV (valsOf (inB c k) (stB c k) c.gates) c.outs = C
  generalize litsV (valsOf (inB c k) (stB c k) d.gates) d.outs = D
  rw [Bool.eq_iff_iff]
  simp only [bne_iff_ne, ne_eq, Bool.or_eq_true, Bool.not_eq_true', beq_eq_false_iff_ne]
  constructor
  · intro hne
    by_cases hc : C = D
    · right; intro ha; exact hne (by rw [hc, ha])
    · exact .inl hc
  · intro hor he
    obtain ⟨ha, hc⟩ := List.append_inj he hl
    rcases hor with h' | h'
    · exact h' hc
    · exact h' ha
end Go.Proofs.Ytpfhlodlefcomaa
