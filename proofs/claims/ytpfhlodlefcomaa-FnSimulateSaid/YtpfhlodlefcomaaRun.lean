/- Plain lists: two circuits whose steps agree run alike; equivalent circuits step alike. -/
import Derived.Test.YtpfhlodlefcomaaSim0
import Derived.Test.YtpfhlodlefcomaaEqB
namespace Go.Proofs.Ytpfhlodlefcomaa
set_option linter.unusedVariables false
set_option linter.unusedSimpArgs false
/-- The number with these bits, the lowest first. -/
def numB : List Bool → Nat
  | [] => 0
  | b :: bs => (if b then 1 else 0) + 2 * numB bs
theorem bitsN_cons (x n : Nat) : bitsN x (n + 1) = bitN x 0 :: bitsN (x / 2) n := by
  unfold bitsN
  rw [List.range_succ_eq_map, List.map_cons, List.map_map]
  congr 1
  apply List.map_congr_left
  intro i _
  unfold bitN
  simp only [Function.comp_apply]
  rw [Nat.pow_succ', Nat.div_div_eq_div_mul]
theorem bitsN_num : ∀ (a b : List Bool), bitsN (numB (a ++ b)) a.length = a
  | [], b => rfl
  | x :: a, b => by
    rw [List.length_cons, bitsN_cons, List.cons_append]
    have h0 : bitN (numB (x :: (a ++ b))) 0 = x := by
      unfold bitN numB
      cases x <;> simp <;> omega
    have h1 : numB (x :: (a ++ b)) / 2 = numB (a ++ b) := by
      show ((if x then 1 else 0) + 2 * numB (a ++ b)) / 2 = _
      cases x <;> simp <;> omega
    rw [h0, h1, bitsN_num a b]
theorem numB_div : ∀ (a b : List Bool), numB (a ++ b) / 2 ^ a.length = numB b
  | [], b => by simp
  | x :: a, b => by
    have h1 : numB (x :: (a ++ b)) / 2 = numB (a ++ b) := by
      show ((if x then 1 else 0) + 2 * numB (a ++ b)) / 2 = _
      cases x <;> simp <;> omega
    rw [List.length_cons, List.cons_append, Nat.pow_succ', ← Nat.div_div_eq_div_mul, h1, numB_div a b]
theorem numB_lt : ∀ a : List Bool, numB a < 2 ^ a.length
  | [] => by simp [numB]
  | x :: a => by
    have := numB_lt a
    rw [List.length_cons, Nat.pow_succ']
    show (if x then 1 else 0) + 2 * numB a < _
    cases x <;> simp <;> omega
theorem asg_of {c : Circ} {st ins : List Bool} (ok : EvOk c st ins) : ∃ x, x < assigns c ∧ inB c x = ins ∧ stB c x = st := by
  have l1 : c.inputs.toNat = ins.length := by have := ok.li; omega
  refine ⟨numB (ins ++ st), ?_, ?_, ?_⟩
  · have := numB_lt (ins ++ st)
    unfold assigns
    rw [l1, ← ok.ls, ← List.length_append]; exact this
  · unfold inB; rw [l1]; exact bitsN_num ins st
  · unfold stB
    rw [l1, numB_div, ← ok.ls]
    have := bitsN_num st []
    rwa [List.append_nil] at this
theorem eqB_step {a b : Circ} (h : eqB a b = true) {st ins : List Bool} (ok : EvOk a st ins) : stepV a st ins = stepV b st ins := by
  obtain ⟨h1, h2⟩ := eqB_iff.1 h
  obtain ⟨x, hx, e1, e2⟩ := asg_of ok
  have hd := diffV_step h1 x
  have hf : diffV a b x = false := by unfold diffV; rw [h2 x hx]; simp
  rw [hf, e1, e2] at hd
  have hd2 := hd.symm
  simp only [Bool.or_eq_false_iff, Bool.not_eq_false', beq_iff_eq] at hd2
  exact Prod.ext hd2.1 hd2.2
theorem run_same {a b : Circ} (V : a.Valid) (hs : ∀ st r, EvOk a st r → stepV a st r = stepV b st r) : ∀ (rows : List (List Bool)) (st : List Bool), st.length = a.next.length → (∀ r ∈ rows, (r.length : Int) = a.inputs) → runV a st rows = runV b st rows
  | [], _, _, _ => rfl
  | r :: rs, st, h1, h2 => by
    have ok : EvOk a st r := ⟨V, h1, h2 r (by simp)⟩
    rw [runV, runV, ← hs st r ok]
    rw [run_same V hs rs (stepV a st r).2 (stepV_len ok).2 (fun r hr => h2 r (List.mem_cons_of_mem _ hr))]
theorem sim_same {a b : Circ} (V : a.Valid) (W : b.Valid) (h1 : a.inputs = b.inputs) (h2 : a.next.length = b.next.length) (hs : ∀ st r, EvOk a st r → stepV a st r = stepV b st r) (rows : List (List Bool)) : simV a rows = simV b rows := by
  have hf : fitB a rows = fitB b rows := by
    rw [Bool.eq_iff_iff, fitB_iff, fitB_iff]
    exact ⟨fun h => ⟨W, h.n, fun j hj => by rw [← h1]; exact h.r j hj⟩, fun h => ⟨V, h.n, fun j hj => by rw [h1]; exact h.r j hj⟩⟩
  unfold simV
  rw [← hf]
  cases hv : fitB a rows
  · rfl
  · have F := fitB_iff.1 hv
    have e : st0 b = st0 a := by unfold st0; rw [h2]
    rw [e]
    simp only [if_true]
    refine run_same V hs rows _ (by simp [st0]) (fun r hr => ?_)
    obtain ⟨i, hi, rfl⟩ := List.mem_iff_getElem.1 hr
    have := F.r i hi
    rwa [List.getD_eq_getElem?_getD, List.getElem?_eq_getElem hi] at this
theorem eqB_sim {a b : Circ} (h : eqB a b = true) (rows : List (List Bool)) : simV a rows = simV b rows := by
  obtain ⟨V, W⟩ := eqB_valid h
  obtain ⟨_, _, h1, h2, _⟩ := sameI_iff.1 (eqB_iff.1 h).1
  exact sim_same V W h1 h2 (fun st r ok => eqB_step h ok) rows
theorem opt_sim {c : Circ} (V : c.Valid) (rows : List (List Bool)) : simV (optV c) rows = simV c rows := by
  obtain ⟨h1, h2, _⟩ := optV_face V
  exact (sim_same V (optV_valid V) h1.symm h2.symm (fun st r ok => ((step_opt ok).2).symm) rows).symm
theorem simV_length {c : Circ} {rows : List (List Bool)} (h : fitB c rows = true) : (simV c rows).length = rows.length := by
  unfold simV; rw [h]; exact runV_length _ _ _
end Go.Proofs.Ytpfhlodlefcomaa
