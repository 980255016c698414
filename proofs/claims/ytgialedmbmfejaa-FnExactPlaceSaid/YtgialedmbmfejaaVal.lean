/- The values of a circuit's variables, as plain lists; one variable may be stuck. -/
import Derived.Test.YtgialedmbmfejaaBlk
import Derived.Laws.CopyOwn
namespace Go.Proofs.Ytgialedmbmfejaa
open Go.RowKit
set_option linter.unusedVariables false
set_option linter.unusedSimpArgs false
/-- The value of a literal. -/
def litV (vs : List Bool) (l : Int) : Bool := vs.getD (l / 2).toNat false != (l % 2 == 1)
def sStep (s : Int) (b : Bool) (vs : List Bool) (g : Int × Int) : List Bool := vs ++ [if (vs.length : Int) = s then b else litV vs g.1 && litV vs g.2]
def vals0 (ins st : List Bool) : List Bool := false :: (ins ++ st)
def base0 (s : Int) (b : Bool) (ins st : List Bool) : List Bool := if 0 ≤ s then (vals0 ins st).set s.toNat b else vals0 ins st
/-- All variables' values, where variable s, if it is not negative, has the value b. -/
def sVals (s : Int) (b : Bool) (ins st : List Bool) (gs : List (Int × Int)) : List Bool := gs.foldl (sStep s b) (base0 s b ins st)
def valsOf (ins st : List Bool) (gs : List (Int × Int)) : List Bool := sVals (-1) false ins st gs
theorem base0_length (s : Int) (b : Bool) (ins st : List Bool) : (base0 s b ins st).length = 1 + ins.length + st.length := by
  unfold base0 vals0; split <;> simp <;> omega
theorem foldl_s_length (s : Int) (b : Bool) (gs : List (Int × Int)) : ∀ l, (gs.foldl (sStep s b) l).length = l.length + gs.length := by
  induction gs with
  | nil => intro l; rfl
  | cons g gs ih => intro l; simp only [List.foldl_cons, ih, sStep, List.length_append, List.length_cons, List.length_nil]; omega
theorem sVals_length (s : Int) (b : Bool) (ins st : List Bool) (gs : List (Int × Int)) : (sVals s b ins st gs).length = 1 + ins.length + st.length + gs.length := by
  unfold sVals; rw [foldl_s_length, base0_length]
theorem sVals_snoc (s : Int) (b : Bool) (ins st : List Bool) (gs : List (Int × Int)) (g : Int × Int) : sVals s b ins st (gs ++ [g]) = sStep s b (sVals s b ins st gs) g := by
  unfold sVals; rw [List.foldl_append]; rfl
theorem take_snocG {α : Type} (xs : List α) (k : Nat) (d : α) (h : k < xs.length) : xs.take (k + 1) = xs.take k ++ [xs.getD k d] := by
  rw [List.take_add_one, List.getElem?_eq_getElem h, List.getD_eq_getElem?_getD, List.getElem?_eq_getElem h]; rfl
theorem getD_append_left {α : Type} (a b : List α) (i : Nat) (d : α) (h : i < a.length) : (a ++ b).getD i d = a.getD i d := by
  rw [List.getD_eq_getElem?_getD, List.getD_eq_getElem?_getD, List.getElem?_append_left h]
theorem litV_append (vs us : List Bool) (l : Int) (h : (l / 2).toNat < vs.length) : litV (vs ++ us) l = litV vs l := by
  unfold litV; rw [getD_append_left _ _ _ _ h]
/-- What stands behind the first k gates, before they are reckoned. -/
def tailB (s : Int) (b : Bool) (f G k : Nat) : List Bool := (List.range (G - k)).map fun j => decide (((f + k + j : Nat) : Int) = s) && b
theorem tailB_cons (s : Int) (b : Bool) (f G k : Nat) (h : k < G) : tailB s b f G k = (decide (((f + k : Nat) : Int) = s) && b) :: tailB s b f G (k + 1) := by
  unfold tailB
  obtain ⟨m, hm⟩ : ∃ m, G - k = m + 1 := ⟨G - k - 1, by omega⟩
  have hm2 : G - (k + 1) = m := by omega
  rw [hm, hm2, List.range_succ_eq_map, List.map_cons, List.map_map]
  congr 1
  apply List.map_congr_left
  intro j _
  simp only [Function.comp]
  have : f + k + j.succ = f + (k + 1) + j := by omega
  rw [this]
theorem tailB_end (s : Int) (b : Bool) (f G : Nat) : tailB s b f G G = [] := by simp [tailB]
theorem tailB_length (s : Int) (b : Bool) (f G k : Nat) : (tailB s b f G k).length = G - k := by simp [tailB]
/-- The array after k gates. -/
def arrB (s : Int) (b : Bool) (ins st : List Bool) (gs : List (Int × Int)) (k : Nat) : List Bool := sVals s b ins st (gs.take k) ++ tailB s b (1 + ins.length + st.length) gs.length k
theorem arrB_length (s : Int) (b : Bool) (ins st : List Bool) (gs : List (Int × Int)) (k : Nat) (hk : k ≤ gs.length) : (arrB s b ins st gs k).length = 1 + ins.length + st.length + gs.length := by
  unfold arrB; rw [List.length_append, sVals_length, tailB_length, List.length_take]; omega
theorem arrB_all (s : Int) (b : Bool) (ins st : List Bool) (gs : List (Int × Int)) : arrB s b ins st gs gs.length = sVals s b ins st gs := by
  unfold arrB; rw [List.take_length, tailB_end, List.append_nil]
theorem arrB_lit (s : Int) (b : Bool) (ins st : List Bool) (gs : List (Int × Int)) (k : Nat) (hk : k ≤ gs.length) (l : Int) (h : (l / 2).toNat < 1 + ins.length + st.length + k) : litV (arrB s b ins st gs k) l = litV (sVals s b ins st (gs.take k)) l := by
  unfold arrB; rw [litV_append _ _ _ (by rw [sVals_length, List.length_take]; omega)]
theorem arrB_stuck (s : Int) (b : Bool) (ins st : List Bool) (gs : List (Int × Int)) (k : Nat) (hk : k < gs.length) (h : ((1 + ins.length + st.length + k : Nat) : Int) = s) : arrB s b ins st gs (k + 1) = arrB s b ins st gs k := by
  unfold arrB
  have hl : ((sVals s b ins st (gs.take k)).length : Int) = s := by rw [sVals_length, List.length_take, Nat.min_eq_left (by omega)]; exact h
  rw [take_snocG gs k (0, 0) hk, sVals_snoc, tailB_cons _ _ _ _ _ hk]
  simp only [sStep, hl, h, if_true, decide_true, Bool.true_and, List.append_assoc, List.cons_append, List.nil_append]
theorem arrB_step (s : Int) (b : Bool) (ins st : List Bool) (gs : List (Int × Int)) (k : Nat) (hk : k < gs.length) (h : ((1 + ins.length + st.length + k : Nat) : Int) ≠ s) :
    (arrB s b ins st gs k).set (1 + ins.length + st.length + k) (litV (sVals s b ins st (gs.take k)) (gs.getD k (0, 0)).1 && litV (sVals s b ins st (gs.take k)) (gs.getD k (0, 0)).2) = arrB s b ins st gs (k + 1) := by
  unfold arrB
  have hl2 : (sVals s b ins st (gs.take k)).length = 1 + ins.length + st.length + k := by rw [sVals_length, List.length_take, Nat.min_eq_left (by omega)]
  have hl : ((sVals s b ins st (gs.take k)).length : Int) ≠ s := by rw [hl2]; exact h
  rw [List.set_append_right _ _ (by omega), hl2, Nat.sub_self, tailB_cons _ _ _ _ _ hk, List.set_cons_zero, take_snocG gs k (0, 0) hk, sVals_snoc]
  simp only [sStep, hl, if_false, List.append_assoc, List.cons_append, List.nil_append]
theorem arrB_none (b : Bool) (ins st : List Bool) (gs : List (Int × Int)) (s : Int) (h : s < 0) : arrB s b ins st gs 0 = false :: (ins ++ st ++ List.replicate gs.length false) := by
  unfold arrB sVals base0 vals0 tailB
  rw [if_neg (by omega)]
  have e : (fun j : Nat => decide (((1 + ins.length + st.length + 0 + j : Nat) : Int) = s) && b) = fun _ => false := by
    funext j
    have : ¬ (((1 + ins.length + st.length + 0 + j : Nat) : Int) = s) := by omega
    rw [decide_eq_false this]; rfl
  rw [e]
  simp [List.map_const']
theorem arrB_set (b : Bool) (ins st : List Bool) (gs : List (Int × Int)) (s : Int) (h : 0 ≤ s) : (false :: (ins ++ st ++ List.replicate gs.length false)).set s.toNat b = arrB s b ins st gs 0 := by
  obtain ⟨n, rfl⟩ := Int.eq_ofNat_of_zero_le h
  apply List.ext_getElem?
  intro i
  have e0 : arrB (n : Int) b ins st gs 0 = (vals0 ins st).set n b ++ (List.range gs.length).map fun j => decide (1 + ins.length + st.length + j = n) && b := by
    unfold arrB sVals base0 tailB
    rw [if_pos h]
    simp only [List.take_zero, List.foldl_nil, Int.toNat_natCast, Nat.add_zero, Nat.sub_zero, Int.natCast_inj]
  rw [e0, Int.toNat_natCast]
  have hl : (vals0 ins st).length = 1 + ins.length + st.length := by simp [vals0]; omega
  have e1 : false :: (ins ++ st ++ List.replicate gs.length false) = vals0 ins st ++ List.replicate gs.length false := by simp [vals0]
  rw [e1]
  rcases Nat.lt_or_ge i (1 + ins.length + st.length) with hi | hi
  · rw [List.getElem?_append_left (by rw [List.length_set]; omega), List.getElem?_set, List.getElem?_set, List.getElem?_append_left (by omega)]
    by_cases hn : n = i
    · subst hn; simp [hl, hi]; omega
    · simp [hn]
  · rw [List.getElem?_append_right (by rw [List.length_set]; omega), List.length_set, List.getElem?_set, List.getElem?_append_right (by omega), hl]
    by_cases hj : i - (1 + ins.length + st.length) < gs.length
    · by_cases hn : n = i
      · subst hn
        have : 1 + ins.length + st.length + (n - (1 + ins.length + st.length)) = n := by omega
        simp [hj, hl, this]; omega
      · have : ¬ 1 + ins.length + st.length + (i - (1 + ins.length + st.length)) = n := by omega
        simp [hn, hj, this]
    · have h1 : (List.replicate gs.length false)[i - (1 + ins.length + st.length)]? = none := List.getElem?_eq_none (by simp; omega)
      have h2 : ((List.range gs.length).map fun j => decide (1 + ins.length + st.length + j = n) && b)[i - (1 + ins.length + st.length)]? = none := List.getElem?_eq_none (by simp; omega)
      rw [h1, h2]
      by_cases hn : n = i
      · subst hn; simp [hl]; omega
      · simp [hn]
/-- The low bit. -/
theorem and_one (l : Int) (h0 : 0 ≤ l) (h1 : l < 2 ^ 62) : bits .and .i64 l 1 = l % 2 := by
  obtain ⟨n, rfl⟩ := Int.eq_ofNat_of_zero_le h0
  have ha' : n % 2 ^ IntKind.i64.bits = n := Nat.mod_eq_of_lt (Nat.lt_of_lt_of_le (by omega : n < 2 ^ 62) (by decide))
  have e : (1 : Int) = ((1 : Nat) : Int) := rfl
  rw [e]
  simp only [bits, BitVec.ofInt_natCast, BitVec.toNat_and, BitVec.toNat_ofNat, ha']
  have h1' : 1 % 2 ^ IntKind.i64.bits = 1 := by decide
  rw [h1', Nat.and_one_is_mod]
  rw [IntKind.wrap_i64]
  omega
theorem splice_nil {α : Type} (L : List α) (o : Nat) : splice L o [] = L := by simp [splice]
theorem splice_one {α : Type} (d : α) (N o : Nat) (I : List α) (h1 : 1 + I.length ≤ N) (ho : 1 < N → o = 1) : splice (List.replicate N d) o I = d :: (I ++ List.replicate (N - 1 - I.length) d) := by
  obtain ⟨m, rfl⟩ : ∃ m, N = m + 1 := ⟨N - 1, by omega⟩
  by_cases hI : I = []
  · subst hI
    rw [splice_nil]; simp [List.replicate_succ]
  · have hl : 0 < I.length := List.length_pos_iff.2 hI
    rw [ho (by omega)]
    have e : 1 + I.length = I.length + 1 := by omega
    simp [splice, List.replicate_succ, e]
theorem splice_two {α : Type} (d : α) (N o : Nat) (I S : List α) (h1 : 1 + I.length + S.length ≤ N) (ho : 1 + I.length < N → o = 1 + I.length) : splice (d :: (I ++ List.replicate (N - 1 - I.length) d)) o S = d :: (I ++ S ++ List.replicate (N - 1 - I.length - S.length) d) := by
  by_cases hS : S = []
  · subst hS
    rw [splice_nil]; simp
  · have hl : 0 < S.length := List.length_pos_iff.2 hS
    rw [ho (by omega)]
    have e1 : 1 + I.length = I.length + 1 := by omega
    have e2 : I.length + 1 + S.length = (I.length + S.length) + 1 := by omega
    simp only [splice, e1, e2, List.take_succ_cons, List.drop_succ_cons, List.take_left']
    rw [List.drop_append, List.drop_eq_nil_of_le (by omega)]
    have e3 : I.length + S.length - I.length = S.length := by omega
    rw [e3, List.drop_replicate]
    simp
end Go.Proofs.Ytgialedmbmfejaa
