/- Bundle: values of variables, results, slices of truth values. -/
import Derived.Test.YtgialedmbmfejaaBlk
import Derived.Laws.CopyOwn
import Derived.Test.YtgialedmbmfejaaOwn
import Derived.Test.YtgialedmbmfejaaSpec1
import Derived.Deep.OwnRows
import Derived.Laws.OwnMore
namespace Go.Proofs.Ytgialedmbmfejaa
open Go.RowKit
set_option linter.unusedVariables false
set_option linter.unusedSimpArgs false
/-- The value of a literal. -/
def litV (vs : List Bool) (l : Int) : Bool := vs.getD (l / 2).toNat false != (l % 2 == 1)
def sStep (s : Int) (b : Bool) (vs : List Bool) (g : Int × Int) : List Bool := vs ++ [if (vs.length : Int) = s then b else litV vs g.1 && litV vs g.2]
def vals0 (ins st : List Bool) : List Bool := false :: (ins ++ st)
def base0 (s : Int) (b : Bool) (ins st : List Bool) : List Bool := if 0 ≤ s then (vals0 ins st).set s.toNat b else vals0 ins st
/-- All variables' values, where variable s, if it is not negative, has the value b. -/
def sVals (s : Int) (b : Bool) (ins st : List Bool) (gs : List (Int × Int)) : List Bool := gs.foldl (sStep s b) (base0 s b ins st)
def valsOf (ins st : List Bool) (gs : List (Int × Int)) : List Bool := sVals (-1) false ins st gs
theorem base0_length (s : Int) (b : Bool) (ins st : List Bool) : (base0 s b ins st).length = 1 + ins.length + st.length := by
 unfold base0 vals0; split <;> simp <;> omega
theorem foldl_s_length (s : Int) (b : Bool) (gs : List (Int × Int)) : ∀ l, (gs.foldl (sStep s b) l).length = l.length + gs.length := by
 induction gs with
 | nil => intro l; rfl
 | cons g gs ih => intro l; simp only [List.foldl_cons, ih, sStep, List.length_append, List.length_cons, List.length_nil]; omega
theorem sVals_length (s : Int) (b : Bool) (ins st : List Bool) (gs : List (Int × Int)) : (sVals s b ins st gs).length = 1 + ins.length + st.length + gs.length := by
 unfold sVals; rw [foldl_s_length, base0_length]
theorem sVals_snoc (s : Int) (b : Bool) (ins st : List Bool) (gs : List (Int × Int)) (g : Int × Int) : sVals s b ins st (gs ++ [g]) = sStep s b (sVals s b ins st gs) g := by
 unfold sVals; rw [List.foldl_append]; rfl
theorem take_snocG {α : Type} (xs : List α) (k : Nat) (d : α) (h : k < xs.length) : xs.take (k + 1) = xs.take k ++ [xs.getD k d] := by
 rw [List.take_add_one, List.getElem?_eq_getElem h, List.getD_eq_getElem?_getD, List.getElem?_eq_getElem h]; rfl
theorem getD_append_left {α : Type} (a b : List α) (i : Nat) (d : α) (h : i < a.length) : (a ++ b).getD i d = a.getD i d := by
 rw [List.getD_eq_getElem?_getD, List.getD_eq_getElem?_getD, List.getElem?_append_left h]
theorem litV_append (vs us : List Bool) (l : Int) (h : (l / 2).toNat < vs.length) : litV (vs ++ us) l = litV vs l := by
 unfold litV; rw [getD_append_left _ _ _ _ h]
/-- What stands behind the first k gates, before they are reckoned. -/
def tailB (s : Int) (b : Bool) (f G k : Nat) : List Bool := (List.range (G - k)).map fun j => decide (((f + k + j : Nat) : Int) = s) && b
theorem tailB_cons (s : Int) (b : Bool) (f G k : Nat) (h : k < G) : tailB s b f G k = (decide (((f + k : Nat) : Int) = s) && b) :: tailB s b f G (k + 1) := by
 unfold tailB
 obtain ⟨m, hm⟩ : ∃ m, G - k = m + 1 := ⟨G - k - 1, by omega⟩
 have hm2 : G - (k + 1) = m := by omega
 rw [hm, hm2, List.range_succ_eq_map, List.map_cons, List.map_map]
 congr 1
 apply List.map_congr_left
 intro j _
 simp only [Function.comp]
 have : f + k + j.succ = f + (k + 1) + j := by omega
 rw [this]
theorem tailB_end (s : Int) (b : Bool) (f G : Nat) : tailB s b f G G = [] := by simp [tailB]
theorem tailB_length (s : Int) (b : Bool) (f G k : Nat) : (tailB s b f G k).length = G - k := by simp [tailB]
/-- The array after k gates. -/
def arrB (s : Int) (b : Bool) (ins st : List Bool) (gs : List (Int × Int)) (k : Nat) : List Bool := sVals s b ins st (gs.take k) ++ tailB s b (1 + ins.length + st.length) gs.length k
theorem arrB_length (s : Int) (b : Bool) (ins st : List Bool) (gs : List (Int × Int)) (k : Nat) (hk : k ≤ gs.length) : (arrB s b ins st gs k).length = 1 + ins.length + st.length + gs.length := by
 unfold arrB; rw [List.length_append, sVals_length, tailB_length, List.length_take]; omega
theorem arrB_all (s : Int) (b : Bool) (ins st : List Bool) (gs : List (Int × Int)) : arrB s b ins st gs gs.length = sVals s b ins st gs := by
 unfold arrB; rw [List.take_length, tailB_end, List.append_nil]
theorem arrB_lit (s : Int) (b : Bool) (ins st : List Bool) (gs : List (Int × Int)) (k : Nat) (hk : k ≤ gs.length) (l : Int) (h : (l / 2).toNat < 1 + ins.length + st.length + k) : litV (arrB s b ins st gs k) l = litV (sVals s b ins st (gs.take k)) l := by
 unfold arrB; rw [litV_append _ _ _ (by rw [sVals_length, List.length_take]; omega)]
theorem arrB_stuck (s : Int) (b : Bool) (ins st : List Bool) (gs : List (Int × Int)) (k : Nat) (hk : k < gs.length) (h : ((1 + ins.length + st.length + k : Nat) : Int) = s) : arrB s b ins st gs (k + 1) = arrB s b ins st gs k := by
 unfold arrB
 have hl : ((sVals s b ins st (gs.take k)).length : Int) = s := by rw [sVals_length, List.length_take, Nat.min_eq_left (by omega)]; exact h
 rw [take_snocG gs k (0, 0) hk, sVals_snoc, tailB_cons _ _ _ _ _ hk]
 simp only [sStep, hl, h, if_true, decide_true, Bool.true_and, List.append_assoc, List.cons_append, List.nil_append]
theorem arrB_step (s : Int) (b : Bool) (ins st : List Bool) (gs : List (Int × Int)) (k : Nat) (hk : k < gs.length) (h : ((1 + ins.length + st.length + k : Nat) : Int) ≠ s) :
  (arrB s b ins st gs k).set (1 + ins.length + st.length + k) (litV (sVals s b ins st (gs.take k)) (gs.getD k (0, 0)).1 && litV (sVals s b ins st (gs.take k)) (gs.getD k (0, 0)).2) = arrB s b ins st gs (k + 1) := by
 unfold arrB
 have hl2 : (sVals s b ins st (gs.take k)).length = 1 + ins.length + st.length + k := by rw [sVals_length, List.length_take, Nat.min_eq_left (by omega)]
 have hl : ((sVals s b ins st (gs.take k)).length : Int) ≠ s := by rw [hl2]; exact h
 rw [List.set_append_right _ _ (by omega), hl2, Nat.sub_self, tailB_cons _ _ _ _ _ hk, List.set_cons_zero, take_snocG gs k (0, 0) hk, sVals_snoc]
 simp only [sStep, hl, if_false, List.append_assoc, List.cons_append, List.nil_append]
theorem arrB_none (b : Bool) (ins st : List Bool) (gs : List (Int × Int)) (s : Int) (h : s < 0) : arrB s b ins st gs 0 = false :: (ins ++ st ++ List.replicate gs.length false) := by
 unfold arrB sVals base0 vals0 tailB
 rw [if_neg (by omega)]
 have e : (fun j : Nat => decide (((1 + ins.length + st.length + 0 + j : Nat) : Int) = s) && b) = fun _ => false := by
  funext j
  have : ¬ (((1 + ins.length + st.length + 0 + j : Nat) : Int) = s) := by omega
  rw [decide_eq_false this]; rfl
 rw [e]
 simp [List.map_const']
theorem arrB_set (b : Bool) (ins st : List Bool) (gs : List (Int × Int)) (s : Int) (h : 0 ≤ s) : (false :: (ins ++ st ++ List.replicate gs.length false)).set s.toNat b = arrB s b ins st gs 0 := by
 obtain ⟨n, rfl⟩ := Int.eq_ofNat_of_zero_le h
 apply List.ext_getElem?
 intro i
 have e0 : arrB (n : Int) b ins st gs 0 = (vals0 ins st).set n b ++ (List.range gs.length).map fun j => decide (1 + ins.length + st.length + j = n) && b := by
  unfold arrB sVals base0 tailB
  rw [if_pos h]
  simp only [List.take_zero, List.foldl_nil, Int.toNat_natCast, Nat.add_zero, Nat.sub_zero, Int.natCast_inj]
 rw [e0, Int.toNat_natCast]
 have hl : (vals0 ins st).length = 1 + ins.length + st.length := by simp [vals0]; omega
 have e1 : false :: (ins ++ st ++ List.replicate gs.length false) = vals0 ins st ++ List.replicate gs.length false := by simp [vals0]
 rw [e1]
 rcases Nat.lt_or_ge i (1 + ins.length + st.length) with hi | hi
 ·rw [List.getElem?_append_left (by rw [List.length_set]; omega), List.getElem?_set, List.getElem?_set, List.getElem?_append_left (by omega)]
  by_cases hn : n = i
  ·subst hn; simp [hl, hi]; omega
  ·simp [hn]
 ·rw [List.getElem?_append_right (by rw [List.length_set]; omega), List.length_set, List.getElem?_set, List.getElem?_append_right (by omega), hl]
  by_cases hj : i - (1 + ins.length + st.length) < gs.length
  ·by_cases hn : n = i
   ·subst hn
    have : 1 + ins.length + st.length + (n - (1 + ins.length + st.length)) = n := by omega
    simp [hj, hl, this]; omega
   ·have : ¬ 1 + ins.length + st.length + (i - (1 + ins.length + st.length)) = n := by omega
    simp [hn, hj, this]
  ·have h1 : (List.replicate gs.length false)[i - (1 + ins.length + st.length)]? = none := List.getElem?_eq_none (by simp; omega)
   have h2 : ((List.range gs.length).map fun j => decide (1 + ins.length + st.length + j = n) && b)[i - (1 + ins.length + st.length)]? = none := List.getElem?_eq_none (by simp; omega)
   rw [h1, h2]
   by_cases hn : n = i
   ·subst hn; simp [hl]; omega
   ·simp [hn]
/-- The low bit. -/
theorem and_one (l : Int) (h0 : 0 ≤ l) (h1 : l < 2 ^ 62) : bits .and .i64 l 1 = l % 2 := by
 obtain ⟨n, rfl⟩ := Int.eq_ofNat_of_zero_le h0
 have ha' : n % 2 ^ IntKind.i64.bits = n := Nat.mod_eq_of_lt (Nat.lt_of_lt_of_le (by omega : n < 2 ^ 62) (by decide))
 have e : (1 : Int) = ((1 : Nat) : Int) := rfl
 rw [e]
 simp only [bits, BitVec.ofInt_natCast, BitVec.toNat_and, BitVec.toNat_ofNat, ha']
 have h1' : 1 % 2 ^ IntKind.i64.bits = 1 := by decide
 rw [h1', Nat.and_one_is_mod]
 rw [IntKind.wrap_i64]
 omega
theorem splice_nil {α : Type} (L : List α) (o : Nat) : splice L o [] = L := by simp [splice]
theorem splice_one {α : Type} (d : α) (N o : Nat) (I : List α) (h1 : 1 + I.length ≤ N) (ho : 1 < N → o = 1) : splice (List.replicate N d) o I = d :: (I ++ List.replicate (N - 1 - I.length) d) := by
 obtain ⟨m, rfl⟩ : ∃ m, N = m + 1 := ⟨N - 1, by omega⟩
 by_cases hI : I = []
 ·subst hI
  rw [splice_nil]; simp [List.replicate_succ]
 ·have hl : 0 < I.length := List.length_pos_iff.2 hI
  rw [ho (by omega)]
  have e : 1 + I.length = I.length + 1 := by omega
  simp [splice, List.replicate_succ, e]
theorem splice_two {α : Type} (d : α) (N o : Nat) (I S : List α) (h1 : 1 + I.length + S.length ≤ N) (ho : 1 + I.length < N → o = 1 + I.length) : splice (d :: (I ++ List.replicate (N - 1 - I.length) d)) o S = d :: (I ++ S ++ List.replicate (N - 1 - I.length - S.length) d) := by
 by_cases hS : S = []
 ·subst hS
  rw [splice_nil]; simp
 ·have hl : 0 < S.length := List.length_pos_iff.2 hS
  rw [ho (by omega)]
  have e1 : 1 + I.length = I.length + 1 := by omega
  have e2 : I.length + 1 + S.length = (I.length + S.length) + 1 := by omega
  simp only [splice, e1, e2, List.take_succ_cons, List.drop_succ_cons, List.take_left']
  rw [List.drop_append, List.drop_eq_nil_of_le (by omega)]
  have e3 : I.length + S.length - I.length = S.length := by omega
  rw [e3, List.drop_replicate]
  simp
end Go.Proofs.Ytgialedmbmfejaa

namespace Go.Proofs.Ytgialedmbmfejaa
open Go.RowKit
set_option linter.unusedVariables false
set_option linter.unusedSimpArgs false
def litsV (vs : List Bool) (ls : List Int) : List Bool := ls.map (litV vs)
theorem litsV_append (vs : List Bool) (a b : List Int) : litsV vs (a ++ b) = litsV vs a ++ litsV vs b := by simp [litsV]
theorem litsV_length (vs : List Bool) (a : List Int) : (litsV vs a).length = a.length := by simp [litsV]
theorem litsV_snoc (vs : List Bool) (ls : List Int) (k : Nat) (h : k < ls.length) : litsV vs (ls.take (k + 1)) = litsV vs (ls.take k) ++ [litV vs (ls.getD k 0)] := by
 rw [take_snocG ls k 0 h]; simp [litsV]
/-- The n low bits of a number, the lowest first. -/
def bitN (x i : Nat) : Bool := x / 2 ^ i % 2 == 1
def bitsN (x n : Nat) : List Bool := (List.range n).map (bitN x)
theorem bitsN_length (x n : Nat) : (bitsN x n).length = n := by simp [bitsN]
theorem bitsN_succ (x n : Nat) : bitsN x (n + 1) = bitsN x n ++ [bitN x n] := by simp [bitsN, List.range_succ]
theorem bitsN_get (x n j : Nat) (h : j < n) : (bitsN x n).getD j false = bitN x j := by
 simp [bitsN, List.getD_eq_getElem?_getD, h]
def inB (c : Circ) (x : Nat) : List Bool := bitsN x c.inputs.toNat
def stB (c : Circ) (x : Nat) : List Bool := bitsN (x / 2 ^ c.inputs.toNat) c.next.length
/-- The values of all next-state and output literals for an assignment; one variable may be stuck. -/
def resV (c : Circ) (s : Int) (v : Bool) (x : Nat) : List Bool := litsV (sVals s v (inB c x) (stB c x) c.gates) (c.next ++ c.outs)
def detV (c : Circ) (s : Int) (v : Bool) (x : Nat) : Bool := resV c (-1) false x != resV c s v x
def assigns (c : Circ) : Nat := 2 ^ (c.inputs.toNat + c.next.length)
/-- The smallest number below n with a property, or -1. -/
def firstD (p : Nat → Bool) (n : Nat) : Int := match (List.range n).find? p with
 | some x => x
 | none => -1
theorem find_range_hit (p : Nat → Bool) (k : Nat) (h1 : ∀ y, y < k → p y = false) (h2 : p k = true) : ∀ n, k < n → (List.range n).find? p = some k := by
 intro n hn
 rw [List.find?_range_eq_some]
 exact ⟨h2, by simpa using hn, fun y hy => by simp [h1 y hy]⟩
theorem find_range_none (p : Nat → Bool) (n : Nat) (h1 : ∀ y, y < n → p y = false) : (List.range n).find? p = none := by
 rw [List.find?_eq_none]
 intro x hx
 simp [h1 x (List.mem_range.1 hx)]
theorem firstD_hit (p : Nat → Bool) (n k : Nat) (hk : k < n) (h1 : ∀ y, y < k → p y = false) (h2 : p k = true) : firstD p n = k := by
 unfold firstD; rw [find_range_hit p k h1 h2 n hk]
theorem firstD_none (p : Nat → Bool) (n : Nat) (h1 : ∀ y, y < n → p y = false) : firstD p n = -1 := by
 unfold firstD; rw [find_range_none p n h1]
theorem firstD_lt (p : Nat → Bool) (n : Nat) : firstD p n < n ∧ -1 ≤ firstD p n := by
 unfold firstD
 cases h : (List.range n).find? p with
 | none => simp; omega
 | some x =>
  have := List.mem_of_find?_eq_some h
  rw [List.mem_range] at this
  simp; omega
theorem firstD_before (p : Nat → Bool) (n y : Nat) (hy : y < n) (h : firstD p n < 0 ∨ (y : Int) < firstD p n) : p y = false := by
 unfold firstD at h
 cases hf : (List.range n).find? p with
 | none =>
  have := List.find?_eq_none.1 hf y (List.mem_range.2 hy)
  simpa using this
 | some x =>
  rw [hf] at h
  simp at h
  have h' : y < x := by omega
  rw [List.find?_range_eq_some] at hf
  simpa using hf.2.2 y h'
theorem firstD_at (p : Nat → Bool) (n : Nat) (h : 0 ≤ firstD p n) : p (firstD p n).toNat = true := by
 unfold firstD at h ⊢
 cases hf : (List.range n).find? p with
 | none => rw [hf] at h; simp at h
 | some x =>
  simp only [Int.toNat_natCast]
  exact List.find?_some hf
theorem bit_eq2 (x k : Nat) : ((x : Int) / 2 ^ k % 2 == 1) = bitN x k := by
 have e : (x : Int) / 2 ^ k % 2 = ((x / 2 ^ k % 2 : Nat) : Int) := by simp
 rw [e]
 unfold bitN
 rcases Nat.mod_two_eq_zero_or_one (x / 2 ^ k) with h | h <;> rw [h] <;> rfl
theorem bit_nonneg (x k : Nat) : 0 ≤ (x : Int) / 2 ^ k := Int.ediv_nonneg (by omega) (Int.pow_nonneg (by decide))
theorem bit_eq (x k : Nat) : (((x : Int) / 2 ^ k).tmod 2 == 1) = bitN x k := by
 rw [Int.tmod_eq_emod_of_nonneg (bit_nonneg x k), bit_eq2]
theorem bit_le (x k : Nat) : (x : Int) / 2 ^ k ≤ x := by
 have e : (x : Int) / 2 ^ k = ((x / 2 ^ k : Nat) : Int) := by simp
 have := Nat.div_le_self x (2 ^ k)
 rw [e]; omega
theorem eq_of_getD {α : Type} (d : α) : ∀ (xs ys : List α), xs.length = ys.length → (∀ j, j < xs.length → xs.getD j d = ys.getD j d) → xs = ys := by
 intro xs ys hl h
 apply List.ext_getElem? 
 intro i
 rcases Nat.lt_or_ge i xs.length with hi | hi
 ·have := h i hi
  simp only [List.getD_eq_getElem?_getD] at this
  rw [List.getElem?_eq_getElem hi, List.getElem?_eq_getElem (by omega)] at this ⊢
  simpa using this
 ·rw [List.getElem?_eq_none hi, List.getElem?_eq_none (by omega)]
theorem beq_of_getD {xs ys : List Bool} (hl : xs.length = ys.length) (h : ∀ j, j < xs.length → xs.getD j false = ys.getD j false) : (xs == ys) = true := by
 rw [eq_of_getD false xs ys hl h]; simp
theorem beq_no_len {xs ys : List Bool} (hl : xs.length ≠ ys.length) : (xs == ys) = false := by
 rw [beq_eq_false_iff_ne]; intro h; rw [h] at hl; exact hl rfl
theorem beq_no_at {xs ys : List Bool} (j : Nat) (h : xs.getD j false ≠ ys.getD j false) : (xs == ys) = false := by
 rw [beq_eq_false_iff_ne]; intro e; rw [e] at h; exact h rfl
end Go.Proofs.Ytgialedmbmfejaa

namespace Go.Proofs.Ytgialedmbmfejaa
open Go.RowKit
set_option maxRecDepth 100000
set_option linter.unusedVariables false
set_option linter.unusedSimpArgs false
theorem tyBools : RowTy Try.prog 65 4 1 1 := RowTy.mk' (z := .bool false) Try.underlying65 (by kernel_rfl) rfl (by decide) (by decide)
/-- A slice of truth values that the call owns. -/
def OwnB (w : World) (base : Nat) (v : Value) (xs : List Bool) : Prop := w.ownsRow base 4 1 v xs.length (xs.map Value.bool)
theorem OwnB.opened {w : World} {base : Nat} {v : Value} {xs : List Bool} (h : OwnB w base v xs) : ∃ a c, v = .slice a xs.length c ∧ BoolsAt w a xs := by
 obtain ⟨a, c, hv, hr, _⟩ := ownsRow_row h
 exact ⟨a, c, hv, boolsAt_of_row hr⟩
theorem OwnB.ext {w w' : World} {base : Nat} {v : Value} {xs : List Bool} (h : OwnB w base v xs) (e : Ext w w') : OwnB w' base v xs := ownsRow_ext h e
theorem OwnB.le {w : World} {base b : Nat} {v : Value} {xs : List Bool} (h : OwnB w base v xs) (hb : b ≤ base) : OwnB w b v xs := by
 refine ⟨h.1, ?_⟩
 rcases h.2 with h | ⟨g, cap, cur, h1, h2, h3⟩
 ·exact .inl h
 ·exact .inr ⟨g, cap, cur, h1, Nat.le_trans hb h2, h3⟩
theorem OwnB.app {w' : World} {base : Nat} {v' : Value} {xs ys : List Bool} {n m : Nat} (hn : n = xs.length) (hm : m = ys.length) (h : w'.ownsRow base 4 1 v' (n + m) (xs.map Value.bool ++ ys.map Value.bool)) : OwnB w' base v' (xs ++ ys) := by
 subst hn hm
 unfold OwnB
 rw [List.length_append, List.map_append]; exact h
theorem OwnB.len {w : World} {base : Nat} {v : Value} {xs : List Bool} (h : OwnB w base v xs) : ∃ a c, v = .slice a xs.length c ∧ xs.length ≤ c ∧ c ≤ maxLen := by
 obtain ⟨a, c, hv, _, h1, h2, _⟩ := ownsRow_row h
 exact ⟨a, c, hv, h1, h2⟩
theorem OwnB.nil {w : World} {base : Nat} : OwnB w base (.slice none 0 0) [] := World.ownsRow_nil _ _ _ _
theorem OwnB.lt' {w : World} {b : Nat} {v : Value} {xs : List Bool} (h : OwnB w b v xs) : ∀ k, v.ownBlock = some k → b ≤ k ∧ k < w.heap.size := by
 obtain ⟨_, h2⟩ := h
 rcases h2 with ⟨rfl, _⟩ | ⟨g, cap, cur, rfl, hb, hgg, rest⟩
 ·intro k hk; cases hk
 ·intro k hk; cases hk; exact ⟨hb, (Array.getElem?_eq_some_iff.1 hgg).1⟩
theorem OwnB.setOther {w : World} {b : Nat} {v : Value} {xs : List Bool} (h : OwnB w b v xs) {p : Addr} (hne : v.ownBlock ≠ some p.block) (u : Value) : OwnB (w.setCell p u) b v xs := ownsRow_set h hne u
end Go.Proofs.Ytgialedmbmfejaa

namespace Go.Proofs.Ytgialedmbmfejaa
open Go.RowKit
def MadeBools (w : World) (xs : List Bool) (e : Ending) (w' : World) : Prop :=
 ∃ B, e = .returned (.slice (some ⟨B, 0, none⟩) xs.length xs.length) ∧ w.heap.size ≤ B ∧ Blk w' B 4 (xs.map Value.bool) ∧ Ext w w'
theorem boolInfo' : (Try.prog.info? 4).map (fun i => (i.zero, i.size, i.bytes)) = some (some (.bool false), 1, 1) := by kernel_rfl
/-- The call makes a slice of truth values. -/
def GiveB (w : World) (xs : List Bool) (e : Ending) (w' : World) : Prop := ∃ v, e = .returned v ∧ OwnB w' w.heap.size v xs ∧ Ext w w'
end Go.Proofs.Ytgialedmbmfejaa

namespace Go.Proofs.Ytgialedmbmfejaa
open Go.RowKit
set_option maxRecDepth 100000
set_option linter.unusedVariables false
set_option linter.unusedSimpArgs false
def lvStep (l : List Int) (g : Int × Int) : List Int := l ++ [1 + max (l.getD (g.1 / 2).toNat 0) (l.getD (g.2 / 2).toNat 0)]
def lvls (f : Nat) (gs : List (Int × Int)) : List Int := gs.foldl lvStep (List.replicate f 0)
theorem foldl_lv_length (gs : List (Int × Int)) : ∀ l, (gs.foldl lvStep l).length = l.length + gs.length := by
 induction gs with
 | nil => intro l; rfl
 | cons g gs ih => intro l; simp only [List.foldl_cons, ih, lvStep, List.length_append, List.length_cons, List.length_nil]; omega
theorem lvls_length (f : Nat) (gs : List (Int × Int)) : (lvls f gs).length = f + gs.length := by
 unfold lvls; rw [foldl_lv_length]; simp
theorem lvls_snoc (f : Nat) (gs : List (Int × Int)) (g : Int × Int) : lvls f (gs ++ [g]) = lvStep (lvls f gs) g := by
 unfold lvls; rw [List.foldl_append]; rfl
def LvOk (l : List Int) (m : Int) : Prop := ∀ x ∈ l, 0 ≤ x ∧ x ≤ m
theorem LvOk.get {l : List Int} {m : Int} (h : LvOk l m) (hm : 0 ≤ m) (i : Nat) : 0 ≤ l.getD i 0 ∧ l.getD i 0 ≤ m := by
 rw [List.getD_eq_getElem?_getD]
 rcases Nat.lt_or_ge i l.length with hi | hi
 ·rw [List.getElem?_eq_getElem hi]; exact h _ (List.getElem_mem _)
 ·rw [List.getElem?_eq_none hi]; exact ⟨Int.le_refl _, hm⟩
theorem LvOk.step {l : List Int} {m : Int} (h : LvOk l m) (hm : 0 ≤ m) (g : Int × Int) : LvOk (lvStep l g) (m + 1) := by
 intro x hx
 rcases List.mem_append.1 hx with hx | hx
 ·have := h x hx; omega
 ·have h1 := h.get hm (g.1 / 2).toNat
  have h2 := h.get hm (g.2 / 2).toNat
  have e := List.mem_singleton.1 hx
  omega
theorem foldl_lv_ok (gs : List (Int × Int)) : ∀ l (m : Int), 0 ≤ m → LvOk l m → LvOk (gs.foldl lvStep l) (m + gs.length) := by
 induction gs with
 | nil => intro l m _ h; simpa using h
 | cons g gs ih =>
  intro l m hm h
  have := ih (lvStep l g) (m + 1) (by omega) (h.step hm g)
  have e : m + 1 + (gs.length : Int) = m + ((g :: gs).length : Int) := by simp; omega
  rw [e] at this
  exact this
theorem lvls_ok (f : Nat) (gs : List (Int × Int)) : LvOk (lvls f gs) gs.length := by
 have := foldl_lv_ok gs (List.replicate f 0) 0 (Int.le_refl _) (by intro x hx; have := List.eq_of_mem_replicate hx; omega)
 unfold lvls
 simpa using this
/-- The greatest level of the literals' variables. -/
def topOf (l xs : List Int) : Int := xs.foldl (fun m x => max m (l.getD (x / 2).toNat 0)) 0
theorem topOf_snoc (l xs : List Int) (x : Int) : topOf l (xs ++ [x]) = max (topOf l xs) (l.getD (x / 2).toNat 0) := by
 unfold topOf; rw [List.foldl_append]; rfl
theorem foldl_top (l xs : List Int) : ∀ i : Int, 0 ≤ i → xs.foldl (fun m x => max m (l.getD (x / 2).toNat 0)) i = max i (topOf l xs) := by
 induction xs with
 | nil => intro i hi; simp only [topOf, List.foldl_nil]; omega
 | cons x xs ih =>
  intro i hi
  have e : topOf l (x :: xs) = xs.foldl (fun m x => max m (l.getD (x / 2).toNat 0)) (max 0 (l.getD (x / 2).toNat 0)) := rfl
  rw [e, List.foldl_cons, ih _ (by omega), ih _ (by omega)]
  omega
theorem topOf_nonneg (l xs : List Int) : 0 ≤ topOf l xs := by
 have := foldl_top l xs 0 (Int.le_refl _)
 have e : xs.foldl (fun m x => max m (l.getD (x / 2).toNat 0)) 0 = topOf l xs := rfl
 omega
theorem topOf_append (l a b : List Int) : topOf l (a ++ b) = max (topOf l a) (topOf l b) := by
 have e : topOf l (a ++ b) = b.foldl (fun m x => max m (l.getD (x / 2).toNat 0)) (topOf l a) := by unfold topOf; rw [List.foldl_append]
 rw [e, foldl_top l b _ (topOf_nonneg l a)]
theorem topOf_comm (l a b : List Int) : topOf l (a ++ b) = topOf l (b ++ a) := by
 rw [topOf_append, topOf_append]; omega
theorem topOf_le {l : List Int} {m : Int} (h : LvOk l m) (hm : 0 ≤ m) (xs : List Int) : topOf l xs ≤ m := by
 induction xs with
 | nil => exact hm
 | cons x xs ih =>
  have e : topOf l (x :: xs) = topOf l ([x] ++ xs) := rfl
  rw [e, topOf_append]
  have : topOf l [x] = max 0 (l.getD (x / 2).toNat 0) := rfl
  have := (h.get hm (x / 2).toNat).2
  omega
theorem topOf_half {l : List Int} (xs ys : List Int) (h : xs.map (· / 2) = ys.map (· / 2)) : topOf l xs = topOf l ys := by
 have e : ∀ zs : List Int, topOf l zs = (zs.map (· / 2)).foldl (fun m x => max m (l.getD x.toNat 0)) 0 := by
  intro zs; unfold topOf; rw [List.foldl_map]
 rw [e, e, h]
/-- The other literal of a variable. -/
def cpl (x : Int) : Int := bits .xor .i64 x 1
theorem cpl_eq (x : Int) (h0 : 0 ≤ x) (h1 : x < 2 ^ 61) : cpl x / 2 = x / 2 ∧ 0 ≤ cpl x := by
 obtain ⟨n, rfl⟩ := Int.eq_ofNat_of_zero_le h0
 have e : cpl (n : Int) = ((n ^^^ 1 : Nat) : Int) := xor64 n 1 (by omega) (by omega)
 have h := Nat.xor_div_two (a := n) (b := 1)
 simp at h
 rw [e]
 omega
theorem litB_cpl (x n : Int) (h0 : 0 ≤ x) (h1 : x < 2 ^ 61) : litB (cpl x) n = litB x n := by
 have := cpl_eq x h0 h1
 unfold litB
 have e1 : decide (0 ≤ cpl x) = decide (0 ≤ x) := by simp only [decide_eq_decide]; omega
 have e2 : decide (cpl x < 2 * n) = decide (x < 2 * n) := by simp only [decide_eq_decide]; omega
 rw [e1, e2]
noncomputable def depthOf (c : Circ) : Int := if validB c then topOf (lvls c.first.toNat c.gates) (c.next ++ c.outs) else -1
/-- One round of the program's loop over the levels. -/
theorem lvls_set (f n k : Nat) (gs : List (Int × Int)) (g : Int × Int) (hk : gs.length = k) (hn : k < n) (h1 : (g.1 / 2).toNat < f + k) (h2 : (g.2 / 2).toNat < f + k) :
  (lvls f gs ++ List.replicate (n - k) 0).set (f + k) (1 + max ((lvls f gs ++ List.replicate (n - k) 0).getD (g.1 / 2).toNat 0) ((lvls f gs ++ List.replicate (n - k) 0).getD (g.2 / 2).toNat 0)) = lvls f (gs ++ [g]) ++ List.replicate (n - (k + 1)) 0 := by
 have hl : (lvls f gs).length = f + k := by rw [lvls_length, hk]
 have e1 : ∀ i, i < f + k → (lvls f gs ++ List.replicate (n - k) 0).getD i 0 = (lvls f gs).getD i 0 := by
  intro i hi
  rw [List.getD_eq_getElem?_getD, List.getD_eq_getElem?_getD, List.getElem?_append_left (by omega)]
 rw [e1 _ h1, e1 _ h2, lvls_snoc, List.set_append_right _ _ (by omega), hl]
 obtain ⟨m, hm⟩ : ∃ m, n - k = m + 1 := ⟨n - k - 1, by omega⟩
 have hm2 : n - (k + 1) = m := by omega
 rw [hm, hm2]
 simp [lvStep, List.replicate_succ]
end Go.Proofs.Ytgialedmbmfejaa

namespace Go.Proofs.Ytgialedmbmfejaa
open Go.RowKit
set_option maxRecDepth 100000
set_option linter.unusedVariables false
set_option linter.unusedSimpArgs false
theorem ownsRow_made (w : World) (base : Nat) (e : TypeId) (xs : List Value) (hb : base ≤ w.heap.size) (hm : xs.length ≤ maxLen) : (w.alloc (.cells xs.toArray e)).ownsRow base e 1 (.slice (some ⟨w.heap.size, 0, none⟩) xs.length xs.length) xs.length xs :=
 ⟨by simp, .inr ⟨_, xs.length, xs.toArray, rfl, hb, heap_alloc_new w _, Nat.le_refl _, hm, by simp, by simp⟩⟩
theorem ownInts_zeros (w : World) (base : Nat) (e : TypeId) (n : Nat) (hb : base ≤ w.heap.size) (hm : n ≤ maxLen) : OwnInts (w.alloc (.cells (madeCells #[.int .i64 0] n) e)) base e (.slice (some ⟨w.heap.size, 0, none⟩) n n) (List.replicate n 0) := by
 have e1 : madeCells #[Value.int .i64 0] n = ((List.replicate n (0 : Int)).map (Value.int .i64)).toArray := by
  apply Array.toList_inj.1
  rw [toList_madeCells_one]
  simp
 have := ownsRow_made w base e ((List.replicate n (0 : Int)).map (Value.int .i64)) hb (by simpa using hm)
 unfold OwnInts
 rw [e1]
 simpa using this
theorem litB_iff {l n : Int} : litB l n = true ↔ 0 ≤ l ∧ l < 2 * n := by simp [litB]
theorem take_snocP {α : Type} (xs : List α) (k : Nat) (d : α) (h : k < xs.length) : xs.take (k + 1) = xs.take k ++ [xs.getD k d] := by
 rw [List.take_add_one, List.getElem?_eq_getElem h, List.getD_eq_getElem?_getD, List.getElem?_eq_getElem h]; rfl
theorem CircBox.gr {w w' : World} {b : Nat} {c : Circ} {p : Where3} {r : Option Nat} (h : CircBox w b c p) (g : w.grownBy w' r) (hne : r ≠ some b) : CircBox w' b c p := by
 have hb := g.block b h.lt (fun e => hne e.symm)
 exact ⟨Nat.lt_of_lt_of_le h.lt g.size, (World.cell?_of_block (a := ⟨b, 0, none⟩) hb).trans h.h0, (World.cell?_of_block (a := ⟨b, 1, none⟩) hb).trans h.h1, (World.cell?_of_block (a := ⟨b, 2, none⟩) hb).trans h.h2, (World.cell?_of_block (a := ⟨b, 3, none⟩) hb).trans h.h3⟩
theorem ownsRow_mono {w : World} {B base : Nat} {e : TypeId} {size : Nat} {v : Value} {n : Nat} {xs : List Value} (h : w.ownsRow base e size v n xs) (hb : B ≤ base) : w.ownsRow B e size v n xs := by
 refine ⟨h.1, ?_⟩
 rcases h.2 with h | ⟨g, cap, cur, h1, h2, h3⟩
 ·exact .inl h
 ·exact .inr ⟨g, cap, cur, h1, Nat.le_trans hb h2, h3⟩
theorem intInfo : (Try.prog.info? 3).map (fun i => (i.zero, i.size, i.bytes)) = some (some (.int .i64 0), 1, 8) := by kernel_rfl
end Go.Proofs.Ytgialedmbmfejaa

namespace Go.Proofs.Ytgialedmbmfejaa
open Go.RowKit
set_option maxRecDepth 100000
set_option linter.unusedVariables false
set_option linter.unusedSimpArgs false
theorem row_src {w : World} {a : Option Addr} {cs : List Value} (h : RowAt w a cs) (h0 : 0 < cs.length) : ∃ ad, a = some ad ∧ ∀ j v, cs[j]? = some v → w.cell? (ad.add j) = some v := by
 rcases h with rfl | ⟨b, o, rfl, hb, hc⟩
 ·simp at h0
 ·refine ⟨_, rfl, fun j v hj => ?_⟩
  have : (⟨b, o, none⟩ : Addr).add j = ⟨b, o + j, none⟩ := by unfold Addr.add; split <;> simp_all
  rw [this]; exact hc j v hj
end Go.Proofs.Ytgialedmbmfejaa

namespace Go.Proofs.Ytgialedmbmfejaa
open Go.RowKit
set_option maxRecDepth 100000
set_option linter.unusedVariables false
set_option linter.unusedSimpArgs false
/-- The arguments fit. -/
structure EvOk (c : Circ) (st ins : List Bool) : Prop where
 V : c.Valid
 ls : st.length = c.next.length
 li : (ins.length : Int) = c.inputs
end Go.Proofs.Ytgialedmbmfejaa

namespace Go.Proofs.Ytgialedmbmfejaa
open Go.RowKit
set_option maxRecDepth 100000
set_option linter.unusedVariables false
set_option linter.unusedSimpArgs false
theorem MadeBools.own {w w' : World} {xs : List Bool} {e : Ending} (h : MadeBools w xs e w') (hl : xs.length ≤ maxLen) : ∃ v, e = .returned v ∧ OwnB w' w.heap.size v xs ∧ Ext w w' := by
 obtain ⟨B, rfl, hB, hI, hE⟩ := h
 exact ⟨_, rfl, hI.owns (by simp) hB hl, hE⟩
end Go.Proofs.Ytgialedmbmfejaa

namespace Go.Proofs.Ytgialedmbmfejaa
open Go.RowKit
set_option maxRecDepth 100000
set_option linter.unusedVariables false
set_option linter.unusedSimpArgs false
theorem lit_ok {ls : List Int} {n : Int} (h : LitsOk ls n) (k : Nat) (hk : k < ls.length) : 0 ≤ ls.getD k 0 ∧ ls.getD k 0 < 2 * n := by
 have h2 := h k hk
 simpa [litB] using h2
def LitsRel (w : World) (vs : List Bool) (ls : List Int) (u5 u6 : Value) (wr : World) : Prop :=
 ∃ k : Nat, k ≤ ls.length ∧ u6 = .int .i64 k ∧ OwnB wr w.heap.size u5 (litsV vs (ls.take k)) ∧ Ext w wr
end Go.Proofs.Ytgialedmbmfejaa

namespace Go.Proofs.Ytgialedmbmfejaa
open Go.RowKit
set_option maxRecDepth 100000
set_option linter.unusedVariables false
set_option linter.unusedSimpArgs false
def BitsRel (w : World) (x : Nat) (n : Nat) (u5 u6 : Value) (wr : World) : Prop :=
 ∃ k : Nat, k ≤ n ∧ u6 = .int .i64 k ∧ OwnB wr w.heap.size u5 (bitsN x k) ∧ Ext w wr
theorem sameBools_c (a b : Option Addr) (c d n m : Nat) (xs ys : List Bool) (hn : xs.length = n) (hm : ys.length = m) (w : World) (hx : BoolsAt w a xs) (hy : BoolsAt w b ys) (hl : n ≤ 1048576) (hl2 : m ≤ 1048576) :
    Calls Try.prog 48 #[.slice a n c, .slice b m d] w fun e w' => e = .returned (.bool (xs == ys)) ∧ Ext w w' := by
  by_cases hnm : n = m
  · subst hnm
    have HN := Lib.hid hn
    have HM := Lib.hid hm
    have hn1 : xs.length ≤ n ∧ n ≤ xs.length := by omega
    have hm1 : ys.length ≤ n ∧ n ≤ ys.length := by omega
    obtain ⟨n1, n2⟩ := hn1
    obtain ⟨m1, m2⟩ := hm1
    clear hn hm
    go_enter Try.func48, Try.ntmps48
    go_wp2_with fail
    go_loopw [5] (fun i wr => ∃ k : Nat, k ≤ n ∧ i = .int .i64 k ∧ Hid (∀ j, j < k → xs.getD j false = ys.getD j false) ∧ Ext w wr) (fun i _ => n - (intOf i).toNat)
    case atStart => exact ⟨0, Nat.zero_le _, rfl, Lib.hid (fun j hj => by omega), Ext.refl w⟩
    case round =>
      obtain ⟨k, hk, rfl, hpre, hE⟩ := hrel
      by_cases hlt : k < n
      · obtain ⟨b1, o1, rfl, hb1, hc1⟩ := (hx.ext hE).get (by omega)
        obtain ⟨b2, o2, rfl, hb2, hc2⟩ := (hy.ext hE).get (by omega)
        have q1 := hc1 k (by omega)
        have q2 := hc2 k (by omega)
        obtain ⟨x, hxx⟩ : ∃ x, x = xs.getD k false := ⟨_, rfl⟩
        obtain ⟨y, hyy⟩ : ∃ x, x = ys.getD k false := ⟨_, rfl⟩
        rw [← hxx] at q1
        rw [← hyy] at q2
        have HX := Lib.hid hxx
        have HY := Lib.hid hyy
        clear hc1 hc2 hxx hyy
        cases x <;> cases y
        all_goals
          go_wp2
          go_quiet (fail)
          go_wp2
          first
          | (go_ret
             have hf : (xs == ys) = false := beq_no_at k (by rw [← HX.out, ← HY.out]; simp)
             exact ⟨by rw [hf]; rfl, by (repeat (first | assumption | (with_reducible refine Ext.drew' ?_) | exact Ext.refl _ | exact Ext.drew _ | exact Ext.drewN _ _ | (refine Ext.alloc ?_ _) | (refine Ext.drewN' ?_ _) | (refine Ext.setNew ?_ (by first | exact Nat.le_refl _ | (simp; done) | (simp; omega) | omega) _)))⟩)
          | (go_roundw
             case rel =>
               refine ⟨k + 1, by omega, by go_num, Lib.hid (fun j hj => ?_), by (repeat (first | assumption | (with_reducible refine Ext.drew' ?_) | exact Ext.refl _ | exact Ext.drew _ | exact Ext.drewN _ _ | (refine Ext.alloc ?_ _) | (refine Ext.drewN' ?_ _) | (refine Ext.setNew ?_ (by first | exact Nat.le_refl _ | (simp; done) | (simp; omega) | omega) _)))⟩
               rcases Nat.lt_or_ge j k with h | h
               · exact hpre.out j h
               · have : j = k := by omega
                 subst this
                 rw [← HX.out, ← HY.out]
             case measure => simp [intOf]; omega)
      · go_wp2
        go_ret
        have ht : (xs == ys) = true := beq_of_getD (by rw [HN.out, HM.out]) (fun j hj => hpre.out j (by omega))
        exact ⟨by rw [ht]; rfl, hE⟩
  · have hf : (xs == ys) = false := beq_no_len (by omega)
    have HF := Lib.hid hf
    have hnm2 : ((n : Int) != (m : Int)) = true := by simp; omega
    clear hf hn hm
    go_enter Try.func48, Try.ntmps48
    go_wp2
    go_ret
    exact ⟨by rw [HF.out]; rfl, Ext.refl w⟩
end Go.Proofs.Ytgialedmbmfejaa

namespace Go.Proofs.Ytgialedmbmfejaa
open Go.RowKit
set_option maxRecDepth 100000
set_option linter.unusedVariables false
set_option linter.unusedSimpArgs false
theorem sameInts_c (a b : Option Addr) (c d : Nat) (xs : List Int) (w : World) (hx : IntsAt w a xs) (hy : IntsAt w b xs) (hl : xs.length ≤ 1048576) :
  Calls Try.prog 15 #[.slice a xs.length c, .slice b xs.length d] w fun e w' => e = .returned (.bool true) ∧ Ext w w' := by
 go_enter Try.func15, Try.ntmps15
 go_wp2_with fail
 go_loopw [5] (fun i wr => ∃ k : Nat, k ≤ xs.length ∧ i = .int .i64 k ∧ Ext w wr) (fun i _ => xs.length - (intOf i).toNat)
 case atStart => exact ⟨0, Nat.zero_le _, rfl, Ext.refl w⟩
 case round =>
  obtain ⟨k, hk, rfl, hE⟩ := hrel
  by_cases hlt : k < xs.length
  ·obtain ⟨b1, o1, rfl, hb1, hc1⟩ := (hx.ext hE).get (by omega)
   obtain ⟨b2, o2, rfl, hb2, hc2⟩ := (hy.ext hE).get (by omega)
   have q1 := hc1 k hlt
   have q2 := hc2 k hlt
   obtain ⟨x, hxx⟩ : ∃ x, x = xs.getD k 0 := ⟨_, rfl⟩
   rw [← hxx] at q1 q2
   clear hc1 hc2 hxx
   go_wp2
   go_quiet (fail)
   go_wp2
   go_roundw
   case rel => exact ⟨k + 1, by omega, by go_num, by (repeat (first | assumption | (with_reducible refine Ext.drew' ?_) | exact Ext.refl _ | exact Ext.drew _ | exact Ext.drewN _ _ | (refine Ext.alloc ?_ _) | (refine Ext.drewN' ?_ _) | (refine Ext.setNew ?_ (by first | exact Nat.le_refl _ | (simp; done) | (simp; omega) | omega) _)))⟩
   case measure => simp [intOf]; omega
  ·go_wp2
   go_ret
   exact ⟨rfl, hE⟩
end Go.Proofs.Ytgialedmbmfejaa

