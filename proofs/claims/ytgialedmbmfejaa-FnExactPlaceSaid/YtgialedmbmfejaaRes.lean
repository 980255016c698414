/- Results of a circuit for an assignment, and tests for faults, as plain lists. -/
import Derived.Test.YtgialedmbmfejaaVal
namespace Go.Proofs.Ytgialedmbmfejaa
open Go.RowKit
set_option linter.unusedVariables false
set_option linter.unusedSimpArgs false
def litsV (vs : List Bool) (ls : List Int) : List Bool := ls.map (litV vs)
theorem litsV_append (vs : List Bool) (a b : List Int) : litsV vs (a ++ b) = litsV vs a ++ litsV vs b := by simp [litsV]
theorem litsV_length (vs : List Bool) (a : List Int) : (litsV vs a).length = a.length := by simp [litsV]
theorem litsV_snoc (vs : List Bool) (ls : List Int) (k : Nat) (h : k < ls.length) : litsV vs (ls.take (k + 1)) = litsV vs (ls.take k) ++ [litV vs (ls.getD k 0)] := by
  rw [take_snocG ls k 0 h]; simp [litsV]
/-- The n low bits of a number, the lowest first. -/
def bitN (x i : Nat) : Bool := x / 2 ^ i % 2 == 1
def bitsN (x n : Nat) : List Bool := (List.range n).map (bitN x)
theorem bitsN_length (x n : Nat) : (bitsN x n).length = n := by simp [bitsN]
theorem bitsN_succ (x n : Nat) : bitsN x (n + 1) = bitsN x n ++ [bitN x n] := by simp [bitsN, List.range_succ]
theorem bitsN_get (x n j : Nat) (h : j < n) : (bitsN x n).getD j false = bitN x j := by
  simp [bitsN, List.getD_eq_getElem?_getD, h]
def inB (c : Circ) (x : Nat) : List Bool := bitsN x c.inputs.toNat
def stB (c : Circ) (x : Nat) : List Bool := bitsN (x / 2 ^ c.inputs.toNat) c.next.length
/-- The values of all next-state and output literals for an assignment; one variable may be stuck. -/
def resV (c : Circ) (s : Int) (v : Bool) (x : Nat) : List Bool := litsV (sVals s v (inB c x) (stB c x) c.gates) (c.next ++ c.outs)
def detV (c : Circ) (s : Int) (v : Bool) (x : Nat) : Bool := resV c (-1) false x != resV c s v x
def assigns (c : Circ) : Nat := 2 ^ (c.inputs.toNat + c.next.length)
/-- The smallest number below n with a property, or -1. -/
def firstD (p : Nat → Bool) (n : Nat) : Int := match (List.range n).find? p with
  | some x => x
  | none => -1
theorem find_range_hit (p : Nat → Bool) (k : Nat) (h1 : ∀ y, y < k → p y = false) (h2 : p k = true) : ∀ n, k < n → (List.range n).find? p = some k := by
  intro n hn
  rw [List.find?_range_eq_some]
  exact ⟨h2, by simpa using hn, fun y hy => by simp [h1 y hy]⟩
theorem find_range_none (p : Nat → Bool) (n : Nat) (h1 : ∀ y, y < n → p y = false) : (List.range n).find? p = none := by
  rw [List.find?_eq_none]
  intro x hx
  simp [h1 x (List.mem_range.1 hx)]
theorem firstD_hit (p : Nat → Bool) (n k : Nat) (hk : k < n) (h1 : ∀ y, y < k → p y = false) (h2 : p k = true) : firstD p n = k := by
  unfold firstD; rw [find_range_hit p k h1 h2 n hk]
theorem firstD_none (p : Nat → Bool) (n : Nat) (h1 : ∀ y, y < n → p y = false) : firstD p n = -1 := by
  unfold firstD; rw [find_range_none p n h1]
theorem firstD_lt (p : Nat → Bool) (n : Nat) : firstD p n < n ∧ -1 ≤ firstD p n := by
  unfold firstD
  cases h : (List.range n).find? p with
  | none => simp; omega
  | some x =>
    have := List.mem_of_find?_eq_some h
    rw [List.mem_range] at this
    simp; omega
theorem firstD_before (p : Nat → Bool) (n y : Nat) (hy : y < n) (h : firstD p n < 0 ∨ (y : Int) < firstD p n) : p y = false := by
  unfold firstD at h
  cases hf : (List.range n).find? p with
  | none =>
    have := List.find?_eq_none.1 hf y (List.mem_range.2 hy)
    simpa using this
  | some x =>
    rw [hf] at h
    simp at h
    have h' : y < x := by omega
    rw [List.find?_range_eq_some] at hf
    simpa using hf.2.2 y h'
theorem firstD_at (p : Nat → Bool) (n : Nat) (h : 0 ≤ firstD p n) : p (firstD p n).toNat = true := by
  unfold firstD at h ⊢
  cases hf : (List.range n).find? p with
  | none => rw [hf] at h; simp at h
  | some x =>
    simp only [Int.toNat_natCast]
    exact List.find?_some hf
theorem bit_eq2 (x k : Nat) : ((x : Int) / 2 ^ k % 2 == 1) = bitN x k := by
  have e : (x : Int) / 2 ^ k % 2 = ((x / 2 ^ k % 2 : Nat) : Int) := by simp
  rw [e]
  unfold bitN
  rcases Nat.mod_two_eq_zero_or_one (x / 2 ^ k) with h | h <;> rw [h] <;> rfl
theorem bit_nonneg (x k : Nat) : 0 ≤ (x : Int) / 2 ^ k := Int.ediv_nonneg (by omega) (Int.pow_nonneg (by decide))
theorem bit_eq (x k : Nat) : (((x : Int) / 2 ^ k).tmod 2 == 1) = bitN x k := by
  rw [Int.tmod_eq_emod_of_nonneg (bit_nonneg x k), bit_eq2]
theorem bit_le (x k : Nat) : (x : Int) / 2 ^ k ≤ x := by
  have e : (x : Int) / 2 ^ k = ((x / 2 ^ k : Nat) : Int) := by simp
  have := Nat.div_le_self x (2 ^ k)
  rw [e]; omega
theorem eq_of_getD {α : Type} (d : α) : ∀ (xs ys : List α), xs.length = ys.length → (∀ j, j < xs.length → xs.getD j d = ys.getD j d) → xs = ys := by
  intro xs ys hl h
  apply List.ext_getElem? 
  intro i
  rcases Nat.lt_or_ge i xs.length with hi | hi
  · have := h i hi
    simp only [List.getD_eq_getElem?_getD] at this
    rw [List.getElem?_eq_getElem hi, List.getElem?_eq_getElem (by omega)] at this ⊢
    simpa using this
  · rw [List.getElem?_eq_none hi, List.getElem?_eq_none (by omega)]
theorem beq_of_getD {xs ys : List Bool} (hl : xs.length = ys.length) (h : ∀ j, j < xs.length → xs.getD j false = ys.getD j false) : (xs == ys) = true := by
  rw [eq_of_getD false xs ys hl h]; simp
theorem beq_no_len {xs ys : List Bool} (hl : xs.length ≠ ys.length) : (xs == ys) = false := by
  rw [beq_eq_false_iff_ne]; intro h; rw [h] at hl; exact hl rfl
theorem beq_no_at {xs ys : List Bool} (j : Nat) (h : xs.getD j false ≠ ys.getD j false) : (xs == ys) = false := by
  rw [beq_eq_false_iff_ne]; intro e; rw [e] at h; exact h rfl
end Go.Proofs.Ytgialedmbmfejaa
