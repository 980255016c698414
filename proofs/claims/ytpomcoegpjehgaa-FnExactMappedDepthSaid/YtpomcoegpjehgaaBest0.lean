/- Plain: the best cut of every gate, and the arrival times. -/
import Derived.Test.YtpomcoegpjehgaaCutS
import Derived.Test.YtpomcoegpjehgaaLev
namespace Go.Proofs.Ytpomcoegpjehgaa
set_option linter.unusedVariables false
set_option linter.unusedSimpArgs false
/-- The largest arrival time of a cut's leaves. -/
def maxA (ar cut : List Int) : Int := cut.foldl (fun t l => max t (ar.getD l.toNat 0)) 0
theorem maxA_snoc (ar xs : List Int) (x : Int) : maxA ar (xs ++ [x]) = max (maxA ar xs) (ar.getD x.toNat 0) := by unfold maxA; rw [List.foldl_append]; rfl
theorem maxA_ok {ar : List Int} {m : Int} (h : LvOk ar m) (hm : 0 ≤ m) (cut : List Int) : 0 ≤ maxA ar cut ∧ maxA ar cut ≤ m := by
  unfold maxA
  refine foldl_inv (p := fun t => 0 ≤ t ∧ t ≤ m) (fun t l ht => ?_) cut 0 ⟨Int.le_refl _, hm⟩
  have := h.get hm l.toNat
  omega
theorem maxA_congr {ar bs : List Int} (h : ∀ i : Nat, ar.getD i 0 = bs.getD i 0) (cut : List Int) : maxA ar cut = maxA bs cut := by
  unfold maxA
  congr 1
  funext t l
  rw [h]
/-- The better of two cuts: the earlier one stays unless the other is better. -/
def betterB (ar c b : List Int) : Bool := decide (maxA ar c < maxA ar b) || (decide (maxA ar c = maxA ar b) && decide (c.length < b.length))
def pickB (ar b c : List Int) : List Int := if betterB ar c b then c else b
def bestOf (ar : List Int) : List (List Int) → List Int
  | [] => []
  | x :: xs => xs.foldl (pickB ar) x
theorem bestOf_snoc (ar : List Int) (xs : List (List Int)) (y : List Int) (h : xs ≠ []) : bestOf ar (xs ++ [y]) = pickB ar (bestOf ar xs) y := by
  cases xs with
  | nil => exact absurd rfl h
  | cons x xs => simp [bestOf]
theorem pickB_mem {ar b c : List Int} {L : List (List Int)} (hb : b ∈ L) (hc : c ∈ L) : pickB ar b c ∈ L := by unfold pickB; split <;> assumption
theorem bestOf_mem (ar : List Int) (xs : List (List Int)) (h : xs ≠ []) : bestOf ar xs ∈ xs := by
  cases xs with
  | nil => exact absurd rfl h
  | cons x xs => exact foldl_inv_mem (p := fun b => b ∈ x :: xs) xs (fun b a ha hb => pickB_mem hb (List.mem_cons_of_mem _ ha)) x (by simp)
def bestStep (s : List (List Int) × List Int) (L : List (List Int)) : List (List Int) × List Int := (s.1 ++ [bestOf s.2 L.dropLast], s.2 ++ [1 + maxA s.2 (bestOf s.2 L.dropLast)])
def bestK (all : List (List (List Int))) (f k : Nat) : List (List Int) × List Int := ((all.drop f).take k).foldl bestStep (List.replicate f [], List.replicate f 0)
theorem bestK_zero (all : List (List (List Int))) (f : Nat) : bestK all f 0 = (List.replicate f [], List.replicate f 0) := by simp [bestK]
theorem bestK_succ (all : List (List (List Int))) (f k : Nat) (h : f + k < all.length) : bestK all f (k + 1) = bestStep (bestK all f k) (all.getD (f + k) []) := by
  unfold bestK
  rw [foldl_snocD bestStep (all.drop f) k [] _ (by rw [List.length_drop]; omega)]
  congr 1
  rw [List.getD_eq_getElem?_getD, List.getD_eq_getElem?_getD, List.getElem?_drop]
theorem bestK_len (all : List (List (List Int))) (f k : Nat) (h : f + k ≤ all.length) : (bestK all f k).1.length = f + k ∧ (bestK all f k).2.length = f + k := by
  induction k with
  | zero => rw [bestK_zero]; simp
  | succ k ih =>
    rw [bestK_succ all f k (by omega)]
    have := ih (by omega)
    simp [bestStep, this]; omega
theorem lvOk_snoc {ar : List Int} {m x : Int} (h : LvOk ar m) (h0 : 0 ≤ x) (h1 : x ≤ m + 1) : LvOk (ar ++ [x]) (m + 1) := by
  intro y hy
  rcases List.mem_append.1 hy with h2 | h2
  · have := h y h2; omega
  · simp at h2; omega
theorem bestK_ok (all : List (List (List Int))) (f k : Nat) (h : f + k ≤ all.length) : LvOk (bestK all f k).2 k := by
  induction k with
  | zero => rw [bestK_zero]; intro x hx; have := List.eq_of_mem_replicate hx; omega
  | succ k ih =>
    rw [bestK_succ all f k (by omega)]
    have h1 := ih (by omega)
    have := maxA_ok h1 (by omega) (bestOf (bestK all f k).2 (all.getD (f + k) []).dropLast)
    exact lvOk_snoc h1 (by omega) (by omega)
/-- The best cuts and the arrival times of a circuit. -/
def bestN (c : Circ) : List (List Int) × List Int := bestK (cutsN c) c.first.toNat c.gates.length
noncomputable def mdepthV (c : Circ) : Int := if validB c then topOf (bestN c).2 (c.next ++ c.outs) else -1
theorem dropLast_snoc {α : Type} (xs : List α) (x : α) : (xs ++ [x]).dropLast = xs := by simp
end Go.Proofs.Ytpomcoegpjehgaa
