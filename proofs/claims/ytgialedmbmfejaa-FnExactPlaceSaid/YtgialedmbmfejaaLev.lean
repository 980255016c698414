/- The levels of a circuit's variables, as plain lists. -/
import Derived.Test.YtgialedmbmfejaaSpec1
namespace Go.Proofs.Ytgialedmbmfejaa
open Go.RowKit
set_option maxRecDepth 100000
set_option linter.unusedVariables false
set_option linter.unusedSimpArgs false
def lvStep (l : List Int) (g : Int × Int) : List Int := l ++ [1 + max (l.getD (g.1 / 2).toNat 0) (l.getD (g.2 / 2).toNat 0)]
def lvls (f : Nat) (gs : List (Int × Int)) : List Int := gs.foldl lvStep (List.replicate f 0)
theorem foldl_lv_length (gs : List (Int × Int)) : ∀ l, (gs.foldl lvStep l).length = l.length + gs.length := by
  induction gs with
  | nil => intro l; rfl
  | cons g gs ih => intro l; simp only [List.foldl_cons, ih, lvStep, List.length_append, List.length_cons, List.length_nil]; omega
theorem lvls_length (f : Nat) (gs : List (Int × Int)) : (lvls f gs).length = f + gs.length := by
  unfold lvls; rw [foldl_lv_length]; simp
theorem lvls_snoc (f : Nat) (gs : List (Int × Int)) (g : Int × Int) : lvls f (gs ++ [g]) = lvStep (lvls f gs) g := by
  unfold lvls; rw [List.foldl_append]; rfl
def LvOk (l : List Int) (m : Int) : Prop := ∀ x ∈ l, 0 ≤ x ∧ x ≤ m
theorem LvOk.get {l : List Int} {m : Int} (h : LvOk l m) (hm : 0 ≤ m) (i : Nat) : 0 ≤ l.getD i 0 ∧ l.getD i 0 ≤ m := by
  rw [List.getD_eq_getElem?_getD]
  rcases Nat.lt_or_ge i l.length with hi | hi
  · rw [List.getElem?_eq_getElem hi]; exact h _ (List.getElem_mem _)
  · rw [List.getElem?_eq_none hi]; exact ⟨Int.le_refl _, hm⟩
theorem LvOk.step {l : List Int} {m : Int} (h : LvOk l m) (hm : 0 ≤ m) (g : Int × Int) : LvOk (lvStep l g) (m + 1) := by
  intro x hx
  rcases List.mem_append.1 hx with hx | hx
  · have := h x hx; omega
  · have h1 := h.get hm (g.1 / 2).toNat
    have h2 := h.get hm (g.2 / 2).toNat
    have e := List.mem_singleton.1 hx
    omega
theorem foldl_lv_ok (gs : List (Int × Int)) : ∀ l (m : Int), 0 ≤ m → LvOk l m → LvOk (gs.foldl lvStep l) (m + gs.length) := by
  induction gs with
  | nil => intro l m _ h; simpa using h
  | cons g gs ih =>
    intro l m hm h
    have := ih (lvStep l g) (m + 1) (by omega) (h.step hm g)
    have e : m + 1 + (gs.length : Int) = m + ((g :: gs).length : Int) := by simp; omega
    rw [e] at this
    exact this
theorem lvls_ok (f : Nat) (gs : List (Int × Int)) : LvOk (lvls f gs) gs.length := by
  have := foldl_lv_ok gs (List.replicate f 0) 0 (Int.le_refl _) (by intro x hx; have := List.eq_of_mem_replicate hx; omega)
  unfold lvls
  simpa using this
/-- The greatest level of the literals' variables. -/
def topOf (l xs : List Int) : Int := xs.foldl (fun m x => max m (l.getD (x / 2).toNat 0)) 0
theorem topOf_snoc (l xs : List Int) (x : Int) : topOf l (xs ++ [x]) = max (topOf l xs) (l.getD (x / 2).toNat 0) := by
  unfold topOf; rw [List.foldl_append]; rfl
theorem foldl_top (l xs : List Int) : ∀ i : Int, 0 ≤ i → xs.foldl (fun m x => max m (l.getD (x / 2).toNat 0)) i = max i (topOf l xs) := by
  induction xs with
  | nil => intro i hi; simp only [topOf, List.foldl_nil]; omega
  | cons x xs ih =>
    intro i hi
    have e : topOf l (x :: xs) = xs.foldl (fun m x => max m (l.getD (x / 2).toNat 0)) (max 0 (l.getD (x / 2).toNat 0)) := rfl
    rw [e, List.foldl_cons, ih _ (by omega), ih _ (by omega)]
    omega
theorem topOf_nonneg (l xs : List Int) : 0 ≤ topOf l xs := by
  have := foldl_top l xs 0 (Int.le_refl _)
  have e : xs.foldl (fun m x => max m (l.getD (x / 2).toNat 0)) 0 = topOf l xs := rfl
  omega
theorem topOf_append (l a b : List Int) : topOf l (a ++ b) = max (topOf l a) (topOf l b) := by
  have e : topOf l (a ++ b) = b.foldl (fun m x => max m (l.getD (x / 2).toNat 0)) (topOf l a) := by unfold topOf; rw [List.foldl_append]
  rw [e, foldl_top l b _ (topOf_nonneg l a)]
theorem topOf_comm (l a b : List Int) : topOf l (a ++ b) = topOf l (b ++ a) := by
  rw [topOf_append, topOf_append]; omega
theorem topOf_le {l : List Int} {m : Int} (h : LvOk l m) (hm : 0 ≤ m) (xs : List Int) : topOf l xs ≤ m := by
  induction xs with
  | nil => exact hm
  | cons x xs ih =>
    have e : topOf l (x :: xs) = topOf l ([x] ++ xs) := rfl
    rw [e, topOf_append]
    have : topOf l [x] = max 0 (l.getD (x / 2).toNat 0) := rfl
    have := (h.get hm (x / 2).toNat).2
    omega
theorem topOf_half {l : List Int} (xs ys : List Int) (h : xs.map (· / 2) = ys.map (· / 2)) : topOf l xs = topOf l ys := by
  have e : ∀ zs : List Int, topOf l zs = (zs.map (· / 2)).foldl (fun m x => max m (l.getD x.toNat 0)) 0 := by
    intro zs; unfold topOf; rw [List.foldl_map]
  rw [e, e, h]
/-- The other literal of a variable. -/
def cpl (x : Int) : Int := bits .xor .i64 x 1
theorem cpl_eq (x : Int) (h0 : 0 ≤ x) (h1 : x < 2 ^ 61) : cpl x / 2 = x / 2 ∧ 0 ≤ cpl x := by
  obtain ⟨n, rfl⟩ := Int.eq_ofNat_of_zero_le h0
  have e : cpl (n : Int) = ((n ^^^ 1 : Nat) : Int) := xor64 n 1 (by omega) (by omega)
  have h := Nat.xor_div_two (a := n) (b := 1)
  simp at h
  rw [e]
  omega
theorem litB_cpl (x n : Int) (h0 : 0 ≤ x) (h1 : x < 2 ^ 61) : litB (cpl x) n = litB x n := by
  have := cpl_eq x h0 h1
  unfold litB
  have e1 : decide (0 ≤ cpl x) = decide (0 ≤ x) := by simp only [decide_eq_decide]; omega
  have e2 : decide (cpl x < 2 * n) = decide (x < 2 * n) := by simp only [decide_eq_decide]; omega
  rw [e1, e2]
noncomputable def depthOf (c : Circ) : Int := if validB c then topOf (lvls c.first.toNat c.gates) (c.next ++ c.outs) else -1
/-- One round of the program's loop over the levels. -/
theorem lvls_set (f n k : Nat) (gs : List (Int × Int)) (g : Int × Int) (hk : gs.length = k) (hn : k < n) (h1 : (g.1 / 2).toNat < f + k) (h2 : (g.2 / 2).toNat < f + k) :
    (lvls f gs ++ List.replicate (n - k) 0).set (f + k) (1 + max ((lvls f gs ++ List.replicate (n - k) 0).getD (g.1 / 2).toNat 0) ((lvls f gs ++ List.replicate (n - k) 0).getD (g.2 / 2).toNat 0)) = lvls f (gs ++ [g]) ++ List.replicate (n - (k + 1)) 0 := by
  have hl : (lvls f gs).length = f + k := by rw [lvls_length, hk]
  have e1 : ∀ i, i < f + k → (lvls f gs ++ List.replicate (n - k) 0).getD i 0 = (lvls f gs).getD i 0 := by
    intro i hi
    rw [List.getD_eq_getElem?_getD, List.getD_eq_getElem?_getD, List.getElem?_append_left (by omega)]
  rw [e1 _ h1, e1 _ h2, lvls_snoc, List.set_append_right _ _ (by omega), hl]
  obtain ⟨m, hm⟩ : ∃ m, n - k = m + 1 := ⟨n - k - 1, by omega⟩
  have hm2 : n - (k + 1) = m := by omega
  rw [hm, hm2]
  simp [lvStep, List.replicate_succ]
end Go.Proofs.Ytgialedmbmfejaa
