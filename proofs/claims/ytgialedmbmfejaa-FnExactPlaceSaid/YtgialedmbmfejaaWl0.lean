/- Plain: wire lengths and placements. -/
import Derived.Test.YtgialedmbmfejaaArr0
import Derived.Test.YtgialedmbmfejaaPvI
import Derived.Test.YtgialedmbmfejaaBSnk
import Derived.Test.YtgialedmbmfejaaBCel
namespace Go.Proofs.Ytgialedmbmfejaa
set_option linter.unusedVariables false
set_option linter.unusedSimpArgs false
def minF (f : Int → Int) (a : Int) (xs : List Int) : Int := xs.foldl (fun r t => min r (f t)) a
def maxF (f : Int → Int) (a : Int) (xs : List Int) : Int := xs.foldl (fun r t => max r (f t)) a
theorem minF_snoc (f : Int → Int) (a : Int) (xs : List Int) (x : Int) : minF f a (xs ++ [x]) = min (minF f a xs) (f x) := by unfold minF; rw [List.foldl_append]; rfl
theorem maxF_snoc (f : Int → Int) (a : Int) (xs : List Int) (x : Int) : maxF f a (xs ++ [x]) = max (maxF f a xs) (f x) := by unfold maxF; rw [List.foldl_append]; rfl
theorem minF_le (f : Int → Int) (xs : List Int) : ∀ a, minF f a xs ≤ a ∧ ∀ t ∈ xs, minF f a xs ≤ f t := by
  induction xs with
  | nil => intro a; exact ⟨Int.le_refl _, fun t h => by simp at h⟩
  | cons x xs ih =>
    intro a
    have e : minF f a (x :: xs) = minF f (min a (f x)) xs := rfl
    rw [e]
    obtain ⟨h1, h2⟩ := ih (min a (f x))
    refine ⟨by omega, fun t ht => ?_⟩
    rcases List.mem_cons.1 ht with rfl | h
    · omega
    · exact h2 t h
theorem minF_ge (f : Int → Int) (m : Int) (xs : List Int) : ∀ a, m ≤ a → (∀ t ∈ xs, m ≤ f t) → m ≤ minF f a xs := by
  induction xs with
  | nil => intro a h _; exact h
  | cons x xs ih =>
    intro a h hx
    have e : minF f a (x :: xs) = minF f (min a (f x)) xs := rfl
    rw [e]
    have := hx x (by simp)
    exact ih _ (by omega) (fun t ht => hx t (List.mem_cons_of_mem _ ht))
theorem maxF_ge (f : Int → Int) (xs : List Int) : ∀ a, a ≤ maxF f a xs ∧ ∀ t ∈ xs, f t ≤ maxF f a xs := by
  induction xs with
  | nil => intro a; exact ⟨Int.le_refl _, fun t h => by simp at h⟩
  | cons x xs ih =>
    intro a
    have e : maxF f a (x :: xs) = maxF f (max a (f x)) xs := rfl
    rw [e]
    obtain ⟨h1, h2⟩ := ih (max a (f x))
    refine ⟨by omega, fun t ht => ?_⟩
    rcases List.mem_cons.1 ht with rfl | h
    · omega
    · exact h2 t h
theorem maxF_le (f : Int → Int) (m : Int) (xs : List Int) : ∀ a, a ≤ m → (∀ t ∈ xs, f t ≤ m) → maxF f a xs ≤ m := by
  induction xs with
  | nil => intro a h _; exact h
  | cons x xs ih =>
    intro a h hx
    have e : maxF f a (x :: xs) = maxF f (max a (f x)) xs := rfl
    rw [e]
    have := hx x (by simp)
    exact ih _ (by omega) (fun t ht => hx t (List.mem_cons_of_mem _ ht))
theorem minF_same {f : Int → Int} {a : Int} {xs ys : List Int} (h : ∀ t, t ∈ xs ↔ t ∈ ys) : minF f a xs = minF f a ys := by
  obtain ⟨h1, h2⟩ := minF_le f xs a
  obtain ⟨h3, h4⟩ := minF_le f ys a
  exact Int.le_antisymm (minF_ge f _ ys a h1 (fun t ht => h2 t ((h t).2 ht))) (minF_ge f _ xs a h3 (fun t ht => h4 t ((h t).1 ht)))
theorem maxF_same {f : Int → Int} {a : Int} {xs ys : List Int} (h : ∀ t, t ∈ xs ↔ t ∈ ys) : maxF f a xs = maxF f a ys := by
  obtain ⟨h1, h2⟩ := maxF_ge f xs a
  obtain ⟨h3, h4⟩ := maxF_ge f ys a
  exact Int.le_antisymm (maxF_le f _ xs a h3 (fun t ht => h4 t ((h t).1 ht))) (maxF_le f _ ys a h1 (fun t ht => h2 t ((h t).2 ht)))
/-- The perimeter's half of the box around tiles. -/
def boxN (ts : List Int) : Int := maxF (· / 5) 0 ts - minF (· / 5) 5 ts + maxF (· % 5) 0 ts - minF (· % 5) 5 ts
def distV (ts : List Int) : Int := if ts = [] then 0 else boxN ts
def InF (ts : List Int) : Prop := ∀ t ∈ ts, 0 ≤ t ∧ t < 25
theorem boxN_same {xs ys : List Int} (h : ∀ t, t ∈ xs ↔ t ∈ ys) : boxN xs = boxN ys := by unfold boxN; rw [minF_same h, minF_same h, maxF_same h, maxF_same h]
theorem boxN_bound {ts : List Int} (h : InF ts) (hne : ts ≠ []) : 0 ≤ boxN ts ∧ boxN ts ≤ 8 := by
  obtain ⟨t, ht⟩ := List.exists_mem_of_ne_nil ts hne
  have h0 := h t ht
  have a1 := (minF_le (· / 5) ts 5).2 t ht
  have a2 := (maxF_ge (· / 5) ts 0).2 t ht
  have a3 := (minF_le (· % 5) ts 5).2 t ht
  have a4 := (maxF_ge (· % 5) ts 0).2 t ht
  have b1 := minF_ge (· / 5) 0 ts 5 (by omega) (fun t ht => by have := h t ht; show 0 ≤ t / 5; omega)
  have b2 := maxF_le (· / 5) 4 ts 0 (by omega) (fun t ht => by have := h t ht; show t / 5 ≤ 4; omega)
  have b3 := minF_ge (· % 5) 0 ts 5 (by omega) (fun t ht => by have := h t ht; show 0 ≤ t % 5; omega)
  have b4 := maxF_le (· % 5) 4 ts 0 (by omega) (fun t ht => by have := h t ht; show t % 5 ≤ 4; omega)
  unfold boxN
  omega
theorem distV_bound {ts : List Int} (h : InF ts) : 0 ≤ distV ts ∧ distV ts ≤ 8 := by
  unfold distV
  split
  · omega
  · exact boxN_bound h (by assumption)
/-! ### The tiles of a net -/
def padL (c : Circ) (net : Int) (k : Nat) : List Int := ((List.range k).filter (fun o => c.outs.getD o 0 / 2 == net)).map (fun (o : Nat) => (o : Int) * 5 + 4)
theorem padL_succ (c : Circ) (net : Int) (k : Nat) : padL c net (k + 1) = padL c net k ++ if c.outs.getD k 0 / 2 == net then [(k : Int) * 5 + 4] else [] := by
  unfold padL
  rw [List.range_succ, List.filter_append, List.map_append]
  congr 1
  rw [List.filter_cons, List.filter_nil]
  cases h : (c.outs.getD k 0 / 2 == net) <;> rfl
def sinkT (place : List Int) (xs : List Int) : List Int := xs.map (fun i => place.getD i.toNat 0)
theorem sinkT_snoc (place xs : List Int) (x : Int) : sinkT place (xs ++ [x]) = sinkT place xs ++ [place.getD x.toNat 0] := by unfold sinkT; rw [List.map_append]; rfl
def useV (c : Circ) (cs : List CellT) (place : List Int) (net : Int) : List Int := sinkT place (sinkL cs net cs.length) ++ padL c net c.outs.length
def cellT (cs : List CellT) (place : List Int) (net : Int) (k : Nat) : List Int := ((List.range k).filter (fun i => (cs.getD i cell0).net == net)).map (fun (i : Nat) => place.getD i 0)
theorem cellT_succ (cs : List CellT) (place : List Int) (net : Int) (k : Nat) : cellT cs place net (k + 1) = cellT cs place net k ++ if (cs.getD k cell0).net == net then [place.getD k 0] else [] := by
  unfold cellT
  rw [List.range_succ, List.filter_append, List.map_append]
  congr 1
  rw [List.filter_cons, List.filter_nil]
  cases h : ((cs.getD k cell0).net == net) <;> rfl
def srcV (c : Circ) (cs : List CellT) (place : List Int) (net : Int) : List Int := (if 1 ≤ net ∧ net ≤ c.inputs then [(net - 1) * 5] else []) ++ cellT cs place net cs.length
def onto (out xs : List Int) : List Int := xs.foldl (fun o x => if o.contains x then o else o ++ [x]) out
theorem onto_snoc (out xs : List Int) (x : Int) : onto out (xs ++ [x]) = if (onto out xs).contains x then onto out xs else onto out xs ++ [x] := by unfold onto; rw [List.foldl_append]; rfl
theorem mem_onto (xs : List Int) : ∀ (out : List Int) (t : Int), t ∈ onto out xs ↔ t ∈ out ∨ t ∈ xs := by
  induction xs with
  | nil => intro out t; simp [onto]
  | cons x xs ih =>
    intro out t
    have e : onto out (x :: xs) = onto (if out.contains x then out else out ++ [x]) xs := rfl
    rw [e, ih, List.mem_cons]
    by_cases h : out.contains x = true
    · rw [if_pos h]
      rw [List.contains_iff_mem] at h
      constructor
      · rintro (h1 | h1)
        · exact .inl h1
        · exact .inr (.inr h1)
      · rintro (h1 | rfl | h1)
        · exact .inl h1
        · exact .inl h
        · exact .inr h1
    · rw [if_neg h, List.mem_append, List.mem_singleton]
      constructor
      · rintro ((h1 | h1) | h1)
        · exact .inl h1
        · exact .inr (.inl h1)
        · exact .inr (.inr h1)
      · rintro (h1 | h1 | h1)
        · exact .inl (.inl h1)
        · exact .inl (.inr h1)
        · exact .inr h1
theorem onto_len (xs : List Int) : ∀ out : List Int, (onto out xs).length ≤ out.length + xs.length := by
  induction xs with
  | nil => intro out; simp [onto]
  | cons x xs ih =>
    intro out
    have e : onto out (x :: xs) = onto (if out.contains x then out else out ++ [x]) xs := rfl
    rw [e]
    refine Nat.le_trans (ih _) ?_
    split <;> simp <;> omega
/-- The reference's pins: nothing where nothing uses the net. -/
def pinsV (c : Circ) (cs : List CellT) (place : List Int) (net : Int) : List Int := if useV c cs place net = [] then [] else onto (srcV c cs place net) (useV c cs place net)
def netLen (c : Circ) (cs : List CellT) (place : List Int) (net : Int) : Int := distV (pinsV c cs place net)
def costK (c : Circ) (cs : List CellT) (place : List Int) : Nat → Int
  | 0 => 0
  | k + 1 => costK c cs place k + netLen c cs place ((k : Int) + 1)
def costV (c : Circ) (cs : List CellT) (place : List Int) : Int := costK c cs place (c.vars - 1).toNat
noncomputable def wlV (c : Circ) (ps : List Int) : Int := if pvalV c ps then costV c (cellsV c) ps else -1
/-! ### The program's nets -/
structure NetT where
  net : Int
  cell : Int
  tile : Int
  sinks : List Int
  pads : List Int
def net0 : NetT := ⟨0, 0, 0, [], []⟩
/-- The last cell that drives a net, or -1. -/
def lastC (cs : List CellT) (net : Int) : Nat → Int
  | 0 => -1
  | k + 1 => if (cs.getD k cell0).net == net then (k : Int) else lastC cs net k
def netT (c : Circ) (cs : List CellT) (v : Int) : NetT := ⟨v, lastC cs v cs.length, (v - 1) * 5, sinkL cs v cs.length, padL c v c.outs.length⟩
def usedB (n : NetT) : Bool := decide (0 < n.sinks.length + n.pads.length)
def netsK (c : Circ) (cs : List CellT) : Nat → List NetT
  | 0 => []
  | k + 1 => netsK c cs k ++ if usedB (netT c cs ((k : Int) + 1)) then [netT c cs ((k : Int) + 1)] else []
def tilesN (n : NetT) (place : List Int) : List Int := (if 0 ≤ n.cell then place.getD n.cell.toNat 0 else n.tile) :: (sinkT place n.sinks ++ n.pads)
def lenN (n : NetT) (place : List Int) : Int := boxN (tilesN n place)
def sumN (ns : List NetT) (place : List Int) : Int := ns.foldl (fun s n => s + lenN n place) 0
theorem sumN_snoc (ns : List NetT) (place : List Int) (n : NetT) : sumN (ns ++ [n]) place = sumN ns place + lenN n place := by unfold sumN; rw [List.foldl_append]; rfl
theorem lastC_lt (cs : List CellT) (net : Int) (k : Nat) : -1 ≤ lastC cs net k ∧ lastC cs net k < k := by
  induction k with
  | zero => simp [lastC]
  | succ k ih => rw [lastC]; split <;> omega
theorem lastC_some {cs : List CellT} {net : Int} : ∀ {k : Nat}, 0 ≤ lastC cs net k → (cs.getD (lastC cs net k).toNat cell0).net = net
  | 0, h => by simp [lastC] at h
  | k + 1, h => by
    rw [lastC] at h ⊢
    split
    · rename_i e; simpa using e
    · rename_i e; rw [if_neg e] at h; exact lastC_some h
theorem lastC_none {cs : List CellT} {net : Int} : ∀ {k : Nat}, lastC cs net k < 0 → ∀ i, i < k → (cs.getD i cell0).net ≠ net
  | 0, _, i, hi => by omega
  | k + 1, h, i, hi => by
    rw [lastC] at h
    split at h
    · omega
    · rename_i e
      rcases Nat.lt_or_ge i k with h2 | h2
      · exact lastC_none h i h2
      · have : i = k := by omega
        subst this; simpa using e
end Go.Proofs.Ytgialedmbmfejaa
