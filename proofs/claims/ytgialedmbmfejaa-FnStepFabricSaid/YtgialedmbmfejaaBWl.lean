/- Bundle: valid placements, wire lengths and the placer of the reference. -/
import Derived.Test.YtgialedmbmfejaaBSnk
import Derived.Test.YtgialedmbmfejaaBCel
import Derived.Test.YtgialedmbmfejaaSpec1
import Derived.Test.YtgialedmbmfejaaArr0
import Derived.Maps.OwnSet
import Derived.Maps.OwnOps
import Derived.Maps.Views
import Derived.DeepKeys4
import Derived.Shelf.Slices.In.SortNone
import Derived.Lib.OwnBridge
import Derived.Lib.AppendZeros
import Derived.Outline
import Derived.Deep.DeepCutAuto
import Derived.Test.YtgialedmbmfejaaOwn
--@from BCut BBest BLut BCel BSnk
namespace Go.Proofs.Ytgialedmbmfejaa
open Go.RowKit Go.Maps
set_option maxRecDepth 100000
set_option linter.unusedVariables false
set_option linter.unusedSimpArgs false
/-- Every tile is one of the fabric's, and no tile is used twice. -/
def PlOk (ps : List Int) : Prop := (∀ x ∈ ps, 0 ≤ x ∧ x < 25) ∧ ps.Nodup
open Classical in
noncomputable def pvalV (c : Circ) (ps : List Int) : Bool := validB c && decide (ps.length = (cellsV c).length ∧ PlOk ps)
theorem pval_inv {c : Circ} (h : validB c = false) (ps : List Int) : pvalV c ps = false := by unfold pvalV; rw [h]; rfl
theorem pval_len {c : Circ} {ps : List Int} (h : ps.length ≠ (cellsV c).length) : pvalV c ps = false := by
 unfold pvalV
 rw [@decide_eq_false _ (_) (fun h2 => h h2.1), Bool.and_false]
theorem pval_no {c : Circ} {ps : List Int} (h : ¬ PlOk ps) : pvalV c ps = false := by
 unfold pvalV
 rw [@decide_eq_false _ (_) (fun h2 => h h2.2), Bool.and_false]
theorem pval_yes {c : Circ} {ps : List Int} (h0 : validB c = true) (h1 : ps.length = (cellsV c).length) (h : PlOk ps) : pvalV c ps = true := by
 unfold pvalV
 rw [h0, @decide_eq_true _ (_) ⟨h1, h⟩]; rfl
theorem pval_iff {c : Circ} {ps : List Int} : pvalV c ps = true ↔ c.Valid ∧ ps.length = (cellsV c).length ∧ PlOk ps := by
 unfold pvalV
 rw [Bool.and_eq_true, validB_iff, @decide_eq_true_iff _ (_)]
theorem plOk_take_succ {ps : List Int} {k : Nat} (hk : k < ps.length) : PlOk (ps.take (k + 1)) ↔ PlOk (ps.take k) ∧ (0 ≤ ps.getD k 0 ∧ ps.getD k 0 < 25) ∧ ps.getD k 0 ∉ ps.take k := by
 unfold PlOk
 rw [take_snocD ps k 0 hk]
 constructor
 ·rintro ⟨h1, h2⟩
  have h3 := List.nodup_append.1 h2
  exact ⟨⟨fun x hx => h1 x (List.mem_append_left _ hx), h3.1⟩, h1 _ (by simp), fun hm => h3.2.2 _ hm _ (by simp) rfl⟩
 ·rintro ⟨⟨h1, h2⟩, h3, h4⟩
  refine ⟨fun x hx => ?_, List.nodup_append.2 ⟨h2, by simp, fun a ha b hb => ?_⟩⟩
  ·rcases List.mem_append.1 hx with h | h
   ·exact h1 x h
   ·simp at h; rw [h]; exact h3
  ·rw [List.mem_singleton] at hb
   subst hb
   exact fun e => h4 (e ▸ ha)
theorem plOk_take {ps : List Int} (h : PlOk ps) (k : Nat) : PlOk (ps.take k) := ⟨fun x hx => h.1 x (List.mem_of_mem_take hx), h.2.sublist (List.take_sublist _ _)⟩
theorem plOk_no {ps : List Int} {k : Nat} (hk : k < ps.length) (h : ¬ ((0 ≤ ps.getD k 0 ∧ ps.getD k 0 < 25) ∧ ps.getD k 0 ∉ ps.take k)) : ¬ PlOk ps := fun h2 => h ((plOk_take_succ hk).1 (plOk_take h2 (k + 1))).2
end Go.Proofs.Ytgialedmbmfejaa

--@from BCut BBest BLut BCel BSnk
namespace Go.Proofs.Ytgialedmbmfejaa
open Go.RowKit
set_option maxRecDepth 100000
set_option linter.unusedVariables false
set_option linter.unusedSimpArgs false
set_option maxHeartbeats 2000000 in
theorem l7Has_c (a : Option Addr) (cap : Nat) (S : List Int) (v : Int) (n : Nat) (hn : S.length = n) (w : World) (hS : IntsAt w a S) (hl : n ≤ 1000000) :
  Calls Try.prog 101 #[.slice a n cap, .int .i64 v] w fun e w' => e = .returned (.bool (S.contains v)) ∧ Ext w w' := by
 subst hn
 have HM : Hid (∀ j, j < S.length → S.getD j 0 = v → S.contains v = true) := Lib.hid (fun j hj e => by
  have := getN_mem (d := 0) hj
  rw [e] at this
  simpa using this)
 obtain ⟨D, hD⟩ : ∃ D, D = S.contains v := ⟨_, rfl⟩
 rw [← hD] at HM ⊢
 have HD := Lib.hid hD
 clear hD
 go_enter Try.func101, Try.ntmps101
 go_wp2_with fail
 go_loopw [5] (fun u8 wr => ∃ j : Nat, j ≤ S.length ∧ u8 = .int .i64 j ∧ Hid (∀ i, i < j → S.getD i 0 ≠ v) ∧ Ext w wr) (fun u _ => S.length - (intOf u).toNat)
 case atStart => exact ⟨0, Nat.zero_le _, rfl, Lib.hid (fun i hi => absurd hi (Nat.not_lt_zero i)), Ext.refl _⟩
 case round =>
  obtain ⟨j, hj, rfl, HN, hE⟩ := hrel
  by_cases hlt : j < S.length
  ·obtain ⟨b, o, rfl, hb, hc⟩ := (hS.ext hE).get (by omega)
   have q1 := hc j hlt
   have hm : S.getD j 0 = v → D = true := HM.out j hlt
   obtain ⟨z, hz⟩ : ∃ z, z = S.getD j 0 := ⟨_, rfl⟩
   rw [← hz] at q1 hm
   have HZ := Lib.hid hz
   have HMM := Lib.hid hm
   clear hc hz hm
   by_cases he : z = v
   ·have hd := HMM.out he
    subst hd he
    clear HMM
    go_wp2_with fail
    go_ret
    exact ⟨rfl, hE⟩
   ·have he2 : (z == v) = false := by simp [he]
    go_wp2_with fail
    go_roundw
    case rel => exact ⟨j + 1, by omega, by go_num, Lib.hid (fun i hi => by
     rcases Nat.lt_or_ge i j with h | h
     ·exact HN.out i h
     ·have : i = j := by omega
      subst this
      rw [← HZ.out]; exact he), hE⟩
    case measure => simp [intOf]; omega
  ·have hd : D = false := by
    rw [HD.out, Bool.eq_false_iff]
    intro h
    have hm : v ∈ S := by simpa using h
    obtain ⟨i, hi, e⟩ := mem_getN (d := 0) hm
    exact HN.out i (by omega) e
   subst hd
   go_wp2_with fail
   go_ret
   exact ⟨rfl, hE⟩
end Go.Proofs.Ytgialedmbmfejaa

--@from BCut BBest BLut BCel BSnk
namespace Go.Proofs.Ytgialedmbmfejaa
set_option linter.unusedVariables false
set_option linter.unusedSimpArgs false
def minF (f : Int → Int) (a : Int) (xs : List Int) : Int := xs.foldl (fun r t => min r (f t)) a
def maxF (f : Int → Int) (a : Int) (xs : List Int) : Int := xs.foldl (fun r t => max r (f t)) a
theorem minF_snoc (f : Int → Int) (a : Int) (xs : List Int) (x : Int) : minF f a (xs ++ [x]) = min (minF f a xs) (f x) := by unfold minF; rw [List.foldl_append]; rfl
theorem maxF_snoc (f : Int → Int) (a : Int) (xs : List Int) (x : Int) : maxF f a (xs ++ [x]) = max (maxF f a xs) (f x) := by unfold maxF; rw [List.foldl_append]; rfl
theorem minF_le (f : Int → Int) (xs : List Int) : ∀ a, minF f a xs ≤ a ∧ ∀ t ∈ xs, minF f a xs ≤ f t := by
 induction xs with
 | nil => intro a; exact ⟨Int.le_refl _, fun t h => by simp at h⟩
 | cons x xs ih =>
  intro a
  have e : minF f a (x :: xs) = minF f (min a (f x)) xs := rfl
  rw [e]
  obtain ⟨h1, h2⟩ := ih (min a (f x))
  refine ⟨by omega, fun t ht => ?_⟩
  rcases List.mem_cons.1 ht with rfl | h
  ·omega
  ·exact h2 t h
theorem minF_ge (f : Int → Int) (m : Int) (xs : List Int) : ∀ a, m ≤ a → (∀ t ∈ xs, m ≤ f t) → m ≤ minF f a xs := by
 induction xs with
 | nil => intro a h _; exact h
 | cons x xs ih =>
  intro a h hx
  have e : minF f a (x :: xs) = minF f (min a (f x)) xs := rfl
  rw [e]
  have := hx x (by simp)
  exact ih _ (by omega) (fun t ht => hx t (List.mem_cons_of_mem _ ht))
theorem maxF_ge (f : Int → Int) (xs : List Int) : ∀ a, a ≤ maxF f a xs ∧ ∀ t ∈ xs, f t ≤ maxF f a xs := by
 induction xs with
 | nil => intro a; exact ⟨Int.le_refl _, fun t h => by simp at h⟩
 | cons x xs ih =>
  intro a
  have e : maxF f a (x :: xs) = maxF f (max a (f x)) xs := rfl
  rw [e]
  obtain ⟨h1, h2⟩ := ih (max a (f x))
  refine ⟨by omega, fun t ht => ?_⟩
  rcases List.mem_cons.1 ht with rfl | h
  ·omega
  ·exact h2 t h
theorem maxF_le (f : Int → Int) (m : Int) (xs : List Int) : ∀ a, a ≤ m → (∀ t ∈ xs, f t ≤ m) → maxF f a xs ≤ m := by
 induction xs with
 | nil => intro a h _; exact h
 | cons x xs ih =>
  intro a h hx
  have e : maxF f a (x :: xs) = maxF f (max a (f x)) xs := rfl
  rw [e]
  have := hx x (by simp)
  exact ih _ (by omega) (fun t ht => hx t (List.mem_cons_of_mem _ ht))
theorem minF_same {f : Int → Int} {a : Int} {xs ys : List Int} (h : ∀ t, t ∈ xs ↔ t ∈ ys) : minF f a xs = minF f a ys := by
 obtain ⟨h1, h2⟩ := minF_le f xs a
 obtain ⟨h3, h4⟩ := minF_le f ys a
 exact Int.le_antisymm (minF_ge f _ ys a h1 (fun t ht => h2 t ((h t).2 ht))) (minF_ge f _ xs a h3 (fun t ht => h4 t ((h t).1 ht)))
theorem maxF_same {f : Int → Int} {a : Int} {xs ys : List Int} (h : ∀ t, t ∈ xs ↔ t ∈ ys) : maxF f a xs = maxF f a ys := by
 obtain ⟨h1, h2⟩ := maxF_ge f xs a
 obtain ⟨h3, h4⟩ := maxF_ge f ys a
 exact Int.le_antisymm (maxF_le f _ xs a h3 (fun t ht => h4 t ((h t).1 ht))) (maxF_le f _ ys a h1 (fun t ht => h2 t ((h t).2 ht)))
/-- The perimeter's half of the box around tiles. -/
def boxN (ts : List Int) : Int := maxF (· / 5) 0 ts - minF (· / 5) 5 ts + maxF (· % 5) 0 ts - minF (· % 5) 5 ts
def distV (ts : List Int) : Int := if ts = [] then 0 else boxN ts
def InF (ts : List Int) : Prop := ∀ t ∈ ts, 0 ≤ t ∧ t < 25
theorem boxN_same {xs ys : List Int} (h : ∀ t, t ∈ xs ↔ t ∈ ys) : boxN xs = boxN ys := by unfold boxN; rw [minF_same h, minF_same h, maxF_same h, maxF_same h]
theorem boxN_bound {ts : List Int} (h : InF ts) (hne : ts ≠ []) : 0 ≤ boxN ts ∧ boxN ts ≤ 8 := by
 obtain ⟨t, ht⟩ := List.exists_mem_of_ne_nil ts hne
 have h0 := h t ht
 have a1 := (minF_le (· / 5) ts 5).2 t ht
 have a2 := (maxF_ge (· / 5) ts 0).2 t ht
 have a3 := (minF_le (· % 5) ts 5).2 t ht
 have a4 := (maxF_ge (· % 5) ts 0).2 t ht
 have b1 := minF_ge (· / 5) 0 ts 5 (by omega) (fun t ht => by have := h t ht; show 0 ≤ t / 5; omega)
 have b2 := maxF_le (· / 5) 4 ts 0 (by omega) (fun t ht => by have := h t ht; show t / 5 ≤ 4; omega)
 have b3 := minF_ge (· % 5) 0 ts 5 (by omega) (fun t ht => by have := h t ht; show 0 ≤ t % 5; omega)
 have b4 := maxF_le (· % 5) 4 ts 0 (by omega) (fun t ht => by have := h t ht; show t % 5 ≤ 4; omega)
 unfold boxN
 omega
theorem distV_bound {ts : List Int} (h : InF ts) : 0 ≤ distV ts ∧ distV ts ≤ 8 := by
 unfold distV
 split
 ·omega
 ·exact boxN_bound h (by assumption)
/-! ### The tiles of a net -/
def padL (c : Circ) (net : Int) (k : Nat) : List Int := ((List.range k).filter (fun o => c.outs.getD o 0 / 2 == net)).map (fun (o : Nat) => (o : Int) * 5 + 4)
theorem padL_succ (c : Circ) (net : Int) (k : Nat) : padL c net (k + 1) = padL c net k ++ if c.outs.getD k 0 / 2 == net then [(k : Int) * 5 + 4] else [] := by
 unfold padL
 rw [List.range_succ, List.filter_append, List.map_append]
 congr 1
 rw [List.filter_cons, List.filter_nil]
 cases h : (c.outs.getD k 0 / 2 == net) <;> rfl
def sinkT (place : List Int) (xs : List Int) : List Int := xs.map (fun i => place.getD i.toNat 0)
theorem sinkT_snoc (place xs : List Int) (x : Int) : sinkT place (xs ++ [x]) = sinkT place xs ++ [place.getD x.toNat 0] := by unfold sinkT; rw [List.map_append]; rfl
def useV (c : Circ) (cs : List CellT) (place : List Int) (net : Int) : List Int := sinkT place (sinkL cs net cs.length) ++ padL c net c.outs.length
def cellT (cs : List CellT) (place : List Int) (net : Int) (k : Nat) : List Int := ((List.range k).filter (fun i => (cs.getD i cell0).net == net)).map (fun (i : Nat) => place.getD i 0)
theorem cellT_succ (cs : List CellT) (place : List Int) (net : Int) (k : Nat) : cellT cs place net (k + 1) = cellT cs place net k ++ if (cs.getD k cell0).net == net then [place.getD k 0] else [] := by
 unfold cellT
 rw [List.range_succ, List.filter_append, List.map_append]
 congr 1
 rw [List.filter_cons, List.filter_nil]
 cases h : ((cs.getD k cell0).net == net) <;> rfl
def srcV (c : Circ) (cs : List CellT) (place : List Int) (net : Int) : List Int := (if 1 ≤ net ∧ net ≤ c.inputs then [(net - 1) * 5] else []) ++ cellT cs place net cs.length
def onto (out xs : List Int) : List Int := xs.foldl (fun o x => if o.contains x then o else o ++ [x]) out
theorem onto_snoc (out xs : List Int) (x : Int) : onto out (xs ++ [x]) = if (onto out xs).contains x then onto out xs else onto out xs ++ [x] := by unfold onto; rw [List.foldl_append]; rfl
theorem mem_onto (xs : List Int) : ∀ (out : List Int) (t : Int), t ∈ onto out xs ↔ t ∈ out ∨ t ∈ xs := by
 induction xs with
 | nil => intro out t; simp [onto]
 | cons x xs ih =>
  intro out t
  have e : onto out (x :: xs) = onto (if out.contains x then out else out ++ [x]) xs := rfl
  rw [e, ih, List.mem_cons]
  by_cases h : out.contains x = true
  ·rw [if_pos h]
   rw [List.contains_iff_mem] at h
   constructor
   ·rintro (h1 | h1)
    ·exact .inl h1
    ·exact .inr (.inr h1)
   ·rintro (h1 | rfl | h1)
    ·exact .inl h1
    ·exact .inl h
    ·exact .inr h1
  ·rw [if_neg h, List.mem_append, List.mem_singleton]
   constructor
   ·rintro ((h1 | h1) | h1)
    ·exact .inl h1
    ·exact .inr (.inl h1)
    ·exact .inr (.inr h1)
   ·rintro (h1 | h1 | h1)
    ·exact .inl (.inl h1)
    ·exact .inl (.inr h1)
    ·exact .inr h1
theorem onto_len (xs : List Int) : ∀ out : List Int, (onto out xs).length ≤ out.length + xs.length := by
 induction xs with
 | nil => intro out; simp [onto]
 | cons x xs ih =>
  intro out
  have e : onto out (x :: xs) = onto (if out.contains x then out else out ++ [x]) xs := rfl
  rw [e]
  refine Nat.le_trans (ih _) ?_
  split <;> simp <;> omega
/-- The reference's pins: nothing where nothing uses the net. -/
def pinsV (c : Circ) (cs : List CellT) (place : List Int) (net : Int) : List Int := if useV c cs place net = [] then [] else onto (srcV c cs place net) (useV c cs place net)
def netLen (c : Circ) (cs : List CellT) (place : List Int) (net : Int) : Int := distV (pinsV c cs place net)
def costK (c : Circ) (cs : List CellT) (place : List Int) : Nat → Int
 | 0 => 0
 | k + 1 => costK c cs place k + netLen c cs place ((k : Int) + 1)
def costV (c : Circ) (cs : List CellT) (place : List Int) : Int := costK c cs place (c.vars - 1).toNat
noncomputable def wlV (c : Circ) (ps : List Int) : Int := if pvalV c ps then costV c (cellsV c) ps else -1
/-! ### The program's nets -/
structure NetT where
 net : Int
 cell : Int
 tile : Int
 sinks : List Int
 pads : List Int
def net0 : NetT := ⟨0, 0, 0, [], []⟩
/-- The last cell that drives a net, or -1. -/
def lastC (cs : List CellT) (net : Int) : Nat → Int
 | 0 => -1
 | k + 1 => if (cs.getD k cell0).net == net then (k : Int) else lastC cs net k
def netT (c : Circ) (cs : List CellT) (v : Int) : NetT := ⟨v, lastC cs v cs.length, (v - 1) * 5, sinkL cs v cs.length, padL c v c.outs.length⟩
def usedB (n : NetT) : Bool := decide (0 < n.sinks.length + n.pads.length)
def netsK (c : Circ) (cs : List CellT) : Nat → List NetT
 | 0 => []
 | k + 1 => netsK c cs k ++ if usedB (netT c cs ((k : Int) + 1)) then [netT c cs ((k : Int) + 1)] else []
def tilesN (n : NetT) (place : List Int) : List Int := (if 0 ≤ n.cell then place.getD n.cell.toNat 0 else n.tile) :: (sinkT place n.sinks ++ n.pads)
def lenN (n : NetT) (place : List Int) : Int := boxN (tilesN n place)
def sumN (ns : List NetT) (place : List Int) : Int := ns.foldl (fun s n => s + lenN n place) 0
theorem sumN_snoc (ns : List NetT) (place : List Int) (n : NetT) : sumN (ns ++ [n]) place = sumN ns place + lenN n place := by unfold sumN; rw [List.foldl_append]; rfl
theorem lastC_lt (cs : List CellT) (net : Int) (k : Nat) : -1 ≤ lastC cs net k ∧ lastC cs net k < k := by
 induction k with
 | zero => simp [lastC]
 | succ k ih => rw [lastC]; split <;> omega
theorem lastC_some {cs : List CellT} {net : Int} : ∀ {k : Nat}, 0 ≤ lastC cs net k → (cs.getD (lastC cs net k).toNat cell0).net = net
 | 0, h => by simp [lastC] at h
 | k + 1, h => by
  rw [lastC] at h ⊢
  split
  ·rename_i e; simpa using e
  ·rename_i e; rw [if_neg e] at h; exact lastC_some h
theorem lastC_none {cs : List CellT} {net : Int} : ∀ {k : Nat}, lastC cs net k < 0 → ∀ i, i < k → (cs.getD i cell0).net ≠ net
 | 0, _, i, hi => by omega
 | k + 1, h, i, hi => by
  rw [lastC] at h
  split at h
  ·omega
  ·rename_i e
   rcases Nat.lt_or_ge i k with h2 | h2
   ·exact lastC_none h i h2
   ·have : i = k := by omega
    subst this; simpa using e
end Go.Proofs.Ytgialedmbmfejaa

--@from BCut BBest BLut BCel BSnk
namespace Go.Proofs.Ytgialedmbmfejaa
set_option linter.unusedVariables false
set_option linter.unusedSimpArgs false
theorem mem_cellT {cs : List CellT} {place : List Int} {net t : Int} {k : Nat} : t ∈ cellT cs place net k ↔ ∃ i, i < k ∧ (cs.getD i cell0).net = net ∧ place.getD i 0 = t := by
 unfold cellT
 rw [List.mem_map]
 constructor
 ·rintro ⟨i, hi, e⟩
  obtain ⟨h1, h2⟩ := List.mem_filter.1 hi
  exact ⟨i, List.mem_range.1 h1, by simpa using h2, e⟩
 ·rintro ⟨i, h1, h2, e⟩
  exact ⟨i, List.mem_filter.2 ⟨List.mem_range.2 h1, by simpa using h2⟩, e⟩
theorem mem_padL {c : Circ} {net t : Int} {k : Nat} : t ∈ padL c net k ↔ ∃ o : Nat, o < k ∧ c.outs.getD o 0 / 2 = net ∧ (o : Int) * 5 + 4 = t := by
 unfold padL
 rw [List.mem_map]
 constructor
 ·rintro ⟨i, hi, e⟩
  obtain ⟨h1, h2⟩ := List.mem_filter.1 hi
  exact ⟨i, List.mem_range.1 h1, by simpa using h2, e⟩
 ·rintro ⟨i, h1, h2, e⟩
  exact ⟨i, List.mem_filter.2 ⟨List.mem_range.2 h1, by simpa using h2⟩, e⟩
theorem mem_sinkL {cs : List CellT} {net x : Int} {k : Nat} : x ∈ sinkL cs net k ↔ ∃ i : Nat, i < k ∧ net ∈ (cs.getD i cell0).ins ∧ (i : Int) = x := by
 unfold sinkL
 rw [List.mem_map]
 constructor
 ·rintro ⟨i, hi, e⟩
  obtain ⟨h1, h2⟩ := List.mem_filter.1 hi
  exact ⟨i, List.mem_range.1 h1, by simpa using h2, e⟩
 ·rintro ⟨i, h1, h2, e⟩
  exact ⟨i, List.mem_filter.2 ⟨List.mem_range.2 h1, by simpa using h2⟩, e⟩
theorem latchCell_net (c : Circ) (i : Nat) : (latchCell c i).net = 1 + c.inputs + i := by unfold latchCell; split <;> rfl
/-- The nets that cells drive lie behind the inputs, and none is driven twice. -/
theorem cells_drive {c : Circ} (V : c.Valid) : (∀ x ∈ cellsN c, c.inputs < x.net ∧ x.net < c.vars) ∧ Asc ((cellsN c).map CellT.net) ∧ ∀ v, c.inputs < v → v < c.first ∨ (v ∈ (lutN c).map LutT.var) → ∃ x ∈ cellsN c, x.net = v := by
 have K := lutList V
 have i0 := V.i0
 have hf : c.first = 1 + c.inputs + c.next.length := rfl
 have hvv : c.vars = c.first + c.gates.length := rfl
 refine ⟨fun x hx => ?_, ?_, fun v hv h => ?_⟩
 ·rcases List.mem_append.1 hx with h | h
  ·obtain ⟨i, hi, rfl⟩ := List.mem_map.1 h
   have := List.mem_range.1 hi
   rw [latchCell_net]; omega
  ·obtain ⟨y, hy, rfl⟩ := List.mem_map.1 h
   obtain ⟨k, hk, e1, _⟩ := K.el y hy
   show c.inputs < y.var ∧ y.var < c.vars
   omega
 ·unfold cellsN Asc
  rw [List.map_append, List.pairwise_append]
  refine ⟨?_, ?_, ?_⟩
  ·unfold latchK
   rw [List.map_map]
   refine List.Pairwise.map _ (fun a b h => ?_) (List.pairwise_lt_range (n := c.next.length))
   show (latchCell c a).net < (latchCell c b).net
   rw [latchCell_net, latchCell_net]; omega
  ·rw [List.map_map]
   exact K.asc
  ·intro a ha b hb
   obtain ⟨x, hx, rfl⟩ := List.mem_map.1 ha
   obtain ⟨y, hy, rfl⟩ := List.mem_map.1 hb
   obtain ⟨i, hi, rfl⟩ := List.mem_map.1 hx
   obtain ⟨z, hz, rfl⟩ := List.mem_map.1 hy
   have hi2 := List.mem_range.1 hi
   obtain ⟨k, hk, e1, _⟩ := K.el z hz
   show (latchCell c i).net < z.var
   rw [latchCell_net, e1]
   omega
 ·rcases h with h | h
  ·refine ⟨latchCell c (v - 1 - c.inputs).toNat, List.mem_append_left _ (List.mem_map.2 ⟨_, List.mem_range.2 (by omega), rfl⟩), ?_⟩
   rw [latchCell_net]; omega
  ·obtain ⟨y, hy, rfl⟩ := List.mem_map.1 h
   exact ⟨lutCell y, List.mem_append_right _ (List.mem_map.2 ⟨y, hy, rfl⟩), rfl⟩
/-- A net that is used is an input or driven by a cell. -/
theorem used_driven {c : Circ} (V : c.Valid) {v : Int} (h1 : 1 ≤ v) (hi : c.inputs < v) (hu : usedB (netT c (cellsN c) v) = true) : ∃ i, i < (cellsN c).length ∧ ((cellsN c).getD i cell0).net = v := by
 have K := lutList V
 obtain ⟨_, _, hd⟩ := cells_drive V
 have key : ∃ x ∈ cellsN c, x.net = v := by
  refine hd v hi ?_
  by_cases hvf : v < c.first
  ·exact .inl hvf
  ·right
   unfold usedB netT at hu
   dsimp only at hu
   have hu2 : 0 < (sinkL (cellsN c) v (cellsN c).length).length + (padL c v c.outs.length).length := by simpa using hu
   by_cases hp : 0 < (padL c v c.outs.length).length
   ·obtain ⟨t, ht⟩ := List.exists_mem_of_length_pos hp
    obtain ⟨o, ho, e, _⟩ := mem_padL.1 ht
    have hm := getN_mem (d := (0 : Int)) ho
    rw [← e]
    exact K.root _ (List.mem_append_right _ hm) (by omega)
   ·obtain ⟨t, ht⟩ := List.exists_mem_of_length_pos (show 0 < (sinkL (cellsN c) v (cellsN c).length).length by omega)
    obtain ⟨i, hi2, hm, _⟩ := mem_sinkL.1 ht
    have hx := getN_mem (d := cell0) hi2
    rcases List.mem_append.1 hx with h | h
    ·obtain ⟨j, hj, e⟩ := List.mem_map.1 h
     have hj2 := List.mem_range.1 hj
     rw [← e] at hm
     unfold latchCell at hm
     split at hm
     ·have hz : v = c.next.getD j 0 / 2 := List.mem_singleton.1 hm
      rw [hz]
      exact K.root _ (List.mem_append_left _ (getN_mem (d := (0 : Int)) hj2)) (by omega)
     ·simp at hm
    ·obtain ⟨y, hy, e⟩ := List.mem_map.1 h
     rw [← e] at hm
     exact (K.leaf y hy v hm).2.2 (by omega)
 obtain ⟨x, hx, e⟩ := key
 obtain ⟨i, hi2, e2⟩ := mem_getN (d := cell0) hx
 exact ⟨i, hi2, by rw [e2, e]⟩
theorem net_uniq {c : Circ} (V : c.Valid) {i j : Nat} (hi : i < (cellsN c).length) (hj : j < (cellsN c).length) (e : ((cellsN c).getD i cell0).net = ((cellsN c).getD j cell0).net) : i = j := by
 have hA := (cells_drive V).2.1
 have g : ∀ (a b : Nat), a < b → b < (cellsN c).length → ((cellsN c).getD a cell0).net < ((cellsN c).getD b cell0).net := by
  intro a b hab hb
  have := List.pairwise_iff_getElem.1 hA a b (by rw [List.length_map]; omega) (by rw [List.length_map]; omega) hab
  rw [List.getElem_map, List.getElem_map] at this
  rw [List.getD_eq_getElem?_getD, List.getD_eq_getElem?_getD, List.getElem?_eq_getElem hb, List.getElem?_eq_getElem (by omega)]
  exact this
 rcases Nat.lt_trichotomy i j with h | h | h
 ·have := g i j h hj; omega
 ·exact h
 ·have := g j i h hi; omega
theorem lenN_eq {c : Circ} (V : c.Valid) {v : Int} (h1 : 1 ≤ v) (place : List Int) (hu : usedB (netT c (cellsN c) v) = true) : lenN (netT c (cellsN c) v) place = netLen c (cellsN c) place v := by
 have hne : useV c (cellsN c) place v ≠ [] := by
  intro e
  unfold usedB netT at hu
  dsimp only at hu
  have hu2 : 0 < (sinkL (cellsN c) v (cellsN c).length).length + (padL c v c.outs.length).length := by simpa using hu
  have := congrArg List.length e
  unfold useV sinkT at this
  rw [List.length_append, List.length_map, List.length_nil] at this
  omega
 have hsrc : ∀ t, t ∈ srcV c (cellsN c) place v ↔ t = (if 0 ≤ lastC (cellsN c) v (cellsN c).length then place.getD (lastC (cellsN c) v (cellsN c).length).toNat 0 else (v - 1) * 5) := by
  intro t
  unfold srcV
  rw [List.mem_append, mem_cellT]
  by_cases hin : c.inputs < v
  ·obtain ⟨i, hi, e⟩ := used_driven V h1 hin hu
   have hl : 0 ≤ lastC (cellsN c) v (cellsN c).length := by
    by_cases h : lastC (cellsN c) v (cellsN c).length < 0
    ·exact absurd e (lastC_none h i hi)
    ·omega
   have hlt := lastC_lt (cellsN c) v (cellsN c).length
   have hls := lastC_some hl
   rw [if_neg (by omega), if_pos hl]
   constructor
   ·rintro (h | ⟨j, hj, e2, e3⟩)
    ·simp at h
    ·have := net_uniq V hj (show (lastC (cellsN c) v (cellsN c).length).toNat < (cellsN c).length by omega) (by rw [e2, hls])
     rw [← e3, this]
   ·rintro rfl
    exact .inr ⟨_, by omega, hls, rfl⟩
  ·have hl : ¬ 0 ≤ lastC (cellsN c) v (cellsN c).length := by
    intro h
    have := lastC_some h
    have hlt := lastC_lt (cellsN c) v (cellsN c).length
    have := ((cells_drive V).1 _ (getN_mem (d := cell0) (show (lastC (cellsN c) v (cellsN c).length).toNat < (cellsN c).length by omega))).1
    omega
   rw [if_pos (by omega), if_neg hl]
   constructor
   ·rintro (h | ⟨j, hj, e2, e3⟩)
    ·simpa using h
    ·have := ((cells_drive V).1 _ (getN_mem (d := cell0) hj)).1
     omega
   ·rintro rfl
    exact .inl (by simp)
 have hmem : ∀ t, t ∈ tilesN (netT c (cellsN c) v) place ↔ t ∈ pinsV c (cellsN c) place v := by
  intro t
  unfold pinsV
  rw [if_neg hne, mem_onto, hsrc]
  unfold tilesN netT useV
  dsimp only
  rw [List.mem_cons]
 unfold lenN netLen distV
 rw [if_neg, boxN_same hmem]
 intro e
 have := (hmem (if 0 ≤ lastC (cellsN c) v (cellsN c).length then place.getD (lastC (cellsN c) v (cellsN c).length).toNat 0 else (v - 1) * 5)).1 (by unfold tilesN netT; dsimp only; simp)
 rw [e] at this
 simp at this
theorem netLen_unused {c : Circ} {cs : List CellT} {v : Int} (place : List Int) (hu : ¬ usedB (netT c cs v) = true) : netLen c cs place v = 0 := by
 have e : useV c cs place v = [] := by
  unfold usedB netT at hu
  dsimp only at hu
  have hu2 : ¬ 0 < (sinkL cs v cs.length).length + (padL c v c.outs.length).length := by simpa using hu
  have e1 : sinkL cs v cs.length = [] := List.eq_nil_of_length_eq_zero (by omega)
  have e2 : padL c v c.outs.length = [] := List.eq_nil_of_length_eq_zero (by omega)
  unfold useV
  rw [e1, e2]; rfl
 unfold netLen pinsV
 rw [if_pos e]; rfl
theorem sum_cost {c : Circ} (V : c.Valid) (place : List Int) : ∀ k, sumN (netsK c (cellsN c) k) place = costK c (cellsN c) place k := by
 intro k
 induction k with
 | zero => rfl
 | succ k ih =>
  rw [netsK, costK]
  split
  ·rename_i h
   rw [sumN_snoc, ih, lenN_eq V (by omega) place h]
  ·rename_i h
   rw [List.append_nil, ih, netLen_unused place h, Int.add_zero]
/-- All tiles lie in the fabric. -/
theorem getD_inF {ps : List Int} (h : InF ps) (i : Nat) : 0 ≤ ps.getD i 0 ∧ ps.getD i 0 < 25 := by
 rw [List.getD_eq_getElem?_getD]
 rcases Nat.lt_or_ge i ps.length with hi | hi
 ·rw [List.getElem?_eq_getElem hi]; exact h _ (List.getElem_mem _)
 ·rw [List.getElem?_eq_none hi]; simp
theorem pins_inF {c : Circ} (V : c.Valid) (cs : List CellT) {place : List Int} (h : InF place) {v : Int} : InF (pinsV c cs place v) := by
 have lo := V.lo
 have i4 := V.i4
 intro t ht
 unfold pinsV at ht
 split at ht
 ·simp at ht
 ·rcases (mem_onto _ _ _).1 ht with h1 | h1
  ·unfold srcV at h1
   rcases List.mem_append.1 h1 with h2 | h2
   ·split at h2
    ·simp at h2; omega
    ·simp at h2
   ·obtain ⟨i, _, _, rfl⟩ := mem_cellT.1 h2
    exact getD_inF h i
  ·rcases List.mem_append.1 h1 with h2 | h2
   ·obtain ⟨i, _, rfl⟩ := List.mem_map.1 h2
    exact getD_inF h _
   ·obtain ⟨o, ho, _, rfl⟩ := mem_padL.1 h2
    omega
theorem costK_bound {c : Circ} (V : c.Valid) (cs : List CellT) {place : List Int} (h : InF place) : ∀ k, 0 ≤ costK c cs place k ∧ costK c cs place k ≤ 8 * (k : Int) := by
 intro k
 induction k with
 | zero => simp [costK]
 | succ k ih =>
  have := distV_bound (pins_inF V cs h (v := (k : Int) + 1))
  rw [costK]
  unfold netLen
  omega
/-! ### Exchanges -/
def tryV (place : List Int) (i : Nat) (t : Int) : List Int := (place.map (fun x => if x = t then place.getD i 0 else x)).set i t
theorem tryV_length (place : List Int) (i : Nat) (t : Int) : (tryV place i t).length = place.length := by simp [tryV]
theorem tryV_get {place : List Int} {i : Nat} {t : Int} {k : Nat} (hk : k < place.length) : (tryV place i t).getD k 0 = if k = i then t else if place.getD k 0 = t then place.getD i 0 else place.getD k 0 := by
 unfold tryV
 rw [List.getD_eq_getElem?_getD, List.getElem?_set, List.length_map]
 by_cases h : i = k
 ·subst h; simp [hk]
 ·have hg : place.getD k 0 = place[k] := by rw [List.getD_eq_getElem?_getD, List.getElem?_eq_getElem hk]; rfl
  rw [if_neg h, if_neg (fun e => h e.symm), List.getElem?_map, List.getElem?_eq_getElem hk, hg]; rfl
theorem tryV_inF {place : List Int} (h : InF place) (i : Nat) {t : Int} (ht : 0 ≤ t ∧ t < 25) : InF (tryV place i t) := by
 intro x hx
 obtain ⟨k, hk, rfl⟩ := mem_getN (d := (0 : Int)) hx
 rw [tryV_length] at hk
 rw [tryV_get hk]
 split
 ·exact ht
 ·split
  ·exact getD_inF h i
  ·exact getD_inF h k
theorem nodup_get {ps : List Int} : ps.Nodup ↔ ∀ i j, i < ps.length → j < ps.length → ps.getD i 0 = ps.getD j 0 → i = j := by
 constructor
 ·intro h i j hi hj e
  rw [List.getD_eq_getElem?_getD, List.getD_eq_getElem?_getD, List.getElem?_eq_getElem hi, List.getElem?_eq_getElem hj] at e
  have e2 : ps[i] = ps[j] := e
  rcases Nat.lt_trichotomy i j with h2 | h2 | h2
  ·exact absurd e2 (List.pairwise_iff_getElem.1 h i j hi hj h2)
  ·exact h2
  ·exact absurd e2.symm (List.pairwise_iff_getElem.1 h j i hj hi h2)
 ·intro h
  refine List.pairwise_iff_getElem.2 (fun i j hi hj hij e => ?_)
  have := h i j hi hj (by rw [List.getD_eq_getElem?_getD, List.getD_eq_getElem?_getD, List.getElem?_eq_getElem hi, List.getElem?_eq_getElem hj]; exact e)
  omega
theorem tryV_ok {place : List Int} (h : PlOk place) {i : Nat} (hi : i < place.length) {t : Int} (ht : 0 ≤ t ∧ t < 25) : PlOk (tryV place i t) := by
 refine ⟨tryV_inF h.1 i ht, nodup_get.2 (fun a b ha hb e => ?_)⟩
 rw [tryV_length] at ha hb
 have N := nodup_get.1 h.2
 rw [tryV_get ha, tryV_get hb] at e
 by_cases e1 : a = i
 ·subst e1
  rw [if_pos rfl] at e
  by_cases e2 : b = a
  ·exact e2.symm
  ·rw [if_neg e2] at e
   split at e
   ·rename_i e3
    exact N a b ha hb (by rw [e3, ← e])
   ·rename_i e3; exact absurd e.symm e3
 ·rw [if_neg e1] at e
  by_cases e2 : b = i
  ·subst e2
   rw [if_pos rfl] at e
   split at e
   ·rename_i e3
    exact N a b ha hb (by rw [e3, ← e])
   ·rename_i e3; exact absurd e e3
  ·rw [if_neg e2] at e
   split at e
   ·rename_i e3
    split at e
    ·rename_i e4; exact N a b ha hb (by rw [e3, e4])
    ·have := N i b hi hb e; omega
   ·split at e
    ·have := N a i ha hi e; omega
    ·exact N a b ha hb e
/-- One trial: the exchange is kept if it makes the wire shorter. -/
def plStep (c : Circ) (cs : List CellT) (i : Nat) (s : List Int × Int) (t : Nat) : List Int × Int :=
 if costV c cs (tryV s.1 i t) < s.2 then (tryV s.1 i t, costV c cs (tryV s.1 i t)) else s
def plCell (c : Circ) (cs : List CellT) (k : Nat) (s : List Int × Int) (i : Nat) : List Int × Int := (List.range k).foldl (plStep c cs i) s
def plSweep (c : Circ) (cs : List CellT) (k : Nat) (s : List Int × Int) : List Int × Int := (List.range k).foldl (plCell c cs 25) s
def plK (c : Circ) (cs : List CellT) : Nat → List Int × Int
 | 0 => ((List.range cs.length).map (fun (i : Nat) => (i : Int)), costV c cs ((List.range cs.length).map (fun (i : Nat) => (i : Int))))
 | k + 1 => plSweep c cs cs.length (plK c cs k)
noncomputable def placeV (c : Circ) : List Int := if validB c then (plK c (cellsN c) 3).1 else []
/-- What holds of the placement all along. -/
structure PlInv (c : Circ) (cs : List CellT) (m : Int) (s : List Int × Int) : Prop where
 len : s.1.length = cs.length
 ok : PlOk s.1
 cost : s.2 = costV c cs s.1
 le : s.2 ≤ m
theorem plStep_inv {c : Circ} {cs : List CellT} {m : Int} {s : List Int × Int} (h : PlInv c cs m s) {i : Nat} (hi : i < cs.length) {t : Nat} (ht : t < 25) : PlInv c cs m (plStep c cs i s t) := by
 unfold plStep
 split
 ·rename_i hlt
  exact ⟨by rw [tryV_length]; exact h.len, tryV_ok h.ok (by rw [h.len]; exact hi) (by omega), rfl, by have := h.le; show costV c cs (tryV s.1 i t) ≤ m; omega⟩
 ·exact h
theorem plCell_inv {c : Circ} {cs : List CellT} {m : Int} {s : List Int × Int} (h : PlInv c cs m s) {i : Nat} (hi : i < cs.length) {k : Nat} (hk : k ≤ 25) : PlInv c cs m (plCell c cs k s i) := by
 unfold plCell
 exact foldl_inv_mem (p := PlInv c cs m) _ (fun b a ha hb => plStep_inv hb hi (by have := List.mem_range.1 ha; omega)) s h
theorem plSweep_inv {c : Circ} {cs : List CellT} {m : Int} {s : List Int × Int} (h : PlInv c cs m s) {k : Nat} (hk : k ≤ cs.length) : PlInv c cs m (plSweep c cs k s) := by
 unfold plSweep
 exact foldl_inv_mem (p := PlInv c cs m) _ (fun b a ha hb => plCell_inv hb (by have := List.mem_range.1 ha; omega) (Nat.le_refl _)) s h
theorem init_ok {n : Nat} (hn : n ≤ 25) : PlOk ((List.range n).map (fun (i : Nat) => (i : Int))) := by
 refine ⟨fun x hx => ?_, ?_⟩
 ·obtain ⟨i, hi, rfl⟩ := List.mem_map.1 hx
  have := List.mem_range.1 hi
  omega
 ·refine List.Pairwise.map _ (fun a b h => ?_) (List.pairwise_lt_range (n := n))
  omega
theorem plK_inv {c : Circ} {cs : List CellT} (hn : cs.length ≤ 25) : ∀ k, PlInv c cs (costV c cs ((List.range cs.length).map (fun (i : Nat) => (i : Int)))) (plK c cs k) := by
 intro k
 induction k with
 | zero => exact ⟨by simp [plK], init_ok hn, rfl, Int.le_refl _⟩
 | succ k ih => exact plSweep_inv ih (Nat.le_refl _)
end Go.Proofs.Ytgialedmbmfejaa

--@from BCut BBest BLut BCel BSnk
namespace Go.Proofs.Ytgialedmbmfejaa
open Go.RowKit
set_option maxRecDepth 100000
set_option linter.unusedVariables false
set_option linter.unusedSimpArgs false
theorem take_inF {ts : List Int} (h : InF ts) (k : Nat) : InF (ts.take k) := fun t ht => h t (List.mem_of_mem_take ht)
theorem box_bounds {ts : List Int} (h : InF ts) : (0 ≤ minF (· / 5) 5 ts ∧ minF (· / 5) 5 ts ≤ 5) ∧ (0 ≤ maxF (· / 5) 0 ts ∧ maxF (· / 5) 0 ts ≤ 4) ∧ (0 ≤ minF (· % 5) 5 ts ∧ minF (· % 5) 5 ts ≤ 5) ∧ (0 ≤ maxF (· % 5) 0 ts ∧ maxF (· % 5) 0 ts ≤ 4) :=
  ⟨⟨minF_ge _ 0 ts 5 (by omega) (fun t ht => by have := h t ht; show 0 ≤ t / 5; omega), (minF_le _ ts 5).1⟩,
   ⟨(maxF_ge _ ts 0).1, maxF_le _ 4 ts 0 (by omega) (fun t ht => by have := h t ht; show t / 5 ≤ 4; omega)⟩,
   ⟨minF_ge _ 0 ts 5 (by omega) (fun t ht => by have := h t ht; show 0 ≤ t % 5; omega), (minF_le _ ts 5).1⟩,
   ⟨(maxF_ge _ ts 0).1, maxF_le _ 4 ts 0 (by omega) (fun t ht => by have := h t ht; show t % 5 ≤ 4; omega)⟩⟩
set_option maxHeartbeats 4000000 in
theorem l7Dist_c (a : Option Addr) (cap : Nat) (ts : List Int) (w : World) (hI : IntsAt w a ts) (hF : InF ts) (hl : ts.length ≤ 100) :
  Calls Try.prog 124 #[.slice a ts.length cap] w fun e w' => e = .returned (.int .i64 (distV ts)) ∧ Ext w w' := by
 by_cases h0 : ts.length = 0
 ·have hd : distV ts = 0 := by unfold distV; rw [if_pos (List.eq_nil_of_length_eq_zero h0)]
  have HD := Lib.hid hd
  have hz : ((ts.length : Int) == 0) = true := by rw [h0]; rfl
  clear hd h0
  go_enter Try.func124, Try.ntmps124
  go_wp2
  go_ret
  exact ⟨by rw [HD.out]; rfl, Ext.refl _⟩
 ·have hd : distV ts = boxN ts := by unfold distV; rw [if_neg (fun e => h0 (by rw [e]; rfl))]
  have HD := Lib.hid hd
  have hz : ((ts.length : Int) == 0) = false := by rw [beq_eq_false_iff_ne]; omega
  have HB := Lib.hid (fun k => box_bounds (take_inF hF k))
  have HBX : Hid (boxN ts = maxF (· / 5) 0 ts - minF (· / 5) 5 ts + maxF (· % 5) 0 ts - minF (· % 5) 5 ts) := Lib.hid rfl
  have HF := Lib.hid hF
  clear hd hF
  go_enter Try.func124, Try.ntmps124
  go_wp2_with fail
  go_loopw [3, 4, 5, 6, 7] (fun u3 u4 u5 u6 u7 wr => ∃ k : Nat, k ≤ ts.length ∧ u7 = .int .i64 k ∧ u3 = .int .i64 (minF (· / 5) 5 (ts.take k)) ∧ u4 = .int .i64 (maxF (· / 5) 0 (ts.take k)) ∧ u5 = .int .i64 (minF (· % 5) 5 (ts.take k)) ∧ u6 = .int .i64 (maxF (· % 5) 0 (ts.take k)) ∧ Ext w wr) (fun _ _ _ _ u _ => ts.length - (intOf u).toNat)
  case atStart => exact ⟨0, Nat.zero_le _, rfl, rfl, rfl, rfl, rfl, Ext.refl _⟩
  case round =>
   obtain ⟨k, hk, rfl, rfl, rfl, rfl, rfl, hE⟩ := hrel
   obtain ⟨⟨b1, b2⟩, ⟨b3, b4⟩, ⟨b5, b6⟩, b7, b8⟩ := HB.out k
   by_cases hlt : k < ts.length
   ·obtain ⟨b, o, rfl, hb, hc⟩ := (hI.ext hE).get (by omega)
    have q1 := hc k hlt
    have s1 := minF_snoc (· / 5) 5 (ts.take k) (ts.getD k 0)
    have s2 := maxF_snoc (· / 5) 0 (ts.take k) (ts.getD k 0)
    have s3 := minF_snoc (· % 5) 5 (ts.take k) (ts.getD k 0)
    have s4 := maxF_snoc (· % 5) 0 (ts.take k) (ts.getD k 0)
    rw [← take_snocD ts k 0 hlt] at s1 s2 s3 s4
    have ht := HF.out _ (getN_mem (d := (0 : Int)) hlt)
    obtain ⟨t, htt⟩ : ∃ t, t = ts.getD k 0 := ⟨_, rfl⟩
    rw [← htt] at q1 s1 s2 s3 s4 ht
    obtain ⟨t0, t1⟩ := ht
    have hta : IntKind.i64.wrap (t.tdiv 5) = t / 5 := by rw [Int.tdiv_eq_ediv_of_nonneg t0]; exact IntWalk.i64_in _ (by omega)
    have htb : t.tmod 5 = t % 5 := Int.tmod_eq_emod_of_nonneg t0
    obtain ⟨R0, e1⟩ : ∃ x, x = minF (· / 5) 5 (ts.take k) := ⟨_, rfl⟩
    obtain ⟨R1, e2⟩ : ∃ x, x = maxF (· / 5) 0 (ts.take k) := ⟨_, rfl⟩
    obtain ⟨C0, e3⟩ : ∃ x, x = minF (· % 5) 5 (ts.take k) := ⟨_, rfl⟩
    obtain ⟨C1, e4⟩ : ∃ x, x = maxF (· % 5) 0 (ts.take k) := ⟨_, rfl⟩
    rw [← e1] at b1 b2 s1 ⊢
    rw [← e2] at b3 b4 s2 ⊢
    rw [← e3] at b5 b6 s3 ⊢
    rw [← e4] at b7 b8 s4 ⊢
    have S := Lib.hid (And.intro s1 (And.intro s2 (And.intro s3 s4)))
    clear hc htt e1 e2 e3 e4 s1 s2 s3 s4
    go_wp2_with fail
    go_roundw
    case rel => exact ⟨k + 1, by omega, by go_num, by rw [S.out.1], by rw [S.out.2.1], by rw [S.out.2.2.1], by rw [S.out.2.2.2], hE⟩
    case measure => simp [intOf]; omega
   ·have hk2 : k = ts.length := by omega
    subst hk2
    rw [List.take_length] at b1 b2 b3 b4 b5 b6 b7 b8 ⊢
    go_wp2_with fail
    go_ret
    exact ⟨by rw [HD.out, HBX.out]; rfl, hE⟩
theorem sinkL_lt {cs : List CellT} {net x : Int} {k : Nat} (h : x ∈ sinkL cs net k) : ∃ i : Nat, i < k ∧ x = (i : Int) := by
 obtain ⟨i, h1, _, h2⟩ := mem_sinkL.1 h
 exact ⟨i, h1, h2.symm⟩
theorem padL_le (c : Circ) (net : Int) (k : Nat) : (padL c net k).length ≤ k := by
 induction k with
 | zero => simp [padL]
 | succ k ih => rw [padL_succ, List.length_append]; split <;> simp <;> omega
theorem cellT_le (cs : List CellT) (place : List Int) (net : Int) (k : Nat) : (cellT cs place net k).length ≤ k := by
 induction k with
 | zero => simp [cellT]
 | succ k ih => rw [cellT_succ, List.length_append]; split <;> simp <;> omega
theorem IntsAt.grn {w w' : World} {a : Option Addr} {xs : List Int} {B : Nat} (h : IntsAt w a xs) (g : w.grownBy w' (some B)) (hne : xs.length ≠ 0 → ∀ x, a = some x → x.block ≠ B) : IntsAt w' a xs := by
 rcases h with rfl | ⟨b, o, ha, hb, hc⟩
 ·exact .inl rfl
 ·by_cases hz : xs.length = 0
  ·exact .inl (List.eq_nil_of_length_eq_zero hz)
  ·exact .inr ⟨b, o, ha, Nat.lt_of_lt_of_le hb g.size, fun j hj => (gcell g b _ hb (hne hz _ ha)).trans (hc j hj)⟩
theorem Gr.rowB {a w w' : World} {B : Nat} {v v' : Value} (h : a.grownBy w (some B)) (hg : w.grownBy w' v.ownBlock) (hv : ∀ k, v.ownBlock = some k → k = B ∨ a.heap.size ≤ k) (hm : RowMoved w v v') : a.grownBy w' (some B) ∧ ∀ k, v'.ownBlock = some k → k = B ∨ a.heap.size ≤ k := by
 refine ⟨⟨hg.os.trans h.os, hg.tape.trans h.tape, hg.output.trans h.output, Nat.le_trans h.size hg.size, fun k hk hne => ?_⟩, fun k hk => ?_⟩
 ·refine (hg.block k (Nat.lt_of_lt_of_le hk h.size) (fun e => ?_)).trans (h.block k hk hne)
  rcases hv k e.symm with h2 | h2
  ·exact hne (by rw [h2])
  ·omega
 ·rcases hm with e | ⟨q, e, hq⟩
  ·exact hv k (e.symm.trans hk)
  ·rw [e] at hk; cases hk
   have := h.size
   exact .inr (by omega)
theorem own_at {w : World} {b : Nat} {a : Option Addr} {n c : Nat} {xs : List Int} (h : OwnInts w b 3 (.slice a n c) xs) : IntsAt w a xs := by
 obtain ⟨a', c', e, hA, _⟩ := h.opened
 cases e; exact hA
theorem own_len {w : World} {b : Nat} {v : Value} {xs : List Int} (h : OwnInts w b 3 v xs) {n : Nat} (hn : xs.length = n) : ∃ a c, v = .slice a n c := by
 subst hn
 obtain ⟨a, c, e, _⟩ := own_sl h
 exact ⟨a, c, e⟩
set_option maxHeartbeats 8000000 in
theorem l7Pins_c (c : Circ) (p : Where3) (ca : Option Addr) (cc : Nat) (cs : List CellT) (F : List Nat) (pa : Option Addr) (pc : Nat) (place : List Int) (net : Int) (w : World) (hc : CircAt w c p) (V : c.Valid) (hN : NstC w (.slice ca cs.length cc) cs F) (hp : IntsAt w pa place) (hpl : place.length = cs.length) (hl : cs.length ≤ 17) (hs : ∀ x ∈ cs, Asc x.ins ∧ x.ins.length ≤ 3) (h0 : 1 ≤ net) (h1 : net ≤ 1000) :
  Calls Try.prog 125 #[.agg #[.int .i64 c.inputs, .slice p.an c.next.length p.cn, .slice p.ag c.gates.length p.cg, .slice p.ao c.outs.length p.co], .slice ca cs.length cc, .slice pa cs.length pc, .int .i64 net] w (GiveNL w (pinsV c cs place net)) := by
 obtain ⟨an, cn, ag, cg, ao, co⟩ := p
 dsimp only
 have E1 : Ext w (w.alloc (.cells #[.int .i64 c.inputs, .slice an c.next.length cn, .slice ag c.gates.length cg, .slice ao c.outs.length co] 26)) := (Ext.refl w).alloc _
 have y1 := CircBox.made w c ⟨an, cn, ag, cg, ao, co⟩ 26
 have HC1 := Lib.hid (hc.ext E1)
 have HN1 := Lib.hid (hN.ext goodCell E1)
 have HP1 := Lib.hid (hp.ext E1)
 have HS := Lib.hid hs
 have HPL := Lib.hid hpl
 have lo := V.lo
 have hi0 := V.i0
 have hi4 := V.i4
 have hxo := root_ok V (xs := c.outs) (fun x hx => List.mem_append_right _ hx)
 have hvl : c.vars ≤ 100 := by have := V.lg; have := V.ln; unfold Circ.vars Circ.first; omega
 have HXO := Lib.hid hxo
 obtain ⟨D, hD⟩ : ∃ D, D = pinsV c cs place net := ⟨_, rfl⟩
 rw [← hD]
 have HD := Lib.hid hD
 obtain ⟨L, hL⟩ : ∃ L, L = sinkL cs net cs.length := ⟨_, rfl⟩
 have hLl : L.length ≤ 17 := by have := sinkL_le cs net cs.length; rw [← hL] at this; omega
 have HLI : Hid (∀ j, j < L.length → ∃ i : Nat, i < cs.length ∧ L.getD j 0 = (i : Int)) := Lib.hid (fun j hj => sinkL_lt (by rw [← hL]; exact getN_mem hj))
 have HL := Lib.hid hL
 clear V hc hN hp hs hpl hxo hD hL
 go_enter Try.func125, Try.ntmps125
 go_upto_region 1 with fail
 obtain ⟨w1, hw1⟩ : ∃ x : World, x = w.alloc (.cells #[.int .i64 c.inputs, .slice an c.next.length cn, .slice ag c.gates.length cg, .slice ao c.outs.length co] 26) := ⟨_, rfl⟩
 rw [← hw1] at E1 y1 HC1 HN1 HP1
 rw [← hw1]
 clear hw1
 have O0 : OwnInts (w1.alloc (.cells #[] 3)) w1.heap.size 3 (.slice (some ⟨w1.heap.size, 0, none⟩) 0 0) [] := (Blk.at w1 [] 3 rfl).owns (n := 0) (size := 1) rfl (Nat.le_refl _) (by decide)
 have E10 := (Ext.refl w1).alloc (.cells #[] 3)
 have s10 : (w1.alloc (.cells #[] 3)).heap.size = w1.heap.size + 1 := by simp
 have hNa := HN1.out.ext goodCell E10
 have hcall := l6Sinks_c ca cc cs F net _ hNa hl HS.out
 rw [← HL.out] at hcall
 clear hNa
 go_wp2_with fail
 refine hcall.mono ?_
 rintro e w2 ⟨lv, rfl, oL, hE2⟩
 have hlb := own_lo oL
 have O2 := ownsRow_ext O0 hE2
 have E2 := E10.trans hE2
 have hsz2 := hE2.size
 obtain ⟨la, lc, rfl, hLA, _⟩ := oL.opened
 have hlo2 : L.length ≠ 0 → ∀ x, la = some x → x.block ≠ w1.heap.size := fun _ x hx e => by
  subst hx
  have := (ownsRow_block oL (by omega))
  obtain ⟨g, hg, h5, _⟩ := this
  cases hg
  dsimp only at e
  omega
 have HLA := Lib.hid hLA
 clear hcall O0 E10 hE2 oL hLA hlb hsz2 s10
 go_wp2_with fail
 go_loopw [9, 11] (fun u9 u11 wr => ∃ i : Nat, i ≤ L.length ∧ u11 = .int .i64 i ∧ OwnInts wr w1.heap.size 3 u9 (sinkT place (L.take i)) ∧ w2.grownBy wr (some w1.heap.size) ∧ ∀ k, u9.ownBlock = some k → k = w1.heap.size ∨ w2.heap.size ≤ k) (fun _ v _ => L.length - (intOf v).toNat)
 case atStart => exact ⟨0, Nat.zero_le _, rfl, O2, Gr.refl _ _, fun k hk => .inl (by cases hk; rfl)⟩
 case round =>
  clear O2
  obtain ⟨i, hi, rfl, hO, hG, hown⟩ := hrel
  obtain ⟨w3, rfl⟩ : ∃ z : World, z = wr := ⟨_, rfl⟩
  have E3 := gr_behind hG E2 (Nat.le_refl _)
  by_cases hlt : i < L.length
  ·obtain ⟨b5, o5, rfl, hb5, hc5⟩ := (HLA.out.grn hG hlo2).get (by omega)
   have q5 := hc5 i hlt
   obtain ⟨m, hm, hmz⟩ := HLI.out i hlt
   have hsn : sinkT place (L.take (i + 1)) = sinkT place (L.take i) ++ [place.getD m 0] := by
    rw [take_snocD L i 0 hlt, sinkT_snoc, hmz]; rfl
   obtain ⟨b6, o6, rfl, hb6, hc6⟩ := (HP1.out.ext E3).get (by rw [HPL.out]; omega)
   have q6 := hc6 m (by rw [HPL.out]; exact hm)
   rw [hmz] at q5
   obtain ⟨z, hz⟩ : ∃ z, z = place.getD m 0 := ⟨_, rfl⟩
   rw [← hz] at q6 hsn
   have HSN := Lib.hid hsn
   obtain ⟨S, hS⟩ : ∃ S, S = sinkT place (L.take i) := ⟨_, rfl⟩
   have hSl : S.length = i := by rw [hS]; unfold sinkT; rw [List.length_map, List.length_take]; omega
   rw [← hS] at hO HSN
   have hSl2 : S.length ≤ 17 := by omega
   have hsz := E3.size
   have hmi : (m : Int) < (cs.length : Int) := by omega
   clear hc5 hc6 hmz hz hS hSl hsn
   go_wp2_with (at_builtin; refine wpList_app tyInts (ownsRow_ext hO (by (repeat (first | with_reducible assumption | with_reducible exact Ext.refl _ | with_reducible refine Ext.drew' ?_ | with_reducible refine Ext.drewN' ?_ _ | with_reducible refine Ext.alloc ?_ _ | (with_reducible refine Ext.setNew ?_ (by first | exact Nat.le_refl _ | (simp; done) | (simp; omega) | omega) _))))) (rowNew _ _ _ (by simp)) rfl (by simp [Value.oneCell']) (by omega) (by simp; omega) rfl rfl rfl rfl ?_; intro v9 w9 o9 g9 m9)
   have O9 : OwnInts w9 w1.heap.size 3 v9 (S ++ [z]) := own_app (xs := S) (ys := [z]) rfl rfl o9
   obtain ⟨G9, hown9⟩ := Gr.rowB (Gr.trans hG (Gr.ext (by (repeat (first | with_reducible assumption | with_reducible exact Ext.refl _ | with_reducible refine Ext.drew' ?_ | with_reducible refine Ext.drewN' ?_ _ | with_reducible refine Ext.alloc ?_ _ | (with_reducible refine Ext.setNew ?_ (by first | exact Nat.le_refl _ | (simp; done) | (simp; omega) | omega) _)))) _)) g9 hown m9
   go_roundw
   case rel => exact ⟨i + 1, by omega, by go_num, by rw [HSN.out]; exact O9, G9, hown9⟩
   case measure => simp [intOf]; omega
  ·have hi2 : i = L.length := by omega
   rw [hi2, List.take_length] at hO
   obtain ⟨S, hS⟩ : ∃ S, S = sinkT place L := ⟨_, rfl⟩
   have hSl : S.length ≤ 17 := by rw [hS]; unfold sinkT; rw [List.length_map]; omega
   rw [← hS] at hO
   have HUV : Hid (∀ Q, S ++ Q = sinkT place (sinkL cs net cs.length) ++ Q) := Lib.hid (fun Q => by rw [hS, HL.out])
   have hnn : ¬ ((i : Int) < (L.length : Int)) := by omega
   clear hG hown hS hi2 HLA HLI HL hlo2 hLl
   go_wp2_with fail
   go_loopw [9, 12] (fun u9 u12 wr => ∃ o : Nat, o ≤ c.outs.length ∧ u12 = .int .i64 o ∧ OwnInts wr w1.heap.size 3 u9 (S ++ padL c net o) ∧ Ext w1 wr) (fun _ v _ => c.outs.length - (intOf v).toNat)
   case atStart => exact ⟨0, Nat.zero_le _, rfl, by simpa [padL] using hO, E3⟩
   case round =>
    clear hO E3
    obtain ⟨o, ho, rfl, hO, hE⟩ := hrel
    obtain ⟨w4, rfl⟩ : ∃ z : World, z = wr := ⟨_, rfl⟩
    have y4 := y1.ext hE
    (obtain ⟨lb, b0, b1, b2, b3⟩ := (id y4))
    dsimp only at b1 b2 b3
    by_cases hlt2 : o < c.outs.length
    ·obtain ⟨b5, o5, eao, hb5, hc5⟩ := (HC1.out.ou.ext hE).get (by omega)
     have q1 := hc5 o hlt2
     obtain ⟨i1, i2⟩ := HXO.out o hlt2
     have hsn := padL_succ c net o
     have hpl3 := padL_le c net o
     obtain ⟨l, hll⟩ : ∃ l, l = c.outs.getD o 0 := ⟨_, rfl⟩
     rw [← hll] at q1 i1 i2 hsn
     have hta : IntKind.i64.wrap (l.tdiv 2) = l / 2 := by rw [Int.tdiv_eq_ediv_of_nonneg i1]; exact IntWalk.i64_in _ (by omega)
     dsimp only at eao
     subst eao
     obtain ⟨Q, hQ⟩ : ∃ Q, Q = S ++ padL c net o := ⟨_, rfl⟩
     have hQl : Q.length ≤ 20 := by rw [hQ, List.length_append]; omega
     rw [← hQ] at hO
     by_cases he : l / 2 = net
     ·have hsn2 : S ++ padL c net (o + 1) = Q ++ [(o : Int) * 5 + 4] := by rw [hsn, if_pos (by simp [he]), ← List.append_assoc, ← hQ]
      have HSN := Lib.hid hsn2
      have he2 : (l / 2 == net) = true := by simp [he]
      have hsz := hE.size
      clear hc5 hll hsn hsn2 hQ he
      go_wp2_with (at_builtin; refine wpList_app tyInts (ownsRow_ext hO (by (repeat (first | with_reducible assumption | with_reducible exact Ext.refl _ | with_reducible refine Ext.drew' ?_ | with_reducible refine Ext.drewN' ?_ _ | with_reducible refine Ext.alloc ?_ _ | (with_reducible refine Ext.setNew ?_ (by first | exact Nat.le_refl _ | (simp; done) | (simp; omega) | omega) _))))) (rowNew _ _ _ (by simp)) rfl (by simp [Value.oneCell']) (by omega) (by simp; omega) rfl rfl rfl rfl ?_; intro v9 w9 o9 g9 m9)
      have E9 : Ext w1 w9 := ext_grown (w1 := _) (Ext.trans hE (by (repeat (first | with_reducible assumption | with_reducible exact Ext.refl _ | with_reducible refine Ext.drew' ?_ | with_reducible refine Ext.drewN' ?_ _ | with_reducible refine Ext.alloc ?_ _ | (with_reducible refine Ext.setNew ?_ (by first | exact Nat.le_refl _ | (simp; done) | (simp; omega) | omega) _))))) g9 (fun q hq => (own_lo hO q hq).1)
      have O9 : OwnInts w9 w1.heap.size 3 v9 (Q ++ [(o : Int) * 5 + 4]) := by first | exact own_app (xs := Q) (ys := [(o : Int) * 5 + 4]) rfl rfl o9 | (rw [show (o : Int) * 5 + 4 = (o : Int) * 5 + 5 - 1 from by omega]; exact own_app (xs := Q) (ys := [(o : Int) * 5 + 5 - 1]) rfl rfl o9)
      go_roundw
      case rel => exact ⟨o + 1, by omega, by go_num, by rw [HSN.out]; exact O9, E9⟩
      case measure => simp [intOf]; omega
     ·have hsn2 : S ++ padL c net (o + 1) = Q := by rw [hsn, if_neg (by simp [he]), List.append_nil, ← hQ]
      have HSN := Lib.hid hsn2
      have he2 : (l / 2 == net) = false := by simp [he]
      clear hc5 hll hsn hsn2 hQ he
      go_wp2_with fail
      go_roundw
      case rel => exact ⟨o + 1, by omega, by go_num, by rw [HSN.out]; exact hO, hE⟩
      case measure => simp [intOf]; omega
    ·have ho2 : o = c.outs.length := by omega
     have hnn2 : ¬ ((o : Int) < (c.outs.length : Int)) := by omega
     rw [ho2] at hO
     obtain ⟨U, hU⟩ : ∃ U, U = S ++ padL c net c.outs.length := ⟨_, rfl⟩
     have hUl : U.length ≤ 20 := by have := padL_le c net c.outs.length; rw [hU, List.length_append]; omega
     rw [← hU] at hO
     have hUV : useV c cs place net = U := by unfold useV; rw [← HUV.out, hU]
     have HDD : Hid (D = if U = [] then [] else onto (srcV c cs place net) U) := Lib.hid (by rw [HD.out]; unfold pinsV; rw [hUV])
     clear hU hUV HUV ho2 HD
     obtain ⟨ua, uc, rfl, hUA, _⟩ := hO.opened
     by_cases hu0 : U.length = 0
     ·have hd : D = [] := by rw [HDD.out, if_pos (List.eq_nil_of_length_eq_zero hu0)]
      subst hd
      have hz : ((U.length : Int) == 0) = true := by rw [hu0]; rfl
      have O5 : OwnInts (w4.alloc (.cells #[] 3)) w4.heap.size 3 (.slice (some ⟨w4.heap.size, 0, none⟩) 0 0) [] := (Blk.at w4 [] 3 rfl).owns (n := 0) (size := 1) rfl (Nat.le_refl _) (by decide)
      have E5 := hE.alloc (.cells #[] 3)
      have hs4 := hE.size
      have hs1 := E1.size
      clear hu0 HDD
      go_wp2_with fail
      go_ret
      exact ⟨_, rfl, ownsRow_base O5 (by omega), E1.trans E5⟩
     ·have hz : ((U.length : Int) == 0) = false := by rw [beq_eq_false_iff_ne]; omega
      have HDE : Hid (D = onto (srcV c cs place net) U) := Lib.hid (by rw [HDD.out, if_neg (fun e => hu0 (by rw [e]; rfl))])
      have HUA := Lib.hid hUA
      have O5 : OwnInts (w4.alloc (.cells #[] 3)) w4.heap.size 3 (.slice (some ⟨w4.heap.size, 0, none⟩) 0 0) [] := (Blk.at w4 [] 3 rfl).owns (n := 0) (size := 1) rfl (Nat.le_refl _) (by decide)
      have E5 := (Ext.refl w4).alloc (.cells #[] 3)
      have E4 := hE
      have s4 := E4.size
      obtain ⟨A, hA⟩ : ∃ A, A = (if 1 ≤ net ∧ net ≤ c.inputs then [(net - 1) * 5] else []) := ⟨_, rfl⟩
      have HSV : Hid (srcV c cs place net = A ++ cellT cs place net cs.length) := Lib.hid (by unfold srcV; rw [hA])
      have hAl : A.length ≤ 1 := by rw [hA]; split <;> simp
      clear hu0 HDD hUA hE hO
      go_upto_if 70 with fail
      go_cut [13] (fun v wx => OwnInts wx w4.heap.size 3 v A ∧ Ext w4 wx)
      case first =>
       clear HSV HDE HUA hAl
       by_cases hni : net ≤ c.inputs
       ·have hA2 : A = [(net - 1) * 5] := by rw [hA, if_pos ⟨h0, hni⟩]
        clear hA
        subst hA2
        go_wp2_with (at_builtin; refine wpList_app tyInts (ownsRow_ext O5 ((Ext.refl _).alloc _)) (rowNew _ _ _ (by simp)) rfl (by simp [Value.oneCell']) (by first | omega | (simp; done) | (simp; omega)) (by first | omega | (simp; done) | (simp; omega)) rfl rfl rfl rfl ?_; intro v9 w9 o9 g9 m9)
        go_meet
        exact ⟨own_app (xs := []) (ys := [(net - 1) * 5]) rfl rfl (by have h := o9; exact h), ext_grown (w1 := _) (by (repeat (first | with_reducible assumption | with_reducible exact Ext.refl _ | with_reducible refine Ext.drew' ?_ | with_reducible refine Ext.drewN' ?_ _ | with_reducible refine Ext.alloc ?_ _ | (with_reducible refine Ext.setNew ?_ (by first | exact Nat.le_refl _ | (simp; done) | (simp; omega) | omega) _)))) g9 (fun q hq => by cases hq; exact Nat.le_refl _)⟩
       ·have hA2 : A = [] := by rw [hA, if_neg (fun h => hni h.2)]
        clear hA
        subst hA2
        go_wp2_with fail
        go_meet
        exact ⟨O5, E5⟩
      clear O5 E5 hA
      obtain ⟨hO, hE⟩ := hcut
      obtain ⟨w5, rfl⟩ : ∃ z : World, z = wc := ⟨_, rfl⟩
      clear hz b0 b1 b2 b3 lb y4
      go_wp2_with fail
      go_loopw [13, 14] (fun u13 u14 wr => ∃ i : Nat, i ≤ cs.length ∧ u14 = .int .i64 i ∧ OwnInts wr w4.heap.size 3 u13 (A ++ cellT cs place net i) ∧ Ext w4 wr) (fun _ v _ => cs.length - (intOf v).toNat)
      case atStart => exact ⟨0, Nat.zero_le _, rfl, by simpa [cellT] using hO, hE⟩
      case round =>
       clear hO hE
       obtain ⟨i, hi, rfl, hO, hE⟩ := hrel
       obtain ⟨w6, rfl⟩ : ∃ z : World, z = wr := ⟨_, rfl⟩
       have E46 := E4.trans hE
       have s6 := hE.size
       by_cases hlt3 : i < cs.length
       ·obtain ⟨g, rfl, hg, _, hcells⟩ := Nst.getN goodCell (HN1.out.ext goodCell E46) (by omega)
        obtain ⟨ds, F1, ⟨v, rfl, o1, rfl⟩, q, _⟩ := hcells i cell0 hlt3
        have r0 := q 0 _ (by omega) rfl
        rw [Nat.add_zero] at r0
        obtain ⟨b6, o6, rfl, hb6, hc6⟩ := (HP1.out.ext E46).get (by rw [HPL.out]; omega)
        have q6 := hc6 i (by rw [HPL.out]; exact hlt3)
        have hsn := cellT_succ cs place net i
        have hle := cellT_le cs place net i
        obtain ⟨z, hzz⟩ : ∃ z, z = place.getD i 0 := ⟨_, rfl⟩
        obtain ⟨nt, hnt⟩ : ∃ z, z = (cs.getD i cell0).net := ⟨_, rfl⟩
        rw [← hzz] at q6 hsn
        rw [← hnt] at r0 hsn
        obtain ⟨Q, hQ⟩ : ∃ Q, Q = A ++ cellT cs place net i := ⟨_, rfl⟩
        have hQl : Q.length ≤ 20 := by rw [hQ, List.length_append]; omega
        rw [← hQ] at hO
        by_cases he : nt = net
        ·have hsn2 : A ++ cellT cs place net (i + 1) = Q ++ [z] := by rw [hsn, if_pos (by simp [he]), ← List.append_assoc, ← hQ]
         have HSN := Lib.hid hsn2
         have he2 : (nt == net) = true := by simp [he]
         clear hc6 hzz hnt hsn hsn2 hQ he hcells q o1
         go_wp2_with (at_builtin; refine wpList_app tyInts (ownsRow_ext hO (by (repeat (first | with_reducible assumption | with_reducible exact Ext.refl _ | with_reducible refine Ext.drew' ?_ | with_reducible refine Ext.drewN' ?_ _ | with_reducible refine Ext.alloc ?_ _ | (with_reducible refine Ext.setNew ?_ (by first | exact Nat.le_refl _ | (simp; done) | (simp; omega) | omega) _))))) (rowNew _ _ _ (by simp)) rfl (by simp [Value.oneCell']) (by omega) (by simp; omega) rfl rfl rfl rfl ?_; intro v9 w9 o9 g9 m9)
         have E9 : Ext w4 w9 := ext_grown (w1 := _) (Ext.trans hE (by (repeat (first | with_reducible assumption | with_reducible exact Ext.refl _ | with_reducible refine Ext.drew' ?_ | with_reducible refine Ext.drewN' ?_ _ | with_reducible refine Ext.alloc ?_ _ | (with_reducible refine Ext.setNew ?_ (by first | exact Nat.le_refl _ | (simp; done) | (simp; omega) | omega) _))))) g9 (fun q hq => (own_lo hO q hq).1)
         have O9 : OwnInts w9 w4.heap.size 3 v9 (Q ++ [z]) := own_app (xs := Q) (ys := [z]) rfl rfl o9
         go_roundw
         case rel => exact ⟨i + 1, by omega, by go_num, by rw [HSN.out]; exact O9, E9⟩
         case measure => simp [intOf]; omega
        ·have hsn2 : A ++ cellT cs place net (i + 1) = Q := by rw [hsn, if_neg (by simp [he]), List.append_nil, ← hQ]
         have HSN := Lib.hid hsn2
         have he2 : (nt == net) = false := by simp [he]
         clear hc6 hzz hnt hsn hsn2 hQ he hcells q o1
         go_wp2_with fail
         go_roundw
         case rel => exact ⟨i + 1, by omega, by go_num, by rw [HSN.out]; exact hO, hE⟩
         case measure => simp [intOf]; omega
       ·have hi2 : i = cs.length := by omega
        have hnn3 : ¬ ((i : Int) < (cs.length : Int)) := by omega
        obtain ⟨T, hT⟩ : ∃ T, T = A ++ cellT cs place net i := ⟨_, rfl⟩
        have hTl : T.length ≤ 20 := by have := cellT_le cs place net i; rw [hT, List.length_append]; omega
        rw [← hT] at hO
        have HD2 : Hid (D = onto T U) := Lib.hid (by rw [HDE.out, HSV.out, hT, hi2])
        clear hT hi2 HSV HDE
        go_wp2_with fail
        go_loopw [13, 15] (fun u13 u15 wr => ∃ j : Nat, j ≤ U.length ∧ u15 = .int .i64 j ∧ OwnInts wr w4.heap.size 3 u13 (onto T (U.take j)) ∧ Ext w4 wr) (fun _ v _ => U.length - (intOf v).toNat)
        case atStart => exact ⟨0, Nat.zero_le _, rfl, by simpa [onto] using hO, hE⟩
        case round =>
         clear hO hE E46 s6
         obtain ⟨j, hj, rfl, hO, hE⟩ := hrel
         obtain ⟨w7, rfl⟩ : ∃ z : World, z = wr := ⟨_, rfl⟩
         by_cases hlt4 : j < U.length
         ·obtain ⟨b7, o7, rfl, hb7, hc7⟩ := (HUA.out.ext hE).get (by omega)
          have q7 := hc7 j hlt4
          have hsn : onto T (U.take (j + 1)) = if (onto T (U.take j)).contains (U.getD j 0) then onto T (U.take j) else onto T (U.take j) ++ [U.getD j 0] := by rw [take_snocD U j 0 hlt4, onto_snoc]
          have hle := onto_len (U.take j) T
          obtain ⟨z, hzz⟩ : ∃ z, z = U.getD j 0 := ⟨_, rfl⟩
          obtain ⟨X, hX⟩ : ∃ X, X = onto T (U.take j) := ⟨_, rfl⟩
          rw [← hzz] at q7 hsn
          rw [← hX] at hO hsn hle
          have hXl : X.length ≤ 40 := by rw [List.length_take] at hle; omega
          obtain ⟨B, hB⟩ : ∃ B, B = X.contains z := ⟨_, rfl⟩
          rw [← hB] at hsn
          have HSN := Lib.hid hsn
          have HB := Lib.hid hB
          obtain ⟨va, vc, rfl, hXA, _⟩ := hO.opened
          have s7 := hE.size
          clear hc7 hzz hX hsn hB hle
          go_wp2_with fail
          refine (l7Has_c va vc X z X.length rfl _ (hXA.ext (by (repeat (first | with_reducible assumption | with_reducible exact Ext.refl _ | with_reducible refine Ext.drew' ?_ | with_reducible refine Ext.drewN' ?_ _ | with_reducible refine Ext.alloc ?_ _ | (with_reducible refine Ext.setNew ?_ (by first | exact Nat.le_refl _ | (simp; done) | (simp; omega) | omega) _))))) (by omega)).mono ?_
          rw [← HB.out]
          rintro e w8 ⟨rfl, hE8⟩
          obtain ⟨E78, s8⟩ : Ext w7 w8 ∧ w7.heap.size ≤ w8.heap.size := by
           have h : Ext w7 w8 := Ext.trans (by (repeat (first | with_reducible assumption | with_reducible exact Ext.refl _ | with_reducible refine Ext.drew' ?_ | with_reducible refine Ext.drewN' ?_ _ | with_reducible refine Ext.alloc ?_ _ | (with_reducible refine Ext.setNew ?_ (by first | exact Nat.le_refl _ | (simp; done) | (simp; omega) | omega) _)))) hE8
           exact ⟨h, h.size⟩
          have hO8 : OwnInts w8 w4.heap.size 3 (.slice va X.length vc) X := ownsRow_ext hO E78
          have E8 := hE.trans E78
          have q8 := ((ecell E78).1 b7 _ hb7).trans q7
          have hb8 : b7 < w8.heap.size := by omega
          clear hO hE8 hXA HB q7
          cases B
          ·go_wp2_with (at_builtin; refine wpList_app tyInts (ownsRow_ext hO8 (by (repeat (first | with_reducible assumption | with_reducible exact Ext.refl _ | with_reducible refine Ext.drew' ?_ | with_reducible refine Ext.drewN' ?_ _ | with_reducible refine Ext.alloc ?_ _ | (with_reducible refine Ext.setNew ?_ (by first | exact Nat.le_refl _ | (simp; done) | (simp; omega) | omega) _))))) (rowNew _ _ _ (by simp)) rfl (by simp [Value.oneCell']) (by omega) (by simp; omega) rfl rfl rfl rfl ?_; intro v9 w9 o9 g9 m9)
           have E9 : Ext w4 w9 := ext_grown (w1 := _) (Ext.trans E8 (by (repeat (first | with_reducible assumption | with_reducible exact Ext.refl _ | with_reducible refine Ext.drew' ?_ | with_reducible refine Ext.drewN' ?_ _ | with_reducible refine Ext.alloc ?_ _ | (with_reducible refine Ext.setNew ?_ (by first | exact Nat.le_refl _ | (simp; done) | (simp; omega) | omega) _))))) g9 (fun q hq => (own_lo hO8 q hq).1)
           have O9 : OwnInts w9 w4.heap.size 3 v9 (X ++ [z]) := own_app (xs := X) (ys := [z]) rfl rfl o9
           go_roundw
           case rel => exact ⟨j + 1, by omega, by go_num, by rw [HSN.out]; exact O9, E9⟩
           case measure => simp [intOf]; omega
          ·go_wp2_with fail
           go_roundw
           case rel => exact ⟨j + 1, by omega, by go_num, by rw [HSN.out]; exact hO8, E8⟩
           case measure => simp [intOf]; omega
         ·have hj2 : j = U.length := by omega
          rw [hj2, List.take_length, ← HD2.out] at hO
          have hs1 := E1.size
          go_wp2_with fail
          go_ret
          exact ⟨_, rfl, ownsRow_base hO (by omega), E1.trans (E4.trans hE)⟩
end Go.Proofs.Ytgialedmbmfejaa

--@from BCut BBest BLut BCel BSnk
namespace Go.Proofs.Ytgialedmbmfejaa
open Go.RowKit
set_option maxRecDepth 100000
set_option linter.unusedVariables false
set_option linter.unusedSimpArgs false
theorem useV_le (c : Circ) (cs : List CellT) (place : List Int) (net : Int) : (useV c cs place net).length ≤ cs.length + c.outs.length := by
 have h1 := sinkL_le cs net cs.length
 have h2 := padL_le c net c.outs.length
 unfold useV sinkT
 rw [List.length_append, List.length_map]; omega
theorem pinsV_le (c : Circ) (cs : List CellT) (place : List Int) (net : Int) : (pinsV c cs place net).length ≤ 1 + cs.length + (cs.length + c.outs.length) := by
 have h1 := useV_le c cs place net
 have h2 := cellT_le cs place net cs.length
 unfold pinsV
 split
 ·simp
 ·refine Nat.le_trans (onto_len _ _) ?_
  have h3 : (srcV c cs place net).length ≤ 1 + cs.length := by
   unfold srcV
   rw [List.length_append]
   split <;> simp <;> omega
  omega
set_option maxHeartbeats 8000000 in
theorem l7Cost_c (c : Circ) (p : Where3) (ca : Option Addr) (cc : Nat) (cs : List CellT) (F : List Nat) (pa : Option Addr) (pc : Nat) (place : List Int) (w : World) (hc : CircAt w c p) (V : c.Valid) (hN : NstC w (.slice ca cs.length cc) cs F) (hp : IntsAt w pa place) (hpl : place.length = cs.length) (hF : InF place) (hl : cs.length ≤ 17) (hs : ∀ x ∈ cs, Asc x.ins ∧ x.ins.length ≤ 3) :
  Calls Try.prog 100 #[.agg #[.int .i64 c.inputs, .slice p.an c.next.length p.cn, .slice p.ag c.gates.length p.cg, .slice p.ao c.outs.length p.co], .slice ca cs.length cc, .slice pa cs.length pc] w fun e w' => e = .returned (.int .i64 (costV c cs place)) ∧ Ext w w' := by
 have E0 : Ext w (w.alloc (.cells #[.int .i64 c.inputs, .slice p.an c.next.length p.cn, .slice p.ag c.gates.length p.cg, .slice p.ao c.outs.length p.co] 26)) := (Ext.refl w).alloc _
 have y := CircBox.made w c p 26
 have HC := Lib.hid (hc.ext E0)
 have HN := Lib.hid (hN.ext goodCell E0)
 have HP := Lib.hid (hp.ext E0)
 have HV := Lib.hid V
 have HS := Lib.hid hs
 have HPL := Lib.hid hpl
 have HF := Lib.hid hF
 have i0 := V.i0
 have i4 := V.i4
 have ln := V.ln
 have lg := V.lg
 have lo := V.lo
 have hv1 : c.vars = c.first + c.gates.length := rfl
 have hf1 : c.first = 1 + c.inputs + c.next.length := rfl
 have HB : Hid (∀ k, 0 ≤ costK c cs place k ∧ costK c cs place k ≤ 8 * (k : Int)) := Lib.hid (costK_bound V cs hF)
 obtain ⟨n, hn⟩ : ∃ n : Nat, n = (c.vars - 1).toNat := ⟨_, rfl⟩
 have hvn : c.first + c.gates.length = (n : Int) + 1 := by omega
 have hn30 : n ≤ 30 := by omega
 have HD : Hid (costV c cs place = costK c cs place n) := Lib.hid (by unfold costV; rw [hn])
 have HVN := Lib.hid hvn
 have hf30 : c.first ≤ 30 := by omega
 have hf0 : 0 ≤ c.first := by omega
 have hwr : IntKind.i64.wrap (c.first + c.gates.length) = (n : Int) + 1 := by rw [hvn]; exact IntWalk.i64_in _ (by omega)
 clear V hc hN hp hs hpl hF hn hv1 hf1 hvn
 go_enter Try.func100, Try.ntmps100
 go_upto_region 1 with fail
 obtain ⟨w1, hw1⟩ : ∃ x : World, x = w.alloc (.cells #[.int .i64 c.inputs, .slice p.an c.next.length p.cn, .slice p.ag c.gates.length p.cg, .slice p.ao c.outs.length p.co] 26) := ⟨_, rfl⟩
 rw [← hw1] at E0 y HC HN HP
 rw [← hw1]
 clear hw1
 go_wp2_with fail
 go_loopw [7, 8] (fun u7 u8 wr => ∃ k : Nat, k ≤ n ∧ u7 = .int .i64 (costK c cs place k) ∧ u8 = .int .i64 ((k : Int) + 1) ∧ Ext w1 wr) (fun _ v _ => n + 1 - (intOf v).toNat)
 case atStart => exact ⟨0, Nat.zero_le _, rfl, rfl, Ext.refl _⟩
 case round =>
  obtain ⟨k, hk, rfl, rfl, hE⟩ := hrel
  obtain ⟨w2, rfl⟩ : ∃ z : World, z = wr := ⟨_, rfl⟩
  have y2 := y.ext hE
  obtain ⟨b1, b2⟩ := HB.out k
  (obtain ⟨la, a0, a1, a2, a3⟩ := (id y2))
  go_wp2_with fail
  go_region_held3 ((fun w' => (∀ b o, b < w2.heap.size → w'.cell? ⟨b, o, none⟩ = w2.cell? ⟨b, o, none⟩) ∧ Ext w2 w')) ((first | assumption | (with_reducible exact held_mk (Ext.drew w2)) | (with_reducible exact held_mk (((Ext.refl w2).alloc _).drew')) | (with_reducible exact held_mk ((Ext.drew w2).alloc _)))) (first | (go_simp; go_at_call 69; refine (l1First_c c p _ (by omega) (by omega) (by omega)).mono ?_; rintro e w3 ⟨rfl, hE3⟩; have hK3 := held_mk ((Ext.drew w2).trans hE3)))
  have F3 := held_ext hK3
  have E3 := hE.trans F3
  have y3 := y.ext E3
  clear hK3 a0 a1 a2 a3 la y2 hE F3
  by_cases hlt : k < n
  ·have HSN : Hid (costK c cs place (k + 1) = costK c cs place k + distV (pinsV c cs place ((k : Int) + 1))) := Lib.hid rfl
   have hpin : InF (pinsV c cs place ((k : Int) + 1)) := pins_inF HV.out cs HF.out
   have hple : (pinsV c cs place ((k : Int) + 1)).length ≤ 100 := by have := pinsV_le c cs place ((k : Int) + 1); omega
   have hdb := distV_bound hpin
   have hcall := l7Pins_c c p ca cc cs F pa pc place ((k : Int) + 1) w3 (HC.out.ext E3) HV.out (HN.out.ext goodCell E3) (HP.out.ext E3) HPL.out hl HS.out (by omega) (by omega)
   obtain ⟨P, hP⟩ : ∃ P, P = pinsV c cs place ((k : Int) + 1) := ⟨_, rfl⟩
   rw [← hP] at HSN hpin hple hdb hcall
   obtain ⟨d, hd⟩ : ∃ d, d = distV P := ⟨_, rfl⟩
   rw [← hd] at HSN hdb
   obtain ⟨X, hX⟩ : ∃ X, X = costK c cs place k := ⟨_, rfl⟩
   rw [← hX] at HSN b1 b2 ⊢
   obtain ⟨d0, d1⟩ := hdb
   have HP2 := Lib.hid hpin
   have HDD := Lib.hid hd
   have hki : (k : Int) + 1 < (n : Int) + 1 := by omega
   clear hP hpin hd hX
   (obtain ⟨la, a0, a1, a2, a3⟩ := (id y3))
   go_wp2_with fail
   refine hcall.mono ?_
   rintro e w4 ⟨v, rfl, oP, hE4⟩
   obtain ⟨va, vc, rfl, hPA, _⟩ := oP.opened
   clear hcall oP
   go_wp2_with fail
   refine (l7Dist_c va vc P w4 hPA HP2.out hple).mono ?_
   rw [← HDD.out]
   rintro e w5 ⟨rfl, hE5⟩
   have E5 := (E3.trans hE4).trans hE5
   clear a0 a1 a2 a3 la
   go_wp2_with fail
   go_roundw
   case rel => exact ⟨k + 1, by omega, by rw [HSN.out], by go_num, E5⟩
   case measure => simp [intOf]; omega
  ·have hk2 : k = n := by omega
   subst hk2
   go_wp2_with fail
   go_ret
   exact ⟨by rw [HD.out]; rfl, E0.trans E3⟩
end Go.Proofs.Ytgialedmbmfejaa

--@from BCut BBest BLut BCel BSnk
namespace Go.Proofs.Ytgialedmbmfejaa
set_option linter.unusedVariables false
set_option linter.unusedSimpArgs false
def trF (place : List Int) (i : Nat) (t : Int) (k : Nat) : Int := if place.getD k 0 = t then place.getD i 0 else place.getD k 0
theorem over_same {f : Nat → Int} {xs : List Int} {j : Nat} (h : j < xs.length) (e : f j = xs.getD j 0) : over f xs (j + 1) = over f xs j := by
 unfold over
 rw [List.range_succ, List.map_append, List.append_assoc]
 congr 1
 have e2 : xs.drop j = xs.getD j 0 :: xs.drop (j + 1) := by
  rw [List.drop_eq_getElem_cons h, List.getD_eq_getElem?_getD, List.getElem?_eq_getElem h]; rfl
 rw [e2, List.map_singleton, e]; rfl
theorem over_get {f : Nat → Int} {xs : List Int} {j : Nat} (h : j < xs.length) : (over f xs j)[j]? = some (xs.getD j 0) := by
 unfold over
 rw [List.getElem?_append_right (by simp), List.length_map, List.length_range, Nat.sub_self, List.getElem?_drop, Nat.add_zero, List.getElem?_eq_getElem h, List.getD_eq_getElem?_getD, List.getElem?_eq_getElem h]; rfl
theorem tr_all (place : List Int) (i : Nat) (t : Int) : (over (trF place i t) place place.length).set i t = tryV place i t := by
 rw [over_all]
 unfold tryV
 congr 1
 refine List.ext_getElem? (fun k => ?_)
 rw [List.getElem?_map, List.getElem?_map]
 rcases Nat.lt_or_ge k place.length with h | h
 ·rw [List.getElem?_range h, List.getElem?_eq_getElem h]
  have hg : place.getD k 0 = place[k] := by rw [List.getD_eq_getElem?_getD, List.getElem?_eq_getElem h]; rfl
  show some (trF place i t k) = some _
  unfold trF
  rw [hg]
 ·rw [List.getElem?_eq_none (by simpa using h), List.getElem?_eq_none h]; rfl
def rangeI (k : Nat) : List Int := (List.range k).map (fun (i : Nat) => (i : Int))
theorem rangeI_succ (k : Nat) : rangeI (k + 1) = rangeI k ++ [(k : Int)] := by unfold rangeI; rw [List.range_succ, List.map_append]; rfl
theorem rangeI_length (k : Nat) : (rangeI k).length = k := by simp [rangeI]
theorem rangeI_ok {k : Nat} (h : k ≤ 25) : PlOk (rangeI k) := init_ok h
theorem plCell_zero (c : Circ) (cs : List CellT) (s : List Int × Int) (i : Nat) : plCell c cs 0 s i = s := by unfold plCell; rfl
theorem plCell_succ (c : Circ) (cs : List CellT) (t : Nat) (s : List Int × Int) (i : Nat) : plCell c cs (t + 1) s i = plStep c cs i (plCell c cs t s i) t := by
 unfold plCell
 rw [List.range_succ, List.foldl_append, List.foldl_cons, List.foldl_nil]
theorem plSweep_zero (c : Circ) (cs : List CellT) (s : List Int × Int) : plSweep c cs 0 s = s := by unfold plSweep; rfl
theorem plSweep_succ (c : Circ) (cs : List CellT) (j : Nat) (s : List Int × Int) : plSweep c cs (j + 1) s = plCell c cs 25 (plSweep c cs j s) j := by
 unfold plSweep
 rw [List.range_succ, List.foldl_append, List.foldl_cons, List.foldl_nil]
theorem plK_zero (c : Circ) (cs : List CellT) (k : Nat) (hk : k = 0) : (plK c cs k).1 = rangeI cs.length ∧ (plK c cs k).2 = costV c cs (rangeI cs.length) := by
 subst hk
 unfold rangeI
 constructor <;> rw [plK]
theorem plK_succ (c : Circ) (cs : List CellT) (k : Nat) : plK c cs (k + 1) = plSweep c cs cs.length (plK c cs k) := by rw [plK]
end Go.Proofs.Ytgialedmbmfejaa

--@from BCut BBest BLut BCel BSnk
namespace Go.Proofs.Ytgialedmbmfejaa
open Go.RowKit
set_option maxRecDepth 100000
set_option linter.unusedVariables false
set_option linter.unusedSimpArgs false
set_option maxHeartbeats 8000000 in
theorem l7Try_c (a : Option Addr) (cap n : Nat) (place : List Int) (hn : place.length = n) (i : Nat) (t : Nat) (w : World) (hp : IntsAt w a place) (hi : i < n) (hl : n ≤ 100) (ht : t ≤ 100) :
  Calls Try.prog 109 #[.slice a n cap, .int .i64 i, .int .i64 t] w (GiveNL w (tryV place i t)) := by
 have OD := (Blk.at w [] 3 rfl).owns (base := w.heap.size) (size := 1) (n := 0) rfl (Nat.le_refl _) (by decide)
 have ED := (Ext.refl w).alloc (.cells #[] 3)
 have hr := (hp.ext ED).row
 have HTA := Lib.hid (tr_all place i t)
 have HOS : Hid (∀ j, j < place.length → (over (trF place i t) place j).set j (trF place i t j) = over (trF place i t) place (j + 1)) := Lib.hid (fun j hj => over_set (trF place i t) place j hj)
 have HSA : Hid (∀ j, j < place.length → trF place i t j = place.getD j 0 → over (trF place i t) place (j + 1) = over (trF place i t) place j) := Lib.hid (fun j hj e => over_same hj e)
 have HOG : Hid (∀ j, j < place.length → (over (trF place i t) place j)[j]? = some (place.getD j 0)) := Lib.hid (fun j hj => over_get hj)
 have HTF : Hid (∀ j, trF place i t j = if place.getD j 0 = (t : Int) then place.getD i 0 else place.getD j 0) := Lib.hid (fun j => rfl)
 have HOL : Hid (∀ j, j ≤ place.length → (over (trF place i t) place j).length = n) := Lib.hid (fun j hj => by rw [over_length _ _ _ hj, hn])
 have HN := Lib.hid hn
 have hin : (i : Int) < (n : Int) := by omega
 go_enter Try.func109, Try.ntmps109
 go_wp2_with (at_builtin; refine wpList_app tyInts OD hr (by rw [List.length_map, Nat.mul_one, hn]) (oneCell_ints place) (by omega) (by simp) rfl rfl rfl rfl ?_; intro v9 w9 o9 g9 m9)
 have O9 : OwnInts w9 w.heap.size 3 v9 place := by
  have h := o9
  rw [Nat.zero_add, List.nil_append] at h
  unfold OwnInts
  rw [hn]; exact h
 have E9 : Ext w w9 := ext_grown ED g9 (fun q hq => by cases hq; exact Nat.le_refl _)
 have hi2 : i < place.length := by omega
 have hl2 : place.length ≤ 100 := by omega
 have hii : (i : Int) < (place.length : Int) := by omega
 obtain ⟨va, vc, rfl, _, _⟩ := own_sl O9
 obtain ⟨g, rfl, hg, hgl⟩ := ownsRow_block O9 (by omega)
 have O0 : w9.ownsRow w.heap.size 3 1 (.slice (some ⟨g, 0, none⟩) place.length vc) place.length ((over (trF place i t) place 0).map (Value.int .i64)) := by rw [over_zero]; exact O9
 clear o9 g9 m9 OD ED hr hn O9
 go_wp2_with fail
 go_loopw [8] (fun u8 wr => ∃ k : Nat, k ≤ place.length ∧ u8 = .int .i64 k ∧ wr.ownsRow w.heap.size 3 1 (.slice (some ⟨g, 0, none⟩) place.length vc) place.length ((over (trF place i t) place k).map (Value.int .i64)) ∧ Ext w wr) (fun v _ => place.length - (intOf v).toNat)
 case atStart => exact ⟨0, Nat.zero_le _, rfl, O0, E9⟩
 case round =>
  clear O0 E9
  obtain ⟨k, hk, rfl, hO, hE⟩ := hrel
  obtain ⟨w2, rfl⟩ : ∃ z : World, z = wr := ⟨_, rfl⟩
  have hf := fun j => ownsRow_frozen hO j
  have hgb := (World.ownsRow.lt hO g rfl).2
  by_cases hlt : k < place.length
  ·have q1 : w2.cell? ⟨g, k, none⟩ = some (.int .i64 (place.getD k 0)) := ownsRow_cell hO (j := k) (by rw [List.getElem?_map, HOG.out k hlt]; rfl)
   obtain ⟨b5, o5, rfl, hb5, hc5⟩ := (hp.ext hE).get (by omega)
   have q5 := hc5 i hi2
   have h1 := HOS.out k hlt
   have h2 := HSA.out k hlt
   have h3 := HTF.out k
   have h4 := HOL.out k hk
   have h5 := HN.out
   obtain ⟨x, hx⟩ : ∃ x, x = place.getD k 0 := ⟨_, rfl⟩
   obtain ⟨z, hz⟩ : ∃ z, z = place.getD i 0 := ⟨_, rfl⟩
   rw [← hx] at q1 h2 h3
   rw [← hz] at q5 h3
   by_cases he : x = (t : Int)
   ·rw [if_pos he] at h3
    rw [h3] at h1
    have O2 := ownsRow_setAt hO k (by rw [List.length_map]; omega) (.int .i64 z)
    rw [← List.map_set, h1] at O2
    have HO2 := Lib.hid O2
    have he2 : (x == (t : Int)) = true := by simp [he]
    clear hc5 hx hz h1 h2 h3 h4 h5 O2 he hO
    go_wp2_with fail
    go_roundw
    case rel => exact ⟨k + 1, by omega, by go_num, HO2.out, Ext.setNew hE hg _⟩
    case measure => simp [intOf]; omega
   ·rw [if_neg he] at h3
    have h6 := h2 h3
    have HO2 : Hid (w2.ownsRow w.heap.size 3 1 (.slice (some ⟨g, 0, none⟩) place.length vc) place.length ((over (trF place i t) place (k + 1)).map (Value.int .i64))) := Lib.hid (by rw [h6]; exact hO)
    have he2 : (x == (t : Int)) = false := by simp [he]
    clear hc5 hx hz h1 h2 h3 h4 h5 h6 he hO
    go_wp2_with fail
    go_roundw
    case rel => exact ⟨k + 1, by omega, by go_num, HO2.out, hE⟩
    case measure => simp [intOf]; omega
  ·have hk2 : k = place.length := by omega
   have h4 := HOL.out k hk
   have h5 := HN.out
   rw [hk2] at hO h4
   have O2 := ownsRow_setAt hO i (by rw [List.length_map]; omega) (.int .i64 (t : Int))
   rw [← List.map_set, HTA.out] at O2
   have HO2 := Lib.hid O2
   have q1 : ∃ u, w2.cell? ⟨g, i, none⟩ = some (.int .i64 u) := by
    have hi3 : i < (over (trF place i t) place place.length).length := by omega
    exact ⟨_, ownsRow_cell hO (j := i) (by rw [List.getElem?_map, List.getElem?_eq_getElem hi3]; rfl)⟩
   obtain ⟨u, q1⟩ := q1
   clear h4 h5 O2 hk2 hO
   go_wp2_with fail
   go_ret
   exact ⟨_, rfl, by unfold OwnInts; rw [tryV_length]; exact HO2.out, Ext.setNew hE hg _⟩
set_option maxHeartbeats 16000000 in
theorem l7Place_c (c : Circ) (p : Where3) (ca : Option Addr) (cc : Nat) (cs : List CellT) (F : List Nat) (w : World) (hc : CircAt w c p) (V : c.Valid) (hN : NstC w (.slice ca cs.length cc) cs F) (hl : cs.length ≤ 17) (hs : ∀ x ∈ cs, Asc x.ins ∧ x.ins.length ≤ 3) :
    Calls Try.prog 66 #[.agg #[.int .i64 c.inputs, .slice p.an c.next.length p.cn, .slice p.ag c.gates.length p.cg, .slice p.ao c.outs.length p.co], .slice ca cs.length cc] w (GiveNL w (plK c cs 3).1) := by
  have E0 : Ext w (w.alloc (.cells #[.int .i64 c.inputs, .slice p.an c.next.length p.cn, .slice p.ag c.gates.length p.cg, .slice p.ao c.outs.length p.co] 26)) := (Ext.refl w).alloc _
  have y := CircBox.made w c p 26
  have HC := Lib.hid (hc.ext E0)
  have HN := Lib.hid (hN.ext goodCell E0)
  have HLC := Lib.hid (fun W pa pc place (h1 : CircAt W c p) (h2 : NstC W (.slice ca cs.length cc) cs F) (h3 : IntsAt W pa place) (h4 : place.length = cs.length) (h5 : InF place) => l7Cost_c c p ca cc cs F pa pc place W h1 V h2 h3 h4 h5 hl hs)
  have HIN := Lib.hid (plK_inv (c := c) (cs := cs) (by omega))
  have HK0 := Lib.hid (fun k => plK_zero c cs k)
  have HK1 := Lib.hid (plK_succ c cs)
  obtain ⟨pk, hpk⟩ : ∃ pk, pk = plK c cs := ⟨_, rfl⟩
  rw [← hpk] at HIN HK0 HK1 ⊢
  obtain ⟨m, hm⟩ : ∃ m, m = costV c cs ((List.range cs.length).map (fun (i : Nat) => (i : Int))) := ⟨_, rfl⟩
  rw [← hm] at HIN
  obtain ⟨D, hD⟩ : ∃ D, D = (pk 3).1 := ⟨_, rfl⟩
  rw [← hD]
  have HD := Lib.hid hD
  clear hc V hN hs hpk hm hD
  go_enter Try.func66, Try.ntmps66
  go_upto_region 1 with fail
  obtain ⟨w1, hw1⟩ : ∃ x : World, x = w.alloc (.cells #[.int .i64 c.inputs, .slice p.an c.next.length p.cn, .slice p.ag c.gates.length p.cg, .slice p.ao c.outs.length p.co] 26) := ⟨_, rfl⟩
  rw [← hw1] at E0 y HC HN
  rw [← hw1]
  clear hw1
  have O0 : OwnInts (w1.alloc (.cells #[] 3)) w1.heap.size 3 (.slice (some ⟨w1.heap.size, 0, none⟩) 0 0) (rangeI 0) := (Blk.at w1 [] 3 rfl).owns (n := 0) (size := 1) rfl (Nat.le_refl _) (by decide)
  have E10 := (Ext.refl w1).alloc (.cells #[] 3)
  go_wp2_with fail
  go_loopw [5, 6] (fun u5 u6 wr => ∃ k : Nat, k ≤ cs.length ∧ u6 = .int .i64 k ∧ OwnInts wr w1.heap.size 3 u5 (rangeI k) ∧ Ext w1 wr) (fun _ v _ => cs.length - (intOf v).toNat)
  case atStart => exact ⟨0, Nat.zero_le _, rfl, O0, E10⟩
  case round =>
    clear O0 E10
    obtain ⟨k, hk, rfl, hO, hE⟩ := hrel
    obtain ⟨w2, rfl⟩ : ∃ z : World, z = wr := ⟨_, rfl⟩
    have hrs := rangeI_succ k
    have hrl := rangeI_length k
    by_cases hlt : k < cs.length
    · obtain ⟨S, hS⟩ : ∃ S, S = rangeI k := ⟨_, rfl⟩
      rw [← hS] at hO hrs hrl
      have hSl : S.length ≤ 17 := by omega
      have HRS := Lib.hid hrs
      have hsz := hE.size
      clear hS hrl hrs
      go_wp2_with (at_builtin; refine wpList_app tyInts (ownsRow_ext hO (by (repeat (first | with_reducible assumption | with_reducible exact Ext.refl _ | with_reducible refine Ext.drew' ?_ | with_reducible refine Ext.drewN' ?_ _ | with_reducible refine Ext.alloc ?_ _ | (with_reducible refine Ext.setNew ?_ (by first | exact Nat.le_refl _ | (simp; done) | (simp; omega) | omega) _))))) (rowNew _ _ _ (by simp)) rfl (by simp [Value.oneCell']) (by omega) (by simp; omega) rfl rfl rfl rfl ?_; intro v9 w9 o9 g9 m9)
      have E9 : Ext w1 w9 := ext_grown (w1 := _) (Ext.trans hE (by (repeat (first | with_reducible assumption | with_reducible exact Ext.refl _ | with_reducible refine Ext.drew' ?_ | with_reducible refine Ext.drewN' ?_ _ | with_reducible refine Ext.alloc ?_ _ | (with_reducible refine Ext.setNew ?_ (by first | exact Nat.le_refl _ | (simp; done) | (simp; omega) | omega) _))))) g9 (fun q hq => (own_lo hO q hq).1)
      have O9 : OwnInts w9 w1.heap.size 3 v9 (S ++ [(k : Int)]) := own_app (xs := S) (ys := [(k : Int)]) rfl rfl o9
      go_roundw
      case rel => exact ⟨k + 1, by omega, by go_num, by rw [HRS.out]; exact O9, E9⟩
      case measure => simp [intOf]; omega
    · have hk2 : k = cs.length := by omega
      have hnn : ¬ ((k : Int) < (cs.length : Int)) := by omega
      rw [hk2] at hO
      obtain ⟨pa, pc, rfl⟩ := own_len hO (n := cs.length) (rangeI_length _)
      have hr0 := HK0.out 0 rfl
      have hI0 := HIN.out 0
      rw [← hr0.1] at hO
      have hcall := HLC.out w2 pa pc (pk 0).1 (HC.out.ext hE) (HN.out.ext goodCell hE) (own_at hO) hI0.len hI0.ok.1
      rw [← hI0.cost] at hcall
      have y2 := y.ext hE
      clear hrs hrl hk2 hr0 hI0
      (obtain ⟨lb, b0, b1, b2, b3⟩ := (id y2))
      go_wp2_with fail
      refine hcall.mono ?_
      rintro e w3 ⟨rfl, hE3⟩
      have O3 := ownsRow_ext hO hE3
      have E3 := hE.trans hE3
      clear hcall b0 b1 b2 b3 lb y2 hO hE hE3 hlt hnn
      go_wp2_with fail
      go_loopw [5, 7, 8] (fun u5 u7 u8 wr => ∃ (k : Nat) (pa : Option Addr) (pc : Nat), k ≤ 3 ∧ u8 = .int .i64 k ∧ u5 = .slice pa cs.length pc ∧ u7 = .int .i64 (pk k).2 ∧ OwnInts wr w1.heap.size 3 (.slice pa cs.length pc) (pk k).1 ∧ Ext w1 wr) (fun _ _ v _ => 3 - (intOf v).toNat)
      case atStart => exact ⟨0, pa, pc, Nat.zero_le _, rfl, rfl, rfl, O3, E3⟩
      case round =>
        clear O3 E3
        obtain ⟨k, pa, pc, hk, rfl, rfl, rfl, hO, hE⟩ := hrel
        by_cases hlt : k < 3
        · have hk3i : (k : Int) < 3 := by omega
          have hI0 := HIN.out k
          have hks := HK1.out k
          obtain ⟨s0, hs0⟩ : ∃ s, s = pk k := ⟨_, rfl⟩
          rw [← hs0] at hI0 hks hO ⊢
          have HI0 := Lib.hid hI0
          have HKS := Lib.hid hks
          clear hs0 hI0 hks
          go_wp2_with fail
          go_loopw [5, 7, 9] (fun u5 u7 u9 wr => ∃ (j : Nat) (pa : Option Addr) (pc : Nat), j ≤ cs.length ∧ u9 = .int .i64 j ∧ u5 = .slice pa cs.length pc ∧ u7 = .int .i64 (plSweep c cs j s0).2 ∧ OwnInts wr w1.heap.size 3 (.slice pa cs.length pc) (plSweep c cs j s0).1 ∧ Ext w1 wr) (fun _ _ v _ => cs.length - (intOf v).toNat)
          case atStart => exact ⟨0, pa, pc, Nat.zero_le _, rfl, rfl, rfl, hO, hE⟩
          case round =>
            clear hO hE
            obtain ⟨j, pa, pc, hj, rfl, rfl, rfl, hO, hE⟩ := hrel
            by_cases hlt2 : j < cs.length
            · have hj3i : (j : Int) < (cs.length : Int) := by omega
              have hI1 := plSweep_inv HI0.out hj
              have hks := plSweep_succ c cs j s0
              obtain ⟨s1, hs1⟩ : ∃ s, s = plSweep c cs j s0 := ⟨_, rfl⟩
              rw [← hs1] at hI1 hks hO ⊢
              have HI1 := Lib.hid hI1
              have HKS2 := Lib.hid hks
              clear hs1 hI1 hks
              go_wp2_with fail
              go_loopw [5, 7, 10, 11, 12] (fun u5 u7 u10 u11 u12 wr => ∃ (t : Nat) (pa : Option Addr) (pc : Nat), t ≤ 25 ∧ u10 = .int .i64 t ∧ u5 = .slice pa cs.length pc ∧ u7 = .int .i64 (plCell c cs t s1 j).2 ∧ OwnInts wr w1.heap.size 3 (.slice pa cs.length pc) (plCell c cs t s1 j).1 ∧ Ext w1 wr) (fun _ _ v _ _ _ => 25 - (intOf v).toNat)
              case atStart => exact ⟨0, pa, pc, Nat.zero_le _, rfl, rfl, rfl, hO, hE⟩
              case round =>
                clear hO hE
                obtain ⟨t, pa, pc, ht, rfl, rfl, rfl, hO, hE⟩ := hrel
                obtain ⟨w5, rfl⟩ : ∃ z : World, z = wr := ⟨_, rfl⟩
                by_cases hlt3 : t < 25
                · have ht3i : (t : Int) < 25 := by omega
                  have hI2 := plCell_inv HI1.out hlt2 ht
                  have hks : plCell c cs (t + 1) s1 j = if costV c cs (tryV (plCell c cs t s1 j).1 j t) < (plCell c cs t s1 j).2 then (tryV (plCell c cs t s1 j).1 j t, costV c cs (tryV (plCell c cs t s1 j).1 j t)) else plCell c cs t s1 j := plCell_succ c cs t s1 j
                  obtain ⟨s2, hs2⟩ : ∃ s, s = plCell c cs t s1 j := ⟨_, rfl⟩
                  rw [← hs2] at hI2 hks hO ⊢
                  have htl : (tryV s2.1 j t).length = cs.length := by rw [tryV_length]; exact hI2.len
                  have hti := tryV_inF hI2.ok.1 j (t := (t : Int)) (by omega)
                  have htry := l7Try_c pa pc cs.length s2.1 hI2.len j t w5 (own_at hO) hlt2 (by omega) (by omega)
                  obtain ⟨T, hT⟩ : ∃ T, T = tryV s2.1 j t := ⟨_, rfl⟩
                  rw [← hT] at hks htl hti htry
                  obtain ⟨N, hN⟩ : ∃ N, N = costV c cs T := ⟨_, rfl⟩
                  rw [← hN] at hks
                  obtain ⟨st, sc⟩ := s2
                  dsimp only at hks hO htry ⊢
                  have HTL := Lib.hid htl
                  have HTI := Lib.hid hti
                  have HKS3 := Lib.hid hks
                  have HNN := Lib.hid hN
                  clear hs2 hI2 hks htl hti hT hN
                  go_wp2_with fail
                  refine htry.mono ?_
                  rintro e w6 ⟨v, rfl, oT, hE6⟩
                  obtain ⟨ta, tc, rfl⟩ := own_len oT HTL.out
                  have E6 := hE.trans hE6
                  have O6 := ownsRow_ext hO hE6
                  have hcall := HLC.out w6 ta tc T (HC.out.ext E6) (HN.out.ext goodCell E6) (own_at oT) HTL.out HTI.out
                  rw [← HNN.out] at hcall
                  have oT2 : OwnInts w6 w1.heap.size 3 (.slice ta cs.length tc) T := ownsRow_base oT hE.size
                  have y6 := y.ext E6
                  clear htry oT hO hE hE6
                  (obtain ⟨lb, b0, b1, b2, b3⟩ := (id y6))
                  go_wp2_with fail
                  refine hcall.mono ?_
                  rintro e w7 ⟨rfl, hE7⟩
                  have O7 := ownsRow_ext O6 hE7
                  have T7 := ownsRow_ext oT2 hE7
                  have E7 := E6.trans hE7
                  clear hcall O6 oT2 hE7 b0 b1 b2 b3 lb y6 E6
                  by_cases hcmp : N < sc
                  · have hk3 : plCell c cs (t + 1) s1 j = (T, N) := by rw [HKS3.out, if_pos hcmp]
                    have HK3 := Lib.hid hk3
                    clear hk3
                    go_wp2_with fail
                    go_roundw
                    case rel =>
                     exact ⟨t + 1, ta, tc, by omega, by go_num, rfl, by rw [HK3.out], by rw [HK3.out]; exact T7, E7⟩
                    case measure => simp [intOf]; omega
                  · have hk3 : plCell c cs (t + 1) s1 j = (st, sc) := by rw [HKS3.out, if_neg hcmp]
                    have HK3 := Lib.hid hk3
                    clear hk3
                    go_wp2_with fail
                    go_roundw
                    case rel => exact ⟨t + 1, pa, pc, by omega, by go_num, rfl, by rw [HK3.out], by rw [HK3.out]; exact O7, E7⟩
                    case measure => simp [intOf]; omega
                · have ht2 : t = 25 := by omega
                  have hnn : ¬ ((t : Int) < 25) := by omega
                  obtain ⟨s2, hs2⟩ : ∃ s, s = plCell c cs t s1 j := ⟨_, rfl⟩
                  rw [← hs2] at hO ⊢
                  have HK3 : Hid (plSweep c cs (j + 1) s0 = s2) := Lib.hid (by rw [HKS2.out, hs2, ht2])
                  clear hs2 ht2
                  go_wp2_with fail
                  go_roundw
                  case rel => exact ⟨j + 1, pa, pc, by omega, by go_num, rfl, by rw [HK3.out], by rw [HK3.out]; exact hO, hE⟩
                  case measure => simp [intOf]; omega
            · have hj2 : j = cs.length := by omega
              have hnn : ¬ ((j : Int) < (cs.length : Int)) := by omega
              obtain ⟨s2, hs2⟩ : ∃ s, s = plSweep c cs j s0 := ⟨_, rfl⟩
              rw [← hs2] at hO ⊢
              have HK3 : Hid (pk (k + 1) = s2) := Lib.hid (by rw [HKS.out, hs2, hj2])
              clear hs2 hj2
              go_wp2_with fail
              go_roundw
              case rel => exact ⟨k + 1, pa, pc, by omega, by go_num, rfl, by rw [HK3.out], by rw [HK3.out]; exact hO, hE⟩
              case measure => simp [intOf]; omega
        · have hk2 : k = 3 := by omega
          have hnn : ¬ ((k : Int) < 3) := by omega
          rw [hk2, ← HD.out] at hO
          obtain ⟨X, hX⟩ : ∃ X, X = (pk k).2 := ⟨_, rfl⟩
          rw [← hX]
          clear hX hk2
          go_wp2_with fail
          go_ret
          exact ⟨_, rfl, ownsRow_base hO E0.size, E0.trans hE⟩
set_option maxHeartbeats 4000000 in
theorem specPlace_c (c : Circ) (p : Where3) (w : World) (hc : CircAt w c p) :
  Calls Try.prog 16 #[.agg #[.int .i64 c.inputs, .slice p.an c.next.length p.cn, .slice p.ag c.gates.length p.cg, .slice p.ao c.outs.length p.co]] w (GiveNL w (placeV c)) := by
 have E0 : Ext w (w.alloc (.cells #[.int .i64 c.inputs, .slice p.an c.next.length p.cn, .slice p.ag c.gates.length p.cg, .slice p.ao c.outs.length p.co] 26)) := (Ext.refl w).alloc _
 have y := CircBox.made w c p 26
 have HW : Hid (placeV c = if validB c then (plK c (cellsN c) 3).1 else []) := Lib.hid rfl
 obtain ⟨D, hD⟩ : ∃ D, D = placeV c := ⟨_, rfl⟩
 rw [← hD] at HW ⊢
 clear hD
 (obtain ⟨lb, b0, b1, b2, b3⟩ := (id y))
 go_enter Try.func16, Try.ntmps16
 go_wp2_with fail
 refine (specCircuitValid_c c p _ (hc.ext E0)).mono ?_
 rintro e w1 ⟨rfl, hE1⟩
 clear b0 b1 b2 b3 lb
 have y1 := y.ext hE1
 have E1 := E0.trans hE1
 cases hv : validB c
 ·have hd : D = [] := by rw [HW.out, hv]; rfl
  subst hd
  have O0 : OwnInts (w1.alloc (.cells #[] 3)) w1.heap.size 3 (.slice (some ⟨w1.heap.size, 0, none⟩) 0 0) [] := (Blk.at w1 [] 3 rfl).owns (n := 0) (size := 1) rfl (Nat.le_refl _) (by decide)
  have EA := E1.alloc (.cells #[] 3)
  go_wp2_with fail
  go_ret
  exact ⟨_, rfl, ownsRow_base O0 E1.size, EA⟩
 ·have V := validB_iff.1 hv
  have hd : D = (plK c (cellsN c) 3).1 := by rw [HW.out, hv]; rfl
  have hcv : cellsV c = cellsN c := by unfold cellsV; rw [hv]; rfl
  have hsm := cells_sm c
  rw [hcv] at hsm
  have hall : ∀ x ∈ cellsN c, Asc x.ins ∧ x.ins.length ≤ 3 := fun x hx => ⟨cells_asc V x hx, hsm.2 x hx⟩
  have hl17 := hsm.1
  have HALL := Lib.hid hall
  have HD := Lib.hid hd
  have HV := Lib.hid V
  obtain ⟨cs, hcs⟩ : ∃ cs, cs = cellsN c := ⟨_, rfl⟩
  have hcC := l6Cells_c c p
  rw [← hcs] at hl17 HALL HD hcC
  have HCC := Lib.hid hcC
  clear HW V hcv hd hsm hall hcs hcC hv
  (obtain ⟨lb, b0, b1, b2, b3⟩ := (id y1))
  go_wp2_with fail
  go_region_held3 ((fun w' => (∀ b o, b < w1.heap.size → w'.cell? ⟨b, o, none⟩ = w1.cell? ⟨b, o, none⟩) ∧ Ext w1 w')) ((first | assumption | (with_reducible exact held_mk (Ext.drew w1)) | (with_reducible exact held_mk (((Ext.refl w1).alloc _).drew')) | (with_reducible exact held_mk ((Ext.drew w1).alloc _)))) (first
   | (go_simp; go_at_call 67; refine (HCC.out _ (hc.ext (E1.trans (Ext.drew _))) HV.out).mono ?_; rintro e w2 ⟨v, F, rfl, hN, _, hE2⟩; obtain ⟨ca, cc, rfl, _⟩ := hN.sl; have hX2 : Ext w1 w2 := (Ext.drew w1).trans hE2; have hK2 := held_mk hX2)
   | (go_simp; go_at_call 66; refine (l7Place_c c p ca cc cs F _ (hc.ext (E1.trans hX2)) HV.out hN hl17 HALL.out).mono ?_; rw [← HD.out]; rintro e w3 ⟨v3, rfl, hO3, hE3⟩; have hK3 := held_mk (hX2.trans hE3)))
  go_wp2
  go_ret
  exact ⟨_, rfl, ownsRow_base hO3 (by have := E1.size; have := hX2.size; omega), E1.trans (hX2.trans hE3)⟩
end Go.Proofs.Ytgialedmbmfejaa

