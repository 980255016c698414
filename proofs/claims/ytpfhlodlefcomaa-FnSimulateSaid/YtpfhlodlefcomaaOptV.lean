/- Plain lists: what Optimize computes. -/
import Derived.Test.YtpfhlodlefcomaaVal
import Derived.Test.YtpfhlodlefcomaaLev
import Derived.Test.YtpfhlodlefcomaaCBuild
namespace Go.Proofs.Ytpfhlodlefcomaa
open Go.RowKit
set_option linter.unusedVariables false
set_option linter.unusedSimpArgs false
theorem litB_ii {l n : Int} : litB l n = true ↔ 0 ≤ l ∧ l < 2 * n := by simp [litB]
/-- The literal x, complemented if l is. -/
def xorL (x l : Int) : Int := if l % 2 = 1 then (if x % 2 = 0 then x + 1 else x - 1) else x
def mapL (m : List Int) (l : Int) : Int := xorL (m.getD (l / 2).toNat 0) l
theorem xorL_div (x l : Int) : xorL x l / 2 = x / 2 := by unfold xorL; split <;> (try split) <;> omega
theorem xorL_nonneg {x : Int} (l : Int) (h : 0 ≤ x) : 0 ≤ xorL x l := by unfold xorL; split <;> (try split) <;> omega
theorem xorL_lt {x n : Int} (l : Int) (h : x < 2 * n) : xorL x l < 2 * n := by have := xorL_div x l; omega
theorem xor_bit (x l : Int) (h0 : 0 ≤ x) (h1 : x < 2 ^ 61) : bits .xor .i64 x (l % 2) = xorL x l := by
  obtain ⟨n, rfl⟩ := Int.eq_ofNat_of_zero_le h0
  rcases (by omega : l % 2 = 0 ∨ l % 2 = 1) with h | h
  · rw [h]
    have := xor64 n 0 (by omega) (by omega)
    rw [Nat.xor_zero] at this
    unfold xorL
    rw [if_neg (by omega)]
    exact this
  · rw [h]
    have e : bits .xor .i64 (n : Int) 1 = ((n ^^^ 1 : Nat) : Int) := xor64 n 1 (by omega) (by omega)
    have hd := Nat.xor_div_two (a := n) (b := 1)
    have hm : (n ^^^ 1) % 2 = (n % 2) ^^^ 1 := by
      have := Nat.xor_mod_two_pow (a := n) (b := 1) (n := 1)
      simpa using this
    have hm2 : (n ^^^ 1) % 2 = 1 - n % 2 := by
      rw [hm]
      rcases Nat.mod_two_eq_zero_or_one n with h | h <;> rw [h] <;> rfl
    unfold xorL
    rw [if_pos h, e]
    simp at hd
    split <;> omega
theorem litB_xor {x l n : Int} (h : litB x n = true) : litB (xorL x l) n = true := by
  rw [litB_ii] at h ⊢
  exact ⟨xorL_nonneg l h.1, xorL_lt l h.2⟩
/-- The conjunction of two literals over the gates so far. -/
def andS (f : Int) (gs : List (Int × Int)) (a b : Int) : List (Int × Int) × Int :=
  if a = 0 ∨ (a = b - 1 ∧ a % 2 = 0) then (gs, 0) else if a = 1 ∨ a = b then (gs, b)
  else (if (a, b) ∈ gs then gs else gs ++ [(a, b)], 2 * (f + (gs.idxOf (a, b) : Nat)))
def andG (f : Int) (gs : List (Int × Int)) (a b : Int) : List (Int × Int) × Int := if b < a then andS f gs b a else andS f gs a b
theorem idxOf_at (gs : List (Int × Int)) (g : Int × Int) (k : Nat) (hk : k < gs.length) (hg : gs.getD k (0, 0) = g) (hp : ∀ i, i < k → gs.getD i (0, 0) ≠ g) : gs.idxOf g = k ∧ g ∈ gs := by
  induction gs generalizing k with
  | nil => simp at hk
  | cons x xs ih =>
    cases k with
    | zero => simp at hg; subst hg; simp [List.idxOf_cons_self]
    | succ k =>
      have h0 := hp 0 (by omega)
      simp at h0
      have := ih k (by simpa using hk) (by simpa using hg) (fun i hi => by simpa using hp (i + 1) (by omega))
      refine ⟨?_, List.mem_cons_of_mem _ this.2⟩
      have hb : (x == g) = false := by simpa using h0
      rw [List.idxOf_cons, hb, this.1]; rfl
theorem not_mem_getD {gs : List (Int × Int)} {g : Int × Int} (hp : ∀ i, i < gs.length → gs.getD i (0, 0) ≠ g) : g ∉ gs ∧ gs.idxOf g = gs.length := by
  have h : g ∉ gs := by
    intro hm
    obtain ⟨i, hi, e⟩ := List.mem_iff_getElem.1 hm
    exact hp i hi (by rw [List.getD_eq_getElem?_getD, List.getElem?_eq_getElem hi]; exact e)
  exact ⟨h, List.idxOf_eq_length h⟩
theorem andS_zero {f : Int} {gs : List (Int × Int)} {a b : Int} (h : a = 0 ∨ (a = b - 1 ∧ a % 2 = 0)) : andS f gs a b = (gs, 0) := by unfold andS; rw [if_pos h]
theorem andS_one {f : Int} {gs : List (Int × Int)} {a b : Int} (h : ¬ (a = 0 ∨ (a = b - 1 ∧ a % 2 = 0))) (h2 : a = 1 ∨ a = b) : andS f gs a b = (gs, b) := by unfold andS; rw [if_neg h, if_pos h2]
theorem andS_old {f : Int} {gs : List (Int × Int)} {a b : Int} (h : ¬ (a = 0 ∨ (a = b - 1 ∧ a % 2 = 0))) (h2 : ¬ (a = 1 ∨ a = b)) (k : Nat) (hk : k < gs.length) (hg : gs.getD k (0, 0) = (a, b)) (hp : ∀ i, i < k → gs.getD i (0, 0) ≠ (a, b)) :
    andS f gs a b = (gs, 2 * (f + k)) := by
  have := idxOf_at gs (a, b) k hk hg hp
  unfold andS; rw [if_neg h, if_neg h2, this.1, if_pos this.2]
theorem andS_new {f : Int} {gs : List (Int × Int)} {a b : Int} (h : ¬ (a = 0 ∨ (a = b - 1 ∧ a % 2 = 0))) (h2 : ¬ (a = 1 ∨ a = b)) (hp : ∀ i, i < gs.length → gs.getD i (0, 0) ≠ (a, b)) :
    andS f gs a b = (gs ++ [(a, b)], 2 * (f + gs.length)) := by
  have := not_mem_getD hp
  unfold andS; rw [if_neg h, if_neg h2, this.2, if_neg this.1]
/-- All gates refer to what is before them. -/
def GsIn (f : Int) (gs : List (Int × Int)) : Prop := ∀ i, i < gs.length → litB (gs.getD i (0, 0)).1 (f + i) = true ∧ litB (gs.getD i (0, 0)).2 (f + i) = true
theorem GsIn.snoc {f : Int} {gs : List (Int × Int)} (h : GsIn f gs) {a b : Int} (ha : litB a (f + gs.length) = true) (hb : litB b (f + gs.length) = true) : GsIn f (gs ++ [(a, b)]) := by
  intro i hi
  rcases Nat.lt_or_ge i gs.length with h' | h'
  · have := h i h'
    simpa [List.getD_eq_getElem?_getD, List.getElem?_append_left h'] using this
  · have e : i = gs.length := by simp at hi; omega
    subst e
    simpa [List.getD_eq_getElem?_getD] using And.intro ha hb
theorem andS_ok {f : Int} {gs : List (Int × Int)} {a b : Int} (hf : 1 ≤ f) (hg : GsIn f gs) (ha : litB a (f + gs.length) = true) (hb : litB b (f + gs.length) = true) :
    GsIn f (andS f gs a b).1 ∧ litB (andS f gs a b).2 (f + (andS f gs a b).1.length) = true ∧ gs.length ≤ (andS f gs a b).1.length ∧ (andS f gs a b).1.length ≤ gs.length + 1 := by
  rw [litB_ii] at ha hb
  by_cases h : a = 0 ∨ (a = b - 1 ∧ a % 2 = 0)
  · rw [andS_zero h]
    exact ⟨hg, litB_ii.2 (by simp; omega), by simp, by simp⟩
  by_cases h2 : a = 1 ∨ a = b
  · rw [andS_one h h2]
    exact ⟨hg, litB_ii.2 hb, by simp, by simp⟩
  unfold andS
  rw [if_neg h, if_neg h2]
  by_cases hm : (a, b) ∈ gs
  · rw [if_pos hm]
    have := List.idxOf_lt_length_of_mem hm
    exact ⟨hg, litB_ii.2 (by simp only; omega), by simp, by simp⟩
  · rw [if_neg hm, List.idxOf_eq_length hm]
    exact ⟨hg.snoc (litB_ii.2 ha) (litB_ii.2 hb), litB_ii.2 (by simp only [List.length_append, List.length_cons, List.length_nil]; omega), by simp, by simp⟩
theorem andG_ok {f : Int} {gs : List (Int × Int)} {a b : Int} (hf : 1 ≤ f) (hg : GsIn f gs) (ha : litB a (f + gs.length) = true) (hb : litB b (f + gs.length) = true) :
    GsIn f (andG f gs a b).1 ∧ litB (andG f gs a b).2 (f + (andG f gs a b).1.length) = true ∧ gs.length ≤ (andG f gs a b).1.length ∧ (andG f gs a b).1.length ≤ gs.length + 1 := by
  unfold andG
  split
  · exact andS_ok hf hg hb ha
  · exact andS_ok hf hg ha hb
/-- Which gates are used. -/
def markG (f : Int) (us : List Bool) (l : Int) : List Bool := if f ≤ l / 2 then us.set (l / 2 - f).toNat true else us
def rootU (f : Int) (n : Nat) (rs : List Int) : List Bool := rs.foldl (markG f) (List.replicate n false)
def useStep (f : Int) (gs : List (Int × Int)) (us : List Bool) (i : Nat) : List Bool :=
  if us.getD i false = true then markG f (markG f us (gs.getD i (0, 0)).1) (gs.getD i (0, 0)).2 else us
def useDown (f : Int) (gs : List (Int × Int)) : Nat → List Bool → List Bool
  | 0, us => us
  | k + 1, us => useDown f gs k (useStep f gs us k)
def usedV (c : Circ) : List Bool := useDown c.first c.gates c.gates.length (rootU c.first c.gates.length (c.outs ++ c.next))
theorem markG_length (f : Int) (us : List Bool) (l : Int) : (markG f us l).length = us.length := by unfold markG; split <;> simp
theorem foldl_mark_length (f : Int) (rs : List Int) : ∀ us, (rs.foldl (markG f) us).length = us.length := by
  induction rs with
  | nil => intro us; rfl
  | cons r rs ih => intro us; rw [List.foldl_cons, ih, markG_length]
theorem rootU_length (f : Int) (n : Nat) (rs : List Int) : (rootU f n rs).length = n := by unfold rootU; rw [foldl_mark_length]; simp
theorem useStep_length (f : Int) (gs : List (Int × Int)) (us : List Bool) (i : Nat) : (useStep f gs us i).length = us.length := by unfold useStep; split <;> simp [markG_length]
theorem useDown_length (f : Int) (gs : List (Int × Int)) : ∀ k us, (useDown f gs k us).length = us.length
  | 0, us => rfl
  | k + 1, us => by rw [useDown, useDown_length f gs k, useStep_length]
theorem usedV_length (c : Circ) : (usedV c).length = c.gates.length := by unfold usedV; rw [useDown_length, rootU_length]
theorem drop_getD {α : Type} (xs : List α) (k : Nat) (d : α) (h : k < xs.length) : xs.drop k = xs.getD k d :: xs.drop (k + 1) := by
  rw [List.drop_eq_getElem_cons h, List.getD_eq_getElem?_getD, List.getElem?_eq_getElem h]; rfl
theorem markG_at (f : Int) (us : List Bool) (l : Int) (h : f ≤ l / 2) : markG f us l = us.set (l / 2 - f).toNat true := by unfold markG; rw [if_pos h]
theorem markG_no (f : Int) (us : List Bool) (l : Int) (h : l / 2 < f) : markG f us l = us := by unfold markG; rw [if_neg (by omega)]
/-- One round of building. -/
def bStep (share : Bool) (f : Int) (s : List (Int × Int) × List Int) (gu : (Int × Int) × Bool) : List (Int × Int) × List Int :=
  if gu.2 then
    (if share then ((andG f s.1 (mapL s.2 gu.1.1) (mapL s.2 gu.1.2)).1, s.2 ++ [(andG f s.1 (mapL s.2 gu.1.1) (mapL s.2 gu.1.2)).2])
      else (s.1 ++ [(mapL s.2 gu.1.1, mapL s.2 gu.1.2)], s.2 ++ [2 * (f + s.1.length)]))
  else (s.1, s.2 ++ [0])
def own0 (n : Nat) : List Int := (List.range n).map fun (v : Nat) => 2 * (v : Int)
theorem own0_length (n : Nat) : (own0 n).length = n := by simp [own0]
theorem own0_snoc (n : Nat) : own0 (n + 1) = own0 n ++ [2 * (n : Int)] := by simp [own0, List.range_succ]
theorem own0_get (n i : Nat) (h : i < n) : (own0 n).getD i 0 = 2 * (i : Int) := by simp [own0, List.getD_eq_getElem?_getD, h]
def buildS (share : Bool) (c : Circ) : List (Int × Int) × List Int := (c.gates.zip (usedV c)).foldl (bStep share c.first) ([], own0 c.first.toNat)
def buildV (share : Bool) (c : Circ) : Circ := ⟨c.inputs, c.next.map (mapL (buildS share c).2), (buildS share c).1, c.outs.map (mapL (buildS share c).2)⟩
noncomputable def optV (c : Circ) : Circ := if validB c then buildV false (buildV true c) else ⟨0, [], [], []⟩
/-- What holds while a circuit is being built. -/
structure BOk (f : Int) (i : Nat) (s : List (Int × Int) × List Int) : Prop where
  gs : GsIn f s.1
  ml : (s.2.length : Int) = f + i
  ms : ∀ l ∈ s.2, litB l (f + s.1.length) = true
  gl : s.1.length ≤ i
theorem litB_up {l n m : Int} (h : litB l n = true) (hm : n ≤ m) : litB l m = true := by rw [litB_ii] at h ⊢; omega
theorem getD_mem {α : Type} {xs : List α} {k : Nat} {d : α} (h : k < xs.length) : xs.getD k d ∈ xs := by
  rw [List.getD_eq_getElem?_getD, List.getElem?_eq_getElem h]; exact List.getElem_mem h
theorem BOk.lit {f : Int} {i : Nat} {s : List (Int × Int) × List Int} (h : BOk f i s) {l : Int} (hl : litB l (f + i) = true) : litB (mapL s.2 l) (f + s.1.length) = true := by
  rw [litB_ii] at hl
  have hm := h.ml
  exact litB_xor (h.ms _ (getD_mem (by omega)))
theorem BOk.step {f : Int} {i : Nat} {s : List (Int × Int) × List Int} (hf : 1 ≤ f) (h : BOk f i s) (share : Bool) {g : Int × Int} {u : Bool} (h1 : litB g.1 (f + i) = true) (h2 : litB g.2 (f + i) = true) : BOk f (i + 1) (bStep share f s (g, u)) := by
  have l1 := h.lit h1
  have l2 := h.lit h2
  have hm := h.ml
  have hg := h.gl
  unfold bStep
  cases u
  · refine ⟨h.gs, by simp; omega, ?_, by simp; omega⟩
    intro l hl
    simp only [Bool.false_eq_true, if_false, List.mem_append, List.mem_singleton] at hl
    rcases hl with hl | rfl
    · exact h.ms l hl
    · exact litB_ii.2 (by simp; omega)
  · cases share
    · refine ⟨h.gs.snoc l1 l2, by simp; omega, ?_, by simp; omega⟩
      intro l hl
      simp only [if_true, Bool.false_eq_true, if_false, List.mem_append, List.mem_singleton] at hl ⊢
      rcases hl with hl | rfl
      · exact litB_up (h.ms l hl) (by simp; omega)
      · exact litB_ii.2 (by simp; omega)
    · obtain ⟨k1, k2, k3, k4⟩ := andG_ok hf h.gs l1 l2
      refine ⟨k1, by simp; omega, ?_, by simp; omega⟩
      intro l hl
      simp only [if_true, List.mem_append, List.mem_singleton] at hl ⊢
      rcases hl with hl | rfl
      · exact litB_up (h.ms l hl) (by omega)
      · exact k2
theorem BOk.start {f : Int} (hf : 1 ≤ f) : BOk f 0 ([], own0 f.toNat) := by
  refine ⟨fun i hi => by simp at hi, by rw [own0_length]; omega, ?_, by simp⟩
  intro l hl
  simp only [own0, List.mem_map, List.mem_range] at hl
  obtain ⟨v, hv, rfl⟩ := hl
  exact litB_ii.2 (by simp; omega)
theorem BOk.fold {f : Int} (hf : 1 ≤ f) (share : Bool) : ∀ (gus : List ((Int × Int) × Bool)) (i : Nat) (s : List (Int × Int) × List Int), BOk f i s →
    (∀ j, j < gus.length → litB (gus.getD j ((0, 0), false)).1.1 (f + (i + j : Nat)) = true ∧ litB (gus.getD j ((0, 0), false)).1.2 (f + (i + j : Nat)) = true) → BOk f (i + gus.length) (gus.foldl (bStep share f) s)
  | [], i, s, h, _ => by simpa using h
  | gu :: gus, i, s, h, hl => by
    have h0 := hl 0 (by simp)
    simp at h0
    have := BOk.fold hf share gus (i + 1) (bStep share f s gu) (by obtain ⟨g, u⟩ := gu; exact h.step hf share h0.1 h0.2) (fun j hj => by
      have := hl (j + 1) (by simpa using hj)
      have e : i + (j + 1) = i + 1 + j := by omega
      rw [e] at this
      simpa using this)
    have e : i + (gu :: gus).length = i + 1 + gus.length := by simp; omega
    rw [e]
    exact this
theorem Circ.Valid.first {c : Circ} (V : c.Valid) : 1 ≤ c.first ∧ c.first ≤ 8 := by
  have := V.i0; have := V.i4; have := V.ln
  unfold Circ.first; omega
theorem zip_getD (gs : List (Int × Int)) (us : List Bool) (k : Nat) (h : k < gs.length) (h2 : us.length = gs.length) : (gs.zip us).getD k ((0, 0), false) = (gs.getD k (0, 0), us.getD k false) := by
  simp [List.getD_eq_getElem?_getD, List.getElem?_eq_getElem, h, h2]
theorem buildS_ok {c : Circ} (V : c.Valid) (share : Bool) : BOk c.first c.gates.length (buildS share c) := by
  have hf := V.first
  have hl : (c.gates.zip (usedV c)).length = c.gates.length := by rw [List.length_zip, usedV_length]; omega
  have := BOk.fold hf.1 share (c.gates.zip (usedV c)) 0 ([], own0 c.first.toNat) (BOk.start hf.1) (fun j hj => by
    rw [hl] at hj
    rw [zip_getD _ _ _ hj (usedV_length c), Nat.zero_add]
    exact V.gs j hj)
  rw [hl, Nat.zero_add] at this
  exact this
theorem buildV_first (share : Bool) (c : Circ) : (buildV share c).first = c.first := by unfold Circ.first buildV; simp
theorem LitsOk.mem {xs : List Int} {n : Int} : LitsOk xs n ↔ ∀ l ∈ xs, litB l n = true := by
  constructor
  · intro h l hl
    obtain ⟨i, hi, rfl⟩ := List.mem_iff_getElem.1 hl
    have := h i hi
    rwa [List.getD_eq_getElem?_getD, List.getElem?_eq_getElem hi] at this
  · intro h i hi
    exact h _ (getD_mem hi)
theorem buildV_valid {c : Circ} (V : c.Valid) (share : Bool) : (buildV share c).Valid := by
  have B := buildS_ok V share
  have hg := B.gl
  have lg := V.lg
  have hvv : c.vars = c.first + c.gates.length := rfl
  have hrs := LitsOk.mem.1 V.rs
  rw [hvv] at hrs
  refine ⟨V.i0, V.i4, by simpa [buildV] using V.ln, by simp only [buildV]; omega, by simpa [buildV] using V.lo, ?_, ?_⟩
  · intro i hi
    rw [buildV_first]
    exact B.gs i hi
  · rw [LitsOk.mem]
    intro l hl
    have hv2 : (buildV share c).vars = c.first + (buildS share c).1.length := by unfold Circ.vars; rw [buildV_first]; rfl
    rw [hv2]
    simp only [buildV, List.mem_append, List.mem_map] at hl
    rcases hl with ⟨x, hx, rfl⟩ | ⟨x, hx, rfl⟩
    · exact B.lit (hrs x (List.mem_append_left _ hx))
    · exact B.lit (hrs x (List.mem_append_right _ hx))
theorem optV_valid {c : Circ} (V : c.Valid) : (optV c).Valid := by
  unfold optV; rw [validB_true V]; exact buildV_valid (buildV_valid V true) false
end Go.Proofs.Ytpfhlodlefcomaa
