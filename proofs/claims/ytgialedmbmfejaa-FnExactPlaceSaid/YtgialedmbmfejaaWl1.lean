/- Plain: the program's wire length is the reference's; bounds; exchanges. -/
import Derived.Test.YtgialedmbmfejaaWl0
import Derived.Test.YtgialedmbmfejaaArr0
namespace Go.Proofs.Ytgialedmbmfejaa
set_option linter.unusedVariables false
set_option linter.unusedSimpArgs false
theorem mem_cellT {cs : List CellT} {place : List Int} {net t : Int} {k : Nat} : t ∈ cellT cs place net k ↔ ∃ i, i < k ∧ (cs.getD i cell0).net = net ∧ place.getD i 0 = t := by
  unfold cellT
  rw [List.mem_map]
  constructor
  · rintro ⟨i, hi, e⟩
    obtain ⟨h1, h2⟩ := List.mem_filter.1 hi
    exact ⟨i, List.mem_range.1 h1, by simpa using h2, e⟩
  · rintro ⟨i, h1, h2, e⟩
    exact ⟨i, List.mem_filter.2 ⟨List.mem_range.2 h1, by simpa using h2⟩, e⟩
theorem mem_padL {c : Circ} {net t : Int} {k : Nat} : t ∈ padL c net k ↔ ∃ o : Nat, o < k ∧ c.outs.getD o 0 / 2 = net ∧ (o : Int) * 5 + 4 = t := by
  unfold padL
  rw [List.mem_map]
  constructor
  · rintro ⟨i, hi, e⟩
    obtain ⟨h1, h2⟩ := List.mem_filter.1 hi
    exact ⟨i, List.mem_range.1 h1, by simpa using h2, e⟩
  · rintro ⟨i, h1, h2, e⟩
    exact ⟨i, List.mem_filter.2 ⟨List.mem_range.2 h1, by simpa using h2⟩, e⟩
theorem mem_sinkL {cs : List CellT} {net x : Int} {k : Nat} : x ∈ sinkL cs net k ↔ ∃ i : Nat, i < k ∧ net ∈ (cs.getD i cell0).ins ∧ (i : Int) = x := by
  unfold sinkL
  rw [List.mem_map]
  constructor
  · rintro ⟨i, hi, e⟩
    obtain ⟨h1, h2⟩ := List.mem_filter.1 hi
    exact ⟨i, List.mem_range.1 h1, by simpa using h2, e⟩
  · rintro ⟨i, h1, h2, e⟩
    exact ⟨i, List.mem_filter.2 ⟨List.mem_range.2 h1, by simpa using h2⟩, e⟩
theorem latchCell_net (c : Circ) (i : Nat) : (latchCell c i).net = 1 + c.inputs + i := by unfold latchCell; split <;> rfl
/-- The nets that cells drive lie behind the inputs, and none is driven twice. -/
theorem cells_drive {c : Circ} (V : c.Valid) : (∀ x ∈ cellsN c, c.inputs < x.net ∧ x.net < c.vars) ∧ Asc ((cellsN c).map CellT.net) ∧ ∀ v, c.inputs < v → v < c.first ∨ (v ∈ (lutN c).map LutT.var) → ∃ x ∈ cellsN c, x.net = v := by
  have K := lutList V
  have i0 := V.i0
  have hf : c.first = 1 + c.inputs + c.next.length := rfl
  have hvv : c.vars = c.first + c.gates.length := rfl
  refine ⟨fun x hx => ?_, ?_, fun v hv h => ?_⟩
  · rcases List.mem_append.1 hx with h | h
    · obtain ⟨i, hi, rfl⟩ := List.mem_map.1 h
      have := List.mem_range.1 hi
      rw [latchCell_net]; omega
    · obtain ⟨y, hy, rfl⟩ := List.mem_map.1 h
      obtain ⟨k, hk, e1, _⟩ := K.el y hy
      show c.inputs < y.var ∧ y.var < c.vars
      omega
  · unfold cellsN Asc
    rw [List.map_append, List.pairwise_append]
    refine ⟨?_, ?_, ?_⟩
    · unfold latchK
      rw [List.map_map]
      refine List.Pairwise.map _ (fun a b h => ?_) (List.pairwise_lt_range (n := c.next.length))
      show (latchCell c a).net < (latchCell c b).net
      rw [latchCell_net, latchCell_net]; omega
    · rw [List.map_map]
      exact K.asc
    · intro a ha b hb
      obtain ⟨x, hx, rfl⟩ := List.mem_map.1 ha
      obtain ⟨y, hy, rfl⟩ := List.mem_map.1 hb
      obtain ⟨i, hi, rfl⟩ := List.mem_map.1 hx
      obtain ⟨z, hz, rfl⟩ := List.mem_map.1 hy
      have hi2 := List.mem_range.1 hi
      obtain ⟨k, hk, e1, _⟩ := K.el z hz
      show (latchCell c i).net < z.var
      rw [latchCell_net, e1]
      omega
  · rcases h with h | h
    · refine ⟨latchCell c (v - 1 - c.inputs).toNat, List.mem_append_left _ (List.mem_map.2 ⟨_, List.mem_range.2 (by omega), rfl⟩), ?_⟩
      rw [latchCell_net]; omega
    · obtain ⟨y, hy, rfl⟩ := List.mem_map.1 h
      exact ⟨lutCell y, List.mem_append_right _ (List.mem_map.2 ⟨y, hy, rfl⟩), rfl⟩
/-- A net that is used is an input or driven by a cell. -/
theorem used_driven {c : Circ} (V : c.Valid) {v : Int} (h1 : 1 ≤ v) (hi : c.inputs < v) (hu : usedB (netT c (cellsN c) v) = true) : ∃ i, i < (cellsN c).length ∧ ((cellsN c).getD i cell0).net = v := by
  have K := lutList V
  obtain ⟨_, _, hd⟩ := cells_drive V
  have key : ∃ x ∈ cellsN c, x.net = v := by
    refine hd v hi ?_
    by_cases hvf : v < c.first
    · exact .inl hvf
    · right
      unfold usedB netT at hu
      dsimp only at hu
      have hu2 : 0 < (sinkL (cellsN c) v (cellsN c).length).length + (padL c v c.outs.length).length := by simpa using hu
      by_cases hp : 0 < (padL c v c.outs.length).length
      · obtain ⟨t, ht⟩ := List.exists_mem_of_length_pos hp
        obtain ⟨o, ho, e, _⟩ := mem_padL.1 ht
        have hm := getN_mem (d := (0 : Int)) ho
        rw [← e]
        exact K.root _ (List.mem_append_right _ hm) (by omega)
      · obtain ⟨t, ht⟩ := List.exists_mem_of_length_pos (show 0 < (sinkL (cellsN c) v (cellsN c).length).length by omega)
        obtain ⟨i, hi2, hm, _⟩ := mem_sinkL.1 ht
        have hx := getN_mem (d := cell0) hi2
        rcases List.mem_append.1 hx with h | h
        · obtain ⟨j, hj, e⟩ := List.mem_map.1 h
          have hj2 := List.mem_range.1 hj
          rw [← e] at hm
          unfold latchCell at hm
          split at hm
          · have hz : v = c.next.getD j 0 / 2 := List.mem_singleton.1 hm
            rw [hz]
            exact K.root _ (List.mem_append_left _ (getN_mem (d := (0 : Int)) hj2)) (by omega)
          · simp at hm
        · obtain ⟨y, hy, e⟩ := List.mem_map.1 h
          rw [← e] at hm
          exact (K.leaf y hy v hm).2.2 (by omega)
  obtain ⟨x, hx, e⟩ := key
  obtain ⟨i, hi2, e2⟩ := mem_getN (d := cell0) hx
  exact ⟨i, hi2, by rw [e2, e]⟩
theorem net_uniq {c : Circ} (V : c.Valid) {i j : Nat} (hi : i < (cellsN c).length) (hj : j < (cellsN c).length) (e : ((cellsN c).getD i cell0).net = ((cellsN c).getD j cell0).net) : i = j := by
  have hA := (cells_drive V).2.1
  have g : ∀ (a b : Nat), a < b → b < (cellsN c).length → ((cellsN c).getD a cell0).net < ((cellsN c).getD b cell0).net := by
    intro a b hab hb
    have := List.pairwise_iff_getElem.1 hA a b (by rw [List.length_map]; omega) (by rw [List.length_map]; omega) hab
    rw [List.getElem_map, List.getElem_map] at this
    rw [List.getD_eq_getElem?_getD, List.getD_eq_getElem?_getD, List.getElem?_eq_getElem hb, List.getElem?_eq_getElem (by omega)]
    exact this
  rcases Nat.lt_trichotomy i j with h | h | h
  · have := g i j h hj; omega
  · exact h
  · have := g j i h hi; omega
theorem lenN_eq {c : Circ} (V : c.Valid) {v : Int} (h1 : 1 ≤ v) (place : List Int) (hu : usedB (netT c (cellsN c) v) = true) : lenN (netT c (cellsN c) v) place = netLen c (cellsN c) place v := by
  have hne : useV c (cellsN c) place v ≠ [] := by
    intro e
    unfold usedB netT at hu
    dsimp only at hu
    have hu2 : 0 < (sinkL (cellsN c) v (cellsN c).length).length + (padL c v c.outs.length).length := by simpa using hu
    have := congrArg List.length e
    unfold useV sinkT at this
    rw [List.length_append, List.length_map, List.length_nil] at this
    omega
  have hsrc : ∀ t, t ∈ srcV c (cellsN c) place v ↔ t = (if 0 ≤ lastC (cellsN c) v (cellsN c).length then place.getD (lastC (cellsN c) v (cellsN c).length).toNat 0 else (v - 1) * 5) := by
    intro t
    unfold srcV
    rw [List.mem_append, mem_cellT]
    by_cases hin : c.inputs < v
    · obtain ⟨i, hi, e⟩ := used_driven V h1 hin hu
      have hl : 0 ≤ lastC (cellsN c) v (cellsN c).length := by
        by_cases h : lastC (cellsN c) v (cellsN c).length < 0
        · exact absurd e (lastC_none h i hi)
        · omega
      have hlt := lastC_lt (cellsN c) v (cellsN c).length
      have hls := lastC_some hl
      rw [if_neg (by omega), if_pos hl]
      constructor
      · rintro (h | ⟨j, hj, e2, e3⟩)
        · simp at h
        · have := net_uniq V hj (show (lastC (cellsN c) v (cellsN c).length).toNat < (cellsN c).length by omega) (by rw [e2, hls])
          rw [← e3, this]
      · rintro rfl
        exact .inr ⟨_, by omega, hls, rfl⟩
    · have hl : ¬ 0 ≤ lastC (cellsN c) v (cellsN c).length := by
        intro h
        have := lastC_some h
        have hlt := lastC_lt (cellsN c) v (cellsN c).length
        have := ((cells_drive V).1 _ (getN_mem (d := cell0) (show (lastC (cellsN c) v (cellsN c).length).toNat < (cellsN c).length by omega))).1
        omega
      rw [if_pos (by omega), if_neg hl]
      constructor
      · rintro (h | ⟨j, hj, e2, e3⟩)
        · simpa using h
        · have := ((cells_drive V).1 _ (getN_mem (d := cell0) hj)).1
          omega
      · rintro rfl
        exact .inl (by simp)
  have hmem : ∀ t, t ∈ tilesN (netT c (cellsN c) v) place ↔ t ∈ pinsV c (cellsN c) place v := by
    intro t
    unfold pinsV
    rw [if_neg hne, mem_onto, hsrc]
    unfold tilesN netT useV
    dsimp only
    rw [List.mem_cons]
  unfold lenN netLen distV
  rw [if_neg, boxN_same hmem]
  intro e
  have := (hmem (if 0 ≤ lastC (cellsN c) v (cellsN c).length then place.getD (lastC (cellsN c) v (cellsN c).length).toNat 0 else (v - 1) * 5)).1 (by unfold tilesN netT; dsimp only; simp)
  rw [e] at this
  simp at this
theorem netLen_unused {c : Circ} {cs : List CellT} {v : Int} (place : List Int) (hu : ¬ usedB (netT c cs v) = true) : netLen c cs place v = 0 := by
  have e : useV c cs place v = [] := by
    unfold usedB netT at hu
    dsimp only at hu
    have hu2 : ¬ 0 < (sinkL cs v cs.length).length + (padL c v c.outs.length).length := by simpa using hu
    have e1 : sinkL cs v cs.length = [] := List.eq_nil_of_length_eq_zero (by omega)
    have e2 : padL c v c.outs.length = [] := List.eq_nil_of_length_eq_zero (by omega)
    unfold useV
    rw [e1, e2]; rfl
  unfold netLen pinsV
  rw [if_pos e]; rfl
theorem sum_cost {c : Circ} (V : c.Valid) (place : List Int) : ∀ k, sumN (netsK c (cellsN c) k) place = costK c (cellsN c) place k := by
  intro k
  induction k with
  | zero => rfl
  | succ k ih =>
    rw [netsK, costK]
    split
    · rename_i h
      rw [sumN_snoc, ih, lenN_eq V (by omega) place h]
    · rename_i h
      rw [List.append_nil, ih, netLen_unused place h, Int.add_zero]
/-- All tiles lie in the fabric. -/
theorem getD_inF {ps : List Int} (h : InF ps) (i : Nat) : 0 ≤ ps.getD i 0 ∧ ps.getD i 0 < 25 := by
  rw [List.getD_eq_getElem?_getD]
  rcases Nat.lt_or_ge i ps.length with hi | hi
  · rw [List.getElem?_eq_getElem hi]; exact h _ (List.getElem_mem _)
  · rw [List.getElem?_eq_none hi]; simp
theorem pins_inF {c : Circ} (V : c.Valid) (cs : List CellT) {place : List Int} (h : InF place) {v : Int} : InF (pinsV c cs place v) := by
  have lo := V.lo
  have i4 := V.i4
  intro t ht
  unfold pinsV at ht
  split at ht
  · simp at ht
  · rcases (mem_onto _ _ _).1 ht with h1 | h1
    · unfold srcV at h1
      rcases List.mem_append.1 h1 with h2 | h2
      · split at h2
        · simp at h2; omega
        · simp at h2
      · obtain ⟨i, _, _, rfl⟩ := mem_cellT.1 h2
        exact getD_inF h i
    · rcases List.mem_append.1 h1 with h2 | h2
      · obtain ⟨i, _, rfl⟩ := List.mem_map.1 h2
        exact getD_inF h _
      · obtain ⟨o, ho, _, rfl⟩ := mem_padL.1 h2
        omega
theorem costK_bound {c : Circ} (V : c.Valid) (cs : List CellT) {place : List Int} (h : InF place) : ∀ k, 0 ≤ costK c cs place k ∧ costK c cs place k ≤ 8 * (k : Int) := by
  intro k
  induction k with
  | zero => simp [costK]
  | succ k ih =>
    have := distV_bound (pins_inF V cs h (v := (k : Int) + 1))
    rw [costK]
    unfold netLen
    omega
/-! ### Exchanges -/
def tryV (place : List Int) (i : Nat) (t : Int) : List Int := (place.map (fun x => if x = t then place.getD i 0 else x)).set i t
theorem tryV_length (place : List Int) (i : Nat) (t : Int) : (tryV place i t).length = place.length := by simp [tryV]
theorem tryV_get {place : List Int} {i : Nat} {t : Int} {k : Nat} (hk : k < place.length) : (tryV place i t).getD k 0 = if k = i then t else if place.getD k 0 = t then place.getD i 0 else place.getD k 0 := by
  unfold tryV
  rw [List.getD_eq_getElem?_getD, List.getElem?_set, List.length_map]
  by_cases h : i = k
  · subst h; simp [hk]
  · have hg : place.getD k 0 = place[k] := by rw [List.getD_eq_getElem?_getD, List.getElem?_eq_getElem hk]; rfl
    rw [if_neg h, if_neg (fun e => h e.symm), List.getElem?_map, List.getElem?_eq_getElem hk, hg]; rfl
theorem tryV_inF {place : List Int} (h : InF place) (i : Nat) {t : Int} (ht : 0 ≤ t ∧ t < 25) : InF (tryV place i t) := by
  intro x hx
  obtain ⟨k, hk, rfl⟩ := mem_getN (d := (0 : Int)) hx
  rw [tryV_length] at hk
  rw [tryV_get hk]
  split
  · exact ht
  · split
    · exact getD_inF h i
    · exact getD_inF h k
theorem nodup_get {ps : List Int} : ps.Nodup ↔ ∀ i j, i < ps.length → j < ps.length → ps.getD i 0 = ps.getD j 0 → i = j := by
  constructor
  · intro h i j hi hj e
    rw [List.getD_eq_getElem?_getD, List.getD_eq_getElem?_getD, List.getElem?_eq_getElem hi, List.getElem?_eq_getElem hj] at e
    have e2 : ps[i] = ps[j] := e
    rcases Nat.lt_trichotomy i j with h2 | h2 | h2
    · exact absurd e2 (List.pairwise_iff_getElem.1 h i j hi hj h2)
    · exact h2
    · exact absurd e2.symm (List.pairwise_iff_getElem.1 h j i hj hi h2)
  · intro h
    refine List.pairwise_iff_getElem.2 (fun i j hi hj hij e => ?_)
    have := h i j hi hj (by rw [List.getD_eq_getElem?_getD, List.getD_eq_getElem?_getD, List.getElem?_eq_getElem hi, List.getElem?_eq_getElem hj]; exact e)
    omega
theorem tryV_ok {place : List Int} (h : PlOk place) {i : Nat} (hi : i < place.length) {t : Int} (ht : 0 ≤ t ∧ t < 25) : PlOk (tryV place i t) := by
  refine ⟨tryV_inF h.1 i ht, nodup_get.2 (fun a b ha hb e => ?_)⟩
  rw [tryV_length] at ha hb
  have N := nodup_get.1 h.2
  rw [tryV_get ha, tryV_get hb] at e
  by_cases e1 : a = i
  · subst e1
    rw [if_pos rfl] at e
    by_cases e2 : b = a
    · exact e2.symm
    · rw [if_neg e2] at e
      split at e
      · rename_i e3
        exact N a b ha hb (by rw [e3, ← e])
      · rename_i e3; exact absurd e.symm e3
  · rw [if_neg e1] at e
    by_cases e2 : b = i
    · subst e2
      rw [if_pos rfl] at e
      split at e
      · rename_i e3
        exact N a b ha hb (by rw [e3, ← e])
      · rename_i e3; exact absurd e e3
    · rw [if_neg e2] at e
      split at e
      · rename_i e3
        split at e
        · rename_i e4; exact N a b ha hb (by rw [e3, e4])
        · have := N i b hi hb e; omega
      · split at e
        · have := N a i ha hi e; omega
        · exact N a b ha hb e
/-- One trial: the exchange is kept if it makes the wire shorter. -/
def plStep (c : Circ) (cs : List CellT) (i : Nat) (s : List Int × Int) (t : Nat) : List Int × Int :=
  if costV c cs (tryV s.1 i t) < s.2 then (tryV s.1 i t, costV c cs (tryV s.1 i t)) else s
def plCell (c : Circ) (cs : List CellT) (k : Nat) (s : List Int × Int) (i : Nat) : List Int × Int := (List.range k).foldl (plStep c cs i) s
def plSweep (c : Circ) (cs : List CellT) (k : Nat) (s : List Int × Int) : List Int × Int := (List.range k).foldl (plCell c cs 25) s
def plK (c : Circ) (cs : List CellT) : Nat → List Int × Int
  | 0 => ((List.range cs.length).map (fun (i : Nat) => (i : Int)), costV c cs ((List.range cs.length).map (fun (i : Nat) => (i : Int))))
  | k + 1 => plSweep c cs cs.length (plK c cs k)
noncomputable def placeV (c : Circ) : List Int := if validB c then (plK c (cellsN c) 3).1 else []
/-- What holds of the placement all along. -/
structure PlInv (c : Circ) (cs : List CellT) (m : Int) (s : List Int × Int) : Prop where
  len : s.1.length = cs.length
  ok : PlOk s.1
  cost : s.2 = costV c cs s.1
  le : s.2 ≤ m
theorem plStep_inv {c : Circ} {cs : List CellT} {m : Int} {s : List Int × Int} (h : PlInv c cs m s) {i : Nat} (hi : i < cs.length) {t : Nat} (ht : t < 25) : PlInv c cs m (plStep c cs i s t) := by
  unfold plStep
  split
  · rename_i hlt
    exact ⟨by rw [tryV_length]; exact h.len, tryV_ok h.ok (by rw [h.len]; exact hi) (by omega), rfl, by have := h.le; show costV c cs (tryV s.1 i t) ≤ m; omega⟩
  · exact h
theorem plCell_inv {c : Circ} {cs : List CellT} {m : Int} {s : List Int × Int} (h : PlInv c cs m s) {i : Nat} (hi : i < cs.length) {k : Nat} (hk : k ≤ 25) : PlInv c cs m (plCell c cs k s i) := by
  unfold plCell
  exact foldl_inv_mem (p := PlInv c cs m) _ (fun b a ha hb => plStep_inv hb hi (by have := List.mem_range.1 ha; omega)) s h
theorem plSweep_inv {c : Circ} {cs : List CellT} {m : Int} {s : List Int × Int} (h : PlInv c cs m s) {k : Nat} (hk : k ≤ cs.length) : PlInv c cs m (plSweep c cs k s) := by
  unfold plSweep
  exact foldl_inv_mem (p := PlInv c cs m) _ (fun b a ha hb => plCell_inv hb (by have := List.mem_range.1 ha; omega) (Nat.le_refl _)) s h
theorem init_ok {n : Nat} (hn : n ≤ 25) : PlOk ((List.range n).map (fun (i : Nat) => (i : Int))) := by
  refine ⟨fun x hx => ?_, ?_⟩
  · obtain ⟨i, hi, rfl⟩ := List.mem_map.1 hx
    have := List.mem_range.1 hi
    omega
  · refine List.Pairwise.map _ (fun a b h => ?_) (List.pairwise_lt_range (n := n))
    omega
theorem plK_inv {c : Circ} {cs : List CellT} (hn : cs.length ≤ 25) : ∀ k, PlInv c cs (costV c cs ((List.range cs.length).map (fun (i : Nat) => (i : Int)))) (plK c cs k) := by
  intro k
  induction k with
  | zero => exact ⟨by simp [plK], init_ok hn, rfl, Int.le_refl _⟩
  | succ k ih => exact plSweep_inv ih (Nat.le_refl _)
end Go.Proofs.Ytgialedmbmfejaa
