/- Plain: the levels that the lookup tables give. -/
import Derived.Test.YtpomcoegpjehgaaArr0
namespace Go.Proofs.Ytpomcoegpjehgaa
set_option linter.unusedVariables false
set_option linter.unusedSimpArgs false
def llStep (lv : List Int) (x : LutT) : List Int := lv.set x.var.toNat (maxA lv x.lv + 1)
def llv (n : Nat) (L : List LutT) (i : Nat) : List Int := (L.take i).foldl llStep (List.replicate n 0)
theorem llv_zero (n : Nat) (L : List LutT) : llv n L 0 = List.replicate n 0 := by simp [llv]
theorem llv_succ (n : Nat) (L : List LutT) (i : Nat) (h : i < L.length) : llv n L (i + 1) = llStep (llv n L i) (L.getD i lut0) := by
  unfold llv; exact foldl_snocD llStep L i lut0 _ h
theorem llv_length (n : Nat) (L : List LutT) (i : Nat) (h : i ≤ L.length) : (llv n L i).length = n := by
  induction i with
  | zero => rw [llv_zero]; simp
  | succ i ih => rw [llv_succ n L i (by omega), llStep, List.length_set, ih (by omega)]
theorem lvOk_set {ar : List Int} {m x : Int} (h : LvOk ar m) (i : Nat) (h0 : 0 ≤ x) (h1 : x ≤ m + 1) : LvOk (ar.set i x) (m + 1) := by
  intro y hy
  rcases List.mem_or_eq_of_mem_set hy with h2 | h2
  · have := h y h2; omega
  · omega
theorem llv_ok (n : Nat) (L : List LutT) (i : Nat) (h : i ≤ L.length) : LvOk (llv n L i) i := by
  induction i with
  | zero => rw [llv_zero]; intro x hx; have := List.eq_of_mem_replicate hx; omega
  | succ i ih =>
    rw [llv_succ n L i (by omega), llStep]
    have h1 := ih (by omega)
    have := maxA_ok h1 (by omega) (L.getD i lut0).lv
    exact lvOk_set h1 _ (by omega) (by omega)
theorem asc_before {L : List LutT} (h : Asc (L.map LutT.var)) {i : Nat} (hi : i < L.length) {z : Int} (hz : z ∈ L.map LutT.var) (hlt : z < (L.getD i lut0).var) : z ∈ (L.take i).map LutT.var := by
  obtain ⟨x, hx, rfl⟩ := List.mem_map.1 hz
  obtain ⟨j, hj, e⟩ := mem_getN (d := lut0) hx
  have hji : j < i := by
    rcases Nat.lt_or_ge j i with h2 | h2
    · exact h2
    · exfalso
      rcases Nat.lt_or_ge i j with h3 | h3
      · have := List.pairwise_iff_getElem.1 h i j (by simpa using hi) (by simpa using hj) h3
        rw [List.getElem_map, List.getElem_map] at this
        rw [← e, List.getD_eq_getElem?_getD, List.getD_eq_getElem?_getD, List.getElem?_eq_getElem hi, List.getElem?_eq_getElem hj, Option.getD_some, Option.getD_some] at hlt
        omega
      · have : i = j := by omega
        subst this; rw [e] at hlt; omega
  refine List.mem_map.2 ⟨x, ?_, rfl⟩
  rw [← e]
  have hh : (L.take i).getD j lut0 = L.getD j lut0 := by
    rw [List.getD_eq_getElem?_getD, List.getD_eq_getElem?_getD, List.getElem?_take_of_lt hji]
  rw [← hh]
  exact getN_mem (by rw [List.length_take]; omega)
/-- After i tables, the level of each of their variables is its arrival time; all others are 0. -/
theorem llv_get {c : Circ} (V : c.Valid) {n : Nat} (hn : c.vars = (n : Int)) {L : List LutT} (K : LutList c L) : ∀ i, i ≤ L.length → ∀ v : Nat, v < n → ((v : Int) ∈ (L.take i).map LutT.var → (llv n L i).getD v 0 = (bestN c).2.getD v 0) ∧ ((v : Int) ∉ (L.take i).map LutT.var → (llv n L i).getD v 0 = 0) := by
  have hf : 1 ≤ c.first := by have := V.i0; unfold Circ.first; omega
  have hvv : c.vars = c.first + c.gates.length := rfl
  have hL := cutsN_len V
  intro i
  induction i with
  | zero =>
    intro _ v hv
    rw [llv_zero]
    exact ⟨fun h => by simp at h, fun _ => by simp [List.getD_eq_getElem?_getD, hv]⟩
  | succ i ih =>
    intro hi v hv
    have IH := ih (by omega)
    have hlen := llv_length n L i (by omega)
    have hm := getN_mem (d := lut0) (show i < L.length by omega)
    rw [llv_succ n L i (by omega), llStep, take_snocD L i lut0 (by omega), List.map_append]
    obtain ⟨k, hk, e1, e2, e3⟩ := K.el _ hm
    have hlf := K.leaf _ hm
    have hbef := fun (z : Int) hz hlt => asc_before K.asc (show i < L.length by omega) (z := z) hz hlt
    have hasc := K.asc
    generalize hx : L.getD i lut0 = x at e1 e2 e3 hlf hbef
    have hg : (llv n L i).set x.var.toNat (maxA (llv n L i) x.lv + 1) = (llv n L i).set (c.first.toNat + k) ((bestN c).2.getD (c.first.toNat + k) 0) := by
      have hb := (bestN_gate V hk).2
      rw [← e2] at hb
      have : maxA (llv n L i) x.lv = maxA (bestN c).2 x.lv := maxA_on (fun z hz => by
        obtain ⟨a1, a2, a3⟩ := hlf z hz
        have hzn : z.toNat < n := by omega
        by_cases hzf : c.first ≤ z
        · have := (IH z.toNat hzn).1 (by rw [Int.toNat_of_nonneg (by omega)]; exact hbef z (a3 hzf) a2)
          exact this
        · rw [bestN_low (by omega) (show z.toNat < c.first.toNat by omega)]
          refine (IH z.toNat hzn).2 (fun hz2 => ?_)
          rw [Int.toNat_of_nonneg (by omega)] at hz2
          obtain ⟨y, hy, ey⟩ := List.mem_map.1 hz2
          obtain ⟨k2, _, e4, _⟩ := K.el y (List.mem_of_mem_take hy)
          omega)
      rw [this, hb, Int.add_comm, e1, Int.toNat_natCast]
    rw [hg]
    have hset : ((llv n L i).set (c.first.toNat + k) ((bestN c).2.getD (c.first.toNat + k) 0)).getD v 0 = if v = c.first.toNat + k then (bestN c).2.getD v 0 else (llv n L i).getD v 0 := by
      rw [List.getD_eq_getElem?_getD, List.getElem?_set]
      by_cases h : v = c.first.toNat + k
      · subst h; simp [hlen, hv]
      · rw [if_neg (fun e => h e.symm), if_neg h, ← List.getD_eq_getElem?_getD]
    rw [hset]
    constructor
    · intro hmm
      by_cases h : v = c.first.toNat + k
      · rw [if_pos h]
      · rw [if_neg h]
        refine (IH v hv).1 ?_
        rcases List.mem_append.1 hmm with h2 | h2
        · exact h2
        · simp at h2; omega
    · intro hmm
      have hne : v ≠ c.first.toNat + k := fun e => hmm (List.mem_append_right _ (by simp; omega))
      rw [if_neg hne]
      exact (IH v hv).2 (fun h => hmm (List.mem_append_left _ h))
theorem llv_top {c : Circ} (V : c.Valid) {n : Nat} (hn : c.vars = (n : Int)) {L : List LutT} (K : LutList c L) : topOf (llv n L L.length) (c.outs ++ c.next) = topOf (bestN c).2 (c.next ++ c.outs) := by
  have hf : 1 ≤ c.first := by have := V.i0; unfold Circ.first; omega
  have hvv : c.vars = c.first + c.gates.length := rfl
  have hL := cutsN_len V
  rw [topOf_comm]
  have key : ∀ x ∈ c.next ++ c.outs, (llv n L L.length).getD (x / 2).toNat 0 = (bestN c).2.getD (x / 2).toNat 0 := by
    intro x hx
    obtain ⟨j, hj, e⟩ := mem_getN (d := 0) hx
    have hr := root_ok V (xs := c.next ++ c.outs) (fun x hx => hx) j hj
    rw [e] at hr
    have G := llv_get V hn K L.length (Nat.le_refl _) (x / 2).toNat (by omega)
    rw [List.take_length, Int.toNat_of_nonneg (by omega)] at G
    by_cases h : c.first ≤ x / 2
    · exact G.1 (K.root x hx h)
    · rw [bestN_low (by omega) (show (x / 2).toNat < c.first.toNat by omega)]
      refine G.2 (fun hm => ?_)
      obtain ⟨y, hy, ey⟩ := List.mem_map.1 hm
      obtain ⟨k2, _, e4, _⟩ := K.el y hy
      omega
  refine Int.le_antisymm (topOf_mono (fun x hx => ?_)) (topOf_mono (fun x hx => ?_))
  · rw [key x hx]; exact Int.le_refl _
  · rw [key x hx]; exact Int.le_refl _
end Go.Proofs.Ytpomcoegpjehgaa
