/- Plain: arrival times against levels; the lookup tables as a list. -/
import Derived.Test.YtgialedmbmfejaaCov0
import Derived.Test.YtgialedmbmfejaaBBest
namespace Go.Proofs.Ytgialedmbmfejaa
set_option linter.unusedVariables false
set_option linter.unusedSimpArgs false
theorem lv_pre (gs : List (Int × Int)) : ∀ (l : List Int) (i : Nat), i < l.length → (gs.foldl lvStep l).getD i 0 = l.getD i 0 := by
 induction gs with
 | nil => intro l i hi; rfl
 | cons g gs ih =>
  intro l i hi
  rw [List.foldl_cons, ih _ _ (by rw [lvStep, List.length_append]; omega), lvStep, getD_append_left _ _ _ _ hi]
theorem lv_take (f : Nat) (gs : List (Int × Int)) (k i : Nat) (hi : i < f + k) (hk : k ≤ gs.length) : (lvls f gs).getD i 0 = (lvls f (gs.take k)).getD i 0 := by
 have e : lvls f gs = (gs.drop k).foldl lvStep (lvls f (gs.take k)) := by
  unfold lvls; rw [← List.foldl_append, List.take_append_drop]
 rw [e]
 exact lv_pre _ _ _ (by rw [lvls_length, List.length_take]; omega)
theorem lv_gate {c : Circ} (V : c.Valid) {k : Nat} (hk : k < c.gates.length) :
  (lvls c.first.toNat c.gates).getD (c.first.toNat + k) 0 = 1 + max ((lvls c.first.toNat c.gates).getD ((c.gates.getD k (0, 0)).1 / 2).toNat 0) ((lvls c.first.toNat c.gates).getD ((c.gates.getD k (0, 0)).2 / 2).toNat 0) := by
 have hf : 1 ≤ c.first := by have := V.i0; unfold Circ.first; omega
 have g := V.gs k hk
 have h1 := litB_ok g.1
 have h2 := litB_ok g.2
 have hl : (lvls c.first.toNat (c.gates.take k)).length = c.first.toNat + k := by rw [lvls_length, List.length_take]; omega
 rw [lv_take _ c.gates (k + 1) _ (by omega) (by omega), take_snocG c.gates k (0, 0) hk, lvls_snoc, lvStep, getD_snoc, if_neg (by omega), if_pos hl.symm]
 rw [lv_take _ c.gates k ((c.gates.getD k (0, 0)).1 / 2).toNat (by omega) (by omega), lv_take _ c.gates k ((c.gates.getD k (0, 0)).2 / 2).toNat (by omega) (by omega)]
theorem lv_low (f : Nat) (gs : List (Int × Int)) (i : Nat) (hi : i < f) : (lvls f gs).getD i 0 = 0 := by
 rw [lv_take f gs 0 i (by omega) (Nat.zero_le _)]
 simp [lvls, List.getD_eq_getElem?_getD, hi]
/-- The levels of a cut's leaves. -/
theorem cutsK_lev {c : Circ} (V : c.Valid) : ∀ k, k ≤ c.gates.length → ∀ v, v < ((c.gates.take k).foldl cutStep (cuts0 c.first)).length → ∀ x ∈ ((c.gates.take k).foldl cutStep (cuts0 c.first)).getD v [], ∀ z ∈ x, (lvls c.first.toNat c.gates).getD z.toNat 0 ≤ (lvls c.first.toNat c.gates).getD v 0 := by
 have hi0 := V.i0
 have hf : 1 ≤ c.first := by unfold Circ.first; omega
 intro k
 induction k with
 | zero =>
  intro _ v hv x hx z hz
  rw [List.take_zero, List.foldl_nil] at hv hx
  rw [cuts0_get v hv] at hx
  by_cases h : v = 0
  ·subst h; rw [if_pos rfl] at hx; simp at hx; subst hx; simp at hz
  ·rw [if_neg h] at hx
   simp at hx
   subst hx
   simp at hz
   subst hz
   simp
 | succ k ih =>
  intro hk v hv x hx z hz
  have IH := ih (by omega)
  have hl := (cutsK_ok V k (by omega)).2
  rw [foldl_snocD cutStep c.gates k (0, 0) _ (by omega)] at hv hx
  generalize (c.gates.take k).foldl cutStep (cuts0 c.first) = all at IH hl hv hx
  have g := V.gs k (by omega)
  have h1 := litB_ok g.1
  have h2 := litB_ok g.2
  unfold cutStep at hx
  rw [getD_snoc] at hx
  rw [cutStep_length] at hv
  by_cases h : v < all.length
  ·rw [if_pos h] at hx; exact IH v h x hx z hz
  ·have hv2 : v = all.length := by omega
   have hv3 : v = c.first.toNat + k := by omega
   rw [if_neg h, if_pos hv2] at hx
   rcases List.mem_append.1 hx with h3 | h3
   ·obtain ⟨xa, ha, xb, hb, rfl⟩ := joinV_mem x h3
    have hg := lv_gate V (k := k) (by omega)
    rw [hv3]
    rcases mem_mrg.1 hz with h4 | h4
    ·have := IH _ (by omega) xa ha z h4; omega
    ·have := IH _ (by omega) xb hb z h4; omega
   ·simp at h3
    subst h3
    simp at hz
    subst hz
    simp [hv2]
theorem cutsK_pre {c : Circ} {k : Nat} (hk : k ≤ c.gates.length) {v : Nat} (hv : v < ((c.gates.take k).foldl cutStep (cuts0 c.first)).length) : (cutsN c).getD v [] = ((c.gates.take k).foldl cutStep (cuts0 c.first)).getD v [] := by
 have e : cutsN c = (c.gates.drop k).foldl cutStep ((c.gates.take k).foldl cutStep (cuts0 c.first)) := by
  unfold cutsN; rw [← List.foldl_append, List.take_append_drop]
 rw [e]
 generalize (c.gates.take k).foldl cutStep (cuts0 c.first) = L at hv
 have : ∀ (gs : List (Int × Int)) (L : List (List (List Int))), v < L.length → (gs.foldl cutStep L).getD v [] = L.getD v [] := by
  intro gs
  induction gs with
  | nil => intro L _; rfl
  | cons g gs ih =>
   intro L hL
   rw [List.foldl_cons, ih _ (by rw [cutStep_length]; omega), cutStep, getD_append_left _ _ _ _ hL]
 exact this _ _ hv
/-- What a gate's cuts other than the last one are. -/
theorem cut_join {c : Circ} (V : c.Valid) {k : Nat} (hk : k < c.gates.length) : ((cutsN c).getD (c.first.toNat + k) []).dropLast = joinV ((cutsN c).getD ((c.gates.getD k (0, 0)).1 / 2).toNat []) ((cutsN c).getD ((c.gates.getD k (0, 0)).2 / 2).toNat []) := by
 have hf : 1 ≤ c.first := by have := V.i0; unfold Circ.first; omega
 have hl := (cutsK_ok V k (by omega)).2
 have hl2 := (cutsK_ok V (k + 1) (by omega)).2
 have g := V.gs k hk
 have h1 := litB_ok g.1
 have h2 := litB_ok g.2
 rw [cutsK_pre (k := k + 1) (by omega) (by omega), cutsK_pre (k := k) (by omega) (v := ((c.gates.getD k (0, 0)).1 / 2).toNat) (by omega), cutsK_pre (k := k) (by omega) (v := ((c.gates.getD k (0, 0)).2 / 2).toNat) (by omega)]
 rw [foldl_snocD cutStep c.gates k (0, 0) _ hk]
 generalize (c.gates.take k).foldl cutStep (cuts0 c.first) = all at hl
 unfold cutStep
 rw [getD_snoc, if_neg (by omega), if_pos (by omega), dropLast_snoc]
theorem cut_lev {c : Circ} (V : c.Valid) {k : Nat} (hk : k < c.gates.length) : ∀ x ∈ ((cutsN c).getD (c.first.toNat + k) []).dropLast, ∀ z ∈ x, 1 + (lvls c.first.toNat c.gates).getD z.toNat 0 ≤ (lvls c.first.toNat c.gates).getD (c.first.toNat + k) 0 := by
 intro x hx z hz
 have hf : 1 ≤ c.first := by have := V.i0; unfold Circ.first; omega
 rw [cut_join V hk] at hx
 obtain ⟨xa, ha, xb, hb, rfl⟩ := joinV_mem x hx
 have hg := lv_gate V hk
 have g := V.gs k hk
 have h1 := litB_ok g.1
 have h2 := litB_ok g.2
 have hl := (cutsK_ok V c.gates.length (Nat.le_refl _)).2
 have L := cutsK_lev V c.gates.length (Nat.le_refl _)
 rw [List.take_length] at hl L
 rcases mem_mrg.1 hz with h4 | h4
 ·have := L _ (by omega) xa ha z h4; omega
 ·have := L _ (by omega) xb hb z h4; omega
/-! ### Arrival times -/
theorem bestK_pre (all : List (List (List Int))) (f m k : Nat) (hk : k ≤ m) (hm : f + m ≤ all.length) (i : Nat) (hi : i < f + k) : (bestK all f m).1.getD i [] = (bestK all f k).1.getD i [] ∧ (bestK all f m).2.getD i 0 = (bestK all f k).2.getD i 0 := by
  induction m with
  | zero => have : k = 0 := by omega
            subst this; exact ⟨rfl, rfl⟩
  | succ m ih =>
    by_cases h : k = m + 1
    · subst h; exact ⟨rfl, rfl⟩
    · have IH := ih (by omega) (by omega)
      have hl := bestK_len all f m (by omega)
      rw [bestK_succ all f m (by omega)]
      unfold bestStep
      dsimp only
      rw [getD_append_left _ _ _ _ (by omega), getD_append_left _ _ _ _ (by omega)]
      exact IH
theorem maxA_on {ar bs cut : List Int} (h : ∀ z ∈ cut, ar.getD z.toNat 0 = bs.getD z.toNat 0) : maxA ar cut = maxA bs cut := by
 unfold maxA
 have key : ∀ (cut : List Int) (t : Int), (∀ z ∈ cut, ar.getD z.toNat 0 = bs.getD z.toNat 0) → cut.foldl (fun t l => max t (ar.getD l.toNat 0)) t = cut.foldl (fun t l => max t (bs.getD l.toNat 0)) t := by
  intro cut
  induction cut with
  | nil => intro t _; rfl
  | cons z cut ih =>
   intro t h
   rw [List.foldl_cons, List.foldl_cons, h z (by simp)]
   exact ih _ (fun y hy => h y (List.mem_cons_of_mem _ hy))
 exact key cut 0 h
theorem maxA_bound {ar cut : List Int} {m : Int} (hm : 0 ≤ m) (h : ∀ z ∈ cut, ar.getD z.toNat 0 ≤ m) : maxA ar cut ≤ m := by
 unfold maxA
 exact foldl_inv_mem (p := fun t => t ≤ m) cut (fun t l hl ht => by have := h l hl; omega) 0 hm
theorem bestN_low {c : Circ} {i : Nat} (hl : c.first.toNat + c.gates.length ≤ (cutsN c).length) (hi : i < c.first.toNat) : (bestN c).2.getD i 0 = 0 := by
 unfold bestN
 rw [(bestK_pre _ _ _ 0 (Nat.zero_le _) hl i (by omega)).2, bestK_zero]
 simp [List.getD_eq_getElem?_getD, hi]
theorem cutsN_len {c : Circ} (V : c.Valid) : (cutsN c).length = c.first.toNat + c.gates.length := by
 have hf : 1 ≤ c.first := by have := V.i0; unfold Circ.first; omega
 have := cutsN_length c hf
 unfold Circ.vars at this
 omega
theorem bestN_gate {c : Circ} (V : c.Valid) {k : Nat} (hk : k < c.gates.length) :
  (bestN c).1.getD (c.first.toNat + k) [] ∈ ((cutsN c).getD (c.first.toNat + k) []).dropLast ∧ (bestN c).2.getD (c.first.toNat + k) 0 = 1 + maxA (bestN c).2 ((bestN c).1.getD (c.first.toNat + k) []) := by
 have hf : 1 ≤ c.first := by have := V.i0; unfold Circ.first; omega
 have hL := cutsN_len V
 have hb := bestK_len (cutsN c) c.first.toNat k (by omega)
 have hcut := bestN_cut V hk
 obtain ⟨ok, okl⟩ := cutsK_ok V c.gates.length (Nat.le_refl _)
 rw [List.take_length] at ok okl
 have okL := ok (c.first.toNat + k) (by omega)
 obtain ⟨M, hM, hMne, hM8, hMok⟩ := okL.gate (by omega)
 change (cutsN c).getD (c.first.toNat + k) [] = _ at hM
 have p1 := bestK_pre (cutsN c) c.first.toNat c.gates.length (k + 1) (by omega) (by omega) (c.first.toNat + k) (by omega)
 have p2 := fun i (hi : i < c.first.toNat + k) => (bestK_pre (cutsN c) c.first.toNat c.gates.length k (by omega) (by omega) i hi).2
 change (bestN c).1.getD _ _ = _ ∧ (bestN c).2.getD _ _ = _ at p1
 change ∀ i, i < c.first.toNat + k → (bestN c).2.getD _ _ = _ at p2
 rw [bestK_succ _ _ _ (by omega)] at p1
 unfold bestStep at p1
 dsimp only at p1
 rw [getD_snoc, getD_snoc, if_neg (by omega), if_pos hb.1.symm, if_neg (by omega), if_pos hb.2.symm] at p1
 obtain ⟨q1, q2⟩ := p1
 have hd : ((cutsN c).getD (c.first.toNat + k) []).dropLast = M := by rw [hM]; exact dropLast_snoc _ _
 refine ⟨?_, ?_⟩
 ·rw [q1, hd]
  exact bestOf_mem _ _ hMne
 ·rw [q2, ← q1]
  congr 1
  exact maxA_on (fun z hz => (p2 z.toNat (by have := hcut.lo z hz; have := hcut.hi z hz; omega)).symm)
/-- A variable arrives no later than its level says. -/
theorem arr_lev {c : Circ} (V : c.Valid) : ∀ n v, v < n → v < c.first.toNat + c.gates.length → (bestN c).2.getD v 0 ≤ (lvls c.first.toNat c.gates).getD v 0 := by
 have hf : 1 ≤ c.first := by have := V.i0; unfold Circ.first; omega
 have hL := cutsN_len V
 intro n
 induction n with
 | zero => intro v h; omega
 | succ n ih =>
  intro v hv hvl
  by_cases h : v < c.first.toNat
  ·rw [bestN_low (by omega) h, lv_low _ _ _ h]; exact Int.le_refl _
  ·obtain ⟨k, rfl⟩ : ∃ k, v = c.first.toNat + k := ⟨v - c.first.toNat, by omega⟩
   have hk : k < c.gates.length := by omega
   obtain ⟨b1, b2⟩ := bestN_gate V hk
   have hcut := bestN_cut V hk
   have hlv := lv_gate V hk
   have hok := lvls_ok c.first.toNat c.gates
   have g1 := hok.get (by omega) ((c.gates.getD k (0, 0)).1 / 2).toNat
   rw [b2]
   have := maxA_bound (ar := (bestN c).2) (cut := (bestN c).1.getD (c.first.toNat + k) []) (m := (lvls c.first.toNat c.gates).getD (c.first.toNat + k) 0 - 1) (by omega) (fun z hz => by
    have l1 := cut_lev V hk _ b1 z hz
    have l2 := ih z.toNat (by have := hcut.lo z hz; have := hcut.hi z hz; omega) (by have := hcut.lo z hz; have := hcut.hi z hz; omega)
    omega)
   omega
theorem topOf_mono {a b xs : List Int} (h : ∀ x ∈ xs, a.getD (x / 2).toNat 0 ≤ b.getD (x / 2).toNat 0) : topOf a xs ≤ topOf b xs := by
 unfold topOf
 have : ∀ (xs : List Int) (s t : Int), s ≤ t → (∀ x ∈ xs, a.getD (x / 2).toNat 0 ≤ b.getD (x / 2).toNat 0) → xs.foldl (fun m x => max m (a.getD (x / 2).toNat 0)) s ≤ xs.foldl (fun m x => max m (b.getD (x / 2).toNat 0)) t := by
  intro xs
  induction xs with
  | nil => intro s t h _; exact h
  | cons x xs ih =>
   intro s t h hx
   rw [List.foldl_cons, List.foldl_cons]
   have := hx x (by simp)
   exact ih _ _ (by omega) (fun y hy => hx y (List.mem_cons_of_mem _ hy))
 exact this xs 0 0 (Int.le_refl _) h
theorem mdepth_le {c : Circ} : mdepthV c ≤ depthOf c := by
 unfold mdepthV depthOf
 cases hv : validB c
 ·exact Int.le_refl _
 ·have V := validB_iff.1 hv
  have hf : 1 ≤ c.first := by have := V.i0; unfold Circ.first; omega
  simp only [if_true]
  refine topOf_mono (fun x hx => ?_)
  obtain ⟨j, hj, e⟩ := mem_getN (d := 0) hx
  have := root_ok V (xs := c.next ++ c.outs) (fun x hx => hx) j hj
  rw [e] at this
  have hvv : c.vars = c.first + c.gates.length := rfl
  exact arr_lev V _ _ (Nat.lt_succ_self _) (by omega)
/-! ### The tables as a list -/
/-- What holds of the tables of the last k variables. -/
structure LutsOk (c : Circ) (n k : Nat) (nd : List Bool) (L : List LutT) : Prop where
 asc : Asc (L.map LutT.var)
 el : ∀ x ∈ L, ∃ v : Nat, x.var = v ∧ n - k ≤ v ∧ v < n ∧ x.lv = (bestN c).1.getD v [] ∧ x.tb = (tableV c x.lv v : Nat) ∧ nd.getD v false = true ∧ ∀ z ∈ x.lv, nd.getD z.toNat false = true
 has : ∀ v : Nat, n - k ≤ v → v < n → nd.getD v false = true → (v : Int) ∈ L.map LutT.var
theorem lutK_ok {c : Circ} (V : c.Valid) {n : Nat} (hn : c.vars = (n : Int)) : ∀ k, k ≤ c.gates.length → LutsOk c n k (lutK c n k).1 (lutK c n k).2 := by
 have hf : 1 ≤ c.first := by have := V.i0; unfold Circ.first; omega
 have hvv : c.vars = c.first + c.gates.length := rfl
 intro k
 induction k with
 | zero =>
  intro _
  exact ⟨by simp [lutK, Asc], fun x hx => by simp [lutK] at hx, fun v h1 h2 => by omega⟩
 | succ k ih =>
  intro hk
  have IH := ih (by omega)
  have hlen := lutK_length c n k
  rw [lutK]
  unfold lutStep
  generalize lutK c n k = s at IH hlen
  obtain ⟨nd, L⟩ := s
  dsimp only at IH hlen ⊢
  obtain ⟨asc, el, has⟩ := IH
  have hcut := bestN_cut V (k := c.gates.length - 1 - k) (by omega)
  have e : c.first.toNat + (c.gates.length - 1 - k) = n - 1 - k := by omega
  rw [e] at hcut
  split
  ·rename_i hnd
   dsimp only
   have hget := fun i (hi : i < n) => needL_get ((bestN c).1.getD (n - 1 - k) []) nd i (by omega)
   have hmore : ∀ i, i < n → nd.getD i false = true → (needL nd ((bestN c).1.getD (n - 1 - k) [])).getD i false = true := fun i hi h => by rw [hget i hi, h]; rfl
   refine ⟨?_, ?_, ?_⟩
   ·rw [List.map_cons]
    refine List.pairwise_cons.2 ⟨fun z hz => ?_, asc⟩
    obtain ⟨x, hx, rfl⟩ := List.mem_map.1 hz
    obtain ⟨v, e1, h1, h2, _⟩ := el x hx
    rw [e1]
    show ((n - 1 - k : Nat) : Int) < (v : Int)
    omega
   ·intro x hx
    rcases List.mem_cons.1 hx with rfl | hx
    ·refine ⟨n - 1 - k, rfl, by omega, by omega, rfl, rfl, hmore _ (by omega) hnd, fun z hz => ?_⟩
     have h1 := hcut.lo z hz
     have h2 := hcut.hi z hz
     rw [hget _ (by omega)]
     have : ((bestN c).1.getD (n - 1 - k) []).any (fun y => y.toNat == z.toNat) = true := List.any_eq_true.2 ⟨z, hz, by simp⟩
     rw [this, Bool.or_true]
    ·obtain ⟨v, e1, h1, h2, h3, h4, h5, h6⟩ := el x hx
     refine ⟨v, e1, by omega, h2, h3, h4, hmore _ h2 h5, fun z hz => ?_⟩
     have hz2 := h6 z hz
     by_cases hzn : z.toNat < n
     ·exact hmore _ hzn hz2
     ·rw [List.getD_eq_getElem?_getD, List.getElem?_eq_none (by omega)] at hz2; simp at hz2
   ·intro v h1 h2 h3
    rw [List.map_cons]
    by_cases hv : v = n - 1 - k
    ·subst hv; exact List.mem_cons_self
    ·refine List.mem_cons_of_mem _ (has v (by omega) h2 ?_)
     rw [hget v h2] at h3
     rcases Bool.or_eq_true _ _ ▸ h3 with h | h
     ·exact h
     ·obtain ⟨z, hz, hzv⟩ := List.any_eq_true.1 h
      have := hcut.hi z hz
      have := hcut.lo z hz
      simp at hzv
      omega
  ·rename_i hnd
   refine ⟨asc, fun x hx => ?_, fun v h1 h2 h3 => ?_⟩
   ·obtain ⟨v, e1, h1, h2, r⟩ := el x hx
    exact ⟨v, e1, by omega, h2, r⟩
   ·by_cases hv : v = n - 1 - k
    ·subst hv; exact absurd h3 hnd
    ·exact has v (by omega) h2 h3
theorem lutK_need (c : Circ) (n : Nat) : ∀ k (i : Nat), i < n → (lutK c n 0).1.getD i false = true → (lutK c n k).1.getD i false = true := by
 intro k
 induction k with
 | zero => intro i _ h; exact h
 | succ k ih =>
  intro i hi h
  have := ih i hi h
  have hlen := lutK_length c n k
  rw [lutK, lutStep]
  split
  ·dsimp only; rw [needL_get _ _ _ (by omega), this]; rfl
  ·exact this
/-- The list of the lookup tables of a valid circuit. -/
structure LutList (c : Circ) (L : List LutT) : Prop where
 asc : Asc (L.map LutT.var)
 el : ∀ x ∈ L, ∃ k, k < c.gates.length ∧ x.var = ((c.first.toNat + k : Nat) : Int) ∧ x.lv = (bestN c).1.getD (c.first.toNat + k) [] ∧ x.tb = (tableV c x.lv (c.first.toNat + k) : Nat)
 leaf : ∀ x ∈ L, ∀ z ∈ x.lv, 0 < z ∧ z < x.var ∧ (c.first ≤ z → z ∈ L.map LutT.var)
 root : ∀ l ∈ c.next ++ c.outs, c.first ≤ l / 2 → l / 2 ∈ L.map LutT.var
theorem lutList {c : Circ} (V : c.Valid) : LutList c (lutN c) := by
 have hf : 1 ≤ c.first := by have := V.i0; unfold Circ.first; omega
 have hvv : c.vars = c.first + c.gates.length := rfl
 obtain ⟨n, hn⟩ : ∃ n : Nat, c.vars = (n : Int) := ⟨c.vars.toNat, by omega⟩
 have hnt : c.vars.toNat = n := by omega
 obtain ⟨asc, el, has⟩ := lutK_ok V hn c.gates.length (Nat.le_refl _)
 have hneed := lutK_need c n c.gates.length
 unfold lutN
 rw [hnt]
 refine ⟨asc, fun x hx => ?_, fun x hx z hz => ?_, fun l hl hfl => ?_⟩
 ·obtain ⟨v, e1, h1, h2, h3, h4, _⟩ := el x hx
  refine ⟨v - c.first.toNat, by omega, by omega, ?_, ?_⟩
  ·rw [show c.first.toNat + (v - c.first.toNat) = v by omega]; exact h3
  ·rw [show c.first.toNat + (v - c.first.toNat) = v by omega]; exact h4
 ·obtain ⟨v, e1, h1, h2, h3, h4, h5, h6⟩ := el x hx
  have hcut := bestN_cut V (k := v - c.first.toNat) (by omega)
  rw [show c.first.toNat + (v - c.first.toNat) = v by omega, ← h3] at hcut
  have a1 := hcut.lo z hz
  have a2 := hcut.hi z hz
  refine ⟨a1, by omega, fun hz2 => ?_⟩
  have := has z.toNat (by omega) (by omega) (h6 z hz)
  rwa [Int.toNat_of_nonneg (by omega)] at this
 ·obtain ⟨j, hj, e⟩ := mem_getN (d := 0) hl
  have hr := root_ok V (xs := c.next ++ c.outs) (fun x hx => hx) j hj
  rw [e] at hr
  have := has (l / 2).toNat (by omega) (by omega) (hneed _ (by omega) (by
   rw [lutK]
   dsimp only
   rw [needL_get _ _ _ (by simp; omega)]
   have : (halves (c.next ++ c.outs)).any (fun z => z.toNat == (l / 2).toNat) = true := List.any_eq_true.2 ⟨l / 2, List.mem_map.2 ⟨l, hl, rfl⟩, by simp⟩
   rw [this, Bool.or_true]))
  rwa [Int.toNat_of_nonneg (by omega)] at this
end Go.Proofs.Ytgialedmbmfejaa
