/- Plain lists: Optimize keeps the values and never makes levels higher. -/
import Derived.Test.YtpfhlodlefcomaaOptN
import Derived.Test.YtpfhlodlefcomaaStep
namespace Go.Proofs.Ytpfhlodlefcomaa
open Go.RowKit
set_option linter.unusedVariables false
set_option linter.unusedSimpArgs false
theorem foldl_s_prefix (s : Int) (b : Bool) (gs : List (Int × Int)) : ∀ l : List Bool, ∃ us, gs.foldl (sStep s b) l = l ++ us := by
  induction gs with
  | nil => intro l; exact ⟨[], by simp⟩
  | cons g gs ih =>
    intro l
    obtain ⟨us, h⟩ := ih (sStep s b l g)
    rw [List.foldl_cons, h]
    unfold sStep
    exact ⟨_, List.append_assoc _ _ _⟩
theorem valsOf_append (ins st : List Bool) (gs t : List (Int × Int)) : ∃ us, valsOf ins st (gs ++ t) = valsOf ins st gs ++ us := by
  unfold valsOf sVals
  rw [List.foldl_append]
  exact foldl_s_prefix _ _ _ _
theorem valsOf_length (ins st : List Bool) (gs : List (Int × Int)) : (valsOf ins st gs).length = 1 + ins.length + st.length + gs.length := sVals_length _ _ _ _ _
theorem valsOf_snoc (ins st : List Bool) (gs : List (Int × Int)) (g : Int × Int) : valsOf ins st (gs ++ [g]) = valsOf ins st gs ++ [litV (valsOf ins st gs) g.1 && litV (valsOf ins st gs) g.2] := by
  unfold valsOf
  rw [sVals_snoc]
  unfold sStep
  rw [if_neg (by omega)]
theorem valsOf_lit (ins st : List Bool) (gs t : List (Int × Int)) (l : Int) (h0 : 0 ≤ l) (h : l / 2 < ((1 + ins.length + st.length + gs.length : Nat) : Int)) : litV (valsOf ins st (gs ++ t)) l = litV (valsOf ins st gs) l := by
  obtain ⟨us, e⟩ := valsOf_append ins st gs t
  rw [e, litV_append _ _ _ (by rw [valsOf_length]; omega)]
/-- A gate's value is the conjunction of its operands' values. -/
theorem valsOf_gate (ins st : List Bool) (F : Nat) (hF : F = 1 + ins.length + st.length) (gs : List (Int × Int)) (hg : GsIn F gs) (i : Nat) (hi : i < gs.length) :
    (valsOf ins st gs).getD (F + i) false = (litV (valsOf ins st gs) (gs.getD i (0, 0)).1 && litV (valsOf ins st gs) (gs.getD i (0, 0)).2) := by
  have hgi := hg i hi
  rw [litB_ii, litB_ii] at hgi
  have e : gs = (gs.take i ++ [gs.getD i (0, 0)]) ++ gs.drop (i + 1) := by
    rw [← take_snocG gs i (0, 0) hi, List.take_append_drop]
  have hl : (gs.take i).length = i := by rw [List.length_take]; omega
  have s1 := valsOf_snoc ins st (gs.take i) (gs.getD i (0, 0))
  obtain ⟨us, e2⟩ := valsOf_append ins st (gs.take i ++ [gs.getD i (0, 0)]) (gs.drop (i + 1))
  rw [← e] at e2
  have L1 := valsOf_lit ins st (gs.take i) ([gs.getD i (0, 0)] ++ gs.drop (i + 1)) (gs.getD i (0, 0)).1 hgi.1.1 (by rw [hl]; omega)
  have L2 := valsOf_lit ins st (gs.take i) ([gs.getD i (0, 0)] ++ gs.drop (i + 1)) (gs.getD i (0, 0)).2 hgi.2.1 (by rw [hl]; omega)
  rw [← List.append_assoc, ← e] at L1 L2
  rw [L1, L2, e2, s1]
  have hlen : (valsOf ins st (gs.take i)).length = F + i := by rw [valsOf_length, hl, hF]
  rw [getD_append_left _ _ _ _ (by simp [hlen])]
  simp [List.getD_eq_getElem?_getD, ← hlen]
theorem litV_even (vs : List Bool) (v : Int) : litV vs (2 * v) = vs.getD v.toNat false := by
  unfold litV
  have h1 : 2 * v / 2 = v := by omega
  have h2 : (2 * v % 2 == 1) = false := by simp
  rw [h1, h2]; simp
theorem litV_split (vs : List Bool) (l : Int) : litV vs l = (litV vs (2 * (l / 2)) != (l % 2 == 1)) := by
  rw [litV_even]; rfl
theorem litV_xor (vs : List Bool) (y l : Int) : litV vs (xorL y l) = (litV vs y != (l % 2 == 1)) := by
  have hd := xorL_div y l
  unfold litV
  rw [hd, Bool.bne_assoc]
  congr 1
  have hm : (xorL y l % 2 == 1) = ((y % 2 == 1) != (l % 2 == 1)) := by
    unfold xorL
    rcases (by omega : y % 2 = 0 ∨ y % 2 = 1) with h1 | h1 <;> rcases (by omega : l % 2 = 0 ∨ l % 2 = 1) with h2 | h2 <;> simp only [h1, h2] <;> simp <;> omega
  exact hm
theorem litV_cpl {vs : List Bool} {a : Int} (h : a % 2 = 0) : litV vs (a + 1) = !litV vs a := by
  unfold litV
  have h1 : (a + 1) / 2 = a / 2 := by omega
  have h2 : ((a + 1) % 2 == 1) = true := by simp; omega
  have h3 : (a % 2 == 1) = false := by simp; omega
  rw [h1, h2, h3]; simp
theorem litV_zero (ins st : List Bool) (gs : List (Int × Int)) : litV (valsOf ins st gs) 0 = false ∧ litV (valsOf ins st gs) 1 = true := by
  have e := valsOf_lit ins st [] gs 0 (by omega) (by simp; omega)
  have e2 := valsOf_lit ins st [] gs 1 (by omega) (by simp; omega)
  rw [List.nil_append] at e e2
  rw [e, e2]
  exact ⟨rfl, rfl⟩
theorem idx_getD {gs : List (Int × Int)} {g : Int × Int} (h : g ∈ gs) : gs.idxOf g < gs.length ∧ gs.getD (gs.idxOf g) (0, 0) = g := by
  have hl := List.idxOf_lt_length_of_mem h
  exact ⟨hl, by rw [List.getD_eq_getElem?_getD, List.getElem?_eq_getElem hl]; exact List.getElem_idxOf hl⟩
/-- The conjunction's literal has the conjunction of the values. -/
theorem andS_val (ins st : List Bool) (F : Nat) (hF : F = 1 + ins.length + st.length) (gs : List (Int × Int)) (hg : GsIn F gs) (a b : Int) (a0 : 0 ≤ a) (a1 : a < 2 * ((F + gs.length : Nat) : Int)) (b0 : 0 ≤ b) (b1 : b < 2 * ((F + gs.length : Nat) : Int)) :
    litV (valsOf ins st (andS F gs a b).1) (andS F gs a b).2 = (litV (valsOf ins st gs) a && litV (valsOf ins st gs) b) := by
  obtain ⟨z0, z1⟩ := litV_zero ins st gs
  by_cases hz : a = 0 ∨ (a = b - 1 ∧ a % 2 = 0)
  · rw [andS_zero hz]
    rcases hz with rfl | ⟨h1, h2⟩
    · rw [z0]; rfl
    · have : b = a + 1 := by omega
      rw [this, litV_cpl h2, z0]; simp
  by_cases ho : a = 1 ∨ a = b
  · rw [andS_one hz ho]
    rcases ho with rfl | rfl
    · rw [z1]; simp
    · simp
  by_cases hm : (a, b) ∈ gs
  · obtain ⟨hi, he⟩ := idx_getD hm
    have e : andS F gs a b = (gs, 2 * ((F : Int) + (gs.idxOf (a, b) : Nat))) := by unfold andS; rw [if_neg hz, if_neg ho, if_pos hm]
    rw [e]
    have := valsOf_gate ins st F hF gs hg _ hi
    rw [he] at this
    rw [← this, litV_even]
    congr 1
  · have e : andS F gs a b = (gs ++ [(a, b)], 2 * ((F : Int) + (gs.length : Nat))) := by unfold andS; rw [if_neg hz, if_neg ho, if_neg hm, List.idxOf_eq_length hm]
    rw [e, litV_even, valsOf_snoc]
    have hl := valsOf_length ins st gs
    have e2 : ((F : Int) + (gs.length : Nat)).toNat = (valsOf ins st gs).length := by omega
    rw [e2]
    simp [List.getD_eq_getElem?_getD]
theorem andG_val (ins st : List Bool) (F : Nat) (hF : F = 1 + ins.length + st.length) (gs : List (Int × Int)) (hg : GsIn F gs) (a b : Int) (a0 : 0 ≤ a) (a1 : a < 2 * ((F + gs.length : Nat) : Int)) (b0 : 0 ≤ b) (b1 : b < 2 * ((F + gs.length : Nat) : Int)) :
    litV (valsOf ins st (andG F gs a b).1) (andG F gs a b).2 = (litV (valsOf ins st gs) a && litV (valsOf ins st gs) b) := by
  unfold andG
  split
  · rw [andS_val ins st F hF gs hg b a b0 b1 a0 a1, Bool.and_comm]
  · exact andS_val ins st F hF gs hg a b a0 a1 b0 b1
/-- Whatever is asked for has its old value. -/
theorem build_val {c : Circ} {st ins : List Bool} (ok : EvOk c st ins) (share : Bool) (l : Int) (hl : Live c c.gates.length l) :
    litV (valsOf ins st (buildS share c).1) (mapL (buildS share c).2 l) = litV (valsOf ins st c.gates) l := by
  have V := ok.V
  have ls := ok.ls
  have li := ok.li
  obtain ⟨F, hF⟩ : ∃ F : Nat, F = 1 + ins.length + st.length := ⟨_, rfl⟩
  have hfF : c.first = (F : Int) := by unfold Circ.first; omega
  have hGs : GsIn F c.gates := by have := V.gs; unfold GatesOk at this; rw [hfF] at this; exact this
  have := bState_rel V share (fun gs l y => litV (valsOf ins st gs) y = litV (valsOf ins st c.gates) l) ?_ ?_ ?_ ?_ c.gates.length (Nat.le_refl _) l hl
  · rw [bState_all] at this; exact this
  · intro v hv
    have := valsOf_lit ins st [] c.gates (2 * (v : Int)) (by omega) (by simp only [List.length_nil]; omega)
    rw [List.nil_append] at this
    exact this.symm
  · intro gs l y h h0 hy
    rw [litV_xor, litV_split _ l, h]
  · intro k hk hu ms B h1 h2 k' _ hk'
    have hml := B.ml
    have l1 := B.lit (l := (c.gates.getD k (0, 0)).1) ((V.gs k hk).1)
    have l2 := B.lit (l := (c.gates.getD k (0, 0)).2) ((V.gs k hk).2)
    rw [litB_ii, hfF] at l1 l2
    dsimp only at l1 l2
    have hgate := valsOf_gate ins st F hF c.gates hGs k hk
    have hB : GsIn F (bState share c k).1 := by have := B.gs; rw [hfF] at this; exact this
    have goal2 : litV (valsOf ins st c.gates) (2 * (c.first + k)) = (litV (valsOf ins st c.gates) (c.gates.getD k (0, 0)).1 && litV (valsOf ins st c.gates) (c.gates.getD k (0, 0)).2) := by
      rw [litV_even, hfF, ← hgate]; congr 1
    rw [goal2, ← h1, ← h2, hk']
    cases share
    · simp only [Bool.false_eq_true, if_false]
      rw [hfF, litV_even, valsOf_snoc]
      have hl := valsOf_length ins st (bState false c k).1
      have e2 : ((F : Int) + ((bState false c k).1.length : Nat)).toNat = (valsOf ins st (bState false c k).1).length := by omega
      rw [e2]
      simp [List.getD_eq_getElem?_getD]
    · simp only [if_true]
      rw [hfF]
      exact andG_val ins st F hF _ hB _ _ l1.1 (by omega) l2.1 (by omega)
  · intro gs gs' l y hgs ht hy h
    obtain ⟨t, rfl⟩ := ht
    rw [litB_ii, hfF] at hy
    rw [← h]
    exact valsOf_lit ins st gs t y hy.1 (by omega)
theorem evOk_build {c : Circ} {st ins : List Bool} (ok : EvOk c st ins) (share : Bool) : EvOk (buildV share c) st ins :=
  ⟨buildV_valid ok.V share, by have := ok.ls; simpa [buildV] using this, ok.li⟩
theorem build_lits {c : Circ} {st ins : List Bool} (ok : EvOk c st ins) (share : Bool) (xs : List Int) (hx : ∀ l ∈ xs, l ∈ c.next ++ c.outs) :
    litsV (valsOf ins st (buildS share c).1) (xs.map (mapL (buildS share c).2)) = litsV (valsOf ins st c.gates) xs := by
  unfold litsV
  rw [List.map_map]
  refine List.map_congr_left fun l hl => ?_
  exact build_val ok share l (live_root ok.V (hx l hl))
theorem step_build {c : Circ} {st ins : List Bool} (ok : EvOk c st ins) (share : Bool) : stepV (buildV share c) st ins = stepV c st ins := by
  rw [stepV_ok ok, stepV_ok (evOk_build ok share)]
  have e1 := build_lits ok share c.outs (fun l hl => List.mem_append_right _ hl)
  have e2 := build_lits ok share c.next (fun l hl => List.mem_append_left _ hl)
  rw [← e1, ← e2]; rfl
/-- The optimized circuit steps as the circuit does. -/
theorem step_opt {c : Circ} {st ins : List Bool} (ok : EvOk c st ins) : EvOk (optV c) st ins ∧ stepV (optV c) st ins = stepV c st ins := by
  have e : optV c = buildV false (buildV true c) := by unfold optV; rw [validB_true ok.V]; rfl
  rw [e]
  have ok1 := evOk_build ok true
  exact ⟨evOk_build ok1 false, by rw [step_build ok1 false, step_build ok true]⟩
/-! ### Levels -/
theorem foldl_lv_prefix (gs : List (Int × Int)) : ∀ l : List Int, ∃ us, gs.foldl lvStep l = l ++ us := by
  induction gs with
  | nil => intro l; exact ⟨[], by simp⟩
  | cons g gs ih =>
    intro l
    obtain ⟨us, h⟩ := ih (lvStep l g)
    rw [List.foldl_cons, h]
    unfold lvStep
    exact ⟨_, List.append_assoc _ _ _⟩
theorem lvls_prefix (F : Nat) (gs t : List (Int × Int)) (i : Nat) (hi : i < F + gs.length) : (lvls F (gs ++ t)).getD i 0 = (lvls F gs).getD i 0 := by
  have : ∃ us, lvls F (gs ++ t) = lvls F gs ++ us := by
    unfold lvls
    rw [List.foldl_append]
    exact foldl_lv_prefix _ _
  obtain ⟨us, e⟩ := this
  rw [e, getD_append_left _ _ _ _ (by rw [lvls_length]; exact hi)]
def lvL (F : Nat) (gs : List (Int × Int)) (l : Int) : Int := (lvls F gs).getD (l / 2).toNat 0
theorem lvL_nonneg (F : Nat) (gs : List (Int × Int)) (l : Int) : 0 ≤ lvL F gs l := ((lvls_ok F gs).get (by omega) _).1
theorem lvls_gate (F : Nat) (gs : List (Int × Int)) (hg : GsIn F gs) (i : Nat) (hi : i < gs.length) : (lvls F gs).getD (F + i) 0 = 1 + max (lvL F gs (gs.getD i (0, 0)).1) (lvL F gs (gs.getD i (0, 0)).2) := by
  have hgi := hg i hi
  rw [litB_ii, litB_ii] at hgi
  have hl : (gs.take i).length = i := by rw [List.length_take]; omega
  have e : gs = (gs.take i ++ [gs.getD i (0, 0)]) ++ gs.drop (i + 1) := by
    rw [← take_snocG gs i (0, 0) hi, List.take_append_drop]
  have P1 : ∀ j, j < F + i → (lvls F gs).getD j 0 = (lvls F (gs.take i)).getD j 0 := by
    intro j hj
    have := lvls_prefix F (gs.take i) ([gs.getD i (0, 0)] ++ gs.drop (i + 1)) j (by rw [hl]; exact hj)
    rw [← List.append_assoc, ← e] at this
    exact this
  have P2 := lvls_prefix F (gs.take i ++ [gs.getD i (0, 0)]) (gs.drop (i + 1)) (F + i) (by rw [List.length_append, hl]; simp)
  rw [← e] at P2
  rw [P2, lvls_snoc]
  unfold lvL
  rw [P1 _ (by omega), P1 _ (by omega)]
  unfold lvStep
  have hlen : (lvls F (gs.take i)).length = F + i := by rw [lvls_length, hl]
  simp [List.getD_eq_getElem?_getD, ← hlen]
theorem lvls_own (F : Nat) (gs : List (Int × Int)) (i : Nat) (hi : i < F) : (lvls F gs).getD i 0 = 0 := by
  have := lvls_prefix F [] gs i (by simpa using hi)
  rw [List.nil_append] at this
  rw [this]
  simp [lvls, List.getD_eq_getElem?_getD, List.getElem?_replicate, hi]
theorem andS_lvl (F : Nat) (hF : 1 ≤ F) (gs : List (Int × Int)) (hg : GsIn F gs) (a b : Int) (a0 : 0 ≤ a) (a1 : a < 2 * ((F + gs.length : Nat) : Int)) (b0 : 0 ≤ b) (b1 : b < 2 * ((F + gs.length : Nat) : Int)) :
    lvL F (andS F gs a b).1 (andS F gs a b).2 ≤ 1 + max (lvL F gs a) (lvL F gs b) := by
  have na := lvL_nonneg F gs a
  have nb := lvL_nonneg F gs b
  by_cases hz : a = 0 ∨ (a = b - 1 ∧ a % 2 = 0)
  · rw [andS_zero hz]
    have : lvL F gs 0 = 0 := lvls_own F gs 0 (by omega)
    rw [this]; omega
  by_cases ho : a = 1 ∨ a = b
  · rw [andS_one hz ho]; dsimp only; omega
  by_cases hm : (a, b) ∈ gs
  · obtain ⟨hi, he⟩ := idx_getD hm
    have e : andS F gs a b = (gs, 2 * ((F : Int) + (gs.idxOf (a, b) : Nat))) := by unfold andS; rw [if_neg hz, if_neg ho, if_pos hm]
    rw [e]
    have := lvls_gate F gs hg _ hi
    rw [he] at this
    have e2 : (2 * ((F : Int) + (gs.idxOf (a, b) : Nat)) / 2).toNat = F + gs.idxOf (a, b) := by omega
    unfold lvL at this ⊢
    rw [e2, this]; exact Int.le_refl _
  · have e : andS F gs a b = (gs ++ [(a, b)], 2 * ((F : Int) + (gs.length : Nat))) := by unfold andS; rw [if_neg hz, if_neg ho, if_neg hm, List.idxOf_eq_length hm]
    rw [e]
    have e2 : (2 * ((F : Int) + (gs.length : Nat)) / 2).toNat = (lvls F gs).length := by rw [lvls_length]; omega
    unfold lvL
    rw [e2, lvls_snoc]
    unfold lvStep
    simp [List.getD_eq_getElem?_getD]
theorem andG_lvl (F : Nat) (hF : 1 ≤ F) (gs : List (Int × Int)) (hg : GsIn F gs) (a b : Int) (a0 : 0 ≤ a) (a1 : a < 2 * ((F + gs.length : Nat) : Int)) (b0 : 0 ≤ b) (b1 : b < 2 * ((F + gs.length : Nat) : Int)) :
    lvL F (andG F gs a b).1 (andG F gs a b).2 ≤ 1 + max (lvL F gs a) (lvL F gs b) := by
  unfold andG
  split
  · have := andS_lvl F hF gs hg b a b0 b1 a0 a1; omega
  · exact andS_lvl F hF gs hg a b a0 a1 b0 b1
theorem build_lvl {c : Circ} (V : c.Valid) (F : Nat) (hfF : c.first = F) (share : Bool) (l : Int) (hl : Live c c.gates.length l) : lvL F (buildS share c).1 (mapL (buildS share c).2 l) ≤ lvL F c.gates l := by
  have hF1 := V.first.1
  have hGs : GsIn F c.gates := by have := V.gs; unfold GatesOk at this; rw [hfF] at this; exact this
  have := bState_rel V share (fun gs l y => lvL F gs y ≤ lvL F c.gates l) ?_ ?_ ?_ ?_ c.gates.length (Nat.le_refl _) l hl
  · rw [bState_all] at this; exact this
  · intro v hv
    have e : (2 * (v : Int) / 2).toNat = v := by omega
    unfold lvL
    rw [e, lvls_own F [] v (by omega)]
    exact ((lvls_ok F c.gates).get (by omega) _).1
  · intro gs l y h h0 hy
    have e := xorL_div y l
    have e2 : 2 * (l / 2) / 2 = l / 2 := by omega
    unfold lvL at h ⊢
    rw [e2] at h
    rw [e]; exact h
  · intro k hk hu ms B h1 h2 k' _ hk'
    have l1 := B.lit (l := (c.gates.getD k (0, 0)).1) ((V.gs k hk).1)
    have l2 := B.lit (l := (c.gates.getD k (0, 0)).2) ((V.gs k hk).2)
    rw [litB_ii, hfF] at l1 l2
    dsimp only at l1 l2
    have hB : GsIn F (bState share c k).1 := by have := B.gs; rw [hfF] at this; exact this
    have hgate := lvls_gate F c.gates hGs k hk
    have goal2 : lvL F c.gates (2 * (c.first + k)) = 1 + max (lvL F c.gates (c.gates.getD k (0, 0)).1) (lvL F c.gates (c.gates.getD k (0, 0)).2) := by
      have e : (2 * (c.first + k) / 2).toNat = F + k := by omega
      rw [← hgate]; unfold lvL; rw [e]
    rw [goal2, hk']
    cases share
    · simp only [Bool.false_eq_true, if_false]
      have e2 : (2 * (c.first + ((bState false c k).1.length : Nat)) / 2).toNat = (lvls F (bState false c k).1).length := by rw [lvls_length]; omega
      have : lvL F ((bState false c k).1 ++ [(mapL ms (c.gates.getD k (0, 0)).1, mapL ms (c.gates.getD k (0, 0)).2)]) (2 * (c.first + ((bState false c k).1.length : Nat))) = 1 + max (lvL F (bState false c k).1 (mapL ms (c.gates.getD k (0, 0)).1)) (lvL F (bState false c k).1 (mapL ms (c.gates.getD k (0, 0)).2)) := by
        unfold lvL
        rw [e2, lvls_snoc]
        unfold lvStep
        simp [List.getD_eq_getElem?_getD]
      rw [this]; omega
    · simp only [if_true]
      have := andG_lvl F (by omega) _ hB (mapL ms (c.gates.getD k (0, 0)).1) (mapL ms (c.gates.getD k (0, 0)).2) l1.1 (by omega) l2.1 (by omega)
      rw [hfF]
      omega
  · intro gs gs' l y hgs ht hy h
    obtain ⟨t, rfl⟩ := ht
    rw [litB_ii, hfF] at hy
    unfold lvL at h ⊢
    rw [lvls_prefix F gs t _ (by omega)]; exact h
theorem topOf_mono (l1 l2 : List Int) (f : Int → Int) (xs : List Int) (h : ∀ x ∈ xs, l1.getD (f x / 2).toNat 0 ≤ l2.getD (x / 2).toNat 0) : topOf l1 (xs.map f) ≤ topOf l2 xs := by
  induction xs with
  | nil => simp [topOf]
  | cons x xs ih =>
    have e1 : (x :: xs).map f = [f x] ++ xs.map f := rfl
    have e2 : x :: xs = [x] ++ xs := rfl
    rw [e1, topOf_append, e2, topOf_append]
    have h1 := ih (fun y hy => h y (List.mem_cons_of_mem _ hy))
    have h2 := h x (List.mem_cons_self ..)
    have h3 : topOf l1 [f x] = max 0 (l1.getD (f x / 2).toNat 0) := rfl
    have h4 : topOf l2 [x] = max 0 (l2.getD (x / 2).toNat 0) := rfl
    rw [h3, h4]
    omega
theorem build_depth {c : Circ} (V : c.Valid) (share : Bool) : depthOf (buildV share c) ≤ depthOf c := by
  have V' := buildV_valid V share
  have hF := V.first
  obtain ⟨F, hfF⟩ : ∃ F : Nat, c.first = F := ⟨c.first.toNat, by omega⟩
  have e1 : depthOf c = topOf (lvls F c.gates) (c.next ++ c.outs) := by simp only [depthOf, validB_true V, if_true, hfF]; rfl
  have e2 : depthOf (buildV share c) = topOf (lvls F (buildS share c).1) ((c.next ++ c.outs).map (mapL (buildS share c).2)) := by
    simp only [depthOf, validB_true V', if_true, buildV_first, hfF, List.map_append]; rfl
  rw [e1, e2]
  exact topOf_mono _ _ _ _ (fun l hl => build_lvl V F hfF share l (live_root V hl))
theorem build_gates {c : Circ} (V : c.Valid) (share : Bool) : (buildV share c).gates.length ≤ c.gates.length := (buildS_ok V share).gl
theorem opt_small {c : Circ} (V : c.Valid) : (optV c).gates.length ≤ c.gates.length ∧ depthOf (optV c) ≤ depthOf c := by
  have e : optV c = buildV false (buildV true c) := by unfold optV; rw [validB_true V]; rfl
  have V1 := buildV_valid V true
  rw [e]
  have a1 := build_gates V true
  have a2 := build_gates V1 false
  have b1 := build_depth V true
  have b2 := build_depth V1 false
  exact ⟨by omega, by omega⟩
theorem optV_no {c : Circ} (h : validB c = false) : optV c = ⟨0, [], [], []⟩ := by unfold optV; rw [h]; rfl
theorem optV_lens (c : Circ) : (optV c).next.length ≤ 3 ∧ (optV c).gates.length ≤ 14 ∧ (optV c).outs.length ≤ 3 := by
  cases h : validB c
  · rw [optV_no h]; exact ⟨by simp, by simp, by simp⟩
  · have V := optV_valid (validB_iff.1 h)
    exact ⟨V.ln, V.lg, V.lo⟩
end Go.Proofs.Ytpfhlodlefcomaa
