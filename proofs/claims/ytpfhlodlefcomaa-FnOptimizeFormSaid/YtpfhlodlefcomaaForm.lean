/- Plain lists: the optimized circuit is in normal form, and optimizing it again changes nothing. -/
import Derived.Test.YtpfhlodlefcomaaOptP
namespace Go.Proofs.Ytpfhlodlefcomaa
open Go.RowKit
set_option linter.unusedVariables false
set_option linter.unusedSimpArgs false
/-- A gate whose operands are in order, neither constant nor of one variable. -/
def NG (g : Int × Int) : Prop := 2 ≤ g.1 ∧ g.1 < g.2 ∧ ¬ g.1 / 2 = g.2 / 2
structure NGs (gs : List (Int × Int)) : Prop where
  ng : ∀ g ∈ gs, NG g
  nd : gs.Nodup
theorem NGs.nil : NGs [] := ⟨by simp, List.nodup_nil⟩
theorem NGs.snoc {gs : List (Int × Int)} (h : NGs gs) {g : Int × Int} (h1 : NG g) (h2 : g ∉ gs) : NGs (gs ++ [g]) := by
  refine ⟨fun x hx => ?_, ?_⟩
  · rcases List.mem_append.1 hx with hx | hx
    · exact h.ng x hx
    · rw [List.mem_singleton] at hx; subst hx; exact h1
  · rw [List.nodup_append]
    refine ⟨h.nd, by simp, fun a ha b hb => ?_⟩
    rw [List.mem_singleton] at hb
    subst hb
    exact fun e => h2 (e ▸ ha)
theorem andS_ng {f : Int} {gs : List (Int × Int)} {a b : Int} (h : NGs gs) (h0 : 0 ≤ a) (hab : a ≤ b) : NGs (andS f gs a b).1 := by
  unfold andS
  split
  · exact h
  split
  · exact h
  dsimp only
  split
  · exact h
  · next h1 h2 h3 => exact h.snoc ⟨by dsimp only; omega, by dsimp only; omega, by dsimp only; omega⟩ h3
theorem andG_ng {f : Int} {gs : List (Int × Int)} {a b : Int} (h : NGs gs) (h0 : 0 ≤ a) (h1 : 0 ≤ b) : NGs (andG f gs a b).1 := by
  unfold andG
  split
  · exact andS_ng h h1 (by omega)
  · exact andS_ng h h0 (by omega)
theorem bState_ng {c : Circ} (V : c.Valid) : ∀ k, k ≤ c.gates.length → NGs (bState true c k).1
  | 0, _ => NGs.nil
  | k + 1, hk => by
    have ih := bState_ng V k (by omega)
    have B := bState_ok V true k (by omega)
    have hv := V.gs k (by omega)
    have l1 := litB_ii.1 (B.lit hv.1)
    have l2 := litB_ii.1 (B.lit hv.2)
    rw [bState_succ true c k (by omega)]
    unfold bStep
    cases (usedV c).getD k false
    · exact ih
    · exact andG_ng ih l1.1 l2.1
theorem build_ng {c : Circ} (V : c.Valid) : NGs (buildV true c).gates := by
  show NGs (buildS true c).1
  rw [← bState_all]
  exact bState_ng V _ (Nat.le_refl _)
/-! ### leaving out unused gates keeps the order -/
theorem cntG_mono (c : Circ) (i j : Nat) (h : i ≤ j) (hj : j ≤ c.gates.length) : cntG c i ≤ cntG c j := by
  induction j with
  | zero => have : i = 0 := by omega
            subst this; exact Nat.le_refl _
  | succ j ih =>
    rcases Nat.lt_or_ge i (j + 1) with h1 | h1
    · have := ih (by omega) (by omega)
      have := cntG_succ c j (by omega)
      omega
    · have : i = j + 1 := by omega
      subst this; exact Nat.le_refl _
theorem cntG_lt (c : Circ) (i j : Nat) (h : i < j) (hj : j ≤ c.gates.length) (hu : (usedV c).getD i false = true) : cntG c i < cntG c j := by
  have h1 := cntG_succ c i (by omega)
  rw [if_pos hu] at h1
  have h2 := cntG_mono c (i + 1) j (by omega) hj
  omega
def LiveV (c : Circ) (F v : Nat) : Prop := v < F ∨ (F ≤ v ∧ v - F < c.gates.length ∧ (usedV c).getD (v - F) false = true)
theorem plV_low (c : Circ) (F v : Nat) (h : v < F) : plV c F v = v := by unfold plV; rw [if_pos h]
theorem plV_high (c : Circ) (F i : Nat) (h : (usedV c).getD i false = true) : plV c F (F + i) = (F : Int) + cntG c i := by
  unfold plV
  have e : F + i - F = i := by omega
  rw [if_neg (by omega), e, if_pos h]
theorem plV_mono (c : Circ) (F v1 v2 : Nat) (h1 : LiveV c F v1) (h2 : LiveV c F v2) (h : v1 < v2) : plV c F v1 < plV c F v2 := by
  rcases h1 with h1 | ⟨h1, h1l, h1u⟩
  · rw [plV_low _ _ _ h1]
    rcases h2 with h2 | ⟨h2, h2l, h2u⟩
    · rw [plV_low _ _ _ h2]; omega
    · have e : v2 = F + (v2 - F) := by omega
      rw [e, plV_high _ _ _ h2u]; omega
  · rcases h2 with h2 | ⟨h2, h2l, h2u⟩
    · omega
    · have e1 : v1 = F + (v1 - F) := by omega
      have e2 : v2 = F + (v2 - F) := by omega
      have := cntG_lt c (v1 - F) (v2 - F) (by omega) (by omega) h1u
      rw [e1, e2, plV_high _ _ _ h1u, plV_high _ _ _ h2u]
      omega
theorem live_v {c : Circ} {F k : Nat} (hF : c.first = F) (hk : k ≤ c.gates.length) {l : Int} (h : Live c k l) : LiveV c F (l / 2).toNat ∧ 0 ≤ l ∧ l < 2 * ((F + c.gates.length : Nat) : Int) := by
  obtain ⟨h0, h | ⟨i, hi, h, hu⟩⟩ := h
  · exact ⟨.inl (by omega), h0, by omega⟩
  · have e : (l / 2).toNat = F + i := by omega
    refine ⟨.inr ⟨by omega, by omega, ?_⟩, h0, by omega⟩
    rw [e, Nat.add_sub_cancel_left]; exact hu
/-- Where a literal goes. -/
def newL (c : Circ) (l : Int) : Int := mapL (buildS false c).2 l
theorem newL_eq {c : Circ} {F : Nat} (hF : c.first = F) {l : Int} (h0 : 0 ≤ l) (h1 : l < 2 * ((F + c.gates.length : Nat) : Int)) : newL c l = 2 * plV c F (l / 2).toNat + l % 2 := by
  have h := plc_map c F hF c.gates.length (Nat.le_refl _) l h0 h1
  rw [plAll_get _ _ _ _ (by omega), bState_all] at h
  exact h.symm
theorem newL_lt {c : Circ} {F : Nat} (hF : c.first = F) {a b : Int} (ha : Live c c.gates.length a) (hb : Live c c.gates.length b) (h : a / 2 < b / 2) : newL c a / 2 < newL c b / 2 := by
  obtain ⟨a1, a2, a3⟩ := live_v hF (Nat.le_refl _) ha
  obtain ⟨b1, b2, b3⟩ := live_v hF (Nat.le_refl _) hb
  have := plV_mono c F _ _ a1 b1 (by omega)
  rw [newL_eq hF a2 a3, newL_eq hF b2 b3]
  omega
theorem newL_inj {c : Circ} {F : Nat} (hF : c.first = F) {a b : Int} (ha : Live c c.gates.length a) (hb : Live c c.gates.length b) (h : newL c a = newL c b) : a = b := by
  have h1 : ¬ a / 2 < b / 2 := fun e => by have := newL_lt hF ha hb e; omega
  have h2 : ¬ b / 2 < a / 2 := fun e => by have := newL_lt hF hb ha e; omega
  obtain ⟨a1, a2, a3⟩ := live_v hF (Nat.le_refl _) ha
  obtain ⟨b1, b2, b3⟩ := live_v hF (Nat.le_refl _) hb
  rw [newL_eq hF a2 a3, newL_eq hF b2 b3] at h
  have e : a / 2 = b / 2 := by omega
  rw [e] at h
  omega
theorem live_up {c : Circ} {k : Nat} (hk : k ≤ c.gates.length) {l : Int} (h : Live c k l) : Live c c.gates.length l := by
  obtain ⟨h0, h | ⟨i, hi, h, hu⟩⟩ := h
  · exact ⟨h0, .inl h⟩
  · exact ⟨h0, .inr ⟨i, by omega, h, hu⟩⟩
theorem live_ops {c : Circ} (V : c.Valid) {k : Nat} (hk : k < c.gates.length) (hu : (usedV c).getD k false = true) : Live c c.gates.length (c.gates.getD k (0, 0)).1 ∧ Live c c.gates.length (c.gates.getD k (0, 0)).2 := by
  obtain ⟨h1, h2⟩ := live_op V hk hu
  exact ⟨live_up (by omega) h1, live_up (by omega) h2⟩
def newG (c : Circ) (k : Nat) : Int × Int := (newL c (c.gates.getD k (0, 0)).1, newL c (c.gates.getD k (0, 0)).2)
theorem newG_step {c : Circ} (V : c.Valid) (k : Nat) (hk : k < c.gates.length) : (bState false c (k + 1)).1 = if (usedV c).getD k false = true then (bState false c k).1 ++ [newG c k] else (bState false c k).1 := by
  obtain ⟨F, hF⟩ : ∃ F : Nat, c.first = F := ⟨c.first.toNat, by have := V.first; omega⟩
  exact bF_step c V F hF k hk
theorem newG_ng {c : Circ} (V : c.Valid) (N : NGs c.gates) {k : Nat} (hk : k < c.gates.length) (hu : (usedV c).getD k false = true) : NG (newG c k) := by
  obtain ⟨F, hF⟩ : ∃ F : Nat, c.first = F := ⟨c.first.toNat, by have := V.first; omega⟩
  obtain ⟨h1, h2⟩ := live_ops V hk hu
  obtain ⟨n1, n2, n3⟩ := N.ng _ (getD_mem (d := (0, 0)) hk)
  have hf := V.first
  have h0 : Live c c.gates.length 0 := ⟨by omega, .inl (by omega)⟩
  have z : newL c 0 = 0 := by
    rw [newL_eq hF (by omega) (by omega), plV_low _ _ _ (by omega)]; rfl
  have a := newL_lt hF h0 h1 (by omega)
  have b := newL_lt hF h1 h2 (by omega)
  rw [z] at a
  exact ⟨by simp only [newG]; omega, by simp only [newG]; omega, by simp only [newG]; omega⟩
theorem newG_inj {c : Circ} (V : c.Valid) (N : NGs c.gates) {i j : Nat} (hij : i < j) (hj : j < c.gates.length) (hu : (usedV c).getD i false = true) (hv : (usedV c).getD j false = true) : newG c i ≠ newG c j := by
  obtain ⟨F, hF⟩ : ∃ F : Nat, c.first = F := ⟨c.first.toNat, by have := V.first; omega⟩
  intro e
  obtain ⟨h1, h2⟩ := live_ops V (show i < c.gates.length by omega) hu
  obtain ⟨k1, k2⟩ := live_ops V hj hv
  unfold newG at e
  rw [Prod.mk.injEq] at e
  have e1 := newL_inj hF h1 k1 e.1
  have e2 := newL_inj hF h2 k2 e.2
  have hne := (List.pairwise_iff_getElem.1 N.nd) i j (by omega) hj hij
  apply hne
  have g1 : c.gates.getD i (0, 0) = c.gates[i] := by rw [List.getD_eq_getElem?_getD, List.getElem?_eq_getElem (by omega)]; rfl
  have g2 : c.gates.getD j (0, 0) = c.gates[j] := by rw [List.getD_eq_getElem?_getD, List.getElem?_eq_getElem hj]; rfl
  rw [← g1, ← g2]
  exact Prod.ext e1 e2
theorem prune_inv {c : Circ} (V : c.Valid) (N : NGs c.gates) : ∀ k, k ≤ c.gates.length → NGs (bState false c k).1 ∧ (∀ g ∈ (bState false c k).1, ∃ i, i < k ∧ (usedV c).getD i false = true ∧ g = newG c i) ∧
    (∀ i, i < k → (usedV c).getD i false = true → (bState false c k).1.getD (cntG c i) (0, 0) = newG c i) ∧ (∀ m, m < (bState false c k).1.length → ∃ i, i < k ∧ (usedV c).getD i false = true ∧ cntG c i = m)
  | 0, _ => ⟨NGs.nil, ⟨fun g hg => absurd (show g ∈ ([] : List (Int × Int)) from hg) (by simp), ⟨fun i hi => absurd hi (Nat.not_lt_zero i), fun m hm => absurd (show m < 0 from hm) (Nat.not_lt_zero m)⟩⟩⟩
  | k + 1, hk => by
    obtain ⟨h1, h2, h3, h4⟩ := prune_inv V N k (by omega)
    have hst := newG_step V k (by omega)
    by_cases hu : (usedV c).getD k false = true
    · rw [if_pos hu] at hst
      rw [hst]
      refine ⟨h1.snoc (newG_ng V N (by omega) hu) ?_, ?_, ?_, ?_⟩
      · intro hm
        obtain ⟨i, hi, hiu, e⟩ := h2 _ hm
        exact newG_inj V N hi (by omega) hiu hu e.symm
      · intro g hg
        rcases List.mem_append.1 hg with hg | hg
        · obtain ⟨i, hi, r⟩ := h2 g hg
          exact ⟨i, by omega, r⟩
        · rw [List.mem_singleton] at hg
          exact ⟨k, by omega, hu, hg⟩
      · intro i hi hiu
        rcases Nat.lt_or_ge i k with h | h
        · have hc := cntG_lt c i k h (by omega) hiu
          rw [getD_append_left _ _ _ _ hc]
          exact h3 i h hiu
        · have e : i = k := by omega
          subst e
          have : cntG c i = (bState false c i).1.length := rfl
          rw [this]
          simp [List.getD_eq_getElem?_getD]
      · intro m hm
        rw [List.length_append, List.length_singleton] at hm
        rcases Nat.lt_or_ge m (bState false c k).1.length with h | h
        · obtain ⟨i, hi, r⟩ := h4 m h
          exact ⟨i, by omega, r⟩
        · exact ⟨k, by omega, hu, by show (bState false c k).1.length = m; omega⟩
    · rw [if_neg hu] at hst
      rw [hst]
      refine ⟨h1, fun g hg => ?_, fun i hi hiu => ?_, fun m hm => ?_⟩
      · obtain ⟨i, hi, r⟩ := h2 g hg
        exact ⟨i, by omega, r⟩
      · rcases Nat.lt_or_ge i k with h | h
        · exact h3 i h hiu
        · have e : i = k := by omega
          subst e; exact absurd hiu hu
      · obtain ⟨i, hi, r⟩ := h4 m hm
        exact ⟨i, by omega, r⟩
/-- The normal form. -/
structure NF (d : Circ) : Prop where
  V : d.Valid
  gs : NGs d.gates
  us : ∀ i, i < d.gates.length → (usedV d).getD i false = true
theorem prune_nf {c : Circ} (V : c.Valid) (N : NGs c.gates) : NF (buildV false c) := by
  have hW := buildV_valid V false
  obtain ⟨h1, h2, h3, h4⟩ := prune_inv V N c.gates.length (Nat.le_refl _)
  rw [bState_all] at h1 h2 h3 h4
  refine ⟨hW, h1, ?_⟩
  obtain ⟨F, hF⟩ : ∃ F : Nat, c.first = F := ⟨c.first.toNat, by have := V.first; omega⟩
  have hf2 := buildV_first false c
  have hl : (buildV false c).gates.length = cntG c c.gates.length := by
    show (buildS false c).1.length = _
    rw [← bState_all]; rfl
  have half : ∀ l i, Live c c.gates.length l → i < c.gates.length → (usedV c).getD i false = true → l / 2 = c.first + i → newL c l / 2 = c.first + cntG c i := by
    intro l i hL hi hu e
    obtain ⟨a1, a2, a3⟩ := live_v hF (Nat.le_refl _) hL
    rw [newL_eq hF a2 a3]
    have e2 : (l / 2).toNat = F + i := by omega
    rw [e2, plV_high _ _ _ hu]
    omega
  have key : ∀ m i, i < c.gates.length → c.gates.length - i ≤ m → (usedV c).getD i false = true → (usedV (buildV false c)).getD (cntG c i) false = true := by
    intro m
    induction m with
    | zero => intro i hi h; omega
    | succ m ih =>
      intro i hi hm hu
      have hci : cntG c i < (buildV false c).gates.length := by rw [hl]; exact cntG_lt c i _ hi (Nat.le_refl _) hu
      rw [usedV_iff hW _ hci, hf2]
      rcases (usedV_iff V i hi).1 hu with ⟨l, hlm, e⟩ | ⟨j, hij, hj, huj, hr⟩
      · left
        refine ⟨newL c l, ?_, half l i (live_root V (by rw [List.mem_append] at hlm ⊢; exact hlm.symm)) hi hu e⟩
        rw [List.mem_append] at hlm ⊢
        rcases hlm with h | h
        · exact .inl (List.mem_map.2 ⟨l, h, rfl⟩)
        · exact .inr (List.mem_map.2 ⟨l, h, rfl⟩)
      · right
        refine ⟨cntG c j, cntG_lt c i j hij (by omega) hu, by rw [hl]; exact cntG_lt c j _ hj (Nat.le_refl _) huj, ih j hj (by omega) huj, ?_⟩
        obtain ⟨k1, k2⟩ := live_ops V hj huj
        unfold refs
        rw [show (buildV false c).gates = (buildS false c).1 from rfl, h3 j hj huj]
        rcases hr with hr | hr
        · exact .inl (half _ i k1 hi hu hr)
        · exact .inr (half _ i k2 hi hu hr)
  intro i' hi'
  obtain ⟨i, hi, hu, rfl⟩ := h4 i' hi'
  exact key _ i hi (Nat.le_refl _) hu
/-- A circuit in normal form is built again as it is. -/
theorem mapL_own (n : Nat) (l : Int) (h0 : 0 ≤ l) (h1 : l < 2 * (n : Int)) : mapL (own0 n) l = l := by
  unfold mapL xorL
  rw [own0_get _ _ (by omega)]
  split <;> (try split) <;> omega
theorem nf_state {d : Circ} (h : NF d) (share : Bool) (F : Nat) (hF : d.first = F) : ∀ k, k ≤ d.gates.length → bState share d k = (d.gates.take k, own0 (F + k))
  | 0, _ => by
    show (([] : List (Int × Int)), own0 d.first.toNat) = _
    rw [hF]; simp
  | k + 1, hk => by
    have ih := nf_state h share F hF k (by omega)
    have hv := h.V.gs k (by omega)
    rw [hF, litB_ii, litB_ii] at hv
    have e1 := mapL_own (F + k) _ hv.1.1 (by omega)
    have e2 := mapL_own (F + k) _ hv.2.1 (by omega)
    obtain ⟨n1, n2, n3⟩ := h.gs.ng _ (getD_mem (d := (0, 0)) (show k < d.gates.length by omega))
    rw [bState_succ share d k (by omega), ih, h.us k (by omega)]
    have hlen : (d.gates.take k).length = k := by rw [List.length_take]; omega
    have htk : d.gates.take (k + 1) = d.gates.take k ++ [d.gates.getD k (0, 0)] := take_snocG _ k (0, 0) (by omega)
    have ho : own0 (F + (k + 1)) = own0 (F + k) ++ [2 * (F + k : Int)] := by rw [← Nat.add_assoc, own0_snoc]; simp
    unfold bStep
    dsimp only
    rw [if_pos rfl, htk, ho, e1, e2]
    cases share
    · simp [hlen, hF]
    · rw [if_pos rfl]
      have hnm : d.gates.getD k (0, 0) ∉ d.gates.take k := by
        intro hm
        obtain ⟨i, hi, e⟩ := List.mem_iff_getElem.1 hm
        rw [hlen] at hi
        have hne := (List.pairwise_iff_getElem.1 h.gs.nd) i k (by omega) (by omega) hi
        apply hne
        rw [List.getElem_take] at e
        rw [e, List.getD_eq_getElem?_getD, List.getElem?_eq_getElem (by omega)]; rfl
      generalize hg : d.gates.getD k (0, 0) = g at *
      obtain ⟨a, b⟩ := g
      dsimp only at *
      have hA : andG d.first (d.gates.take k) a b = (d.gates.take k ++ [(a, b)], 2 * ((F : Int) + (k : Int))) := by
        unfold andG
        rw [if_neg (by omega)]
        unfold andS
        rw [if_neg (by omega), if_neg (by omega), if_neg hnm, List.idxOf_eq_length hnm, hlen, hF]
      rw [hA]
theorem nf_build {d : Circ} (h : NF d) (share : Bool) : buildV share d = d := by
  obtain ⟨F, hF⟩ : ∃ F : Nat, d.first = F := ⟨d.first.toNat, by have := h.V.first; omega⟩
  have hs := nf_state h share F hF d.gates.length (Nat.le_refl _)
  rw [bState_all, List.take_length] at hs
  have hrs := LitsOk.mem.1 h.V.rs
  have hv : d.vars = ((F + d.gates.length : Nat) : Int) := by unfold Circ.vars; rw [hF]; omega
  have hm : ∀ xs : List Int, (∀ l ∈ xs, l ∈ d.next ++ d.outs) → xs.map (mapL (own0 (F + d.gates.length))) = xs := by
    intro xs hx
    conv => rhs; rw [← List.map_id xs]
    apply List.map_congr_left
    intro l hl
    have := litB_ii.1 (hrs l (hx l hl))
    exact mapL_own _ _ this.1 (by omega)
  unfold buildV
  rw [hs]
  dsimp only
  rw [hm _ (fun l hl => List.mem_append_left _ hl), hm _ (fun l hl => List.mem_append_right _ hl)]
theorem nf_nil : NF ⟨0, [], [], []⟩ :=
  ⟨⟨by decide, by decide, by decide, by decide, by decide, fun i hi => by simp at hi, fun i hi => by simp at hi⟩, NGs.nil, fun i hi => by simp at hi⟩
theorem optV_nf (c : Circ) : NF (optV c) := by
  unfold optV
  cases hv : validB c
  · exact nf_nil
  · have V := validB_iff.1 hv
    exact prune_nf (buildV_valid V true) (build_ng V)
theorem optV_idem (c : Circ) : optV (optV c) = optV c := by
  have h := optV_nf c
  generalize optV c = d at h
  unfold optV
  rw [validB_true h.V]
  show buildV false (buildV true d) = d
  rw [nf_build h true, nf_build h false]
theorem nf_used {d : Circ} (h : NF d) {k : Nat} (hk : k < d.gates.length) : (∃ m, k < m ∧ m < d.gates.length ∧ refs d.first d.gates m k) ∨ (∃ m, m < d.outs.length ∧ d.outs.getD m 0 / 2 = d.first + k) ∨ (∃ m, m < d.next.length ∧ d.next.getD m 0 / 2 = d.first + k) := by
  rcases (usedV_iff h.V k hk).1 (h.us k hk) with ⟨l, hl, e⟩ | ⟨j, h1, h2, _, h4⟩
  · right
    rcases List.mem_append.1 hl with hl | hl
    · obtain ⟨i, hi, rfl⟩ := List.mem_iff_getElem.1 hl
      exact .inl ⟨i, hi, by rw [List.getD_eq_getElem?_getD, List.getElem?_eq_getElem hi]; exact e⟩
    · obtain ⟨i, hi, rfl⟩ := List.mem_iff_getElem.1 hl
      exact .inr ⟨i, hi, by rw [List.getD_eq_getElem?_getD, List.getElem?_eq_getElem hi]; exact e⟩
  · exact .inl ⟨j, h1, h2, h4⟩
theorem nf_ne {d : Circ} (h : NF d) {k j : Nat} (hk : k < j) (hj : j < d.gates.length) : ¬ ((d.gates.getD j (0, 0)).1 = (d.gates.getD k (0, 0)).1 ∧ (d.gates.getD j (0, 0)).2 = (d.gates.getD k (0, 0)).2) := by
  rintro ⟨e1, e2⟩
  have hne := (List.pairwise_iff_getElem.1 h.gs.nd) k j (by omega) hj hk
  apply hne
  have g1 : d.gates.getD k (0, 0) = d.gates[k] := by rw [List.getD_eq_getElem?_getD, List.getElem?_eq_getElem (by omega)]; rfl
  have g2 : d.gates.getD j (0, 0) = d.gates[j] := by rw [List.getD_eq_getElem?_getD, List.getElem?_eq_getElem hj]; rfl
  rw [← g1, ← g2]
  exact Prod.ext e1.symm e2.symm
end Go.Proofs.Ytpfhlodlefcomaa
