/- Plain: the cuts of the variables of a circuit. -/
import Derived.Test.YtpomcoegpjehgaaBase
namespace Go.Proofs.Ytpomcoegpjehgaa
set_option linter.unusedVariables false
set_option linter.unusedSimpArgs false
theorem litB_ok {l n : Int} (h : litB l n = true) : 0 ≤ l ∧ l < 2 * n := by simpa [litB] using h
/-- Strictly ascending. -/
def Asc (xs : List Int) : Prop := xs.Pairwise (· < ·)
theorem asc_ext : ∀ {xs ys : List Int}, Asc xs → Asc ys → (∀ x, x ∈ xs ↔ x ∈ ys) → xs = ys
  | [], [], _, _, _ => rfl
  | [], y :: ys, _, _, h => by have := (h y).2 (by simp); simp at this
  | x :: xs, [], _, _, h => by have := (h x).1 (by simp); simp at this
  | x :: xs, y :: ys, hx, hy, h => by
    have hx1 := List.pairwise_cons.1 hx
    have hy1 := List.pairwise_cons.1 hy
    have e : x = y := by
      have h1 := (h x).1 (by simp)
      have h2 := (h y).2 (by simp)
      rcases List.mem_cons.1 h1 with h1 | h1
      · exact h1
      · rcases List.mem_cons.1 h2 with h2 | h2
        · exact h2.symm
        · have := hy1.1 x h1; have := hx1.1 y h2; omega
    subst e
    rw [asc_ext hx1.2 hy1.2 (fun z => ?_)]
    constructor
    · intro hz
      rcases List.mem_cons.1 ((h z).1 (List.mem_cons_of_mem _ hz)) with h1 | h1
      · have := hx1.1 z hz; omega
      · exact h1
    · intro hz
      rcases List.mem_cons.1 ((h z).2 (List.mem_cons_of_mem _ hz)) with h1 | h1
      · have := hy1.1 z hz; omega
      · exact h1
/-- The union of two strictly ascending lists. -/
def mrg : List Int → List Int → List Int
  | [], b => b
  | x :: a, [] => x :: a
  | x :: a, y :: b => if x < y then x :: mrg a (y :: b) else if y < x then y :: mrg (x :: a) b else x :: mrg a b
termination_by a b => a.length + b.length
theorem mrg_nil (a : List Int) : mrg a [] = a := by cases a <;> simp [mrg]
theorem mem_mrg : ∀ {a b : List Int} {z : Int}, z ∈ mrg a b ↔ z ∈ a ∨ z ∈ b
  | [], b, z => by simp [mrg]
  | x :: a, [], z => by simp [mrg]
  | x :: a, y :: b, z => by
    unfold mrg
    split
    · rw [List.mem_cons, mem_mrg]; simp only [List.mem_cons]
      constructor
      · rintro (h | h | h | h) <;> simp [h]
      · rintro ((h | h) | h | h) <;> simp [h]
    · split
      · rw [List.mem_cons, mem_mrg]; simp only [List.mem_cons]
        constructor
        · rintro (h | (h | h) | h) <;> simp [h]
        · rintro ((h | h) | h | h) <;> simp [h]
      · have e : x = y := by omega
        rw [List.mem_cons, mem_mrg]; simp only [List.mem_cons]
        constructor
        · rintro (h | h | h) <;> simp [h]
        · rintro ((h | h) | h | h) <;> simp [h, e]
termination_by a b => a.length + b.length
theorem asc_mrg : ∀ {a b : List Int}, Asc a → Asc b → Asc (mrg a b)
  | [], b, _, hb => by simpa [mrg] using hb
  | x :: a, [], ha, _ => by simpa [mrg] using ha
  | x :: a, y :: b, ha, hb => by
    have ha1 := List.pairwise_cons.1 ha
    have hb1 := List.pairwise_cons.1 hb
    unfold mrg
    split
    · refine List.pairwise_cons.2 ⟨fun z hz => ?_, asc_mrg ha1.2 hb⟩
      rcases mem_mrg.1 hz with h | h
      · exact ha1.1 z h
      · rcases List.mem_cons.1 h with h | h
        · omega
        · have := hb1.1 z h; omega
    · split
      · refine List.pairwise_cons.2 ⟨fun z hz => ?_, asc_mrg ha hb1.2⟩
        rcases mem_mrg.1 hz with h | h
        · rcases List.mem_cons.1 h with h | h
          · omega
          · have := ha1.1 z h; omega
        · exact hb1.1 z h
      · refine List.pairwise_cons.2 ⟨fun z hz => ?_, asc_mrg ha1.2 hb1.2⟩
        rcases mem_mrg.1 hz with h | h
        · exact ha1.1 z h
        · have := hb1.1 z h; omega
termination_by a b => a.length + b.length
theorem mrg_len : ∀ (a b : List Int), (mrg a b).length ≤ a.length + b.length ∧ a.length ≤ (mrg a b).length ∧ b.length ≤ (mrg a b).length
  | [], b => by simp [mrg]
  | x :: a, [] => by simp [mrg]
  | x :: a, y :: b => by
    unfold mrg
    split
    · have := mrg_len a (y :: b); simp at this ⊢; omega
    · split
      · have := mrg_len (x :: a) b; simp at this ⊢; omega
      · have := mrg_len a b; simp at this ⊢; omega
termination_by a b => a.length + b.length
/-! ### The unions of two lists of cuts -/
def joinStep (out : List (List Int)) (cut : List Int) : List (List Int) := if 3 < cut.length ∨ out.length = 8 then out else if cut ∈ out then out else out ++ [cut]
def pairsV (a b : List (List Int)) : List (List Int) := a.flatMap fun x => b.map fun y => mrg x y
def joinV (a b : List (List Int)) : List (List Int) := (pairsV a b).foldl joinStep []
/-- A row of x with the first k of b. -/
def joinRow (x : List Int) (b : List (List Int)) (out : List (List Int)) : List (List Int) := (b.map fun y => mrg x y).foldl joinStep out
theorem joinV_eq (a b : List (List Int)) : joinV a b = a.foldl (fun out x => joinRow x b out) [] := by
  unfold joinV pairsV
  generalize ([] : List (List Int)) = o
  induction a generalizing o with
  | nil => rfl
  | cons x a ih => rw [List.flatMap_cons, List.foldl_append, ih]; rfl
theorem joinStep_len {out : List (List Int)} {cut : List Int} (h : out.length ≤ 8) : (joinStep out cut).length ≤ 8 := by
  unfold joinStep
  split
  · exact h
  · split
    · exact h
    · simp; omega
theorem foldl_inv {α β : Type} {f : β → α → β} {p : β → Prop} (hs : ∀ b a, p b → p (f b a)) (xs : List α) (b : β) (hb : p b) : p (xs.foldl f b) := by
  induction xs generalizing b with
  | nil => exact hb
  | cons x xs ih => exact ih _ (hs b x hb)
theorem foldl_inv_mem {α β : Type} {f : β → α → β} {p : β → Prop} : ∀ (xs : List α), (∀ b, ∀ a ∈ xs, p b → p (f b a)) → ∀ b, p b → p (xs.foldl f b)
  | [], _, b, hb => hb
  | x :: xs, hs, b, hb => foldl_inv_mem xs (fun b a ha => hs b a (List.mem_cons_of_mem _ ha)) _ (hs b x (by simp) hb)
/-- What all the cuts of variable v are like. -/
structure CutOk (v : Int) (x : List Int) : Prop where
  asc : Asc x
  len : x.length ≤ 3
  lo : ∀ z ∈ x, 0 < z
  hi : ∀ z ∈ x, z < v
theorem joinStep_ok {v : Int} {out : List (List Int)} {x y : List Int} (h : ∀ z ∈ out, CutOk v z) (hx : CutOk v x) (hy : CutOk v y) : ∀ z ∈ joinStep out (mrg x y), CutOk v z := by
  unfold joinStep
  split
  · exact h
  · rename_i h1
    split
    · exact h
    · intro z hz
      rcases List.mem_append.1 hz with h2 | h2
      · exact h z h2
      · simp at h2
        subst h2
        refine ⟨asc_mrg hx.asc hy.asc, by omega, fun q hq => ?_, fun q hq => ?_⟩
        · rcases mem_mrg.1 hq with h3 | h3
          · exact hx.lo q h3
          · exact hy.lo q h3
        · rcases mem_mrg.1 hq with h3 | h3
          · exact hx.hi q h3
          · exact hy.hi q h3
theorem joinRow_ok {v : Int} {out b : List (List Int)} {x : List Int} (h : (∀ z ∈ out, CutOk v z) ∧ out.length ≤ 8) (hx : CutOk v x) (hb : ∀ y ∈ b, CutOk v y) : (∀ z ∈ joinRow x b out, CutOk v z) ∧ (joinRow x b out).length ≤ 8 := by
  unfold joinRow
  refine foldl_inv_mem (p := fun o => (∀ z ∈ o, CutOk v z) ∧ o.length ≤ 8) _ (fun o c hc ho => ?_) out h
  obtain ⟨y, hy, rfl⟩ := List.mem_map.1 hc
  exact ⟨joinStep_ok ho.1 hx (hb y hy), joinStep_len ho.2⟩
theorem joinV_ok {v : Int} {a b : List (List Int)} (ha : ∀ x ∈ a, CutOk v x) (hb : ∀ y ∈ b, CutOk v y) : (∀ z ∈ joinV a b, CutOk v z) ∧ (joinV a b).length ≤ 8 := by
  rw [joinV_eq]
  exact foldl_inv_mem (p := fun o => (∀ z ∈ o, CutOk v z) ∧ o.length ≤ 8) _ (fun o x hx ho => joinRow_ok ho (ha x hx) hb) [] ⟨fun z hz => by simp at hz, by simp⟩
theorem joinStep_ne {out : List (List Int)} {cut : List Int} (h : out ≠ []) : joinStep out cut ≠ [] := by
  unfold joinStep
  split
  · exact h
  · split
    · exact h
    · simp
theorem joinStep_ne2 {out : List (List Int)} {cut : List Int} (h : cut.length ≤ 3) : joinStep out cut ≠ [] := by
  unfold joinStep
  split
  · rename_i h1
    rcases h1 with h1 | h1
    · omega
    · intro e; rw [e] at h1; simp at h1
  · split
    · rename_i h2
      intro e; rw [e] at h2; simp at h2
    · simp
theorem foldl_ne : ∀ (xs : List (List Int)) (out : List (List Int)), (out ≠ [] ∨ ∃ c ∈ xs, c.length ≤ 3) → xs.foldl joinStep out ≠ []
  | [], out, h => by rcases h with h | ⟨c, hc, _⟩; exact h; simp at hc
  | x :: xs, out, h => by
    refine foldl_ne xs _ ?_
    rcases h with h | ⟨c, hc, hl⟩
    · exact .inl (joinStep_ne h)
    · rcases List.mem_cons.1 hc with rfl | hc
      · exact .inl (joinStep_ne2 hl)
      · exact .inr ⟨c, hc, hl⟩
theorem joinV_ne {a b : List (List Int)} {x y : List Int} (hx : x ∈ a) (hy : y ∈ b) (h1 : x.length ≤ 1) (h2 : y.length ≤ 1) : joinV a b ≠ [] := by
  refine foldl_ne _ _ (.inr ⟨mrg x y, ?_, ?_⟩)
  · exact List.mem_flatMap.2 ⟨x, hx, List.mem_map.2 ⟨y, hy, rfl⟩⟩
  · have := (mrg_len x y).1; omega
/-! ### The cuts of all variables -/
def cuts0 (f : Int) : List (List (List Int)) := [[]] :: (List.range (f - 1).toNat).map fun (i : Nat) => [[(i : Int) + 1]]
def cutStep (all : List (List (List Int))) (g : Int × Int) : List (List (List Int)) := all ++ [joinV (all.getD (g.1 / 2).toNat []) (all.getD (g.2 / 2).toNat []) ++ [[(all.length : Int)]]]
def cutsN (c : Circ) : List (List (List Int)) := c.gates.foldl cutStep (cuts0 c.first)
noncomputable def cutsV (c : Circ) : List (List (List Int)) := if validB c then cutsN c else []
theorem cuts0_length {f : Int} (h : 1 ≤ f) : ((cuts0 f).length : Int) = f := by simp [cuts0]; omega
theorem cutStep_length (all : List (List (List Int))) (g : Int × Int) : (cutStep all g).length = all.length + 1 := by simp [cutStep]
theorem foldl_cut_length (gs : List (Int × Int)) : ∀ all, (gs.foldl cutStep all).length = all.length + gs.length := by
  induction gs with
  | nil => intro all; simp
  | cons g gs ih => intro all; rw [List.foldl_cons, ih, cutStep_length]; simp; omega
theorem cutsN_length (c : Circ) (h : 1 ≤ c.first) : ((cutsN c).length : Int) = c.vars := by
  unfold cutsN Circ.vars
  rw [foldl_cut_length]
  have := cuts0_length h
  omega
/-- What the cuts of variable v are like. -/
structure ListOk (f v : Int) (L : List (List Int)) : Prop where
  ok : ∀ x ∈ L, CutOk (v + 1) x
  n : L.length ≤ 9
  one : ∃ x ∈ L, x.length ≤ 1
  gate : f ≤ v → ∃ M, L = M ++ [[v]] ∧ M ≠ [] ∧ M.length ≤ 8 ∧ ∀ x ∈ M, CutOk v x
  low : 0 < v → v < f → L = [[v]]
  zero : v = 0 → L = [[]]
theorem CutOk.mono {v u : Int} {x : List Int} (h : CutOk v x) (hu : v ≤ u) : CutOk u x := ⟨h.asc, h.len, h.lo, fun z hz => by have := h.hi z hz; omega⟩
def CutsOk (f : Int) (all : List (List (List Int))) : Prop := ∀ v, v < all.length → ListOk f v (all.getD v [])
theorem cuts0_get {f : Int} (v : Nat) (hv : v < (cuts0 f).length) : (cuts0 f).getD v [] = if v = 0 then [[]] else [[(v : Int)]] := by
  cases v with
  | zero => rfl
  | succ v =>
    have hv2 : v < (f - 1).toNat := by simpa [cuts0] using hv
    rw [if_neg (by omega)]
    unfold cuts0
    rw [List.getD_cons_succ, List.getD_eq_getElem?_getD, List.getElem?_map, List.getElem?_range hv2]
    simp
theorem cuts0_ok {f : Int} (hf : 1 ≤ f) : CutsOk f (cuts0 f) := by
  intro v hv
  have hl := cuts0_length hf
  rw [cuts0_get v hv]
  by_cases h : v = 0
  · subst h
    rw [if_pos rfl]
    exact ⟨fun x hx => by simp at hx; subst hx; exact ⟨List.Pairwise.nil, by simp, by simp, by simp⟩, by simp, ⟨[], by simp, by simp⟩, fun h => by omega, fun h => by omega, fun _ => rfl⟩
  · rw [if_neg h]
    exact ⟨fun x hx => by simp at hx; subst hx; exact ⟨by simp [Asc], by simp, fun z hz => by simp at hz; omega, fun z hz => by simp at hz; omega⟩, by simp, ⟨[(v : Int)], by simp, by simp⟩, fun h => by omega, fun _ _ => rfl, fun h => by omega⟩
theorem getD_snoc {α : Type} (xs : List α) (x d : α) (j : Nat) : (xs ++ [x]).getD j d = if j < xs.length then xs.getD j d else if j = xs.length then x else d := by
  rw [List.getD_eq_getElem?_getD, List.getD_eq_getElem?_getD]
  by_cases h : j < xs.length
  · rw [if_pos h, List.getElem?_append_left h]
  · rw [if_neg h]
    by_cases e : j = xs.length
    · subst e; simp
    · rw [if_neg e, List.getElem?_eq_none (by simp; omega)]; rfl
theorem cutStep_ok {f : Int} {all : List (List (List Int))} {g : Int × Int} (hf : 1 ≤ f) (hl : f ≤ all.length) (h : CutsOk f all) (ha0 : 0 ≤ g.1) (ha : g.1 / 2 < all.length) (hb0 : 0 ≤ g.2) (hb : g.2 / 2 < all.length) : CutsOk f (cutStep all g) := by
  intro v hv
  rw [cutStep_length] at hv
  unfold cutStep
  rw [getD_snoc]
  by_cases h1 : v < all.length
  · rw [if_pos h1]; exact h v h1
  · have h2 : v = all.length := by omega
    subst h2
    rw [if_neg h1, if_pos rfl]
    have A := h (g.1 / 2).toNat (by omega)
    have B := h (g.2 / 2).toNat (by omega)
    have J := joinV_ok (v := (all.length : Int)) (fun x hx => (A.ok x hx).mono (by omega)) (fun x hx => (B.ok x hx).mono (by omega))
    obtain ⟨xa, hxa, la⟩ := A.one
    obtain ⟨xb, hxb, lb⟩ := B.one
    have N := joinV_ne hxa hxb la lb
    refine ⟨fun x hx => ?_, by rw [List.length_append]; have := J.2; simp only [List.length_cons, List.length_nil]; omega, ⟨[(all.length : Int)], by simp, by simp⟩, fun _ => ⟨_, rfl, N, J.2, J.1⟩, fun h => by omega, fun h => by omega⟩
    rcases List.mem_append.1 hx with h3 | h3
    · exact (J.1 x h3).mono (by omega)
    · simp at h3
      subst h3
      exact ⟨by simp [Asc], by simp, fun z hz => by simp at hz; omega, fun z hz => by simp at hz; omega⟩
end Go.Proofs.Ytpomcoegpjehgaa
