/- Bundle: the cuts of both libraries. -/
import Derived.Test.YtgialedmbmfejaaBase
import Derived.Test.YtgialedmbmfejaaNest
import Derived.Deep.QuietTactic
import Derived.BigQuiet
import Derived.Outline
import Derived.Test.YtgialedmbmfejaaSpec1
import Derived.Test.YtgialedmbmfejaaRegion
namespace Go.Proofs.Ytgialedmbmfejaa
set_option linter.unusedVariables false
set_option linter.unusedSimpArgs false
theorem litB_ok {l n : Int} (h : litB l n = true) : 0 ≤ l ∧ l < 2 * n := by simpa [litB] using h
/-- Strictly ascending. -/
def Asc (xs : List Int) : Prop := xs.Pairwise (· < ·)
theorem asc_ext : ∀ {xs ys : List Int}, Asc xs → Asc ys → (∀ x, x ∈ xs ↔ x ∈ ys) → xs = ys
 | [], [], _, _, _ => rfl
 | [], y :: ys, _, _, h => by have := (h y).2 (by simp); simp at this
 | x :: xs, [], _, _, h => by have := (h x).1 (by simp); simp at this
 | x :: xs, y :: ys, hx, hy, h => by
  have hx1 := List.pairwise_cons.1 hx
  have hy1 := List.pairwise_cons.1 hy
  have e : x = y := by
   have h1 := (h x).1 (by simp)
   have h2 := (h y).2 (by simp)
   rcases List.mem_cons.1 h1 with h1 | h1
   ·exact h1
   ·rcases List.mem_cons.1 h2 with h2 | h2
    ·exact h2.symm
    ·have := hy1.1 x h1; have := hx1.1 y h2; omega
  subst e
  rw [asc_ext hx1.2 hy1.2 (fun z => ?_)]
  constructor
  ·intro hz
   rcases List.mem_cons.1 ((h z).1 (List.mem_cons_of_mem _ hz)) with h1 | h1
   ·have := hx1.1 z hz; omega
   ·exact h1
  ·intro hz
   rcases List.mem_cons.1 ((h z).2 (List.mem_cons_of_mem _ hz)) with h1 | h1
   ·have := hy1.1 z hz; omega
   ·exact h1
/-- The union of two strictly ascending lists. -/
def mrg : List Int → List Int → List Int
 | [], b => b
 | x :: a, [] => x :: a
 | x :: a, y :: b => if x < y then x :: mrg a (y :: b) else if y < x then y :: mrg (x :: a) b else x :: mrg a b
termination_by a b => a.length + b.length
theorem mrg_nil (a : List Int) : mrg a [] = a := by cases a <;> simp [mrg]
theorem mem_mrg : ∀ {a b : List Int} {z : Int}, z ∈ mrg a b ↔ z ∈ a ∨ z ∈ b
 | [], b, z => by simp [mrg]
 | x :: a, [], z => by simp [mrg]
 | x :: a, y :: b, z => by
  unfold mrg
  split
  ·rw [List.mem_cons, mem_mrg]; simp only [List.mem_cons]
   constructor
   ·rintro (h | h | h | h) <;> simp [h]
   ·rintro ((h | h) | h | h) <;> simp [h]
  ·split
   ·rw [List.mem_cons, mem_mrg]; simp only [List.mem_cons]
    constructor
    ·rintro (h | (h | h) | h) <;> simp [h]
    ·rintro ((h | h) | h | h) <;> simp [h]
   ·have e : x = y := by omega
    rw [List.mem_cons, mem_mrg]; simp only [List.mem_cons]
    constructor
    ·rintro (h | h | h) <;> simp [h]
    ·rintro ((h | h) | h | h) <;> simp [h, e]
termination_by a b => a.length + b.length
theorem asc_mrg : ∀ {a b : List Int}, Asc a → Asc b → Asc (mrg a b)
 | [], b, _, hb => by simpa [mrg] using hb
 | x :: a, [], ha, _ => by simpa [mrg] using ha
 | x :: a, y :: b, ha, hb => by
  have ha1 := List.pairwise_cons.1 ha
  have hb1 := List.pairwise_cons.1 hb
  unfold mrg
  split
  ·refine List.pairwise_cons.2 ⟨fun z hz => ?_, asc_mrg ha1.2 hb⟩
   rcases mem_mrg.1 hz with h | h
   ·exact ha1.1 z h
   ·rcases List.mem_cons.1 h with h | h
    ·omega
    ·have := hb1.1 z h; omega
  ·split
   ·refine List.pairwise_cons.2 ⟨fun z hz => ?_, asc_mrg ha hb1.2⟩
    rcases mem_mrg.1 hz with h | h
    ·rcases List.mem_cons.1 h with h | h
     ·omega
     ·have := ha1.1 z h; omega
    ·exact hb1.1 z h
   ·refine List.pairwise_cons.2 ⟨fun z hz => ?_, asc_mrg ha1.2 hb1.2⟩
    rcases mem_mrg.1 hz with h | h
    ·exact ha1.1 z h
    ·have := hb1.1 z h; omega
termination_by a b => a.length + b.length
theorem mrg_len : ∀ (a b : List Int), (mrg a b).length ≤ a.length + b.length ∧ a.length ≤ (mrg a b).length ∧ b.length ≤ (mrg a b).length
 | [], b => by simp [mrg]
 | x :: a, [] => by simp [mrg]
 | x :: a, y :: b => by
  unfold mrg
  split
  ·have := mrg_len a (y :: b); simp at this ⊢; omega
  ·split
   ·have := mrg_len (x :: a) b; simp at this ⊢; omega
   ·have := mrg_len a b; simp at this ⊢; omega
termination_by a b => a.length + b.length
/-! ### The unions of two lists of cuts -/
def joinStep (out : List (List Int)) (cut : List Int) : List (List Int) := if 3 < cut.length ∨ out.length = 8 then out else if cut ∈ out then out else out ++ [cut]
def pairsV (a b : List (List Int)) : List (List Int) := a.flatMap fun x => b.map fun y => mrg x y
def joinV (a b : List (List Int)) : List (List Int) := (pairsV a b).foldl joinStep []
/-- A row of x with the first k of b. -/
def joinRow (x : List Int) (b : List (List Int)) (out : List (List Int)) : List (List Int) := (b.map fun y => mrg x y).foldl joinStep out
theorem joinV_eq (a b : List (List Int)) : joinV a b = a.foldl (fun out x => joinRow x b out) [] := by
 unfold joinV pairsV
 generalize ([] : List (List Int)) = o
 induction a generalizing o with
 | nil => rfl
 | cons x a ih => rw [List.flatMap_cons, List.foldl_append, ih]; rfl
theorem joinStep_len {out : List (List Int)} {cut : List Int} (h : out.length ≤ 8) : (joinStep out cut).length ≤ 8 := by
 unfold joinStep
 split
 ·exact h
 ·split
  ·exact h
  ·simp; omega
theorem foldl_inv {α β : Type} {f : β → α → β} {p : β → Prop} (hs : ∀ b a, p b → p (f b a)) (xs : List α) (b : β) (hb : p b) : p (xs.foldl f b) := by
 induction xs generalizing b with
 | nil => exact hb
 | cons x xs ih => exact ih _ (hs b x hb)
theorem foldl_inv_mem {α β : Type} {f : β → α → β} {p : β → Prop} : ∀ (xs : List α), (∀ b, ∀ a ∈ xs, p b → p (f b a)) → ∀ b, p b → p (xs.foldl f b)
 | [], _, b, hb => hb
 | x :: xs, hs, b, hb => foldl_inv_mem xs (fun b a ha => hs b a (List.mem_cons_of_mem _ ha)) _ (hs b x (by simp) hb)
/-- What all the cuts of variable v are like. -/
structure CutOk (v : Int) (x : List Int) : Prop where
 asc : Asc x
 len : x.length ≤ 3
 lo : ∀ z ∈ x, 0 < z
 hi : ∀ z ∈ x, z < v
theorem joinStep_ok {v : Int} {out : List (List Int)} {x y : List Int} (h : ∀ z ∈ out, CutOk v z) (hx : CutOk v x) (hy : CutOk v y) : ∀ z ∈ joinStep out (mrg x y), CutOk v z := by
 unfold joinStep
 split
 ·exact h
 ·rename_i h1
  split
  ·exact h
  ·intro z hz
   rcases List.mem_append.1 hz with h2 | h2
   ·exact h z h2
   ·simp at h2
    subst h2
    refine ⟨asc_mrg hx.asc hy.asc, by omega, fun q hq => ?_, fun q hq => ?_⟩
    ·rcases mem_mrg.1 hq with h3 | h3
     ·exact hx.lo q h3
     ·exact hy.lo q h3
    ·rcases mem_mrg.1 hq with h3 | h3
     ·exact hx.hi q h3
     ·exact hy.hi q h3
theorem joinRow_ok {v : Int} {out b : List (List Int)} {x : List Int} (h : (∀ z ∈ out, CutOk v z) ∧ out.length ≤ 8) (hx : CutOk v x) (hb : ∀ y ∈ b, CutOk v y) : (∀ z ∈ joinRow x b out, CutOk v z) ∧ (joinRow x b out).length ≤ 8 := by
 unfold joinRow
 refine foldl_inv_mem (p := fun o => (∀ z ∈ o, CutOk v z) ∧ o.length ≤ 8) _ (fun o c hc ho => ?_) out h
 obtain ⟨y, hy, rfl⟩ := List.mem_map.1 hc
 exact ⟨joinStep_ok ho.1 hx (hb y hy), joinStep_len ho.2⟩
theorem joinV_ok {v : Int} {a b : List (List Int)} (ha : ∀ x ∈ a, CutOk v x) (hb : ∀ y ∈ b, CutOk v y) : (∀ z ∈ joinV a b, CutOk v z) ∧ (joinV a b).length ≤ 8 := by
 rw [joinV_eq]
 exact foldl_inv_mem (p := fun o => (∀ z ∈ o, CutOk v z) ∧ o.length ≤ 8) _ (fun o x hx ho => joinRow_ok ho (ha x hx) hb) [] ⟨fun z hz => by simp at hz, by simp⟩
theorem joinStep_ne {out : List (List Int)} {cut : List Int} (h : out ≠ []) : joinStep out cut ≠ [] := by
 unfold joinStep
 split
 ·exact h
 ·split
  ·exact h
  ·simp
theorem joinStep_ne2 {out : List (List Int)} {cut : List Int} (h : cut.length ≤ 3) : joinStep out cut ≠ [] := by
 unfold joinStep
 split
 ·rename_i h1
  rcases h1 with h1 | h1
  ·omega
  ·intro e; rw [e] at h1; simp at h1
 ·split
  ·rename_i h2
   intro e; rw [e] at h2; simp at h2
  ·simp
theorem foldl_ne : ∀ (xs : List (List Int)) (out : List (List Int)), (out ≠ [] ∨ ∃ c ∈ xs, c.length ≤ 3) → xs.foldl joinStep out ≠ []
 | [], out, h => by rcases h with h | ⟨c, hc, _⟩; exact h; simp at hc
 | x :: xs, out, h => by
  refine foldl_ne xs _ ?_
  rcases h with h | ⟨c, hc, hl⟩
  ·exact .inl (joinStep_ne h)
  ·rcases List.mem_cons.1 hc with rfl | hc
   ·exact .inl (joinStep_ne2 hl)
   ·exact .inr ⟨c, hc, hl⟩
theorem joinV_ne {a b : List (List Int)} {x y : List Int} (hx : x ∈ a) (hy : y ∈ b) (h1 : x.length ≤ 1) (h2 : y.length ≤ 1) : joinV a b ≠ [] := by
 refine foldl_ne _ _ (.inr ⟨mrg x y, ?_, ?_⟩)
 ·exact List.mem_flatMap.2 ⟨x, hx, List.mem_map.2 ⟨y, hy, rfl⟩⟩
 ·have := (mrg_len x y).1; omega
/-! ### The cuts of all variables -/
def cuts0 (f : Int) : List (List (List Int)) := [[]] :: (List.range (f - 1).toNat).map fun (i : Nat) => [[(i : Int) + 1]]
def cutStep (all : List (List (List Int))) (g : Int × Int) : List (List (List Int)) := all ++ [joinV (all.getD (g.1 / 2).toNat []) (all.getD (g.2 / 2).toNat []) ++ [[(all.length : Int)]]]
def cutsN (c : Circ) : List (List (List Int)) := c.gates.foldl cutStep (cuts0 c.first)
noncomputable def cutsV (c : Circ) : List (List (List Int)) := if validB c then cutsN c else []
theorem cuts0_length {f : Int} (h : 1 ≤ f) : ((cuts0 f).length : Int) = f := by simp [cuts0]; omega
theorem cutStep_length (all : List (List (List Int))) (g : Int × Int) : (cutStep all g).length = all.length + 1 := by simp [cutStep]
theorem foldl_cut_length (gs : List (Int × Int)) : ∀ all, (gs.foldl cutStep all).length = all.length + gs.length := by
 induction gs with
 | nil => intro all; simp
 | cons g gs ih => intro all; rw [List.foldl_cons, ih, cutStep_length]; simp; omega
theorem cutsN_length (c : Circ) (h : 1 ≤ c.first) : ((cutsN c).length : Int) = c.vars := by
 unfold cutsN Circ.vars
 rw [foldl_cut_length]
 have := cuts0_length h
 omega
/-- What the cuts of variable v are like. -/
structure ListOk (f v : Int) (L : List (List Int)) : Prop where
 ok : ∀ x ∈ L, CutOk (v + 1) x
 n : L.length ≤ 9
 one : ∃ x ∈ L, x.length ≤ 1
 gate : f ≤ v → ∃ M, L = M ++ [[v]] ∧ M ≠ [] ∧ M.length ≤ 8 ∧ ∀ x ∈ M, CutOk v x
 low : 0 < v → v < f → L = [[v]]
 zero : v = 0 → L = [[]]
theorem CutOk.mono {v u : Int} {x : List Int} (h : CutOk v x) (hu : v ≤ u) : CutOk u x := ⟨h.asc, h.len, h.lo, fun z hz => by have := h.hi z hz; omega⟩
def CutsOk (f : Int) (all : List (List (List Int))) : Prop := ∀ v, v < all.length → ListOk f v (all.getD v [])
theorem cuts0_get {f : Int} (v : Nat) (hv : v < (cuts0 f).length) : (cuts0 f).getD v [] = if v = 0 then [[]] else [[(v : Int)]] := by
 cases v with
 | zero => rfl
 | succ v =>
  have hv2 : v < (f - 1).toNat := by simpa [cuts0] using hv
  rw [if_neg (by omega)]
  unfold cuts0
  rw [List.getD_cons_succ, List.getD_eq_getElem?_getD, List.getElem?_map, List.getElem?_range hv2]
  simp
theorem cuts0_ok {f : Int} (hf : 1 ≤ f) : CutsOk f (cuts0 f) := by
 intro v hv
 have hl := cuts0_length hf
 rw [cuts0_get v hv]
 by_cases h : v = 0
 ·subst h
  rw [if_pos rfl]
  exact ⟨fun x hx => by simp at hx; subst hx; exact ⟨List.Pairwise.nil, by simp, by simp, by simp⟩, by simp, ⟨[], by simp, by simp⟩, fun h => by omega, fun h => by omega, fun _ => rfl⟩
 ·rw [if_neg h]
  exact ⟨fun x hx => by simp at hx; subst hx; exact ⟨by simp [Asc], by simp, fun z hz => by simp at hz; omega, fun z hz => by simp at hz; omega⟩, by simp, ⟨[(v : Int)], by simp, by simp⟩, fun h => by omega, fun _ _ => rfl, fun h => by omega⟩
theorem getD_snoc {α : Type} (xs : List α) (x d : α) (j : Nat) : (xs ++ [x]).getD j d = if j < xs.length then xs.getD j d else if j = xs.length then x else d := by
 rw [List.getD_eq_getElem?_getD, List.getD_eq_getElem?_getD]
 by_cases h : j < xs.length
 ·rw [if_pos h, List.getElem?_append_left h]
 ·rw [if_neg h]
  by_cases e : j = xs.length
  ·subst e; simp
  ·rw [if_neg e, List.getElem?_eq_none (by simp; omega)]; rfl
theorem cutStep_ok {f : Int} {all : List (List (List Int))} {g : Int × Int} (hf : 1 ≤ f) (hl : f ≤ all.length) (h : CutsOk f all) (ha0 : 0 ≤ g.1) (ha : g.1 / 2 < all.length) (hb0 : 0 ≤ g.2) (hb : g.2 / 2 < all.length) : CutsOk f (cutStep all g) := by
 intro v hv
 rw [cutStep_length] at hv
 unfold cutStep
 rw [getD_snoc]
 by_cases h1 : v < all.length
 ·rw [if_pos h1]; exact h v h1
 ·have h2 : v = all.length := by omega
  subst h2
  rw [if_neg h1, if_pos rfl]
  have A := h (g.1 / 2).toNat (by omega)
  have B := h (g.2 / 2).toNat (by omega)
  have J := joinV_ok (v := (all.length : Int)) (fun x hx => (A.ok x hx).mono (by omega)) (fun x hx => (B.ok x hx).mono (by omega))
  obtain ⟨xa, hxa, la⟩ := A.one
  obtain ⟨xb, hxb, lb⟩ := B.one
  have N := joinV_ne hxa hxb la lb
  refine ⟨fun x hx => ?_, by rw [List.length_append]; have := J.2; simp only [List.length_cons, List.length_nil]; omega, ⟨[(all.length : Int)], by simp, by simp⟩, fun _ => ⟨_, rfl, N, J.2, J.1⟩, fun h => by omega, fun h => by omega⟩
  rcases List.mem_append.1 hx with h3 | h3
  ·exact (J.1 x h3).mono (by omega)
  ·simp at h3
   subst h3
   exact ⟨by simp [Asc], by simp, fun z hz => by simp at hz; omega, fun z hz => by simp at hz; omega⟩
end Go.Proofs.Ytgialedmbmfejaa

namespace Go.Proofs.Ytgialedmbmfejaa
open Go.RowKit
set_option maxRecDepth 100000
set_option linter.unusedVariables false
set_option linter.unusedSimpArgs false
theorem tyII : RowTy Try.prog 157 23 1 24 := RowTy.mk' (z := .slice none 0 0) Try.underlying157 (by kernel_rfl) rfl (by decide) (by decide)
theorem tyIII : RowTy Try.prog 165 157 1 24 := RowTy.mk' (z := .slice none 0 0) Try.underlying165 (by kernel_rfl) rfl (by decide) (by decide)
abbrev PII : OwnP (List (List Int)) := PNst PInts 23 1
theorem goodII : GoodP PII 1 := goodNst goodInts
abbrev NstII (w : World) (v : Value) (x : List (List (List Int))) (F : List Nat) : Prop := Nst PII 157 1 w v x F
theorem goodIII : GoodP (PNst PII 157 1) 1 := goodNst goodII
section
variable {α : Type} {P : OwnP α} {size : Nat} {w w' : World}
theorem Nst.lit {T : TypeId} {B : Nat} {cs : List Value} {x : α} {F : List Nat} (hP : GoodP P size) (b : Blk w B T cs) (hx : P w cs x F) (hd : B ∉ F) : Nst P T size w (.slice (some ⟨B, 0, none⟩) 1 1) [x] (B :: F) := by
 refine ⟨cs, F, b.owns (n := 1) (by rw [hP.len hx, Nat.one_mul]) (Nat.zero_le _) (by decide), ElsN.one_ hx, rfl, fun g hg => ?_⟩
 have := mem_fp.1 hg
 cases this; exact hd
theorem Blk.pints {B : Nat} {t : TypeId} {xs : List Int} (b : Blk w B 3 (xs.map (Value.int .i64))) (hl : xs.length ≤ maxLen) : PInts w [.slice (some ⟨B, 0, none⟩) xs.length xs.length] xs [B] :=
 ⟨_, rfl, b.owns (n := xs.length) (size := 1) (by simp) (Nat.zero_le _) hl, rfl⟩
end
theorem Nst.made0 {α : Type} {P : OwnP α} {T : TypeId} {size : Nat} (w : World) {B : Nat} (hB : w.heap.size = B) : Nst P T size (w.alloc (.cells #[] T)) (.slice (some ⟨B, 0, none⟩) 0 0) ([] : List α) [B] :=
 ⟨[], [], (Blk.at w [] T hB).owns (n := 0) (by simp) (Nat.zero_le _) (by decide), .nil, rfl, fun g _ h => by simp at h⟩
/-- The literal of one slice of one number: two new blocks. -/
theorem lit_ii (w : World) (v : Int) {B : Nat} (hB : w.heap.size = B) : NstI ((w.alloc (.cells #[.int .i64 v] 3)).alloc (.cells #[.slice (some ⟨B, 0, none⟩) 1 1] 23)) (.slice (some ⟨B + 1, 0, none⟩) 1 1) [[v]] [B + 1, B] := by
 subst hB
 have b0 := (Blk.at w [.int .i64 v] 3 rfl).ext ((Ext.refl _).alloc (.cells #[.slice (some ⟨w.heap.size, 0, none⟩) 1 1] 23))
 have b1 := Blk.at (w.alloc (.cells #[.int .i64 v] 3)) [.slice (some ⟨w.heap.size, 0, none⟩) 1 1] 23 (B := w.heap.size + 1) (by simp)
 exact Nst.lit goodInts b1 (Blk.pints (xs := [v]) (t := 3) b0 (by simp [maxLen])) (by simp)
theorem lit_e (w : World) {B : Nat} (hB : w.heap.size = B) : NstII (((w.alloc (.cells #[] 3)).alloc (.cells #[.slice (some ⟨B, 0, none⟩) 0 0] 23)).alloc (.cells #[.slice (some ⟨B + 1, 0, none⟩) 1 1] 157)) (.slice (some ⟨B + 1 + 1, 0, none⟩) 1 1) [[[]]] [B + 1 + 1, B + 1, B] := by
 subst hB
 have b0 := (Blk.at w [] 3 rfl).ext ((Ext.refl _).alloc (.cells #[.slice (some ⟨w.heap.size, 0, none⟩) 0 0] 23))
 have b1 := Blk.at (w.alloc (.cells #[] 3)) [.slice (some ⟨w.heap.size, 0, none⟩) 0 0] 23 (B := w.heap.size + 1) (by simp)
 have n1 : NstI _ _ [[]] _ := Nst.lit goodInts b1 (Blk.pints (xs := []) (t := 3) b0 (by simp)) (by simp)
 have b2 := Blk.at ((w.alloc (.cells #[] 3)).alloc (.cells #[.slice (some ⟨w.heap.size, 0, none⟩) 0 0] 23)) [.slice (some ⟨w.heap.size + 1, 0, none⟩) 1 1] 157 (B := w.heap.size + 1 + 1) (by simp)
 exact Nst.lit goodII b2 ⟨_, rfl, n1.ext goodInts ((Ext.refl _).alloc _)⟩ (by simp; omega)
/-- What a call gives back: a row whose elements own blocks, all of it new. -/
def GiveN {α : Type} (P : OwnP α) (T : TypeId) (size : Nat) (w : World) (xs : List α) (e : Ending) (w' : World) : Prop := ∃ v F, e = .returned v ∧ Nst P T size w' v xs F ∧ (∀ g ∈ F, w.heap.size ≤ g) ∧ Ext w w'
abbrev GiveII (w : World) (x : List (List Int)) (e : Ending) (w' : World) : Prop := GiveN PInts 23 1 w x e w'
abbrev GiveIII (w : World) (x : List (List (List Int))) (e : Ending) (w' : World) : Prop := GiveN PII 157 1 w x e w'
/-- Reading an element of a row of rows. -/
theorem NstII.get {w : World} {a : Option Addr} {n c : Nat} {x : List (List (List Int))} {F : List Nat} (h : NstII w (.slice a n c) x F) (hn : 0 < x.length) : ∃ g, a = some ⟨g, 0, none⟩ ∧ g < w.heap.size ∧ ∀ j, j < x.length → ∃ aj cj Fj, w.cell? ⟨g, j, none⟩ = some (.slice aj (x.getD j []).length cj) ∧ NstI w (.slice aj (x.getD j []).length cj) (x.getD j []) Fj ∧ (x.getD j []).length ≤ cj ∧ ∀ q ∈ Fj, q ∈ F := by
 obtain ⟨cells, G, h1, h2, rfl, h4⟩ := h
 obtain ⟨a', c', hv, hr, _⟩ := ownsRow_row h1
 cases hv
 obtain ⟨g, rfl, hb, hg⟩ := ownsRow_block h1 hn
 refine ⟨g, rfl, hg, fun j hj => ?_⟩
 obtain ⟨cs, Fj, ⟨v, rfl, q1⟩, q2, q3⟩ := h2.get goodII j [] hj
 obtain ⟨aj, cj, rfl, hle, _⟩ := q1.sl
 have := q2 0 (by omega)
 exact ⟨aj, cj, Fj, ownsRow_cell h1 (by simpa using this), q1, hle, fun q hq => List.mem_append_right _ (q3 q hq)⟩
end Go.Proofs.Ytgialedmbmfejaa

namespace Go.Proofs.Ytgialedmbmfejaa
open Go.RowKit
set_option maxRecDepth 100000
set_option linter.unusedVariables false
set_option linter.unusedSimpArgs false
theorem drop_getI (xs : List Int) (k : Nat) (h : k < xs.length) : xs.drop k = xs.getD k 0 :: xs.drop (k + 1) := by
 rw [List.drop_eq_getElem_cons h, List.getD_eq_getElem?_getD, List.getElem?_eq_getElem h]; rfl
set_option maxHeartbeats 1000000 in
theorem l5Merge_c (a b : Option Addr) (ca cb : Nat) (xs ys : List Int) (w : World) (hx : IntsAt w a xs) (hy : IntsAt w b ys) (lx : xs.length ≤ 1000) (ly : ys.length ≤ 1000) :
  Calls Try.prog 144 #[.slice a xs.length ca, .slice b ys.length cb] w (GiveNL w (mrg xs ys)) := by
 obtain ⟨U, hU⟩ : ∃ U, U = mrg xs ys := ⟨_, rfl⟩
 rw [← hU]
 have HU : Hid (U = [] ++ mrg (xs.drop 0) (ys.drop 0)) := Lib.hid (by simpa using hU)
 clear hU
 go_enter Try.func144, Try.ntmps144
 go_wp2_with fail
 go_loopw [5, 6, 7] (fun u5 u6 u7 wr => ∃ (i j : Nat) (out : List Int), i ≤ xs.length ∧ j ≤ ys.length ∧ u6 = .int .i64 i ∧ u7 = .int .i64 j ∧ OwnInts wr w.heap.size 3 u5 out ∧ Hid (U = out ++ mrg (xs.drop i) (ys.drop j)) ∧ out.length ≤ i + j ∧ Ext w wr) (fun _ i j _ => xs.length + ys.length - (intOf i).toNat - (intOf j).toNat)
 case atStart => exact ⟨0, 0, [], Nat.zero_le _, Nat.zero_le _, rfl, rfl, (Blk.new w [] 3).owns (n := 0) rfl (Nat.le_refl _) (by decide), HU, by simp, (Ext.refl w).alloc _⟩
 case round =>
  clear HU
  obtain ⟨i, j, out, hi, hj, rfl, rfl, hO, HI, hol, hE⟩ := hrel
  have hor : wr.ownsRow w.heap.size 3 1 _ out.length (out.map (Value.int .i64)) := hO
  have hsz := hE.size
  have hOb := fun k hk => (own_lo hO k hk).1
  obtain ⟨oa, oc, rfl, _⟩ := hO.opened
  by_cases hlx : i < xs.length
  ·obtain ⟨b1, o1, rfl, hb1, hc1⟩ := (hx.ext hE).get (by omega)
   have q1 := hc1 i hlx
   have dx := drop_getI xs i hlx
   obtain ⟨x, hxx⟩ : ∃ x, x = xs.getD i 0 := ⟨_, rfl⟩
   rw [← hxx] at q1 dx
   have DX := Lib.hid dx
   clear hc1 hxx dx
   by_cases hly : j < ys.length
   ·obtain ⟨b2, o2, rfl, hb2, hc2⟩ := (hy.ext hE).get (by omega)
    have q2 := hc2 j hly
    have dy := drop_getI ys j hly
    obtain ⟨y, hyy⟩ : ∃ y, y = ys.getD j 0 := ⟨_, rfl⟩
    rw [← hyy] at q2 dy
    have DY := Lib.hid dy
    clear hc2 hyy dy
    by_cases h1 : x < y
    ·go_wp2_with fail
     have g1 : ((j : Int) == (ys.length : Int)) = false := by simp; omega
     have g2 : decide ((i : Int) < xs.length) = true := by simp; omega
     have g3 : decide (x < y) = true := by simp; omega
     go_quiet (fail)
     go_wp2_with (at_builtin; refine wpList_app tyInts (ownsRow_ext hor (by (repeat (first | with_reducible assumption | with_reducible exact Ext.refl _ | with_reducible refine Ext.drew' ?_ | with_reducible refine Ext.drewN' ?_ _ | with_reducible refine Ext.alloc ?_ _ | (with_reducible refine Ext.setNew ?_ (by first | exact Nat.le_refl _ | (simp; done) | (simp; omega) | omega) _))))) (RowAt.new _ #[.int .i64 x] _) rfl (by simp [Value.oneCell']) (by omega) (by simp; omega) rfl rfl rfl rfl ?_; intro v9 w9 o9 g9 m9; obtain ⟨a9, c9, rfl, _⟩ := ownsRow_row o9)
     go_roundw
     case rel => exact ⟨i + 1, j, out ++ [x], by omega, by omega, by go_num, by first | rfl | (congr 1; omega), own_app (ys := [x]) rfl rfl o9, Lib.hid (by rw [HI.out, DX.out, DY.out, mrg, if_pos h1]; simp), by simp; omega, ext_grown (hE.trans (by (repeat (first | with_reducible assumption | with_reducible exact Ext.refl _ | with_reducible refine Ext.drew' ?_ | with_reducible refine Ext.drewN' ?_ _ | with_reducible refine Ext.alloc ?_ _ | (with_reducible refine Ext.setNew ?_ (by first | exact Nat.le_refl _ | (simp; done) | (simp; omega) | omega) _))))) g9 hOb⟩
     case measure => simp [intOf]; omega
    ·by_cases h2 : y < x
     ·go_wp2_with fail
      have g1 : ((j : Int) == (ys.length : Int)) = false := by simp; omega
      have g2 : decide ((i : Int) < xs.length) = true := by simp; omega
      have g3 : decide (x < y) = false := by simp; omega
      go_quiet (fail)
      go_wp2_with fail
      have g4 : ((i : Int) == (xs.length : Int)) = false := by simp; omega
      have g5 : decide (y < x) = true := by simp; omega
      go_quiet (fail)
      go_wp2_with (at_builtin; refine wpList_app tyInts (ownsRow_ext hor (by (repeat (first | with_reducible assumption | with_reducible exact Ext.refl _ | with_reducible refine Ext.drew' ?_ | with_reducible refine Ext.drewN' ?_ _ | with_reducible refine Ext.alloc ?_ _ | (with_reducible refine Ext.setNew ?_ (by first | exact Nat.le_refl _ | (simp; done) | (simp; omega) | omega) _))))) (RowAt.new _ #[.int .i64 y] _) rfl (by simp [Value.oneCell']) (by omega) (by simp; omega) rfl rfl rfl rfl ?_; intro v9 w9 o9 g9 m9; obtain ⟨a9, c9, rfl, _⟩ := ownsRow_row o9)
      go_roundw
      case rel => exact ⟨i, j + 1, out ++ [y], by omega, by omega, by first | rfl | (congr 1; omega), by go_num, own_app (ys := [y]) rfl rfl o9, Lib.hid (by rw [HI.out, DX.out, DY.out, mrg, if_neg (by omega), if_pos h2]; simp), by simp; omega, ext_grown (hE.trans (by (repeat (first | with_reducible assumption | with_reducible exact Ext.refl _ | with_reducible refine Ext.drew' ?_ | with_reducible refine Ext.drewN' ?_ _ | with_reducible refine Ext.alloc ?_ _ | (with_reducible refine Ext.setNew ?_ (by first | exact Nat.le_refl _ | (simp; done) | (simp; omega) | omega) _))))) g9 hOb⟩
      case measure => simp [intOf]; omega
     ·go_wp2_with fail
      have g1 : ((j : Int) == (ys.length : Int)) = false := by simp; omega
      have g2 : decide ((i : Int) < xs.length) = true := by simp; omega
      have g3 : decide (x < y) = false := by simp; omega
      go_quiet (fail)
      go_wp2_with fail
      have g4 : ((i : Int) == (xs.length : Int)) = false := by simp; omega
      have g5 : decide (y < x) = false := by simp; omega
      go_quiet (fail)
      go_wp2_with (at_builtin; refine wpList_app tyInts (ownsRow_ext hor (by (repeat (first | with_reducible assumption | with_reducible exact Ext.refl _ | with_reducible refine Ext.drew' ?_ | with_reducible refine Ext.drewN' ?_ _ | with_reducible refine Ext.alloc ?_ _ | (with_reducible refine Ext.setNew ?_ (by first | exact Nat.le_refl _ | (simp; done) | (simp; omega) | omega) _))))) (RowAt.new _ #[.int .i64 x] _) rfl (by simp [Value.oneCell']) (by omega) (by simp; omega) rfl rfl rfl rfl ?_; intro v9 w9 o9 g9 m9; obtain ⟨a9, c9, rfl, _⟩ := ownsRow_row o9)
      go_roundw
      case rel => exact ⟨i + 1, j + 1, out ++ [x], by omega, by omega, by go_num, by go_num, own_app (ys := [x]) rfl rfl o9, Lib.hid (by rw [HI.out, DX.out, DY.out, mrg, if_neg (by omega), if_neg (by omega)]; simp), by simp; omega, ext_grown (hE.trans (by (repeat (first | with_reducible assumption | with_reducible exact Ext.refl _ | with_reducible refine Ext.drew' ?_ | with_reducible refine Ext.drewN' ?_ _ | with_reducible refine Ext.alloc ?_ _ | (with_reducible refine Ext.setNew ?_ (by first | exact Nat.le_refl _ | (simp; done) | (simp; omega) | omega) _))))) g9 hOb⟩
      case measure => simp [intOf]; omega
   ·have hjl : j = ys.length := by omega
    go_wp2_with fail
    have g1 : ((j : Int) == (ys.length : Int)) = true := by simp; omega
    go_quiet (fail)
    go_wp2_with (at_builtin; refine wpList_app tyInts (ownsRow_ext hor (by (repeat (first | with_reducible assumption | with_reducible exact Ext.refl _ | with_reducible refine Ext.drew' ?_ | with_reducible refine Ext.drewN' ?_ _ | with_reducible refine Ext.alloc ?_ _ | (with_reducible refine Ext.setNew ?_ (by first | exact Nat.le_refl _ | (simp; done) | (simp; omega) | omega) _))))) (RowAt.new _ #[.int .i64 x] _) rfl (by simp [Value.oneCell']) (by omega) (by simp; omega) rfl rfl rfl rfl ?_; intro v9 w9 o9 g9 m9; obtain ⟨a9, c9, rfl, _⟩ := ownsRow_row o9)
    go_roundw
    case rel => exact ⟨i + 1, j, out ++ [x], by omega, by omega, by go_num, by first | rfl | (congr 1; omega), own_app (ys := [x]) rfl rfl o9, Lib.hid (by rw [HI.out, DX.out, show ys.drop j = [] from List.drop_eq_nil_of_le (by omega), mrg_nil, mrg_nil]; simp), by simp; omega, ext_grown (hE.trans (by (repeat (first | with_reducible assumption | with_reducible exact Ext.refl _ | with_reducible refine Ext.drew' ?_ | with_reducible refine Ext.drewN' ?_ _ | with_reducible refine Ext.alloc ?_ _ | (with_reducible refine Ext.setNew ?_ (by first | exact Nat.le_refl _ | (simp; done) | (simp; omega) | omega) _))))) g9 hOb⟩
    case measure => simp [intOf]; omega
  ·have hil : i = xs.length := by omega
   by_cases hly : j < ys.length
   ·obtain ⟨b2, o2, rfl, hb2, hc2⟩ := (hy.ext hE).get (by omega)
    have q2 := hc2 j hly
    have dy := drop_getI ys j hly
    obtain ⟨y, hyy⟩ : ∃ y, y = ys.getD j 0 := ⟨_, rfl⟩
    rw [← hyy] at q2 dy
    have DY := Lib.hid dy
    clear hc2 hyy dy
    have HIL := Lib.hid hil
    clear hil
    go_wp2_with fail
    have g1 : ((j : Int) == (ys.length : Int)) = false := by simp; omega
    have g2 : decide ((i : Int) < xs.length) = false := by simp; omega
    go_quiet (fail)
    go_wp2_with fail
    have g4 : ((i : Int) == (xs.length : Int)) = true := by rw [HIL.out]; simp
    go_quiet (fail)
    go_wp2_with (at_builtin; refine wpList_app tyInts (ownsRow_ext hor (by (repeat (first | with_reducible assumption | with_reducible exact Ext.refl _ | with_reducible refine Ext.drew' ?_ | with_reducible refine Ext.drewN' ?_ _ | with_reducible refine Ext.alloc ?_ _ | (with_reducible refine Ext.setNew ?_ (by first | exact Nat.le_refl _ | (simp; done) | (simp; omega) | omega) _))))) (RowAt.new _ #[.int .i64 y] _) rfl (by simp [Value.oneCell']) (by omega) (by simp; omega) rfl rfl rfl rfl ?_; intro v9 w9 o9 g9 m9; obtain ⟨a9, c9, rfl, _⟩ := ownsRow_row o9)
    go_roundw
    case rel => exact ⟨i, j + 1, out ++ [y], by omega, by omega, by first | rfl | (congr 1; omega), by go_num, own_app (ys := [y]) rfl rfl o9, Lib.hid (by rw [HI.out, DY.out, show xs.drop i = [] from List.drop_eq_nil_of_le (by omega), mrg, mrg]; simp), by simp; omega, ext_grown (hE.trans (by (repeat (first | with_reducible assumption | with_reducible exact Ext.refl _ | with_reducible refine Ext.drew' ?_ | with_reducible refine Ext.drewN' ?_ _ | with_reducible refine Ext.alloc ?_ _ | (with_reducible refine Ext.setNew ?_ (by first | exact Nat.le_refl _ | (simp; done) | (simp; omega) | omega) _))))) g9 hOb⟩
    case measure => simp [intOf]; omega
   ·have hjl : j = ys.length := by omega
    have e : U = out := by rw [HI.out, hil, hjl, List.drop_length, List.drop_length]; simp [mrg]
    subst e
    clear HI hil hjl
    go_wp2
    go_ret
    exact ⟨_, rfl, hO, hE⟩
end Go.Proofs.Ytgialedmbmfejaa

namespace Go.Proofs.Ytgialedmbmfejaa
open Go.RowKit
set_option maxRecDepth 100000
set_option linter.unusedVariables false
set_option linter.unusedSimpArgs false
theorem eq_getN0 {xs ys : List Int} (hl : xs.length = ys.length) (h : ∀ j, j < ys.length → xs.getD j 0 = ys.getD j 0) : xs = ys := by
 refine List.ext_getElem hl (fun j h1 h2 => ?_)
 have := h j h2
 rwa [List.getD_eq_getElem?_getD, List.getD_eq_getElem?_getD, List.getElem?_eq_getElem h1, List.getElem?_eq_getElem h2] at this
theorem mem_getN {α : Type} {xs : List α} {x d : α} (h : x ∈ xs) : ∃ j, j < xs.length ∧ xs.getD j d = x := by
 obtain ⟨j, hj, rfl⟩ := List.mem_iff_getElem.1 h
 exact ⟨j, hj, by rw [List.getD_eq_getElem?_getD, List.getElem?_eq_getElem hj]; rfl⟩
theorem getN_mem {α : Type} {xs : List α} {d : α} {j : Nat} (hj : j < xs.length) : xs.getD j d ∈ xs := by
 rw [List.getD_eq_getElem?_getD, List.getElem?_eq_getElem hj]; exact List.getElem_mem hj
set_option maxHeartbeats 1000000 in
theorem l5Has_c (oa a : Option Addr) (oc ca : Nat) (out : List (List Int)) (F : List Nat) (cut : List Int) (w : World) (ho : NstI w (.slice oa out.length oc) out F) (hx : IntsAt w a cut) (lo : out.length ≤ 1000) (lx : cut.length ≤ 1000) (le : ∀ x ∈ out, x.length ≤ 1000) :
  Calls Try.prog 145 #[.slice oa out.length oc, .slice a cut.length ca] w fun e w' => e = .returned (.bool (decide (cut ∈ out))) ∧ Ext w w' := by
 have LE := Lib.hid le
 clear le
 obtain ⟨R, hR⟩ : ∃ R, R = decide (cut ∈ out) := ⟨_, rfl⟩
 rw [← hR]
 have HR := Lib.hid hR
 clear hR
 go_enter Try.func145, Try.ntmps145
 go_wp2_with fail
 go_loopw [5] (fun u5 wr => ∃ i : Nat, i ≤ out.length ∧ u5 = .int .i64 i ∧ Hid (∀ j, j < i → out.getD j [] ≠ cut) ∧ Ext w wr) (fun i _ => out.length - (intOf i).toNat)
 case atStart => exact ⟨0, Nat.zero_le _, rfl, Lib.hid (fun j hj => absurd hj (Nat.not_lt_zero j)), Ext.refl w⟩
 case round =>
  obtain ⟨i, hi, rfl, HP, hE⟩ := hrel
  by_cases hlt : i < out.length
  ·obtain ⟨g, rfl, hgl, hg⟩ := NstI.get (Nst.ext goodInts ho hE) (by omega)
   obtain ⟨aj, cj, q, hA⟩ := hg i hlt
   have ly := LE.out _ (getN_mem (d := []) hlt)
   obtain ⟨y, hyy⟩ : ∃ y, y = out.getD i [] := ⟨_, rfl⟩
   rw [← hyy] at q hA ly
   have HY := Lib.hid hyy
   have hX := hx.ext hE
   have LY := Lib.hid ly
   clear hg hyy
   obtain ⟨w1, rfl⟩ : ∃ x : World, x = wr := ⟨_, rfl⟩
   by_cases hll : y.length = cut.length
   ·have hHL := Lib.hid hll
    have hl2 : ((y.length : Int) == (cut.length : Int)) = true := by rw [hll]; simp
    clear hll
    go_wp2_with fail
    go_loopw [6, 7] (fun u6 u7 wq => ∃ (k : Nat) (s : Bool), k ≤ cut.length ∧ u7 = .int .i64 k ∧ u6 = .bool s ∧ Hid (s = true → ∀ j, j < k → y.getD j 0 = cut.getD j 0) ∧ Hid (s = false → y ≠ cut) ∧ Ext w1 wq) (fun _ k _ => cut.length - (intOf k).toNat)
    case atStart => exact ⟨0, true, Nat.zero_le _, rfl, by first | rfl | rw [hl2], Lib.hid (fun _ j hj => absurd hj (Nat.not_lt_zero j)), Lib.hid (fun h => by cases h), Ext.refl _⟩
    case round =>
     obtain ⟨k, s, hk, rfl, rfl, H1, H2, hE2⟩ := hrel
     cases s
     ·go_wp2
      go_roundw
      case rel =>
       refine ⟨i + 1, by omega, by go_num, Lib.hid (fun j hj => ?_), hE.trans (by (repeat (first | with_reducible assumption | with_reducible exact Ext.refl _ | with_reducible refine Ext.drew' ?_ | with_reducible refine Ext.drewN' ?_ _ | with_reducible refine Ext.alloc ?_ _ | (with_reducible refine Ext.setNew ?_ (by first | exact Nat.le_refl _ | (simp; done) | (simp; omega) | omega) _))))⟩
       rcases Nat.lt_or_ge j i with h | h
       ·exact HP.out j h
       ·have : j = i := by omega
        subst this
        rw [← HY.out]; exact H2.out rfl
      case measure => simp [intOf]; omega
     ·by_cases hkl : k < cut.length
      ·obtain ⟨b1, o1, rfl, hb1, hc1⟩ := (hA.ext hE2).get (by rw [hHL.out]; omega)
       obtain ⟨b2, o2, rfl, hb2, hc2⟩ := (hX.ext hE2).get (by omega)
       have q1 := hc1 k (by rw [hHL.out]; omega)
       have q2 := hc2 k hkl
       have q3 := (ecell hE2).1 g i hgl
       rw [q] at q3
       have hky : k < y.length := by rw [hHL.out]; exact hkl
       obtain ⟨x, hxx⟩ : ∃ x, x = y.getD k 0 := ⟨_, rfl⟩
       obtain ⟨z, hzz⟩ : ∃ z, z = cut.getD k 0 := ⟨_, rfl⟩
       rw [← hxx] at q1
       rw [← hzz] at q2
       have HX := Lib.hid hxx
       have HZ := Lib.hid hzz
       clear hc1 hc2 hxx hzz
       go_wp2_with fail
       go_quiet (fail)
       go_wp2_with fail
       go_roundw
       case rel =>
        refine ⟨k + 1, x == z, by omega, by go_num, by first | rfl | simp, Lib.hid (fun h j hj => ?_), Lib.hid (fun h e => ?_), by (repeat (first | with_reducible assumption | with_reducible exact Ext.refl _ | with_reducible refine Ext.drew' ?_ | with_reducible refine Ext.drewN' ?_ _ | with_reducible refine Ext.alloc ?_ _ | (with_reducible refine Ext.setNew ?_ (by first | exact Nat.le_refl _ | (simp; done) | (simp; omega) | omega) _)))⟩
        ·rcases Nat.lt_or_ge j k with h3 | h3
         ·exact H1.out (by first | rfl | trivial) j h3
         ·have : j = k := by omega
          subst this
          rw [← HX.out, ← HZ.out]; simpa using h
        ·rw [HX.out, HZ.out, e] at h; simp at h
       case measure => simp [intOf]; omega
      ·have hkk : k = cut.length := by omega
       have e : y = cut := eq_getN0 hHL.out (fun j hj => H1.out (by first | rfl | trivial) j (by omega))
       have hRR : R = true := by rw [HR.out]; simp; rw [← e, HY.out]; exact getN_mem hlt
       subst hRR
       clear hkk e
       go_wp2
       go_ret
       exact ⟨rfl, hE.trans (by (repeat (first | with_reducible assumption | with_reducible exact Ext.refl _ | with_reducible refine Ext.drew' ?_ | with_reducible refine Ext.drewN' ?_ _ | with_reducible refine Ext.alloc ?_ _ | (with_reducible refine Ext.setNew ?_ (by first | exact Nat.le_refl _ | (simp; done) | (simp; omega) | omega) _))))⟩
   ·have hl2 : ((y.length : Int) == (cut.length : Int)) = false := by simp; omega
    have HLL := Lib.hid hll
    clear hll
    go_wp2_with fail
    go_loopw [6, 7] (fun u6 u7 wq => u7 = .int .i64 0 ∧ u6 = .bool false ∧ Ext w1 wq) (fun _ k _ => 0)
    case atStart => exact ⟨rfl, by first | rfl | rw [hl2], Ext.refl _⟩
    case round =>
     obtain ⟨rfl, rfl, hE2⟩ := hrel
     go_wp2
     go_roundw
     case rel =>
      refine ⟨i + 1, by omega, by go_num, Lib.hid (fun j hj e => ?_), hE.trans (by (repeat (first | with_reducible assumption | with_reducible exact Ext.refl _ | with_reducible refine Ext.drew' ?_ | with_reducible refine Ext.drewN' ?_ _ | with_reducible refine Ext.alloc ?_ _ | (with_reducible refine Ext.setNew ?_ (by first | exact Nat.le_refl _ | (simp; done) | (simp; omega) | omega) _))))⟩
      rcases Nat.lt_or_ge j i with h | h
      ·exact HP.out j h e
      ·have : j = i := by omega
       subst this
       rw [← HY.out] at e
       exact HLL.out (by rw [e])
     case measure => simp [intOf]; omega
  ·have hRR : R = false := by
    rw [HR.out]
    simp
    intro hm
    obtain ⟨j, hj, e⟩ := mem_getN (d := []) hm
    exact HP.out j (by omega) e
   subst hRR
   go_wp2
   go_ret
   exact ⟨rfl, hE⟩
end Go.Proofs.Ytgialedmbmfejaa

namespace Go.Proofs.Ytgialedmbmfejaa
open Go.RowKit
set_option maxRecDepth 100000
set_option linter.unusedVariables false
set_option linter.unusedSimpArgs false
theorem cuts0_succ (v : Nat) (hv : 1 ≤ v) : cuts0 ((v : Int) + 1) = cuts0 v ++ [[[(v : Int)]]] := by
 unfold cuts0
 have e : ((v : Int) + 1 - 1).toNat = ((v : Int) - 1).toNat + 1 := by omega
 rw [e, List.range_succ, List.map_append, List.cons_append]
 simp; omega
theorem cuts0_one : cuts0 1 = [[[]]] := rfl
theorem take_snocD {α : Type} (xs : List α) (k : Nat) (d : α) (h : k < xs.length) : xs.take (k + 1) = xs.take k ++ [xs.getD k d] := by
 rw [List.take_add_one, List.getD_eq_getElem?_getD, List.getElem?_eq_getElem h]; rfl
theorem foldl_snocD {α β : Type} (f : β → α → β) (xs : List α) (k : Nat) (d : α) (b : β) (h : k < xs.length) : (xs.take (k + 1)).foldl f b = f ((xs.take k).foldl f b) (xs.getD k d) := by
 rw [take_snocD xs k d h, List.foldl_append]; rfl
/-- All cuts after k gates: well made. -/
theorem cutsK_ok {c : Circ} (V : c.Valid) : ∀ k, k ≤ c.gates.length → CutsOk c.first ((c.gates.take k).foldl cutStep (cuts0 c.first)) ∧ (((c.gates.take k).foldl cutStep (cuts0 c.first)).length : Int) = c.first + k := by
 have hf : 1 ≤ c.first := by have := V.i0; unfold Circ.first; omega
 have hl0 := cuts0_length hf
 intro k
 induction k with
 | zero => intro _; exact ⟨cuts0_ok hf, by simpa using hl0⟩
 | succ k ih =>
  intro hk
  obtain ⟨h1, h2⟩ := ih (by omega)
  rw [foldl_snocD _ _ k (0, 0) _ (by omega)]
  have g := V.gs k (by omega)
  simp only [litB, Bool.and_eq_true, decide_eq_true_eq] at g
  refine ⟨cutStep_ok hf (by omega) h1 g.1.1 (by omega) g.2.1 (by omega), ?_⟩
  rw [cutStep_length]; omega
theorem joinV_take (P Q : List (List Int)) : joinV P Q = (P.take P.length).foldl (fun o x => joinRow x Q o) [] := by rw [joinV_eq, List.take_length]
theorem joinRow_take (x : List Int) (Q L : List (List Int)) : joinRow x Q L = (Q.take Q.length).foldl (fun o y => joinStep o (mrg x y)) L := by rw [List.take_length]; unfold joinRow; rw [List.foldl_map]
theorem joinStep_no1 {L : List (List Int)} {x : List Int} (h : 3 < x.length) : joinStep L x = L := by unfold joinStep; rw [if_pos (.inl h)]
theorem joinStep_no2 {L : List (List Int)} {x : List Int} (h : L.length = 8) : joinStep L x = L := by unfold joinStep; rw [if_pos (.inr h)]
theorem joinStep_no3 {L : List (List Int)} {x : List Int} (h : x ∈ L) : joinStep L x = L := by unfold joinStep; rw [if_pos h, ite_self]
theorem joinStep_yes {L : List (List Int)} {x : List Int} (h1 : ¬ 3 < x.length) (h2 : ¬ L.length = 8) (h : x ∉ L) : joinStep L x = L ++ [x] := by unfold joinStep; rw [if_neg (by omega), if_neg h]
set_option maxHeartbeats 4000000 in
theorem l5Cuts_c (c : Circ) (p : Where3) (w : World) (hc : CircAt w c p) (V : c.Valid) :
  Calls Try.prog 133 #[.agg #[.int .i64 c.inputs, .slice p.an c.next.length p.cn, .slice p.ag c.gates.length p.cg, .slice p.ao c.outs.length p.co]] w (GiveIII w (cutsN c)) := by
 have hi0 := V.i0
 have hi4 := V.i4
 have ln := V.ln
 have lg := V.lg
 have lo := V.lo
 obtain ⟨an, cn, ag, cg, ao, co⟩ := p
 dsimp only
 obtain ⟨f, hf⟩ : ∃ f : Nat, c.first = (f : Int) := ⟨c.first.toNat, by unfold Circ.first; omega⟩
 have hf1 : 1 ≤ f ∧ f ≤ 8 := by unfold Circ.first at hf; omega
 obtain ⟨hf1, hf2⟩ := hf1
 have HFF := Lib.hid hf
 have HCK := Lib.hid (cutsK_ok V)
 have HU : Hid (cutsN c = (c.gates.take c.gates.length).foldl cutStep (cuts0 c.first)) := Lib.hid (by rw [List.take_length]; rfl)
 have HG := Lib.hid V.gs
 obtain ⟨U, hUU⟩ : ∃ U, U = cutsN c := ⟨_, rfl⟩
 rw [← hUU] at HU ⊢
 have y := CircBox.made w c ⟨an, cn, ag, cg, ao, co⟩ 26
 have E0 : Ext w (w.alloc (.cells #[.int .i64 c.inputs, .slice an c.next.length cn, .slice ag c.gates.length cg, .slice ao c.outs.length co] 26)) := (Ext.refl w).alloc _
 clear hUU V
 go_enter Try.func133, Try.ntmps133
 go_wp2_with fail
 go_loopw [3, 4] (fun u3 u4 wr => ∃ (v : Nat) (F : List Nat), 1 ≤ v ∧ v ≤ f ∧ u4 = .int .i64 v ∧ NstII wr u3 (cuts0 v) F ∧ Hid (∀ g ∈ F, w.heap.size + 1 ≤ g) ∧ CircBox wr w.heap.size c ⟨an, cn, ag, cg, ao, co⟩ ∧ Ext w wr) (fun _ v _ => f - (intOf v).toNat)
 case atStart =>
  refine ⟨1, _, Nat.le_refl _, hf1, rfl, lit_e _ (by simp), Lib.hid (fun g hg => ?_), y.ext (by (repeat (first | with_reducible assumption | with_reducible exact Ext.refl _ | with_reducible refine Ext.drew' ?_ | with_reducible refine Ext.drewN' ?_ _ | with_reducible refine Ext.alloc ?_ _ | (with_reducible refine Ext.setNew ?_ (by first | exact Nat.le_refl _ | (simp; done) | (simp; omega) | omega) _)))), by (repeat (first | with_reducible assumption | with_reducible exact Ext.refl _ | with_reducible refine Ext.drew' ?_ | with_reducible refine Ext.drewN' ?_ _ | with_reducible refine Ext.alloc ?_ _ | (with_reducible refine Ext.setNew ?_ (by first | exact Nat.le_refl _ | (simp; done) | (simp; omega) | omega) _)))⟩
  simp at hg; omega
 case round =>
  obtain ⟨v, F, hv1, hv2, rfl, hN, HF, y, hE⟩ := hrel
  (obtain ⟨lb, b0, b1, b2, b3⟩ := (id y))
  go_wp2_with fail
  refine (l1First_c c ⟨an, cn, ag, cg, ao, co⟩ _ (by omega) (by omega) (by omega)).mono ?_
  rintro e w1 ⟨rfl, hE1⟩
  rw [hf]
  by_cases hlt : v < f
  ·obtain ⟨cells, G, h1, h2, rfl, h4⟩ := hN
   have hl : (cuts0 v).length = v := by have := cuts0_length (f := (v : Int)) (by omega); omega
   have hob := fun k hk => HF.out k (List.mem_append_left _ (mem_fp.2 hk))
   have hs1 := hE1.size
   have hss := hE.size
   rw [hl] at h1
   obtain ⟨a3, c3, rfl, _⟩ := ownsRow_row h1
   have L2 := lit_ii w1 v rfl
   go_wp2_with (at_builtin; refine wpList_app tyIII (ownsRow_ext h1 (by (repeat (first | with_reducible assumption | with_reducible exact Ext.refl _ | with_reducible refine Ext.drew' ?_ | with_reducible refine Ext.drewN' ?_ _ | with_reducible refine Ext.alloc ?_ _ | (with_reducible refine Ext.setNew ?_ (by first | exact Nat.le_refl _ | (simp; done) | (simp; omega) | omega) _))))) (rowNew _ [.slice (some ⟨w1.heap.size + 1, 0, none⟩) 1 1] _ (B := w1.heap.size + 1 + 1) (by simp)) rfl (by simp [Value.oneCell']) (by omega) (Nat.zero_le _) rfl rfl rfl rfl ?_; intro v9 w9 o9 g9 m9; obtain ⟨a9, c9, rfl, _⟩ := ownsRow_row o9)
   have SN := nst_snoc goodII h1 h2 h4 (by (repeat (first | with_reducible assumption | with_reducible exact Ext.refl _ | with_reducible refine Ext.drew' ?_ | with_reducible refine Ext.drewN' ?_ _ | with_reducible refine Ext.alloc ?_ _ | (with_reducible refine Ext.setNew ?_ (by first | exact Nat.le_refl _ | (simp; done) | (simp; omega) | omega) _)))) ⟨_, rfl, L2.ext goodInts ((Ext.refl _).alloc _)⟩ (fun g hg => by simp at hg; omega) g9 m9 hl.symm o9
   go_roundw
   case rel =>
    refine ⟨v + 1, _, by omega, by omega, by go_num, ?_, Lib.hid (SN.2 _ HF.out (by omega)), ?_, ?_⟩
    ·have := cuts0_succ v hv1
     rw [show ((v + 1 : Nat) : Int) = (v : Int) + 1 from by omega, this]
     exact SN.1
    ·exact (y.ext (by (repeat (first | with_reducible assumption | with_reducible exact Ext.refl _ | with_reducible refine Ext.drew' ?_ | with_reducible refine Ext.drewN' ?_ _ | with_reducible refine Ext.alloc ?_ _ | (with_reducible refine Ext.setNew ?_ (by first | exact Nat.le_refl _ | (simp; done) | (simp; omega) | omega) _))))).grn g9 (fun e => by have := hob _ e; omega)
    ·exact ext_grown (hE.trans (by (repeat (first | with_reducible assumption | with_reducible exact Ext.refl _ | with_reducible refine Ext.drew' ?_ | with_reducible refine Ext.drewN' ?_ _ | with_reducible refine Ext.alloc ?_ _ | (with_reducible refine Ext.setNew ?_ (by first | exact Nat.le_refl _ | (simp; done) | (simp; omega) | omega) _))))) g9 (fun q hq => by have := hob q hq; omega)
   case measure => simp [intOf]; omega
  ·have hvf : f = v := by omega
   subst hvf
   have hN1 := Nst.ext goodII hN hE1
   have E1 := hE.trans hE1
   have y1 := y.ext hE1
   clear b0 b1 b2 b3 lb y hN
   go_wp2_with fail
   rw [← hf] at hN1
   go_loopw [3, 5] (fun u3 u5 wr => ∃ (i : Nat) (F : List Nat), i ≤ c.gates.length ∧ u5 = .int .i64 i ∧ NstII wr u3 ((c.gates.take i).foldl cutStep (cuts0 c.first)) F ∧ Hid (∀ g ∈ F, w.heap.size + 1 ≤ g) ∧ CircBox wr w.heap.size c ⟨an, cn, ag, cg, ao, co⟩ ∧ Ext w wr) (fun _ v _ => c.gates.length - (intOf v).toNat)
   case atStart => exact ⟨0, F, Nat.zero_le _, rfl, hN1, HF, y1, E1⟩
   case round =>
    clear hN1 E1 y1 HF
    obtain ⟨i, F, hi, rfl, hN, HF, y, hE⟩ := hrel
    (obtain ⟨lb, b0, b1, b2, b3⟩ := (id y))
    dsimp only at b1 b2 b3
    by_cases hlt : i < c.gates.length
    ·obtain ⟨gb, go, hag, hgl, hg1, hg2⟩ := (hc.ext hE).gs.get (by omega)
     dsimp only at hag
     subst hag
     have q1 := hg1 i hlt
     have q2 := hg2 i hlt
     have hv := HG.out i hlt
     obtain ⟨ok, okl⟩ := HCK.out i hi
     have hst := foldl_snocD cutStep c.gates i (0, 0) (cuts0 c.first) hlt
     obtain ⟨all, hall⟩ : ∃ all, all = (c.gates.take i).foldl cutStep (cuts0 c.first) := ⟨_, rfl⟩
     rw [← hall] at hst ok okl hN
     obtain ⟨ga, hga⟩ : ∃ x, x = (c.gates.getD i (0, 0)).1 := ⟨_, rfl⟩
     obtain ⟨gc, hgc⟩ : ∃ x, x = (c.gates.getD i (0, 0)).2 := ⟨_, rfl⟩
     rw [← hga] at q1 hv
     rw [← hgc] at q2 hv
     have hst2 : (c.gates.take (i + 1)).foldl cutStep (cuts0 c.first) = all ++ [joinV (all.getD (ga / 2).toNat []) (all.getD (gc / 2).toNat []) ++ [[(all.length : Int)]]] := by rw [hst, hga, hgc]; rfl
     clear hg1 hg2 hga hgc hst
     obtain ⟨va1, va2⟩ := litB_ok hv.1
     obtain ⟨vb1, vb2⟩ := litB_ok hv.2
     rw [hf] at okl va2 vb2
     have hta : IntKind.i64.wrap (ga.tdiv 2) = ga / 2 := by rw [Int.tdiv_eq_ediv_of_nonneg va1]; exact IntWalk.i64_in _ (by omega)
     have htb : IntKind.i64.wrap (gc.tdiv 2) = gc / 2 := by rw [Int.tdiv_eq_ediv_of_nonneg vb1]; exact IntWalk.i64_in _ (by omega)
     have okA := ok (ga / 2).toNat (by omega)
     have okB := ok (gc / 2).toNat (by omega)
     obtain ⟨va, vc, rfl, hvc, _⟩ := hN.sl
     obtain ⟨g, rfl, hgl3, hg3⟩ := NstII.get hN (by omega)
     obtain ⟨pa, pc, pF, r1, nP, hpc, _⟩ := hg3 (ga / 2).toNat (by omega)
     obtain ⟨qa, qc, qF, r2, nQ, hqc, _⟩ := hg3 (gc / 2).toNat (by omega)
     obtain ⟨P, hP⟩ : ∃ P, P = all.getD (ga / 2).toNat [] := ⟨_, rfl⟩
     obtain ⟨Q, hQ⟩ : ∃ Q, Q = all.getD (gc / 2).toNat [] := ⟨_, rfl⟩
     rw [← hP] at r1 nP hpc okA hst2
     rw [← hQ] at r2 nQ hqc okB hst2
     have PN := okA.n
     have QN := okB.n
     have HA : Hid (∀ x ∈ P, CutOk ((f : Int) + i) x) := Lib.hid (fun x hx => (okA.ok x hx).mono (by omega))
     have HB : Hid (∀ x ∈ Q, CutOk ((f : Int) + i) x) := Lib.hid (fun x hx => (okB.ok x hx).mono (by omega))
     have HST := Lib.hid hst2
     have HAL := Lib.hid hall
     have k1 : 0 ≤ ga / 2 := by omega
     have k2 : ga / 2 < all.length := by omega
     have k3 : 0 ≤ gc / 2 := by omega
     have k4 : gc / 2 < all.length := by omega
     have OKL := Lib.hid okl
     have hsz := hE.size
     obtain ⟨w2, rfl⟩ : ∃ x : World, x = wr := ⟨_, rfl⟩
     clear hg3 ok okA okB hst2 hall hP hQ hv okl hvc
     go_wp2_with fail
     refine (l1First_c c ⟨an, cn, some ⟨gb, go, none⟩, cg, ao, co⟩ _ (by omega) (by omega) (by omega)).mono ?_
     rintro e w3 ⟨rfl, hE3⟩
     rw [hf]
     have hE30 := (Ext.refl w2).trans hE3
     have t1 := (ecell hE3).1 gb (go + i * 2) hgl
     have t2 := (ecell hE3).1 gb (go + i * 2 + 1) hgl
     rw [q1] at t1
     rw [q2] at t2
     have t3 := (ecell hE3).1 g (ga / 2).toNat hgl3
     have t4 := (ecell hE3).1 g (gc / 2).toNat hgl3
     rw [r1] at t3
     rw [r2] at t4
     have t5 := (ecell hE3).1 w.heap.size 2 lb
     rw [b2] at t5
     have ls := hE3.size
     have l1 : gb < w3.heap.size := by omega
     have l2 : g < w3.heap.size := by omega
     have l3 : w.heap.size < w3.heap.size := by omega
     clear b0 b1 b2 b3 q1 q2 r1 r2
     go_wp2_with fail
     go_loopw [7, 10] (fun u7 u10 wr => ∃ (a : Nat) (L : List (List Int)) (F7 : List Nat), a ≤ P.length ∧ u10 = .int .i64 a ∧ NstI wr u7 L F7 ∧ Hid (∀ g ∈ F7, w2.heap.size ≤ g) ∧ Hid (L = (P.take a).foldl (fun o x => joinRow x Q o) []) ∧ L.length ≤ 8 ∧ Hid (∀ z ∈ L, CutOk ((f : Int) + i) z) ∧ Ext w2 wr) (fun _ v _ => P.length - (intOf v).toNat)
     case atStart => exact ⟨0, [], [w3.heap.size], Nat.zero_le _, rfl, Nst.made0 w3 rfl, Lib.hid (fun q hq => by simp at hq; omega), Lib.hid rfl, by simp, Lib.hid (fun z hz => by simp at hz), by (repeat (first | with_reducible assumption | with_reducible exact Ext.refl _ | with_reducible refine Ext.drew' ?_ | with_reducible refine Ext.drewN' ?_ _ | with_reducible refine Ext.alloc ?_ _ | (with_reducible refine Ext.setNew ?_ (by first | exact Nat.le_refl _ | (simp; done) | (simp; omega) | omega) _)))⟩
     case round =>
      clear t1 t2 t3 t4 t5
      obtain ⟨a, L, F7, ha, rfl, nL, HF7, HL, hL8, HLo, hE4⟩ := hrel
      by_cases hlt2 : a < P.length
      ·obtain ⟨w5, rfl⟩ : ∃ x : World, x = wr := ⟨_, rfl⟩
       go_wp2_with fail
       go_loopw [7, 11] (fun u7 u11 wr => ∃ (b : Nat) (L2 : List (List Int)) (F8 : List Nat), b ≤ Q.length ∧ u11 = .int .i64 b ∧ NstI wr u7 L2 F8 ∧ Hid (∀ g ∈ F8, w2.heap.size ≤ g) ∧ Hid (L2 = (Q.take b).foldl (fun o y => joinStep o (mrg (P.getD a []) y)) L) ∧ L2.length ≤ 8 ∧ Hid (∀ z ∈ L2, CutOk ((f : Int) + i) z) ∧ Ext w2 wr) (fun _ v _ => Q.length - (intOf v).toNat)
       case atStart => exact ⟨0, L, F7, Nat.zero_le _, rfl, nL, HF7, Lib.hid rfl, hL8, HLo, hE4⟩
       case round =>
        obtain ⟨b, L2, F8, hb, rfl, nL2, HF8, HL2, hL28, HLo2, hE5⟩ := hrel
        have nP5 := Nst.ext goodInts nP hE5
        have nQ5 := Nst.ext goodInts nQ hE5
        obtain ⟨la, lc, rfl, hlc, _⟩ := nL2.sl
        obtain ⟨w6, rfl⟩ : ∃ x : World, x = wr := ⟨_, rfl⟩
        by_cases hlt3 : b < Q.length
        ·obtain ⟨g1, rfl, hg1l, hg1⟩ := NstI.get nP5 (by omega)
         obtain ⟨g2, rfl, hg2l, hg2⟩ := NstI.get nQ5 (by omega)
         obtain ⟨a1, d1, x1, hA1⟩ := hg1 a hlt2
         obtain ⟨a2, d2, x2, hA2⟩ := hg2 b hlt3
         have okx := HA.out _ (getN_mem (d := []) hlt2)
         have oky := HB.out _ (getN_mem (d := []) hlt3)
         have hs := foldl_snocD (fun o y => joinStep o (mrg (P.getD a []) y)) Q b [] L hlt3
         rw [← HL2.out] at hs
         obtain ⟨x, hxx⟩ : ∃ x, x = P.getD a [] := ⟨_, rfl⟩
         obtain ⟨yv, hyy⟩ : ∃ x, x = Q.getD b [] := ⟨_, rfl⟩
         rw [← hxx] at x1 hA1 okx hs
         rw [← hyy] at x2 hA2 oky hs
         have lx := okx.len
         have ly := oky.len
         have HX := Lib.hid hxx
         have OKS := Lib.hid (joinStep_ok HLo2.out okx oky)
         have hml := mrg_len x yv
         obtain ⟨cut, hcut⟩ : ∃ z, z = mrg x yv := ⟨_, rfl⟩
         have HS := Lib.hid hs
         rw [← hcut] at HS OKS hml
         have HCUT := Lib.hid hcut
         obtain ⟨hml1, hml2⟩ := hml
         have hsz6 := hE5.size
         clear hg1 hg2 hxx hyy okx oky hs hcut
         go_wp2_with fail
         go_region_held3 ((fun w' => (∀ b o, b < w6.heap.size → w'.cell? ⟨b, o, none⟩ = w6.cell? ⟨b, o, none⟩) ∧ Ext w6 w')) ((first | assumption | (with_reducible exact held_mk (Ext.drew w6)) | (with_reducible exact held_mk (((Ext.refl w6).alloc _).drew')) | (with_reducible exact held_mk ((Ext.drew w6).alloc _)))) ((go_simp; go_at_call 144; refine (l5Merge_c a1 a2 d1 d2 x yv _ (hA1.ext (Ext.drew w6)) (hA2.ext (Ext.drew w6)) (by omega) (by omega)).mono ?_; rw [← HCUT.out]; rintro e w7 ⟨v7, rfl, hO7, hE7⟩; obtain ⟨a7, c7, rfl, hI7, _⟩ := hO7.opened; have hK1 := held_mk ((Ext.drew w6).trans hE7)))
         have hE8 := held_ext hK1
         have nL7 := Nst.ext goodInts nL2 hE8
         have HLE : Hid (∀ z ∈ L2, z.length ≤ 1000) := Lib.hid (fun z hz => by have := (HLo2.out z hz).len; omega)
         have hsz7 := hE8.size
         have hO7' := hO7
         have HO7 := Lib.hid hO7
         clear hO7 hO7'
         by_cases c1 : 3 < cut.length
         ·have d1 : decide ((cut.length : Int) ≤ 3) = false := by simp; omega
          rw [joinStep_no1 c1] at HS OKS
          go_wp2_with fail
          go_roundw
          case rel => exact ⟨b + 1, L2, F8, by omega, by go_num, nL7, HF8, Lib.hid (by rw [← HX.out]; exact HS.out.symm), hL28, HLo2, hE5.trans hE8⟩
          case measure => simp [intOf]; omega
         ·have d1 : decide ((cut.length : Int) ≤ 3) = true := by simp; omega
          by_cases c2 : L2.length = 8
          ·have d2 : decide ((L2.length : Int) < 8) = false := by simp; omega
           rw [joinStep_no2 c2] at HS OKS
           clear c2
           go_wp2_with fail
           go_roundw
           case rel => exact ⟨b + 1, L2, F8, by omega, by go_num, nL7, HF8, Lib.hid (by rw [← HX.out]; exact HS.out.symm), hL28, HLo2, hE5.trans hE8⟩
           case measure => simp [intOf]; omega
          ·have d2 : decide ((L2.length : Int) < 8) = true := by simp; omega
           have hcall := l5Has_c la _ lc c7 L2 F8 cut w7 nL7 hI7 (by omega) (by omega) HLE.out
           by_cases c3 : cut ∈ L2
           ·rw [joinStep_no3 c3] at HS OKS
            rw [decide_eq_true c3] at hcall
            clear c3
            go_wp2_with fail
            refine hcall.mono ?_
            rintro e w8 ⟨rfl, hE9⟩
            go_wp2_with fail
            go_roundw
            case rel => exact ⟨b + 1, L2, F8, by omega, by go_num, Nst.ext goodInts nL7 hE9, HF8, Lib.hid (by rw [← HX.out]; exact HS.out.symm), hL28, HLo2, (hE5.trans hE8).trans hE9⟩
            case measure => simp [intOf]; omega
           ·rw [joinStep_yes c1 c2 c3] at HS OKS
            rw [decide_eq_false c3] at hcall
            clear c3
            go_wp2_with fail
            refine hcall.mono ?_
            rintro e w8 ⟨rfl, hE9⟩
            have hO8 := HO7.out.ext hE9
            obtain ⟨cells, G, h1, h2, rfl, h4⟩ := nL2
            have hE10 := hE8.trans hE9
            have hob := fun k hk => HF8.out k (List.mem_append_left _ (mem_fp.2 hk))
            have hsz8 := hE9.size
            obtain ⟨hp1, hp2⟩ := PInts.of hO8
            have HP1 := Lib.hid hp1
            have HP2 := Lib.hid hp2
            clear hp1 hp2 hO8
            go_wp2_with (at_builtin; refine wpList_app tyII (ownsRow_ext h1 (hE10.alloc _)) (rowNew w8 [.slice _ cut.length c7] _ rfl) rfl (by simp [Value.oneCell']) (by omega) (Nat.zero_le _) rfl rfl rfl rfl ?_; intro v9 w9 o9 g9 m9; obtain ⟨a9, c9, rfl, _⟩ := ownsRow_row o9)
            have SN := nst_snoc goodInts h1 h2 h4 (hE10.alloc _) (goodInts.ext HP1.out ((Ext.refl _).alloc _)) (fun q hq => by have := HP2.out q hq; simp at this; omega) g9 m9 rfl o9
            go_roundw
            case rel => exact ⟨b + 1, L2 ++ [cut], _, by omega, by go_num, SN.1, Lib.hid (SN.2 _ HF8.out (by omega)), Lib.hid (by rw [← HX.out]; exact HS.out.symm), by simp; omega, OKS, ext_grown ((hE5.trans hE10).alloc _) g9 hob⟩
            case measure => simp [intOf]; omega
        ·have hbq : b = Q.length := by omega
         subst hbq
         have hs := foldl_snocD (fun o x => joinRow x Q o) P a [] [] hlt2
         rw [← HL.out, joinRow_take, ← HL2.out] at hs
         have HS := Lib.hid hs
         clear hs
         go_wp2_with fail
         go_roundw
         case rel => exact ⟨a + 1, L2, F8, by omega, by go_num, nL2, HF8, Lib.hid HS.out.symm, hL28, HLo2, hE5⟩
         case measure => simp [intOf]; omega
      ·have hap : a = P.length := by omega
       subst hap
       rw [← joinV_take] at HL
       have HST2 : Hid ((c.gates.take (i + 1)).foldl cutStep (cuts0 c.first) = all ++ [L ++ [[(f : Int) + i]]]) := Lib.hid (by rw [HST.out, HL.out, OKL.out])
       obtain ⟨cells, G, h1, h2, rfl, h4⟩ := hN
       obtain ⟨cells7, G7, h17, h27, rfl, h47⟩ := nL
       obtain ⟨w5, rfl⟩ : ∃ x : World, x = wr := ⟨_, rfl⟩
       have hob := fun k hk => HF.out k (List.mem_append_left _ (mem_fp.2 hk))
       have hob7 := fun k hk => HF7.out k (List.mem_append_left _ (mem_fp.2 hk))
       have hs5 := hE4.size
       have hal : all.length ≤ 1000 := by have := OKL.out; omega
       go_wp2_with (first
        | (have hguard := E8; at_builtin; refine wpList_app tyIII (ownsRow_ext h1 (E8.alloc _)) (rowNew w8 [.slice a8 (L.length + 1) c8] _ rfl) rfl (by simp [Value.oneCell']) (by omega) (Nat.zero_le _) rfl rfl rfl rfl ?_; intro v9 w9 o9 g9 m9; obtain ⟨a9, c9, rfl, _⟩ := ownsRow_row o9)
        | (at_builtin; refine wpList_app tyII (ownsRow_ext h17 (by (repeat (first | with_reducible assumption | with_reducible exact Ext.refl _ | with_reducible refine Ext.drew' ?_ | with_reducible refine Ext.drewN' ?_ _ | with_reducible refine Ext.alloc ?_ _ | (with_reducible refine Ext.setNew ?_ (by first | exact Nat.le_refl _ | (simp; done) | (simp; omega) | omega) _))))) (rowNew _ [.slice (some ⟨w5.heap.size, 0, none⟩) 1 1] _ (B := w5.heap.size + 1) (by simp)) rfl (by simp [Value.oneCell']) (by omega) (Nat.zero_le _) rfl rfl rfl rfl ?_; intro v8 w8 o8 g8 m8; obtain ⟨a8, c8, rfl, _⟩ := ownsRow_row o8; have E8 : Ext w2 w8 := ext_grown (hE4.trans (by (repeat (first | with_reducible assumption | with_reducible exact Ext.refl _ | with_reducible refine Ext.drew' ?_ | with_reducible refine Ext.drewN' ?_ _ | with_reducible refine Ext.alloc ?_ _ | (with_reducible refine Ext.setNew ?_ (by first | exact Nat.le_refl _ | (simp; done) | (simp; omega) | omega) _))))) g8 hob7))
       have L5 := lit_ii w5 ((f : Int) + i) rfl
       have p5 : PInts ((w5.alloc (.cells #[.int .i64 ((f : Int) + i)] 3)).alloc (.cells #[.slice (some ⟨w5.heap.size, 0, none⟩) 1 1] 23)) [.slice (some ⟨w5.heap.size, 0, none⟩) 1 1] [(f : Int) + i] [w5.heap.size] :=
        Blk.pints (xs := [(f : Int) + i]) (t := 3) ((Blk.at w5 [.int .i64 ((f : Int) + i)] 3 rfl).ext ((Ext.refl _).alloc _)) (by simp [maxLen])
       have SN1 := nst_snoc goodInts h17 h27 h47 (by (repeat (first | with_reducible assumption | with_reducible exact Ext.refl _ | with_reducible refine Ext.drew' ?_ | with_reducible refine Ext.drewN' ?_ _ | with_reducible refine Ext.alloc ?_ _ | (with_reducible refine Ext.setNew ?_ (by first | exact Nat.le_refl _ | (simp; done) | (simp; omega) | omega) _)))) p5 (fun q hq => by simp at hq; omega) g8 m8 rfl o8
       have SN2 := nst_snoc goodII h1 h2 h4 (E8.alloc _) ⟨_, rfl, Nst.ext goodInts SN1.1 ((Ext.refl _).alloc _)⟩ (SN1.2 _ HF7.out (by omega)) g9 m9 rfl o9
       go_roundw
       case rel =>
        refine ⟨i + 1, _, by omega, by go_num, by rw [HST2.out]; exact SN2.1, Lib.hid (SN2.2 _ HF.out (by omega)), (y.ext (E8.alloc _)).grn g9 (fun e => by have := hob _ e; omega), ext_grown (hE.trans (E8.alloc _)) g9 (fun q hq => by have := hob q hq; omega)⟩
       case measure => simp [intOf]; omega
    ·have hig : i = c.gates.length := by omega
     subst hig
     rw [← HU.out] at hN
     go_wp2_with fail
     go_ret
     exact ⟨_, _, rfl, hN, fun q hq => by have := HF.out q hq; omega, hE⟩
end Go.Proofs.Ytgialedmbmfejaa

namespace Go.Proofs.Ytgialedmbmfejaa
open Go.RowKit
set_option maxRecDepth 100000
set_option linter.unusedVariables false
set_option linter.unusedSimpArgs false
/-- The slices read ar xss. -/
def ReadII (w : World) (vals : List Value) (xss : List (List Int)) : Prop := vals.length = xss.length ∧ ∀ j, j < xss.length → ∃ a c, vals[j]? = some (.slice a (xss.getD j []).length c) ∧ IntsAt w a (xss.getD j [])
theorem ReadII.ext {w w' : World} {vals : List Value} {xss : List (List Int)} (h : ReadII w vals xss) (e : Ext w w') : ReadII w' vals xss := ⟨h.1, fun j hj => by
 obtain ⟨a, c, h1, h2⟩ := h.2 j hj
 exact ⟨a, c, h1, h2.ext e⟩⟩
theorem ReadII.snoc {w : World} {vals : List Value} {xss : List (List Int)} (h : ReadII w vals xss) {a : Option Addr} {c : Nat} {x : List Int} (hx : IntsAt w a x) : ReadII w (vals ++ [.slice a x.length c]) (xss ++ [x]) := by
 refine ⟨by simp [h.1], fun j hj => ?_⟩
 by_cases e : j < xss.length
 ·obtain ⟨a', c', h1, h2⟩ := h.2 j e
  have : (xss ++ [x]).getD j [] = xss.getD j [] := by rw [List.getD_eq_getElem?_getD, List.getElem?_append_left e, List.getD_eq_getElem?_getD]
  rw [this]
  exact ⟨a', c', by rw [List.getElem?_append_left (by rw [h.1]; exact e)]; exact h1, h2⟩
 ·have hj2 : j = xss.length := by simp at hj; omega
  subst hj2
  have : (xss ++ [x]).getD xss.length [] = x := by simp [List.getD_eq_getElem?_getD]
  rw [this]
  exact ⟨a, c, by rw [← h.1]; simp, hx⟩
theorem ReadII.set {w : World} {vals : List Value} {xss : List (List Int)} (h : ReadII w vals xss) (j : Nat) {a : Option Addr} {c : Nat} {x : List Int} (hx : IntsAt w a x) : ReadII w (vals.set j (.slice a x.length c)) (xss.set j x) := by
 refine ⟨by simp [h.1], fun i hi => ?_⟩
 rw [List.length_set] at hi
 by_cases e : j = i
 ·subst e
  have : (xss.set j x).getD j [] = x := by simp [List.getD_eq_getElem?_getD, hi]
  rw [this]
  exact ⟨a, c, by rw [List.getElem?_set_self (by rw [h.1]; exact hi)], hx⟩
 ·have : (xss.set j x).getD i [] = xss.getD i [] := by simp [List.getD_eq_getElem?_getD, List.getElem?_set, e]
  rw [this, List.getElem?_set_ne e]
  exact h.2 i hi
theorem ReadII.nils (w : World) (n : Nat) : ReadII w (List.replicate n (.slice none 0 0)) (List.replicate n []) := by
 refine ⟨by simp, fun j hj => ?_⟩
 rw [List.length_replicate] at hj
 have : (List.replicate n ([] : List Int)).getD j [] = [] := by simp [List.getD_eq_getElem?_getD, List.getElem?_replicate, hj]
 rw [this]
 exact ⟨none, 0, by simp [List.getElem?_replicate, hj], .inl rfl⟩
/-- What the search for the best cuts gives back. -/
def BestPost (w : World) (bs : List (List Int)) (ar : List Int) (e : Ending) (w' : World) : Prop := ∃ bv av vals, e = .returned (.tuple #[bv, av]) ∧ w'.ownsRow w.heap.size 23 1 bv bs.length vals ∧ OwnInts w' w.heap.size 3 av ar ∧ ReadII w' vals bs ∧ Ext w w'
end Go.Proofs.Ytgialedmbmfejaa

