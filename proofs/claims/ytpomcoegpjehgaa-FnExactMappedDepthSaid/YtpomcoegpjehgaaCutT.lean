/- Slices of slices, and of slices of slices, of numbers: what a literal makes, and what a call gives back. -/
import Derived.Test.YtpomcoegpjehgaaNest
namespace Go.Proofs.Ytpomcoegpjehgaa
open Go.RowKit
set_option maxRecDepth 100000
set_option linter.unusedVariables false
set_option linter.unusedSimpArgs false
theorem tyII : RowTy Try.prog 30 23 1 24 := RowTy.mk' (z := .slice none 0 0) Try.underlying30 (by kernel_rfl) rfl (by decide) (by decide)
theorem tyIII : RowTy Try.prog 28 30 1 24 := RowTy.mk' (z := .slice none 0 0) Try.underlying28 (by kernel_rfl) rfl (by decide) (by decide)
abbrev PII : OwnP (List (List Int)) := PNst PInts 23 1
theorem goodII : GoodP PII 1 := goodNst goodInts
abbrev NstII (w : World) (v : Value) (x : List (List (List Int))) (F : List Nat) : Prop := Nst PII 30 1 w v x F
theorem goodIII : GoodP (PNst PII 30 1) 1 := goodNst goodII
section
variable {α : Type} {P : OwnP α} {size : Nat} {w w' : World}
theorem Nst.lit {T : TypeId} {B : Nat} {cs : List Value} {x : α} {F : List Nat} (hP : GoodP P size) (b : Blk w B T cs) (hx : P w cs x F) (hd : B ∉ F) : Nst P T size w (.slice (some ⟨B, 0, none⟩) 1 1) [x] (B :: F) := by
  refine ⟨cs, F, b.owns (n := 1) (by rw [hP.len hx, Nat.one_mul]) (Nat.zero_le _) (by decide), ElsN.one_ hx, rfl, fun g hg => ?_⟩
  have := mem_fp.1 hg
  cases this; exact hd
theorem Blk.pints {B : Nat} {t : TypeId} {xs : List Int} (b : Blk w B 3 (xs.map (Value.int .i64))) (hl : xs.length ≤ maxLen) : PInts w [.slice (some ⟨B, 0, none⟩) xs.length xs.length] xs [B] :=
  ⟨_, rfl, b.owns (n := xs.length) (size := 1) (by simp) (Nat.zero_le _) hl, rfl⟩
end
theorem Nst.made0 {α : Type} {P : OwnP α} {T : TypeId} {size : Nat} (w : World) {B : Nat} (hB : w.heap.size = B) : Nst P T size (w.alloc (.cells #[] T)) (.slice (some ⟨B, 0, none⟩) 0 0) ([] : List α) [B] :=
  ⟨[], [], (Blk.at w [] T hB).owns (n := 0) (by simp) (Nat.zero_le _) (by decide), .nil, rfl, fun g _ h => by simp at h⟩
/-- The literal of one slice of one number: two new blocks. -/
theorem lit_ii (w : World) (v : Int) {B : Nat} (hB : w.heap.size = B) : NstI ((w.alloc (.cells #[.int .i64 v] 3)).alloc (.cells #[.slice (some ⟨B, 0, none⟩) 1 1] 23)) (.slice (some ⟨B + 1, 0, none⟩) 1 1) [[v]] [B + 1, B] := by
  subst hB
  have b0 := (Blk.at w [.int .i64 v] 3 rfl).ext ((Ext.refl _).alloc (.cells #[.slice (some ⟨w.heap.size, 0, none⟩) 1 1] 23))
  have b1 := Blk.at (w.alloc (.cells #[.int .i64 v] 3)) [.slice (some ⟨w.heap.size, 0, none⟩) 1 1] 23 (B := w.heap.size + 1) (by simp)
  exact Nst.lit goodInts b1 (Blk.pints (xs := [v]) (t := 3) b0 (by simp [maxLen])) (by simp)
theorem lit_e (w : World) {B : Nat} (hB : w.heap.size = B) : NstII (((w.alloc (.cells #[] 3)).alloc (.cells #[.slice (some ⟨B, 0, none⟩) 0 0] 23)).alloc (.cells #[.slice (some ⟨B + 1, 0, none⟩) 1 1] 30)) (.slice (some ⟨B + 1 + 1, 0, none⟩) 1 1) [[[]]] [B + 1 + 1, B + 1, B] := by
  subst hB
  have b0 := (Blk.at w [] 3 rfl).ext ((Ext.refl _).alloc (.cells #[.slice (some ⟨w.heap.size, 0, none⟩) 0 0] 23))
  have b1 := Blk.at (w.alloc (.cells #[] 3)) [.slice (some ⟨w.heap.size, 0, none⟩) 0 0] 23 (B := w.heap.size + 1) (by simp)
  have n1 : NstI _ _ [[]] _ := Nst.lit goodInts b1 (Blk.pints (xs := []) (t := 3) b0 (by simp)) (by simp)
  have b2 := Blk.at ((w.alloc (.cells #[] 3)).alloc (.cells #[.slice (some ⟨w.heap.size, 0, none⟩) 0 0] 23)) [.slice (some ⟨w.heap.size + 1, 0, none⟩) 1 1] 30 (B := w.heap.size + 1 + 1) (by simp)
  exact Nst.lit goodII b2 ⟨_, rfl, n1.ext goodInts ((Ext.refl _).alloc _)⟩ (by simp; omega)
/-- What a call gives back: a row whose elements own blocks, all of it new. -/
def GiveN {α : Type} (P : OwnP α) (T : TypeId) (size : Nat) (w : World) (xs : List α) (e : Ending) (w' : World) : Prop := ∃ v F, e = .returned v ∧ Nst P T size w' v xs F ∧ (∀ g ∈ F, w.heap.size ≤ g) ∧ Ext w w'
abbrev GiveII (w : World) (x : List (List Int)) (e : Ending) (w' : World) : Prop := GiveN PInts 23 1 w x e w'
abbrev GiveIII (w : World) (x : List (List (List Int))) (e : Ending) (w' : World) : Prop := GiveN PII 30 1 w x e w'
/-- Reading an element of a row of rows. -/
theorem NstII.get {w : World} {a : Option Addr} {n c : Nat} {x : List (List (List Int))} {F : List Nat} (h : NstII w (.slice a n c) x F) (hn : 0 < x.length) : ∃ g, a = some ⟨g, 0, none⟩ ∧ g < w.heap.size ∧ ∀ j, j < x.length → ∃ aj cj Fj, w.cell? ⟨g, j, none⟩ = some (.slice aj (x.getD j []).length cj) ∧ NstI w (.slice aj (x.getD j []).length cj) (x.getD j []) Fj ∧ (x.getD j []).length ≤ cj ∧ ∀ q ∈ Fj, q ∈ F := by
  obtain ⟨cells, G, h1, h2, rfl, h4⟩ := h
  obtain ⟨a', c', hv, hr, _⟩ := ownsRow_row h1
  cases hv
  obtain ⟨g, rfl, hb, hg⟩ := ownsRow_block h1 hn
  refine ⟨g, rfl, hg, fun j hj => ?_⟩
  obtain ⟨cs, Fj, ⟨v, rfl, q1⟩, q2, q3⟩ := h2.get goodII j [] hj
  obtain ⟨aj, cj, rfl, hle, _⟩ := q1.sl
  have := q2 0 (by omega)
  exact ⟨aj, cj, Fj, ownsRow_cell h1 (by simpa using this), q1, hle, fun q hq => List.mem_append_right _ (q3 q hq)⟩
end Go.Proofs.Ytpomcoegpjehgaa
