/- Rows whose elements own blocks, as the exact laws' walks carry them. -/
import Derived.Test.YtpomcoegpjehgaaNestX
namespace Go.Proofs.Ytpomcoegpjehgaa
open Go.RowKit
set_option maxRecDepth 100000
set_option linter.unusedVariables false
set_option linter.unusedSimpArgs false
def SmallIII (x : List (List (List Int))) : Prop := (SmL (SmL SmI)) x ∧ (szF (szF szI)) x ≤ 1048576
def RepIII (w : World) (b N : Nat) (v : Value) (x : List (List (List Int))) : Prop := ∃ F, (PNst PII 30 1) w [v] x F ∧ (∀ g ∈ F, b ≤ g ∧ g < N) ∧ SmallIII x
def MkIII (w : World) (v : Value) (km : Int) : Prop := ∃ (x : List (List (List Int))) (F : List Nat), km = 1 + (szF (szF szI)) x ∧ (PNst PII 30 1) w [v] ((mkFN (mkFN mkII szI) (szF szI)) 1 x) F ∧ SmallIII x
section
variable {w w' : World} {b b2 N : Nat} {v v' : Value} {x : List (List (List Int))}
theorem RepIII.ext (h : RepIII w b N v x) (e : Ext w w') : RepIII w' b N v x := by
  obtain ⟨F, h1, h2, h3⟩ := h
  exact ⟨F, GoodP.ext goodIII h1 e, h2, h3⟩
theorem RepIII.le (h : RepIII w b N v x) (hb : b2 ≤ b) : RepIII w b2 N v x := by
  obtain ⟨F, h1, h2, h3⟩ := h
  exact ⟨F, h1, fun g hg => by have := h2 g hg; omega, h3⟩
theorem RepIII.hi {n m : Nat} (h : RepIII w b N v x) (g : Mid n m w w') (hb : m ≤ b) : RepIII w' b N v x := by
  obtain ⟨F, h1, h2, h3⟩ := h
  exact ⟨F, GoodP.mid goodIII h1 g (fun q hq => by have := h2 q hq; omega), h2, h3⟩
theorem GiveIII.rep {e : Ending} (h : GiveIII w x e w') (hs : SmallIII x := by assumption) : ∃ v, e = .returned v ∧ RepIII w' w.heap.size w'.heap.size v x ∧ Ext w w' := by
  obtain ⟨v, F, h1, h2, h3, h4⟩ := h
  have hp : (PNst PII 30 1) w' [v] x F := ⟨v, rfl, h2⟩
  exact ⟨v, h1, ⟨F, hp, fun g hg => ⟨h3 g hg, GoodP.lt goodIII hp g hg⟩, hs⟩, h4⟩
theorem eqIII_R {b3 N3 : Nat} (h : RepIII w b N v x) (h' : RepIII w b3 N3 v' x) : Calls Try.prog 27 #[v, v'] w fun e w' => e = .returned (.bool true) ∧ Ext w w' := by
  obtain ⟨F, h1, h2, h3⟩ := h
  obtain ⟨F', h1', _⟩ := h'
  exact eqIntSSS_P v v' x F F' w h1 h1' h3.1
theorem MkIII.ext {k : Int} (h : MkIII w v k) (e : Ext w w') : MkIII w' v k := by
  obtain ⟨x, F, h1, h2, h3⟩ := h
  exact ⟨x, F, h1, GoodP.ext goodIII h2 e, h3⟩
theorem MkIII.kb {k : Int} (h : MkIII w v k) : 0 ≤ k ∧ k ≤ 100000000 := by
  obtain ⟨x, F, rfl, h2, h3⟩ := h
  have := h3.2
  omega
theorem markIII_R (h : RepIII w b N v x) : Calls Try.prog 29 #[v, .int .i64 1] w fun e w' => ∃ km, e = .returned (.int .i64 km) ∧ MkIII w' v km ∧ Mid b N w w' := by
  obtain ⟨F, h1, h2, h3⟩ := h
  refine (markIntSSS_P v x F 1 w h1 h3.1 (by omega) (by have := h3.2; omega)).mono ?_
  rintro e w' ⟨rfl, o, m⟩
  exact ⟨_, rfl, ⟨x, F, rfl, o, h3⟩, m.mid h2⟩
theorem heldIII_R {km : Int} (h : MkIII w v km) : Calls Try.prog 30 #[v, .int .i64 1] w fun e w' => e = .returned (.int .i64 km) ∧ Ext w w' := by
  obtain ⟨x, F, rfl, h2, h3⟩ := h
  exact heldIntSSS_P v x F 1 w h2 h3.1 (by omega) (by have := h3.2; omega)
end
def SmallIntL (x : List Int) : Prop := SmI x ∧ szI x ≤ 1048576
def RepIntL (w : World) (b N : Nat) (v : Value) (x : List Int) : Prop := ∃ F, PInts w [v] x F ∧ (∀ g ∈ F, b ≤ g ∧ g < N) ∧ SmallIntL x
def MkIntL (w : World) (v : Value) (km : Int) : Prop := ∃ (x : List Int) (F : List Nat), km = 1 + szI x ∧ PInts w [v] (mkII 1 x) F ∧ SmallIntL x
section
variable {w w' : World} {b b2 N : Nat} {v v' : Value} {x : List Int}
theorem RepIntL.ext (h : RepIntL w b N v x) (e : Ext w w') : RepIntL w' b N v x := by
  obtain ⟨F, h1, h2, h3⟩ := h
  exact ⟨F, GoodP.ext goodInts h1 e, h2, h3⟩
theorem RepIntL.le (h : RepIntL w b N v x) (hb : b2 ≤ b) : RepIntL w b2 N v x := by
  obtain ⟨F, h1, h2, h3⟩ := h
  exact ⟨F, h1, fun g hg => by have := h2 g hg; omega, h3⟩
theorem RepIntL.hi {n m : Nat} (h : RepIntL w b N v x) (g : Mid n m w w') (hb : m ≤ b) : RepIntL w' b N v x := by
  obtain ⟨F, h1, h2, h3⟩ := h
  exact ⟨F, GoodP.mid goodInts h1 g (fun q hq => by have := h2 q hq; omega), h2, h3⟩
theorem GiveIntL.rep {e : Ending} (h : GiveNL w x e w') (hs : SmallIntL x := by assumption) : ∃ v, e = .returned v ∧ RepIntL w' w.heap.size w'.heap.size v x ∧ Ext w w' := by
  obtain ⟨v, h1, h2, h4⟩ := h
  obtain ⟨p1, p2⟩ := PInts.of h2
  exact ⟨v, h1, ⟨fp v, p1, fun g hg => ⟨p2 g hg, GoodP.lt goodInts p1 g hg⟩, hs⟩, h4⟩
theorem eqIntL_R {b3 N3 : Nat} (h : RepIntL w b N v x) (h' : RepIntL w b3 N3 v' x) : Calls Try.prog 48 #[v, v'] w fun e w' => e = .returned (.bool true) ∧ Ext w w' := by
  obtain ⟨F, h1, h2, h3⟩ := h
  obtain ⟨F', h1', _⟩ := h'
  exact eqIntS_P v v' x F F' w h1 h1' h3.1
theorem MkIntL.ext {k : Int} (h : MkIntL w v k) (e : Ext w w') : MkIntL w' v k := by
  obtain ⟨x, F, h1, h2, h3⟩ := h
  exact ⟨x, F, h1, GoodP.ext goodInts h2 e, h3⟩
theorem MkIntL.kb {k : Int} (h : MkIntL w v k) : 0 ≤ k ∧ k ≤ 100000000 := by
  obtain ⟨x, F, rfl, h2, h3⟩ := h
  have := h3.2
  omega
theorem markIntL_R (h : RepIntL w b N v x) : Calls Try.prog 56 #[v, .int .i64 1] w fun e w' => ∃ km, e = .returned (.int .i64 km) ∧ MkIntL w' v km ∧ Mid b N w w' := by
  obtain ⟨F, h1, h2, h3⟩ := h
  refine (markIntS_P v x F 1 w h1 h3.1 (by omega) (by have := h3.2; omega)).mono ?_
  rintro e w' ⟨rfl, o, m⟩
  exact ⟨_, rfl, ⟨x, F, rfl, o, h3⟩, m.mid h2⟩
theorem heldIntL_R {km : Int} (h : MkIntL w v km) : Calls Try.prog 57 #[v, .int .i64 1] w fun e w' => e = .returned (.int .i64 km) ∧ Ext w w' := by
  obtain ⟨x, F, rfl, h2, h3⟩ := h
  exact heldIntS_P v x F 1 w h2 h3.1 (by omega) (by have := h3.2; omega)
end
end Go.Proofs.Ytpomcoegpjehgaa
