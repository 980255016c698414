/- The marks as the program keeps them: a map from wires to numbers. -/
import Derived.Test.YtkdiniaddnhkdaaAcyN
import Derived.Maps.OwnSet
import Derived.Maps.OwnOps
import Derived.Maps.Views
import Derived.DeepKeys4
namespace Go.Proofs.Ytkdiniaddnhkdaa
open Go.RowKit Go.Maps
set_option maxRecDepth 100000
set_option linter.unusedVariables false
set_option linter.unusedSimpArgs false
def wKey (x : Wire) : Lit := .string (keyBytes [.int .i64 x.1, .int .i64 x.2])
def wVal (x : Wire) : Value := .agg #[.int .i64 x.1, .int .i64 x.2]
theorem wf_sm {x : Int} (h : -9000000000000000000 ≤ x) (h2 : x ≤ 9000000000000000000) : (Lit.int .i64 x).wf = true := WalkArith.wf_i64 (by omega)
theorem wf_nat8 {x : Nat} (h : x < 1000) : (Lit.int .i64 (x : Int)).wf = true := wf_sm (by omega) (by omega)
theorem wLaidOut : laidOutB Try.prog = true := by kernel_rfl
theorem wLaw : Keyed Try.prog 113 := Keyed.of_law (deep_law_laid wLaidOut (m := 2) (by omega) (of_decide_eq_true (by kernel_rfl)) (by kernel_rfl) (by rw [Try.underlying113]))
theorem keyOf_wire {P : Program} {t i : TypeId} {n1 n2 g1 g2 p1 p2 : String} {b1 b2 : Nat} {e1 e2 : Bool} (hu : P.underlying t = some (.struct #[{ name := n1, type := i, offset := 0, embedded := e1, tag := g1, pkgPath := p1, byteOffset := b1 }, { name := n2, type := i, offset := 1, embedded := e2, tag := g2, pkgPath := p2, byteOffset := b2 }])) (hn1 : n1 ≠ "_") (hn2 : n2 ≠ "_")
    (hk : P.keyType t = true) (h0 : 0 < P.types.size) (hc : P.cellsOf t = 2) (hi : P.underlying i = some (.int .i64)) (hc3 : P.cellsOf i = 1) {a b : Int} (h1 : (Lit.int .i64 a).wf = true) (h2 : (Lit.int .i64 b).wf = true) :
    keyOf P t (.agg #[.int .i64 a, .int .i64 b]) = some (.string (keyBytes [.int .i64 a, .int .i64 b])) := by
  obtain ⟨m, hm⟩ : ∃ m, P.types.size = m + 1 := ⟨P.types.size - 1, by omega⟩
  have ki : ∀ x, (Lit.int .i64 x).wf = true → P.keyLits (m + 1) i [.int .i64 x] = some [.int .i64 x] := by
    intro x hx
    unfold Program.keyLits
    simp [hi, hx]
  have k1 : P.keyLits (m + 1 + 1) t [.int .i64 a, .int .i64 b] = some [.int .i64 a, .int .i64 b] := by
    unfold Program.keyLits
    simp [hu, hc, hc3, ki a h1, ki b h2, hn1, hn2]
  unfold keyOf
  rw [hu]
  simp [hk, hm, Value.formed, hu, hc, Value.cells, k1]
theorem wKeyOf (x : Wire) (h : x.Ok) : keyOf Try.prog 113 (wVal x) = some (wKey x) :=
  keyOf_wire Try.underlying113 (by decide) (by decide) (by kernel_rfl) (of_decide_eq_true (by kernel_rfl)) (by kernel_rfl) Try.underlying3 (by kernel_rfl) (wf_nat8 (by have := h.1; omega)) (wf_nat8 (by have := h.2; omega))
theorem wKey_ne {x y : Wire} (h : x.Ok) (h' : y.Ok) (hne : x ≠ y) : wKey x ≠ wKey y := by
  intro e
  have h1 := wKeyOf x h
  have h2 := wKeyOf y h'
  rw [e] at h1
  have := wLaw.inj h1 h2
  simp [wVal] at this
  exact hne (Prod.ext (by have := this.1; omega) (by have := this.2; omega))
theorem wKey_is {x : Wire} (h : x.Ok) : WideAt.IsKeyLit (wKey x) := wLaw.key (wKeyOf x h)
noncomputable abbrev wElem : Value → Option (DataW Unit × List MemPlace) := plainElem (H := Unit) Try.prog 3
theorem wMapTy : Try.prog.underlying 109 = some (.map 113 3) := Try.underlying109
theorem wZero (w : World) : (zeroValue 3).run Try.prog w = .ok (.int .i64 0) w := by kernel_rfl
/-- Block mb holds the marks m; it has been stored into at most so often. -/
def MkM (w : World) (mb B : Nat) (m : Marks) : Prop :=
  ∃ (n : Nat) (D : DataW Unit), w.ownsMap Try.prog 113 wElem mb n D ∧ n + 2 * zeros0 m 200 ≤ B ∧ ∀ x : Wire, x.Ok → D.atKey (wKey x) (.lit (.int .i64 0)) = .lit (.int .i64 (m x.ix))
section
variable {w w' : World} {mb B : Nat} {m : Marks}
theorem MkM.lt (h : MkM w mb B m) : mb < w.heap.size := by obtain ⟨n, D, h, _⟩ := h; exact h.lt
theorem MkM.kept {r : Option Nat} (h : MkM w mb B m) (hg : w.grownBy w' r) (hne : some mb ≠ r) : MkM w' mb B m := by obtain ⟨n, D, h, r⟩ := h; exact ⟨n, D, h.kept hg hne, r⟩
theorem MkM.ext (h : MkM w mb B m) (e : Ext w w') : MkM w' mb B m := h.kept (Gr.ext e none) (by simp)
theorem MkM.made (w : World) : MkM (w.alloc (.map #[] 0)) w.heap.size 400 mark0 :=
  ⟨0, .map [], World.ownsMap_made _ _ _ _, by have := zeros0_le mark0 200; omega, fun x _ => rfl⟩
theorem MkM.put {n : Nat} {D : DataW Unit} (h : w.ownsMap Try.prog 113 wElem mb n D) (hD : ∀ x : Wire, x.Ok → D.atKey (wKey x) (.lit (.int .i64 0)) = .lit (.int .i64 (m x.ix)))
    {x : Wire} (hx : x.Ok) {v : Int} {B' : Nat} (hB : n + 1 + 2 * zeros0 (upd m x.ix v) 200 ≤ B') (h1 : w'.ownsMap Try.prog 113 wElem mb (n + 1) (D.put (wKey x) (.lit (.int .i64 v)))) : MkM w' mb B' (upd m x.ix v) := by
  refine ⟨_, _, h1, hB, fun y hy => ?_⟩
  by_cases e : y = x
  · subst e; rw [atKey_put_same h.isMap (wKey_is hx), upd_same]
  · rw [atKey_put_other (wKey_ne hy hx e), hD y hy, upd_ne _ _ (fun e2 => e (Wire.ix_inj hy hx e2))]
end
end Go.Proofs.Ytkdiniaddnhkdaa
