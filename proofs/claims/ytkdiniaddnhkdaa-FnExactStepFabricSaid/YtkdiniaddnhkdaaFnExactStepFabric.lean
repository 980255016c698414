/- The exact law of StepFabric. No condition. -/
import Derived.Test.YtkdiniaddnhkdaaConfP
import Derived.Test.YtkdiniaddnhkdaaFrame
import Derived.Deep.DeepCutAuto
import Derived.Test.YtkdiniaddnhkdaaFabR
import Derived.Test.YtkdiniaddnhkdaaRepB
import Derived.Test.YtkdiniaddnhkdaaStp0
import Derived.Test.YtkdiniaddnhkdaaRd
import Derived.Test.YtkdiniaddnhkdaaExInt
import Derived.Test.YtkdiniaddnhkdaaStpS
import Derived.Test.YtkdiniaddnhkdaaStpI
import Derived.Test.YtkdiniaddnhkdaaAcyI
import Derived.Test.YtkdiniaddnhkdaaAcyT
namespace Go.Proofs.Ytkdiniaddnhkdaa
open Go.ChangeShapes Go.WideShapes Go.ChangeAt Go.RowKit Go.Joins
set_option maxRecDepth 100000
set_option linter.unusedVariables false
set_option linter.unusedSimpArgs false
theorem array1' {α : Type} {cs : Array α} (h : cs.size = 1) : ∃ c0, cs = #[c0] := by
  obtain ⟨l⟩ := cs
  match l, h with
  | [c0], _ => exact ⟨c0, rfl⟩
theorem open_one {H : Type} {enc : TypeId × Value → H} {P : Program} {w : World} {base : Nat} {spare : Nat → Bool} {held : Bool} {r : Reach} {b0 : Nat} {t : TypeId} {f0 : Field} {v : Value} {d : DataW H} {p : List MemPlace} (hs : P.underlying t = some (.struct #[f0])) (ho : f0.offset = 0) (hk : P.cellsOf f0.type = 1) (hC : P.cellsOf t = 1)
    (hv : Value.okWide P w r b0 t v) (h : DataW.Trod enc P w base spare held t v d p) : ∃ (v0 : Value) (y0 : DataW H × List MemPlace) (n : Nat), v = .agg #[v0] ∧ DataW.trod enc P w base spare held n f0.type [v0] = some y0 := by
  obtain ⟨cs, rfl, hsz⟩ := okWide_struct hs hv
  obtain ⟨c0, rfl⟩ := array1' (hsz.trans hC)
  obtain ⟨fuel, hf⟩ := h
  obtain ⟨y0, n, hx, _, h0⟩ := trod_struct1 hs hf
  exact ⟨c0, y0, n, rfl, by simpa [Value.cells, ho, hk] using h0⟩
theorem open_state {H : Type} {enc : TypeId × Value → H} {w : World} {base : Nat} {spare : Nat → Bool} {held : Bool} {r : Reach} {b0 : Nat} {v : Value} {d : DataW H} {p : List MemPlace} (hv : Value.okWide Try.prog w r b0 61 v) (h : DataW.Trod enc Try.prog w base spare held 61 v d p) :
    ∃ a c xs, v = .agg #[.slice a xs.length c] ∧ BoolsIn w a c xs := by
  obtain ⟨v0, y0, n, rfl, h0⟩ := open_one Try.underlying61 rfl (by kernel_rfl) (by kernel_rfl) hv h
  obtain ⟨a1, c1, xs, rfl, s1, l1, m1⟩ := open_slice (E := EBool) (sz := 1) Try.underlying59 (by kernel_rfl) (by decide) (dec_bool Try.underlying4) h0
  exact ⟨a1, c1, xs, rfl, s1.bools, l1, m1⟩
theorem szFabricState_c (a : Option Addr) (c n : Nat) (left : Int) (w : World) (hn : n ≤ maxLen) (h0 : 0 ≤ left) (h1 : left ≤ 1048576) :
    Calls Try.prog 39 #[.agg #[.slice a n c], .int .i64 left] w fun e w' => e = .returned (.int .i64 (szL n left)) ∧ Ext w w' := by
  have hl := szL_le2 n left
  by_cases h : szL n left < 0
  · have e : szL n left = -1 := by omega
    rw [e]
    go_enter Try.func39, Try.ntmps39
    go_wp2_with fail
    refine (szBoolS_c a c n left _ hn h0 h1).mono ?_
    rw [e]
    rintro e w' ⟨rfl, rfl⟩
    go_wp2
    go_ret
    exact ⟨rfl, by (repeat (first | with_reducible assumption | with_reducible exact Ext.refl _ | with_reducible refine Ext.drew' ?_ | with_reducible refine Ext.drewN' ?_ _ | with_reducible refine Ext.alloc ?_ _ | (with_reducible refine Ext.setNew ?_ (by first | exact Nat.le_refl _ | (simp; done) | (simp; omega) | omega) _)))⟩
  · have hh : 0 ≤ szL n left := by omega
    go_enter Try.func39, Try.ntmps39
    go_wp2_with fail
    refine (szBoolS_c a c n left _ hn h0 h1).mono ?_
    rintro e w' ⟨rfl, rfl⟩
    go_wp2
    go_ret
    exact ⟨rfl, by (repeat (first | with_reducible assumption | with_reducible exact Ext.refl _ | with_reducible refine Ext.drew' ?_ | with_reducible refine Ext.drewN' ?_ _ | with_reducible refine Ext.alloc ?_ _ | (with_reducible refine Ext.setNew ?_ (by first | exact Nat.le_refl _ | (simp; done) | (simp; omega) | omega) _)))⟩
theorem RepBools.mid {w w' : World} {b N : Nat} {v : Value} {xs : List Bool} {n m : Nat} (h : RepBools w b N v xs) (g : Mid n m w w') (hb : b < n ∨ m ≤ b) (hx : m ≤ b := by omega) : RepBools w' b N v xs := h.hi g hx
theorem RepBools.bools {w : World} {b N : Nat} {a : Option Addr} {n c : Nat} {xs : List Bool} (h : RepBools w b N (.slice a n c) xs) : BoolsAt w a xs := by
  obtain ⟨a', c', e, r⟩ := h.own.opened
  cases e; exact r
theorem toFabricState_r (a : Option Addr) (c : Nat) (xs : List Bool) (w : World) (hx : BoolsAt w a xs) (hl : xs.length ≤ 1048576) :
    Calls Try.prog 41 #[.agg #[.slice a xs.length c]] w fun e w' => ∃ a' c', e = .returned (.agg #[.slice a' xs.length c']) ∧ RepBools w' w.heap.size w'.heap.size (.slice a' xs.length c') xs ∧ Ext w w' := by
  have r0 := (Blk.at w [.slice a xs.length c] 61 rfl)
  go_enter Try.func41, Try.ntmps41
  go_wp2_with fail
  refine (toBoolS_c a c xs _ (hx.ext (by (repeat (first | with_reducible assumption | with_reducible exact Ext.refl _ | with_reducible refine Ext.drew' ?_ | with_reducible refine Ext.drewN' ?_ _ | with_reducible refine Ext.alloc ?_ _ | (with_reducible refine Ext.setNew ?_ (by first | exact Nat.le_refl _ | (simp; done) | (simp; omega) | omega) _))))) hl).mono ?_
  rintro e w1 ⟨B, rfl, hB, hI, hE1⟩
  have E1 := Ext.trans (a := w) (by (repeat (first | with_reducible assumption | with_reducible exact Ext.refl _ | with_reducible refine Ext.drew' ?_ | with_reducible refine Ext.drewN' ?_ _ | with_reducible refine Ext.alloc ?_ _ | (with_reducible refine Ext.setNew ?_ (by first | exact Nat.le_refl _ | (simp; done) | (simp; omega) | omega) _)))) hE1
  have z := hE1.size
  have il := hI.lt
  simp at hB z
  have rb := ((Blk.at (w.alloc (.cells #[.slice a xs.length c] 61)) [.slice none 0 0] 63 (B := w.heap.size + 1) (by simp)).alloc (.cells #[.slice none 0 0] 63)).ext hE1
  have rc := (Blk.at ((w.alloc (.cells #[.slice a xs.length c] 61)).alloc (.cells #[.slice none 0 0] 63)) [.slice none 0 0] 63 (B := w.heap.size + 1 + 1) (by simp)).ext hE1
  have u0 := rb.cell (i := 0) rfl
  have u1 := rc.cell (i := 0) rfl
  have f0 := fun i => rb.frozen i
  have f1 := fun i => rc.frozen i
  have l0 := rb.lt
  have l1 := rc.lt
  go_wp2
  refine bodyPost_ret (v := .agg #[.slice (some ⟨B, 0, none⟩) xs.length xs.length]) (by simp [results, Try.results41, go_sem, u0, u1]) rfl ?_
  have hI2 : Blk ((w1.setCell ⟨w.heap.size + 1 + 1, 0, none⟩ (.slice (some ⟨B, 0, none⟩) xs.length xs.length)).setCell ⟨w.heap.size + 1, 0, none⟩ (.slice (some ⟨B, 0, none⟩) xs.length xs.length)) B 4 (xs.map Value.bool) := (hI.setOther (by simp; omega) _).setOther (by simp; omega) _
  exact ⟨_, _, rfl, ⟨hI2.owns (n := xs.length) (size := 1) (by simp) (by omega) (by unfold maxLen; omega), fun q hq => by have : B = q := Option.some.inj hq; simp; omega, hl⟩, Ext.setNew (Ext.setNew E1 (by simp; omega) _) (by simp) _⟩
section
variable {w w' : World} {b N : Nat} {v : Value} {xs : List Bool}
theorem eqState_R {b3 N3 n c n' c' : Nat} {a a' : Option Addr} (h : RepBools w b N (.slice a n c) xs) (h' : RepBools w b3 N3 (.slice a' n' c') xs) : Calls Try.prog 45 #[.agg #[.slice a n c], .agg #[.slice a' n' c']] w fun e w' => e = .returned (.bool true) ∧ Ext w w' := by
  obtain ⟨_, _, e1, r1⟩ := h.own.opened
  obtain ⟨_, _, e2, r2⟩ := h'.own.opened
  cases e1; cases e2
  exact eqFabricState_c a a' _ _ _ xs rfl w r1 r2 h.small
theorem markState_k {a : Option Addr} {n c : Nat} (h : RepBools w b N (.slice a n c) xs) (k : Int) (h0 : 0 ≤ k) (h1 : k ≤ 1000000000) : Calls Try.prog 47 #[.agg #[.slice a n c], .int .i64 k] w fun e w' => e = .returned (.int .i64 (k + xs.length)) ∧ w'.ownsRow b 4 1 (.slice a n c) xs.length ((mksB k xs.length).map Value.bool) ∧ w.grownBy w' (Value.slice a n c).ownBlock := by
  obtain ⟨_, _, e1, r1⟩ := h.own.opened
  cases e1
  go_enter Try.func47, Try.ntmps47
  go_wp2_with fail
  refine (markBools_k (h.ext (by (repeat (first | with_reducible assumption | with_reducible exact Ext.refl _ | with_reducible refine Ext.drew' ?_ | with_reducible refine Ext.drewN' ?_ _ | with_reducible refine Ext.alloc ?_ _ | (with_reducible refine Ext.setNew ?_ (by first | exact Nat.le_refl _ | (simp; done) | (simp; omega) | omega) _))))) k h0 h1).mono ?_
  rintro e w1 ⟨rfl, hO, hG⟩
  go_wp2
  go_ret
  exact ⟨rfl, hO, Gr.trans (Gr.ext (by (repeat (first | with_reducible assumption | with_reducible exact Ext.refl _ | with_reducible refine Ext.drew' ?_ | with_reducible refine Ext.drewN' ?_ _ | with_reducible refine Ext.alloc ?_ _ | (with_reducible refine Ext.setNew ?_ (by first | exact Nat.le_refl _ | (simp; done) | (simp; omega) | omega) _)))) _) hG⟩
theorem markState_m {a : Option Addr} {n c : Nat} (h : RepBools w b N (.slice a n c) xs) (k : Int) (h0 : 0 ≤ k) (h1 : k ≤ 1000000000) : Calls Try.prog 47 #[.agg #[.slice a n c], .int .i64 k] w fun e w' => e = .returned (.int .i64 (k + xs.length)) ∧ Mid b N w w' := by
  refine (markState_k h k h0 h1).mono ?_
  rintro e w' ⟨rfl, _, hG⟩
  exact ⟨rfl, Mid.ofOwn hG (ownsRow_from h.own) h.up⟩
end
/-! ### what a cycle gives back -/
structure RepFabStep (w : World) (b N : Nat) (v1 v2 : Value) (x : List Bool × List Bool) : Prop where
  o1 : RepBools w b N v1 x.1
  o2 : RepBools w b N v2 x.2
  dis : ∀ q, v1.ownBlock = some q → v2.ownBlock ≠ some q
def SmallF (x : List Bool × List Bool) : Prop := x.1.length ≤ 1048576 ∧ x.2.length ≤ 1048576
theorem GiveFabStep.rep' {w w' : World} {x : List Bool × List Bool} {e : Ending} (h : GiveF w x.1 x.2 e w') (hs : SmallF x := by assumption) : ∃ a1 n1 c1 a2 n2 c2, e = .returned (.agg #[.slice a1 n1 c1, .slice a2 n2 c2]) ∧ RepFabStep w' w.heap.size w'.heap.size (.slice a1 n1 c1) (.slice a2 n2 c2) x ∧ Ext w w' := by
  obtain ⟨v1, v2, h1, h2, h3, h4, h5⟩ := h
  obtain ⟨a1, c1, rfl, _⟩ := h2.len
  obtain ⟨a2, c2, rfl, _⟩ := h3.len
  exact ⟨_, _, _, _, _, _, h1, ⟨⟨h2, fun q hq => (h2.lt' q hq).2, hs.1⟩, ⟨h3, fun q hq => (h3.lt' q hq).2, hs.2⟩, h4⟩, h5⟩
section
variable {w w' : World} {b b2 N n1 c1 n2 c2 : Nat} {a1 a2 : Option Addr} {v1 v2 : Value} {x : List Bool × List Bool}
theorem RepFabStep.ext (h : RepFabStep w b N v1 v2 x) (e : Ext w w') : RepFabStep w' b N v1 v2 x := ⟨h.o1.ext e, h.o2.ext e, h.dis⟩
theorem RepFabStep.le (h : RepFabStep w b N v1 v2 x) (hb : b2 ≤ b) : RepFabStep w b2 N v1 v2 x := ⟨h.o1.le hb, h.o2.le hb, h.dis⟩
theorem RepFabStep.hi {n m : Nat} (h : RepFabStep w b N v1 v2 x) (g : Mid n m w w') (hb : m ≤ b) : RepFabStep w' b N v1 v2 x := ⟨h.o1.hi g hb, h.o2.hi g hb, h.dis⟩
theorem RepFabStep.set (h : RepFabStep w b N v1 v2 x) {p : Addr} (hp : p.block < b) (u : Value) : RepFabStep (w.setCell p u) b N v1 v2 x :=
  ⟨⟨OwnB.setOther h.o1.own (fun q => by have := (h.o1.own.lt' _ q).1; omega) u, h.o1.up, h.o1.small⟩, ⟨OwnB.setOther h.o2.own (fun q => by have := (h.o2.own.lt' _ q).1; omega) u, h.o2.up, h.o2.small⟩, h.dis⟩
theorem eqFabStep_R {b3 N3 m1 d1 m2 d2 : Nat} {p1 p2 : Option Addr} (h : RepFabStep w b N (.slice a1 n1 c1) (.slice a2 n2 c2) x) (h' : RepFabStep w b3 N3 (.slice p1 m1 d1) (.slice p2 m2 d2) x) :
    Calls Try.prog 44 #[.agg #[.slice a1 n1 c1, .slice a2 n2 c2], .agg #[.slice p1 m1 d1, .slice p2 m2 d2]] w fun e w' => e = .returned (.bool true) ∧ Ext w w' := by
  have y := (Blk.at w [.slice a1 n1 c1, .slice a2 n2 c2] 65 rfl).ext ((Ext.refl _).alloc (.cells #[.slice p1 m1 d1, .slice p2 m2 d2] 65))
  have z := Blk.at (w.alloc (.cells #[.slice a1 n1 c1, .slice a2 n2 c2] 65)) [.slice p1 m1 d1, .slice p2 m2 d2] 65 (B := w.heap.size + 1) (by simp)
  go_enter Try.func44, Try.ntmps44
  go_wp2_with fail
  refine (eqBools_R (h.o1.ext (by (repeat (first | with_reducible assumption | with_reducible exact Ext.refl _ | with_reducible refine Ext.drew' ?_ | with_reducible refine Ext.drewN' ?_ _ | with_reducible refine Ext.alloc ?_ _ | (with_reducible refine Ext.setNew ?_ (by first | exact Nat.le_refl _ | (simp; done) | (simp; omega) | omega) _))))) (h'.o1.ext (by (repeat (first | with_reducible assumption | with_reducible exact Ext.refl _ | with_reducible refine Ext.drew' ?_ | with_reducible refine Ext.drewN' ?_ _ | with_reducible refine Ext.alloc ?_ _ | (with_reducible refine Ext.setNew ?_ (by first | exact Nat.le_refl _ | (simp; done) | (simp; omega) | omega) _)))))).mono ?_
  rintro e w1 ⟨rfl, hE1⟩
  have E1 := Ext.trans (a := w) (by (repeat (first | with_reducible assumption | with_reducible exact Ext.refl _ | with_reducible refine Ext.drew' ?_ | with_reducible refine Ext.drewN' ?_ _ | with_reducible refine Ext.alloc ?_ _ | (with_reducible refine Ext.setNew ?_ (by first | exact Nat.le_refl _ | (simp; done) | (simp; omega) | omega) _)))) hE1
  have y1 := (y.ext hE1).cell (i := 1) rfl
  have z1 := (z.ext hE1).cell (i := 1) rfl
  have yl := (y.ext hE1).lt
  have zl := (z.ext hE1).lt
  go_wp2_with fail
  refine (eqState_R (h.o2.ext E1) (h'.o2.ext E1)).mono ?_
  rintro e w2 ⟨rfl, hE2⟩
  go_wp2
  go_ret
  exact ⟨rfl, E1.trans hE2⟩
def MkFabStep (w : World) (v1 v2 : Value) (km : Int) : Prop := ∃ n1 n2 : Nat, km = 1 + n1 + n2 ∧ MarkedBools w v1 n1 1 ∧ MarkedBools w v2 n2 (1 + n1)
theorem MkFabStep.ext {k : Int} (h : MkFabStep w v1 v2 k) (e : Ext w w') : MkFabStep w' v1 v2 k := by
  obtain ⟨n, m, h1, h2, h3⟩ := h
  exact ⟨n, m, h1, h2.ext e, h3.ext e⟩
theorem MkFabStep.kb {k : Int} (h : MkFabStep w v1 v2 k) : 0 ≤ k ∧ k ≤ 100000000 := by
  obtain ⟨n, m, rfl, h2, h3⟩ := h
  have := h2.small
  have := h3.small
  omega
theorem markFabStep_R (h : RepFabStep w b N (.slice a1 n1 c1) (.slice a2 n2 c2) x) :
    Calls Try.prog 49 #[.agg #[.slice a1 n1 c1, .slice a2 n2 c2], .int .i64 1] w fun e w' => ∃ km, e = .returned (.int .i64 km) ∧ MkFabStep w' (.slice a1 n1 c1) (.slice a2 n2 c2) km ∧ Mid b N w w' := by
  obtain ⟨o1, o2, hd⟩ := h
  have s1 := o1.small
  have s2 := o2.small
  obtain ⟨_, _, e1, _⟩ := o1.own.opened
  obtain ⟨_, _, e2, _⟩ := o2.own.opened
  cases e1; cases e2
  have y := Blk.at w [.slice a1 x.1.length c1, .slice a2 x.2.length c2] 65 rfl
  go_enter Try.func49, Try.ntmps49
  go_wp2_with fail
  refine (markBools_k (o1.ext (by (repeat (first | with_reducible assumption | with_reducible exact Ext.refl _ | with_reducible refine Ext.drew' ?_ | with_reducible refine Ext.drewN' ?_ _ | with_reducible refine Ext.alloc ?_ _ | (with_reducible refine Ext.setNew ?_ (by first | exact Nat.le_refl _ | (simp; done) | (simp; omega) | omega) _))))) 1 (by omega) (by omega)).mono ?_
  rintro e w1 ⟨rfl, q1, g1⟩
  have M1 : Mid b N w w1 := (Mid.ofExt (by (repeat (first | with_reducible assumption | with_reducible exact Ext.refl _ | with_reducible refine Ext.drew' ?_ | with_reducible refine Ext.drewN' ?_ _ | with_reducible refine Ext.alloc ?_ _ | (with_reducible refine Ext.setNew ?_ (by first | exact Nat.le_refl _ | (simp; done) | (simp; omega) | omega) _))))).trans (Mid.ofOwn g1 (ownsRow_from o1.own) o1.up)
  have y1 : Blk w1 w.heap.size _ _ := y.gr g1 (by intro hh; have := (o1.own.lt' _ hh).2; omega)
  have o2' : RepBools w1 b N (.slice a2 x.2.length c2) x.2 := ⟨ownsRow_gr (ownsRow_ext o2.own (by (repeat (first | with_reducible assumption | with_reducible exact Ext.refl _ | with_reducible refine Ext.drew' ?_ | with_reducible refine Ext.drewN' ?_ _ | with_reducible refine Ext.alloc ?_ _ | (with_reducible refine Ext.setNew ?_ (by first | exact Nat.le_refl _ | (simp; done) | (simp; omega) | omega) _))))) g1 (by
    cases hb : (Value.slice a2 x.2.length c2).ownBlock with
    | none => exact .inl rfl
    | some k => exact .inr (fun hh => hd k hh.symm hb)), o2.up, o2.small⟩
  have y11 := y1.cell (i := 1) rfl
  have yl := y1.lt
  go_wp2_with fail
  refine (markState_k o2' _ (by omega) (by omega)).mono ?_
  rintro e w2 ⟨rfl, q2, g2⟩
  have M2 : Mid b N w w2 := M1.trans (Mid.ofOwn g2 (ownsRow_from o2.own) o2.up)
  have k2 := MarkedBools.of q2 s2
  have q1' := ownsRow_gr q1 g2 (by
    cases hb : (Value.slice a1 x.1.length c1).ownBlock with
    | none => exact .inl rfl
    | some k => exact .inr (fun hh => hd k hb hh.symm))
  go_wp2
  go_ret
  exact ⟨_, rfl, ⟨_, _, rfl, MarkedBools.of q1' s1, k2⟩, M2⟩
theorem heldFabStep_R {km : Int} (h : MkFabStep w (.slice a1 n1 c1) (.slice a2 n2 c2) km) :
    Calls Try.prog 50 #[.agg #[.slice a1 n1 c1, .slice a2 n2 c2], .int .i64 1] w fun e w' => e = .returned (.int .i64 km) ∧ Ext w w' := by
  obtain ⟨m1, m2, rfl, k1, k2⟩ := h
  have s1 := k1.small
  have s2 := k2.small
  obtain ⟨⟨_, _, e2, r2⟩, _⟩ := k2
  cases e2
  have y := Blk.at w [.slice a1 n1 c1, .slice a2 n2 c2] 65 rfl
  go_enter Try.func50, Try.ntmps50
  go_wp2_with fail
  refine (heldBools_k (k1.ext (by (repeat (first | with_reducible assumption | with_reducible exact Ext.refl _ | with_reducible refine Ext.drew' ?_ | with_reducible refine Ext.drewN' ?_ _ | with_reducible refine Ext.alloc ?_ _ | (with_reducible refine Ext.setNew ?_ (by first | exact Nat.le_refl _ | (simp; done) | (simp; omega) | omega) _))))) (by omega) (by omega)).mono ?_
  rintro e w1 ⟨rfl, rfl⟩
  go_wp2_with fail
  refine (heldFabricState_c _ _ _ _ _ (r2.ext (by (repeat (first | with_reducible assumption | with_reducible exact Ext.refl _ | with_reducible refine Ext.drew' ?_ | with_reducible refine Ext.drewN' ?_ _ | with_reducible refine Ext.alloc ?_ _ | (with_reducible refine Ext.setNew ?_ (by first | exact Nat.le_refl _ | (simp; done) | (simp; omega) | omega) _))))) (by omega) (by omega) s2).mono ?_
  rintro e w2 ⟨rfl, hE2⟩
  go_wp2
  go_ret
  exact ⟨rfl, Ext.trans (a := w) (by (repeat (first | with_reducible assumption | with_reducible exact Ext.refl _ | with_reducible refine Ext.drew' ?_ | with_reducible refine Ext.drewN' ?_ _ | with_reducible refine Ext.alloc ?_ _ | (with_reducible refine Ext.setNew ?_ (by first | exact Nat.le_refl _ | (simp; done) | (simp; omega) | omega) _)))) hE2⟩
end
end Go.Proofs.Ytkdiniaddnhkdaa

namespace Go.Proofs.Ytkdiniaddnhkdaa
open Go.RowKit
set_option maxRecDepth 100000
set_option linter.unusedVariables false
set_option linter.unusedSimpArgs false
noncomputable def stepV (k : Conf) (regs ins : List Bool) : List Bool × List Bool := if acyV k = true ∧ regs.length = 25 ∧ ins.length ≤ 4 then (outsV k regs ins 3, nextV k regs ins 25) else ([], [])
set_option maxHeartbeats 4000000 in
theorem specStepFabric_c (k : Conf) (ta pa ra ia : Option Addr) (tc pc rc ic : Nat) (regs ins : List Bool) (w : World) (hF : FabAt w k ta pa ra regs ia ins) (rl : regs.length ≤ 1048576) (il : ins.length ≤ 1048576) :
    Calls Try.prog 40 #[.agg #[.slice ta k.ts.length tc, .slice pa k.ps.length pc], .agg #[.slice ra regs.length rc], .slice ia ins.length ic] w (GiveF w (stepV k regs ins).1 (stepV k regs ins).2) := by
  have T1 := Lib.hid (specConfigAcyclic_c k ta pa tc pc)
  have y := ((Blk.at w [.slice ta k.ts.length tc, .slice pa k.ps.length pc] 25 rfl).alloc (.cells #[.slice ra regs.length rc] 63)).alloc (.cells #[.slice none 0 0, .slice none 0 0] 65)
  have s := (Blk.at (w.alloc (.cells #[.slice ta k.ts.length tc, .slice pa k.ps.length pc] 25)) [.slice ra regs.length rc] 63 (B := w.heap.size + 1) (by simp)).alloc (.cells #[.slice none 0 0, .slice none 0 0] 65)
  have r := Blk.at ((w.alloc (.cells #[.slice ta k.ts.length tc, .slice pa k.ps.length pc] 25)).alloc (.cells #[.slice ra regs.length rc] 63)) [.slice none 0 0, .slice none 0 0] 65 (B := w.heap.size + 1 + 1) (by simp)
  have E0 : Ext w (((w.alloc (.cells #[.slice ta k.ts.length tc, .slice pa k.ps.length pc] 25)).alloc (.cells #[.slice ra regs.length rc] 63)).alloc (.cells #[.slice none 0 0, .slice none 0 0] 65)) := by (repeat (first | with_reducible assumption | with_reducible exact Ext.refl _ | with_reducible refine Ext.drew' ?_ | with_reducible refine Ext.drewN' ?_ _ | with_reducible refine Ext.alloc ?_ _ | (with_reducible refine Ext.setNew ?_ (by first | exact Nat.le_refl _ | (simp; done) | (simp; omega) | omega) _)))
  cases ha : acyV k
  · have hsv : stepV k regs ins = ([], []) := by unfold stepV; rw [if_neg (by rw [ha]; simp)]
    rw [hsv]
    rw [ha] at T1
    clear hsv ha
    go_enter Try.func40, Try.ntmps40
    go_wp2_with fail
    refine (T1.out _ (hF.k.ext E0)).mono ?_
    rintro e w1 ⟨rfl, hE1⟩
    have r1 := r.ext hE1
    have E1 := E0.trans hE1
    have u0 := r1.cell (i := 0) rfl
    have u1 := r1.cell (i := 1) rfl
    have ul := r1.lt
    have fz := fun i => r1.frozen i
    go_wp2
    refine bodyPost_ret (v := .agg #[.slice none 0 0, .slice none 0 0]) (by simp [results, Try.results40, go_sem, u0, u1]) rfl ?_
    exact ⟨_, _, rfl, OwnB.nil, OwnB.nil, fun q hq => (by cases hq), Ext.setNew (Ext.setNew E1 (by simp; omega) _) (by simp; omega) _⟩
  rw [ha] at T1
  by_cases hr : regs.length = 25
  · obtain ⟨hr1, hr2⟩ : 25 ≤ regs.length ∧ regs.length ≤ 25 := by omega
    by_cases hil : ins.length ≤ 4
    · have hsv : stepV k regs ins = (outsV k regs ins 3, nextV k regs ins 25) := by unfold stepV; rw [if_pos ⟨ha, hr, hil⟩]
      have hok := acy_ok ha
      have hf : ∀ x : Wire, x.Ok → ∃ n, FinN k n x := fun x hx => acy_fin ha hx
      rw [hsv]
      have hne : ((regs.length : Int) != 25) = false := by simp; omega
      have hge : ¬ (4 : Int) < (ins.length : Int) := by omega
      have hre : ((ins.length : Int) > 4) = False := by simp; omega
      obtain ⟨O, HO⟩ : ∃ O, Hid (O = outsV k regs ins 3) := ⟨_, Lib.hid rfl⟩
      obtain ⟨N, HN⟩ : ∃ N, Hid (N = nextV k regs ins 25) := ⟨_, Lib.hid rfl⟩
      rw [← HO.out, ← HN.out]
      clear hsv ha hr hre
      go_enter Try.func40, Try.ntmps40
      go_wp2_with fail
      refine (T1.out _ (hF.k.ext E0)).mono ?_
      rintro e w1 ⟨rfl, hE1⟩
      have y1 := y.ext hE1
      have s1 := s.ext hE1
      have r1 := r.ext hE1
      have E1 := E0.trans hE1
      have c0 := y1.cell (i := 0) rfl
      have c1 := y1.cell (i := 1) rfl
      have c2 := s1.cell (i := 0) rfl
      have yl := y1.lt
      have sl := s1.lt
      go_wp2_with fail
      refine (l10Step_c k ta pa ra ia tc pc rc ic regs ins hok hf ⟨hr1, hr2⟩ hil _ (hF.ext E1)).mono ?_
      rw [← HO.out, ← HN.out]
      rintro e w2 ⟨ov, rv, rfl, hO, hN, hd, hE2⟩
      obtain ⟨oa, oc, rfl, _⟩ := hO.len
      obtain ⟨na, nc, rfl, _⟩ := hN.len
      have r2 := r1.ext hE2
      have u0 := r2.cell (i := 0) rfl
      have u1 := r2.cell (i := 1) rfl
      have ul := r2.lt
      have fz := fun i => r2.frozen i
      have E2 := E1.trans hE2
      have hz := hE1.size
      simp at hz
      have HO2 := Lib.hid hO
      have HN2 := Lib.hid hN
      clear hO hN
      go_wp2
      refine bodyPost_ret (v := .agg #[.slice oa O.length oc, .slice na N.length nc]) (by simp [results, Try.results40, go_sem, u0, u1]) rfl ?_
      have e1 : ∀ q, (Value.slice oa O.length oc).ownBlock = some q → q ≠ w.heap.size + 1 + 1 := fun q hq => by have := (HO2.out.lt' q hq).1; omega
      have e2 : ∀ q, (Value.slice na N.length nc).ownBlock = some q → q ≠ w.heap.size + 1 + 1 := fun q hq => by have := (HN2.out.lt' q hq).1; omega
      refine ⟨_, _, rfl, ?_, ?_, hd, Ext.setNew (Ext.setNew E2 (by simp; omega) _) (by simp; omega) _⟩
      · exact (OwnB.setOther (OwnB.setOther HO2.out (fun q => e1 _ q rfl) _) (fun q => e1 _ q rfl) _).le (by omega)
      · exact (OwnB.setOther (OwnB.setOther HN2.out (fun q => e2 _ q rfl) _) (fun q => e2 _ q rfl) _).le (by omega)
    · have hsv : stepV k regs ins = ([], []) := by unfold stepV; rw [if_neg (fun h => hil h.2.2)]
      rw [hsv]
      have hne : ((regs.length : Int) != 25) = false := by simp; omega
      have hgt : (4 : Int) < (ins.length : Int) := by omega
      clear hsv ha hr
      go_enter Try.func40, Try.ntmps40
      go_wp2_with fail
      refine (T1.out _ (hF.k.ext E0)).mono ?_
      rintro e w1 ⟨rfl, hE1⟩
      have r1 := r.ext hE1
      have s1 := s.ext hE1
      have c2 := s1.cell (i := 0) rfl
      have sl := s1.lt
      have E1 := E0.trans hE1
      have u0 := r1.cell (i := 0) rfl
      have u1 := r1.cell (i := 1) rfl
      have ul := r1.lt
      have fz := fun i => r1.frozen i
      go_wp2
      refine bodyPost_ret (v := .agg #[.slice none 0 0, .slice none 0 0]) (by simp [results, Try.results40, go_sem, u0, u1]) rfl ?_
      exact ⟨_, _, rfl, OwnB.nil, OwnB.nil, fun q hq => (by cases hq), Ext.setNew (Ext.setNew E1 (by simp; omega) _) (by simp; omega) _⟩
  · have hsv : stepV k regs ins = ([], []) := by unfold stepV; rw [if_neg (fun h => hr h.2.1)]
    rw [hsv]
    have hne : ((regs.length : Int) != 25) = true := by simp; omega
    clear hsv ha
    go_enter Try.func40, Try.ntmps40
    go_wp2_with fail
    refine (T1.out _ (hF.k.ext E0)).mono ?_
    rintro e w1 ⟨rfl, hE1⟩
    have r1 := r.ext hE1
    have s1 := s.ext hE1
    have c2 := s1.cell (i := 0) rfl
    have sl := s1.lt
    have E1 := E0.trans hE1
    have u0 := r1.cell (i := 0) rfl
    have u1 := r1.cell (i := 1) rfl
    have ul := r1.lt
    have fz := fun i => r1.frozen i
    go_wp2
    refine bodyPost_ret (v := .agg #[.slice none 0 0, .slice none 0 0]) (by simp [results, Try.results40, go_sem, u0, u1]) rfl ?_
    exact ⟨_, _, rfl, OwnB.nil, OwnB.nil, fun q hq => (by cases hq), Ext.setNew (Ext.setNew E1 (by simp; omega) _) (by simp; omega) _⟩
set_option maxHeartbeats 4000000 in
theorem implStepFabric_c (k : Conf) (ta pa ra ia : Option Addr) (tc pc rc ic : Nat) (regs ins : List Bool) (w : World) (hF : FabAt w k ta pa ra regs ia ins) (rl : regs.length ≤ 1048576) (il : ins.length ≤ 1048576) :
    Calls Try.prog 43 #[.agg #[.slice ta k.ts.length tc, .slice pa k.ps.length pc], .agg #[.slice ra regs.length rc], .slice ia ins.length ic] w (GiveF w (stepV k regs ins).1 (stepV k regs ins).2) := by
  have T1 := Lib.hid (implConfigAcyclic_c k ta pa tc pc)
  have y := ((Blk.at w [.slice ta k.ts.length tc, .slice pa k.ps.length pc] 25 rfl).alloc (.cells #[.slice ra regs.length rc] 63)).alloc (.cells #[.slice none 0 0, .slice none 0 0] 65)
  have s := (Blk.at (w.alloc (.cells #[.slice ta k.ts.length tc, .slice pa k.ps.length pc] 25)) [.slice ra regs.length rc] 63 (B := w.heap.size + 1) (by simp)).alloc (.cells #[.slice none 0 0, .slice none 0 0] 65)
  have r := Blk.at ((w.alloc (.cells #[.slice ta k.ts.length tc, .slice pa k.ps.length pc] 25)).alloc (.cells #[.slice ra regs.length rc] 63)) [.slice none 0 0, .slice none 0 0] 65 (B := w.heap.size + 1 + 1) (by simp)
  have E0 : Ext w (((w.alloc (.cells #[.slice ta k.ts.length tc, .slice pa k.ps.length pc] 25)).alloc (.cells #[.slice ra regs.length rc] 63)).alloc (.cells #[.slice none 0 0, .slice none 0 0] 65)) := by (repeat (first | with_reducible assumption | with_reducible exact Ext.refl _ | with_reducible refine Ext.drew' ?_ | with_reducible refine Ext.drewN' ?_ _ | with_reducible refine Ext.alloc ?_ _ | (with_reducible refine Ext.setNew ?_ (by first | exact Nat.le_refl _ | (simp; done) | (simp; omega) | omega) _)))
  cases ha : acyV k
  · have hsv : stepV k regs ins = ([], []) := by unfold stepV; rw [if_neg (by rw [ha]; simp)]
    rw [hsv]
    rw [ha] at T1
    clear hsv ha
    go_enter Try.func43, Try.ntmps43
    go_wp2_with fail
    refine (T1.out _ (hF.k.ext E0)).mono ?_
    rintro e w1 ⟨rfl, hE1⟩
    have r1 := r.ext hE1
    have E1 := E0.trans hE1
    have u0 := r1.cell (i := 0) rfl
    have u1 := r1.cell (i := 1) rfl
    have ul := r1.lt
    have fz := fun i => r1.frozen i
    go_wp2
    refine bodyPost_ret (v := .agg #[.slice none 0 0, .slice none 0 0]) (by simp [results, Try.results43, go_sem, u0, u1]) rfl ?_
    exact ⟨_, _, rfl, OwnB.nil, OwnB.nil, fun q hq => (by cases hq), Ext.setNew (Ext.setNew E1 (by simp; omega) _) (by simp; omega) _⟩
  rw [ha] at T1
  by_cases hr : regs.length = 25
  · obtain ⟨hr1, hr2⟩ : 25 ≤ regs.length ∧ regs.length ≤ 25 := by omega
    by_cases hil : ins.length ≤ 4
    · have hsv : stepV k regs ins = (outsV k regs ins 3, nextV k regs ins 25) := by unfold stepV; rw [if_pos ⟨ha, hr, hil⟩]
      have hok := acy_ok ha
      have hf : ∀ x : Wire, x.Ok → ∃ n, FinN k n x := fun x hx => acy_fin ha hx
      rw [hsv]
      have hne : ((regs.length : Int) != 25) = false := by simp; omega
      have hge : ¬ (4 : Int) < (ins.length : Int) := by omega
      have hre : ((ins.length : Int) > 4) = False := by simp; omega
      obtain ⟨O, HO⟩ : ∃ O, Hid (O = outsV k regs ins 3) := ⟨_, Lib.hid rfl⟩
      obtain ⟨N, HN⟩ : ∃ N, Hid (N = nextV k regs ins 25) := ⟨_, Lib.hid rfl⟩
      rw [← HO.out, ← HN.out]
      clear hsv ha hr hre
      go_enter Try.func43, Try.ntmps43
      go_wp2_with fail
      refine (T1.out _ (hF.k.ext E0)).mono ?_
      rintro e w1 ⟨rfl, hE1⟩
      have y1 := y.ext hE1
      have s1 := s.ext hE1
      have r1 := r.ext hE1
      have E1 := E0.trans hE1
      have c0 := y1.cell (i := 0) rfl
      have c1 := y1.cell (i := 1) rfl
      have c2 := s1.cell (i := 0) rfl
      have yl := y1.lt
      have sl := s1.lt
      go_wp2_with fail
      refine (stepFabric_c k ta pa ra ia tc pc rc ic w.heap.size regs ins hok hf ⟨hr1, hr2⟩ hil _ (hF.ext E1) y1).mono ?_
      rw [← HO.out, ← HN.out]
      rintro e w2 ⟨ov, rv, rfl, hO, hN, hd, hE2⟩
      obtain ⟨oa, oc, rfl, _⟩ := hO.len
      obtain ⟨na, nc, rfl, _⟩ := hN.len
      have r2 := r1.ext hE2
      have u0 := r2.cell (i := 0) rfl
      have u1 := r2.cell (i := 1) rfl
      have ul := r2.lt
      have fz := fun i => r2.frozen i
      have E2 := E1.trans hE2
      have hz := hE1.size
      simp at hz
      have HO2 := Lib.hid hO
      have HN2 := Lib.hid hN
      clear hO hN
      go_wp2
      refine bodyPost_ret (v := .agg #[.slice oa O.length oc, .slice na N.length nc]) (by simp [results, Try.results43, go_sem, u0, u1]) rfl ?_
      have e1 : ∀ q, (Value.slice oa O.length oc).ownBlock = some q → q ≠ w.heap.size + 1 + 1 := fun q hq => by have := (HO2.out.lt' q hq).1; omega
      have e2 : ∀ q, (Value.slice na N.length nc).ownBlock = some q → q ≠ w.heap.size + 1 + 1 := fun q hq => by have := (HN2.out.lt' q hq).1; omega
      refine ⟨_, _, rfl, ?_, ?_, hd, Ext.setNew (Ext.setNew E2 (by simp; omega) _) (by simp; omega) _⟩
      · exact (OwnB.setOther (OwnB.setOther HO2.out (fun q => e1 _ q rfl) _) (fun q => e1 _ q rfl) _).le (by omega)
      · exact (OwnB.setOther (OwnB.setOther HN2.out (fun q => e2 _ q rfl) _) (fun q => e2 _ q rfl) _).le (by omega)
    · have hsv : stepV k regs ins = ([], []) := by unfold stepV; rw [if_neg (fun h => hil h.2.2)]
      rw [hsv]
      have hne : ((regs.length : Int) != 25) = false := by simp; omega
      have hgt : (4 : Int) < (ins.length : Int) := by omega
      clear hsv ha hr
      go_enter Try.func43, Try.ntmps43
      go_wp2_with fail
      refine (T1.out _ (hF.k.ext E0)).mono ?_
      rintro e w1 ⟨rfl, hE1⟩
      have r1 := r.ext hE1
      have s1 := s.ext hE1
      have c2 := s1.cell (i := 0) rfl
      have sl := s1.lt
      have E1 := E0.trans hE1
      have u0 := r1.cell (i := 0) rfl
      have u1 := r1.cell (i := 1) rfl
      have ul := r1.lt
      have fz := fun i => r1.frozen i
      go_wp2
      refine bodyPost_ret (v := .agg #[.slice none 0 0, .slice none 0 0]) (by simp [results, Try.results43, go_sem, u0, u1]) rfl ?_
      exact ⟨_, _, rfl, OwnB.nil, OwnB.nil, fun q hq => (by cases hq), Ext.setNew (Ext.setNew E1 (by simp; omega) _) (by simp; omega) _⟩
  · have hsv : stepV k regs ins = ([], []) := by unfold stepV; rw [if_neg (fun h => hr h.2.1)]
    rw [hsv]
    have hne : ((regs.length : Int) != 25) = true := by simp; omega
    clear hsv ha
    go_enter Try.func43, Try.ntmps43
    go_wp2_with fail
    refine (T1.out _ (hF.k.ext E0)).mono ?_
    rintro e w1 ⟨rfl, hE1⟩
    have r1 := r.ext hE1
    have s1 := s.ext hE1
    have c2 := s1.cell (i := 0) rfl
    have sl := s1.lt
    have E1 := E0.trans hE1
    have u0 := r1.cell (i := 0) rfl
    have u1 := r1.cell (i := 1) rfl
    have ul := r1.lt
    have fz := fun i => r1.frozen i
    go_wp2
    refine bodyPost_ret (v := .agg #[.slice none 0 0, .slice none 0 0]) (by simp [results, Try.results43, go_sem, u0, u1]) rfl ?_
    exact ⟨_, _, rfl, OwnB.nil, OwnB.nil, fun q hq => (by cases hq), Ext.setNew (Ext.setNew E1 (by simp; omega) _) (by simp; omega) _⟩
end Go.Proofs.Ytkdiniaddnhkdaa

namespace Go.Proofs.Ytkdiniaddnhkdaa
open Go.ChangeShapes Go.WideShapes Go.ChangeAt Go.RowKit
set_option maxRecDepth 100000
set_option linter.unusedVariables false
set_option linter.unusedSimpArgs false
theorem stepV_small (k : Conf) (regs ins : List Bool) : SmallF (stepV k regs ins) := by
  unfold stepV
  split
  · exact ⟨by simp [outsV], by simp [nextV]⟩
  · exact ⟨by simp, by simp⟩
set_option maxHeartbeats 8000000 in
theorem fnExactStepFabric_walk (f0 : Conf) (ta0 : Option Addr) (tc0 : Nat) (pa0 : Option Addr) (pc0 : Nat) (a1 : Option Addr) (cap1 : Nat) (z1 : List Bool) (a2 : Option Addr) (cap2 : Nat) (z2 : List Bool) (w : World) (w0 : ConfIn w f0 ta0 tc0 pa0 pc0) (w1 : BoolsIn w a1 cap1 z1) (w2 : BoolsIn w a2 cap2 z2) :
    Calls Try.prog 9 #[.agg #[.slice ta0 f0.ts.length tc0, .slice pa0 f0.ps.length pc0], .agg #[.slice a1 z1.length cap1], .slice a2 z2.length cap2] w fun e w' => e = .returned (.bool true) ∧ Below w.heap.size w w' := by
  have hc2 := w2.le
  have hd2 := w2.cap
  unfold maxLen at hd2
  by_cases hb2 : (1048576 : Int) < (z2.length : Int)
  · go_enter Try.func9, Try.ntmps9
    go_wp2
    go_ret
    exact ⟨rfl, (show Ext w _ by (repeat (first | with_reducible assumption | with_reducible exact Ext.refl _ | with_reducible refine Ext.drew' ?_ | with_reducible refine Ext.drewN' ?_ _ | with_reducible refine Ext.alloc ?_ _ | (with_reducible refine Ext.setNew ?_ (by first | exact Nat.le_refl _ | (simp; done) | (simp; omega) | omega) _))))⟩
  replace hb2 : z2.length ≤ 1048576 := by omega
  have E := Ext.refl w
  have y0 := ((Blk.at w [.slice ta0 f0.ts.length tc0, .slice pa0 f0.ps.length pc0] 33 (B := w.heap.size) (by simp)).ext ((Ext.refl _).alloc (.cells #[.slice a1 z1.length cap1] 61)))
  have y1 := (Blk.at (w.alloc (.cells #[.slice ta0 f0.ts.length tc0, .slice pa0 f0.ps.length pc0] 33)) [.slice a1 z1.length cap1] 61 (B := w.heap.size + 1) (by simp))
  by_cases hz0 : szK f0 (1048576) < 0
  · go_enter Try.func9, Try.ntmps9
    go_wp2_with fail
    refine (szConfig_c f0 ta0 pa0 tc0 pc0 _ _ (w0.ext (Ext.trans E (by (repeat (first | with_reducible assumption | with_reducible exact Ext.refl _ | with_reducible refine Ext.drew' ?_ | with_reducible refine Ext.drewN' ?_ _ | with_reducible refine Ext.alloc ?_ _ | (with_reducible refine Ext.setNew ?_ (by first | exact Nat.le_refl _ | (simp; done) | (simp; omega) | omega) _)))))) (by omega) (by omega)).mono ?_
    rintro e s1 ⟨rfl, hE⟩
    replace E := Ext.trans E (Ext.trans (by (repeat (first | with_reducible assumption | with_reducible exact Ext.refl _ | with_reducible refine Ext.drew' ?_ | with_reducible refine Ext.drewN' ?_ _ | with_reducible refine Ext.alloc ?_ _ | (with_reducible refine Ext.setNew ?_ (by first | exact Nat.le_refl _ | (simp; done) | (simp; omega) | omega) _)))) hE)
    replace y0 := y0.ext (Ext.trans (by (repeat (first | with_reducible assumption | with_reducible exact Ext.refl _ | with_reducible refine Ext.drew' ?_ | with_reducible refine Ext.drewN' ?_ _ | with_reducible refine Ext.alloc ?_ _ | (with_reducible refine Ext.setNew ?_ (by first | exact Nat.le_refl _ | (simp; done) | (simp; omega) | omega) _)))) hE)
    replace y1 := y1.ext (Ext.trans (by (repeat (first | with_reducible assumption | with_reducible exact Ext.refl _ | with_reducible refine Ext.drew' ?_ | with_reducible refine Ext.drewN' ?_ _ | with_reducible refine Ext.alloc ?_ _ | (with_reducible refine Ext.setNew ?_ (by first | exact Nat.le_refl _ | (simp; done) | (simp; omega) | omega) _)))) hE)
    clear hE
    go_wp2
    go_ret
    exact ⟨rfl, E⟩
  obtain ⟨hs0, hzz0, hzy0⟩ := szK_small hz0 (by omega)
  by_cases hz1 : szL z1.length (szK f0 (1048576)) < 0
  · go_enter Try.func9, Try.ntmps9
    go_wp2_with fail
    refine (szConfig_c f0 ta0 pa0 tc0 pc0 _ _ (w0.ext (Ext.trans E (by (repeat (first | with_reducible assumption | with_reducible exact Ext.refl _ | with_reducible refine Ext.drew' ?_ | with_reducible refine Ext.drewN' ?_ _ | with_reducible refine Ext.alloc ?_ _ | (with_reducible refine Ext.setNew ?_ (by first | exact Nat.le_refl _ | (simp; done) | (simp; omega) | omega) _)))))) (by omega) (by omega)).mono ?_
    rintro e s1 ⟨rfl, hE⟩
    replace E := Ext.trans E (Ext.trans (by (repeat (first | with_reducible assumption | with_reducible exact Ext.refl _ | with_reducible refine Ext.drew' ?_ | with_reducible refine Ext.drewN' ?_ _ | with_reducible refine Ext.alloc ?_ _ | (with_reducible refine Ext.setNew ?_ (by first | exact Nat.le_refl _ | (simp; done) | (simp; omega) | omega) _)))) hE)
    replace y0 := y0.ext (Ext.trans (by (repeat (first | with_reducible assumption | with_reducible exact Ext.refl _ | with_reducible refine Ext.drew' ?_ | with_reducible refine Ext.drewN' ?_ _ | with_reducible refine Ext.alloc ?_ _ | (with_reducible refine Ext.setNew ?_ (by first | exact Nat.le_refl _ | (simp; done) | (simp; omega) | omega) _)))) hE)
    replace y1 := y1.ext (Ext.trans (by (repeat (first | with_reducible assumption | with_reducible exact Ext.refl _ | with_reducible refine Ext.drew' ?_ | with_reducible refine Ext.drewN' ?_ _ | with_reducible refine Ext.alloc ?_ _ | (with_reducible refine Ext.setNew ?_ (by first | exact Nat.le_refl _ | (simp; done) | (simp; omega) | omega) _)))) hE)
    clear hE
    have y1l := y1.lt
    have y10 := y1.cell (i := 0) rfl
    go_wp2_with fail
    refine (szFabricState_c a1 cap1 z1.length _ _ (Nat.le_trans w1.le w1.cap) (by omega) (by omega)).mono ?_
    rintro e s2 ⟨rfl, hE⟩
    clear y1l y10
    replace E := Ext.trans E (Ext.trans (by (repeat (first | with_reducible assumption | with_reducible exact Ext.refl _ | with_reducible refine Ext.drew' ?_ | with_reducible refine Ext.drewN' ?_ _ | with_reducible refine Ext.alloc ?_ _ | (with_reducible refine Ext.setNew ?_ (by first | exact Nat.le_refl _ | (simp; done) | (simp; omega) | omega) _)))) hE)
    replace y0 := y0.ext (Ext.trans (by (repeat (first | with_reducible assumption | with_reducible exact Ext.refl _ | with_reducible refine Ext.drew' ?_ | with_reducible refine Ext.drewN' ?_ _ | with_reducible refine Ext.alloc ?_ _ | (with_reducible refine Ext.setNew ?_ (by first | exact Nat.le_refl _ | (simp; done) | (simp; omega) | omega) _)))) hE)
    replace y1 := y1.ext (Ext.trans (by (repeat (first | with_reducible assumption | with_reducible exact Ext.refl _ | with_reducible refine Ext.drew' ?_ | with_reducible refine Ext.drewN' ?_ _ | with_reducible refine Ext.alloc ?_ _ | (with_reducible refine Ext.setNew ?_ (by first | exact Nat.le_refl _ | (simp; done) | (simp; omega) | omega) _)))) hE)
    clear hE
    go_wp2
    go_ret
    exact ⟨rfl, E⟩
  have hzz1 := szL_ok hz1
  have hC0 : ConfAt w f0 ta0 pa0 := ⟨w0.ts, w0.ps, hs0.lt, hs0.lp, hs0.ls⟩
  have hC1 := w1.at_
  have hs1 : z1.length ≤ 1048576 := by omega
  have hsm := stepV_small f0 z1 z2
  obtain ⟨V, HV⟩ : ∃ V, Hid (V = (stepV f0 z1 z2)) := ⟨_, Lib.hid rfl⟩
  rw [← HV.out] at hsm
  go_enter Try.func9, Try.ntmps9
  go_wp2_with fail
  refine (szConfig_c f0 ta0 pa0 tc0 pc0 _ _ (w0.ext (Ext.trans E (by (repeat (first | with_reducible assumption | with_reducible exact Ext.refl _ | with_reducible refine Ext.drew' ?_ | with_reducible refine Ext.drewN' ?_ _ | with_reducible refine Ext.alloc ?_ _ | (with_reducible refine Ext.setNew ?_ (by first | exact Nat.le_refl _ | (simp; done) | (simp; omega) | omega) _)))))) (by omega) (by omega)).mono ?_
  rintro e s1 ⟨rfl, hE⟩
  replace E := Ext.trans E (Ext.trans (by (repeat (first | with_reducible assumption | with_reducible exact Ext.refl _ | with_reducible refine Ext.drew' ?_ | with_reducible refine Ext.drewN' ?_ _ | with_reducible refine Ext.alloc ?_ _ | (with_reducible refine Ext.setNew ?_ (by first | exact Nat.le_refl _ | (simp; done) | (simp; omega) | omega) _)))) hE)
  replace y0 := y0.ext (Ext.trans (by (repeat (first | with_reducible assumption | with_reducible exact Ext.refl _ | with_reducible refine Ext.drew' ?_ | with_reducible refine Ext.drewN' ?_ _ | with_reducible refine Ext.alloc ?_ _ | (with_reducible refine Ext.setNew ?_ (by first | exact Nat.le_refl _ | (simp; done) | (simp; omega) | omega) _)))) hE)
  replace y1 := y1.ext (Ext.trans (by (repeat (first | with_reducible assumption | with_reducible exact Ext.refl _ | with_reducible refine Ext.drew' ?_ | with_reducible refine Ext.drewN' ?_ _ | with_reducible refine Ext.alloc ?_ _ | (with_reducible refine Ext.setNew ?_ (by first | exact Nat.le_refl _ | (simp; done) | (simp; omega) | omega) _)))) hE)
  clear hE
  have y1l := y1.lt
  have y10 := y1.cell (i := 0) rfl
  go_wp2_with fail
  refine (szFabricState_c a1 cap1 z1.length _ _ (Nat.le_trans w1.le w1.cap) (by omega) (by omega)).mono ?_
  rintro e s2 ⟨rfl, hE⟩
  clear y1l y10
  replace E := Ext.trans E (Ext.trans (by (repeat (first | with_reducible assumption | with_reducible exact Ext.refl _ | with_reducible refine Ext.drew' ?_ | with_reducible refine Ext.drewN' ?_ _ | with_reducible refine Ext.alloc ?_ _ | (with_reducible refine Ext.setNew ?_ (by first | exact Nat.le_refl _ | (simp; done) | (simp; omega) | omega) _)))) hE)
  replace y0 := y0.ext (Ext.trans (by (repeat (first | with_reducible assumption | with_reducible exact Ext.refl _ | with_reducible refine Ext.drew' ?_ | with_reducible refine Ext.drewN' ?_ _ | with_reducible refine Ext.alloc ?_ _ | (with_reducible refine Ext.setNew ?_ (by first | exact Nat.le_refl _ | (simp; done) | (simp; omega) | omega) _)))) hE)
  replace y1 := y1.ext (Ext.trans (by (repeat (first | with_reducible assumption | with_reducible exact Ext.refl _ | with_reducible refine Ext.drew' ?_ | with_reducible refine Ext.drewN' ?_ _ | with_reducible refine Ext.alloc ?_ _ | (with_reducible refine Ext.setNew ?_ (by first | exact Nat.le_refl _ | (simp; done) | (simp; omega) | omega) _)))) hE)
  clear hE
  have y0l := y0.lt
  have y00 := y0.cell (i := 0) rfl
  have y01 := y0.cell (i := 1) rfl
  have y1l := y1.lt
  have y10 := y1.cell (i := 0) rfl
  go_upto_region 10 with fail
  go_cut [8] (fun sx wx => ∃ (Bx bx Nx : Nat) (ar0 : Option Addr) (nr0 cr0 : Nat) (ar1 : Option Addr) (nr1 cr1 : Nat), sx = .pointer (some ⟨Bx, 0, none⟩) ∧ RepFabStep wx bx Nx (.slice ar0 nr0 cr0) (.slice ar1 nr1 cr1) V ∧ Blk wx Bx 65 [.slice ar0 nr0 cr0, .slice ar1 nr1 cr1] ∧ s2.heap.size ≤ Bx ∧ Ext s2 wx)
  case first =>
    go_region_held3 ((fun w' => (∀ b o, b < s2.heap.size → w'.cell? ⟨b, o, none⟩ = s2.cell? ⟨b, o, none⟩) ∧ Ext s2 w')) (first | (first | assumption | (with_reducible exact held_mk (Ext.drew s2)) | (with_reducible exact held_mk (((Ext.refl s2).alloc _).drew')) | (with_reducible exact held_mk ((Ext.drew s2).alloc _))) | exact held_mk (by (repeat (first | with_reducible assumption | with_reducible exact Ext.refl _ | with_reducible refine Ext.drew' ?_ | with_reducible refine Ext.drewN' ?_ _ | with_reducible refine Ext.alloc ?_ _ | (with_reducible refine Ext.setNew ?_ (by first | exact Nat.le_refl _ | (simp; done) | (simp; omega) | omega) _))))) (first | (go_simp; go_at_call 40; have hguard := hK3; refine (specStepFabric_c f0 _ _ _ _ _ _ _ _ z1 z2 _ ⟨(t0.ext (by (repeat (first | with_reducible assumption | with_reducible exact Ext.refl _ | with_reducible refine Ext.drew' ?_ | with_reducible refine Ext.drewN' ?_ _ | with_reducible refine Ext.alloc ?_ _ | (with_reducible refine Ext.setNew ?_ (by first | exact Nat.le_refl _ | (simp; done) | (simp; omega) | omega) _))))).at_, (t1.ext (by (repeat (first | with_reducible assumption | with_reducible exact Ext.refl _ | with_reducible refine Ext.drew' ?_ | with_reducible refine Ext.drewN' ?_ _ | with_reducible refine Ext.alloc ?_ _ | (with_reducible refine Ext.setNew ?_ (by first | exact Nat.le_refl _ | (simp; done) | (simp; omega) | omega) _))))).bools, (t2.ext (by (repeat (first | with_reducible assumption | with_reducible exact Ext.refl _ | with_reducible refine Ext.drew' ?_ | with_reducible refine Ext.drewN' ?_ _ | with_reducible refine Ext.alloc ?_ _ | (with_reducible refine Ext.setNew ?_ (by first | exact Nat.le_refl _ | (simp; done) | (simp; omega) | omega) _))))).bools⟩ hs1 hb2).mono ?_; rw [← HV.out]; rintro e s6 hh; obtain ⟨ar0, nr0, cr0, ar1, nr1, cr1, rfl, r, hQ4⟩ := GiveFabStep.rep' hh; have hX4 : Ext s2 s6 := Ext.trans (by (repeat (first | with_reducible assumption | with_reducible exact Ext.refl _ | with_reducible refine Ext.drew' ?_ | with_reducible refine Ext.drewN' ?_ _ | with_reducible refine Ext.alloc ?_ _ | (with_reducible refine Ext.setNew ?_ (by first | exact Nat.le_refl _ | (simp; done) | (simp; omega) | omega) _)))) hQ4; have hK4 := held_mk hX4; have hZ4 := hX4.size; (first | (have kb := (Blk.at (World.drew s2) [.slice none 0 0, .slice none 0 0] 65 (B := s2.heap.size) rfl).ext hQ4) | (have kb := (Blk.at _ [.slice none 0 0, .slice none 0 0] 65 rfl).ext hQ4) | (replace kb := kb.ext hQ4) | skip); (first | (have kb0 := kb.cell (i := 0) rfl; have kb1 := kb.cell (i := 1) rfl; have kbf := fun i => kb.frozen i) | skip)) | (go_simp; go_at_call 42; have hguard := hK2; refine (toBoolS_c _ _ z2 _ (w2.at_.ext (Ext.trans E (by (repeat (first | with_reducible assumption | with_reducible exact Ext.refl _ | with_reducible refine Ext.drew' ?_ | with_reducible refine Ext.drewN' ?_ _ | with_reducible refine Ext.alloc ?_ _ | (with_reducible refine Ext.setNew ?_ (by first | exact Nat.le_refl _ | (simp; done) | (simp; omega) | omega) _)))))) hb2).mono ?_; rintro e s5 ⟨Bt2, rfl, t2b, t2, hQ3⟩; have hX3 : Ext s2 s5 := Ext.trans (by (repeat (first | with_reducible assumption | with_reducible exact Ext.refl _ | with_reducible refine Ext.drew' ?_ | with_reducible refine Ext.drewN' ?_ _ | with_reducible refine Ext.alloc ?_ _ | (with_reducible refine Ext.setNew ?_ (by first | exact Nat.le_refl _ | (simp; done) | (simp; omega) | omega) _)))) hQ3; have hK3 := held_mk hX3; have hZ3 := hX3.size; (first | (have kb := (Blk.at (World.drew s2) [.slice none 0 0, .slice none 0 0] 65 (B := s2.heap.size) rfl).ext hQ3) | (have kb := (Blk.at _ [.slice none 0 0, .slice none 0 0] 65 rfl).ext hQ3) | (replace kb := kb.ext hQ3) | skip); replace t0 := t0.ext (Ext.trans (by (repeat (first | with_reducible assumption | with_reducible exact Ext.refl _ | with_reducible refine Ext.drew' ?_ | with_reducible refine Ext.drewN' ?_ _ | with_reducible refine Ext.alloc ?_ _ | (with_reducible refine Ext.setNew ?_ (by first | exact Nat.le_refl _ | (simp; done) | (simp; omega) | omega) _)))) hQ3); replace t1 := t1.ext (Ext.trans (by (repeat (first | with_reducible assumption | with_reducible exact Ext.refl _ | with_reducible refine Ext.drew' ?_ | with_reducible refine Ext.drewN' ?_ _ | with_reducible refine Ext.alloc ?_ _ | (with_reducible refine Ext.setNew ?_ (by first | exact Nat.le_refl _ | (simp; done) | (simp; omega) | omega) _)))) hQ3)) | (go_simp; go_at_call 41; have hguard := hK1; refine (toFabricState_r a1 cap1 z1 _ (hC1.ext (Ext.trans E (by (repeat (first | with_reducible assumption | with_reducible exact Ext.refl _ | with_reducible refine Ext.drew' ?_ | with_reducible refine Ext.drewN' ?_ _ | with_reducible refine Ext.alloc ?_ _ | (with_reducible refine Ext.setNew ?_ (by first | exact Nat.le_refl _ | (simp; done) | (simp; omega) | omega) _)))))) hs1).mono ?_; rintro e s4 ⟨at1, ct1, rfl, t1, hQ2⟩; have hX2 : Ext s2 s4 := Ext.trans (by (repeat (first | with_reducible assumption | with_reducible exact Ext.refl _ | with_reducible refine Ext.drew' ?_ | with_reducible refine Ext.drewN' ?_ _ | with_reducible refine Ext.alloc ?_ _ | (with_reducible refine Ext.setNew ?_ (by first | exact Nat.le_refl _ | (simp; done) | (simp; omega) | omega) _)))) hQ2; have hK2 := held_mk hX2; have hZ2 := hX2.size; (first | (have kb := (Blk.at (World.drew s2) [.slice none 0 0, .slice none 0 0] 65 (B := s2.heap.size) rfl).ext hQ2) | (have kb := (Blk.at _ [.slice none 0 0, .slice none 0 0] 65 rfl).ext hQ2) | (replace kb := kb.ext hQ2) | skip); replace t0 := t0.ext (Ext.trans (by (repeat (first | with_reducible assumption | with_reducible exact Ext.refl _ | with_reducible refine Ext.drew' ?_ | with_reducible refine Ext.drewN' ?_ _ | with_reducible refine Ext.alloc ?_ _ | (with_reducible refine Ext.setNew ?_ (by first | exact Nat.le_refl _ | (simp; done) | (simp; omega) | omega) _)))) hQ2)) | (go_simp; go_at_call 19; refine (toConfig_r f0 ta0 pa0 tc0 pc0 _ (hC0.ext (Ext.trans E (by (repeat (first | with_reducible assumption | with_reducible exact Ext.refl _ | with_reducible refine Ext.drew' ?_ | with_reducible refine Ext.drewN' ?_ _ | with_reducible refine Ext.alloc ?_ _ | (with_reducible refine Ext.setNew ?_ (by first | exact Nat.le_refl _ | (simp; done) | (simp; omega) | omega) _)))))) hs0).mono ?_; rintro e s3 ⟨tat0, tct0, pat0, pct0, rfl, t0, hQ1⟩; have hX1 : Ext s2 s3 := Ext.trans (by (repeat (first | with_reducible assumption | with_reducible exact Ext.refl _ | with_reducible refine Ext.drew' ?_ | with_reducible refine Ext.drewN' ?_ _ | with_reducible refine Ext.alloc ?_ _ | (with_reducible refine Ext.setNew ?_ (by first | exact Nat.le_refl _ | (simp; done) | (simp; omega) | omega) _)))) hQ1; have hK1 := held_mk hX1; have hZ1 := hX1.size; (first | (have kb := (Blk.at (World.drew s2) [.slice none 0 0, .slice none 0 0] 65 (B := s2.heap.size) rfl).ext hQ1) | (have kb := (Blk.at _ [.slice none 0 0, .slice none 0 0] 65 rfl).ext hQ1) | (replace kb := kb.ext hQ1) | skip)))
    all_goals
      go_wp2_with fail
      go_meet
      first
      | (have hkb := kb
         have hq1 := hQ1.size; have hq2 := hQ2.size; have hq3 := hQ3.size; have hq4 := hQ4.size
         (try simp only [World.drew_heap, World.heap_drew, World.heap_alloc_size] at hq1 hq2 hq3 hq4)
         (try simp at hq1); (try simp at hq2); (try simp at hq3); (try simp at hq4)
         refine ⟨_, _, _, _, _, _, _, _, _, rfl, (RepFabStep.set (RepFabStep.set r ?_ _) ?_ _), ((hkb.set 0 _).set 1 _), ?_, ?_⟩
         all_goals (first | (simp; omega) | ((repeat (first | with_reducible assumption | with_reducible exact Ext.refl _ | with_reducible refine Ext.drew' ?_ | with_reducible refine Ext.drewN' ?_ _ | with_reducible refine Ext.alloc ?_ _ | (with_reducible refine Ext.setNew ?_ (by first | exact Nat.le_refl _ | (simp; done) | (simp; omega) | omega) _))); done) | (simp; done)))
      | (refine ⟨_, _, _, _, _, _, _, _, _, rfl, r.ext (by (repeat (first | with_reducible assumption | with_reducible exact Ext.refl _ | with_reducible refine Ext.drew' ?_ | with_reducible refine Ext.drewN' ?_ _ | with_reducible refine Ext.alloc ?_ _ | (with_reducible refine Ext.setNew ?_ (by first | exact Nat.le_refl _ | (simp; done) | (simp; omega) | omega) _)))), Blk.at _ _ _ rfl, ?_, ?_⟩
         · omega
         · (repeat (first | with_reducible assumption | with_reducible exact Ext.refl _ | with_reducible refine Ext.drew' ?_ | with_reducible refine Ext.drewN' ?_ _ | with_reducible refine Ext.alloc ?_ _ | (with_reducible refine Ext.setNew ?_ (by first | exact Nat.le_refl _ | (simp; done) | (simp; omega) | omega) _))))
  clear y0l y00 y01 y1l y10
  obtain ⟨rB, rb, rN, ar0, nr0, cr0, ar1, nr1, cr1, rfl, r, rx, rl0, hE⟩ := hcut
  obtain ⟨s7, rfl⟩ : ∃ x : World, x = wc := ⟨_, rfl⟩
  replace E := Ext.trans E (Ext.trans (by (repeat (first | with_reducible assumption | with_reducible exact Ext.refl _ | with_reducible refine Ext.drew' ?_ | with_reducible refine Ext.drewN' ?_ _ | with_reducible refine Ext.alloc ?_ _ | (with_reducible refine Ext.setNew ?_ (by first | exact Nat.le_refl _ | (simp; done) | (simp; omega) | omega) _)))) hE)
  replace y0 := y0.ext (Ext.trans (by (repeat (first | with_reducible assumption | with_reducible exact Ext.refl _ | with_reducible refine Ext.drew' ?_ | with_reducible refine Ext.drewN' ?_ _ | with_reducible refine Ext.alloc ?_ _ | (with_reducible refine Ext.setNew ?_ (by first | exact Nat.le_refl _ | (simp; done) | (simp; omega) | omega) _)))) hE)
  replace y1 := y1.ext (Ext.trans (by (repeat (first | with_reducible assumption | with_reducible exact Ext.refl _ | with_reducible refine Ext.drew' ?_ | with_reducible refine Ext.drewN' ?_ _ | with_reducible refine Ext.alloc ?_ _ | (with_reducible refine Ext.setNew ?_ (by first | exact Nat.le_refl _ | (simp; done) | (simp; omega) | omega) _)))) hE)
  clear hE
  have lrx := rx.lt
  have E4 := Ext.refl s7
  have lE := E.size
  have y0s := y0
  have y1s := y1
  have y0l := y0.lt
  have y00 := y0.cell (i := 0) rfl
  have y01 := y0.cell (i := 1) rfl
  go_wp2_with fail
  refine (toConfig_r f0 ta0 pa0 tc0 pc0 _ (hC0.ext (Ext.trans E (by (repeat (first | with_reducible assumption | with_reducible exact Ext.refl _ | with_reducible refine Ext.drew' ?_ | with_reducible refine Ext.drewN' ?_ _ | with_reducible refine Ext.alloc ?_ _ | (with_reducible refine Ext.setNew ?_ (by first | exact Nat.le_refl _ | (simp; done) | (simp; omega) | omega) _)))))) hs0).mono ?_
  rintro e s8 ⟨tax0, tcx0, pax0, pcx0, rfl, x0, hE⟩
  replace x0 := x0.le (b2 := s7.heap.size) (Ext.size (w := s7) (by (repeat (first | with_reducible assumption | with_reducible exact Ext.refl _ | with_reducible refine Ext.drew' ?_ | with_reducible refine Ext.drewN' ?_ _ | with_reducible refine Ext.alloc ?_ _ | (with_reducible refine Ext.setNew ?_ (by first | exact Nat.le_refl _ | (simp; done) | (simp; omega) | omega) _)))))
  clear y0l y00 y01
  replace E := Ext.trans E (Ext.trans (by (repeat (first | with_reducible assumption | with_reducible exact Ext.refl _ | with_reducible refine Ext.drew' ?_ | with_reducible refine Ext.drewN' ?_ _ | with_reducible refine Ext.alloc ?_ _ | (with_reducible refine Ext.setNew ?_ (by first | exact Nat.le_refl _ | (simp; done) | (simp; omega) | omega) _)))) hE)
  replace y0 := y0.ext (Ext.trans (by (repeat (first | with_reducible assumption | with_reducible exact Ext.refl _ | with_reducible refine Ext.drew' ?_ | with_reducible refine Ext.drewN' ?_ _ | with_reducible refine Ext.alloc ?_ _ | (with_reducible refine Ext.setNew ?_ (by first | exact Nat.le_refl _ | (simp; done) | (simp; omega) | omega) _)))) hE)
  replace y1 := y1.ext (Ext.trans (by (repeat (first | with_reducible assumption | with_reducible exact Ext.refl _ | with_reducible refine Ext.drew' ?_ | with_reducible refine Ext.drewN' ?_ _ | with_reducible refine Ext.alloc ?_ _ | (with_reducible refine Ext.setNew ?_ (by first | exact Nat.le_refl _ | (simp; done) | (simp; omega) | omega) _)))) hE)
  replace E4 := Ext.trans E4 (Ext.trans (by (repeat (first | with_reducible assumption | with_reducible exact Ext.refl _ | with_reducible refine Ext.drew' ?_ | with_reducible refine Ext.drewN' ?_ _ | with_reducible refine Ext.alloc ?_ _ | (with_reducible refine Ext.setNew ?_ (by first | exact Nat.le_refl _ | (simp; done) | (simp; omega) | omega) _)))) hE)
  replace rx := rx.ext (Ext.trans (by (repeat (first | with_reducible assumption | with_reducible exact Ext.refl _ | with_reducible refine Ext.drew' ?_ | with_reducible refine Ext.drewN' ?_ _ | with_reducible refine Ext.alloc ?_ _ | (with_reducible refine Ext.setNew ?_ (by first | exact Nat.le_refl _ | (simp; done) | (simp; omega) | omega) _)))) hE)
  clear hE
  have lEx0 := E4.size
  have Ex0 := Ext.refl s8
  have x0x := Blk.at s8 [.slice tax0 f0.ts.length tcx0, .slice pax0 f0.ps.length pcx0] 25 rfl
  have y1l := y1.lt
  have y10 := y1.cell (i := 0) rfl
  go_wp2_with fail
  refine (toFabricState_r a1 cap1 z1 _ (hC1.ext (Ext.trans E (by (repeat (first | with_reducible assumption | with_reducible exact Ext.refl _ | with_reducible refine Ext.drew' ?_ | with_reducible refine Ext.drewN' ?_ _ | with_reducible refine Ext.alloc ?_ _ | (with_reducible refine Ext.setNew ?_ (by first | exact Nat.le_refl _ | (simp; done) | (simp; omega) | omega) _)))))) hs1).mono ?_
  rintro e s9 ⟨ax1, cx1, rfl, x1, hE⟩
  replace x1 := x1.le (b2 := s8.heap.size) (Ext.size (w := s8) (by (repeat (first | with_reducible assumption | with_reducible exact Ext.refl _ | with_reducible refine Ext.drew' ?_ | with_reducible refine Ext.drewN' ?_ _ | with_reducible refine Ext.alloc ?_ _ | (with_reducible refine Ext.setNew ?_ (by first | exact Nat.le_refl _ | (simp; done) | (simp; omega) | omega) _)))))
  clear y1l y10
  replace E := Ext.trans E (Ext.trans (by (repeat (first | with_reducible assumption | with_reducible exact Ext.refl _ | with_reducible refine Ext.drew' ?_ | with_reducible refine Ext.drewN' ?_ _ | with_reducible refine Ext.alloc ?_ _ | (with_reducible refine Ext.setNew ?_ (by first | exact Nat.le_refl _ | (simp; done) | (simp; omega) | omega) _)))) hE)
  replace y0 := y0.ext (Ext.trans (by (repeat (first | with_reducible assumption | with_reducible exact Ext.refl _ | with_reducible refine Ext.drew' ?_ | with_reducible refine Ext.drewN' ?_ _ | with_reducible refine Ext.alloc ?_ _ | (with_reducible refine Ext.setNew ?_ (by first | exact Nat.le_refl _ | (simp; done) | (simp; omega) | omega) _)))) hE)
  replace y1 := y1.ext (Ext.trans (by (repeat (first | with_reducible assumption | with_reducible exact Ext.refl _ | with_reducible refine Ext.drew' ?_ | with_reducible refine Ext.drewN' ?_ _ | with_reducible refine Ext.alloc ?_ _ | (with_reducible refine Ext.setNew ?_ (by first | exact Nat.le_refl _ | (simp; done) | (simp; omega) | omega) _)))) hE)
  replace E4 := Ext.trans E4 (Ext.trans (by (repeat (first | with_reducible assumption | with_reducible exact Ext.refl _ | with_reducible refine Ext.drew' ?_ | with_reducible refine Ext.drewN' ?_ _ | with_reducible refine Ext.alloc ?_ _ | (with_reducible refine Ext.setNew ?_ (by first | exact Nat.le_refl _ | (simp; done) | (simp; omega) | omega) _)))) hE)
  replace rx := rx.ext (Ext.trans (by (repeat (first | with_reducible assumption | with_reducible exact Ext.refl _ | with_reducible refine Ext.drew' ?_ | with_reducible refine Ext.drewN' ?_ _ | with_reducible refine Ext.alloc ?_ _ | (with_reducible refine Ext.setNew ?_ (by first | exact Nat.le_refl _ | (simp; done) | (simp; omega) | omega) _)))) hE)
  replace x0 := x0.ext (Ext.trans (by (repeat (first | with_reducible assumption | with_reducible exact Ext.refl _ | with_reducible refine Ext.drew' ?_ | with_reducible refine Ext.drewN' ?_ _ | with_reducible refine Ext.alloc ?_ _ | (with_reducible refine Ext.setNew ?_ (by first | exact Nat.le_refl _ | (simp; done) | (simp; omega) | omega) _)))) hE)
  replace Ex0 := Ext.trans Ex0 (Ext.trans (by (repeat (first | with_reducible assumption | with_reducible exact Ext.refl _ | with_reducible refine Ext.drew' ?_ | with_reducible refine Ext.drewN' ?_ _ | with_reducible refine Ext.alloc ?_ _ | (with_reducible refine Ext.setNew ?_ (by first | exact Nat.le_refl _ | (simp; done) | (simp; omega) | omega) _)))) hE)
  replace x0x := x0x.ext (Ext.trans (by (repeat (first | with_reducible assumption | with_reducible exact Ext.refl _ | with_reducible refine Ext.drew' ?_ | with_reducible refine Ext.drewN' ?_ _ | with_reducible refine Ext.alloc ?_ _ | (with_reducible refine Ext.setNew ?_ (by first | exact Nat.le_refl _ | (simp; done) | (simp; omega) | omega) _)))) hE)
  clear hE
  have lEx1 := Ex0.size
  have Ex1 := Ext.refl s9
  have x1x := Blk.at s9 [.slice ax1 z1.length cx1] 63 rfl
  go_wp2_with fail
  refine (toBoolS_c _ _ z2 _ (w2.at_.ext (Ext.trans E (by (repeat (first | with_reducible assumption | with_reducible exact Ext.refl _ | with_reducible refine Ext.drew' ?_ | with_reducible refine Ext.drewN' ?_ _ | with_reducible refine Ext.alloc ?_ _ | (with_reducible refine Ext.setNew ?_ (by first | exact Nat.le_refl _ | (simp; done) | (simp; omega) | omega) _)))))) hb2).mono ?_
  rintro e s10 ⟨Bx2, rfl, x2b, x2, hE⟩
  have x2g : s9.heap.size ≤ Bx2 := Nat.le_trans (Ext.size (w := s9) (by (repeat (first | with_reducible assumption | with_reducible exact Ext.refl _ | with_reducible refine Ext.drew' ?_ | with_reducible refine Ext.drewN' ?_ _ | with_reducible refine Ext.alloc ?_ _ | (with_reducible refine Ext.setNew ?_ (by first | exact Nat.le_refl _ | (simp; done) | (simp; omega) | omega) _))))) x2b; have x2t := x2.lt
  replace E := Ext.trans E (Ext.trans (by (repeat (first | with_reducible assumption | with_reducible exact Ext.refl _ | with_reducible refine Ext.drew' ?_ | with_reducible refine Ext.drewN' ?_ _ | with_reducible refine Ext.alloc ?_ _ | (with_reducible refine Ext.setNew ?_ (by first | exact Nat.le_refl _ | (simp; done) | (simp; omega) | omega) _)))) hE)
  replace y0 := y0.ext (Ext.trans (by (repeat (first | with_reducible assumption | with_reducible exact Ext.refl _ | with_reducible refine Ext.drew' ?_ | with_reducible refine Ext.drewN' ?_ _ | with_reducible refine Ext.alloc ?_ _ | (with_reducible refine Ext.setNew ?_ (by first | exact Nat.le_refl _ | (simp; done) | (simp; omega) | omega) _)))) hE)
  replace y1 := y1.ext (Ext.trans (by (repeat (first | with_reducible assumption | with_reducible exact Ext.refl _ | with_reducible refine Ext.drew' ?_ | with_reducible refine Ext.drewN' ?_ _ | with_reducible refine Ext.alloc ?_ _ | (with_reducible refine Ext.setNew ?_ (by first | exact Nat.le_refl _ | (simp; done) | (simp; omega) | omega) _)))) hE)
  replace E4 := Ext.trans E4 (Ext.trans (by (repeat (first | with_reducible assumption | with_reducible exact Ext.refl _ | with_reducible refine Ext.drew' ?_ | with_reducible refine Ext.drewN' ?_ _ | with_reducible refine Ext.alloc ?_ _ | (with_reducible refine Ext.setNew ?_ (by first | exact Nat.le_refl _ | (simp; done) | (simp; omega) | omega) _)))) hE)
  replace rx := rx.ext (Ext.trans (by (repeat (first | with_reducible assumption | with_reducible exact Ext.refl _ | with_reducible refine Ext.drew' ?_ | with_reducible refine Ext.drewN' ?_ _ | with_reducible refine Ext.alloc ?_ _ | (with_reducible refine Ext.setNew ?_ (by first | exact Nat.le_refl _ | (simp; done) | (simp; omega) | omega) _)))) hE)
  replace x0 := x0.ext (Ext.trans (by (repeat (first | with_reducible assumption | with_reducible exact Ext.refl _ | with_reducible refine Ext.drew' ?_ | with_reducible refine Ext.drewN' ?_ _ | with_reducible refine Ext.alloc ?_ _ | (with_reducible refine Ext.setNew ?_ (by first | exact Nat.le_refl _ | (simp; done) | (simp; omega) | omega) _)))) hE)
  replace Ex0 := Ext.trans Ex0 (Ext.trans (by (repeat (first | with_reducible assumption | with_reducible exact Ext.refl _ | with_reducible refine Ext.drew' ?_ | with_reducible refine Ext.drewN' ?_ _ | with_reducible refine Ext.alloc ?_ _ | (with_reducible refine Ext.setNew ?_ (by first | exact Nat.le_refl _ | (simp; done) | (simp; omega) | omega) _)))) hE)
  replace x0x := x0x.ext (Ext.trans (by (repeat (first | with_reducible assumption | with_reducible exact Ext.refl _ | with_reducible refine Ext.drew' ?_ | with_reducible refine Ext.drewN' ?_ _ | with_reducible refine Ext.alloc ?_ _ | (with_reducible refine Ext.setNew ?_ (by first | exact Nat.le_refl _ | (simp; done) | (simp; omega) | omega) _)))) hE)
  replace x1 := x1.ext (Ext.trans (by (repeat (first | with_reducible assumption | with_reducible exact Ext.refl _ | with_reducible refine Ext.drew' ?_ | with_reducible refine Ext.drewN' ?_ _ | with_reducible refine Ext.alloc ?_ _ | (with_reducible refine Ext.setNew ?_ (by first | exact Nat.le_refl _ | (simp; done) | (simp; omega) | omega) _)))) hE)
  replace Ex1 := Ext.trans Ex1 (Ext.trans (by (repeat (first | with_reducible assumption | with_reducible exact Ext.refl _ | with_reducible refine Ext.drew' ?_ | with_reducible refine Ext.drewN' ?_ _ | with_reducible refine Ext.alloc ?_ _ | (with_reducible refine Ext.setNew ?_ (by first | exact Nat.le_refl _ | (simp; done) | (simp; omega) | omega) _)))) hE)
  replace x1x := x1x.ext (Ext.trans (by (repeat (first | with_reducible assumption | with_reducible exact Ext.refl _ | with_reducible refine Ext.drew' ?_ | with_reducible refine Ext.drewN' ?_ _ | with_reducible refine Ext.alloc ?_ _ | (with_reducible refine Ext.setNew ?_ (by first | exact Nat.le_refl _ | (simp; done) | (simp; omega) | omega) _)))) hE)
  clear hE
  have lEx2 := Ex1.size
  have Ex2 := Ext.refl s10
  have lEg := Ex2.size
  have Eg := Ext.refl s10
  have x0xl := x0x.lt
  have x0x0 := x0x.cell (i := 0) rfl
  have x0x1 := x0x.cell (i := 1) rfl
  have x1xl := x1x.lt
  have x1x0 := x1x.cell (i := 0) rfl
  go_wp2_with fail
  refine (implStepFabric_c f0 _ _ _ _ _ _ _ _ z1 z2 _ ⟨(x0.ext (by (repeat (first | with_reducible assumption | with_reducible exact Ext.refl _ | with_reducible refine Ext.drew' ?_ | with_reducible refine Ext.drewN' ?_ _ | with_reducible refine Ext.alloc ?_ _ | (with_reducible refine Ext.setNew ?_ (by first | exact Nat.le_refl _ | (simp; done) | (simp; omega) | omega) _))))).at_, (x1.ext (by (repeat (first | with_reducible assumption | with_reducible exact Ext.refl _ | with_reducible refine Ext.drew' ?_ | with_reducible refine Ext.drewN' ?_ _ | with_reducible refine Ext.alloc ?_ _ | (with_reducible refine Ext.setNew ?_ (by first | exact Nat.le_refl _ | (simp; done) | (simp; omega) | omega) _))))).bools, (x2.ext (by (repeat (first | with_reducible assumption | with_reducible exact Ext.refl _ | with_reducible refine Ext.drew' ?_ | with_reducible refine Ext.drewN' ?_ _ | with_reducible refine Ext.alloc ?_ _ | (with_reducible refine Ext.setNew ?_ (by first | exact Nat.le_refl _ | (simp; done) | (simp; omega) | omega) _))))).bools⟩ hs1 hb2).mono ?_
  rw [← HV.out]
  rintro e s11 hh
  obtain ⟨ag0, ng0, cg0, ag1, ng1, cg1, rfl, g, hE⟩ := GiveFabStep.rep' hh
  replace g := g.le (b2 := s10.heap.size) (Ext.size (w := s10) (by (repeat (first | with_reducible assumption | with_reducible exact Ext.refl _ | with_reducible refine Ext.drew' ?_ | with_reducible refine Ext.drewN' ?_ _ | with_reducible refine Ext.alloc ?_ _ | (with_reducible refine Ext.setNew ?_ (by first | exact Nat.le_refl _ | (simp; done) | (simp; omega) | omega) _)))))
  clear x0xl x0x0 x0x1 x1xl x1x0
  replace E := Ext.trans E (Ext.trans (by (repeat (first | with_reducible assumption | with_reducible exact Ext.refl _ | with_reducible refine Ext.drew' ?_ | with_reducible refine Ext.drewN' ?_ _ | with_reducible refine Ext.alloc ?_ _ | (with_reducible refine Ext.setNew ?_ (by first | exact Nat.le_refl _ | (simp; done) | (simp; omega) | omega) _)))) hE)
  replace y0 := y0.ext (Ext.trans (by (repeat (first | with_reducible assumption | with_reducible exact Ext.refl _ | with_reducible refine Ext.drew' ?_ | with_reducible refine Ext.drewN' ?_ _ | with_reducible refine Ext.alloc ?_ _ | (with_reducible refine Ext.setNew ?_ (by first | exact Nat.le_refl _ | (simp; done) | (simp; omega) | omega) _)))) hE)
  replace y1 := y1.ext (Ext.trans (by (repeat (first | with_reducible assumption | with_reducible exact Ext.refl _ | with_reducible refine Ext.drew' ?_ | with_reducible refine Ext.drewN' ?_ _ | with_reducible refine Ext.alloc ?_ _ | (with_reducible refine Ext.setNew ?_ (by first | exact Nat.le_refl _ | (simp; done) | (simp; omega) | omega) _)))) hE)
  replace E4 := Ext.trans E4 (Ext.trans (by (repeat (first | with_reducible assumption | with_reducible exact Ext.refl _ | with_reducible refine Ext.drew' ?_ | with_reducible refine Ext.drewN' ?_ _ | with_reducible refine Ext.alloc ?_ _ | (with_reducible refine Ext.setNew ?_ (by first | exact Nat.le_refl _ | (simp; done) | (simp; omega) | omega) _)))) hE)
  replace rx := rx.ext (Ext.trans (by (repeat (first | with_reducible assumption | with_reducible exact Ext.refl _ | with_reducible refine Ext.drew' ?_ | with_reducible refine Ext.drewN' ?_ _ | with_reducible refine Ext.alloc ?_ _ | (with_reducible refine Ext.setNew ?_ (by first | exact Nat.le_refl _ | (simp; done) | (simp; omega) | omega) _)))) hE)
  replace x0 := x0.ext (Ext.trans (by (repeat (first | with_reducible assumption | with_reducible exact Ext.refl _ | with_reducible refine Ext.drew' ?_ | with_reducible refine Ext.drewN' ?_ _ | with_reducible refine Ext.alloc ?_ _ | (with_reducible refine Ext.setNew ?_ (by first | exact Nat.le_refl _ | (simp; done) | (simp; omega) | omega) _)))) hE)
  replace Ex0 := Ext.trans Ex0 (Ext.trans (by (repeat (first | with_reducible assumption | with_reducible exact Ext.refl _ | with_reducible refine Ext.drew' ?_ | with_reducible refine Ext.drewN' ?_ _ | with_reducible refine Ext.alloc ?_ _ | (with_reducible refine Ext.setNew ?_ (by first | exact Nat.le_refl _ | (simp; done) | (simp; omega) | omega) _)))) hE)
  replace x0x := x0x.ext (Ext.trans (by (repeat (first | with_reducible assumption | with_reducible exact Ext.refl _ | with_reducible refine Ext.drew' ?_ | with_reducible refine Ext.drewN' ?_ _ | with_reducible refine Ext.alloc ?_ _ | (with_reducible refine Ext.setNew ?_ (by first | exact Nat.le_refl _ | (simp; done) | (simp; omega) | omega) _)))) hE)
  replace x1 := x1.ext (Ext.trans (by (repeat (first | with_reducible assumption | with_reducible exact Ext.refl _ | with_reducible refine Ext.drew' ?_ | with_reducible refine Ext.drewN' ?_ _ | with_reducible refine Ext.alloc ?_ _ | (with_reducible refine Ext.setNew ?_ (by first | exact Nat.le_refl _ | (simp; done) | (simp; omega) | omega) _)))) hE)
  replace Ex1 := Ext.trans Ex1 (Ext.trans (by (repeat (first | with_reducible assumption | with_reducible exact Ext.refl _ | with_reducible refine Ext.drew' ?_ | with_reducible refine Ext.drewN' ?_ _ | with_reducible refine Ext.alloc ?_ _ | (with_reducible refine Ext.setNew ?_ (by first | exact Nat.le_refl _ | (simp; done) | (simp; omega) | omega) _)))) hE)
  replace x1x := x1x.ext (Ext.trans (by (repeat (first | with_reducible assumption | with_reducible exact Ext.refl _ | with_reducible refine Ext.drew' ?_ | with_reducible refine Ext.drewN' ?_ _ | with_reducible refine Ext.alloc ?_ _ | (with_reducible refine Ext.setNew ?_ (by first | exact Nat.le_refl _ | (simp; done) | (simp; omega) | omega) _)))) hE)
  replace x2 := x2.ext (Ext.trans (by (repeat (first | with_reducible assumption | with_reducible exact Ext.refl _ | with_reducible refine Ext.drew' ?_ | with_reducible refine Ext.drewN' ?_ _ | with_reducible refine Ext.alloc ?_ _ | (with_reducible refine Ext.setNew ?_ (by first | exact Nat.le_refl _ | (simp; done) | (simp; omega) | omega) _)))) hE)
  replace Ex2 := Ext.trans Ex2 (Ext.trans (by (repeat (first | with_reducible assumption | with_reducible exact Ext.refl _ | with_reducible refine Ext.drew' ?_ | with_reducible refine Ext.drewN' ?_ _ | with_reducible refine Ext.alloc ?_ _ | (with_reducible refine Ext.setNew ?_ (by first | exact Nat.le_refl _ | (simp; done) | (simp; omega) | omega) _)))) hE)
  replace Eg := Ext.trans Eg (Ext.trans (by (repeat (first | with_reducible assumption | with_reducible exact Ext.refl _ | with_reducible refine Ext.drew' ?_ | with_reducible refine Ext.drewN' ?_ _ | with_reducible refine Ext.alloc ?_ _ | (with_reducible refine Ext.setNew ?_ (by first | exact Nat.le_refl _ | (simp; done) | (simp; omega) | omega) _)))) hE)
  clear hE
  have gx := Blk.at s11 [.slice ag0 ng0 cg0, .slice ag1 ng1 cg1] 65 rfl
  have lEh := Eg.size
  have gxl := gx.lt
  have gx0 := gx.cell (i := 0) rfl
  have gx1 := gx.cell (i := 1) rfl
  have rxl := rx.lt
  have rx0 := rx.cell (i := 0) rfl
  have rx1 := rx.cell (i := 1) rfl
  go_wp2_with fail
  refine (eqFabStep_R (g.ext (by (repeat (first | with_reducible assumption | with_reducible exact Ext.refl _ | with_reducible refine Ext.drew' ?_ | with_reducible refine Ext.drewN' ?_ _ | with_reducible refine Ext.alloc ?_ _ | (with_reducible refine Ext.setNew ?_ (by first | exact Nat.le_refl _ | (simp; done) | (simp; omega) | omega) _))))) (r.ext (Ext.trans E4 (by (repeat (first | with_reducible assumption | with_reducible exact Ext.refl _ | with_reducible refine Ext.drew' ?_ | with_reducible refine Ext.drewN' ?_ _ | with_reducible refine Ext.alloc ?_ _ | (with_reducible refine Ext.setNew ?_ (by first | exact Nat.le_refl _ | (simp; done) | (simp; omega) | omega) _))))))).mono ?_
  rintro e s12 ⟨rfl, hE⟩
  clear gxl gx0 gx1 rxl rx0 rx1
  replace E := Ext.trans E (Ext.trans (by (repeat (first | with_reducible assumption | with_reducible exact Ext.refl _ | with_reducible refine Ext.drew' ?_ | with_reducible refine Ext.drewN' ?_ _ | with_reducible refine Ext.alloc ?_ _ | (with_reducible refine Ext.setNew ?_ (by first | exact Nat.le_refl _ | (simp; done) | (simp; omega) | omega) _)))) hE)
  replace y0 := y0.ext (Ext.trans (by (repeat (first | with_reducible assumption | with_reducible exact Ext.refl _ | with_reducible refine Ext.drew' ?_ | with_reducible refine Ext.drewN' ?_ _ | with_reducible refine Ext.alloc ?_ _ | (with_reducible refine Ext.setNew ?_ (by first | exact Nat.le_refl _ | (simp; done) | (simp; omega) | omega) _)))) hE)
  replace y1 := y1.ext (Ext.trans (by (repeat (first | with_reducible assumption | with_reducible exact Ext.refl _ | with_reducible refine Ext.drew' ?_ | with_reducible refine Ext.drewN' ?_ _ | with_reducible refine Ext.alloc ?_ _ | (with_reducible refine Ext.setNew ?_ (by first | exact Nat.le_refl _ | (simp; done) | (simp; omega) | omega) _)))) hE)
  replace E4 := Ext.trans E4 (Ext.trans (by (repeat (first | with_reducible assumption | with_reducible exact Ext.refl _ | with_reducible refine Ext.drew' ?_ | with_reducible refine Ext.drewN' ?_ _ | with_reducible refine Ext.alloc ?_ _ | (with_reducible refine Ext.setNew ?_ (by first | exact Nat.le_refl _ | (simp; done) | (simp; omega) | omega) _)))) hE)
  replace rx := rx.ext (Ext.trans (by (repeat (first | with_reducible assumption | with_reducible exact Ext.refl _ | with_reducible refine Ext.drew' ?_ | with_reducible refine Ext.drewN' ?_ _ | with_reducible refine Ext.alloc ?_ _ | (with_reducible refine Ext.setNew ?_ (by first | exact Nat.le_refl _ | (simp; done) | (simp; omega) | omega) _)))) hE)
  replace x0 := x0.ext (Ext.trans (by (repeat (first | with_reducible assumption | with_reducible exact Ext.refl _ | with_reducible refine Ext.drew' ?_ | with_reducible refine Ext.drewN' ?_ _ | with_reducible refine Ext.alloc ?_ _ | (with_reducible refine Ext.setNew ?_ (by first | exact Nat.le_refl _ | (simp; done) | (simp; omega) | omega) _)))) hE)
  replace Ex0 := Ext.trans Ex0 (Ext.trans (by (repeat (first | with_reducible assumption | with_reducible exact Ext.refl _ | with_reducible refine Ext.drew' ?_ | with_reducible refine Ext.drewN' ?_ _ | with_reducible refine Ext.alloc ?_ _ | (with_reducible refine Ext.setNew ?_ (by first | exact Nat.le_refl _ | (simp; done) | (simp; omega) | omega) _)))) hE)
  replace x0x := x0x.ext (Ext.trans (by (repeat (first | with_reducible assumption | with_reducible exact Ext.refl _ | with_reducible refine Ext.drew' ?_ | with_reducible refine Ext.drewN' ?_ _ | with_reducible refine Ext.alloc ?_ _ | (with_reducible refine Ext.setNew ?_ (by first | exact Nat.le_refl _ | (simp; done) | (simp; omega) | omega) _)))) hE)
  replace x1 := x1.ext (Ext.trans (by (repeat (first | with_reducible assumption | with_reducible exact Ext.refl _ | with_reducible refine Ext.drew' ?_ | with_reducible refine Ext.drewN' ?_ _ | with_reducible refine Ext.alloc ?_ _ | (with_reducible refine Ext.setNew ?_ (by first | exact Nat.le_refl _ | (simp; done) | (simp; omega) | omega) _)))) hE)
  replace Ex1 := Ext.trans Ex1 (Ext.trans (by (repeat (first | with_reducible assumption | with_reducible exact Ext.refl _ | with_reducible refine Ext.drew' ?_ | with_reducible refine Ext.drewN' ?_ _ | with_reducible refine Ext.alloc ?_ _ | (with_reducible refine Ext.setNew ?_ (by first | exact Nat.le_refl _ | (simp; done) | (simp; omega) | omega) _)))) hE)
  replace x1x := x1x.ext (Ext.trans (by (repeat (first | with_reducible assumption | with_reducible exact Ext.refl _ | with_reducible refine Ext.drew' ?_ | with_reducible refine Ext.drewN' ?_ _ | with_reducible refine Ext.alloc ?_ _ | (with_reducible refine Ext.setNew ?_ (by first | exact Nat.le_refl _ | (simp; done) | (simp; omega) | omega) _)))) hE)
  replace x2 := x2.ext (Ext.trans (by (repeat (first | with_reducible assumption | with_reducible exact Ext.refl _ | with_reducible refine Ext.drew' ?_ | with_reducible refine Ext.drewN' ?_ _ | with_reducible refine Ext.alloc ?_ _ | (with_reducible refine Ext.setNew ?_ (by first | exact Nat.le_refl _ | (simp; done) | (simp; omega) | omega) _)))) hE)
  replace Ex2 := Ext.trans Ex2 (Ext.trans (by (repeat (first | with_reducible assumption | with_reducible exact Ext.refl _ | with_reducible refine Ext.drew' ?_ | with_reducible refine Ext.drewN' ?_ _ | with_reducible refine Ext.alloc ?_ _ | (with_reducible refine Ext.setNew ?_ (by first | exact Nat.le_refl _ | (simp; done) | (simp; omega) | omega) _)))) hE)
  replace Eg := Ext.trans Eg (Ext.trans (by (repeat (first | with_reducible assumption | with_reducible exact Ext.refl _ | with_reducible refine Ext.drew' ?_ | with_reducible refine Ext.drewN' ?_ _ | with_reducible refine Ext.alloc ?_ _ | (with_reducible refine Ext.setNew ?_ (by first | exact Nat.le_refl _ | (simp; done) | (simp; omega) | omega) _)))) hE)
  replace g := g.ext (Ext.trans (by (repeat (first | with_reducible assumption | with_reducible exact Ext.refl _ | with_reducible refine Ext.drew' ?_ | with_reducible refine Ext.drewN' ?_ _ | with_reducible refine Ext.alloc ?_ _ | (with_reducible refine Ext.setNew ?_ (by first | exact Nat.le_refl _ | (simp; done) | (simp; omega) | omega) _)))) hE)
  replace gx := gx.ext (Ext.trans (by (repeat (first | with_reducible assumption | with_reducible exact Ext.refl _ | with_reducible refine Ext.drew' ?_ | with_reducible refine Ext.drewN' ?_ _ | with_reducible refine Ext.alloc ?_ _ | (with_reducible refine Ext.setNew ?_ (by first | exact Nat.le_refl _ | (simp; done) | (simp; omega) | omega) _)))) hE)
  clear hE
  have y0l := y0.lt
  have y00 := y0.cell (i := 0) rfl
  have y01 := y0.cell (i := 1) rfl
  have x0xl := x0x.lt
  have x0x0 := x0x.cell (i := 0) rfl
  have x0x1 := x0x.cell (i := 1) rfl
  go_wp2_with fail
  go_region_held3 ((fun w' => (∀ b o, b < s12.heap.size → w'.cell? ⟨b, o, none⟩ = s12.cell? ⟨b, o, none⟩) ∧ Ext s12 w')) ((first | assumption | (with_reducible exact held_mk (Ext.drew s12)) | (with_reducible exact held_mk (((Ext.refl s12).alloc _).drew')) | (with_reducible exact held_mk ((Ext.drew s12).alloc _)))) (first | (go_simp; go_at_call 19; refine (toConfig_r f0 ta0 pa0 tc0 pc0 _ (hC0.ext (Ext.trans E (Ext.drew _))) hs0).mono ?_; rintro e s13 ⟨taq, tcq, paq, pcq, rfl, hCC, hE1⟩; have hK1 := held_mk ((Ext.drew s12).trans hE1)) | (go_simp; go_at_call 14; refine (eqConfig_R (x0.ext (held_ext hK1)) hCC).mono ?_; rintro e s14 ⟨rfl, hE2⟩; have hK2 := held_mk ((held_ext hK1).trans hE2)))
  have hE := held_ext hK2
  clear hK1 hK2 hE1 hE2 hCC
  clear y0l y00 y01 x0xl x0x0 x0x1
  replace E := Ext.trans E (Ext.trans (by (repeat (first | with_reducible assumption | with_reducible exact Ext.refl _ | with_reducible refine Ext.drew' ?_ | with_reducible refine Ext.drewN' ?_ _ | with_reducible refine Ext.alloc ?_ _ | (with_reducible refine Ext.setNew ?_ (by first | exact Nat.le_refl _ | (simp; done) | (simp; omega) | omega) _)))) hE)
  replace y0 := y0.ext (Ext.trans (by (repeat (first | with_reducible assumption | with_reducible exact Ext.refl _ | with_reducible refine Ext.drew' ?_ | with_reducible refine Ext.drewN' ?_ _ | with_reducible refine Ext.alloc ?_ _ | (with_reducible refine Ext.setNew ?_ (by first | exact Nat.le_refl _ | (simp; done) | (simp; omega) | omega) _)))) hE)
  replace y1 := y1.ext (Ext.trans (by (repeat (first | with_reducible assumption | with_reducible exact Ext.refl _ | with_reducible refine Ext.drew' ?_ | with_reducible refine Ext.drewN' ?_ _ | with_reducible refine Ext.alloc ?_ _ | (with_reducible refine Ext.setNew ?_ (by first | exact Nat.le_refl _ | (simp; done) | (simp; omega) | omega) _)))) hE)
  replace E4 := Ext.trans E4 (Ext.trans (by (repeat (first | with_reducible assumption | with_reducible exact Ext.refl _ | with_reducible refine Ext.drew' ?_ | with_reducible refine Ext.drewN' ?_ _ | with_reducible refine Ext.alloc ?_ _ | (with_reducible refine Ext.setNew ?_ (by first | exact Nat.le_refl _ | (simp; done) | (simp; omega) | omega) _)))) hE)
  replace rx := rx.ext (Ext.trans (by (repeat (first | with_reducible assumption | with_reducible exact Ext.refl _ | with_reducible refine Ext.drew' ?_ | with_reducible refine Ext.drewN' ?_ _ | with_reducible refine Ext.alloc ?_ _ | (with_reducible refine Ext.setNew ?_ (by first | exact Nat.le_refl _ | (simp; done) | (simp; omega) | omega) _)))) hE)
  replace x0 := x0.ext (Ext.trans (by (repeat (first | with_reducible assumption | with_reducible exact Ext.refl _ | with_reducible refine Ext.drew' ?_ | with_reducible refine Ext.drewN' ?_ _ | with_reducible refine Ext.alloc ?_ _ | (with_reducible refine Ext.setNew ?_ (by first | exact Nat.le_refl _ | (simp; done) | (simp; omega) | omega) _)))) hE)
  replace Ex0 := Ext.trans Ex0 (Ext.trans (by (repeat (first | with_reducible assumption | with_reducible exact Ext.refl _ | with_reducible refine Ext.drew' ?_ | with_reducible refine Ext.drewN' ?_ _ | with_reducible refine Ext.alloc ?_ _ | (with_reducible refine Ext.setNew ?_ (by first | exact Nat.le_refl _ | (simp; done) | (simp; omega) | omega) _)))) hE)
  replace x0x := x0x.ext (Ext.trans (by (repeat (first | with_reducible assumption | with_reducible exact Ext.refl _ | with_reducible refine Ext.drew' ?_ | with_reducible refine Ext.drewN' ?_ _ | with_reducible refine Ext.alloc ?_ _ | (with_reducible refine Ext.setNew ?_ (by first | exact Nat.le_refl _ | (simp; done) | (simp; omega) | omega) _)))) hE)
  replace x1 := x1.ext (Ext.trans (by (repeat (first | with_reducible assumption | with_reducible exact Ext.refl _ | with_reducible refine Ext.drew' ?_ | with_reducible refine Ext.drewN' ?_ _ | with_reducible refine Ext.alloc ?_ _ | (with_reducible refine Ext.setNew ?_ (by first | exact Nat.le_refl _ | (simp; done) | (simp; omega) | omega) _)))) hE)
  replace Ex1 := Ext.trans Ex1 (Ext.trans (by (repeat (first | with_reducible assumption | with_reducible exact Ext.refl _ | with_reducible refine Ext.drew' ?_ | with_reducible refine Ext.drewN' ?_ _ | with_reducible refine Ext.alloc ?_ _ | (with_reducible refine Ext.setNew ?_ (by first | exact Nat.le_refl _ | (simp; done) | (simp; omega) | omega) _)))) hE)
  replace x1x := x1x.ext (Ext.trans (by (repeat (first | with_reducible assumption | with_reducible exact Ext.refl _ | with_reducible refine Ext.drew' ?_ | with_reducible refine Ext.drewN' ?_ _ | with_reducible refine Ext.alloc ?_ _ | (with_reducible refine Ext.setNew ?_ (by first | exact Nat.le_refl _ | (simp; done) | (simp; omega) | omega) _)))) hE)
  replace x2 := x2.ext (Ext.trans (by (repeat (first | with_reducible assumption | with_reducible exact Ext.refl _ | with_reducible refine Ext.drew' ?_ | with_reducible refine Ext.drewN' ?_ _ | with_reducible refine Ext.alloc ?_ _ | (with_reducible refine Ext.setNew ?_ (by first | exact Nat.le_refl _ | (simp; done) | (simp; omega) | omega) _)))) hE)
  replace Ex2 := Ext.trans Ex2 (Ext.trans (by (repeat (first | with_reducible assumption | with_reducible exact Ext.refl _ | with_reducible refine Ext.drew' ?_ | with_reducible refine Ext.drewN' ?_ _ | with_reducible refine Ext.alloc ?_ _ | (with_reducible refine Ext.setNew ?_ (by first | exact Nat.le_refl _ | (simp; done) | (simp; omega) | omega) _)))) hE)
  replace Eg := Ext.trans Eg (Ext.trans (by (repeat (first | with_reducible assumption | with_reducible exact Ext.refl _ | with_reducible refine Ext.drew' ?_ | with_reducible refine Ext.drewN' ?_ _ | with_reducible refine Ext.alloc ?_ _ | (with_reducible refine Ext.setNew ?_ (by first | exact Nat.le_refl _ | (simp; done) | (simp; omega) | omega) _)))) hE)
  replace g := g.ext (Ext.trans (by (repeat (first | with_reducible assumption | with_reducible exact Ext.refl _ | with_reducible refine Ext.drew' ?_ | with_reducible refine Ext.drewN' ?_ _ | with_reducible refine Ext.alloc ?_ _ | (with_reducible refine Ext.setNew ?_ (by first | exact Nat.le_refl _ | (simp; done) | (simp; omega) | omega) _)))) hE)
  replace gx := gx.ext (Ext.trans (by (repeat (first | with_reducible assumption | with_reducible exact Ext.refl _ | with_reducible refine Ext.drew' ?_ | with_reducible refine Ext.drewN' ?_ _ | with_reducible refine Ext.alloc ?_ _ | (with_reducible refine Ext.setNew ?_ (by first | exact Nat.le_refl _ | (simp; done) | (simp; omega) | omega) _)))) hE)
  clear hE
  have y1l := y1.lt
  have y10 := y1.cell (i := 0) rfl
  have x1xl := x1x.lt
  have x1x0 := x1x.cell (i := 0) rfl
  go_wp2_with fail
  go_region_held3 ((fun w' => (∀ b o, b < s14.heap.size → w'.cell? ⟨b, o, none⟩ = s14.cell? ⟨b, o, none⟩) ∧ Ext s14 w')) ((first | assumption | (with_reducible exact held_mk (Ext.drew s14)) | (with_reducible exact held_mk (((Ext.refl s14).alloc _).drew')) | (with_reducible exact held_mk ((Ext.drew s14).alloc _)))) (first | (go_simp; go_at_call 41; refine (toFabricState_r a1 cap1 z1 _ (hC1.ext (Ext.trans E (Ext.drew _))) hs1).mono ?_; rintro e s15 ⟨aq, cq, rfl, hCC, hE1⟩; have hK1 := held_mk ((Ext.drew s14).trans hE1)) | (go_simp; go_at_call 45; refine (eqState_R (x1.ext (held_ext hK1)) hCC).mono ?_; rintro e s16 ⟨rfl, hE2⟩; have hK2 := held_mk ((held_ext hK1).trans hE2)))
  have hE := held_ext hK2
  clear hK1 hK2 hE1 hE2 hCC
  clear y1l y10 x1xl x1x0
  replace E := Ext.trans E (Ext.trans (by (repeat (first | with_reducible assumption | with_reducible exact Ext.refl _ | with_reducible refine Ext.drew' ?_ | with_reducible refine Ext.drewN' ?_ _ | with_reducible refine Ext.alloc ?_ _ | (with_reducible refine Ext.setNew ?_ (by first | exact Nat.le_refl _ | (simp; done) | (simp; omega) | omega) _)))) hE)
  replace y0 := y0.ext (Ext.trans (by (repeat (first | with_reducible assumption | with_reducible exact Ext.refl _ | with_reducible refine Ext.drew' ?_ | with_reducible refine Ext.drewN' ?_ _ | with_reducible refine Ext.alloc ?_ _ | (with_reducible refine Ext.setNew ?_ (by first | exact Nat.le_refl _ | (simp; done) | (simp; omega) | omega) _)))) hE)
  replace y1 := y1.ext (Ext.trans (by (repeat (first | with_reducible assumption | with_reducible exact Ext.refl _ | with_reducible refine Ext.drew' ?_ | with_reducible refine Ext.drewN' ?_ _ | with_reducible refine Ext.alloc ?_ _ | (with_reducible refine Ext.setNew ?_ (by first | exact Nat.le_refl _ | (simp; done) | (simp; omega) | omega) _)))) hE)
  replace E4 := Ext.trans E4 (Ext.trans (by (repeat (first | with_reducible assumption | with_reducible exact Ext.refl _ | with_reducible refine Ext.drew' ?_ | with_reducible refine Ext.drewN' ?_ _ | with_reducible refine Ext.alloc ?_ _ | (with_reducible refine Ext.setNew ?_ (by first | exact Nat.le_refl _ | (simp; done) | (simp; omega) | omega) _)))) hE)
  replace rx := rx.ext (Ext.trans (by (repeat (first | with_reducible assumption | with_reducible exact Ext.refl _ | with_reducible refine Ext.drew' ?_ | with_reducible refine Ext.drewN' ?_ _ | with_reducible refine Ext.alloc ?_ _ | (with_reducible refine Ext.setNew ?_ (by first | exact Nat.le_refl _ | (simp; done) | (simp; omega) | omega) _)))) hE)
  replace x0 := x0.ext (Ext.trans (by (repeat (first | with_reducible assumption | with_reducible exact Ext.refl _ | with_reducible refine Ext.drew' ?_ | with_reducible refine Ext.drewN' ?_ _ | with_reducible refine Ext.alloc ?_ _ | (with_reducible refine Ext.setNew ?_ (by first | exact Nat.le_refl _ | (simp; done) | (simp; omega) | omega) _)))) hE)
  replace Ex0 := Ext.trans Ex0 (Ext.trans (by (repeat (first | with_reducible assumption | with_reducible exact Ext.refl _ | with_reducible refine Ext.drew' ?_ | with_reducible refine Ext.drewN' ?_ _ | with_reducible refine Ext.alloc ?_ _ | (with_reducible refine Ext.setNew ?_ (by first | exact Nat.le_refl _ | (simp; done) | (simp; omega) | omega) _)))) hE)
  replace x0x := x0x.ext (Ext.trans (by (repeat (first | with_reducible assumption | with_reducible exact Ext.refl _ | with_reducible refine Ext.drew' ?_ | with_reducible refine Ext.drewN' ?_ _ | with_reducible refine Ext.alloc ?_ _ | (with_reducible refine Ext.setNew ?_ (by first | exact Nat.le_refl _ | (simp; done) | (simp; omega) | omega) _)))) hE)
  replace x1 := x1.ext (Ext.trans (by (repeat (first | with_reducible assumption | with_reducible exact Ext.refl _ | with_reducible refine Ext.drew' ?_ | with_reducible refine Ext.drewN' ?_ _ | with_reducible refine Ext.alloc ?_ _ | (with_reducible refine Ext.setNew ?_ (by first | exact Nat.le_refl _ | (simp; done) | (simp; omega) | omega) _)))) hE)
  replace Ex1 := Ext.trans Ex1 (Ext.trans (by (repeat (first | with_reducible assumption | with_reducible exact Ext.refl _ | with_reducible refine Ext.drew' ?_ | with_reducible refine Ext.drewN' ?_ _ | with_reducible refine Ext.alloc ?_ _ | (with_reducible refine Ext.setNew ?_ (by first | exact Nat.le_refl _ | (simp; done) | (simp; omega) | omega) _)))) hE)
  replace x1x := x1x.ext (Ext.trans (by (repeat (first | with_reducible assumption | with_reducible exact Ext.refl _ | with_reducible refine Ext.drew' ?_ | with_reducible refine Ext.drewN' ?_ _ | with_reducible refine Ext.alloc ?_ _ | (with_reducible refine Ext.setNew ?_ (by first | exact Nat.le_refl _ | (simp; done) | (simp; omega) | omega) _)))) hE)
  replace x2 := x2.ext (Ext.trans (by (repeat (first | with_reducible assumption | with_reducible exact Ext.refl _ | with_reducible refine Ext.drew' ?_ | with_reducible refine Ext.drewN' ?_ _ | with_reducible refine Ext.alloc ?_ _ | (with_reducible refine Ext.setNew ?_ (by first | exact Nat.le_refl _ | (simp; done) | (simp; omega) | omega) _)))) hE)
  replace Ex2 := Ext.trans Ex2 (Ext.trans (by (repeat (first | with_reducible assumption | with_reducible exact Ext.refl _ | with_reducible refine Ext.drew' ?_ | with_reducible refine Ext.drewN' ?_ _ | with_reducible refine Ext.alloc ?_ _ | (with_reducible refine Ext.setNew ?_ (by first | exact Nat.le_refl _ | (simp; done) | (simp; omega) | omega) _)))) hE)
  replace Eg := Ext.trans Eg (Ext.trans (by (repeat (first | with_reducible assumption | with_reducible exact Ext.refl _ | with_reducible refine Ext.drew' ?_ | with_reducible refine Ext.drewN' ?_ _ | with_reducible refine Ext.alloc ?_ _ | (with_reducible refine Ext.setNew ?_ (by first | exact Nat.le_refl _ | (simp; done) | (simp; omega) | omega) _)))) hE)
  replace g := g.ext (Ext.trans (by (repeat (first | with_reducible assumption | with_reducible exact Ext.refl _ | with_reducible refine Ext.drew' ?_ | with_reducible refine Ext.drewN' ?_ _ | with_reducible refine Ext.alloc ?_ _ | (with_reducible refine Ext.setNew ?_ (by first | exact Nat.le_refl _ | (simp; done) | (simp; omega) | omega) _)))) hE)
  replace gx := gx.ext (Ext.trans (by (repeat (first | with_reducible assumption | with_reducible exact Ext.refl _ | with_reducible refine Ext.drew' ?_ | with_reducible refine Ext.drewN' ?_ _ | with_reducible refine Ext.alloc ?_ _ | (with_reducible refine Ext.setNew ?_ (by first | exact Nat.le_refl _ | (simp; done) | (simp; omega) | omega) _)))) hE)
  clear hE
  go_wp2_with fail
  refine (toBoolS_c _ _ z2 _ (w2.at_.ext (Ext.trans E (by (repeat (first | with_reducible assumption | with_reducible exact Ext.refl _ | with_reducible refine Ext.drew' ?_ | with_reducible refine Ext.drewN' ?_ _ | with_reducible refine Ext.alloc ?_ _ | (with_reducible refine Ext.setNew ?_ (by first | exact Nat.le_refl _ | (simp; done) | (simp; omega) | omega) _)))))) hb2).mono ?_
  rintro e s17 ⟨Bq2, rfl, qb2, qq2, hE⟩
  replace E := Ext.trans E (Ext.trans (by (repeat (first | with_reducible assumption | with_reducible exact Ext.refl _ | with_reducible refine Ext.drew' ?_ | with_reducible refine Ext.drewN' ?_ _ | with_reducible refine Ext.alloc ?_ _ | (with_reducible refine Ext.setNew ?_ (by first | exact Nat.le_refl _ | (simp; done) | (simp; omega) | omega) _)))) hE)
  replace y0 := y0.ext (Ext.trans (by (repeat (first | with_reducible assumption | with_reducible exact Ext.refl _ | with_reducible refine Ext.drew' ?_ | with_reducible refine Ext.drewN' ?_ _ | with_reducible refine Ext.alloc ?_ _ | (with_reducible refine Ext.setNew ?_ (by first | exact Nat.le_refl _ | (simp; done) | (simp; omega) | omega) _)))) hE)
  replace y1 := y1.ext (Ext.trans (by (repeat (first | with_reducible assumption | with_reducible exact Ext.refl _ | with_reducible refine Ext.drew' ?_ | with_reducible refine Ext.drewN' ?_ _ | with_reducible refine Ext.alloc ?_ _ | (with_reducible refine Ext.setNew ?_ (by first | exact Nat.le_refl _ | (simp; done) | (simp; omega) | omega) _)))) hE)
  replace E4 := Ext.trans E4 (Ext.trans (by (repeat (first | with_reducible assumption | with_reducible exact Ext.refl _ | with_reducible refine Ext.drew' ?_ | with_reducible refine Ext.drewN' ?_ _ | with_reducible refine Ext.alloc ?_ _ | (with_reducible refine Ext.setNew ?_ (by first | exact Nat.le_refl _ | (simp; done) | (simp; omega) | omega) _)))) hE)
  replace rx := rx.ext (Ext.trans (by (repeat (first | with_reducible assumption | with_reducible exact Ext.refl _ | with_reducible refine Ext.drew' ?_ | with_reducible refine Ext.drewN' ?_ _ | with_reducible refine Ext.alloc ?_ _ | (with_reducible refine Ext.setNew ?_ (by first | exact Nat.le_refl _ | (simp; done) | (simp; omega) | omega) _)))) hE)
  replace x0 := x0.ext (Ext.trans (by (repeat (first | with_reducible assumption | with_reducible exact Ext.refl _ | with_reducible refine Ext.drew' ?_ | with_reducible refine Ext.drewN' ?_ _ | with_reducible refine Ext.alloc ?_ _ | (with_reducible refine Ext.setNew ?_ (by first | exact Nat.le_refl _ | (simp; done) | (simp; omega) | omega) _)))) hE)
  replace Ex0 := Ext.trans Ex0 (Ext.trans (by (repeat (first | with_reducible assumption | with_reducible exact Ext.refl _ | with_reducible refine Ext.drew' ?_ | with_reducible refine Ext.drewN' ?_ _ | with_reducible refine Ext.alloc ?_ _ | (with_reducible refine Ext.setNew ?_ (by first | exact Nat.le_refl _ | (simp; done) | (simp; omega) | omega) _)))) hE)
  replace x0x := x0x.ext (Ext.trans (by (repeat (first | with_reducible assumption | with_reducible exact Ext.refl _ | with_reducible refine Ext.drew' ?_ | with_reducible refine Ext.drewN' ?_ _ | with_reducible refine Ext.alloc ?_ _ | (with_reducible refine Ext.setNew ?_ (by first | exact Nat.le_refl _ | (simp; done) | (simp; omega) | omega) _)))) hE)
  replace x1 := x1.ext (Ext.trans (by (repeat (first | with_reducible assumption | with_reducible exact Ext.refl _ | with_reducible refine Ext.drew' ?_ | with_reducible refine Ext.drewN' ?_ _ | with_reducible refine Ext.alloc ?_ _ | (with_reducible refine Ext.setNew ?_ (by first | exact Nat.le_refl _ | (simp; done) | (simp; omega) | omega) _)))) hE)
  replace Ex1 := Ext.trans Ex1 (Ext.trans (by (repeat (first | with_reducible assumption | with_reducible exact Ext.refl _ | with_reducible refine Ext.drew' ?_ | with_reducible refine Ext.drewN' ?_ _ | with_reducible refine Ext.alloc ?_ _ | (with_reducible refine Ext.setNew ?_ (by first | exact Nat.le_refl _ | (simp; done) | (simp; omega) | omega) _)))) hE)
  replace x1x := x1x.ext (Ext.trans (by (repeat (first | with_reducible assumption | with_reducible exact Ext.refl _ | with_reducible refine Ext.drew' ?_ | with_reducible refine Ext.drewN' ?_ _ | with_reducible refine Ext.alloc ?_ _ | (with_reducible refine Ext.setNew ?_ (by first | exact Nat.le_refl _ | (simp; done) | (simp; omega) | omega) _)))) hE)
  replace x2 := x2.ext (Ext.trans (by (repeat (first | with_reducible assumption | with_reducible exact Ext.refl _ | with_reducible refine Ext.drew' ?_ | with_reducible refine Ext.drewN' ?_ _ | with_reducible refine Ext.alloc ?_ _ | (with_reducible refine Ext.setNew ?_ (by first | exact Nat.le_refl _ | (simp; done) | (simp; omega) | omega) _)))) hE)
  replace Ex2 := Ext.trans Ex2 (Ext.trans (by (repeat (first | with_reducible assumption | with_reducible exact Ext.refl _ | with_reducible refine Ext.drew' ?_ | with_reducible refine Ext.drewN' ?_ _ | with_reducible refine Ext.alloc ?_ _ | (with_reducible refine Ext.setNew ?_ (by first | exact Nat.le_refl _ | (simp; done) | (simp; omega) | omega) _)))) hE)
  replace Eg := Ext.trans Eg (Ext.trans (by (repeat (first | with_reducible assumption | with_reducible exact Ext.refl _ | with_reducible refine Ext.drew' ?_ | with_reducible refine Ext.drewN' ?_ _ | with_reducible refine Ext.alloc ?_ _ | (with_reducible refine Ext.setNew ?_ (by first | exact Nat.le_refl _ | (simp; done) | (simp; omega) | omega) _)))) hE)
  replace g := g.ext (Ext.trans (by (repeat (first | with_reducible assumption | with_reducible exact Ext.refl _ | with_reducible refine Ext.drew' ?_ | with_reducible refine Ext.drewN' ?_ _ | with_reducible refine Ext.alloc ?_ _ | (with_reducible refine Ext.setNew ?_ (by first | exact Nat.le_refl _ | (simp; done) | (simp; omega) | omega) _)))) hE)
  replace gx := gx.ext (Ext.trans (by (repeat (first | with_reducible assumption | with_reducible exact Ext.refl _ | with_reducible refine Ext.drew' ?_ | with_reducible refine Ext.drewN' ?_ _ | with_reducible refine Ext.alloc ?_ _ | (with_reducible refine Ext.setNew ?_ (by first | exact Nat.le_refl _ | (simp; done) | (simp; omega) | omega) _)))) hE)
  clear hE
  go_wp2_with fail
  refine (eqBoolS_c _ _ _ _ _ _ (x2.ext (by (repeat (first | with_reducible assumption | with_reducible exact Ext.refl _ | with_reducible refine Ext.drew' ?_ | with_reducible refine Ext.drewN' ?_ _ | with_reducible refine Ext.alloc ?_ _ | (with_reducible refine Ext.setNew ?_ (by first | exact Nat.le_refl _ | (simp; done) | (simp; omega) | omega) _))))).bools (qq2.ext (by (repeat (first | with_reducible assumption | with_reducible exact Ext.refl _ | with_reducible refine Ext.drew' ?_ | with_reducible refine Ext.drewN' ?_ _ | with_reducible refine Ext.alloc ?_ _ | (with_reducible refine Ext.setNew ?_ (by first | exact Nat.le_refl _ | (simp; done) | (simp; omega) | omega) _))))).bools hb2).mono ?_
  rintro e s18 ⟨rfl, hE⟩
  replace E := Ext.trans E (Ext.trans (by (repeat (first | with_reducible assumption | with_reducible exact Ext.refl _ | with_reducible refine Ext.drew' ?_ | with_reducible refine Ext.drewN' ?_ _ | with_reducible refine Ext.alloc ?_ _ | (with_reducible refine Ext.setNew ?_ (by first | exact Nat.le_refl _ | (simp; done) | (simp; omega) | omega) _)))) hE)
  replace y0 := y0.ext (Ext.trans (by (repeat (first | with_reducible assumption | with_reducible exact Ext.refl _ | with_reducible refine Ext.drew' ?_ | with_reducible refine Ext.drewN' ?_ _ | with_reducible refine Ext.alloc ?_ _ | (with_reducible refine Ext.setNew ?_ (by first | exact Nat.le_refl _ | (simp; done) | (simp; omega) | omega) _)))) hE)
  replace y1 := y1.ext (Ext.trans (by (repeat (first | with_reducible assumption | with_reducible exact Ext.refl _ | with_reducible refine Ext.drew' ?_ | with_reducible refine Ext.drewN' ?_ _ | with_reducible refine Ext.alloc ?_ _ | (with_reducible refine Ext.setNew ?_ (by first | exact Nat.le_refl _ | (simp; done) | (simp; omega) | omega) _)))) hE)
  replace E4 := Ext.trans E4 (Ext.trans (by (repeat (first | with_reducible assumption | with_reducible exact Ext.refl _ | with_reducible refine Ext.drew' ?_ | with_reducible refine Ext.drewN' ?_ _ | with_reducible refine Ext.alloc ?_ _ | (with_reducible refine Ext.setNew ?_ (by first | exact Nat.le_refl _ | (simp; done) | (simp; omega) | omega) _)))) hE)
  replace rx := rx.ext (Ext.trans (by (repeat (first | with_reducible assumption | with_reducible exact Ext.refl _ | with_reducible refine Ext.drew' ?_ | with_reducible refine Ext.drewN' ?_ _ | with_reducible refine Ext.alloc ?_ _ | (with_reducible refine Ext.setNew ?_ (by first | exact Nat.le_refl _ | (simp; done) | (simp; omega) | omega) _)))) hE)
  replace x0 := x0.ext (Ext.trans (by (repeat (first | with_reducible assumption | with_reducible exact Ext.refl _ | with_reducible refine Ext.drew' ?_ | with_reducible refine Ext.drewN' ?_ _ | with_reducible refine Ext.alloc ?_ _ | (with_reducible refine Ext.setNew ?_ (by first | exact Nat.le_refl _ | (simp; done) | (simp; omega) | omega) _)))) hE)
  replace Ex0 := Ext.trans Ex0 (Ext.trans (by (repeat (first | with_reducible assumption | with_reducible exact Ext.refl _ | with_reducible refine Ext.drew' ?_ | with_reducible refine Ext.drewN' ?_ _ | with_reducible refine Ext.alloc ?_ _ | (with_reducible refine Ext.setNew ?_ (by first | exact Nat.le_refl _ | (simp; done) | (simp; omega) | omega) _)))) hE)
  replace x0x := x0x.ext (Ext.trans (by (repeat (first | with_reducible assumption | with_reducible exact Ext.refl _ | with_reducible refine Ext.drew' ?_ | with_reducible refine Ext.drewN' ?_ _ | with_reducible refine Ext.alloc ?_ _ | (with_reducible refine Ext.setNew ?_ (by first | exact Nat.le_refl _ | (simp; done) | (simp; omega) | omega) _)))) hE)
  replace x1 := x1.ext (Ext.trans (by (repeat (first | with_reducible assumption | with_reducible exact Ext.refl _ | with_reducible refine Ext.drew' ?_ | with_reducible refine Ext.drewN' ?_ _ | with_reducible refine Ext.alloc ?_ _ | (with_reducible refine Ext.setNew ?_ (by first | exact Nat.le_refl _ | (simp; done) | (simp; omega) | omega) _)))) hE)
  replace Ex1 := Ext.trans Ex1 (Ext.trans (by (repeat (first | with_reducible assumption | with_reducible exact Ext.refl _ | with_reducible refine Ext.drew' ?_ | with_reducible refine Ext.drewN' ?_ _ | with_reducible refine Ext.alloc ?_ _ | (with_reducible refine Ext.setNew ?_ (by first | exact Nat.le_refl _ | (simp; done) | (simp; omega) | omega) _)))) hE)
  replace x1x := x1x.ext (Ext.trans (by (repeat (first | with_reducible assumption | with_reducible exact Ext.refl _ | with_reducible refine Ext.drew' ?_ | with_reducible refine Ext.drewN' ?_ _ | with_reducible refine Ext.alloc ?_ _ | (with_reducible refine Ext.setNew ?_ (by first | exact Nat.le_refl _ | (simp; done) | (simp; omega) | omega) _)))) hE)
  replace x2 := x2.ext (Ext.trans (by (repeat (first | with_reducible assumption | with_reducible exact Ext.refl _ | with_reducible refine Ext.drew' ?_ | with_reducible refine Ext.drewN' ?_ _ | with_reducible refine Ext.alloc ?_ _ | (with_reducible refine Ext.setNew ?_ (by first | exact Nat.le_refl _ | (simp; done) | (simp; omega) | omega) _)))) hE)
  replace Ex2 := Ext.trans Ex2 (Ext.trans (by (repeat (first | with_reducible assumption | with_reducible exact Ext.refl _ | with_reducible refine Ext.drew' ?_ | with_reducible refine Ext.drewN' ?_ _ | with_reducible refine Ext.alloc ?_ _ | (with_reducible refine Ext.setNew ?_ (by first | exact Nat.le_refl _ | (simp; done) | (simp; omega) | omega) _)))) hE)
  replace Eg := Ext.trans Eg (Ext.trans (by (repeat (first | with_reducible assumption | with_reducible exact Ext.refl _ | with_reducible refine Ext.drew' ?_ | with_reducible refine Ext.drewN' ?_ _ | with_reducible refine Ext.alloc ?_ _ | (with_reducible refine Ext.setNew ?_ (by first | exact Nat.le_refl _ | (simp; done) | (simp; omega) | omega) _)))) hE)
  replace g := g.ext (Ext.trans (by (repeat (first | with_reducible assumption | with_reducible exact Ext.refl _ | with_reducible refine Ext.drew' ?_ | with_reducible refine Ext.drewN' ?_ _ | with_reducible refine Ext.alloc ?_ _ | (with_reducible refine Ext.setNew ?_ (by first | exact Nat.le_refl _ | (simp; done) | (simp; omega) | omega) _)))) hE)
  replace gx := gx.ext (Ext.trans (by (repeat (first | with_reducible assumption | with_reducible exact Ext.refl _ | with_reducible refine Ext.drew' ?_ | with_reducible refine Ext.drewN' ?_ _ | with_reducible refine Ext.alloc ?_ _ | (with_reducible refine Ext.setNew ?_ (by first | exact Nat.le_refl _ | (simp; done) | (simp; omega) | omega) _)))) hE)
  clear hE
  have x0xl := x0x.lt
  have x0x0 := x0x.cell (i := 0) rfl
  have x0x1 := x0x.cell (i := 1) rfl
  go_wp2_with fail
  refine (markConfig_k (x0.ext (by (repeat (first | with_reducible assumption | with_reducible exact Ext.refl _ | with_reducible refine Ext.drew' ?_ | with_reducible refine Ext.drewN' ?_ _ | with_reducible refine Ext.alloc ?_ _ | (with_reducible refine Ext.setNew ?_ (by first | exact Nat.le_refl _ | (simp; done) | (simp; omega) | omega) _))))) _ (by omega) (by omega)).mono ?_
  rintro e s19 ⟨⟨k0, rfl, ka0, kb0⟩, hM⟩
  clear x0xl x0x0 x0x1
  clear x0 x0x
  replace hM := Mid.trans (Mid.ofExt (w := s18) (by (repeat (first | with_reducible assumption | with_reducible exact Ext.refl _ | with_reducible refine Ext.drew' ?_ | with_reducible refine Ext.drewN' ?_ _ | with_reducible refine Ext.alloc ?_ _ | (with_reducible refine Ext.setNew ?_ (by first | exact Nat.le_refl _ | (simp; done) | (simp; omega) | omega) _))))) hM
  replace E := E.mid hM (by omega)
  replace E4 := E4.mid hM (by omega)
  replace g := g.hi hM (by omega)
  replace gx := gx.mid hM (.inr (by omega))
  replace rx := rx.mid hM (.inl (by omega))
  replace x1 := x1.mid hM (.inr (by omega))
  replace x1x := x1x.mid hM (.inr (by omega))
  replace x2 := x2.mid hM (.inr (by omega))
  clear hM
  have x1xl := x1x.lt
  have x1x0 := x1x.cell (i := 0) rfl
  go_wp2_with fail
  refine (markState_m (x1.ext (by (repeat (first | with_reducible assumption | with_reducible exact Ext.refl _ | with_reducible refine Ext.drew' ?_ | with_reducible refine Ext.drewN' ?_ _ | with_reducible refine Ext.alloc ?_ _ | (with_reducible refine Ext.setNew ?_ (by first | exact Nat.le_refl _ | (simp; done) | (simp; omega) | omega) _))))) _ (by omega) (by omega)).mono ?_
  rintro e s20 ⟨rfl, hM⟩
  clear x1xl x1x0
  clear x1 x1x
  replace hM := Mid.trans (Mid.ofExt (w := s19) (by (repeat (first | with_reducible assumption | with_reducible exact Ext.refl _ | with_reducible refine Ext.drew' ?_ | with_reducible refine Ext.drewN' ?_ _ | with_reducible refine Ext.alloc ?_ _ | (with_reducible refine Ext.setNew ?_ (by first | exact Nat.le_refl _ | (simp; done) | (simp; omega) | omega) _))))) hM
  replace E := E.mid hM (by omega)
  replace E4 := E4.mid hM (by omega)
  replace g := g.hi hM (by omega)
  replace gx := gx.mid hM (.inr (by omega))
  replace rx := rx.mid hM (.inl (by omega))
  replace x2 := x2.mid hM (.inr (by omega))
  clear hM
  go_wp2_with fail
  refine (markBoolS_c _ _ _ z2 _ _ ((x2.ext (by (repeat (first | with_reducible assumption | with_reducible exact Ext.refl _ | with_reducible refine Ext.drew' ?_ | with_reducible refine Ext.drewN' ?_ _ | with_reducible refine Ext.alloc ?_ _ | (with_reducible refine Ext.setNew ?_ (by first | exact Nat.le_refl _ | (simp; done) | (simp; omega) | omega) _))))).owns (n := z2.length) (size := 1) (by rw [List.length_map, Nat.mul_one]) (Nat.le_refl _) (by unfold maxLen; omega)) (by omega) (by omega) hb2).mono ?_
  rintro e s21 ⟨rfl, _, hG⟩
  have hM := Mid.ofGr (b := s9.heap.size) (N := s10.heap.size) hG x2g x2t
  clear x2
  replace hM := Mid.trans (Mid.ofExt (w := s20) (by (repeat (first | with_reducible assumption | with_reducible exact Ext.refl _ | with_reducible refine Ext.drew' ?_ | with_reducible refine Ext.drewN' ?_ _ | with_reducible refine Ext.alloc ?_ _ | (with_reducible refine Ext.setNew ?_ (by first | exact Nat.le_refl _ | (simp; done) | (simp; omega) | omega) _))))) hM
  replace E := E.mid hM (by omega)
  replace E4 := E4.mid hM (by omega)
  replace g := g.hi hM (by omega)
  replace gx := gx.mid hM (.inr (by omega))
  replace rx := rx.mid hM (.inl (by omega))
  clear hM
  have y0 := y0s.ext E4
  have y1 := y1s.ext E4
  have gxl := gx.lt
  have gx0 := gx.cell (i := 0) rfl
  have gx1 := gx.cell (i := 1) rfl
  have rxl := rx.lt
  have rx0 := rx.cell (i := 0) rfl
  have rx1 := rx.cell (i := 1) rfl
  go_wp2_with fail
  refine (eqFabStep_R (g.ext (by (repeat (first | with_reducible assumption | with_reducible exact Ext.refl _ | with_reducible refine Ext.drew' ?_ | with_reducible refine Ext.drewN' ?_ _ | with_reducible refine Ext.alloc ?_ _ | (with_reducible refine Ext.setNew ?_ (by first | exact Nat.le_refl _ | (simp; done) | (simp; omega) | omega) _))))) (r.ext (Ext.trans E4 (by (repeat (first | with_reducible assumption | with_reducible exact Ext.refl _ | with_reducible refine Ext.drew' ?_ | with_reducible refine Ext.drewN' ?_ _ | with_reducible refine Ext.alloc ?_ _ | (with_reducible refine Ext.setNew ?_ (by first | exact Nat.le_refl _ | (simp; done) | (simp; omega) | omega) _))))))).mono ?_
  rintro e s22 ⟨rfl, hE⟩
  clear gxl gx0 gx1 rxl rx0 rx1
  replace E := Ext.trans E (Ext.trans (by (repeat (first | with_reducible assumption | with_reducible exact Ext.refl _ | with_reducible refine Ext.drew' ?_ | with_reducible refine Ext.drewN' ?_ _ | with_reducible refine Ext.alloc ?_ _ | (with_reducible refine Ext.setNew ?_ (by first | exact Nat.le_refl _ | (simp; done) | (simp; omega) | omega) _)))) hE)
  replace E4 := Ext.trans E4 (Ext.trans (by (repeat (first | with_reducible assumption | with_reducible exact Ext.refl _ | with_reducible refine Ext.drew' ?_ | with_reducible refine Ext.drewN' ?_ _ | with_reducible refine Ext.alloc ?_ _ | (with_reducible refine Ext.setNew ?_ (by first | exact Nat.le_refl _ | (simp; done) | (simp; omega) | omega) _)))) hE)
  replace g := g.ext (Ext.trans (by (repeat (first | with_reducible assumption | with_reducible exact Ext.refl _ | with_reducible refine Ext.drew' ?_ | with_reducible refine Ext.drewN' ?_ _ | with_reducible refine Ext.alloc ?_ _ | (with_reducible refine Ext.setNew ?_ (by first | exact Nat.le_refl _ | (simp; done) | (simp; omega) | omega) _)))) hE)
  replace gx := gx.ext (Ext.trans (by (repeat (first | with_reducible assumption | with_reducible exact Ext.refl _ | with_reducible refine Ext.drew' ?_ | with_reducible refine Ext.drewN' ?_ _ | with_reducible refine Ext.alloc ?_ _ | (with_reducible refine Ext.setNew ?_ (by first | exact Nat.le_refl _ | (simp; done) | (simp; omega) | omega) _)))) hE)
  replace rx := rx.ext (Ext.trans (by (repeat (first | with_reducible assumption | with_reducible exact Ext.refl _ | with_reducible refine Ext.drew' ?_ | with_reducible refine Ext.drewN' ?_ _ | with_reducible refine Ext.alloc ?_ _ | (with_reducible refine Ext.setNew ?_ (by first | exact Nat.le_refl _ | (simp; done) | (simp; omega) | omega) _)))) hE)
  replace y0 := y0.ext (Ext.trans (by (repeat (first | with_reducible assumption | with_reducible exact Ext.refl _ | with_reducible refine Ext.drew' ?_ | with_reducible refine Ext.drewN' ?_ _ | with_reducible refine Ext.alloc ?_ _ | (with_reducible refine Ext.setNew ?_ (by first | exact Nat.le_refl _ | (simp; done) | (simp; omega) | omega) _)))) hE)
  replace y1 := y1.ext (Ext.trans (by (repeat (first | with_reducible assumption | with_reducible exact Ext.refl _ | with_reducible refine Ext.drew' ?_ | with_reducible refine Ext.drewN' ?_ _ | with_reducible refine Ext.alloc ?_ _ | (with_reducible refine Ext.setNew ?_ (by first | exact Nat.le_refl _ | (simp; done) | (simp; omega) | omega) _)))) hE)
  clear hE
  have gxl := gx.lt
  have gx0 := gx.cell (i := 0) rfl
  have gx1 := gx.cell (i := 1) rfl
  go_wp2_with fail
  refine (markFabStep_R (g.ext (by (repeat (first | with_reducible assumption | with_reducible exact Ext.refl _ | with_reducible refine Ext.drew' ?_ | with_reducible refine Ext.drewN' ?_ _ | with_reducible refine Ext.alloc ?_ _ | (with_reducible refine Ext.setNew ?_ (by first | exact Nat.le_refl _ | (simp; done) | (simp; omega) | omega) _)))))).mono ?_
  rintro e s23 ⟨km, rfl, mk, hM⟩
  obtain ⟨km0, km1⟩ := mk.kb
  clear gxl gx0 gx1
  clear g
  clear y0 y1
  replace hM := Mid.trans (Mid.ofExt (w := s22) (by (repeat (first | with_reducible assumption | with_reducible exact Ext.refl _ | with_reducible refine Ext.drew' ?_ | with_reducible refine Ext.drewN' ?_ _ | with_reducible refine Ext.alloc ?_ _ | (with_reducible refine Ext.setNew ?_ (by first | exact Nat.le_refl _ | (simp; done) | (simp; omega) | omega) _))))) hM
  replace E := E.mid hM (by omega)
  replace E4 := E4.mid hM (by omega)
  replace gx := gx.mid hM (.inr (by omega))
  replace rx := rx.mid hM (.inl (by omega))
  clear hM
  have y0 := y0s.ext E4
  have y1 := y1s.ext E4
  have gxl := gx.lt
  have gx0 := gx.cell (i := 0) rfl
  have gx1 := gx.cell (i := 1) rfl
  go_wp2_with fail
  refine (heldFabStep_R (mk.ext (by (repeat (first | with_reducible assumption | with_reducible exact Ext.refl _ | with_reducible refine Ext.drew' ?_ | with_reducible refine Ext.drewN' ?_ _ | with_reducible refine Ext.alloc ?_ _ | (with_reducible refine Ext.setNew ?_ (by first | exact Nat.le_refl _ | (simp; done) | (simp; omega) | omega) _)))))).mono ?_
  rintro e s24 ⟨rfl, hE⟩
  clear gxl gx0 gx1
  replace E := Ext.trans E (Ext.trans (by (repeat (first | with_reducible assumption | with_reducible exact Ext.refl _ | with_reducible refine Ext.drew' ?_ | with_reducible refine Ext.drewN' ?_ _ | with_reducible refine Ext.alloc ?_ _ | (with_reducible refine Ext.setNew ?_ (by first | exact Nat.le_refl _ | (simp; done) | (simp; omega) | omega) _)))) hE)
  replace E4 := Ext.trans E4 (Ext.trans (by (repeat (first | with_reducible assumption | with_reducible exact Ext.refl _ | with_reducible refine Ext.drew' ?_ | with_reducible refine Ext.drewN' ?_ _ | with_reducible refine Ext.alloc ?_ _ | (with_reducible refine Ext.setNew ?_ (by first | exact Nat.le_refl _ | (simp; done) | (simp; omega) | omega) _)))) hE)
  replace gx := gx.ext (Ext.trans (by (repeat (first | with_reducible assumption | with_reducible exact Ext.refl _ | with_reducible refine Ext.drew' ?_ | with_reducible refine Ext.drewN' ?_ _ | with_reducible refine Ext.alloc ?_ _ | (with_reducible refine Ext.setNew ?_ (by first | exact Nat.le_refl _ | (simp; done) | (simp; omega) | omega) _)))) hE)
  replace rx := rx.ext (Ext.trans (by (repeat (first | with_reducible assumption | with_reducible exact Ext.refl _ | with_reducible refine Ext.drew' ?_ | with_reducible refine Ext.drewN' ?_ _ | with_reducible refine Ext.alloc ?_ _ | (with_reducible refine Ext.setNew ?_ (by first | exact Nat.le_refl _ | (simp; done) | (simp; omega) | omega) _)))) hE)
  replace mk := mk.ext (Ext.trans (by (repeat (first | with_reducible assumption | with_reducible exact Ext.refl _ | with_reducible refine Ext.drew' ?_ | with_reducible refine Ext.drewN' ?_ _ | with_reducible refine Ext.alloc ?_ _ | (with_reducible refine Ext.setNew ?_ (by first | exact Nat.le_refl _ | (simp; done) | (simp; omega) | omega) _)))) hE)
  replace y0 := y0.ext (Ext.trans (by (repeat (first | with_reducible assumption | with_reducible exact Ext.refl _ | with_reducible refine Ext.drew' ?_ | with_reducible refine Ext.drewN' ?_ _ | with_reducible refine Ext.alloc ?_ _ | (with_reducible refine Ext.setNew ?_ (by first | exact Nat.le_refl _ | (simp; done) | (simp; omega) | omega) _)))) hE)
  replace y1 := y1.ext (Ext.trans (by (repeat (first | with_reducible assumption | with_reducible exact Ext.refl _ | with_reducible refine Ext.drew' ?_ | with_reducible refine Ext.drewN' ?_ _ | with_reducible refine Ext.alloc ?_ _ | (with_reducible refine Ext.setNew ?_ (by first | exact Nat.le_refl _ | (simp; done) | (simp; omega) | omega) _)))) hE)
  clear hE
  have y0l := y0.lt
  have y00 := y0.cell (i := 0) rfl
  have y01 := y0.cell (i := 1) rfl
  have y1l := y1.lt
  have y10 := y1.cell (i := 0) rfl
  go_upto_region 37 with fail
  go_cut [16] (fun sx wx => ∃ (Bx bx Nx : Nat) (ah0 : Option Addr) (nh0 ch0 : Nat) (ah1 : Option Addr) (nh1 ch1 : Nat), sx = .pointer (some ⟨Bx, 0, none⟩) ∧ RepFabStep wx bx Nx (.slice ah0 nh0 ch0) (.slice ah1 nh1 ch1) V ∧ Blk wx Bx 65 [.slice ah0 nh0 ch0, .slice ah1 nh1 ch1] ∧ s24.heap.size ≤ Bx ∧ Ext s24 wx)
  case first =>
    go_region_held3 ((fun w' => (∀ b o, b < s24.heap.size → w'.cell? ⟨b, o, none⟩ = s24.cell? ⟨b, o, none⟩) ∧ Ext s24 w')) (first | (first | assumption | (with_reducible exact held_mk (Ext.drew s24)) | (with_reducible exact held_mk (((Ext.refl s24).alloc _).drew')) | (with_reducible exact held_mk ((Ext.drew s24).alloc _))) | exact held_mk (by (repeat (first | with_reducible assumption | with_reducible exact Ext.refl _ | with_reducible refine Ext.drew' ?_ | with_reducible refine Ext.drewN' ?_ _ | with_reducible refine Ext.alloc ?_ _ | (with_reducible refine Ext.setNew ?_ (by first | exact Nat.le_refl _ | (simp; done) | (simp; omega) | omega) _))))) (first | (go_simp; go_at_call 43; have hguard := hK3; refine (implStepFabric_c f0 _ _ _ _ _ _ _ _ z1 z2 _ ⟨(u0.ext (by (repeat (first | with_reducible assumption | with_reducible exact Ext.refl _ | with_reducible refine Ext.drew' ?_ | with_reducible refine Ext.drewN' ?_ _ | with_reducible refine Ext.alloc ?_ _ | (with_reducible refine Ext.setNew ?_ (by first | exact Nat.le_refl _ | (simp; done) | (simp; omega) | omega) _))))).at_, (u1.ext (by (repeat (first | with_reducible assumption | with_reducible exact Ext.refl _ | with_reducible refine Ext.drew' ?_ | with_reducible refine Ext.drewN' ?_ _ | with_reducible refine Ext.alloc ?_ _ | (with_reducible refine Ext.setNew ?_ (by first | exact Nat.le_refl _ | (simp; done) | (simp; omega) | omega) _))))).bools, (u2.ext (by (repeat (first | with_reducible assumption | with_reducible exact Ext.refl _ | with_reducible refine Ext.drew' ?_ | with_reducible refine Ext.drewN' ?_ _ | with_reducible refine Ext.alloc ?_ _ | (with_reducible refine Ext.setNew ?_ (by first | exact Nat.le_refl _ | (simp; done) | (simp; omega) | omega) _))))).bools⟩ hs1 hb2).mono ?_; rw [← HV.out]; rintro e s28 hh; obtain ⟨ah0, nh0, ch0, ah1, nh1, ch1, rfl, h, hQ4⟩ := GiveFabStep.rep' hh; have hX4 : Ext s24 s28 := Ext.trans (by (repeat (first | with_reducible assumption | with_reducible exact Ext.refl _ | with_reducible refine Ext.drew' ?_ | with_reducible refine Ext.drewN' ?_ _ | with_reducible refine Ext.alloc ?_ _ | (with_reducible refine Ext.setNew ?_ (by first | exact Nat.le_refl _ | (simp; done) | (simp; omega) | omega) _)))) hQ4; have hK4 := held_mk hX4; have hZ4 := hX4.size; (first | (have kb := (Blk.at (World.drew s24) [.slice none 0 0, .slice none 0 0] 65 (B := s24.heap.size) rfl).ext hQ4) | (have kb := (Blk.at _ [.slice none 0 0, .slice none 0 0] 65 rfl).ext hQ4) | (replace kb := kb.ext hQ4) | skip); (first | (have kb0 := kb.cell (i := 0) rfl; have kb1 := kb.cell (i := 1) rfl; have kbf := fun i => kb.frozen i) | skip)) | (go_simp; go_at_call 42; have hguard := hK2; refine (toBoolS_c _ _ z2 _ (w2.at_.ext (Ext.trans E (by (repeat (first | with_reducible assumption | with_reducible exact Ext.refl _ | with_reducible refine Ext.drew' ?_ | with_reducible refine Ext.drewN' ?_ _ | with_reducible refine Ext.alloc ?_ _ | (with_reducible refine Ext.setNew ?_ (by first | exact Nat.le_refl _ | (simp; done) | (simp; omega) | omega) _)))))) hb2).mono ?_; rintro e s27 ⟨Bu2, rfl, u2b, u2, hQ3⟩; have hX3 : Ext s24 s27 := Ext.trans (by (repeat (first | with_reducible assumption | with_reducible exact Ext.refl _ | with_reducible refine Ext.drew' ?_ | with_reducible refine Ext.drewN' ?_ _ | with_reducible refine Ext.alloc ?_ _ | (with_reducible refine Ext.setNew ?_ (by first | exact Nat.le_refl _ | (simp; done) | (simp; omega) | omega) _)))) hQ3; have hK3 := held_mk hX3; have hZ3 := hX3.size; (first | (have kb := (Blk.at (World.drew s24) [.slice none 0 0, .slice none 0 0] 65 (B := s24.heap.size) rfl).ext hQ3) | (have kb := (Blk.at _ [.slice none 0 0, .slice none 0 0] 65 rfl).ext hQ3) | (replace kb := kb.ext hQ3) | skip); replace u0 := u0.ext (Ext.trans (by (repeat (first | with_reducible assumption | with_reducible exact Ext.refl _ | with_reducible refine Ext.drew' ?_ | with_reducible refine Ext.drewN' ?_ _ | with_reducible refine Ext.alloc ?_ _ | (with_reducible refine Ext.setNew ?_ (by first | exact Nat.le_refl _ | (simp; done) | (simp; omega) | omega) _)))) hQ3); replace u1 := u1.ext (Ext.trans (by (repeat (first | with_reducible assumption | with_reducible exact Ext.refl _ | with_reducible refine Ext.drew' ?_ | with_reducible refine Ext.drewN' ?_ _ | with_reducible refine Ext.alloc ?_ _ | (with_reducible refine Ext.setNew ?_ (by first | exact Nat.le_refl _ | (simp; done) | (simp; omega) | omega) _)))) hQ3)) | (go_simp; go_at_call 41; have hguard := hK1; refine (toFabricState_r a1 cap1 z1 _ (hC1.ext (Ext.trans E (by (repeat (first | with_reducible assumption | with_reducible exact Ext.refl _ | with_reducible refine Ext.drew' ?_ | with_reducible refine Ext.drewN' ?_ _ | with_reducible refine Ext.alloc ?_ _ | (with_reducible refine Ext.setNew ?_ (by first | exact Nat.le_refl _ | (simp; done) | (simp; omega) | omega) _)))))) hs1).mono ?_; rintro e s26 ⟨au1, cu1, rfl, u1, hQ2⟩; have hX2 : Ext s24 s26 := Ext.trans (by (repeat (first | with_reducible assumption | with_reducible exact Ext.refl _ | with_reducible refine Ext.drew' ?_ | with_reducible refine Ext.drewN' ?_ _ | with_reducible refine Ext.alloc ?_ _ | (with_reducible refine Ext.setNew ?_ (by first | exact Nat.le_refl _ | (simp; done) | (simp; omega) | omega) _)))) hQ2; have hK2 := held_mk hX2; have hZ2 := hX2.size; (first | (have kb := (Blk.at (World.drew s24) [.slice none 0 0, .slice none 0 0] 65 (B := s24.heap.size) rfl).ext hQ2) | (have kb := (Blk.at _ [.slice none 0 0, .slice none 0 0] 65 rfl).ext hQ2) | (replace kb := kb.ext hQ2) | skip); replace u0 := u0.ext (Ext.trans (by (repeat (first | with_reducible assumption | with_reducible exact Ext.refl _ | with_reducible refine Ext.drew' ?_ | with_reducible refine Ext.drewN' ?_ _ | with_reducible refine Ext.alloc ?_ _ | (with_reducible refine Ext.setNew ?_ (by first | exact Nat.le_refl _ | (simp; done) | (simp; omega) | omega) _)))) hQ2)) | (go_simp; go_at_call 19; refine (toConfig_r f0 ta0 pa0 tc0 pc0 _ (hC0.ext (Ext.trans E (by (repeat (first | with_reducible assumption | with_reducible exact Ext.refl _ | with_reducible refine Ext.drew' ?_ | with_reducible refine Ext.drewN' ?_ _ | with_reducible refine Ext.alloc ?_ _ | (with_reducible refine Ext.setNew ?_ (by first | exact Nat.le_refl _ | (simp; done) | (simp; omega) | omega) _)))))) hs0).mono ?_; rintro e s25 ⟨tau0, tcu0, pau0, pcu0, rfl, u0, hQ1⟩; have hX1 : Ext s24 s25 := Ext.trans (by (repeat (first | with_reducible assumption | with_reducible exact Ext.refl _ | with_reducible refine Ext.drew' ?_ | with_reducible refine Ext.drewN' ?_ _ | with_reducible refine Ext.alloc ?_ _ | (with_reducible refine Ext.setNew ?_ (by first | exact Nat.le_refl _ | (simp; done) | (simp; omega) | omega) _)))) hQ1; have hK1 := held_mk hX1; have hZ1 := hX1.size; (first | (have kb := (Blk.at (World.drew s24) [.slice none 0 0, .slice none 0 0] 65 (B := s24.heap.size) rfl).ext hQ1) | (have kb := (Blk.at _ [.slice none 0 0, .slice none 0 0] 65 rfl).ext hQ1) | (replace kb := kb.ext hQ1) | skip)))
    all_goals
      go_wp2_with fail
      go_meet
      first
      | (have hkb := kb
         have hq1 := hQ1.size; have hq2 := hQ2.size; have hq3 := hQ3.size; have hq4 := hQ4.size
         (try simp only [World.drew_heap, World.heap_drew, World.heap_alloc_size] at hq1 hq2 hq3 hq4)
         (try simp at hq1); (try simp at hq2); (try simp at hq3); (try simp at hq4)
         refine ⟨_, _, _, _, _, _, _, _, _, rfl, (RepFabStep.set (RepFabStep.set h ?_ _) ?_ _), ((hkb.set 0 _).set 1 _), ?_, ?_⟩
         all_goals (first | (simp; omega) | ((repeat (first | with_reducible assumption | with_reducible exact Ext.refl _ | with_reducible refine Ext.drew' ?_ | with_reducible refine Ext.drewN' ?_ _ | with_reducible refine Ext.alloc ?_ _ | (with_reducible refine Ext.setNew ?_ (by first | exact Nat.le_refl _ | (simp; done) | (simp; omega) | omega) _))); done) | (simp; done)))
      | (refine ⟨_, _, _, _, _, _, _, _, _, rfl, h.ext (by (repeat (first | with_reducible assumption | with_reducible exact Ext.refl _ | with_reducible refine Ext.drew' ?_ | with_reducible refine Ext.drewN' ?_ _ | with_reducible refine Ext.alloc ?_ _ | (with_reducible refine Ext.setNew ?_ (by first | exact Nat.le_refl _ | (simp; done) | (simp; omega) | omega) _)))), Blk.at _ _ _ rfl, ?_, ?_⟩
         · omega
         · (repeat (first | with_reducible assumption | with_reducible exact Ext.refl _ | with_reducible refine Ext.drew' ?_ | with_reducible refine Ext.drewN' ?_ _ | with_reducible refine Ext.alloc ?_ _ | (with_reducible refine Ext.setNew ?_ (by first | exact Nat.le_refl _ | (simp; done) | (simp; omega) | omega) _))))
  clear y0l y00 y01 y1l y10
  obtain ⟨hB, hb, hN, ah0, nh0, ch0, ah1, nh1, ch1, rfl, h, hx, hl0, hE⟩ := hcut
  obtain ⟨s29, rfl⟩ : ∃ x : World, x = wc := ⟨_, rfl⟩
  replace E := Ext.trans E (Ext.trans (by (repeat (first | with_reducible assumption | with_reducible exact Ext.refl _ | with_reducible refine Ext.drew' ?_ | with_reducible refine Ext.drewN' ?_ _ | with_reducible refine Ext.alloc ?_ _ | (with_reducible refine Ext.setNew ?_ (by first | exact Nat.le_refl _ | (simp; done) | (simp; omega) | omega) _)))) hE)
  replace E4 := Ext.trans E4 (Ext.trans (by (repeat (first | with_reducible assumption | with_reducible exact Ext.refl _ | with_reducible refine Ext.drew' ?_ | with_reducible refine Ext.drewN' ?_ _ | with_reducible refine Ext.alloc ?_ _ | (with_reducible refine Ext.setNew ?_ (by first | exact Nat.le_refl _ | (simp; done) | (simp; omega) | omega) _)))) hE)
  replace gx := gx.ext (Ext.trans (by (repeat (first | with_reducible assumption | with_reducible exact Ext.refl _ | with_reducible refine Ext.drew' ?_ | with_reducible refine Ext.drewN' ?_ _ | with_reducible refine Ext.alloc ?_ _ | (with_reducible refine Ext.setNew ?_ (by first | exact Nat.le_refl _ | (simp; done) | (simp; omega) | omega) _)))) hE)
  replace rx := rx.ext (Ext.trans (by (repeat (first | with_reducible assumption | with_reducible exact Ext.refl _ | with_reducible refine Ext.drew' ?_ | with_reducible refine Ext.drewN' ?_ _ | with_reducible refine Ext.alloc ?_ _ | (with_reducible refine Ext.setNew ?_ (by first | exact Nat.le_refl _ | (simp; done) | (simp; omega) | omega) _)))) hE)
  replace mk := mk.ext (Ext.trans (by (repeat (first | with_reducible assumption | with_reducible exact Ext.refl _ | with_reducible refine Ext.drew' ?_ | with_reducible refine Ext.drewN' ?_ _ | with_reducible refine Ext.alloc ?_ _ | (with_reducible refine Ext.setNew ?_ (by first | exact Nat.le_refl _ | (simp; done) | (simp; omega) | omega) _)))) hE)
  replace y0 := y0.ext (Ext.trans (by (repeat (first | with_reducible assumption | with_reducible exact Ext.refl _ | with_reducible refine Ext.drew' ?_ | with_reducible refine Ext.drewN' ?_ _ | with_reducible refine Ext.alloc ?_ _ | (with_reducible refine Ext.setNew ?_ (by first | exact Nat.le_refl _ | (simp; done) | (simp; omega) | omega) _)))) hE)
  replace y1 := y1.ext (Ext.trans (by (repeat (first | with_reducible assumption | with_reducible exact Ext.refl _ | with_reducible refine Ext.drew' ?_ | with_reducible refine Ext.drewN' ?_ _ | with_reducible refine Ext.alloc ?_ _ | (with_reducible refine Ext.setNew ?_ (by first | exact Nat.le_refl _ | (simp; done) | (simp; omega) | omega) _)))) hE)
  clear hE
  have lhx := hx.lt
  have hxl := hx.lt
  have hx0 := hx.cell (i := 0) rfl
  have hx1 := hx.cell (i := 1) rfl
  have rxl := rx.lt
  have rx0 := rx.cell (i := 0) rfl
  have rx1 := rx.cell (i := 1) rfl
  go_wp2_with fail
  refine (eqFabStep_R (h.ext (by (repeat (first | with_reducible assumption | with_reducible exact Ext.refl _ | with_reducible refine Ext.drew' ?_ | with_reducible refine Ext.drewN' ?_ _ | with_reducible refine Ext.alloc ?_ _ | (with_reducible refine Ext.setNew ?_ (by first | exact Nat.le_refl _ | (simp; done) | (simp; omega) | omega) _))))) (r.ext (Ext.trans E4 (by (repeat (first | with_reducible assumption | with_reducible exact Ext.refl _ | with_reducible refine Ext.drew' ?_ | with_reducible refine Ext.drewN' ?_ _ | with_reducible refine Ext.alloc ?_ _ | (with_reducible refine Ext.setNew ?_ (by first | exact Nat.le_refl _ | (simp; done) | (simp; omega) | omega) _))))))).mono ?_
  rintro e s30 ⟨rfl, hE⟩
  clear hxl hx0 hx1 rxl rx0 rx1
  replace E := Ext.trans E (Ext.trans (by (repeat (first | with_reducible assumption | with_reducible exact Ext.refl _ | with_reducible refine Ext.drew' ?_ | with_reducible refine Ext.drewN' ?_ _ | with_reducible refine Ext.alloc ?_ _ | (with_reducible refine Ext.setNew ?_ (by first | exact Nat.le_refl _ | (simp; done) | (simp; omega) | omega) _)))) hE)
  replace E4 := Ext.trans E4 (Ext.trans (by (repeat (first | with_reducible assumption | with_reducible exact Ext.refl _ | with_reducible refine Ext.drew' ?_ | with_reducible refine Ext.drewN' ?_ _ | with_reducible refine Ext.alloc ?_ _ | (with_reducible refine Ext.setNew ?_ (by first | exact Nat.le_refl _ | (simp; done) | (simp; omega) | omega) _)))) hE)
  replace gx := gx.ext (Ext.trans (by (repeat (first | with_reducible assumption | with_reducible exact Ext.refl _ | with_reducible refine Ext.drew' ?_ | with_reducible refine Ext.drewN' ?_ _ | with_reducible refine Ext.alloc ?_ _ | (with_reducible refine Ext.setNew ?_ (by first | exact Nat.le_refl _ | (simp; done) | (simp; omega) | omega) _)))) hE)
  replace rx := rx.ext (Ext.trans (by (repeat (first | with_reducible assumption | with_reducible exact Ext.refl _ | with_reducible refine Ext.drew' ?_ | with_reducible refine Ext.drewN' ?_ _ | with_reducible refine Ext.alloc ?_ _ | (with_reducible refine Ext.setNew ?_ (by first | exact Nat.le_refl _ | (simp; done) | (simp; omega) | omega) _)))) hE)
  replace mk := mk.ext (Ext.trans (by (repeat (first | with_reducible assumption | with_reducible exact Ext.refl _ | with_reducible refine Ext.drew' ?_ | with_reducible refine Ext.drewN' ?_ _ | with_reducible refine Ext.alloc ?_ _ | (with_reducible refine Ext.setNew ?_ (by first | exact Nat.le_refl _ | (simp; done) | (simp; omega) | omega) _)))) hE)
  replace y0 := y0.ext (Ext.trans (by (repeat (first | with_reducible assumption | with_reducible exact Ext.refl _ | with_reducible refine Ext.drew' ?_ | with_reducible refine Ext.drewN' ?_ _ | with_reducible refine Ext.alloc ?_ _ | (with_reducible refine Ext.setNew ?_ (by first | exact Nat.le_refl _ | (simp; done) | (simp; omega) | omega) _)))) hE)
  replace y1 := y1.ext (Ext.trans (by (repeat (first | with_reducible assumption | with_reducible exact Ext.refl _ | with_reducible refine Ext.drew' ?_ | with_reducible refine Ext.drewN' ?_ _ | with_reducible refine Ext.alloc ?_ _ | (with_reducible refine Ext.setNew ?_ (by first | exact Nat.le_refl _ | (simp; done) | (simp; omega) | omega) _)))) hE)
  replace h := h.ext (Ext.trans (by (repeat (first | with_reducible assumption | with_reducible exact Ext.refl _ | with_reducible refine Ext.drew' ?_ | with_reducible refine Ext.drewN' ?_ _ | with_reducible refine Ext.alloc ?_ _ | (with_reducible refine Ext.setNew ?_ (by first | exact Nat.le_refl _ | (simp; done) | (simp; omega) | omega) _)))) hE)
  replace hx := hx.ext (Ext.trans (by (repeat (first | with_reducible assumption | with_reducible exact Ext.refl _ | with_reducible refine Ext.drew' ?_ | with_reducible refine Ext.drewN' ?_ _ | with_reducible refine Ext.alloc ?_ _ | (with_reducible refine Ext.setNew ?_ (by first | exact Nat.le_refl _ | (simp; done) | (simp; omega) | omega) _)))) hE)
  clear hE
  have gxl := gx.lt
  have gx0 := gx.cell (i := 0) rfl
  have gx1 := gx.cell (i := 1) rfl
  go_wp2_with fail
  refine (heldFabStep_R (mk.ext (by (repeat (first | with_reducible assumption | with_reducible exact Ext.refl _ | with_reducible refine Ext.drew' ?_ | with_reducible refine Ext.drewN' ?_ _ | with_reducible refine Ext.alloc ?_ _ | (with_reducible refine Ext.setNew ?_ (by first | exact Nat.le_refl _ | (simp; done) | (simp; omega) | omega) _)))))).mono ?_
  rintro e s31 ⟨rfl, hE⟩
  clear gxl gx0 gx1
  replace E := Ext.trans E (Ext.trans (by (repeat (first | with_reducible assumption | with_reducible exact Ext.refl _ | with_reducible refine Ext.drew' ?_ | with_reducible refine Ext.drewN' ?_ _ | with_reducible refine Ext.alloc ?_ _ | (with_reducible refine Ext.setNew ?_ (by first | exact Nat.le_refl _ | (simp; done) | (simp; omega) | omega) _)))) hE)
  replace E4 := Ext.trans E4 (Ext.trans (by (repeat (first | with_reducible assumption | with_reducible exact Ext.refl _ | with_reducible refine Ext.drew' ?_ | with_reducible refine Ext.drewN' ?_ _ | with_reducible refine Ext.alloc ?_ _ | (with_reducible refine Ext.setNew ?_ (by first | exact Nat.le_refl _ | (simp; done) | (simp; omega) | omega) _)))) hE)
  replace gx := gx.ext (Ext.trans (by (repeat (first | with_reducible assumption | with_reducible exact Ext.refl _ | with_reducible refine Ext.drew' ?_ | with_reducible refine Ext.drewN' ?_ _ | with_reducible refine Ext.alloc ?_ _ | (with_reducible refine Ext.setNew ?_ (by first | exact Nat.le_refl _ | (simp; done) | (simp; omega) | omega) _)))) hE)
  replace rx := rx.ext (Ext.trans (by (repeat (first | with_reducible assumption | with_reducible exact Ext.refl _ | with_reducible refine Ext.drew' ?_ | with_reducible refine Ext.drewN' ?_ _ | with_reducible refine Ext.alloc ?_ _ | (with_reducible refine Ext.setNew ?_ (by first | exact Nat.le_refl _ | (simp; done) | (simp; omega) | omega) _)))) hE)
  replace mk := mk.ext (Ext.trans (by (repeat (first | with_reducible assumption | with_reducible exact Ext.refl _ | with_reducible refine Ext.drew' ?_ | with_reducible refine Ext.drewN' ?_ _ | with_reducible refine Ext.alloc ?_ _ | (with_reducible refine Ext.setNew ?_ (by first | exact Nat.le_refl _ | (simp; done) | (simp; omega) | omega) _)))) hE)
  replace y0 := y0.ext (Ext.trans (by (repeat (first | with_reducible assumption | with_reducible exact Ext.refl _ | with_reducible refine Ext.drew' ?_ | with_reducible refine Ext.drewN' ?_ _ | with_reducible refine Ext.alloc ?_ _ | (with_reducible refine Ext.setNew ?_ (by first | exact Nat.le_refl _ | (simp; done) | (simp; omega) | omega) _)))) hE)
  replace y1 := y1.ext (Ext.trans (by (repeat (first | with_reducible assumption | with_reducible exact Ext.refl _ | with_reducible refine Ext.drew' ?_ | with_reducible refine Ext.drewN' ?_ _ | with_reducible refine Ext.alloc ?_ _ | (with_reducible refine Ext.setNew ?_ (by first | exact Nat.le_refl _ | (simp; done) | (simp; omega) | omega) _)))) hE)
  replace h := h.ext (Ext.trans (by (repeat (first | with_reducible assumption | with_reducible exact Ext.refl _ | with_reducible refine Ext.drew' ?_ | with_reducible refine Ext.drewN' ?_ _ | with_reducible refine Ext.alloc ?_ _ | (with_reducible refine Ext.setNew ?_ (by first | exact Nat.le_refl _ | (simp; done) | (simp; omega) | omega) _)))) hE)
  replace hx := hx.ext (Ext.trans (by (repeat (first | with_reducible assumption | with_reducible exact Ext.refl _ | with_reducible refine Ext.drew' ?_ | with_reducible refine Ext.drewN' ?_ _ | with_reducible refine Ext.alloc ?_ _ | (with_reducible refine Ext.setNew ?_ (by first | exact Nat.le_refl _ | (simp; done) | (simp; omega) | omega) _)))) hE)
  clear hE
  go_wp2
  go_ret
  exact ⟨rfl, E⟩
theorem fnExactStepFabric_lifted (os : Os) (started : os.Started) (H : Type) (enc : TypeId × Value → H) :
    ReturnsInHanded {} Try.checked os 9 .any (Rows.fnExactStepFabricSpec.pre6 enc Try.prog Try.f9 Rows.fnExactStepFabricRow.domain false) (Rows.fnExactStepFabricSpec.post enc Try.prog Try.f9 false true false false) := by
  refine returnsInHanded_of_change (C := Try.checked) own started (by kernel_rfl) Try.func9
    (ChangeSpec.witness6 (enc := enc) (C := Try.checked) false ⟨#[], #[.agg #[.slice none 0 0, .slice none 0 0], .agg #[.slice none 0 0], .slice none 0 0], []⟩ 8 (by kernel_rfl) (by kernel_rfl) (by kernel_rfl) (by kernel_rfl)) ?_
  intro W base args ds gs before hval0 hW hcnd _
  have hval : ∀ (j : Nat) t v, Try.f9.params[j]? = some t → args[j]? = some v → Value.okWide Try.prog W .any base t v := hval0
  have hW' := hW
  obtain ⟨p, q, hA0, hV, rfl, hfz, hnd⟩ := hW
  have hA : DataW.TrodAll enc Try.prog W 0 (fun _ => true) true Try.f9.params.toList args.toList ds p := hA0
  rw [Try.params9] at hA hval
  obtain ⟨v0, vs0, d0, ds0, p0, q0, hargs, rfl, rfl, h0, r0⟩ := trodAll_cons hA
  obtain ⟨v1, vs1, d1, ds1, p1, q1, rfl, rfl, rfl, h1, r1⟩ := trodAll_cons r0
  obtain ⟨v2, vs2, d2, ds2, p2, q2, rfl, rfl, rfl, h2, r2⟩ := trodAll_cons r1
  obtain ⟨rfl, rfl, rfl⟩ := trodAll_nil r2
  obtain rfl : args = #[v0, v1, v2] := by cases args; simp_all
  obtain ⟨rfl, rfl⟩ := trodVars_none hV
  have k0 := h0
  have lt0 : ∀ x ∈ p0, x.block < W.heap.size := by obtain ⟨m, hm⟩ := k0; exact DataW.trod_lt m _ _ _ hm
  obtain ⟨f0, ta0, tc0, pa0, pc0, rfl, w0⟩ := open_conf (hval 0 33 v0 rfl rfl) h0
  have k1 := h1
  have lt1 : ∀ x ∈ p1, x.block < W.heap.size := by obtain ⟨m, hm⟩ := k1; exact DataW.trod_lt m _ _ _ hm
  obtain ⟨a1, cap1, z1, rfl, w1⟩ := open_state (hval 1 61 v1 rfl rfl) h1
  have k2 := h2
  have lt2 : ∀ x ∈ p2, x.block < W.heap.size := by obtain ⟨m, hm⟩ := k2; exact DataW.trod_lt m _ _ _ hm
  obtain ⟨a2, cap2, z2, rfl, w2⟩ := open_bools (hval 2 59 v2 rfl rfl) h2
  clear hA0 hval0
  refine (fnExactStepFabric_walk f0 ta0 tc0 pa0 pc0 a1 cap1 z1 a2 cap2 z2 W w0 w1 w2).mono fun e W' ⟨he, bel⟩ => ?_
  subst he
  exact ⟨_, rfl, _, _, _, [], _, [], hW', trodAll_mk1 (shut_bool Try.underlying4 _), (trodAll_cons_mk (Below.trod laidOut (by kernel_rfl) (of_decide_eq_true (by kernel_rfl)) k0 bel lt0) (trodAll_cons_mk (Below.trod laidOut (by kernel_rfl) (of_decide_eq_true (by kernel_rfl)) k1 bel lt1) (trodAll_cons_mk (Below.trod laidOut (by kernel_rfl) (of_decide_eq_true (by kernel_rfl)) k2 bel lt2) trodAll_mk0))), rfl, bel.frame _, fun h => by cases h⟩
theorem fnExactStepFabric_over : Rows.fnExactStepFabricRow.holds Try.pinned (OpenSpec.ofChange Rows.fnExactStepFabricSpec) :=
  OpenClaim.holds_of_wide 9 Try.f9 rfl rfl rfl rfl rfl rfl rfl ⟨rfl, rfl, rfl, rfl, rfl⟩ rfl rfl rfl rfl rfl (by kernel_rfl) Try.func9 (by kernel_rfl)
    (of_decide_eq_true (by kernel_rfl)) (by unfold Func.isWrapper; first | (rw [if_pos (by decide +kernel)]; kernel_rfl) | (rw [if_neg (by decide +kernel)]; exact ⟨rfl, rfl⟩))
    (fun os started H enc _ => fnExactStepFabric_lifted os started H enc)
theorem fnExactStepFabric_holds : Rows.FnExactStepFabricSaid := fnExactStepFabric_over
end Go.Proofs.Ytkdiniaddnhkdaa
