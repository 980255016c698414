/- What the clock cycle keeps while it makes its result: two slices in a box, and boxes beside it. -/
import Derived.Test.YtkdiniaddnhkdaaWir0
import Derived.Test.YtkdiniaddnhkdaaOwnB
import Derived.Test.YtkdiniaddnhkdaaByt
namespace Go.Proofs.Ytkdiniaddnhkdaa
open Go.RowKit
set_option maxRecDepth 100000
set_option linter.unusedVariables false
set_option linter.unusedSimpArgs false
/-- The result of a clock cycle is given back: two slices, apart. -/
def GiveF (w : World) (outs next : List Bool) (e : Ending) (w' : World) : Prop := ∃ ov rv, e = .returned (.agg #[ov, rv]) ∧ OwnB w' w.heap.size ov outs ∧ OwnB w' w.heap.size rv next ∧ (∀ q, ov.ownBlock = some q → rv.ownBlock ≠ some q) ∧ Ext w w'
theorem outsV_succ (k : Conf) (regs ins : List Bool) (n : Nat) : outsV k regs ins (n + 1) = outsV k regs ins n ++ [(rdV (valW k regs ins) (n * 5 + 4) (k.ps.getD n (0, false)).1) != (k.ps.getD n (0, false)).2] := by simp [outsV, List.range_succ]
theorem nextV_succ (k : Conf) (regs ins : List Bool) (n : Nat) : nextV k regs ins (n + 1) = nextV k regs ins n ++ [(tileAt k n).rg && tabV k (valW k regs ins) n] := by simp [nextV, List.range_succ]
theorem outsV_len (k : Conf) (regs ins : List Bool) (n : Nat) : (outsV k regs ins n).length = n := by simp [outsV]
theorem nextV_len (k : Conf) (regs ins : List Bool) (n : Nat) : (nextV k regs ins n).length = n := by simp [nextV]
structure StO (w : World) (base rb : Nat) (bx : Nat → TypeId → List Value → Prop) (ov rv : Value) (xs ys : List Bool) (wr : World) : Prop where
  own : OwnB wr base ov xs
  own2 : OwnB wr base rv ys
  q : Blk wr rb 65 [ov, rv]
  dis : ∀ q, ov.ownBlock = some q → rv.ownBlock ≠ some q
  ext : Ext w wr
  oth : ∀ B t cs, bx B t cs → Blk wr B t cs ∧ B < base ∧ B ≠ rb
  hb : rb < base
  hw : w.heap.size ≤ rb
  hs : base ≤ wr.heap.size
section
variable {w wr w1 w8 : World} {base rb : Nat} {bx : Nat → TypeId → List Value → Prop} {ov rv v' : Value} {xs ys : List Bool}
theorem StO.box (h : StO w base rb bx ov rv xs ys wr) {B : Nat} {t : TypeId} {cs : List Value} (hb : bx B t cs) : Blk wr B t cs := (h.oth B t cs hb).1
theorem StO.ext' (h : StO w base rb bx ov rv xs ys wr) (e : Ext wr w1) : StO w base rb bx ov rv xs ys w1 :=
  { h with own := h.own.ext e, own2 := h.own2.ext e, q := h.q.ext e, ext := h.ext.trans e, oth := fun B t cs hb => ⟨(h.oth B t cs hb).1.ext e, (h.oth B t cs hb).2⟩, hs := Nat.le_trans h.hs e.size }
theorem StO.app1 (h : StO w base rb bx ov rv xs ys wr) (e : Ext wr w1) {b : Bool} (o8 : w8.ownsRow base 4 1 v' (xs.length + 1) (xs.map Value.bool ++ [.bool b])) (g8 : w1.grownBy w8 ov.ownBlock) (m8 : RowMoved w1 ov v') :
    StO w base rb bx v' rv (xs ++ [b]) ys (w8.setCell ⟨rb, 0, none⟩ v') := by
  have h1 := h.ext' e
  have hvl : v'.ownBlock ≠ some rb := fun q => by have := (World.ownsRow.lt o8 _ q).1; have := h.hb; omega
  have hol : ∀ q, ov.ownBlock = some q → base ≤ q := fun q hq => (h.own.lt' q hq).1
  refine { h with own := ?_, own2 := ?_, q := ?_, dis := ?_, ext := ?_, oth := ?_, hs := ?_ }
  · exact OwnB.setOther (OwnB.app (ys := [b]) rfl rfl o8) hvl _
  · exact OwnB.setOther (ownsRow_gr h1.own2 g8 (by
      cases hq : rv.ownBlock with
      | none => exact .inl rfl
      | some q => exact .inr (fun e2 => h.dis q e2.symm hq))) (fun q => by have h9 : base ≤ rb := (h.own2.lt' _ q).1; have := h.hb; omega) _
  · exact (h1.q.gr g8 (fun q => by have := hol _ q; have := h.hb; omega)).set 0 v'
  · intro q hq hr
    rcases m8 with m | ⟨k, hk, hlt⟩
    · rw [m] at hq; exact h.dis q hq hr
    · rw [hk] at hq
      have e2 := Option.some.inj hq
      have := (h1.own2.lt' q hr).2
      omega
  · exact Ext.setNew (ext_grown h1.ext g8 (fun k hk => by have := hol k hk; have := h.hb; have := h.hw; omega)) h.hw _
  · intro B t cs hb
    obtain ⟨a1, a2, a3⟩ := h1.oth B t cs hb
    exact ⟨(a1.gr g8 (fun q => by have := hol _ q; omega)).setOther a3 _, a2, a3⟩
  · have := g8.size; have := h1.hs; simp; omega
theorem StO.app2 (h : StO w base rb bx ov rv xs ys wr) (e : Ext wr w1) {b : Bool} (o8 : w8.ownsRow base 4 1 v' (ys.length + 1) (ys.map Value.bool ++ [.bool b])) (g8 : w1.grownBy w8 rv.ownBlock) (m8 : RowMoved w1 rv v') :
    StO w base rb bx ov v' xs (ys ++ [b]) (w8.setCell ⟨rb, 1, none⟩ v') := by
  have h1 := h.ext' e
  have hvl : v'.ownBlock ≠ some rb := fun q => by have := (World.ownsRow.lt o8 _ q).1; have := h.hb; omega
  have hol : ∀ q, rv.ownBlock = some q → base ≤ q := fun q hq => (h.own2.lt' q hq).1
  refine { h with own := ?_, own2 := ?_, q := ?_, dis := ?_, ext := ?_, oth := ?_, hs := ?_ }
  · exact OwnB.setOther (ownsRow_gr h1.own g8 (by
      cases hq : ov.ownBlock with
      | none => exact .inl rfl
      | some q => exact .inr (fun e2 => h.dis q hq e2.symm))) (fun q => by have h9 : base ≤ rb := (h.own.lt' _ q).1; have := h.hb; omega) _
  · exact OwnB.setOther (OwnB.app (ys := [b]) rfl rfl o8) hvl _
  · exact (h1.q.gr g8 (fun q => by have := hol _ q; have := h.hb; omega)).set 1 v'
  · intro q hq hr
    rcases m8 with m | ⟨k, hk, hlt⟩
    · rw [m] at hr; exact h.dis q hq hr
    · rw [hk] at hr
      have e2 := Option.some.inj hr
      have := (h1.own.lt' q hq).2
      omega
  · exact Ext.setNew (ext_grown h1.ext g8 (fun k hk => by have := hol k hk; have := h.hb; have := h.hw; omega)) h.hw _
  · intro B t cs hb
    obtain ⟨a1, a2, a3⟩ := h1.oth B t cs hb
    exact ⟨(a1.gr g8 (fun q => by have := hol _ q; omega)).setOther a3 _, a2, a3⟩
  · have := g8.size; have := h1.hs; simp; omega
end
end Go.Proofs.Ytkdiniaddnhkdaa
