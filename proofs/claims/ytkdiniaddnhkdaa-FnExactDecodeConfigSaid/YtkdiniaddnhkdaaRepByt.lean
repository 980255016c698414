/- Slices of bytes that a call has given back, as the exact laws compare and mark them. -/
import Derived.Test.YtkdiniaddnhkdaaByt
import Derived.Test.YtkdiniaddnhkdaaRepB
namespace Go.Proofs.Ytkdiniaddnhkdaa
open Go.RowKit
set_option maxRecDepth 100000
set_option linter.unusedVariables false
set_option linter.unusedSimpArgs false
structure RepByt (w : World) (b N : Nat) (v : Value) (xs : List Int) : Prop where
  own : OwnY w b v xs
  up : ∀ k, v.ownBlock = some k → k < N
  small : xs.length ≤ 1048576
section
variable {w w' : World} {b b2 N : Nat} {v v' : Value} {xs : List Int}
theorem RepByt.ext (h : RepByt w b N v xs) (e : Ext w w') : RepByt w' b N v xs := ⟨h.own.ext e, h.up, h.small⟩
theorem RepByt.le (h : RepByt w b N v xs) (hb : b2 ≤ b) : RepByt w b2 N v xs := ⟨h.own.le hb, h.up, h.small⟩
theorem RepByt.hi {n m : Nat} (h : RepByt w b N v xs) (g : Mid n m w w') (hb : m ≤ b) : RepByt w' b N v xs := ⟨ownsRow_hi h.own g hb, h.up, h.small⟩
theorem RepByt.mid {n m : Nat} (h : RepByt w b N v xs) (g : Mid n m w w') (hb : b < n ∨ m ≤ b) (hx : m ≤ b := by omega) : RepByt w' b N v xs := h.hi g hx
theorem RepByt.byt {a : Option Addr} {n c : Nat} (h : RepByt w b N (.slice a n c) xs) : BytAt w a xs := h.own.byt
theorem GiveByt.rep {e : Ending} (h : GiveY w xs e w') (hs : xs.length ≤ 1048576 := by assumption) : ∃ v, e = .returned v ∧ RepByt w' w.heap.size w'.heap.size v xs ∧ Ext w w' := by
  obtain ⟨v, h1, h2, h3⟩ := h
  exact ⟨v, h1, ⟨h2, fun k hk => (h2.lt k hk).2, hs⟩, h3⟩
theorem toByteS_r (a : Option Addr) (c : Nat) (xs : List Int) (w : World) (hx : BytAt w a xs) (hl : xs.length ≤ 1048576) :
    Calls Try.prog 37 #[.slice a xs.length c] w fun e w' => ∃ a' c', e = .returned (.slice a' xs.length c') ∧ RepByt w' w.heap.size w'.heap.size (.slice a' xs.length c') xs ∧ Ext w w' := by
  refine (toByteS_c a c xs w hx hl).mono ?_
  rintro e w' ⟨v, rfl, h2, h3⟩
  obtain ⟨a', c', rfl, _⟩ := h2.opened
  exact ⟨a', c', rfl, ⟨h2, fun k hk => (h2.lt k hk).2, hl⟩, h3⟩
theorem eqByt_R {b3 N3 : Nat} (h : RepByt w b N v xs) (h' : RepByt w b3 N3 v' xs) : Calls Try.prog 33 #[v, v'] w fun e w' => e = .returned (.bool true) ∧ Ext w w' := by
  obtain ⟨a, c, rfl, hA⟩ := h.own.opened
  obtain ⟨a', c', rfl, hA'⟩ := h'.own.opened
  exact eqByteS_c _ _ _ _ xs w hA hA' h.small
theorem markByt_k {a : Option Addr} {n c : Nat} (h : RepByt w b N (.slice a n c) xs) (k : Int) (h0 : 0 ≤ k) (h1 : k ≤ 1000000000) : Calls Try.prog 34 #[.slice a n c, .int .i64 k] w fun e w' => e = .returned (.int .i64 (k + xs.length)) ∧ Mid b N w w' := by
  obtain ⟨a', c', e1, hA⟩ := h.own.opened
  cases e1
  refine (markByteS_o b a c xs k w h.own h0 h1 h.small).mono ?_
  rintro e w' ⟨rfl, h1, h2⟩
  exact ⟨rfl, Mid.ofOwn h2 (ownsRow_from h.own) h.up⟩
def MkByt (w : World) (v : Value) (km : Int) : Prop := ∃ n : Nat, km = 1 + n ∧ (∃ a c, v = .slice a n c ∧ BytAt w a (mksY 1 n)) ∧ n ≤ 1048576
theorem MkByt.ext {k : Int} (h : MkByt w v k) (e : Ext w w') : MkByt w' v k := by
  obtain ⟨n, h1, ⟨a, c, h2, h3⟩, h4⟩ := h
  exact ⟨n, h1, ⟨a, c, h2, h3.ext e⟩, h4⟩
theorem MkByt.kb {k : Int} (h : MkByt w v k) : 0 ≤ k ∧ k ≤ 100000000 := by
  obtain ⟨n, rfl, _, h4⟩ := h
  omega
theorem markByt_R (h : RepByt w b N v xs) : Calls Try.prog 34 #[v, .int .i64 1] w fun e w' => ∃ km, e = .returned (.int .i64 km) ∧ MkByt w' v km ∧ Mid b N w w' := by
  obtain ⟨a, c, rfl, hA⟩ := h.own.opened
  refine (markByteS_o b a c xs 1 w h.own (by omega) (by omega) h.small).mono ?_
  rintro e w' ⟨rfl, h1, h2⟩
  exact ⟨_, rfl, ⟨_, rfl, ⟨a, c, rfl, bytAt_of_row (ownsRow_at h1)⟩, h.small⟩, Mid.ofOwn h2 (ownsRow_from h.own) h.up⟩
theorem heldByt_R {km : Int} (h : MkByt w v km) : Calls Try.prog 35 #[v, .int .i64 1] w fun e w' => e = .returned (.int .i64 km) ∧ Ext w w' := by
  obtain ⟨n, rfl, ⟨a, c, rfl, hA⟩, h4⟩ := h
  refine (heldByteS_c a c n 1 w hA (by omega) (by omega) h4).mono ?_
  rintro e w' ⟨rfl, rfl⟩
  exact ⟨rfl, Ext.refl _⟩
end
end Go.Proofs.Ytkdiniaddnhkdaa
