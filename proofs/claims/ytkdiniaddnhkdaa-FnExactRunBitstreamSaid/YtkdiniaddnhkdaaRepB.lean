/- Slices of truth values that a call gives back, as the exact laws compare and mark them. -/
import Derived.Test.YtkdiniaddnhkdaaMidB
import Derived.Test.YtkdiniaddnhkdaaMark
import Derived.Test.YtkdiniaddnhkdaaBoolG
namespace Go.Proofs.Ytkdiniaddnhkdaa
open Go.RowKit
set_option maxRecDepth 100000
set_option linter.unusedVariables false
set_option linter.unusedSimpArgs false
theorem Ext.size1 {w W : World} {o : Obj} (h : Ext (w.alloc o) W) : w.heap.size + 1 ≤ W.heap.size := by have := h.size; simpa using this
def ToBoolsRel (w : World) (xs : List Bool) (B : Nat) (u : Value) (wr : World) : Prop :=
  ∃ k : Nat, k ≤ xs.length ∧ u = .int .i64 k ∧ Blk wr B 4 ((upTo xs false xs.length k).map Value.bool) ∧ Ext w wr
theorem toBoolS_c (a : Option Addr) (c : Nat) (xs : List Bool) (w : World) (hx : BoolsAt w a xs) (hl : xs.length ≤ 1048576) :
    Calls Try.prog 42 #[.slice a xs.length c] w (MadeBools w xs) := by
  have hm := run_zeros' (P := Try.prog) 59 4 (.bool false) [.bool false] 1 Try.underlying59 boolInfo' rfl (by decide) (by decide) xs.length (by omega) w
  have L0 := Blk.at w (zeros [Value.bool false] xs.length) 4 (B := w.heap.size) rfl
  have L1 : Blk (w.alloc (.cells (zeros [Value.bool false] xs.length).toArray 4)) w.heap.size 4 ((upTo xs false xs.length 0).map Value.bool) := by
    rw [upTo_zero, List.map_replicate, ← zeros_one]; exact L0
  go_enter Try.func42, Try.ntmps42
  go_wp2_with fail
  go_loopw [4] (ToBoolsRel w xs w.heap.size) (fun i _ => xs.length - (intOf i).toNat)
  case atStart => exact ⟨0, Nat.zero_le _, rfl, L1, (Ext.refl w).alloc _⟩
  case round =>
    obtain ⟨k, hk, rfl, hB, hE⟩ := hrel
    clear L0 L1 hm
    by_cases hlt : k < xs.length
    · obtain ⟨b, o, rfl, hb, hc⟩ := (hx.ext hE).get (by omega)
      have q := hc k hlt
      have hs := upTo_set xs false k hlt
      have hl2 := upTo_length xs false k (by omega)
      have qc : ∃ u, wr.cell? ⟨w.heap.size, k, none⟩ = some u := ⟨_, hB.cell (List.getElem?_eq_getElem (by rw [List.length_map]; omega))⟩
      obtain ⟨u, qc⟩ := qc
      have fz := hB.frozen k
      obtain ⟨x, hxx⟩ : ∃ x, x = xs.getD k false := ⟨_, rfl⟩
      rw [← hxx] at q hs
      have HS := Lib.hid hs
      clear hs hl2 hc hxx
      go_wp2
      go_roundw
      case rel =>
        refine ⟨k + 1, by omega, by go_num, ?_, ?_⟩
        · rw [← HS.out, map_set]
          exact hB.set _ _
        · exact Ext.setNew hE (Nat.le_refl _) _
      case measure => simp [intOf]; omega
    · have hk2 : k = xs.length := by omega
      subst hk2
      rw [upTo_all] at hB
      go_wp2
      go_ret
      exact ⟨_, rfl, Nat.le_refl _, hB, hE⟩
/-- A slice of truth values that a call has given back: in blocks from b on, below N. -/
structure RepBools (w : World) (b N : Nat) (v : Value) (xs : List Bool) : Prop where
  own : OwnB w b v xs
  up : ∀ k, v.ownBlock = some k → k < N
  small : xs.length ≤ 1048576
section
variable {w w' : World} {b b2 N : Nat} {v v' : Value} {xs : List Bool}
theorem OwnB.lt (h : OwnB w b v xs) : ∀ k, v.ownBlock = some k → k < w.heap.size := by
  obtain ⟨_, h2⟩ := h
  rcases h2 with ⟨rfl, _⟩ | ⟨g, cap, cur, rfl, hb, hgg, rest⟩
  · intro k hk; cases hk
  · intro k hk; cases hk; exact (Array.getElem?_eq_some_iff.1 hgg).1
theorem RepBools.ext (h : RepBools w b N v xs) (e : Ext w w') : RepBools w' b N v xs := ⟨h.own.ext e, h.up, h.small⟩
theorem RepBools.le (h : RepBools w b N v xs) (hb : b2 ≤ b) : RepBools w b2 N v xs := ⟨h.own.le hb, h.up, h.small⟩
theorem RepBools.hi {n m : Nat} (h : RepBools w b N v xs) (g : Mid n m w w') (hb : m ≤ b) : RepBools w' b N v xs := ⟨ownsRow_hi h.own g hb, h.up, h.small⟩
theorem GiveBools.rep {e : Ending} (h : GiveB w xs e w') (hs : xs.length ≤ 1048576 := by assumption) : ∃ v, e = .returned v ∧ RepBools w' w.heap.size w'.heap.size v xs ∧ Ext w w' := by
  obtain ⟨v, h1, h2, h3⟩ := h
  exact ⟨v, h1, ⟨h2, h2.lt, hs⟩, h3⟩
theorem eqBools_R {b3 N3 : Nat} (h : RepBools w b N v xs) (h' : RepBools w b3 N3 v' xs) : Calls Try.prog 46 #[v, v'] w fun e w' => e = .returned (.bool true) ∧ Ext w w' := by
  obtain ⟨a, c, rfl, hA⟩ := h.own.opened
  obtain ⟨a', c', rfl, hA'⟩ := h'.own.opened
  exact eqBoolS_c _ _ _ _ xs w hA hA' h.small
/-- The slice after its elements have been marked, from the number k on. -/
structure MarkedBools (w : World) (v : Value) (n : Nat) (k : Int) : Prop where
  ex : ∃ a c, v = .slice a n c ∧ BoolsAt w a (mksB k n)
  small : n ≤ 1048576
theorem MarkedBools.ext {n : Nat} {k : Int} (h : MarkedBools w v n k) (e : Ext w w') : MarkedBools w' v n k := by
  obtain ⟨⟨a, c, h1, h2⟩, h3⟩ := h
  exact ⟨⟨a, c, h1, h2.ext e⟩, h3⟩
theorem markBools_k (h : RepBools w b N v xs) (k : Int) (h0 : 0 ≤ k) (h1 : k ≤ 1000000000) : Calls Try.prog 48 #[v, .int .i64 k] w fun e w' => e = .returned (.int .i64 (k + xs.length)) ∧ w'.ownsRow b 4 1 v xs.length ((mksB k xs.length).map Value.bool) ∧ w.grownBy w' v.ownBlock := by
  obtain ⟨a, c, rfl, hA⟩ := h.own.opened
  exact markBoolS_c b a c xs k w h.own h0 h1 h.small
theorem heldBools_k {n : Nat} {k : Int} (h : MarkedBools w v n k) (h0 : 0 ≤ k) (h1 : k ≤ 1000000000) : Calls Try.prog 101 #[v, .int .i64 k] w fun e w' => e = .returned (.int .i64 (k + n)) ∧ w = w' := by
  obtain ⟨⟨a, c, rfl, hA⟩, hs⟩ := h
  exact heldBoolS_c a c n k w hA h0 h1 hs
theorem MarkedBools.of {k : Int} {n : Nat} (h : w.ownsRow b 4 1 v n ((mksB k n).map Value.bool)) (hs : n ≤ 1048576) : MarkedBools w v n k := by
  obtain ⟨a, c, hv, hr, _⟩ := ownsRow_row h
  exact ⟨⟨a, c, hv, boolsAt_of_row hr⟩, hs⟩
theorem Mid.ofOwn {v : Value} (h : w.grownBy w' v.ownBlock) (h1 : ∀ k, v.ownBlock = some k → b ≤ k) (h2 : ∀ k, v.ownBlock = some k → k < N) : Mid b N w w' :=
  ⟨h.os, h.tape, h.output, h.size, fun i hi hr => h.block i hi (by intro e; have a1 := h1 i e.symm; have a2 := h2 i e.symm; omega)⟩
def MkBools (w : World) (v : Value) (km : Int) : Prop := ∃ n : Nat, km = 1 + n ∧ MarkedBools w v n 1
theorem MkBools.ext {k : Int} (h : MkBools w v k) (e : Ext w w') : MkBools w' v k := by
  obtain ⟨n, h1, h2⟩ := h
  exact ⟨n, h1, h2.ext e⟩
theorem MkBools.kb {k : Int} (h : MkBools w v k) : 0 ≤ k ∧ k ≤ 100000000 := by
  obtain ⟨n, rfl, h2⟩ := h
  have := h2.small
  omega
theorem markBools_R (h : RepBools w b N v xs) : Calls Try.prog 48 #[v, .int .i64 1] w fun e w' => ∃ km, e = .returned (.int .i64 km) ∧ MkBools w' v km ∧ Mid b N w w' := by
  refine (markBools_k h 1 (by omega) (by omega)).mono ?_
  rintro e w' ⟨rfl, h1, h2⟩
  exact ⟨_, rfl, ⟨_, rfl, MarkedBools.of h1 h.small⟩, Mid.ofOwn h2 (ownsRow_from h.own) h.up⟩
theorem heldBools_R {km : Int} (h : MkBools w v km) : Calls Try.prog 101 #[v, .int .i64 1] w fun e w' => e = .returned (.int .i64 km) ∧ Ext w w' := by
  obtain ⟨n, rfl, h2⟩ := h
  refine (heldBools_k h2 (by omega) (by omega)).mono ?_
  rintro e w' ⟨rfl, rfl⟩
  exact ⟨rfl, Ext.refl _⟩
end
end Go.Proofs.Ytkdiniaddnhkdaa
