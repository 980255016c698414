/- Contracts of the helpers of the exact laws: sizes; copies and comparisons of slices of integers. -/
import Derived.Test.YtgialedmbmfejaaBlk
import Derived.Test.YtgialedmbmfejaaOwn
namespace Go.Proofs.Ytgialedmbmfejaa
open Go.RowKit
set_option maxRecDepth 100000
set_option linter.unusedVariables false
set_option linter.unusedSimpArgs false
def szL (n : Nat) (left : Int) : Int := if left - n < 0 then -1 else left - n
theorem szL_neg {n : Nat} {left : Int} (h : left - n < 0) : szL n left = -1 := by simp [szL, h]
theorem szL_pos {n : Nat} {left : Int} (h : ¬ left - n < 0) : szL n left = left - n := by simp only [szL, h, if_false]
theorem szIntS_c (a : Option Addr) (c n : Nat) (left : Int) (w : World) (hn : n ≤ maxLen) (h0 : 0 ≤ left) (h1 : left ≤ 1048576) :
  Calls Try.prog 71 #[.slice a n c, .int .i64 left] w fun e w' => e = .returned (.int .i64 (szL n left)) ∧ w = w' := by
 unfold maxLen at hn
 by_cases h : left - n < 0
 ·have E := Lib.hid (szL_neg h)
  go_enter Try.func71, Try.ntmps71
  go_wp2
  go_ret
  exact ⟨by rw [E.out]; rfl, rfl⟩
 ·have E := Lib.hid (szL_pos h)
  go_enter Try.func71, Try.ntmps71
  go_wp2
  go_ret
  exact ⟨by rw [E.out]; rfl, rfl⟩
theorem szGateS_c (a : Option Addr) (c n : Nat) (left : Int) (w : World) (hn : n ≤ maxLen) (h0 : 0 ≤ left) (h1 : left ≤ 1048576) :
  Calls Try.prog 72 #[.slice a n c, .int .i64 left] w fun e w' => e = .returned (.int .i64 (szL n left)) ∧ w = w' := by
 unfold maxLen at hn
 by_cases h : left - n < 0
 ·have E := Lib.hid (szL_neg h)
  go_enter Try.func72, Try.ntmps72
  go_wp2
  go_ret
  exact ⟨by rw [E.out]; rfl, rfl⟩
 ·have E := Lib.hid (szL_pos h)
  go_enter Try.func72, Try.ntmps72
  go_wp2
  go_ret
  exact ⟨by rw [E.out]; rfl, rfl⟩
theorem intInfo2 : (Try.prog.info? 3).map (fun i => (i.zero, i.size, i.bytes)) = some (some (.int .i64 0), 1, 8) := by kernel_rfl
/-- A new slice of integers, as the call makes it. -/
def MadeInts (w : World) (xs : List Int) (e : Ending) (w' : World) : Prop :=
 ∃ B, e = .returned (.slice (some ⟨B, 0, none⟩) xs.length xs.length) ∧ w.heap.size ≤ B ∧ Blk w' B 3 (xs.map (Value.int .i64)) ∧ Ext w w'
def ToIntsRel (w : World) (xs : List Int) (B : Nat) (u : Value) (wr : World) : Prop :=
 ∃ k : Nat, k ≤ xs.length ∧ u = .int .i64 k ∧ Blk wr B 3 ((upTo xs 0 xs.length k).map (Value.int .i64)) ∧ Ext w wr
theorem toIntS_c (a : Option Addr) (c : Nat) (xs : List Int) (w : World) (hx : IntsAt w a xs) (hl : xs.length ≤ 1048576) :
  Calls Try.prog 57 #[.slice a xs.length c] w (MadeInts w xs) := by
 have hm := run_make_row' (P := Try.prog) 23 3 (.int .i64 0) 8 Try.underlying23 intInfo2 rfl .i64 .i64 xs.length (by omega) (by omega) w
 have L0 : Blk (w.alloc (.cells (madeCells #[.int .i64 0] xs.length) 3)) w.heap.size 3 ((upTo xs 0 xs.length 0).map (Value.int .i64)) := by
  rw [zeros_cells, upTo_zero, List.map_replicate]
  exact Blk.new w _ _
 go_enter Try.func57, Try.ntmps57
 go_wp2_with fail
 go_loopw [4] (ToIntsRel w xs w.heap.size) (fun i _ => xs.length - (intOf i).toNat)
 case atStart => exact ⟨0, Nat.zero_le _, rfl, L0, (Ext.refl w).alloc _⟩
 case round =>
  obtain ⟨k, hk, rfl, hB, hE⟩ := hrel
  clear L0 hm
  by_cases hlt : k < xs.length
  ·obtain ⟨b, o, rfl, hb, hc⟩ := (hx.ext hE).get (by omega)
   have q := hc k hlt
   have hs := upTo_set xs 0 k hlt
   have hl2 := upTo_length xs 0 k (by omega)
   have qc : ∃ u, wr.cell? ⟨w.heap.size, k, none⟩ = some u := ⟨_, hB.cell (List.getElem?_eq_getElem (by rw [List.length_map]; omega))⟩
   obtain ⟨u, qc⟩ := qc
   have fz := hB.frozen k
   obtain ⟨x, hxx⟩ : ∃ x, x = xs.getD k 0 := ⟨_, rfl⟩
   rw [← hxx] at q hs
   have HS := Lib.hid hs
   clear hs hl2 hc hxx
   go_wp2
   go_roundw
   case rel =>
    refine ⟨k + 1, by omega, by go_num, ?_, ?_⟩
    ·rw [← HS.out, map_set]
     exact hB.set _ _
    ·exact Ext.setNew hE (Nat.le_refl _) _
   case measure => simp [intOf]; omega
  ·have hk2 : k = xs.length := by omega
   subst hk2
   rw [upTo_all] at hB
   go_wp2
   go_ret
   exact ⟨_, rfl, Nat.le_refl _, hB, hE⟩
theorem eqIntS_c (a b : Option Addr) (c d : Nat) (xs : List Int) (w : World) (hx : IntsAt w a xs) (hy : IntsAt w b xs) (hl : xs.length ≤ 1048576) :
  Calls Try.prog 23 #[.slice a xs.length c, .slice b xs.length d] w fun e w' => e = .returned (.bool true) ∧ Ext w w' := by
 go_enter Try.func23, Try.ntmps23
 go_wp2_with fail
 go_loopw [5] (fun i wr => ∃ k : Nat, k ≤ xs.length ∧ i = .int .i64 k ∧ Ext w wr) (fun i _ => xs.length - (intOf i).toNat)
 case atStart => exact ⟨0, Nat.zero_le _, rfl, Ext.refl w⟩
 case round =>
  obtain ⟨k, hk, rfl, hE⟩ := hrel
  by_cases hlt : k < xs.length
  ·obtain ⟨b1, o1, rfl, hb1, hc1⟩ := (hx.ext hE).get (by omega)
   obtain ⟨b2, o2, rfl, hb2, hc2⟩ := (hy.ext hE).get (by omega)
   have q1 := hc1 k hlt
   have q2 := hc2 k hlt
   obtain ⟨x, hxx⟩ : ∃ x, x = xs.getD k 0 := ⟨_, rfl⟩
   rw [← hxx] at q1 q2
   clear hc1 hc2 hxx
   go_wp2
   go_quiet (fail)
   go_wp2
   go_roundw
   case rel => exact ⟨k + 1, by omega, by go_num, by (repeat (first | assumption | (with_reducible refine Ext.drew' ?_) | exact Ext.refl _ | exact Ext.drew _ | exact Ext.drewN _ _ | (refine Ext.alloc ?_ _) | (refine Ext.drewN' ?_ _) | (refine Ext.setNew ?_ (by first | exact Nat.le_refl _ | (simp; done) | (simp; omega) | omega) _)))⟩
   case measure => simp [intOf]; omega
  ·go_wp2
   go_ret
   exact ⟨rfl, hE⟩
theorem szL_le2 (n : Nat) (left : Int) : -1 ≤ szL n left := by unfold szL; split <;> omega
theorem szL_ok {n : Nat} {left : Int} (h : ¬ szL n left < 0) : (n : Int) + szL n left = left ∧ 0 ≤ szL n left := by
 unfold szL at *
 split at h <;> rename_i h2
 ·omega
 ·rw [if_neg h2]; omega
end Go.Proofs.Ytgialedmbmfejaa
