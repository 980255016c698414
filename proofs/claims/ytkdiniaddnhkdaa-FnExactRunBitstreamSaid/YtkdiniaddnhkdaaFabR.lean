/- Contracts: the state in which all flip-flops are 0; how the exact laws copy, compare and mark states of the fabric. -/
import Derived.Test.YtkdiniaddnhkdaaMark
namespace Go.Proofs.Ytkdiniaddnhkdaa
open Go.RowKit
set_option maxRecDepth 100000
set_option linter.unusedVariables false
set_option linter.unusedSimpArgs false
theorem boolInfo : (Try.prog.info? 4).map (fun i => (i.zero, i.size, i.bytes)) = some (some (.bool false), 1, 1) := by kernel_rfl
def zer25 : List Value := (List.replicate 25 [Value.bool false]).flatten
theorem zer25_eq : zer25 = (List.replicate 25 false).map Value.bool := by unfold zer25; rfl
theorem make25 (w : World) : (Instr.makeSlice 59 (.int .i64 25) (.int .i64 25)).run Try.prog w = .ok (.slice (some ⟨w.heap.size, 0, none⟩) 25 25) (w.alloc (.cells zer25.toArray 4)) :=
  run_zeros (P := Try.prog) 59 4 (.bool false) [.bool false] 1 Try.underlying59 boolInfo rfl (by decide) (by decide) 25 (by decide) w
def ResetPost (w : World) (e : Ending) (w' : World) : Prop := ∃ B, e = .returned (.agg #[.slice (some ⟨B, 0, none⟩) 25 25]) ∧ w.heap.size ≤ B ∧ Blk w' B 4 ((List.replicate 25 false).map Value.bool) ∧ Ext w w'
theorem specReset_c (w : World) : Calls Try.prog 103 #[] w (ResetPost w) := by
  have hm := make25
  go_enter Try.func103, Try.ntmps103
  go_wp2
  refine bodyPost_ret (v := .agg #[.slice (some ⟨w.heap.size + 1, 0, none⟩) 25 25]) (by simp [results, Try.results103, go_sem]) rfl ?_
  refine ⟨_, rfl, by omega, ?_, by (repeat (first | with_reducible assumption | with_reducible exact Ext.refl _ | with_reducible refine Ext.drew' ?_ | with_reducible refine Ext.drewN' ?_ _ | with_reducible refine Ext.alloc ?_ _ | (with_reducible refine Ext.setNew ?_ (by first | exact Nat.le_refl _ | (simp; done) | (simp; omega) | omega) _)))⟩
  rw [← zer25_eq]
  repeat (first | with_reducible refine Blk.setOther ?_ (by simp) _ | with_reducible exact Blk.at _ _ _ (by simp))
theorem implReset_c (w : World) : Calls Try.prog 104 #[] w (ResetPost w) := by
  have hm := make25
  go_enter Try.func104, Try.ntmps104
  go_wp2
  refine bodyPost_ret (v := .agg #[.slice (some ⟨w.heap.size + 1, 0, none⟩) 25 25]) (by simp [results, Try.results104, go_sem]) rfl ?_
  refine ⟨_, rfl, by omega, ?_, by (repeat (first | with_reducible assumption | with_reducible exact Ext.refl _ | with_reducible refine Ext.drew' ?_ | with_reducible refine Ext.drewN' ?_ _ | with_reducible refine Ext.alloc ?_ _ | (with_reducible refine Ext.setNew ?_ (by first | exact Nat.le_refl _ | (simp; done) | (simp; omega) | omega) _)))⟩
  rw [← zer25_eq]
  repeat (first | with_reducible refine Blk.setOther ?_ (by simp) _ | with_reducible exact Blk.at _ _ _ (by simp))
theorem eqFabricState_c (a b : Option Addr) (c d n : Nat) (xs : List Bool) (hn : xs.length = n) (w : World) (hx : BoolsAt w a xs) (hy : BoolsAt w b xs) (hl : xs.length ≤ 1048576) :
    Calls Try.prog 45 #[.agg #[.slice a n c], .agg #[.slice b n d]] w fun e w' => e = .returned (.bool true) ∧ Ext w w' := by
  subst hn
  go_enter Try.func45, Try.ntmps45
  go_wp2_with fail
  refine (eqBoolS_c _ _ _ _ _ _ (hx.ext (by (repeat (first | with_reducible assumption | with_reducible exact Ext.refl _ | with_reducible refine Ext.drew' ?_ | with_reducible refine Ext.drewN' ?_ _ | with_reducible refine Ext.alloc ?_ _ | (with_reducible refine Ext.setNew ?_ (by first | exact Nat.le_refl _ | (simp; done) | (simp; omega) | omega) _))))) (hy.ext (by (repeat (first | with_reducible assumption | with_reducible exact Ext.refl _ | with_reducible refine Ext.drew' ?_ | with_reducible refine Ext.drewN' ?_ _ | with_reducible refine Ext.alloc ?_ _ | (with_reducible refine Ext.setNew ?_ (by first | exact Nat.le_refl _ | (simp; done) | (simp; omega) | omega) _))))) hl).mono ?_
  rintro e w1 ⟨rfl, hE1⟩
  have E1 := Ext.trans (a := w) (by (repeat (first | with_reducible assumption | with_reducible exact Ext.refl _ | with_reducible refine Ext.drew' ?_ | with_reducible refine Ext.drewN' ?_ _ | with_reducible refine Ext.alloc ?_ _ | (with_reducible refine Ext.setNew ?_ (by first | exact Nat.le_refl _ | (simp; done) | (simp; omega) | omega) _)))) hE1
  go_wp2
  go_ret
  exact ⟨rfl, E1⟩
theorem markFabricState_c (base g c n : Nat) (xs : List Bool) (hn : xs.length = n) (k : Int) (w : World) (ho : w.ownsRow base 4 1 (.slice (some ⟨g, 0, none⟩) n c) n (xs.map Value.bool)) (h0 : 0 ≤ k) (h1 : k ≤ 1000000000) (hl : xs.length ≤ 1048576) :
    Calls Try.prog 47 #[.agg #[.slice (some ⟨g, 0, none⟩) n c], .int .i64 k] w fun e w' => e = .returned (.int .i64 (k + n)) ∧ w'.ownsRow base 4 1 (.slice (some ⟨g, 0, none⟩) n c) n ((mksB k n).map Value.bool) ∧ w.grownBy w' (some g) := by
  subst hn
  go_enter Try.func47, Try.ntmps47
  go_wp2_with fail
  refine (markBoolS_c base _ _ xs k _ (ownsRow_ext ho (by (repeat (first | with_reducible assumption | with_reducible exact Ext.refl _ | with_reducible refine Ext.drew' ?_ | with_reducible refine Ext.drewN' ?_ _ | with_reducible refine Ext.alloc ?_ _ | (with_reducible refine Ext.setNew ?_ (by first | exact Nat.le_refl _ | (simp; done) | (simp; omega) | omega) _))))) h0 h1 hl).mono ?_
  rintro e w1 ⟨rfl, hO, hG⟩
  go_wp2
  go_ret
  exact ⟨rfl, hO, Gr.trans (Gr.ext (by (repeat (first | with_reducible assumption | with_reducible exact Ext.refl _ | with_reducible refine Ext.drew' ?_ | with_reducible refine Ext.drewN' ?_ _ | with_reducible refine Ext.alloc ?_ _ | (with_reducible refine Ext.setNew ?_ (by first | exact Nat.le_refl _ | (simp; done) | (simp; omega) | omega) _)))) _) hG⟩
theorem heldFabricState_c (a : Option Addr) (c n : Nat) (k : Int) (w : World) (hx : BoolsAt w a (mksB k n)) (h0 : 0 ≤ k) (h1 : k ≤ 1000000000) (hl : n ≤ 1048576) :
    Calls Try.prog 102 #[.agg #[.slice a n c], .int .i64 k] w fun e w' => e = .returned (.int .i64 (k + n)) ∧ Ext w w' := by
  go_enter Try.func102, Try.ntmps102
  go_wp2_with fail
  refine (heldBoolS_c _ _ _ k _ (hx.ext (by (repeat (first | with_reducible assumption | with_reducible exact Ext.refl _ | with_reducible refine Ext.drew' ?_ | with_reducible refine Ext.drewN' ?_ _ | with_reducible refine Ext.alloc ?_ _ | (with_reducible refine Ext.setNew ?_ (by first | exact Nat.le_refl _ | (simp; done) | (simp; omega) | omega) _))))) h0 h1 hl).mono ?_
  rintro e w1 ⟨rfl, rfl⟩
  go_wp2
  go_ret
  exact ⟨rfl, by (repeat (first | with_reducible assumption | with_reducible exact Ext.refl _ | with_reducible refine Ext.drew' ?_ | with_reducible refine Ext.drewN' ?_ _ | with_reducible refine Ext.alloc ?_ _ | (with_reducible refine Ext.setNew ?_ (by first | exact Nat.le_refl _ | (simp; done) | (simp; omega) | omega) _)))⟩
end Go.Proofs.Ytkdiniaddnhkdaa
