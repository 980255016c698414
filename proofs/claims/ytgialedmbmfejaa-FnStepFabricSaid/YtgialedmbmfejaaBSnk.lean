/- Bundle: the sinks of a net, of both libraries. -/
import Derived.Test.YtgialedmbmfejaaBCel
namespace Go.Proofs.Ytgialedmbmfejaa
open Go.RowKit
set_option maxRecDepth 100000
set_option linter.unusedVariables false
set_option linter.unusedSimpArgs false
/-- The cells that use a net, in ascending order. -/
def sinkL (cs : List CellT) (net : Int) (k : Nat) : List Int := ((List.range k).filter (fun i => (cs.getD i cell0).ins.contains net)).map (fun (i : Nat) => (i : Int))
noncomputable def sinksV (c : Circ) (net : Int) : List Int := sinkL (cellsV c) net (cellsV c).length
theorem sinkL_succ (cs : List CellT) (net : Int) (k : Nat) : sinkL cs net (k + 1) = sinkL cs net k ++ if (cs.getD k cell0).ins.contains net then [(k : Int)] else [] := by
 unfold sinkL
 rw [List.range_succ, List.filter_append, List.map_append]
 congr 1
 rw [List.filter_cons, List.filter_nil]
 cases h : (cs.getD k cell0).ins.contains net <;> rfl
theorem sinkL_le (cs : List CellT) (net : Int) (k : Nat) : (sinkL cs net k).length ≤ k := by
 induction k with
 | zero => simp [sinkL]
 | succ k ih => rw [sinkL_succ]; split <;> simp <;> omega
theorem cells_sm (c : Circ) : (cellsV c).length ≤ 17 ∧ ∀ x ∈ cellsV c, x.ins.length ≤ 3 := by
 cases hv : validB c
 ·have e : cellsV c = [] := by unfold cellsV; rw [hv]; rfl
  rw [e]
  exact ⟨by simp, by simp⟩
 ·have V := validB_iff.1 hv
  have e : cellsV c = latchK c c.next.length ++ ((lutK c c.vars.toNat c.gates.length).2).map lutCell := by unfold cellsV; rw [hv]; rfl
  have hi0 := V.i0
  have h1 := lutK_sm V (n := c.vars.toNat) (by unfold Circ.vars Circ.first; omega) c.gates.length (Nat.le_refl _)
  have h2 := lutK_count c c.vars.toNat c.gates.length
  have lg := V.lg
  have ln := V.ln
  have hll := latchK_length c c.next.length
  rw [e]
  refine ⟨by rw [List.length_append, List.length_map]; omega, fun x hx => ?_⟩
  rcases List.mem_append.1 hx with h | h
  ·obtain ⟨i, _, rfl⟩ := List.mem_map.1 h
   unfold latchCell
   split <;> simp
  ·obtain ⟨y, hy, rfl⟩ := List.mem_map.1 h
   exact h1 y hy
end Go.Proofs.Ytgialedmbmfejaa

namespace Go.Proofs.Ytgialedmbmfejaa
open Go.RowKit
set_option maxRecDepth 100000
set_option linter.unusedVariables false
set_option linter.unusedSimpArgs false
set_option maxHeartbeats 4000000 in
theorem l6Sinks_c (ca : Option Addr) (cc : Nat) (cs : List CellT) (F : List Nat) (net : Int) (w : World) (hN : NstC w (.slice ca cs.length cc) cs F) (hl : cs.length ≤ 17) (hs : ∀ x ∈ cs, Asc x.ins ∧ x.ins.length ≤ 3) :
  Calls Try.prog 139 #[.slice ca cs.length cc, .int .i64 net] w (GiveNL w (sinkL cs net cs.length)) := by
 obtain ⟨D, hD⟩ : ∃ D, D = sinkL cs net cs.length := ⟨_, rfl⟩
 rw [← hD]
 have HDD := Lib.hid hD
 have HS := Lib.hid hs
 have HN := Lib.hid hN
 have O0 : OwnInts (w.alloc (.cells #[] 3)) w.heap.size 3 (.slice (some ⟨w.heap.size, 0, none⟩) 0 0) (sinkL cs net 0) := (Blk.at w [] 3 rfl).owns (n := 0) (size := 1) rfl (Nat.le_refl _) (by decide)
 have E0 := (Ext.refl w).alloc (.cells #[] 3)
 clear hD hs hN
 go_enter Try.func139, Try.ntmps139
 go_wp2_with fail
 go_loopw [5, 6] (fun u5 u6 wr => ∃ k : Nat, k ≤ cs.length ∧ u6 = .int .i64 k ∧ OwnInts wr w.heap.size 3 u5 (sinkL cs net k) ∧ Ext w wr) (fun _ v _ => cs.length - (intOf v).toNat)
 case atStart => exact ⟨0, Nat.zero_le _, rfl, O0, E0⟩
 case round =>
  clear O0 E0
  obtain ⟨k, hk, rfl, hO, hE⟩ := hrel
  by_cases hlt : k < cs.length
  ·have hsn := sinkL_succ cs net k
   have hle := sinkL_le cs net k
   obtain ⟨hasc, hl3⟩ := HS.out _ (getN_mem (d := cell0) hlt)
   obtain ⟨S, hS⟩ : ∃ S, S = sinkL cs net k := ⟨_, rfl⟩
   rw [← hS] at hO hle hsn
   obtain ⟨I, hI⟩ : ∃ I, I = (cs.getD k cell0).ins := ⟨_, rfl⟩
   rw [← hI] at hsn hasc hl3
   have HSN := Lib.hid hsn
   have HA := Lib.hid hasc
   have HI := Lib.hid hI
   clear hS hsn hasc hI
   go_wp2_with fail
   go_loopw [5, 7] (fun u5 u7 wr => ∃ j : Nat, j ≤ I.length ∧ u7 = .int .i64 j ∧ OwnInts wr w.heap.size 3 u5 (S ++ if (I.take j).contains net then [(k : Int)] else []) ∧ Ext w wr) (fun _ v _ => I.length - (intOf v).toNat)
   case atStart => exact ⟨0, Nat.zero_le _, rfl, by simpa using hO, hE⟩
   case round =>
    clear hO hE
    obtain ⟨j, hj, rfl, hO, hE⟩ := hrel
    obtain ⟨w2, rfl⟩ : ∃ z : World, z = wr := ⟨_, rfl⟩
    obtain ⟨g, rfl, hg, _, hcells⟩ := Nst.getN goodCell (HN.out.ext goodCell hE) (by omega)
    obtain ⟨ds, F1, ⟨v, rfl, o1, rfl⟩, q, _⟩ := hcells k cell0 hlt
    have r1 := q 1 _ (by omega) rfl
    obtain ⟨va, vc, rfl, hI, _⟩ := o1.opened
    rw [← HI.out] at r1 hI
    clear q hcells o1
    by_cases hlt2 : j < I.length
    ·obtain ⟨b9, o9, rfl, hb9, hc9⟩ := hI.get (by omega)
     have q9 := hc9 j hlt2
     have hta : (I.take (j + 1)).contains net = ((I.take j).contains net || (I.getD j 0 == net)) := by
      rw [take_snocD I j 0 hlt2, Bool.eq_iff_iff, Bool.or_eq_true, List.contains_iff_mem, List.contains_iff_mem, List.mem_append, List.mem_singleton, beq_iff_eq]
      exact or_congr Iff.rfl eq_comm
     have hnd : I.getD j 0 = net → (I.take j).contains net = false := by
      intro e
      rw [Bool.eq_false_iff]
      intro h
      have hm : net ∈ I.take j := by simpa using h
      obtain ⟨i, hi, e2⟩ := mem_getN (d := 0) hm
      have hij : i < j := by rw [List.length_take] at hi; omega
      refine asc_ne HA.out hij hlt2 ?_
      rw [e, ← e2, List.getD_eq_getElem?_getD, List.getD_eq_getElem?_getD, List.getElem?_take_of_lt hij]
     obtain ⟨z, hz⟩ : ∃ z, z = I.getD j 0 := ⟨_, rfl⟩
     rw [← hz] at q9 hta hnd
     obtain ⟨B, hB⟩ : ∃ B, B = (I.take j).contains net := ⟨_, rfl⟩
     rw [← hB] at hta hnd hO
     have HT := Lib.hid hta
     clear hc9 hz hta hB
     by_cases he : z = net
     ·have hb := hnd he
      subst hb he
      have hO' : OwnInts w2 w.heap.size 3 u5 S := by simpa using hO
      have hsz := hE.size
      clear hO hnd
      go_wp2_with (at_builtin; refine wpList_app tyInts (ownsRow_ext hO' (by (repeat (first | with_reducible assumption | with_reducible exact Ext.refl _ | with_reducible refine Ext.drew' ?_ | with_reducible refine Ext.drewN' ?_ _ | with_reducible refine Ext.alloc ?_ _ | (with_reducible refine Ext.setNew ?_ (by first | exact Nat.le_refl _ | (simp; done) | (simp; omega) | omega) _))))) (rowNew _ _ _ (by simp)) rfl (by simp [Value.oneCell']) (by omega) (by simp; omega) rfl rfl rfl rfl ?_; intro v9 w9 o9 g9 m9)
      have E9 : Ext w w9 := ext_grown (w1 := _) (Ext.trans hE (by (repeat (first | with_reducible assumption | with_reducible exact Ext.refl _ | with_reducible refine Ext.drew' ?_ | with_reducible refine Ext.drewN' ?_ _ | with_reducible refine Ext.alloc ?_ _ | (with_reducible refine Ext.setNew ?_ (by first | exact Nat.le_refl _ | (simp; done) | (simp; omega) | omega) _))))) g9 (fun q hq => (own_lo hO' q hq).1)
      have O9 : OwnInts w9 w.heap.size 3 v9 (S ++ [(k : Int)]) := own_app (xs := S) (ys := [(k : Int)]) rfl rfl o9
      go_roundw
      case rel => exact ⟨j + 1, by omega, by go_num, by rw [HT.out]; simpa using O9, E9⟩
      case measure => simp [intOf]; omega
     ·have he2 : (z == net) = false := by simp [he]
      clear hnd
      go_wp2_with fail
      go_roundw
      case rel => exact ⟨j + 1, by omega, by go_num, by rw [HT.out, he2, Bool.or_false]; exact hO, hE⟩
      case measure => simp [intOf]; omega
    ·have hj2 : j = I.length := by omega
     rw [hj2, List.take_length, ← HSN.out] at hO
     have hnn : ¬ ((j : Int) < (I.length : Int)) := by omega
     go_wp2_with fail
     go_roundw
     case rel => exact ⟨k + 1, by omega, by go_num, hO, hE⟩
     case measure => simp [intOf]; omega
  ·have hk2 : k = cs.length := by omega
   rw [hk2, ← HDD.out] at hO
   go_wp2_with fail
   go_ret
   exact ⟨_, rfl, hO, hE⟩
theorem lutK_asc {c : Circ} (V : c.Valid) {n : Nat} (hn : c.vars = (n : Int)) : ∀ k, k ≤ c.gates.length → ∀ x ∈ (lutK c n k).2, Asc x.lv := by
 intro k
 induction k with
 | zero => intro _ x hx; simp [lutK] at hx
 | succ k ih =>
  intro hk x hx
  rw [lutK, lutStep] at hx
  split at hx
  ·rcases List.mem_cons.1 hx with rfl | h
   ·have hi0 := V.i0
    have h := bestN_cut V (k := c.gates.length - 1 - k) (by omega)
    have hf0 : 0 ≤ c.first := by unfold Circ.first; omega
    have e : c.first.toNat + (c.gates.length - 1 - k) = n - 1 - k := by
     unfold Circ.vars at hn
     omega
    rw [e] at h
    exact h.asc
   ·exact ih (by omega) x h
  ·exact ih (by omega) x hx
theorem cells_asc {c : Circ} (V : c.Valid) : ∀ x ∈ cellsN c, Asc x.ins := by
 have hi0 := V.i0
 have h1 := lutK_asc V (n := c.vars.toNat) (by unfold Circ.vars Circ.first; omega) c.gates.length (Nat.le_refl _)
 intro x hx
 rcases List.mem_append.1 hx with h | h
 ·obtain ⟨i, _, rfl⟩ := List.mem_map.1 h
  unfold latchCell
  split <;> simp [Asc]
 ·obtain ⟨y, hy, rfl⟩ := List.mem_map.1 h
  exact h1 y hy
end Go.Proofs.Ytgialedmbmfejaa

