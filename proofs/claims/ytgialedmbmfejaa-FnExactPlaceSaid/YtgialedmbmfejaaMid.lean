/- How the exact laws mark their arguments; what such marks leave as it was. -/
import Derived.Test.YtgialedmbmfejaaExact
import Derived.Test.YtgialedmbmfejaaMark
import Derived.Test.YtgialedmbmfejaaMidB
namespace Go.Proofs.Ytgialedmbmfejaa
open Go.RowKit
set_option maxRecDepth 100000
set_option linter.unusedVariables false
set_option linter.unusedSimpArgs false
section
variable {b N : Nat} {w w' : World}
theorem CircBox.mid {B : Nat} {c : Circ} {p : Where3} (h : CircBox w B c p) (m : Mid b N w w') (hr : B < b ∨ N ≤ B) : CircBox w' B c p :=
  ⟨Nat.lt_of_lt_of_le h.lt m.size, (m.cell h.lt hr 0).trans h.h0, (m.cell h.lt hr 1).trans h.h1, (m.cell h.lt hr 2).trans h.h2, (m.cell h.lt hr 3).trans h.h3⟩
end
theorem markIntS_c (B c n : Nat) (cs : List Value) (hn : cs.length = n) (k : Int) (w : World) (ho : Blk w B 3 cs) (h0 : 0 ≤ k) (h1 : k ≤ 1000000000) (hl : n ≤ 1048576) :
    Calls Try.prog 26 #[.slice (some ⟨B, 0, none⟩) n c, .int .i64 k] w fun e w' => e = .returned (.int .i64 (k + n)) ∧ (∃ cs', cs'.length = n ∧ Blk w' B 3 cs') ∧ w.grownBy w' (some B) := by
  go_enter Try.func26, Try.ntmps26
  go_wp2_with fail
  go_loopw [1, 5] (fun u1 u5 wr => ∃ (j : Nat) (cs : List Value), j ≤ n ∧ cs.length = n ∧ u5 = .int .i64 j ∧ u1 = .int .i64 (k + j) ∧ Blk wr B 3 cs ∧ w.grownBy wr (some B)) (fun _ i _ => n - (intOf i).toNat)
  case atStart => exact ⟨0, cs, Nat.zero_le _, hn, rfl, by simp, ho, Gr.refl _ _⟩
  case round =>
    obtain ⟨j, cs, hj, hcs, rfl, rfl, hO, hG⟩ := hrel
    by_cases hlt : j < n
    · obtain ⟨u, q⟩ : ∃ u, wr.cell? ⟨B, j, none⟩ = some u := ⟨_, hO.cell (List.getElem?_eq_getElem (by omega))⟩
      have fz := hO.frozen j
      go_wp2
      go_roundw
      case rel =>
        refine ⟨j + 1, _, by omega, ?_, by go_num, by go_num, hO.set _ _, gr_setOwn hG _ _⟩
        rw [List.length_set]; exact hcs
      case measure => simp [intOf]; omega
    · obtain rfl : j = n := by omega
      go_wp2
      go_ret
      exact ⟨rfl, ⟨cs, hcs, hO⟩, hG⟩
theorem markGateS_c (B c n : Nat) (cs : List Value) (hn : cs.length = n * 2) (k : Int) (w : World) (ho : Blk w B 100 cs) (h0 : 0 ≤ k) (h1 : k ≤ 1000000000) (hl : n ≤ 1048576) :
    Calls Try.prog 75 #[.slice (some ⟨B, 0, none⟩) n c, .int .i64 k] w fun e w' => e = .returned (.int .i64 (k + n * 2)) ∧ (∃ cs', cs'.length = n * 2 ∧ Blk w' B 100 cs') ∧ w.grownBy w' (some B) := by
  go_enter Try.func75, Try.ntmps75
  go_wp2_with fail
  go_loopw [1, 5] (fun u1 u5 wr => ∃ (j : Nat) (cs : List Value), j ≤ n ∧ cs.length = n * 2 ∧ u5 = .int .i64 j ∧ u1 = .int .i64 (k + j * 2) ∧ Blk wr B 100 cs ∧ w.grownBy wr (some B)) (fun _ i _ => n - (intOf i).toNat)
  case atStart => exact ⟨0, cs, Nat.zero_le _, hn, rfl, by simp, ho, Gr.refl _ _⟩
  case round =>
    obtain ⟨j, cs, hj, hcs, rfl, rfl, hO, hG⟩ := hrel
    by_cases hlt : j < n
    · obtain ⟨u, q⟩ : ∃ u, wr.cell? ⟨B, j * 2, none⟩ = some u := ⟨_, hO.cell (List.getElem?_eq_getElem (by omega))⟩
      obtain ⟨u2, q2⟩ : ∃ u, wr.cell? ⟨B, j * 2 + 1, none⟩ = some u := ⟨_, hO.cell (List.getElem?_eq_getElem (by omega))⟩
      have fz := fun i => hO.frozen i
      go_wp2
      go_roundw
      case rel =>
        refine ⟨j + 1, _, by omega, ?_, by go_num, by go_num, (hO.set _ _).set _ _, gr_setOwn (gr_setOwn hG _ _) _ _⟩
        rw [List.length_set, List.length_set]; exact hcs
      case measure => simp [intOf]; omega
    · obtain rfl : j = n := by omega
      go_wp2
      go_ret
      exact ⟨rfl, ⟨cs, hcs, hO⟩, hG⟩
theorem markCircuit_c (b N : Nat) (c : Circ) (p : Where3) (k : Int) (w : World) (hc : MadeAt w b N c p) (h0 : 0 ≤ k) (h1 : k ≤ 100000000) (ln : c.next.length ≤ 1048576) (lg : c.gates.length ≤ 1048576) (lo : c.outs.length ≤ 1048576) :
    Calls Try.prog 25 #[.agg #[.int .i64 c.inputs, .slice p.an c.next.length p.cn, .slice p.ag c.gates.length p.cg, .slice p.ao c.outs.length p.co], .int .i64 k] w fun e w' => (∃ k', e = .returned (.int .i64 k') ∧ k ≤ k' ∧ k' ≤ k + 10000000) ∧ Mid b N w w' := by
  obtain ⟨B1, B2, B3, rfl, l1, l2, l3, l4, k1, k2, k3⟩ := hc
  have lt3 := k3.lt
  have y := CircBox.made w c ⟨some ⟨B1, 0, none⟩, c.next.length, some ⟨B2, 0, none⟩, c.gates.length, some ⟨B3, 0, none⟩, c.outs.length⟩ 26
  go_enter Try.func25, Try.ntmps25
  go_wp2_with fail
  refine (markIntS_c B1 _ _ (c.next.map (Value.int .i64)) (by simp) k _ (k1.ext (by (repeat (first | with_reducible assumption | with_reducible exact Ext.refl _ | with_reducible refine Ext.drew' ?_ | with_reducible refine Ext.drewN' ?_ _ | with_reducible refine Ext.alloc ?_ _ | (with_reducible refine Ext.setNew ?_ (by first | exact Nat.le_refl _ | (simp; done) | (simp; omega) | omega) _))))) h0 (by omega) ln).mono ?_
  rintro e w1 ⟨rfl, ⟨cs1, n1, q1⟩, g1⟩
  have y1 : CircBox w1 _ _ _ := y.grn g1 (by simp; omega)
  have k2 := (k2.alloc _).gr g1 (by simp; omega)
  have k3 := (k3.alloc _).gr g1 (by simp; omega)
  have m1 : Mid b N w w1 := (Mid.ofExt (by (repeat (first | with_reducible assumption | with_reducible exact Ext.refl _ | with_reducible refine Ext.drew' ?_ | with_reducible refine Ext.drewN' ?_ _ | with_reducible refine Ext.alloc ?_ _ | (with_reducible refine Ext.setNew ?_ (by first | exact Nat.le_refl _ | (simp; done) | (simp; omega) | omega) _))))).trans (Mid.ofGr g1 (by omega) (by omega))
  (obtain ⟨la, a0, a1, a2, a3⟩ := (id y1))
  dsimp only at a0 a1 a2 a3
  go_wp2_with fail
  refine (markGateS_c B2 _ _ (flat c.gates) (flat_length _) _ _ k2 (by omega) (by omega) lg).mono ?_
  rintro e w2 ⟨rfl, ⟨cs2, n2, q2⟩, g2⟩
  have y2 : CircBox w2 _ _ _ := y1.grn g2 (by simp; omega)
  have k3 := k3.gr g2 (by simp; omega)
  have m2 : Mid b N w w2 := m1.trans (Mid.ofGr g2 (by omega) (by omega))
  clear a0 a1 a2 a3 la
  (obtain ⟨la, a0, a1, a2, a3⟩ := (id y2))
  dsimp only at a0 a1 a2 a3
  go_wp2_with fail
  refine (markIntS_c B3 _ _ (c.outs.map (Value.int .i64)) (by simp) _ _ k3 (by omega) (by omega) lo).mono ?_
  rintro e w3 ⟨rfl, ⟨cs3, n3, q3⟩, g3⟩
  have m3 : Mid b N w w3 := m2.trans (Mid.ofGr g3 (by omega) (by omega))
  go_wp2
  go_ret
  exact ⟨⟨_, rfl, by omega, by omega⟩, m3⟩
end Go.Proofs.Ytgialedmbmfejaa
