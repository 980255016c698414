/- How the exact laws mark their arguments; what such marks leave as it was. -/
import Derived.Test.YtpkbkcnpfigbgaaExact
import Derived.Test.YtpkbkcnpfigbgaaMark
namespace Go.Proofs.Ytpkbkcnpfigbgaa
open Go.RowKit
set_option maxRecDepth 100000
set_option linter.unusedVariables false
set_option linter.unusedSimpArgs false
/-- Of the old blocks, only those from b up to N may have changed. -/
structure Mid (b N : Nat) (w w' : World) : Prop where
  os : w'.os = w.os
  tape : w'.tape = w.tape
  output : w'.output = w.output
  size : w.heap.size ≤ w'.heap.size
  block : ∀ k, k < w.heap.size → (k < b ∨ N ≤ k) → w'.heap[k]? = w.heap[k]?
section
variable {b N : Nat} {w w' w'' a : World}
theorem Mid.refl (w : World) : Mid b N w w := ⟨rfl, rfl, rfl, Nat.le_refl _, fun _ _ _ => rfl⟩
theorem Mid.trans (h : Mid b N w w') (k : Mid b N w' w'') : Mid b N w w'' :=
  ⟨k.os.trans h.os, k.tape.trans h.tape, k.output.trans h.output, Nat.le_trans h.size k.size, fun i hi hr => (k.block i (Nat.lt_of_lt_of_le hi h.size) hr).trans (h.block i hi hr)⟩
theorem Mid.ofExt (h : Ext w w') : Mid b N w w' := ⟨Below.os h, Below.tape h, Below.output h, Below.size h, fun i hi _ => Below.block h i hi⟩
theorem Mid.ofGr {B : Nat} (h : w.grownBy w' (some B)) (h1 : b ≤ B) (h2 : B < N) : Mid b N w w' :=
  ⟨h.os, h.tape, h.output, h.size, fun i hi hr => h.block i hi (by intro e; have e2 := Option.some.inj e; omega)⟩
theorem Mid.wider {b2 N2 : Nat} (h : Mid b N w w') (h1 : b2 ≤ b) (h2 : N ≤ N2) : Mid b2 N2 w w' :=
  ⟨h.os, h.tape, h.output, h.size, fun i hi hr => h.block i hi (by omega)⟩
theorem Ext.mid (h : Ext a w) (m : Mid b N w w') (hb : a.heap.size ≤ b) : Ext a w' :=
  ⟨m.os.trans (Below.os h), m.tape.trans (Below.tape h), m.output.trans (Below.output h), Nat.le_trans h.size m.size, fun k hk => (m.block k (Nat.lt_of_lt_of_le hk h.size) (.inl (by omega))).trans (Below.block h k hk)⟩
theorem Mid.ext2 (h : Mid b N w w') (e : Ext w' w'') : Mid b N w w'' := h.trans (Mid.ofExt e)
theorem Mid.cell (h : Mid b N w w') {k : Nat} (hk : k < w.heap.size) (hr : k < b ∨ N ≤ k) (o : Nat) : w'.cell? ⟨k, o, none⟩ = w.cell? ⟨k, o, none⟩ :=
  World.cell?_of_block (a := ⟨k, o, none⟩) (h.block k hk hr)
theorem Blk.mid {B : Nat} {t : TypeId} {cs : List Value} (h : Blk w B t cs) (m : Mid b N w w') (hr : B < b ∨ N ≤ B) : Blk w' B t cs := (m.block B h.lt hr).trans h
theorem CircBox.mid {B : Nat} {c : Circ} {p : Where3} (h : CircBox w B c p) (m : Mid b N w w') (hr : B < b ∨ N ≤ B) : CircBox w' B c p :=
  ⟨Nat.lt_of_lt_of_le h.lt m.size, (m.cell h.lt hr 0).trans h.h0, (m.cell h.lt hr 1).trans h.h1, (m.cell h.lt hr 2).trans h.h2, (m.cell h.lt hr 3).trans h.h3⟩
theorem ownsRow_mid {base : Nat} {e : TypeId} {size : Nat} {v : Value} {n : Nat} {xs : List Value} (h : w.ownsRow base e size v n xs) (m : Mid b N w w') (hr : ∀ k, v.ownBlock = some k → k < b ∨ N ≤ k) : w'.ownsRow base e size v n xs := by
  refine ⟨h.1, ?_⟩
  rcases h.2 with hn | ⟨g, cap, cur, rfl, hb, hgg, rest⟩
  · exact .inl hn
  · exact .inr ⟨g, cap, cur, rfl, hb, (m.block g (Array.getElem?_eq_some_iff.1 hgg).1 (hr g rfl)).trans hgg, rest⟩
theorem ownsRow_from {base : Nat} {e : TypeId} {size : Nat} {v : Value} {n : Nat} {xs : List Value} (h : w.ownsRow base e size v n xs) : ∀ k, v.ownBlock = some k → base ≤ k := by
  rcases h.2 with ⟨rfl, _⟩ | ⟨g, cap, cur, rfl, hb, hgg, rest⟩
  · intro k hk; cases hk
  · intro k hk; cases hk; exact hb
theorem ownsRow_hi {base : Nat} {e : TypeId} {size : Nat} {v : Value} {n : Nat} {xs : List Value} (h : w.ownsRow base e size v n xs) (m : Mid b N w w') (hr : N ≤ base) : w'.ownsRow base e size v n xs :=
  ownsRow_mid h m (fun k hk => .inr (Nat.le_trans hr (ownsRow_from h k hk)))
end
theorem markIntS_c (B c n : Nat) (cs : List Value) (hn : cs.length = n) (k : Int) (w : World) (ho : Blk w B 3 cs) (h0 : 0 ≤ k) (h1 : k ≤ 1000000000) (hl : n ≤ 1048576) :
    Calls Try.prog 94 #[.slice (some ⟨B, 0, none⟩) n c, .int .i64 k] w fun e w' => e = .returned (.int .i64 (k + n)) ∧ (∃ cs', cs'.length = n ∧ Blk w' B 3 cs') ∧ w.grownBy w' (some B) := by
  go_enter Try.func94, Try.ntmps94
  go_wp2_with fail
  go_loopw [1, 5] (fun u1 u5 wr => ∃ (j : Nat) (cs : List Value), j ≤ n ∧ cs.length = n ∧ u5 = .int .i64 j ∧ u1 = .int .i64 (k + j) ∧ Blk wr B 3 cs ∧ w.grownBy wr (some B)) (fun _ i _ => n - (intOf i).toNat)
  case atStart => exact ⟨0, cs, Nat.zero_le _, hn, rfl, by simp, ho, Gr.refl _ _⟩
  case round =>
    obtain ⟨j, cs, hj, hcs, rfl, rfl, hO, hG⟩ := hrel
    by_cases hlt : j < n
    · obtain ⟨u, q⟩ : ∃ u, wr.cell? ⟨B, j, none⟩ = some u := ⟨_, hO.cell (List.getElem?_eq_getElem (by omega))⟩
      have fz := hO.frozen j
      go_wp2
      go_roundw
      case rel =>
        refine ⟨j + 1, _, by omega, ?_, by go_num, by go_num, hO.set _ _, gr_setOwn hG _ _⟩
        rw [List.length_set]; exact hcs
      case measure => simp [intOf]; omega
    · obtain rfl : j = n := by omega
      go_wp2
      go_ret
      exact ⟨rfl, ⟨cs, hcs, hO⟩, hG⟩
theorem markGateS_c (B c n : Nat) (cs : List Value) (hn : cs.length = n * 2) (k : Int) (w : World) (ho : Blk w B 133 cs) (h0 : 0 ≤ k) (h1 : k ≤ 1000000000) (hl : n ≤ 1048576) :
    Calls Try.prog 95 #[.slice (some ⟨B, 0, none⟩) n c, .int .i64 k] w fun e w' => e = .returned (.int .i64 (k + n * 2)) ∧ (∃ cs', cs'.length = n * 2 ∧ Blk w' B 133 cs') ∧ w.grownBy w' (some B) := by
  go_enter Try.func95, Try.ntmps95
  go_wp2_with fail
  go_loopw [1, 5] (fun u1 u5 wr => ∃ (j : Nat) (cs : List Value), j ≤ n ∧ cs.length = n * 2 ∧ u5 = .int .i64 j ∧ u1 = .int .i64 (k + j * 2) ∧ Blk wr B 133 cs ∧ w.grownBy wr (some B)) (fun _ i _ => n - (intOf i).toNat)
  case atStart => exact ⟨0, cs, Nat.zero_le _, hn, rfl, by simp, ho, Gr.refl _ _⟩
  case round =>
    obtain ⟨j, cs, hj, hcs, rfl, rfl, hO, hG⟩ := hrel
    by_cases hlt : j < n
    · obtain ⟨u, q⟩ : ∃ u, wr.cell? ⟨B, j * 2, none⟩ = some u := ⟨_, hO.cell (List.getElem?_eq_getElem (by omega))⟩
      obtain ⟨u2, q2⟩ : ∃ u, wr.cell? ⟨B, j * 2 + 1, none⟩ = some u := ⟨_, hO.cell (List.getElem?_eq_getElem (by omega))⟩
      have fz := fun i => hO.frozen i
      go_wp2
      go_roundw
      case rel =>
        refine ⟨j + 1, _, by omega, ?_, by go_num, by go_num, (hO.set _ _).set _ _, gr_setOwn (gr_setOwn hG _ _) _ _⟩
        rw [List.length_set, List.length_set]; exact hcs
      case measure => simp [intOf]; omega
    · obtain rfl : j = n := by omega
      go_wp2
      go_ret
      exact ⟨rfl, ⟨cs, hcs, hO⟩, hG⟩
theorem markCircuit_c (b N : Nat) (c : Circ) (p : Where3) (k : Int) (w : World) (hc : MadeAt w b N c p) (h0 : 0 ≤ k) (h1 : k ≤ 100000000) (ln : c.next.length ≤ 1048576) (lg : c.gates.length ≤ 1048576) (lo : c.outs.length ≤ 1048576) :
    Calls Try.prog 37 #[.agg #[.int .i64 c.inputs, .slice p.an c.next.length p.cn, .slice p.ag c.gates.length p.cg, .slice p.ao c.outs.length p.co], .int .i64 k] w fun e w' => (∃ k', e = .returned (.int .i64 k') ∧ k ≤ k' ∧ k' ≤ k + 10000000) ∧ Mid b N w w' := by
  obtain ⟨B1, B2, B3, rfl, l1, l2, l3, l4, k1, k2, k3⟩ := hc
  have lt3 := k3.lt
  have y := CircBox.made w c ⟨some ⟨B1, 0, none⟩, c.next.length, some ⟨B2, 0, none⟩, c.gates.length, some ⟨B3, 0, none⟩, c.outs.length⟩ 42
  go_enter Try.func37, Try.ntmps37
  go_wp2_with fail
  refine (markIntS_c B1 _ _ (c.next.map (Value.int .i64)) (by simp) k _ (k1.ext (by (repeat (first | with_reducible assumption | with_reducible exact Ext.refl _ | with_reducible refine Ext.drew' ?_ | with_reducible refine Ext.drewN' ?_ _ | with_reducible refine Ext.alloc ?_ _ | (with_reducible refine Ext.setNew ?_ (by first | exact Nat.le_refl _ | (simp; done) | (simp; omega) | omega) _))))) h0 (by omega) ln).mono ?_
  rintro e w1 ⟨rfl, ⟨cs1, n1, q1⟩, g1⟩
  have y1 : CircBox w1 _ _ _ := y.grn g1 (by simp; omega)
  have k2 := (k2.alloc _).gr g1 (by simp; omega)
  have k3 := (k3.alloc _).gr g1 (by simp; omega)
  have m1 : Mid b N w w1 := (Mid.ofExt (by (repeat (first | with_reducible assumption | with_reducible exact Ext.refl _ | with_reducible refine Ext.drew' ?_ | with_reducible refine Ext.drewN' ?_ _ | with_reducible refine Ext.alloc ?_ _ | (with_reducible refine Ext.setNew ?_ (by first | exact Nat.le_refl _ | (simp; done) | (simp; omega) | omega) _))))).trans (Mid.ofGr g1 (by omega) (by omega))
  (obtain ⟨la, a0, a1, a2, a3⟩ := (id y1))
  dsimp only at a0 a1 a2 a3
  go_wp2_with fail
  refine (markGateS_c B2 _ _ (flat c.gates) (flat_length _) _ _ k2 (by omega) (by omega) lg).mono ?_
  rintro e w2 ⟨rfl, ⟨cs2, n2, q2⟩, g2⟩
  have y2 : CircBox w2 _ _ _ := y1.grn g2 (by simp; omega)
  have k3 := k3.gr g2 (by simp; omega)
  have m2 : Mid b N w w2 := m1.trans (Mid.ofGr g2 (by omega) (by omega))
  clear a0 a1 a2 a3 la
  (obtain ⟨la, a0, a1, a2, a3⟩ := (id y2))
  dsimp only at a0 a1 a2 a3
  go_wp2_with fail
  refine (markIntS_c B3 _ _ (c.outs.map (Value.int .i64)) (by simp) _ _ k3 (by omega) (by omega) lo).mono ?_
  rintro e w3 ⟨rfl, ⟨cs3, n3, q3⟩, g3⟩
  have m3 : Mid b N w w3 := m2.trans (Mid.ofGr g3 (by omega) (by omega))
  go_wp2
  go_ret
  exact ⟨⟨_, rfl, by omega, by omega⟩, m3⟩
end Go.Proofs.Ytpkbkcnpfigbgaa
