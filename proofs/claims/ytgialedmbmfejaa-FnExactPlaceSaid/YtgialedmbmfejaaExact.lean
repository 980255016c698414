/- Contracts of the helpers of the exact laws: sizes, copies and comparisons of slices and circuits. -/
import Derived.Test.YtgialedmbmfejaaExInt
import Derived.Test.YtgialedmbmfejaaCirc
namespace Go.Proofs.Ytgialedmbmfejaa
open Go.RowKit
set_option maxRecDepth 100000
set_option linter.unusedVariables false
set_option linter.unusedSimpArgs false
def MadeGates (w : World) (xs : List (Int × Int)) (e : Ending) (w' : World) : Prop :=
  ∃ B, e = .returned (.slice (some ⟨B, 0, none⟩) xs.length xs.length) ∧ w.heap.size ≤ B ∧ Blk w' B 100 (flat xs) ∧ Ext w w'
theorem toGate_c (a b : Int) (w : World) :
    Calls Try.prog 111 #[.agg #[.int .i64 a, .int .i64 b]] w fun e w' => e = .returned (.agg #[.int .i64 a, .int .i64 b]) ∧ Ext w w' := by
  go_enter Try.func111, Try.ntmps111
  go_wp2
  refine bodyPost_ret (v := .agg #[.int .i64 a, .int .i64 b]) (by simp [results, Try.results111, go_sem]) rfl ?_
  refine ⟨rfl, ?_⟩
  repeat (first | exact Ext.refl _ | refine Ext.alloc ?_ _ | (refine Ext.setNew ?_ (by simp) _))
theorem gateInfo : (Try.prog.info? 100).map (fun i => (i.zero, i.size, i.bytes)) = some (some (.agg #[.int .i64 0, .int .i64 0]), 2, 16) := by kernel_rfl
def ToGatesRel (w : World) (xs : List (Int × Int)) (B : Nat) (u : Value) (wr : World) : Prop :=
  ∃ k : Nat, k ≤ xs.length ∧ u = .int .i64 k ∧ Blk wr B 100 (flat (upTo xs (0, 0) xs.length k)) ∧ Ext w wr
theorem toGateS_c (a : Option Addr) (c : Nat) (xs : List (Int × Int)) (w : World) (hx : PairsAt w a xs) (hl : xs.length ≤ 1048576) :
    Calls Try.prog 73 #[.slice a xs.length c] w (MadeGates w xs) := by
  have hm := run_zeros (P := Try.prog) 24 100 (.agg #[.int .i64 0, .int .i64 0]) [.int .i64 0, .int .i64 0] 16 Try.underlying24 gateInfo rfl (by decide) (by decide) xs.length hl w
  have L0 : Blk (w.alloc (.cells (List.replicate xs.length [Value.int .i64 0, .int .i64 0]).flatten.toArray 100)) w.heap.size 100 (flat (upTo xs (0, 0) xs.length 0)) := by
    have e : flat (upTo xs (0, 0) xs.length 0) = (List.replicate xs.length [Value.int .i64 0, .int .i64 0]).flatten := by rw [upTo_zero]; simp [flat, List.flatMap]
    rw [e]
    exact Blk.new w _ _
  go_enter Try.func73, Try.ntmps73
  go_wp2_with fail
  go_loopw [4] (ToGatesRel w xs w.heap.size) (fun i _ => xs.length - (intOf i).toNat)
  case atStart => exact ⟨0, Nat.zero_le _, rfl, L0, (Ext.refl w).alloc _⟩
  case round =>
    obtain ⟨k, hk, rfl, hB, hE⟩ := hrel
    clear L0 hm
    by_cases hlt : k < xs.length
    · obtain ⟨b, o, rfl, hb, hc1, hc2⟩ := (hx.ext hE).get (by omega)
      have q1 := hc1 k hlt
      have q2 := hc2 k hlt
      have hs := upTo_set xs (0, 0) k hlt
      have hl2 := upTo_length xs (0, 0) k (by omega)
      obtain ⟨x, hxx⟩ : ∃ x, x = xs.getD k (0, 0) := ⟨_, rfl⟩
      rw [← hxx] at q1 q2 hs
      have HS := Lib.hid hs
      have HL := Lib.hid hl2
      clear hs hl2 hc1 hc2 hxx
      go_wp2_with (go_at_call 111; refine (toGate_c _ _ _).mono ?_; rintro e w1 ⟨rfl, hE1⟩; have hB1 := hB.ext hE1; have z0 := hB1.cell (flat_get (upTo xs (0, 0) xs.length k) k (by rw [HL.out]; omega)).1; have z1 := hB1.cell (flat_get (upTo xs (0, 0) xs.length k) k (by rw [HL.out]; omega)).2; have fz := (fun i => hB1.frozen i))
      go_roundw
      case rel =>
        refine ⟨k + 1, by omega, by go_num, ?_, ?_⟩
        · rw [← HS.out, ← flat_set]
          exact (hB1.set _ _).set _ _
        · exact Ext.setNew (Ext.setNew (hE.trans hE1) (Nat.le_refl _) _) (Nat.le_refl _) _
      case measure => simp [intOf]; omega
    · have hk2 : k = xs.length := by omega
      subst hk2
      rw [upTo_all] at hB
      go_wp2
      go_ret
      exact ⟨_, rfl, Nat.le_refl _, hB, hE⟩
theorem eqGate_c (a b : Int) (w : World) :
    Calls Try.prog 112 #[.agg #[.int .i64 a, .int .i64 b], .agg #[.int .i64 a, .int .i64 b]] w fun e w' => e = .returned (.bool true) ∧ Ext w w' := by
  go_enter Try.func112, Try.ntmps112
  go_wp2
  go_ret
  exact ⟨rfl, ((Ext.refl w).alloc _).alloc _⟩
theorem eqGateS_c (a b : Option Addr) (c d : Nat) (xs : List (Int × Int)) (w : World) (hx : PairsAt w a xs) (hy : PairsAt w b xs) (hl : xs.length ≤ 1048576) :
    Calls Try.prog 74 #[.slice a xs.length c, .slice b xs.length d] w fun e w' => e = .returned (.bool true) ∧ Ext w w' := by
  go_enter Try.func74, Try.ntmps74
  go_wp2_with fail
  go_loopw [5] (fun i wr => ∃ k : Nat, k ≤ xs.length ∧ i = .int .i64 k ∧ Ext w wr) (fun i _ => xs.length - (intOf i).toNat)
  case atStart => exact ⟨0, Nat.zero_le _, rfl, Ext.refl w⟩
  case round =>
    obtain ⟨k, hk, rfl, hE⟩ := hrel
    by_cases hlt : k < xs.length
    · obtain ⟨b1, o1, rfl, hb1, hc1, hd1⟩ := (hx.ext hE).get (by omega)
      obtain ⟨b2, o2, rfl, hb2, hc2, hd2⟩ := (hy.ext hE).get (by omega)
      have q1 := hc1 k hlt
      have q2 := hc2 k hlt
      have q3 := hd1 k hlt
      have q4 := hd2 k hlt
      obtain ⟨x, hxx⟩ : ∃ x, x = (xs.getD k (0, 0)).1 := ⟨_, rfl⟩
      obtain ⟨y, hyy⟩ : ∃ x, x = (xs.getD k (0, 0)).2 := ⟨_, rfl⟩
      rw [← hxx] at q1 q2
      rw [← hyy] at q3 q4
      clear hc1 hc2 hxx hd1 hd2 hyy
      go_wp2
      go_region_held3 ((fun w' => (∀ b o, b < wr.heap.size → w'.cell? ⟨b, o, none⟩ = wr.cell? ⟨b, o, none⟩) ∧ Ext wr w')) ((first | assumption | (with_reducible exact held_mk (Ext.drew wr)) | (with_reducible exact held_mk (((Ext.refl wr).alloc _).drew')) | (with_reducible exact held_mk ((Ext.drew wr).alloc _)))) (first | (go_simp; go_at_call 112; refine (eqGate_c _ _ _).mono ?_; rintro e w2 ⟨rfl, hE2⟩; have hK2 := held_mk ((Ext.drew wr).trans hE2)))
      go_wp2
      go_roundw
      case rel => exact ⟨k + 1, by omega, by go_num, hE.trans (held_ext (by assumption))⟩
      case measure => simp [intOf]; omega
    · go_wp2
      go_ret
      exact ⟨rfl, hE⟩
def circV (c : Circ) (p : Where3) : Value := .agg #[.int .i64 c.inputs, .slice p.an c.next.length p.cn, .slice p.ag c.gates.length p.cg, .slice p.ao c.outs.length p.co]
/-- Where a circuit that has just been copied lies. -/
structure MadeAt (w : World) (b N : Nat) (c : Circ) (p : Where3) : Prop where
  ex : ∃ B1 B2 B3, p = ⟨some ⟨B1, 0, none⟩, c.next.length, some ⟨B2, 0, none⟩, c.gates.length, some ⟨B3, 0, none⟩, c.outs.length⟩ ∧ b ≤ B1 ∧ B1 < B2 ∧ B2 < B3 ∧ B3 < N ∧ Blk w B1 3 (c.next.map (Value.int .i64)) ∧ Blk w B2 100 (flat c.gates) ∧ Blk w B3 3 (c.outs.map (Value.int .i64))
theorem MadeAt.ext {w w' : World} {b N : Nat} {c : Circ} {p : Where3} (h : MadeAt w b N c p) (e : Ext w w') : MadeAt w' b N c p := by
  obtain ⟨B1, B2, B3, h0, h1, h2, h3, h4, k1, k2, k3⟩ := h
  exact ⟨B1, B2, B3, h0, h1, h2, h3, h4, k1.ext e, k2.ext e, k3.ext e⟩
def MadeCircB (w : World) (c : Circ) (e : Ending) (w' : World) : Prop :=
  ∃ p : Where3, e = .returned (.agg #[.int .i64 c.inputs, .slice p.an c.next.length p.cn, .slice p.ag c.gates.length p.cg, .slice p.ao c.outs.length p.co]) ∧ CircAt w' c p ∧ Ext w w' ∧ MadeAt w' w.heap.size w'.heap.size c p
def MadeCirc (w : World) (c : Circ) (e : Ending) (w' : World) : Prop :=
  ∃ p : Where3, e = .returned (.agg #[.int .i64 c.inputs, .slice p.an c.next.length p.cn, .slice p.ag c.gates.length p.cg, .slice p.ao c.outs.length p.co]) ∧ CircAt w' c p ∧ Ext w w'
theorem toCircuitB_c (c : Circ) (p : Where3) (w : World) (hc : CircAt w c p) :
    Calls Try.prog 22 #[.agg #[.int .i64 c.inputs, .slice p.an c.next.length p.cn, .slice p.ag c.gates.length p.cg, .slice p.ao c.outs.length p.co]] w (MadeCircB w c) := by
  have y := CircBox.made w c p 37
  have ln := hc.ln
  have lg := hc.lg
  have lo := hc.lo
  go_enter Try.func22, Try.ntmps22
  go_wp2_with fail
  refine (toIntS_c _ _ _ _ (hc.nx.ext (by (repeat (first | with_reducible assumption | with_reducible exact Ext.refl _ | with_reducible refine Ext.drew' ?_ | with_reducible refine Ext.drewN' ?_ _ | with_reducible refine Ext.alloc ?_ _ | (with_reducible refine Ext.setNew ?_ (by first | exact Nat.le_refl _ | (simp; done) | (simp; omega) | omega) _))))) ln).mono ?_
  rintro e w1 ⟨B1, rfl, hB1, hI1, hE1⟩
  have E1 := Ext.trans (a := w) (by (repeat (first | with_reducible assumption | with_reducible exact Ext.refl _ | with_reducible refine Ext.drew' ?_ | with_reducible refine Ext.drewN' ?_ _ | with_reducible refine Ext.alloc ?_ _ | (with_reducible refine Ext.setNew ?_ (by first | exact Nat.le_refl _ | (simp; done) | (simp; omega) | omega) _)))) hE1
  have F1 := Ext.trans (a := w.alloc _) (by (repeat (first | with_reducible assumption | with_reducible exact Ext.refl _ | with_reducible refine Ext.drew' ?_ | with_reducible refine Ext.drewN' ?_ _ | with_reducible refine Ext.alloc ?_ _ | (with_reducible refine Ext.setNew ?_ (by first | exact Nat.le_refl _ | (simp; done) | (simp; omega) | omega) _)))) hE1
  have Y1 := y.ext F1
  simp at hB1
  have k1 := (Blk.at ((w.alloc _).alloc _) [.int .i64 c.inputs, .slice none 0 0, .slice none 0 0, .slice none 0 0] 26 (B := w.heap.size + 1 + 1) (by simp)).ext hE1
  have r1 := ((Blk.at (w.alloc _) [.int .i64 0, .slice none 0 0, .slice none 0 0, .slice none 0 0] 26 (B := w.heap.size + 1) (by simp)).alloc _).ext hE1
  (obtain ⟨la, a0, a1, a2, a3⟩ := (id Y1))
  (have z0 := k1.cell (i := 0) rfl; have z1 := k1.cell (i := 1) rfl; have z2 := k1.cell (i := 2) rfl; have z3 := k1.cell (i := 3) rfl; have zf := (fun i => k1.frozen i))
  go_wp2_with fail
  refine (toGateS_c _ _ _ _ (hc.gs.ext (by (repeat (first | with_reducible assumption | with_reducible exact Ext.refl _ | with_reducible refine Ext.drew' ?_ | with_reducible refine Ext.drewN' ?_ _ | with_reducible refine Ext.alloc ?_ _ | (with_reducible refine Ext.setNew ?_ (by first | exact Nat.le_refl _ | (simp; done) | (simp; omega) | omega) _))))) lg).mono ?_
  rintro e w2 ⟨B2, rfl, hB2, hI2, hE2⟩
  have E2 := Ext.trans (a := w) (by (repeat (first | with_reducible assumption | with_reducible exact Ext.refl _ | with_reducible refine Ext.drew' ?_ | with_reducible refine Ext.drewN' ?_ _ | with_reducible refine Ext.alloc ?_ _ | (with_reducible refine Ext.setNew ?_ (by first | exact Nat.le_refl _ | (simp; done) | (simp; omega) | omega) _)))) hE2
  have F2 := Ext.trans (a := w.alloc _) (by (repeat (first | with_reducible assumption | with_reducible exact Ext.refl _ | with_reducible refine Ext.drew' ?_ | with_reducible refine Ext.drewN' ?_ _ | with_reducible refine Ext.alloc ?_ _ | (with_reducible refine Ext.setNew ?_ (by first | exact Nat.le_refl _ | (simp; done) | (simp; omega) | omega) _)))) hE2
  have Y2 := y.ext F2
  have s1 := hE1.size
  simp at s1
  have l1 := hI1.lt
  simp at hB2
  have l2 := hI2.lt
  have i1 := (hI1.setOther (by simp; omega) _).ext hE2
  have k2 := (k1.set 1 _).ext hE2
  have r2 := (r1.setOther (by simp) _).ext hE2
  clear a0 a1 a2 a3 z0 z1 z2 z3 zf la
  (obtain ⟨la, a0, a1, a2, a3⟩ := (id Y2))
  (have z0 := k2.cell (i := 0) rfl; have z1 := k2.cell (i := 1) rfl; have z2 := k2.cell (i := 2) rfl; have z3 := k2.cell (i := 3) rfl; have zf := (fun i => k2.frozen i))
  go_wp2_with fail
  refine (toIntS_c _ _ _ _ (hc.ou.ext (by (repeat (first | with_reducible assumption | with_reducible exact Ext.refl _ | with_reducible refine Ext.drew' ?_ | with_reducible refine Ext.drewN' ?_ _ | with_reducible refine Ext.alloc ?_ _ | (with_reducible refine Ext.setNew ?_ (by first | exact Nat.le_refl _ | (simp; done) | (simp; omega) | omega) _))))) lo).mono ?_
  rintro e w3 ⟨B3, rfl, hB3, hI3, hE3⟩
  have E3 := Ext.trans (a := w) (by (repeat (first | with_reducible assumption | with_reducible exact Ext.refl _ | with_reducible refine Ext.drew' ?_ | with_reducible refine Ext.drewN' ?_ _ | with_reducible refine Ext.alloc ?_ _ | (with_reducible refine Ext.setNew ?_ (by first | exact Nat.le_refl _ | (simp; done) | (simp; omega) | omega) _)))) hE3
  have k3 := (k2.set 2 _).ext hE3
  have r3 := (r2.setOther (by simp) _).ext hE3
  have s2 := hE2.size
  simp at s2
  simp at hB3
  have j1 := (i1.setOther (by simp; omega) _).ext hE3
  have j2 := (hI2.setOther (by simp; omega) _).ext hE3
  clear a0 a1 a2 a3 z0 z1 z2 z3 zf la
  (have z0 := k3.cell (i := 0) rfl; have z1 := k3.cell (i := 1) rfl; have z2 := k3.cell (i := 2) rfl; have z3 := k3.cell (i := 3) rfl; have zf := (fun i => k3.frozen i))
  (have y0 := r3.cell (i := 0) rfl; have y1 := r3.cell (i := 1) rfl; have y2 := r3.cell (i := 2) rfl; have y3 := r3.cell (i := 3) rfl; have yf := (fun i => r3.frozen i))
  go_wp2
  refine bodyPost_ret (v := .agg #[.int .i64 c.inputs, .slice (some ⟨B1, 0, none⟩) c.next.length c.next.length, .slice (some ⟨B2, 0, none⟩) c.gates.length c.gates.length, .slice (some ⟨B3, 0, none⟩) c.outs.length c.outs.length]) (by simp [results, Try.results22, go_sem, y0, y1, y2, y3]) rfl ?_
  refine (fun (G1 : Blk _ B1 3 (c.next.map (Value.int .i64))) (G2 : Blk _ B2 100 (flat c.gates)) (G3 : Blk _ B3 3 (c.outs.map (Value.int .i64))) GE => ⟨⟨some ⟨B1, 0, none⟩, c.next.length, some ⟨B2, 0, none⟩, c.gates.length, some ⟨B3, 0, none⟩, c.outs.length⟩, rfl, ⟨G1.ints, G2.pairs, G3.ints, ln, lg, lo⟩, GE, ⟨B1, B2, B3, rfl, by omega, by omega, by omega, G3.lt, G1, G2, G3⟩⟩) ?_ ?_ ?_ ?_
  · repeat (first | with_reducible exact j1 | with_reducible refine Blk.setOther ?_ (by simp; omega) _)
  · repeat (first | with_reducible exact j2 | with_reducible refine Blk.setOther ?_ (by simp; omega) _)
  · repeat (first | with_reducible exact hI3 | with_reducible refine Blk.setOther ?_ (by simp; omega) _)
  · (repeat (first | with_reducible assumption | with_reducible exact Ext.refl _ | with_reducible refine Ext.drew' ?_ | with_reducible refine Ext.drewN' ?_ _ | with_reducible refine Ext.alloc ?_ _ | (with_reducible refine Ext.setNew ?_ (by first | exact Nat.le_refl _ | (simp; done) | (simp; omega) | omega) _)))
theorem toCircuit_c (c : Circ) (p : Where3) (w : World) (hc : CircAt w c p) :
    Calls Try.prog 22 #[.agg #[.int .i64 c.inputs, .slice p.an c.next.length p.cn, .slice p.ag c.gates.length p.cg, .slice p.ao c.outs.length p.co]] w (MadeCirc w c) := by
  refine (toCircuitB_c c p w hc).mono ?_
  rintro e w' ⟨q, h1, h2, h3, _⟩
  exact ⟨q, h1, h2, h3⟩
theorem eqCircuit_c (c : Circ) (p q : Where3) (w : World) (hc : CircAt w c p) (hd : CircAt w c q) :
    Calls Try.prog 24 #[.agg #[.int .i64 c.inputs, .slice p.an c.next.length p.cn, .slice p.ag c.gates.length p.cg, .slice p.ao c.outs.length p.co], .agg #[.int .i64 c.inputs, .slice q.an c.next.length q.cn, .slice q.ag c.gates.length q.cg, .slice q.ao c.outs.length q.co]] w fun e w' => e = .returned (.bool true) ∧ Ext w w' := by
  have y := CircBox.made w c p 26
  have x := CircBox.at (w.alloc (.cells #[.int .i64 c.inputs, .slice p.an c.next.length p.cn, .slice p.ag c.gates.length p.cg, .slice p.ao c.outs.length p.co] 26)) c q 26 (B := w.heap.size + 1) (by simp)
  have y1 := y.ext ((Ext.refl _).alloc (.cells #[.int .i64 c.inputs, .slice q.an c.next.length q.cn, .slice q.ag c.gates.length q.cg, .slice q.ao c.outs.length q.co] 26))
  have ln := hc.ln
  have lg := hc.lg
  have lo := hc.lo
  go_enter Try.func24, Try.ntmps24
  go_wp2_with fail
  refine (eqIntS_c _ _ _ _ _ _ (hc.nx.ext (by (repeat (first | with_reducible assumption | with_reducible exact Ext.refl _ | with_reducible refine Ext.drew' ?_ | with_reducible refine Ext.drewN' ?_ _ | with_reducible refine Ext.alloc ?_ _ | (with_reducible refine Ext.setNew ?_ (by first | exact Nat.le_refl _ | (simp; done) | (simp; omega) | omega) _))))) (hd.nx.ext (by (repeat (first | with_reducible assumption | with_reducible exact Ext.refl _ | with_reducible refine Ext.drew' ?_ | with_reducible refine Ext.drewN' ?_ _ | with_reducible refine Ext.alloc ?_ _ | (with_reducible refine Ext.setNew ?_ (by first | exact Nat.le_refl _ | (simp; done) | (simp; omega) | omega) _))))) ln).mono ?_
  rintro e w1 ⟨rfl, hE1⟩
  have E1 := Ext.trans (a := w) (by (repeat (first | with_reducible assumption | with_reducible exact Ext.refl _ | with_reducible refine Ext.drew' ?_ | with_reducible refine Ext.drewN' ?_ _ | with_reducible refine Ext.alloc ?_ _ | (with_reducible refine Ext.setNew ?_ (by first | exact Nat.le_refl _ | (simp; done) | (simp; omega) | omega) _)))) hE1
  have y2 := y1.ext hE1
  have x2 := x.ext hE1
  (obtain ⟨la, a0, a1, a2, a3⟩ := (id y2))
  (obtain ⟨lb, b0, b1, b2, b3⟩ := (id x2))
  go_wp2_with fail
  refine (eqGateS_c _ _ _ _ _ _ (hc.gs.ext (by (repeat (first | with_reducible assumption | with_reducible exact Ext.refl _ | with_reducible refine Ext.drew' ?_ | with_reducible refine Ext.drewN' ?_ _ | with_reducible refine Ext.alloc ?_ _ | (with_reducible refine Ext.setNew ?_ (by first | exact Nat.le_refl _ | (simp; done) | (simp; omega) | omega) _))))) (hd.gs.ext (by (repeat (first | with_reducible assumption | with_reducible exact Ext.refl _ | with_reducible refine Ext.drew' ?_ | with_reducible refine Ext.drewN' ?_ _ | with_reducible refine Ext.alloc ?_ _ | (with_reducible refine Ext.setNew ?_ (by first | exact Nat.le_refl _ | (simp; done) | (simp; omega) | omega) _))))) lg).mono ?_
  rintro e w2 ⟨rfl, hE2⟩
  have E2 := Ext.trans (a := w) (by (repeat (first | with_reducible assumption | with_reducible exact Ext.refl _ | with_reducible refine Ext.drew' ?_ | with_reducible refine Ext.drewN' ?_ _ | with_reducible refine Ext.alloc ?_ _ | (with_reducible refine Ext.setNew ?_ (by first | exact Nat.le_refl _ | (simp; done) | (simp; omega) | omega) _)))) hE2
  have y3 := y2.ext hE2
  have x3 := x2.ext hE2
  clear a0 a1 a2 a3 b0 b1 b2 b3 la lb
  (obtain ⟨la, a0, a1, a2, a3⟩ := (id y3))
  (obtain ⟨lb, b0, b1, b2, b3⟩ := (id x3))
  go_wp2_with fail
  refine (eqIntS_c _ _ _ _ _ _ (hc.ou.ext (by (repeat (first | with_reducible assumption | with_reducible exact Ext.refl _ | with_reducible refine Ext.drew' ?_ | with_reducible refine Ext.drewN' ?_ _ | with_reducible refine Ext.alloc ?_ _ | (with_reducible refine Ext.setNew ?_ (by first | exact Nat.le_refl _ | (simp; done) | (simp; omega) | omega) _))))) (hd.ou.ext (by (repeat (first | with_reducible assumption | with_reducible exact Ext.refl _ | with_reducible refine Ext.drew' ?_ | with_reducible refine Ext.drewN' ?_ _ | with_reducible refine Ext.alloc ?_ _ | (with_reducible refine Ext.setNew ?_ (by first | exact Nat.le_refl _ | (simp; done) | (simp; omega) | omega) _))))) lo).mono ?_
  rintro e w3 ⟨rfl, hE3⟩
  have E3 := Ext.trans (a := w) (by (repeat (first | with_reducible assumption | with_reducible exact Ext.refl _ | with_reducible refine Ext.drew' ?_ | with_reducible refine Ext.drewN' ?_ _ | with_reducible refine Ext.alloc ?_ _ | (with_reducible refine Ext.setNew ?_ (by first | exact Nat.le_refl _ | (simp; done) | (simp; omega) | omega) _)))) hE3
  go_wp2
  go_ret
  exact ⟨rfl, E3⟩
def szC (c : Circ) (left : Int) : Int := if szL c.next.length left < 0 then -1 else if szL c.gates.length (szL c.next.length left) < 0 then -1 else if szL c.outs.length (szL c.gates.length (szL c.next.length left)) < 0 then -1 else szL c.outs.length (szL c.gates.length (szL c.next.length left))
theorem szC_ok {c : Circ} {left : Int} (h : ¬ szC c left < 0) : (c.next.length : Int) + c.gates.length + c.outs.length + szC c left = left ∧ 0 ≤ szC c left := by
  unfold szC at *
  split at h <;> rename_i h1
  · omega
  split at h <;> rename_i h2
  · omega
  split at h <;> rename_i h3
  · omega
  rw [if_neg h1, if_neg h2, if_neg h3]
  have := szL_ok h1
  have := szL_ok h2
  have := szL_ok h3
  omega
theorem szCircuit_c (c : Circ) (p : Where3) (left : Int) (w : World) (hc : CircIn w c p) (h0 : 0 ≤ left) (hl : left ≤ 1048576) :
    Calls Try.prog 21 #[.agg #[.int .i64 c.inputs, .slice p.an c.next.length p.cn, .slice p.ag c.gates.length p.cg, .slice p.ao c.outs.length p.co], .int .i64 left] w fun e w' => e = .returned (.int .i64 (szC c left)) ∧ Ext w w' := by
  have ln : c.next.length ≤ maxLen := Nat.le_trans hc.kn.1 hc.kn.2
  have lg : c.gates.length ≤ maxLen := Nat.le_trans hc.kg.1 hc.kg.2
  have lo : c.outs.length ≤ maxLen := Nat.le_trans hc.ko.1 hc.ko.2
  have y := CircBox.made w c p 37
  (obtain ⟨la, a0, a1, a2, a3⟩ := (id y))
  by_cases h1 : szL c.next.length left < 0
  · have E : Hid (szC c left = -1) := Lib.hid (by simp [szC, h1])
    go_enter Try.func21, Try.ntmps21
    go_wp2_with (go_at_call 71; refine (szIntS_c _ _ _ _ _ ln h0 hl).mono ?_; rintro e w' ⟨rfl, rfl⟩)
    go_ret
    exact ⟨by rw [E.out]; rfl, by (repeat (first | with_reducible assumption | with_reducible exact Ext.refl _ | with_reducible refine Ext.drew' ?_ | with_reducible refine Ext.drewN' ?_ _ | with_reducible refine Ext.alloc ?_ _ | (with_reducible refine Ext.setNew ?_ (by first | exact Nat.le_refl _ | (simp; done) | (simp; omega) | omega) _)))⟩
  · have b1 := szL_ok h1
    by_cases h2 : szL c.gates.length (szL c.next.length left) < 0
    · have E : Hid (szC c left = -1) := Lib.hid (by simp [szC, h1, h2])
      go_enter Try.func21, Try.ntmps21
      go_wp2_with (first | (go_at_call 71; refine (szIntS_c _ _ _ _ _ ln h0 hl).mono ?_; rintro e w' ⟨rfl, rfl⟩) | (go_at_call 72; refine (szGateS_c _ _ _ _ _ lg (by omega) (by omega)).mono ?_; rintro e w' ⟨rfl, rfl⟩))
      go_ret
      exact ⟨by rw [E.out]; rfl, by (repeat (first | with_reducible assumption | with_reducible exact Ext.refl _ | with_reducible refine Ext.drew' ?_ | with_reducible refine Ext.drewN' ?_ _ | with_reducible refine Ext.alloc ?_ _ | (with_reducible refine Ext.setNew ?_ (by first | exact Nat.le_refl _ | (simp; done) | (simp; omega) | omega) _)))⟩
    · have b2 := szL_ok h2
      by_cases h3 : szL c.outs.length (szL c.gates.length (szL c.next.length left)) < 0
      · have E : Hid (szC c left = -1) := Lib.hid (by simp [szC, h1, h2, h3])
        go_enter Try.func21, Try.ntmps21
        go_wp2_with (first | (go_at_call 72; refine (szGateS_c _ _ _ _ _ lg (by omega) (by omega)).mono ?_; rintro e w' ⟨rfl, rfl⟩) | (go_at_call 71; refine (szIntS_c _ _ _ _ _ (by assumption) (by omega) (by omega)).mono ?_; rintro e w' ⟨rfl, rfl⟩))
        go_ret
        exact ⟨by rw [E.out]; rfl, by (repeat (first | with_reducible assumption | with_reducible exact Ext.refl _ | with_reducible refine Ext.drew' ?_ | with_reducible refine Ext.drewN' ?_ _ | with_reducible refine Ext.alloc ?_ _ | (with_reducible refine Ext.setNew ?_ (by first | exact Nat.le_refl _ | (simp; done) | (simp; omega) | omega) _)))⟩
      · have E : Hid (szC c left = szL c.outs.length (szL c.gates.length (szL c.next.length left))) := Lib.hid (by simp only [szC, h1, h2, h3, if_false])
        go_enter Try.func21, Try.ntmps21
        go_wp2_with (first | (go_at_call 72; refine (szGateS_c _ _ _ _ _ lg (by omega) (by omega)).mono ?_; rintro e w' ⟨rfl, rfl⟩) | (go_at_call 71; refine (szIntS_c _ _ _ _ _ (by assumption) (by omega) (by omega)).mono ?_; rintro e w' ⟨rfl, rfl⟩))
        go_ret
        exact ⟨by rw [E.out]; rfl, by (repeat (first | with_reducible assumption | with_reducible exact Ext.refl _ | with_reducible refine Ext.drew' ?_ | with_reducible refine Ext.drewN' ?_ _ | with_reducible refine Ext.alloc ?_ _ | (with_reducible refine Ext.setNew ?_ (by first | exact Nat.le_refl _ | (simp; done) | (simp; omega) | omega) _)))⟩
end Go.Proofs.Ytgialedmbmfejaa
