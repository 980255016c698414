/- Contracts: the laws' comparison of circuits. -/
import Derived.Test.YtpfhlodlefcomaaOwn
import Derived.Test.YtpfhlodlefcomaaBits
namespace Go.Proofs.Ytpfhlodlefcomaa
open Go.RowKit
set_option maxRecDepth 100000
set_option linter.unusedVariables false
set_option linter.unusedSimpArgs false
theorem sameInts_c (a b : Option Addr) (c d : Nat) (xs : List Int) (w : World) (hx : IntsAt w a xs) (hy : IntsAt w b xs) (hl : xs.length ≤ 1048576) :
    Calls Try.prog 54 #[.slice a xs.length c, .slice b xs.length d] w fun e w' => e = .returned (.bool true) ∧ Ext w w' := by
  go_enter Try.func54, Try.ntmps54
  go_wp2_with fail
  go_loopw [5] (fun i wr => ∃ k : Nat, k ≤ xs.length ∧ i = .int .i64 k ∧ Ext w wr) (fun i _ => xs.length - (intOf i).toNat)
  case atStart => exact ⟨0, Nat.zero_le _, rfl, Ext.refl w⟩
  case round =>
    obtain ⟨k, hk, rfl, hE⟩ := hrel
    by_cases hlt : k < xs.length
    · obtain ⟨b1, o1, rfl, hb1, hc1⟩ := (hx.ext hE).get (by omega)
      obtain ⟨b2, o2, rfl, hb2, hc2⟩ := (hy.ext hE).get (by omega)
      have q1 := hc1 k hlt
      have q2 := hc2 k hlt
      obtain ⟨x, hxx⟩ : ∃ x, x = xs.getD k 0 := ⟨_, rfl⟩
      rw [← hxx] at q1 q2
      clear hc1 hc2 hxx
      go_wp2
      go_quiet (fail)
      go_wp2
      go_roundw
      case rel => exact ⟨k + 1, by omega, by go_num, by (repeat (first | assumption | (with_reducible refine Ext.drew' ?_) | exact Ext.refl _ | exact Ext.drew _ | exact Ext.drewN _ _ | (refine Ext.alloc ?_ _) | (refine Ext.drewN' ?_ _) | (refine Ext.setNew ?_ (by first | exact Nat.le_refl _ | (simp; done) | (simp; omega) | omega) _)))⟩
      case measure => simp [intOf]; omega
    · go_wp2
      go_ret
      exact ⟨rfl, hE⟩
set_option maxHeartbeats 1000000 in
theorem sameCircuit_c (c : Circ) (p q : Where3) (w : World) (hc : CircAt w c p) (hd : CircAt w c q) :
    Calls Try.prog 25 #[.agg #[.int .i64 c.inputs, .slice p.an c.next.length p.cn, .slice p.ag c.gates.length p.cg, .slice p.ao c.outs.length p.co], .agg #[.int .i64 c.inputs, .slice q.an c.next.length q.cn, .slice q.ag c.gates.length q.cg, .slice q.ao c.outs.length q.co]] w fun e w' => e = .returned (.bool true) ∧ Ext w w' := by
  have y := (CircBox.made w c p 26).ext ((Ext.refl _).alloc (.cells #[.int .i64 c.inputs, .slice q.an c.next.length q.cn, .slice q.ag c.gates.length q.cg, .slice q.ao c.outs.length q.co] 26))
  have z := CircBox.at (w.alloc (.cells #[.int .i64 c.inputs, .slice p.an c.next.length p.cn, .slice p.ag c.gates.length p.cg, .slice p.ao c.outs.length p.co] 26)) c q 26 (B := w.heap.size + 1) (by simp)
  have E0 : Ext w ((w.alloc (.cells #[.int .i64 c.inputs, .slice p.an c.next.length p.cn, .slice p.ag c.gates.length p.cg, .slice p.ao c.outs.length p.co] 26)).alloc (.cells #[.int .i64 c.inputs, .slice q.an c.next.length q.cn, .slice q.ag c.gates.length q.cg, .slice q.ao c.outs.length q.co] 26)) := ((Ext.refl w).alloc _).alloc _
  have ln := hc.ln
  have lg := hc.lg
  have lo := hc.lo
  go_enter Try.func25, Try.ntmps25
  go_wp2_with fail
  refine (sameInts_c p.an q.an p.cn q.cn c.next _ (hc.nx.ext E0) (hd.nx.ext E0) ln).mono ?_
  rintro e w1 ⟨rfl, hE1⟩
  have y1 := y.ext hE1
  have z1 := z.ext hE1
  have E1 := E0.trans hE1
  clear y z E0 hE1
  (obtain ⟨lb, b0, b1, b2, b3⟩ := (id y1))
  obtain ⟨lz, z0, z1', z2, z3⟩ := (id z1)
  go_wp2_with fail
  refine (sameInts_c p.ao q.ao p.co q.co c.outs _ (hc.ou.ext E1) (hd.ou.ext E1) lo).mono ?_
  rintro e w2 ⟨rfl, hE2⟩
  have y2 := y1.ext hE2
  have zz2 := z1.ext hE2
  have E2 := E1.trans hE2
  clear y1 z1 E1 hE2 b0 b1 b2 b3 lb lz z0 z1' z2 z3
  go_wp2_with fail
  go_loopw [5] (fun i wr => ∃ k : Nat, k ≤ c.gates.length ∧ i = .int .i64 k ∧ Ext w2 wr) (fun i _ => c.gates.length - (intOf i).toNat)
  case atStart => exact ⟨0, Nat.zero_le _, rfl, Ext.refl _⟩
  case round =>
    obtain ⟨k, hk, rfl, hE⟩ := hrel
    have y3 := y2.ext hE
    (obtain ⟨lb, b0, b1, b2, b3⟩ := (id y3))
    obtain ⟨lz, z0, z1', z2, z3⟩ := zz2.ext hE
    by_cases hlt : k < c.gates.length
    · obtain ⟨b8, o8, hag, hb8, hg1, hg2⟩ := ((hc.ext E2).ext hE).gs.get (by omega)
      obtain ⟨b9, o9, hbg, hb9, hh1, hh2⟩ := ((hd.ext E2).ext hE).gs.get (by omega)
      have q1 := hg1 k hlt
      have q2 := hg2 k hlt
      have q3 := hh1 k hlt
      have q4 := hh2 k hlt
      obtain ⟨gx, hgx⟩ : ∃ x, x = (c.gates.getD k (0, 0)).1 := ⟨_, rfl⟩
      obtain ⟨gy, hgy⟩ : ∃ x, x = (c.gates.getD k (0, 0)).2 := ⟨_, rfl⟩
      rw [← hgx] at q1 q3
      rw [← hgy] at q2 q4
      rw [hag] at b2
      rw [hbg] at z2
      have HAG := Lib.hid hag
      have HBG := Lib.hid hbg
      obtain ⟨w3, rfl⟩ : ∃ x : World, x = wr := ⟨_, rfl⟩
      clear hg1 hg2 hh1 hh2 hgx hgy hag hbg
      go_wp2_with fail
      go_quiet (fail)
      go_wp2
      go_roundw
      case rel => exact ⟨k + 1, by omega, by go_num, by (repeat (first | with_reducible assumption | with_reducible exact Ext.refl _ | with_reducible refine Ext.drew' ?_ | with_reducible refine Ext.drewN' ?_ _ | with_reducible refine Ext.alloc ?_ _ | (with_reducible refine Ext.setNew ?_ (by first | exact Nat.le_refl _ | (simp; done) | (simp; omega) | omega) _)))⟩
      case measure => simp [intOf]; omega
    · go_wp2
      go_ret
      exact ⟨rfl, E2.trans hE⟩
end Go.Proofs.Ytpfhlodlefcomaa
