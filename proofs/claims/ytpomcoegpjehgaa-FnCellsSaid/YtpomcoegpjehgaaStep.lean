/- Contracts of Step. -/
import Derived.Test.YtpomcoegpjehgaaEvalS
import Derived.Test.YtpomcoegpjehgaaLib2
namespace Go.Proofs.Ytpomcoegpjehgaa
open Go.RowKit
set_option maxRecDepth 100000
set_option linter.unusedVariables false
set_option linter.unusedSimpArgs false
/-- Two slices of truth values that a call has given back: the first in blocks from b on and below m, the second from m on and below N. -/
structure RepStep (w : World) (b N : Nat) (v1 v2 : Value) (x : List Bool × List Bool) : Prop where
  ex : ∃ m, OwnB w b v1 x.1 ∧ (∀ k, v1.ownBlock = some k → k < m) ∧ OwnB w m v2 x.2 ∧ (∀ k, v2.ownBlock = some k → k < N) ∧ b ≤ m ∧ m ≤ N
  small1 : x.1.length ≤ 1048576
  small2 : x.2.length ≤ 1048576
def GiveStep (w : World) (x : List Bool × List Bool) (e : Ending) (w' : World) : Prop := ∃ v1 v2, e = .returned (.agg #[v1, v2]) ∧ RepStep w' w.heap.size w'.heap.size v1 v2 x ∧ Ext w w'
theorem GiveStep.rep {w w' : World} {x : List Bool × List Bool} {e : Ending} (h : GiveStep w x e w') : ∃ v1 v2, e = .returned (.agg #[v1, v2]) ∧ RepStep w' w.heap.size w'.heap.size v1 v2 x ∧ Ext w w' := h
theorem RepStep.ext {w w' : World} {b N : Nat} {v1 v2 : Value} {x : List Bool × List Bool} (h : RepStep w b N v1 v2 x) (e : Ext w w') : RepStep w' b N v1 v2 x := by
  obtain ⟨⟨m, h1, h2, h3, h4, h5⟩, s1, s2⟩ := h
  exact ⟨⟨m, h1.ext e, h2, h3.ext e, h4, h5⟩, s1, s2⟩
theorem RepStep.le {w : World} {b b2 N : Nat} {v1 v2 : Value} {x : List Bool × List Bool} (h : RepStep w b N v1 v2 x) (hb : b2 ≤ b) : RepStep w b2 N v1 v2 x := by
  obtain ⟨⟨m, h1, h2, h3, h4, h5, h6⟩, s1, s2⟩ := h
  exact ⟨⟨m, h1.le hb, h2, h3, h4, Nat.le_trans hb h5, h6⟩, s1, s2⟩
theorem RepStep.up {w : World} {b N N2 : Nat} {v1 v2 : Value} {x : List Bool × List Bool} (h : RepStep w b N v1 v2 x) (hb : N ≤ N2) : RepStep w b N2 v1 v2 x := by
  obtain ⟨⟨m, h1, h2, h3, h4, h5, h6⟩, s1, s2⟩ := h
  exact ⟨⟨m, h1, h2, h3, fun k hk => Nat.lt_of_lt_of_le (h4 k hk) hb, h5, Nat.le_trans h6 hb⟩, s1, s2⟩
theorem RepStep.nil {w : World} {b N : Nat} (h : b ≤ N) : RepStep w b N (.slice none 0 0) (.slice none 0 0) ([], []) :=
  ⟨⟨b, OwnB.nil, fun k hk => (by cases hk), OwnB.nil, fun k hk => (by cases hk), Nat.le_refl _, h⟩, by simp, by simp⟩
theorem RepStep.sl {w : World} {b N : Nat} {v1 v2 : Value} {x : List Bool × List Bool} (h : RepStep w b N v1 v2 x) : ∃ a1 c1 n1 a2 c2 n2, v1 = .slice a1 n1 c1 ∧ v2 = .slice a2 n2 c2 := by
  obtain ⟨⟨m, h1, h2, h3, h4, h5, h6⟩, s1, s2⟩ := h
  obtain ⟨a1, c1, e1, _⟩ := h1.opened
  obtain ⟨a2, c2, e2, _⟩ := h3.opened
  exact ⟨a1, c1, _, a2, c2, _, e1, e2⟩
theorem RepStep.set {w : World} {b N : Nat} {v1 v2 : Value} {x : List Bool × List Bool} (h : RepStep w b N v1 v2 x) {p : Addr} (hp : p.block < b) (u : Value) : RepStep (w.setCell p u) b N v1 v2 x := by
  obtain ⟨⟨m, h1, h2, h3, h4, h5, h6⟩, s1, s2⟩ := h
  exact ⟨⟨m, h1.setOther (by intro h; have := (h1.lt' _ h).1; omega) u, h2, h3.setOther (by intro h; have := (h3.lt' _ h).1; omega) u, h4, h5, h6⟩, s1, s2⟩
open Classical in
noncomputable def stepV (c : Circ) (st ins : List Bool) : List Bool × List Bool := if EvOk c st ins then (litsV (valsOf ins st c.gates) c.outs, litsV (valsOf ins st c.gates) c.next) else ([], [])
theorem stepV_ok {c : Circ} {st ins : List Bool} (h : EvOk c st ins) : stepV c st ins = (litsV (valsOf ins st c.gates) c.outs, litsV (valsOf ins st c.gates) c.next) := by unfold stepV; rw [if_pos h]
theorem stepV_no {c : Circ} {st ins : List Bool} (h : ¬ EvOk c st ins) : stepV c st ins = ([], []) := by unfold stepV; rw [if_neg h]
theorem vals_len {c : Circ} {st ins : List Bool} (h : EvOk c st ins) : ((valsOf ins st c.gates).length : Int) = c.vars := by
  unfold valsOf
  rw [sVals_length]
  have := h.ls
  have := h.li
  unfold Circ.vars Circ.first
  omega
set_option maxHeartbeats 2000000 in
theorem implStepOk (c : Circ) (p : Where3) (sa ia : Option Addr) (sc ic : Nat) (st ins : List Bool) (w : World) (hc : CircAt w c p) (hs : BoolsAt w sa st) (hi : BoolsAt w ia ins) (ok : EvOk c st ins) :
    Calls Try.prog 52 #[.agg #[.int .i64 c.inputs, .slice p.an c.next.length p.cn, .slice p.ag c.gates.length p.cg, .slice p.ao c.outs.length p.co], .slice sa st.length sc, .slice ia ins.length ic] w (GiveStep w (stepV c st ins)) := by
  rw [stepV_ok ok]
  have hl22 := ev_len ok
  have hvl := vals_len ok
  have OK := Lib.hid ok
  obtain ⟨V, ls, li⟩ := ok
  obtain ⟨vs, hvs⟩ : ∃ vs, vs = valsOf ins st c.gates := ⟨_, rfl⟩
  rw [← hvs] at hl22 hvl ⊢
  have HVS := Lib.hid hvs
  obtain ⟨n, hn⟩ : ∃ n, vs.length = n := ⟨_, rfl⟩
  have HN := Lib.hid hn
  clear hvs
  have LS := Lib.hid ls
  have LI := Lib.hid li
  have ln := V.ln
  have lo := V.lo
  have LO := Lib.hid (litsOk_append.1 V.rs).2
  have LN := Lib.hid (litsOk_append.1 V.rs).1
  rw [← hvl] at LO LN
  rw [hn] at hl22 LO LN
  clear ls li hvl hn
  have y := (CircBox.made w c p 26).ext ((Ext.refl _).alloc (.cells #[.slice none 0 0, .slice none 0 0] 69))
  have r0 := Blk.at (w.alloc (.cells #[.int .i64 c.inputs, .slice p.an c.next.length p.cn, .slice p.ag c.gates.length p.cg, .slice p.ao c.outs.length p.co] 26)) [.slice none 0 0, .slice none 0 0] 69 (B := w.heap.size + 1) (by simp)
  have hnil := fun (w : World) (a : Option Addr) (n c : Nat) => Lib.run_eql_slice_nil (P := Try.prog) w 52 4 a n c 0 0 Try.underlying52
  go_enter Try.func52, Try.ntmps52
  go_wp2_with fail
  refine (implEvalVars_ok c p sa ia sc ic st ins _ (hc.ext (by (repeat (first | with_reducible assumption | with_reducible exact Ext.refl _ | with_reducible refine Ext.drew' ?_ | with_reducible refine Ext.drewN' ?_ _ | with_reducible refine Ext.alloc ?_ _ | (with_reducible refine Ext.setNew ?_ (by first | exact Nat.le_refl _ | (simp; done) | (simp; omega) | omega) _))))) (hs.ext (by (repeat (first | with_reducible assumption | with_reducible exact Ext.refl _ | with_reducible refine Ext.drew' ?_ | with_reducible refine Ext.drewN' ?_ _ | with_reducible refine Ext.alloc ?_ _ | (with_reducible refine Ext.setNew ?_ (by first | exact Nat.le_refl _ | (simp; done) | (simp; omega) | omega) _))))) (hi.ext (by (repeat (first | with_reducible assumption | with_reducible exact Ext.refl _ | with_reducible refine Ext.drew' ?_ | with_reducible refine Ext.drewN' ?_ _ | with_reducible refine Ext.alloc ?_ _ | (with_reducible refine Ext.setNew ?_ (by first | exact Nat.le_refl _ | (simp; done) | (simp; omega) | omega) _))))) OK.out).mono ?_
  rw [← HVS.out]
  rintro e w1 ⟨B, rfl, hBB, hB1, hE1⟩
  have E1 := Ext.trans (a := w) (by (repeat (first | with_reducible assumption | with_reducible exact Ext.refl _ | with_reducible refine Ext.drew' ?_ | with_reducible refine Ext.drewN' ?_ _ | with_reducible refine Ext.alloc ?_ _ | (with_reducible refine Ext.setNew ?_ (by first | exact Nat.le_refl _ | (simp; done) | (simp; omega) | omega) _)))) hE1
  have hX := hB1.bools
  rw [HN.out]
  replace y := y.ext hE1
  replace r0 := r0.ext hE1
  (obtain ⟨la, a0, a1, a2, a3⟩ := (id y))
  clear hE1 hB1 hBB
  have small1 : (litsV vs c.outs).length ≤ 1048576 := by rw [litsV_length]; omega
  have small2 : (litsV vs c.next).length ≤ 1048576 := by rw [litsV_length]; omega
  have lo2 : c.outs.length ≤ 1048576 := by omega
  have ln2 : c.next.length ≤ 1048576 := by omega
  have n2 : n ≤ 1048576 := by omega
  go_wp2_with fail
  go_region_law (first
    | (go_simp; go_at_call 94; refine (litValues_c _ _ _ _ n _ vs HN.out c.next rfl _ (hX.ext FA) ((hc.nx.ext E1).ext FA) LN.out n2 ln2).mono ?_; rintro e wB ⟨vB, rfl, hOB, hEB⟩; obtain ⟨aB, cB, rfl, hXB⟩ := hOB.opened; have rB := (r0.ext FA).ext hEB; have rb0 := rB.cell (i := 0) rfl; have rb1 := rB.cell (i := 1) rfl; have rbf := (fun i => rB.frozen i))
    | (go_simp; go_at_call 94; refine (litValues_c _ _ _ _ n _ vs HN.out c.outs rfl _ (hX.ext (Ext.drew w1)) ((hc.ou.ext E1).ext (Ext.drew w1)) LO.out n2 lo2).mono ?_; rintro e wA ⟨vA, rfl, hOA, hEA⟩; obtain ⟨aA, cA, rfl, hXA⟩ := hOA.opened; have FA := (Ext.drew w1).trans hEA; have yA := y.ext FA; (obtain ⟨lb, b0, b1, b2, b3⟩ := (id yA))))
  all_goals
    have rF := (rB.set 0 (.slice aA (litsV vs c.outs).length cA)).set 1 (.slice aB (litsV vs c.next).length cB)
    have rf0 := rF.cell (i := 0) rfl
    have rf1 := rF.cell (i := 1) rfl
    go_wp2
    refine bodyPost_ret (v := .agg #[.slice aA (litsV vs c.outs).length cA, .slice aB (litsV vs c.next).length cB]) (by simp [results, Try.results52, go_sem, rf0, rf1]) rfl ?_
    have hs1 := E1.size
    have lt0 := r0.lt
    have hs2 := hEA.size
    have hs3 := hEB.size
    simp at hs2
    have lt2 := rB.lt
    refine ⟨_, _, rfl, ⟨⟨wA.heap.size, ?_, ?_, ?_, ?_, by omega, by simp; omega⟩, small1, small2⟩, ?_⟩
    · exact (((hOA.ext hEB).le (b := w.heap.size) (by simp; omega)).setOther (by intro h; have q1 := (hOA.lt' _ h).1; simp at q1; omega) _).setOther (by intro h; have q1 := (hOA.lt' _ h).1; simp at q1; omega) _
    · intro k hk; exact (hOA.lt' _ hk).2
    · exact (hOB.setOther (by intro h; have q1 := (hOB.lt' _ h).1; (try simp at q1); omega) _).setOther (by intro h; have q1 := (hOB.lt' _ h).1; (try simp at q1); omega) _
    · intro k hk; have := (hOB.lt' _ hk).2; simpa using this
    · exact Ext.setNew (Ext.setNew ((E1.trans FA).trans hEB) (by simp) _) (by simp) _
theorem implStepNo (c : Circ) (p : Where3) (sa ia : Option Addr) (sc ic : Nat) (st ins : List Bool) (w : World) (hc : CircAt w c p) (hs : BoolsAt w sa st) (hi : BoolsAt w ia ins) (ls : st.length ≤ 1048576) (li : ins.length ≤ 1048576) (ok : ¬ EvOk c st ins) :
    Calls Try.prog 52 #[.agg #[.int .i64 c.inputs, .slice p.an c.next.length p.cn, .slice p.ag c.gates.length p.cg, .slice p.ao c.outs.length p.co], .slice sa st.length sc, .slice ia ins.length ic] w (GiveStep w (stepV c st ins)) := by
  rw [stepV_no ok]
  have OK := Lib.hid ok
  clear ok
  have r0 := Blk.at (w.alloc (.cells #[.int .i64 c.inputs, .slice p.an c.next.length p.cn, .slice p.ag c.gates.length p.cg, .slice p.ao c.outs.length p.co] 26)) [.slice none 0 0, .slice none 0 0] 69 (B := w.heap.size + 1) (by simp)
  have hnil := fun (w : World) (a : Option Addr) (n c : Nat) => Lib.run_eql_slice_nil (P := Try.prog) w 52 4 a n c 0 0 Try.underlying52
  go_enter Try.func52, Try.ntmps52
  go_wp2_with fail
  refine (implEvalVars_no c p sa ia sc ic st ins _ (hc.ext (by (repeat (first | with_reducible assumption | with_reducible exact Ext.refl _ | with_reducible refine Ext.drew' ?_ | with_reducible refine Ext.drewN' ?_ _ | with_reducible refine Ext.alloc ?_ _ | (with_reducible refine Ext.setNew ?_ (by first | exact Nat.le_refl _ | (simp; done) | (simp; omega) | omega) _))))) ls li OK.out).mono ?_
  rintro e w1 ⟨rfl, hE1⟩
  have E1 := Ext.trans (a := w) (by (repeat (first | with_reducible assumption | with_reducible exact Ext.refl _ | with_reducible refine Ext.drew' ?_ | with_reducible refine Ext.drewN' ?_ _ | with_reducible refine Ext.alloc ?_ _ | (with_reducible refine Ext.setNew ?_ (by first | exact Nat.le_refl _ | (simp; done) | (simp; omega) | omega) _)))) hE1
  have r1 := r0.ext hE1
  have rl := r1.lt
  have z0 := r1.cell (i := 0) rfl
  have z1 := r1.cell (i := 1) rfl
  have zf := fun i => r1.frozen i
  have rF := (r1.set 0 (.slice none 0 0)).set 1 (.slice none 0 0)
  have rf0 := rF.cell (i := 0) rfl
  have rf1 := rF.cell (i := 1) rfl
  go_wp2
  refine bodyPost_ret (v := .agg #[.slice none 0 0, .slice none 0 0]) (by simp [results, Try.results52, go_sem, rf0, rf1]) rfl ?_
  exact ⟨_, _, rfl, RepStep.nil (by have := E1.size; simp; omega), Ext.setNew (Ext.setNew E1 (by simp) _) (by simp) _⟩
theorem implStep_c (c : Circ) (p : Where3) (sa ia : Option Addr) (sc ic : Nat) (st ins : List Bool) (w : World) (hc : CircAt w c p) (hs : BoolsAt w sa st) (hi : BoolsAt w ia ins) (ls : st.length ≤ 1048576) (li : ins.length ≤ 1048576) :
    Calls Try.prog 52 #[.agg #[.int .i64 c.inputs, .slice p.an c.next.length p.cn, .slice p.ag c.gates.length p.cg, .slice p.ao c.outs.length p.co], .slice sa st.length sc, .slice ia ins.length ic] w (GiveStep w (stepV c st ins)) := by
  by_cases ok : EvOk c st ins
  · exact implStepOk c p sa ia sc ic st ins w hc hs hi ok
  · exact implStepNo c p sa ia sc ic st ins w hc hs hi ls li ok
end Go.Proofs.Ytpomcoegpjehgaa
