/- Contracts: EvalVars, the program's. -/
import Derived.Test.YtpomcoegpjehgaaEval
namespace Go.Proofs.Ytpomcoegpjehgaa
open Go.RowKit
set_option maxRecDepth 100000
set_option linter.unusedVariables false
set_option linter.unusedSimpArgs false
/-- The arguments fit. -/
structure EvOk (c : Circ) (st ins : List Bool) : Prop where
  V : c.Valid
  ls : st.length = c.next.length
  li : (ins.length : Int) = c.inputs
theorem implEvalVars_ok (c : Circ) (p : Where3) (sa ia : Option Addr) (sc ic : Nat) (st ins : List Bool) (w : World) (hc : CircAt w c p) (hs : BoolsAt w sa st) (hi : BoolsAt w ia ins) (ok : EvOk c st ins) :
    Calls Try.prog 38 #[.agg #[.int .i64 c.inputs, .slice p.an c.next.length p.cn, .slice p.ag c.gates.length p.cg, .slice p.ao c.outs.length p.co], .slice sa st.length sc, .slice ia ins.length ic] w (MadeBools w (valsOf ins st c.gates)) := by
  obtain ⟨V, ls, li⟩ := ok
  have ln := V.ln
  have i4 := V.i4
  have y := CircBox.made w c p 26
  have E0 : Ext w (w.alloc (.cells #[.int .i64 c.inputs, .slice p.an c.next.length p.cn, .slice p.ag c.gates.length p.cg, .slice p.ao c.outs.length p.co] 26)) := (Ext.refl w).alloc _
  have h1 : ((st.length : Int) != (c.next.length : Int)) = false := by simp; omega
  have h2 : ((ins.length : Int) != c.inputs) = false := by simp; omega
  have LS := Lib.hid ls
  have LI := Lib.hid li
  clear ls li
  go_enter Try.func38, Try.ntmps38
  go_wp2_with fail
  refine (implCircuitValid_c c p _ (hc.ext E0)).mono ?_
  rintro e w1 ⟨rfl, hE1⟩
  rw [validB_true V]
  have Y := y.ext hE1
  have E1 := E0.trans hE1
  (obtain ⟨la, a0, a1, a2, a3⟩ := (id Y))
  go_wp2_with fail
  refine (evaluate_c w.heap.size c p sa ia sc ic st ins (-1) false _ Y (hc.ext E1) V (hs.ext E1) (hi.ext E1) LS.out LI.out (by have := V.i0; unfold Circ.vars Circ.first; omega)).mono ?_
  rintro e w2 ⟨B, rfl, hB, hI, hE2⟩
  go_wp2
  go_ret
  exact ⟨B, rfl, by have := E1.size; omega, hI, E1.trans hE2⟩
theorem implEvalVars_no (c : Circ) (p : Where3) (sa ia : Option Addr) (sc ic : Nat) (st ins : List Bool) (w : World) (hc : CircAt w c p) (hs : st.length ≤ 1048576) (hi : ins.length ≤ 1048576) (ok : ¬ EvOk c st ins) :
    Calls Try.prog 38 #[.agg #[.int .i64 c.inputs, .slice p.an c.next.length p.cn, .slice p.ag c.gates.length p.cg, .slice p.ao c.outs.length p.co], .slice sa st.length sc, .slice ia ins.length ic] w fun e w' => e = .returned (.slice none 0 0) ∧ Ext w w' := by
  have y := CircBox.made w c p 26
  have E0 : Ext w (w.alloc (.cells #[.int .i64 c.inputs, .slice p.an c.next.length p.cn, .slice p.ag c.gates.length p.cg, .slice p.ao c.outs.length p.co] 26)) := (Ext.refl w).alloc _
  cases hv : validB c
  · clear ok
    go_enter Try.func38, Try.ntmps38
    go_wp2_with fail
    refine (implCircuitValid_c c p _ (hc.ext E0)).mono ?_
    rintro e w1 ⟨rfl, hE1⟩
    rw [hv]
    go_wp2
    go_ret
    exact ⟨rfl, E0.trans hE1⟩
  have V := validB_iff.1 hv
  have HV := Lib.hid hv
  have ln := V.ln
  have i4 := V.i4
  clear hv
  cases h1 : ((st.length : Int) != (c.next.length : Int))
  cases h2 : ((ins.length : Int) != c.inputs)
  · exfalso
    simp at h1 h2
    exact ok ⟨V, by omega, by omega⟩
  all_goals
    clear ok
    go_enter Try.func38, Try.ntmps38
    go_wp2_with fail
    refine (implCircuitValid_c c p _ (hc.ext E0)).mono ?_
    rintro e w1 ⟨rfl, hE1⟩
    rw [HV.out]
    have Y := y.ext hE1
    (obtain ⟨la, a0, a1, a2, a3⟩ := (id Y))
    go_wp2
    go_ret
    exact ⟨rfl, E0.trans hE1⟩
end Go.Proofs.Ytpomcoegpjehgaa
