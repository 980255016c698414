/- Contracts of EvalVars, for all arguments. -/
import Derived.Test.YtpomcoegpjehgaaBits
namespace Go.Proofs.Ytpomcoegpjehgaa
open Go.RowKit
set_option maxRecDepth 100000
set_option linter.unusedVariables false
set_option linter.unusedSimpArgs false
open Classical in
/-- What EvalVars returns. -/
noncomputable def evalV (c : Circ) (st ins : List Bool) : List Bool := if EvOk c st ins then valsOf ins st c.gates else []
theorem evalV_ok {c : Circ} {st ins : List Bool} (h : EvOk c st ins) : evalV c st ins = valsOf ins st c.gates := by unfold evalV; rw [if_pos h]
theorem evalV_no {c : Circ} {st ins : List Bool} (h : ¬ EvOk c st ins) : evalV c st ins = [] := by unfold evalV; rw [if_neg h]
theorem ev_len {c : Circ} {st ins : List Bool} (h : EvOk c st ins) : (valsOf ins st c.gates).length ≤ 22 := by
  have := h.V.i4
  have := h.V.ln
  have := h.V.lg
  have := h.ls
  have := h.li
  unfold valsOf
  rw [sVals_length]; omega
theorem implEvalVars_c (c : Circ) (p : Where3) (sa ia : Option Addr) (sc ic : Nat) (st ins : List Bool) (w : World) (hc : CircAt w c p) (hs : BoolsAt w sa st) (hi : BoolsAt w ia ins) (ls : st.length ≤ 1048576) (li : ins.length ≤ 1048576) :
    Calls Try.prog 38 #[.agg #[.int .i64 c.inputs, .slice p.an c.next.length p.cn, .slice p.ag c.gates.length p.cg, .slice p.ao c.outs.length p.co], .slice sa st.length sc, .slice ia ins.length ic] w (GiveB w (evalV c st ins)) := by
  by_cases ok : EvOk c st ins
  · rw [evalV_ok ok]
    refine (implEvalVars_ok c p sa ia sc ic st ins w hc hs hi ok).mono ?_
    intro e w' h
    exact h.own (by have := ev_len ok; unfold maxLen; omega)
  · rw [evalV_no ok]
    refine (implEvalVars_no c p sa ia sc ic st ins w hc ls li ok).mono ?_
    rintro e w' ⟨rfl, hE⟩
    exact ⟨_, rfl, OwnB.nil, hE⟩
end Go.Proofs.Ytpomcoegpjehgaa
