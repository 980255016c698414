/- Contracts: what a circuit answers to an assignment, and whether an assignment detects a fault: the program's way. -/
import Derived.Test.YtpomcoegpjehgaaEvalS
namespace Go.Proofs.Ytpomcoegpjehgaa
open Go.RowKit
set_option maxRecDepth 100000
set_option linter.unusedVariables false
set_option linter.unusedSimpArgs false
theorem bits_div (x i : Nat) : (x : Int) / 2 ^ i = ((x / 2 ^ i : Nat) : Int) := by simp
theorem assigns_le {c : Circ} (V : c.Valid) : assigns c ≤ 128 := by
  have := V.i4; have := V.ln; have := V.i0
  unfold assigns
  have : c.inputs.toNat + c.next.length ≤ 7 := by omega
  exact Nat.le_trans (Nat.pow_le_pow_right (by omega) this) (by decide)
theorem shl_wrap {c : Circ} (V : c.Valid) : IntKind.i64.wrap (2 ^ (c.inputs + (c.next.length : Int)).toNat) = (assigns c : Int) := by
  have := V.i0
  have h := assigns_le V
  have e : (c.inputs + (c.next.length : Int)).toNat = c.inputs.toNat + c.next.length := by omega
  have e2 : (2 : Int) ^ (c.inputs.toNat + c.next.length) = (assigns c : Int) := by unfold assigns; simp
  rw [e, e2]
  exact IntWalk.i64_in _ (by omega)
theorem resV_length (c : Circ) (s : Int) (v : Bool) (x : Nat) : (resV c s v x).length = c.next.length + c.outs.length := by simp [resV, litsV]
theorem sv_len {c : Circ} (V : c.Valid) (s : Int) (v : Bool) (ins st : List Bool) (hi : (ins.length : Int) = c.inputs) (hs : st.length = c.next.length) : ((sVals s v ins st c.gates).length : Int) = c.vars := by
  rw [sVals_length]; unfold Circ.vars Circ.first; omega
theorem vars_le {c : Circ} (V : c.Valid) : c.vars ≤ 22 ∧ 1 ≤ c.vars := by
  have := V.i0; have := V.i4; have := V.ln; have := V.lg
  unfold Circ.vars Circ.first; omega
end Go.Proofs.Ytpomcoegpjehgaa
