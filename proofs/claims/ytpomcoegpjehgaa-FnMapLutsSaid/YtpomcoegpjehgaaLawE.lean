/- Contracts: the laws' bits; facts on the loops over all assignments. -/
import Derived.Test.YtpomcoegpjehgaaEvalS
import Derived.Test.YtpomcoegpjehgaaDet
import Derived.Test.YtpomcoegpjehgaaBits
import Derived.Test.YtpomcoegpjehgaaArr0
namespace Go.Proofs.Ytpomcoegpjehgaa
open Go.RowKit
set_option maxRecDepth 100000
set_option linter.unusedVariables false
set_option linter.unusedSimpArgs false
theorem lawBits_e (xi ni : Int) (x n : Nat) (h1 : xi = x) (h2 : ni = n) (hx : x ≤ 100000000) (hn : n ≤ 30) (w : World) :
    Calls Try.prog 39 #[.int .i64 xi, .int .i64 ni] w (GiveB w (bitsN x n)) := by
  subst h1 h2; exact lawBits_c x n hx hn w
theorem asg_ok {c : Circ} (V : c.Valid) (x : Nat) : EvOk c (stB c x) (inB c x) := by
  have := V.i0
  exact ⟨V, by simp [stB, bitsN_length], by simp [inB, bitsN_length]; omega⟩
theorem asg_len {c : Circ} (V : c.Valid) (x : Nat) : (stB c x).length ≤ 3 ∧ (inB c x).length ≤ 4 ∧ (stB c x).length = c.next.length ∧ ((inB c x).length : Int) = c.inputs := by
  have := V.i0
  have := V.i4
  have := V.ln
  have h1 : (stB c x).length = c.next.length := by simp [stB, bitsN_length]
  have h2 : (inB c x).length = c.inputs.toNat := by simp [inB, bitsN_length]
  omega
/-- The values of all variables for assignment x. -/
def allV (c : Circ) (x : Nat) : List Bool := valsOf (inB c x) (stB c x) c.gates
theorem allV_len {c : Circ} (V : c.Valid) (x : Nat) : ((allV c x).length : Int) = c.vars := sv_len V (-1) false (inB c x) (stB c x) (asg_len V x).2.2.2 (asg_len V x).2.2.1
theorem allV_ev {c : Circ} (V : c.Valid) (x : Nat) : evalV c (stB c x) (inB c x) = allV c x := evalV_ok (asg_ok V x)
theorem lut_at {c : Circ} (V : c.Valid) {L : List LutT} (K : LutList c L) {l : LutT} (hl : l ∈ L) (x : Nat) : ∃ tb : Nat, l.tb = (tb : Int) ∧ tb ≤ 255 ∧ bitN tb (atN (allV c x) l.lv l.lv.length) = (allV c x).getD l.var.toNat false := by
  obtain ⟨k, hk, e1, e2, e3⟩ := K.el l hl
  have hf : 1 ≤ c.first := by have := V.i0; unfold Circ.first; omega
  have hcut := bestN_cut V hk
  have hb := (bestN_gate V hk).1
  have hL := cutsN_len V
  have hcov := cuts_cov V (v := c.first.toNat + k) (by omega) _ (List.dropLast_subset _ hb)
  rw [← e2] at hcut hcov
  obtain ⟨_, _, h1, h2⟩ := asg_len V x
  refine ⟨_, e3, ?_, ?_⟩
  · have h := tabN_lt (fun x => coneB c l.lv x (c.first.toNat + k)) (2 ^ l.lv.length)
    have h3 : 2 ^ l.lv.length ≤ 8 := Nat.pow_le_pow_right (by decide) hcut.len
    have h4 : 2 ^ 2 ^ l.lv.length ≤ 2 ^ 8 := Nat.pow_le_pow_right (by decide) h3
    unfold tableV
    omega
  · rw [e1, Int.toNat_natCast]
    exact table_at V h2 h1 hcut.asc (fun z hz => hcut.lo z hz) hcov (by unfold Circ.vars; omega)
end Go.Proofs.Ytpomcoegpjehgaa
