/- Contracts of EvalVars, for all arguments. -/
import Derived.Test.YtlkfhcigpkfhnaaBits
namespace Go.Proofs.Ytlkfhcigpkfhnaa
open Go.RowKit
set_option maxRecDepth 100000
set_option linter.unusedVariables false
set_option linter.unusedSimpArgs false
open Classical in
/-- What EvalVars returns. -/
noncomputable def evalV (c : Circ) (st ins : List Bool) : List Bool := if EvOk c st ins then valsOf ins st c.gates else []
theorem evalV_ok {c : Circ} {st ins : List Bool} (h : EvOk c st ins) : evalV c st ins = valsOf ins st c.gates := by unfold evalV; rw [if_pos h]
theorem evalV_no {c : Circ} {st ins : List Bool} (h : ¬ EvOk c st ins) : evalV c st ins = [] := by unfold evalV; rw [if_neg h]
theorem ev_len {c : Circ} {st ins : List Bool} (h : EvOk c st ins) : (valsOf ins st c.gates).length ≤ 22 := by
  have := h.V.i4
  have := h.V.ln
  have := h.V.lg
  have := h.ls
  have := h.li
  unfold valsOf
  rw [sVals_length]; omega
theorem implEvalVars_c (c : Circ) (p : Where3) (sa ia : Option Addr) (sc ic : Nat) (st ins : List Bool) (w : World) (hc : CircAt w c p) (hs : BoolsAt w sa st) (hi : BoolsAt w ia ins) (ls : st.length ≤ 1048576) (li : ins.length ≤ 1048576) :
    Calls Try.prog 16 #[.agg #[.int .i64 c.inputs, .slice p.an c.next.length p.cn, .slice p.ag c.gates.length p.cg, .slice p.ao c.outs.length p.co], .slice sa st.length sc, .slice ia ins.length ic] w (GiveB w (evalV c st ins)) := by
  by_cases ok : EvOk c st ins
  · rw [evalV_ok ok]
    refine (implEvalVars_ok c p sa ia sc ic st ins w hc hs hi ok).mono ?_
    intro e w' h
    exact h.own (by have := ev_len ok; unfold maxLen; omega)
  · rw [evalV_no ok]
    refine (implEvalVars_no c p sa ia sc ic st ins w hc ls li ok).mono ?_
    rintro e w' ⟨rfl, hE⟩
    exact ⟨_, rfl, OwnB.nil, hE⟩
theorem specEvalVars_c (c : Circ) (p : Where3) (sa ia : Option Addr) (sc ic : Nat) (st ins : List Bool) (w : World) (hc : CircAt w c p) (hs : BoolsAt w sa st) (hi : BoolsAt w ia ins) (ls : st.length ≤ 1048576) (li : ins.length ≤ 1048576) :
    Calls Try.prog 18 #[.agg #[.int .i64 c.inputs, .slice p.an c.next.length p.cn, .slice p.ag c.gates.length p.cg, .slice p.ao c.outs.length p.co], .slice sa st.length sc, .slice ia ins.length ic] w (GiveB w (evalV c st ins)) := by
  have y := CircBox.made w c p 26
  have E0 : Ext w (w.alloc (.cells #[.int .i64 c.inputs, .slice p.an c.next.length p.cn, .slice p.ag c.gates.length p.cg, .slice p.ao c.outs.length p.co] 26)) := (Ext.refl w).alloc _
  have none_ : ∀ z : World, Ext w z → OwnB (z.alloc (.cells #[] 4)) w.heap.size (.slice (some ⟨z.heap.size, 0, none⟩) 0 0) [] := fun z hz => (Blk.at z [] 4 (B := z.heap.size) rfl).owns (n := 0) (size := 1) rfl hz.size (by decide)
  cases hv : validB c
  · have ok : ¬ EvOk c st ins := fun h => by have := validB_true h.V; rw [hv] at this; cases this
    rw [evalV_no ok]
    clear ok
    go_enter Try.func18, Try.ntmps18
    go_wp2_with fail
    refine (specCircuitValid_c c p _ (hc.ext E0)).mono ?_
    rintro e w1 ⟨rfl, hE1⟩
    rw [hv]
    go_wp2
    go_ret
    exact ⟨_, rfl, none_ _ (E0.trans hE1), (E0.trans hE1).alloc _⟩
  have V := validB_iff.1 hv
  have HV := Lib.hid hv
  have ln := V.ln
  have i4 := V.i4
  have i0 := V.i0
  clear hv
  cases h1 : ((st.length : Int) != (c.next.length : Int))
  cases h2 : ((ins.length : Int) != c.inputs)
  · simp at h1 h2
    have ok : EvOk c st ins := ⟨V, by omega, by omega⟩
    have LS := Lib.hid ok.ls
    have LI := Lib.hid ok.li
    rw [evalV_ok ok]
    have h1' : ((st.length : Int) != (c.next.length : Int)) = false := by simp; omega
    have h2' : ((ins.length : Int) != c.inputs) = false := by simp; omega
    clear ok h1 h2
    go_enter Try.func18, Try.ntmps18
    go_wp2_with fail
    refine (specCircuitValid_c c p _ (hc.ext E0)).mono ?_
    rintro e w1 ⟨rfl, hE1⟩
    rw [HV.out]
    have Y := y.ext hE1
    have E1 := E0.trans hE1
    (obtain ⟨la, a0, a1, a2, a3⟩ := (id Y))
    go_wp2_with fail
    refine (l2Values_c c p sa ia sc ic st ins _ (hc.ext E1) V (hs.ext E1) (hi.ext E1) LS.out LI.out).mono ?_
    rintro e w2 ⟨v, rfl, hO, hE2⟩
    go_wp2
    go_ret
    exact ⟨v, rfl, hO.le E1.size, E1.trans hE2⟩
  all_goals
    have ok : ¬ EvOk c st ins := by
      rintro ⟨_, hl, hm⟩
      simp at *
      try omega
    rw [evalV_no ok]
    clear ok
    go_enter Try.func18, Try.ntmps18
    go_wp2_with fail
    refine (specCircuitValid_c c p _ (hc.ext E0)).mono ?_
    rintro e w1 ⟨rfl, hE1⟩
    rw [HV.out]
    have Y := y.ext hE1
    (obtain ⟨la, a0, a1, a2, a3⟩ := (id Y))
    go_wp2
    go_ret
    exact ⟨_, rfl, none_ _ (E0.trans hE1), (E0.trans hE1).alloc _⟩
end Go.Proofs.Ytlkfhcigpkfhnaa
