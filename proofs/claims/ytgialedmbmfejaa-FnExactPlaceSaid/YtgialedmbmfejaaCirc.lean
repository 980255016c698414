/- A circuit that came in: how the argument of an exact law reads. -/
import Derived.Test.YtgialedmbmfejaaRd
namespace Go.Proofs.Ytgialedmbmfejaa
open Go.ChangeShapes Go.WideShapes Go.ChangeAt Go.RowKit Go.Joins
set_option maxRecDepth 100000
set_option linter.unusedVariables false
def EGate (_ : World) (cs : List Value) (g : Int × Int) : Prop := cs = [.int .i64 g.1, .int .i64 g.2]
theorem SlAt.pairs {w : World} {a : Option Addr} {gs : List (Int × Int)} (h : SlAt 2 EGate w a gs) : PairsAt w a gs := by
  rcases h with rfl | ⟨b, o, ha, hb, hc⟩
  · exact .inl rfl
  · refine .inr ⟨b, o, ha, hb, fun j hj => ?_, fun j hj => ?_⟩
    all_goals
      obtain ⟨cs, _, h2, h3⟩ := hc j _ (List.getElem?_eq_getElem hj)
      have h2' : cs = _ := h2
      subst h2'
    · have := h3 0 (by omega)
      simpa [List.getD_eq_getElem?_getD, hj] using this
    · have := h3 1 (by omega)
      simpa [List.getD_eq_getElem?_getD, hj] using this
/-- A circuit as it comes in: its slices read as c says, of whatever length. -/
structure CircIn (w : World) (c : Circ) (p : Where3) : Prop where
  nx : IntsAt w p.an c.next
  gs : PairsAt w p.ag c.gates
  ou : IntsAt w p.ao c.outs
  kn : c.next.length ≤ p.cn ∧ p.cn ≤ maxLen
  kg : c.gates.length ≤ p.cg ∧ p.cg ≤ maxLen
  ko : c.outs.length ≤ p.co ∧ p.co ≤ maxLen
theorem CircIn.ext {w w' : World} {c : Circ} {p : Where3} (h : CircIn w c p) (e : Ext w w') : CircIn w' c p :=
  ⟨h.nx.ext e, h.gs.ext e, h.ou.ext e, h.kn, h.kg, h.ko⟩
section
variable {H : Type} {enc : TypeId × Value → H} {w : World} {base : Nat} {spare : Nat → Bool} {held : Bool}
theorem dec_gate : ∀ n cs y, DataW.trod enc Try.prog w base spare held n 141 cs = some y → ∃ x, EGate w cs x := by
  intro n cs y h
  obtain ⟨y0, y1, m, _, hl, h0, h1⟩ := trod_struct2 Try.underlying141 h
  have hl2 : cs.length = 2 := hl.trans (by kernel_rfl)
  match cs, hl2 with
  | [u0, u1], _ =>
    obtain ⟨x0, e0, _⟩ := DataW.trod_int Try.underlying3 h0
    obtain ⟨x1, e1, _⟩ := DataW.trod_int Try.underlying3 h1
    have k1 : Try.prog.cellsOf 3 = 1 := by kernel_rfl
    simp [k1] at e0 e1
    exact ⟨(x0, x1), by rw [e0, e1]; rfl⟩
theorem open_circ {r : Reach} {b0 : Nat} {v : Value} {d : DataW H} {p : List MemPlace} (hv : Value.okWide Try.prog w r b0 37 v) (h : DataW.Trod enc Try.prog w base spare held 37 v d p) :
    ∃ c q, v = .agg #[.int .i64 c.inputs, .slice q.an c.next.length q.cn, .slice q.ag c.gates.length q.cg, .slice q.ao c.outs.length q.co] ∧ CircIn w c q ∧ (Lit.int .i64 c.inputs).wf = true := by
  obtain ⟨v0, v1, v2, v3, y0, y1, y2, y3, n, rfl, _, _, h0, h1, h2, h3⟩ := open_agg4 Try.underlying37 (by kernel_rfl) (by kernel_rfl) hv h
  obtain ⟨x0, e0, _, hwf⟩ := DataW.trod_int Try.underlying3 h0
  obtain ⟨a1, c1, xs1, rfl, s1, l1, m1⟩ := open_slice (E := EInt .i64) (sz := 1) Try.underlying23 (by kernel_rfl) (by decide) (dec_int Try.underlying3) h1
  obtain ⟨a2, c2, xs2, rfl, s2, l2, m2⟩ := open_slice (E := EGate) Try.underlying35 (sz := 2) (by kernel_rfl) (by decide) dec_gate h2
  obtain ⟨a3, c3, xs3, rfl, s3, l3, m3⟩ := open_slice (E := EInt .i64) (sz := 1) Try.underlying23 (by kernel_rfl) (by decide) (dec_int Try.underlying3) h3
  simp at e0
  subst e0
  exact ⟨⟨x0, xs1, xs2, xs3⟩, ⟨a1, c1, a2, c2, a3, c3⟩, rfl, ⟨s1.ints, s2.pairs, s3.ints, ⟨l1, m1⟩, ⟨l2, m2⟩, ⟨l3, m3⟩⟩, hwf⟩
end
end Go.Proofs.Ytgialedmbmfejaa
