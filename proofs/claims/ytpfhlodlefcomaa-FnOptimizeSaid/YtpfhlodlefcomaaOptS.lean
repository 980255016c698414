/- Contracts: the reference's Optimize, its helpers. -/
import Derived.Test.YtpfhlodlefcomaaOptV
import Derived.Test.YtpfhlodlefcomaaSpec1
import Derived.Test.YtpfhlodlefcomaaOwn
import Derived.Outline
namespace Go.Proofs.Ytpfhlodlefcomaa
open Go.RowKit
set_option maxRecDepth 100000
set_option linter.unusedVariables false
set_option linter.unusedSimpArgs false
theorem l3Map_c (a : Option Addr) (c n : Nat) (ms : List Int) (hn : ms.length = n) (l : Int) (w : World) (hm : IntsAt w a ms) (h0 : 0 ≤ l) (h1 : l < 2 * (n : Int)) (hl : n ≤ 1048576) (hx : ∀ x ∈ ms, 0 ≤ x ∧ x ≤ 1000000) :
    Calls Try.prog 78 #[.slice a n c, .int .i64 l] w fun e w' => e = .returned (.int .i64 (mapL ms l)) ∧ w = w' := by
  subst hn
  obtain ⟨b, o, rfl, hb, hc⟩ := hm.get (by omega)
  have q := hc (l / 2).toNat (by omega)
  have hx2 := hx _ (getD_mem (d := 0) (show (l / 2).toNat < ms.length by omega))
  have E : Hid (mapL ms l = xorL (ms.getD (l / 2).toNat 0) l) := Lib.hid rfl
  obtain ⟨x, hxx⟩ : ∃ x, x = ms.getD (l / 2).toNat 0 := ⟨_, rfl⟩
  rw [← hxx] at q E hx2
  obtain ⟨hx3, hx4⟩ := hx2
  have ha := xor_bit x l hx3 (by omega)
  clear hc hxx hx
  go_enter Try.func78, Try.ntmps78
  go_wp2
  go_ret
  exact ⟨by rw [E.out]; rfl, rfl⟩
def AndPost (w : World) (base : Nat) (c : Circ) (p : Where3) (R : List (Int × Int) × Int) (e : Ending) (w' : World) : Prop :=
  ∃ ag cg, e = .returned (.tuple #[.agg #[.int .i64 c.inputs, .slice p.an c.next.length p.cn, .slice ag R.1.length cg, .slice p.ao c.outs.length p.co], .int .i64 R.2]) ∧
    w'.ownsRow base 46 2 (.slice ag R.1.length cg) R.1.length (flat R.1) ∧ ((ag = p.ag ∧ cg = p.cg ∧ R.1 = c.gates) ∨ ∀ k, (Value.slice ag R.1.length cg).ownBlock = some k → w.heap.size ≤ k) ∧ Ext w w'
theorem andPost_new {w w' : World} {base B1 : Nat} {c : Circ} {p : Where3} {a b x : Int} {ga : Option Addr} {gc : Nat} (hx : x = 2 * (c.first + c.gates.length)) (ho : w'.ownsRow B1 46 2 (.slice ga (c.gates.length + 1) gc) (c.gates.length + 1) (flat c.gates ++ flat [(a, b)]))
    (hB : w.heap.size ≤ B1) (hb : base ≤ w.heap.size) (hE : Ext w w') :
    AndPost w base c p (c.gates ++ [(a, b)], 2 * (c.first + c.gates.length)) (.returned (.tuple #[.agg #[.int .i64 c.inputs, .slice p.an c.next.length p.cn, .slice ga (c.gates.length + 1) gc, .slice p.ao c.outs.length p.co], .int .i64 x])) w' := by
  subst hx
  have e : (c.gates ++ [(a, b)]).length = c.gates.length + 1 := by simp
  refine ⟨ga, gc, by rw [e], ?_, .inr ?_, hE⟩
  · simp only [e, flat_append]
    exact ownsRow_base ho (by omega)
  · simp only [e]
    intro k hk
    have := (ho.lt k hk).1
    omega
theorem gate_ne {g : Int × Int} {a b : Int} (h : ¬ (g.1 = a ∧ g.2 = b)) : g ≠ (a, b) := by
  intro e; subst e; exact h ⟨rfl, rfl⟩
end Go.Proofs.Ytpfhlodlefcomaa