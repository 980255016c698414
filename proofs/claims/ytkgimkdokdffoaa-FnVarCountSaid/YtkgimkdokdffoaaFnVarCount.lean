/- The law FnVarCount: drawn circuits; what both libraries count is one number. -/
import Derived.Test.YtkgimkdokdffoaaBytes
namespace Go.Proofs.Ytkgimkdokdffoaa
open Go.ChangeShapes Go.WideShapes Go.ChangeAt Go.RowKit
set_option maxRecDepth 100000
set_option linter.unusedVariables false
set_option linter.unusedSimpArgs false
theorem fnVarCount_walk (a0 : Option Addr) (len0 cap0 : Nat) (z0 : List Int) (w : World) (w0 : IsRow .u8 w a0 len0 cap0 z0) :
    Calls Try.prog 6 #[.slice a0 len0 cap0] w fun e w' => e = .returned (.bool true) ∧ Below w.heap.size w w' := by
  obtain ⟨bs, rfl, hB, hlc, hcm⟩ := bytes_of_row w0
  by_cases hl : bs.length ≤ 1048576
  · go_enter Try.func6, Try.ntmps6
    go_wp2_with fail
    refine (DrawVarCount_c a0 cap0 bs _ hB hl hlc hcm).mono ?_
    rintro e w1 ⟨c, p, rfl, hC, hd, hE⟩
    go_wp2_with fail
    (have y := CircBox.made w1 c p 33; have Ey : Ext w1 (w1.alloc (.cells #[.int .i64 c.inputs, .slice p.an c.next.length p.cn, .slice p.ag c.gates.length p.cg, .slice p.ao c.outs.length p.co] 33)) := (Ext.refl w1).alloc _; have hC := hC.ext Ey)
    generalize w1.alloc (.cells #[.int .i64 c.inputs, .slice p.an c.next.length p.cn, .slice p.ag c.gates.length p.cg, .slice p.ao c.outs.length p.co] 33) = W1 at *
    have E1 := Ext.trans hE Ey
    clear hE Ey
    have Y := y
    refine (implVarCount_c c p _ hC).mono ?_
    rintro e w2 ⟨rfl, hE2⟩
    have hC := hC.ext hE2
    have z := Y.ext hE2
    have Z := z
    (obtain ⟨lz, z0, z1, z2, z3⟩ := z)
    go_wp2_with fail
    refine (specVarCount_c c p _ hC).mono ?_
    rintro e w3 ⟨rfl, hE3⟩
    have hC := hC.ext hE3
    have x := Z.ext hE3
    have X := x
    (obtain ⟨lx, x0, x1, x2, x3⟩ := x)
    go_wp2_with fail
    refine (specValid_c c p _ hC).mono ?_
    rintro e w4 ⟨rfl, hE4⟩
    have hC := hC.ext hE4
    have u := X.ext hE4
    have E4 := E1.trans (hE2.trans (hE3.trans hE4))
    (obtain ⟨lu, u0, u1, u2, u3⟩ := u)
    have ln := hC.ln
    have lg := hC.lg
    have lo := hC.lo
    cases hv : validB c
    · have hn : varCount c = 0 := by simp [varCount, hv]
      rw [hn]
      go_wp2_with fail
      refine (alive_c _).mono ?_
      rintro e w5 ⟨rfl, hE5⟩
      go_wp2
      go_ret
      exact ⟨rfl, E4.trans hE5⟩
    · have hn : varCount c = c.vars := by simp [varCount, hv]
      have V := validB_iff.1 hv
      have hi := V.i0
      have hi4 := V.i4
      rw [hn]
      go_wp2
      go_ret
      refine ⟨?_, E4⟩
      simp [Circ.vars, Circ.first]
  · go_enter Try.func6, Try.ntmps6
    go_wp2
    go_ret
    exact ⟨rfl, Below.refl _ _⟩
theorem fnVarCount_lifted (os : Os) (started : os.Started) (H : Type) (enc : TypeId × Value → H) :
    ReturnsInHanded {} Try.checked os 6 .any (Rows.fnVarCountSpec.pre6 enc Try.prog Try.f6 Rows.fnVarCountRow.domain false) (Rows.fnVarCountSpec.post enc Try.prog Try.f6 false true false false) := by
  refine returnsInHanded_of_change (C := Try.checked) own started (by kernel_rfl) Try.func6
    (ChangeSpec.witness6 (enc := enc) (C := Try.checked) false ⟨#[], #[.slice none 0 0], []⟩ 8 (by kernel_rfl) (by kernel_rfl) (by kernel_rfl) (by kernel_rfl)) ?_
  intro W base args ds gs before hval0 hW hcnd _
  have hval : ∀ (j : Nat) t v, Try.f6.params[j]? = some t → args[j]? = some v → Value.okWide Try.prog W .any base t v := hval0
  have hW' := hW
  obtain ⟨p, q, hA0, hV, rfl, hfz, hnd⟩ := hW
  have hA : DataW.TrodAll enc Try.prog W 0 (fun _ => true) true Try.f6.params.toList args.toList ds p := hA0
  rw [Try.params6] at hA hval
  obtain ⟨v0, vs0, d0, ds0, p0, q0, hargs, rfl, rfl, h0, r0⟩ := trodAll_cons hA
  obtain ⟨rfl, rfl, rfl⟩ := trodAll_nil r0
  obtain rfl : args = #[v0] := by cases args; simp_all
  obtain ⟨rfl, rfl⟩ := trodVars_none hV
  obtain ⟨a0, len0, cap0, rfl⟩ := okWide_slice Try.underlying29 (hval 0 29 v0 rfl rfl)
  have k0 := h0
  have lt0 : ∀ x ∈ p0, x.block < W.heap.size := by obtain ⟨m, hm⟩ := k0; exact DataW.trod_lt m _ _ _ hm
  obtain ⟨z0, w0⟩ : ∃ zs, IsRow .u8 W a0 len0 cap0 zs := by
    obtain ⟨fuel, hf⟩ := h0
    rcases open_ints Try.underlying29 Try.underlying5 (by kernel_rfl) hf with ⟨hcs, _⟩ | ⟨x, l, c, zs, hcs, _, hl, hm, hz, _, hcell, hwz⟩
    · simp [Value.cells] at hcs
      obtain ⟨rfl, rfl, rfl⟩ := hcs
      exact ⟨[], .inl ⟨rfl, rfl, rfl, rfl⟩⟩
    · simp [Value.cells] at hcs
      obtain ⟨rfl, rfl, rfl⟩ := hcs
      exact ⟨zs, .inr ⟨_, rfl, hl, hm, by simpa using hz, hcell, hwz⟩⟩
  clear hA0 hval0
  refine (fnVarCount_walk a0 len0 cap0 z0 W w0).mono fun e W' ⟨he, bel⟩ => ?_
  subst he
  exact ⟨_, rfl, _, _, _, [], _, [], hW', trodAll_mk1 (shut_bool Try.underlying4 _), (trodAll_cons_mk (Below.trod laidOut (by kernel_rfl) (of_decide_eq_true (by kernel_rfl)) k0 bel lt0) trodAll_mk0), rfl, bel.frame _, fun h => by cases h⟩
theorem fnVarCount_over : Rows.fnVarCountRow.holds Try.pinned (OpenSpec.ofChange Rows.fnVarCountSpec) :=
  OpenClaim.holds_of_wide 6 Try.f6 rfl rfl rfl rfl rfl rfl rfl ⟨rfl, rfl, rfl, rfl, rfl⟩ rfl rfl rfl rfl rfl (by kernel_rfl) Try.func6 (by kernel_rfl)
    (of_decide_eq_true (by kernel_rfl)) (by unfold Func.isWrapper; first | (rw [if_pos (by decide +kernel)]; kernel_rfl) | (rw [if_neg (by decide +kernel)]; exact ⟨rfl, rfl⟩))
    (fun os started H enc _ => fnVarCount_lifted os started H enc)
theorem fnVarCount_holds : Rows.FnVarCountSaid := fnVarCount_over
end Go.Proofs.Ytkgimkdokdffoaa
