/- The law FnDepth: the depth is at most the number of gates; complementing the outputs does not change it. -/
import Derived.Test.YtkgimkdokdffoaaBytes
import Derived.Test.YtkgimkdokdffoaaDepth2
namespace Go.Proofs.Ytkgimkdokdffoaa
open Go.ChangeShapes Go.WideShapes Go.ChangeAt Go.RowKit
set_option maxRecDepth 100000
set_option linter.unusedVariables false
set_option linter.unusedSimpArgs false
theorem depth_bounds {c : Circ} (h : c.Valid) : 0 ≤ depthOf c ∧ depthOf c ≤ c.gates.length := by
  have e : depthOf c = topOf (lvls c.first.toNat c.gates) (c.next ++ c.outs) := by simp only [depthOf, validB_true h, if_true]
  rw [e]
  exact ⟨topOf_nonneg _ _, topOf_le (lvls_ok _ _) (by omega) _⟩
/-- The circuit with all outputs complemented. -/
def Circ.flip (c : Circ) : Circ := ⟨c.inputs, c.next, c.gates, c.outs.map cpl⟩
theorem Circ.Valid.lit {c : Circ} (h : c.Valid) {i : Nat} (hi : i < (c.next ++ c.outs).length) : 0 ≤ (c.next ++ c.outs).getD i 0 ∧ (c.next ++ c.outs).getD i 0 ≤ 60 := by
  have := litB_iff.1 (h.rs i hi)
  have := h.i0; have := h.i4; have := h.ln; have := h.lg
  simp only [Circ.vars, Circ.first] at *
  omega
theorem Circ.Valid.olit {c : Circ} (h : c.Valid) : ∀ x ∈ c.outs, 0 ≤ x ∧ x ≤ 60 := by
  intro x hx
  obtain ⟨i, hi, rfl⟩ := List.mem_iff_getElem.1 (List.mem_append_right c.next hx)
  have := h.lit hi
  rwa [List.getD_eq_getElem?_getD, List.getElem?_eq_getElem hi] at this
theorem flip_valid {c : Circ} (h : c.Valid) : c.flip.Valid := by
  refine ⟨h.i0, h.i4, h.ln, h.lg, by simpa [Circ.flip] using h.lo, h.gs, ?_⟩
  intro i hi
  have hi' : i < (c.next ++ c.outs).length := by simpa [Circ.flip] using hi
  have hb := h.lit hi'
  have hr := h.rs i hi'
  have hv : c.flip.vars = c.vars := rfl
  rw [hv]
  rcases Nat.lt_or_ge i c.next.length with hlt | hge
  · have e : (c.flip.next ++ c.flip.outs).getD i 0 = (c.next ++ c.outs).getD i 0 := by
      simp [Circ.flip, List.getD_eq_getElem?_getD, List.getElem?_append_left hlt]
    rw [e]; exact hr
  · have e : (c.flip.next ++ c.flip.outs).getD i 0 = cpl ((c.next ++ c.outs).getD i 0) := by
      have h2 : i - c.next.length < c.outs.length := by simp at hi'; omega
      simp [Circ.flip, List.getD_eq_getElem?_getD, List.getElem?_append_right hge, h2]
    rw [e, litB_cpl _ _ hb.1 (by omega)]; exact hr
theorem flip_depth {c : Circ} (h : c.Valid) : depthOf c.flip = depthOf c := by
  have e1 : depthOf c = topOf (lvls c.first.toNat c.gates) (c.next ++ c.outs) := by simp only [depthOf, validB_true h, if_true]
  have e2 : depthOf c.flip = topOf (lvls c.first.toNat c.gates) (c.next ++ c.outs.map cpl) := by
    have := validB_true (flip_valid h)
    simp only [depthOf, this, if_true]
    rfl
  rw [e1, e2]
  refine topOf_half _ _ ?_
  simp only [List.map_append, List.map_map]
  congr 1
  refine List.map_congr_left fun x hx => ?_
  have := h.olit x hx
  exact (cpl_eq x this.1 (by omega)).1
def FlipRel (w4 : World) (c : Circ) (an : Option Addr) (cn : Nat) (ag : Option Addr) (cg : Nat) (u6 : Value) (wr : World) : Prop :=
  ∃ (j : Nat) (v : Value), j ≤ c.outs.length ∧ u6 = .int .i64 j ∧ OwnInts wr (w4.heap.size + 1) 3 v ((c.outs.take j).map cpl) ∧ wr.heap[w4.heap.size]? = some (.cells #[.int .i64 c.inputs, .slice an c.next.length cn, .slice ag c.gates.length cg, v] 33) ∧ Ext w4 wr
theorem fnDepth_walk (a0 : Option Addr) (len0 cap0 : Nat) (z0 : List Int) (w : World) (w0 : IsRow .u8 w a0 len0 cap0 z0) :
    Calls Try.prog 8 #[.slice a0 len0 cap0] w fun e w' => e = .returned (.bool true) ∧ Below w.heap.size w w' := by
  obtain ⟨bs, rfl, hB, hlc, hcm⟩ := bytes_of_row w0
  by_cases hl : bs.length ≤ 1048576
  · go_enter Try.func8, Try.ntmps8
    go_wp2_with fail
    refine (DrawDepth_c a0 cap0 bs _ hB hl hlc hcm).mono ?_
    rintro e w1 ⟨c, p, rfl, hC, hd, hE, hcap⟩
    go_wp2_with fail
    (have y := CircBox.made w1 c p 33; have Ey : Ext w1 (w1.alloc (.cells #[.int .i64 c.inputs, .slice p.an c.next.length p.cn, .slice p.ag c.gates.length p.cg, .slice p.ao c.outs.length p.co] 33)) := (Ext.refl w1).alloc _; have hC := hC.ext Ey)
    generalize w1.alloc (.cells #[.int .i64 c.inputs, .slice p.an c.next.length p.cn, .slice p.ag c.gates.length p.cg, .slice p.ao c.outs.length p.co] 33) = W1 at *
    have E1 := Ext.trans hE Ey
    clear hE Ey
    have Y := y
    refine (implDepth_c c p _ hC).mono ?_
    rintro e w2 ⟨rfl, hE2⟩
    have hC := hC.ext hE2
    have z := Y.ext hE2
    have Z := z
    (obtain ⟨lz, z0, z1, z2, z3⟩ := z)
    go_wp2_with fail
    refine (specDepth_c c p _ hC).mono ?_
    rintro e w3 ⟨rfl, hE3⟩
    have hC := hC.ext hE3
    have x := Z.ext hE3
    have X := x
    (obtain ⟨lx, x0, x1, x2, x3⟩ := x)
    go_wp2_with fail
    refine (specValid_c c p _ hC).mono ?_
    rintro e w4 ⟨rfl, hE4⟩
    have hC := hC.ext hE4
    have u := X.ext hE4
    have U := u
    have E4 := E1.trans (hE2.trans (hE3.trans hE4))
    (obtain ⟨lu, u0, u1, u2, u3⟩ := u)
    cases hv : validB c
    · have hn : depthOf c = -1 := by simp [depthOf, hv]
      rw [hn]
      go_wp2_with fail
      refine (alive_c _).mono ?_
      rintro e w5 ⟨rfl, hE5⟩
      go_wp2
      go_ret
      exact ⟨rfl, E4.trans hE5⟩
    · have V := validB_iff.1 hv
      obtain ⟨D, hD⟩ : ∃ D, D = depthOf c := ⟨_, rfl⟩
      rw [← hD]
      obtain ⟨d0, d1⟩ := depth_bounds V
      rw [← hD] at d0 d1
      have HD := Lib.hid hD
      clear hD
      obtain ⟨an, cn, ag, cg, ao, co⟩ := p
      dsimp only at u0 u1 u2 u3
      have lo := V.lo
      have EW : Ext w4 ((w4.alloc (.cells #[.int .i64 c.inputs, .slice an c.next.length cn, .slice ag c.gates.length cg, .slice (some ⟨w4.heap.size + 1, 0, none⟩) 0 0] 33)).alloc (.cells #[] 3)) := ((Ext.refl w4).alloc _).alloc _
      have OW : OwnInts ((w4.alloc (.cells #[.int .i64 c.inputs, .slice an c.next.length cn, .slice ag c.gates.length cg, .slice (some ⟨w4.heap.size + 1, 0, none⟩) 0 0] 33)).alloc (.cells #[] 3)) (w4.heap.size + 1) 3 (.slice (some ⟨w4.heap.size + 1, 0, none⟩) 0 0) ((c.outs.take 0).map cpl) := by
        have := ownsRow_made (w4.alloc (.cells #[.int .i64 c.inputs, .slice an c.next.length cn, .slice ag c.gates.length cg, .slice (some ⟨w4.heap.size + 1, 0, none⟩) 0 0] 33)) (w4.heap.size + 1) 3 [] (by simp) (by decide)
        unfold OwnInts
        simpa using this
      have HW : ((w4.alloc (.cells #[.int .i64 c.inputs, .slice an c.next.length cn, .slice ag c.gates.length cg, .slice (some ⟨w4.heap.size + 1, 0, none⟩) 0 0] 33)).alloc (.cells #[] 3)).heap[w4.heap.size]? = some (.cells #[.int .i64 c.inputs, .slice an c.next.length cn, .slice ag c.gates.length cg, .slice (some ⟨w4.heap.size + 1, 0, none⟩) 0 0] 33) :=
        (Below.heap_alloc _ _ _ (by simp)).trans (heap_alloc_new w4 _)
      go_wp2_with fail
      go_loopw [6] (FlipRel w4 c an cn ag cg) (fun i _ => c.outs.length - (intOf i).toNat)
      case atStart => exact ⟨0, _, Nat.zero_le _, rfl, OW, HW, EW⟩
      case round =>
        obtain ⟨j, v, hj, rfl, hO, hbx, hEr⟩ := hrel
        obtain ⟨_, y0, y1, y2, y3⟩ := U.ext hEr
        dsimp only at y0 y1 y2 y3
        by_cases hlt : j < c.outs.length
        · have hLE : w4.heap.size < wr.heap.size := (Array.getElem?_eq_some_iff.1 hbx).1
          obtain ⟨b9, o9, hao, hb9, hc9⟩ := (hC.ext hEr).ou.get (by omega)
          dsimp only at hao
          subst hao
          have q := hc9 j hlt
          have hst : (c.outs.take (j + 1)).map cpl = (c.outs.take j).map cpl ++ [cpl (c.outs.getD j 0)] := by rw [take_snocP c.outs j 0 hlt]; simp
          obtain ⟨xl, hxl⟩ : ∃ x, x = c.outs.getD j 0 := ⟨_, rfl⟩
          rw [← hxl] at q hst
          have HST := Lib.hid hst
          clear hc9 hst hxl
          obtain ⟨xa, xc, hve, hI, hvb⟩ := hO.opened
          subst hve
          have hml : ((c.outs.take j).map cpl).length = j := by simp; omega
          rw [hml] at hbx
          have s3 := cell_of_row wr w4.heap.size 3 _ _ _ hbx
          simp at s3
          have O5 := ownsRow_ext hO (((Ext.refl wr).alloc (.cells #[.int .i64 (cpl xl)] 3)).drew')
          rw [hml] at O5
          have RN : RowAt ((wr.alloc (.cells #[.int .i64 (cpl xl)] 3)).drew) (some ⟨wr.heap.size, 0, none⟩) [.int .i64 (cpl xl)] := (RowAt.new wr #[.int .i64 (cpl xl)] 3).ext (Ext.drew _)
          have hcx : bits .xor .i64 xl 1 = cpl xl := rfl
          go_wp2_with fail
          go_region_law (go_loud (refine step_app tyInts O5 RN rfl (oneCell_int1 _) (by omega) (by simp; omega) rfl rfl rfl rfl ?_); intro v' w8 o8 g8 m8; obtain ⟨na, nc, rfl, _, _, _, nb⟩ := ownsRow_row o8; have h8 := (g8.block w4.heap.size (by simp; omega) (by intro h; have := (O5.lt _ h.symm).1; omega)).trans ((Below.heap_alloc wr _ _ hLE).trans hbx); have t3 := cell_of_row w8 w4.heap.size 3 _ _ _ h8; have ft := frozen_of_row w8 w4.heap.size 3 _ _ h8; simp at t3)
          all_goals (
            have hE8 : Ext w4 w8 := ext_grown (hEr.trans (((Ext.refl wr).alloc _).drew')) g8 (by intro i hi; have := (O5.lt _ hi).1; omega)
            have hO8 : OwnInts (w8.setCell ⟨w4.heap.size, 3, none⟩ (.slice na (j + 1) nc)) (w4.heap.size + 1) 3 (.slice na (j + 1) nc) ((c.outs.take (j + 1)).map cpl) := by
              have := ownsRow_set o8 (p := ⟨w4.heap.size, 3, none⟩) (by intro h; have := (o8.lt _ h).1; simp at this; omega) (.slice na (j + 1) nc)
              unfold OwnInts
              rw [HST.out]
              have hmn : min j c.outs.length = j := by omega
              simpa [hml, hmn] using this
            have hB8 : (w8.setCell ⟨w4.heap.size, 3, none⟩ (.slice na (j + 1) nc)).heap[w4.heap.size]? = some (.cells #[.int .i64 c.inputs, .slice an c.next.length cn, .slice ag c.gates.length cg, .slice na (j + 1) nc] 33) := by
              rw [heap_setCell_same _ _ _ _ _ _ h8]; simp
            go_wp2
            go_roundw
            case rel => exact ⟨j + 1, _, by omega, by go_num, hO8, hB8, Ext.setNew hE8 (Nat.le_refl _) _⟩
            case measure => simp [intOf]; omega)
        · have hj2 : j = c.outs.length := by omega
          subst hj2
          rw [List.take_length] at hO
          obtain ⟨xa, xc, rfl, hI, _⟩ := hO.opened
          have hfl : (c.outs.map cpl).length = c.outs.length := by simp
          have s0 := cell_of_row wr w4.heap.size 0 _ _ _ hbx
          have s1 := cell_of_row wr w4.heap.size 1 _ _ _ hbx
          have s2 := cell_of_row wr w4.heap.size 2 _ _ _ hbx
          have s3 := cell_of_row wr w4.heap.size 3 _ _ _ hbx
          simp at s0 s1 s2 s3
          have hCr := hC.ext hEr
          have hF : CircAt wr c.flip ⟨an, cn, ag, cg, xa, xc⟩ := ⟨hCr.nx, hCr.gs, hI, hCr.ln, hCr.lg, by simp [Circ.flip]; omega⟩
          have hdep := flip_depth V
          clear hbx
          go_wp2_with fail
          have hcall := implDepth_c c.flip ⟨an, cn, ag, cg, xa, xc⟩ _ hF
          have el : c.flip.outs.length = c.outs.length := by simp [Circ.flip]
          rw [el] at hcall
          refine hcall.mono ?_
          rintro e w7 ⟨rfl, hE7⟩
          rw [hdep, ← HD.out]
          go_wp2
          go_ret
          exact ⟨rfl, E4.trans (hEr.trans hE7)⟩
  · go_enter Try.func8, Try.ntmps8
    go_wp2
    go_ret
    exact ⟨rfl, Below.refl _ _⟩
theorem fnDepth_lifted (os : Os) (started : os.Started) (H : Type) (enc : TypeId × Value → H) :
    ReturnsInHanded {} Try.checked os 8 .any (Rows.fnDepthSpec.pre6 enc Try.prog Try.f8 Rows.fnDepthRow.domain false) (Rows.fnDepthSpec.post enc Try.prog Try.f8 false true false false) := by
  refine returnsInHanded_of_change (C := Try.checked) own started (by kernel_rfl) Try.func8
    (ChangeSpec.witness6 (enc := enc) (C := Try.checked) false ⟨#[], #[.slice none 0 0], []⟩ 8 (by kernel_rfl) (by kernel_rfl) (by kernel_rfl) (by kernel_rfl)) ?_
  intro W base args ds gs before hval0 hW hcnd _
  have hval : ∀ (j : Nat) t v, Try.f8.params[j]? = some t → args[j]? = some v → Value.okWide Try.prog W .any base t v := hval0
  have hW' := hW
  obtain ⟨p, q, hA0, hV, rfl, hfz, hnd⟩ := hW
  have hA : DataW.TrodAll enc Try.prog W 0 (fun _ => true) true Try.f8.params.toList args.toList ds p := hA0
  rw [Try.params8] at hA hval
  obtain ⟨v0, vs0, d0, ds0, p0, q0, hargs, rfl, rfl, h0, r0⟩ := trodAll_cons hA
  obtain ⟨rfl, rfl, rfl⟩ := trodAll_nil r0
  obtain rfl : args = #[v0] := by cases args; simp_all
  obtain ⟨rfl, rfl⟩ := trodVars_none hV
  obtain ⟨a0, len0, cap0, rfl⟩ := okWide_slice Try.underlying29 (hval 0 29 v0 rfl rfl)
  have k0 := h0
  have lt0 : ∀ x ∈ p0, x.block < W.heap.size := by obtain ⟨m, hm⟩ := k0; exact DataW.trod_lt m _ _ _ hm
  obtain ⟨z0, w0⟩ : ∃ zs, IsRow .u8 W a0 len0 cap0 zs := by
    obtain ⟨fuel, hf⟩ := h0
    rcases open_ints Try.underlying29 Try.underlying5 (by kernel_rfl) hf with ⟨hcs, _⟩ | ⟨x, l, c, zs, hcs, _, hl, hm, hz, _, hcell, hwz⟩
    · simp [Value.cells] at hcs
      obtain ⟨rfl, rfl, rfl⟩ := hcs
      exact ⟨[], .inl ⟨rfl, rfl, rfl, rfl⟩⟩
    · simp [Value.cells] at hcs
      obtain ⟨rfl, rfl, rfl⟩ := hcs
      exact ⟨zs, .inr ⟨_, rfl, hl, hm, by simpa using hz, hcell, hwz⟩⟩
  clear hA0 hval0
  refine (fnDepth_walk a0 len0 cap0 z0 W w0).mono fun e W' ⟨he, bel⟩ => ?_
  subst he
  exact ⟨_, rfl, _, _, _, [], _, [], hW', trodAll_mk1 (shut_bool Try.underlying4 _), (trodAll_cons_mk (Below.trod laidOut (by kernel_rfl) (of_decide_eq_true (by kernel_rfl)) k0 bel lt0) trodAll_mk0), rfl, bel.frame _, fun h => by cases h⟩
theorem fnDepth_over : Rows.fnDepthRow.holds Try.pinned (OpenSpec.ofChange Rows.fnDepthSpec) :=
  OpenClaim.holds_of_wide 8 Try.f8 rfl rfl rfl rfl rfl rfl rfl ⟨rfl, rfl, rfl, rfl, rfl⟩ rfl rfl rfl rfl rfl (by kernel_rfl) Try.func8 (by kernel_rfl)
    (of_decide_eq_true (by kernel_rfl)) (by unfold Func.isWrapper; first | (rw [if_pos (by decide +kernel)]; kernel_rfl) | (rw [if_neg (by decide +kernel)]; exact ⟨rfl, rfl⟩))
    (fun os started H enc _ => fnDepth_lifted os started H enc)
theorem fnDepth_holds : Rows.FnDepthSaid := fnDepth_over
end Go.Proofs.Ytkgimkdokdffoaa
