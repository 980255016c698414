/- The law FnRunBitstream: a bitstream that decodes runs as its configuration does, any other gives nothing. No condition. -/
import Derived.Test.YtgialedmbmfejaaBytes
import Derived.Test.YtgialedmbmfejaaDrRB
import Derived.Test.YtgialedmbmfejaaEnL
import Derived.Test.YtgialedmbmfejaaBFa
import Derived.Test.YtgialedmbmfejaaBitI
namespace Go.Proofs.Ytgialedmbmfejaa
open Go.ChangeShapes Go.WideShapes Go.ChangeAt Go.RowKit
set_option maxRecDepth 100000
set_option linter.unusedVariables false
set_option linter.unusedSimpArgs false
theorem bitV_sm (bs : List Int) (xss : List (List Bool)) : (bitV bs xss).length ≤ xss.length ∧ ∀ r ∈ bitV bs xss, r.length = 3 := by
 unfold bitV
 split
 ·exact runFV_sm _ _
 ·exact ⟨Nat.zero_le _, fun r hr => by cases hr⟩
theorem runs_open {w w' : World} {xss : List (List Bool)} {e : Ending} (h : GiveRows w xss e w') : ∃ a c, e = .returned (.slice a xss.length c) ∧ RowsAt w' a xss ∧ Ext w w' := by
 obtain ⟨v, vals, h1, h2, h3⟩ := h
 obtain ⟨a, c, e, _⟩ := ownsRow_row h2.row
 subst e
 exact ⟨a, c, h1, h2.at_, h3⟩
set_option maxHeartbeats 8000000 in
theorem fnRunBitstream_walk (a0 : Option Addr) (len0 cap0 : Nat) (z0 : List Int) (w : World) (w0 : IsRow .u8 w a0 len0 cap0 z0) :
  Calls Try.prog 5 #[.slice a0 len0 cap0] w fun e w' => e = .returned (.bool true) ∧ Below w.heap.size w w' := by
 obtain ⟨bs, rfl, hB, hlc, hcm⟩ := bytes_of_row w0
 by_cases hl : bs.length ≤ 1048576
 ·go_enter Try.func5, Try.ntmps5
  go_wp2_with fail
  refine (DrawRunBitstream_c a0 cap0 bs _ hB hl hlc hcm).mono ?_
  rintro e w1 ⟨ya, yc, ys, ra, rc, xss, rfl, hY, hYA, hyl, hyc, hycm, hX, hxl, hx4, hE⟩
  have hl2 : ys.length ≤ 1048576 := by omega
  have hl3 : xss.length ≤ 1048576 := by omega
  have HXR : Hid (∀ j, j < xss.length → (xss.getD j []).length ≤ 1048576) := Lib.hid (fun j hj => by have := hx4 _ (mem_getD hj); omega)
  have H1 := Lib.hid (fun W (h1 : BytAt W ya ys) (h2 : RowsAt W ra xss) => (implRunBitstream_c ys xss ya ra yc rc W h1 hYA hl2 hyc hycm h2 hl3 HXR.out).mono (fun e w' h => runs_open h))
  have H2 := Lib.hid (fun W (h1 : BytAt W ya ys) (h2 : RowsAt W ra xss) => (specRunBitstream_c ys xss ya ra yc rc W h1 hYA hl2 h2 hl3 HXR.out).mono (fun e w' h => runs_open h))
  have H3 := Lib.hid (fun W (h1 : BytAt W ya ys) => implDecodeConfig_c ys ya yc W h1 hYA hl2 hyc hycm)
  have H4 := Lib.hid (fun k ta pa tc pc W (h1 : ConfAt W k ta pa) (h2 : RowsAt W ra xss) => (implRunFabric_c k ta pa tc pc ra rc xss W h1 h2 hl3 HXR.out).mono (fun e w' h => runs_open h))
  have HS : Hid (bitV ys xss = if decB ys then runFV (decV ys) xss else []) := Lib.hid rfl
  have hSm := bitV_sm ys xss
  obtain ⟨S, hS⟩ : ∃ S, S = bitV ys xss := ⟨_, rfl⟩
  rw [← hS] at H1 H2 HS hSm
  have hSl : S.length ≤ 1048576 := by omega
  have HSR : Hid (∀ j, j < S.length → (S.getD j []).length ≤ 1048576) := Lib.hid (fun j hj => by have := hSm.2 _ (mem_getD hj); omega)
  clear hSm hS hx4
  go_wp2_with fail
  refine (H1.out _ hY hX).mono ?_
  rintro e w2 ⟨oa, oc, rfl, hO, hE2⟩
  have hY2 := hY.ext hE2
  have hX2 := hX.ext hE2
  have E2 := hE.trans hE2
  clear hY hX hE2 hE
  go_wp2_with fail
  refine (H2.out _ hY2 hX2).mono ?_
  rintro e w3 ⟨sa, sc, rfl, hSA, hE3⟩
  go_wp2_with fail
  refine (sameRows_c oa sa oc sc _ S rfl _ (hO.ext hE3) hSA hSl HSR.out).mono ?_
  rintro e w4 ⟨rfl, hE4⟩
  have hY4 := hY2.ext (hE3.trans hE4)
  have hX4 := hX2.ext (hE3.trans hE4)
  have hO4 := hO.ext (hE3.trans hE4)
  have E4 := E2.trans (hE3.trans hE4)
  clear hY2 hX2 hO hE3 hE4 E2 hSA
  go_wp2_with fail
  refine (H3.out _ hY4).mono ?_
  rintro e w5 ⟨tv, pv, us, rfl, hK, hE5⟩
  obtain ⟨ta, tc, pa, pc, rfl, rfl⟩ := hK.sl
  have E5 := E4.trans hE5
  cases hd : decB ys
  ·have hS0 : S.length = 0 := by rw [HS.out, hd]; rfl
   have h0b : ((S.length : Int) == 0) = true := by rw [hS0]; rfl
   have eB : Ext w5 (w5.alloc (.cells #[.slice ta (decV ys).ts.length tc, .slice pa (decV ys).ps.length pc] 52)) := (Ext.refl _).alloc _
   clear hS0 hd hK
   go_wp2_with fail
   refine (alive_c _).mono ?_
   rintro e w6 ⟨rfl, hE6⟩
   go_wp2_with fail
   go_ret
   exact ⟨rfl, (E5.trans eB).trans hE6⟩
  ·have hSV : S = runFV (decV ys) xss := by rw [HS.out, hd]; rfl
   have hDV := decV_yes hd
   have hOK := (decB_iff.1 hd).1
   rw [← hDV] at hOK
   have HSV := Lib.hid hSV
   obtain ⟨K, hKK⟩ : ∃ k, k = decV ys := ⟨_, rfl⟩
   rw [← hKK] at hK HSV hOK
   clear hSV hDV hd
   rw [← hKK]
   clear hKK
   have hA := hK.at_ (by rw [hOK.lt]; omega) (by rw [hOK.lp]; omega) (fun j hj => by have q := hOK.tile (j := j) (by rw [hOK.lt] at hj; exact hj); exact ⟨by have := q.ls; omega, by have := q.ld; omega⟩)
   have bk := Blk.at w5 [.slice ta K.ts.length tc, .slice pa K.ps.length pc] 52 rfl
   have eB : Ext w5 (w5.alloc (.cells #[.slice ta K.ts.length tc, .slice pa K.ps.length pc] 52)) := (Ext.refl _).alloc _
   have H5 := H4.out K ta pa tc pc _ (hA.ext eB) (hX4.ext (hE5.trans eB))
   rw [← HSV.out] at H5
   have HH5 := Lib.hid H5
   have hO5 := hO4.ext (hE5.trans eB)
   clear H5 H4 H3 H2 H1 hK hA hOK hX4 hY4 hO4
   go_wp2_with fail
   refine HH5.out.mono ?_
   rintro e w6 ⟨fa, fc, rfl, hF, hE6⟩
   go_wp2_with fail
   refine (sameRows_c oa fa oc fc _ S rfl _ (hO5.ext hE6) hF hSl HSR.out).mono ?_
   rintro e w7 ⟨rfl, hE7⟩
   go_wp2_with fail
   go_ret
   exact ⟨rfl, ((E5.trans eB).trans hE6).trans hE7⟩
 ·go_enter Try.func5, Try.ntmps5
  go_wp2
  go_ret
  exact ⟨rfl, Ext.refl _⟩
theorem fnRunBitstream_lifted (os : Os) (started : os.Started) (H : Type) (enc : TypeId × Value → H) :
  ReturnsInHanded {} Try.checked os 5 .any (Rows.fnRunBitstreamSpec.pre6 enc Try.prog Try.f5 Rows.fnRunBitstreamRow.domain false) (Rows.fnRunBitstreamSpec.post enc Try.prog Try.f5 false true false false) := by
 refine returnsInHanded_of_change (C := Try.checked) own started (by kernel_rfl) Try.func5
  (ChangeSpec.witness6 (enc := enc) (C := Try.checked) false ⟨#[], #[.slice none 0 0], []⟩ 8 (by kernel_rfl) (by kernel_rfl) (by kernel_rfl) (by kernel_rfl)) ?_
 intro W base args ds gs before hval0 hW hcnd _
 have hval : ∀ (j : Nat) t v, Try.f5.params[j]? = some t → args[j]? = some v → Value.okWide Try.prog W .any base t v := hval0
 have hW' := hW
 obtain ⟨p, q, hA0, hV, rfl, hfz, hnd⟩ := hW
 have hA : DataW.TrodAll enc Try.prog W 0 (fun _ => true) true Try.f5.params.toList args.toList ds p := hA0
 rw [Try.params5] at hA hval
 obtain ⟨v0, vs0, d0, ds0, p0, q0, hargs, rfl, rfl, h0, r0⟩ := trodAll_cons hA
 obtain ⟨rfl, rfl, rfl⟩ := trodAll_nil r0
 obtain rfl : args = #[v0] := by cases args; simp_all
 obtain ⟨rfl, rfl⟩ := trodVars_none hV
 obtain ⟨a0, len0, cap0, rfl⟩ := okWide_slice Try.underlying22 (hval 0 22 v0 rfl rfl)
 have k0 := h0
 have lt0 : ∀ x ∈ p0, x.block < W.heap.size := by obtain ⟨m, hm⟩ := k0; exact DataW.trod_lt m _ _ _ hm
 obtain ⟨z0, w0⟩ : ∃ zs, IsRow .u8 W a0 len0 cap0 zs := by
  obtain ⟨fuel, hf⟩ := h0
  rcases open_ints Try.underlying22 Try.underlying5 (by kernel_rfl) hf with ⟨hcs, _⟩ | ⟨x, l, c, zs, hcs, _, hl, hm, hz, _, hcell, hwz⟩
  ·simp [Value.cells] at hcs
   obtain ⟨rfl, rfl, rfl⟩ := hcs
   exact ⟨[], .inl ⟨rfl, rfl, rfl, rfl⟩⟩
  ·simp [Value.cells] at hcs
   obtain ⟨rfl, rfl, rfl⟩ := hcs
   exact ⟨zs, .inr ⟨_, rfl, hl, hm, by simpa using hz, hcell, hwz⟩⟩
 clear hA0 hval0
 refine (fnRunBitstream_walk a0 len0 cap0 z0 W w0).mono fun e W' ⟨he, bel⟩ => ?_
 subst he
 exact ⟨_, rfl, _, _, _, [], _, [], hW', trodAll_mk1 (shut_bool Try.underlying4 _), (trodAll_cons_mk (Below.trod laidOut (by kernel_rfl) (of_decide_eq_true (by kernel_rfl)) k0 bel lt0) trodAll_mk0), rfl, bel.frame _, fun h => by cases h⟩
theorem fnRunBitstream_over : Rows.fnRunBitstreamRow.holds Try.pinned (OpenSpec.ofChange Rows.fnRunBitstreamSpec) :=
 OpenClaim.holds_of_wide 5 Try.f5 rfl rfl rfl rfl rfl rfl rfl ⟨rfl, rfl, rfl, rfl, rfl⟩ rfl rfl rfl rfl rfl (by kernel_rfl) Try.func5 (by kernel_rfl)
  (of_decide_eq_true (by kernel_rfl)) (by unfold Func.isWrapper; first | (rw [if_pos (by decide +kernel)]; kernel_rfl) | (rw [if_neg (by decide +kernel)]; exact ⟨rfl, rfl⟩))
  (fun os started H enc _ => fnRunBitstream_lifted os started H enc)
theorem fnRunBitstream_holds : Rows.FnRunBitstreamSaid := fnRunBitstream_over
end Go.Proofs.Ytgialedmbmfejaa
