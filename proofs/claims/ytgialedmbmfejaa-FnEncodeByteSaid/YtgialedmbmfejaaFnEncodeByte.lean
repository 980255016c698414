/- The law FnEncodeByte: a bitstream in which one byte is changed is never accepted. No condition. -/
import Derived.Test.YtgialedmbmfejaaBytes
import Derived.Test.YtgialedmbmfejaaDrD
import Derived.Test.YtgialedmbmfejaaEnL
import Derived.Test.YtgialedmbmfejaaBEnc
import Derived.Test.YtgialedmbmfejaaBDcs
import Derived.Test.YtgialedmbmfejaaRegion2
namespace Go.Proofs.Ytgialedmbmfejaa
open Go.ChangeShapes Go.WideShapes Go.ChangeAt Go.RowKit
set_option maxRecDepth 100000
set_option linter.unusedVariables false
set_option linter.unusedSimpArgs false
theorem bent_ne {y L : Int} (y0 : 0 ≤ y) (y1 : y < 256) (h : 0 ≤ L) : (y + 1 + L % 255) % 256 ≠ y := by omega
theorem byt_row {w : World} {a : Option Addr} {xs : List Int} (h : BytAt w a xs) : RowAt w a (xs.map (Value.int .u8)) := by
 rcases h with rfl | ⟨b, o, ha, hb, hc⟩
 ·exact .inl rfl
 ·refine .inr ⟨b, o, ha, hb, fun j u hj => ?_⟩
  rw [List.getElem?_map] at hj
  cases hx : xs[j]? with
  | none => rw [hx] at hj; cases hj
  | some x =>
   rw [hx] at hj
   have hl : j < xs.length := (List.getElem?_eq_some_iff.1 hx).1
   have := hc j hl
   rw [List.getD_eq_getElem?_getD, hx] at this
   cases hj; exact this
set_option maxHeartbeats 8000000 in
theorem fnEncodeByte_walk (a0 : Option Addr) (len0 cap0 : Nat) (z0 : List Int) (w : World) (w0 : IsRow .u8 w a0 len0 cap0 z0) :
  Calls Try.prog 7 #[.slice a0 len0 cap0] w fun e w' => e = .returned (.bool true) ∧ Below w.heap.size w w' := by
 obtain ⟨bs, rfl, hB, hlc, hcm⟩ := bytes_of_row w0
 by_cases hl : bs.length ≤ 1048576
 ·go_enter Try.func7, Try.ntmps7
  go_wp2_with fail
  refine (DrawEncodeConfig_c a0 cap0 bs _ hB hl hlc hcm).mono ?_
  rintro e w1 ⟨ta, tc, pa, pc, K, rfl, ⟨hK, _⟩, hcaps, hE⟩
  have bk := Blk.at w1 [.slice ta K.ts.length tc, .slice pa K.ps.length pc] 52 rfl
  have E12 := (Ext.refl w1).alloc (.cells #[.slice ta K.ts.length tc, .slice pa K.ps.length pc] 52)
  have hK2 := hK.ext E12
  go_upto_region 4 with fail
  obtain ⟨w2, hw2⟩ : ∃ x : World, x = w1.alloc (.cells #[.slice ta K.ts.length tc, .slice pa K.ps.length pc] 52) := ⟨_, rfl⟩
  rw [← hw2] at bk E12 hK2
  rw [← hw2]
  clear hw2
  have E2 := hE.trans E12
  have T1 := implEncodeConfig_c K ta pa tc pc w2 hK2
  have T2 := fun W h => specEncodeConfig_c K ta pa tc pc W h
  have T3 := fun W h => specConfigValid_c K ta pa tc pc W h
  obtain ⟨ys, hys⟩ : ∃ ys, ys = encV K := ⟨_, rfl⟩
  rw [← hys] at T1 T2
  have HALL : Hid (AllB ys) := Lib.hid (by rw [hys]; exact encV_all K)
  have HY := Lib.hid hys
  have HT2 := Lib.hid T2
  have HT3 := Lib.hid T3
  have z0 := bk.cell (i := 0) rfl
  have z1 := bk.cell (i := 1) rfl
  have zl := bk.lt
  clear hys T2 T3 hK hE
  go_wp2_with fail
  refine T1.mono ?_
  rintro e w3 ⟨v, rfl, hO, hE3⟩
  obtain ⟨a3, c3, rfl, _, hc31, hc32, _⟩ := ownsRow_row hO
  have hY3 := hO.byt
  have E3 := E2.trans hE3
  have hK3 := hK2.ext hE3
  have b3 := bk.ext hE3
  clear T1 z0 z1 zl hO E2 E12 hK2 bk hE3
  have z0 := b3.cell (i := 0) rfl
  have z1 := b3.cell (i := 1) rfl
  have zl := b3.lt
  have hcv : ∀ wS : World, Ext w3 wS → (convert 22 9 (.slice a3 ys.length c3)).run Try.prog wS = .ok (.string (strOfNums ys)) wS := fun wS hS => conv_byt (c := c3) (hY3.ext hS) rfl
  have hbe : ((strOfNums ys).toList == (strOfNums ys).toList) = true := by simp
  go_wp2_with fail
  (refine wp_regionT ((fun w' => (∀ b o, b < w3.heap.size → w'.cell? ⟨b, o, none⟩ = w3.cell? ⟨b, o, none⟩) ∧ Ext w3 w')) 5 (by kernel_rfl) ?_; have hS0 := held_mk (Ext.drew w3))
  ((refine tkT 0 (v := ?_) rfl (by kernel_rfl) (by kernel_rfl) ?_ (by assumption) ?_; rotate_left; (intro wS hSw; (try dsimp only at hSw); go_simp; (try with_reducible rfl)); (try simp only [Act.put, lA, lB, lC])); (refine tkT 1 (v := ?_) rfl (by kernel_rfl) (by kernel_rfl) ?_ (by assumption) ?_; rotate_left; (intro wS hSw; (try dsimp only at hSw); go_simp; (try with_reducible rfl)); (try simp only [Act.put, lA, lB, lC])); (refine tkT 2 (v := ?_) rfl (by kernel_rfl) (by kernel_rfl) ?_ (by assumption) ?_; rotate_left; (intro wS hSw; (try dsimp only at hSw); go_simp; (try with_reducible rfl)); (try simp only [Act.put, lA, lB, lC])))
  (refine wpAnyT_do 3 (by kernel_rfl) rfl (fun K hK => ?_))
  go_simp
  refine (HT2.out _ (hK3.ext (Ext.drew w3))).mono ?_
  rintro e w4 ⟨v, rfl, hV, hE4⟩
  obtain ⟨va, vc, rfl, hVB⟩ := hV.opened
  have c2 := conv_byt (c := vc) hVB rfl
  have X4 := (Ext.drew w3).trans hE4
  have hS1 := held_mk X4
  clear hV hVB
  (refine hK _ _ hS1 ?_; clear hK K; (try simp only [Act.put, lA, lB, lC]))
  (refine wpAnyT_do 4 (by kernel_rfl) rfl (fun K hK => ?_))
  go_simp
  (refine hK _ _ hS1 ?_; clear hK K; (try simp only [Act.put, lA, lB, lC]))
  (refine wpAnyT_last 5 (by kernel_rfl) rfl (by decide) (by kernel_rfl) (fun K hK => ?_))
  go_simp
  (refine hK _ _ ?_; clear hK K; (try simp only [Act.put, lA, lB, lC]))
  have hY4 := hY3.ext X4
  have hK4 := hK3.ext X4
  have b4 := b3.ext X4
  have E4 := E3.trans X4
  clear hS0 hS1 hcv c2 hE4 X4 hY3 hK3 b3 E3 z0 z1 zl
  have z0 := b4.cell (i := 0) rfl
  have z1 := b4.cell (i := 1) rfl
  have zl := b4.lt
  cases hc : confB K
  ·have hl0 : ys.length = 0 := by rw [HY.out, encV_no hc]; rfl
   have h0b : ((ys.length : Int) == 0) = true := by rw [hl0]; rfl
   have T3 := HT3.out _ hK4
   rw [hc] at T3
   clear hl0 hc
   go_wp2_with fail
   refine T3.mono ?_
   rintro e w5 ⟨rfl, hE5⟩
   go_wp2_with fail
   refine (alive_c _).mono ?_
   rintro e w6 ⟨rfl, hE6⟩
   go_wp2_with fail
   go_ret
   exact ⟨rfl, (E4.trans hE5).trans hE6⟩
  ·have hOK := confB_iff.1 hc
   have hlen : ys.length = 333 := by rw [HY.out]; exact encV_lenOk hOK
   have HOK := Lib.hid hOK
   have HLEN := Lib.hid hlen
   have h0b : ((ys.length : Int) == 0) = false := by rw [hlen]; rfl
   have hlp : 0 < ys.length := by omega
   have hlq : ys.length ≤ 333 := by omega
   obtain ⟨i, hi⟩ : ∃ i : Nat, i = bs.length * 7 % ys.length := ⟨_, rfl⟩
   have hil : i < ys.length := by rw [hi]; exact Nat.mod_lt _ hlp
   have hit : ((bs.length : Int) * 7) % (ys.length : Int) = (i : Int) := by rw [hi]; simp
   have hii : (i : Int) < (ys.length : Int) := by omega
   clear hlen hOK hc hi
   obtain ⟨b, o, rfl, hb, hcl⟩ := hY4.get hlp
   have q := hcl i hil
   obtain ⟨y0, y1⟩ := HALL.out.get i hil
   obtain ⟨y, hy⟩ : ∃ y, y = ys.getD i 0 := ⟨_, rfl⟩
   rw [← hy] at q y0 y1
   have HYY := Lib.hid hy
   clear hcl hy
   have hne0 : ¬ (ys.length : Int) = 0 := by omega
   have htm : ((bs.length : Int) * 7).tmod (ys.length : Int) = (i : Int) := by rw [Int.tmod_eq_emod_of_nonneg (by omega)]; exact hit
   have hY9 : RowAt w4 (some ⟨b, o, none⟩) (ys.map (Value.int .u8)) := byt_row hY4
   have OD := (Blk.at w4 [] 5 rfl).owns (base := w4.heap.size) (size := 1) (n := 0) rfl (Nat.le_refl _) (by decide)
   have hrA := hY9.ext ((Ext.refl w4).alloc (.cells #[] 5))
   go_upto_region 10 with fail
   clear hne0 htm hit z0 z1 zl
   go_upto_region 11 with (at_builtin; refine wpList_app tyByt OD hrA (by simp) (oneCell_byt ys) (by first | omega | (simp; done) | (simp; omega)) (by first | omega | (simp; done) | (simp; omega)) rfl rfl rfl rfl ?_; intro v5 w5 o5 g5 m5; rw [Nat.zero_add, List.nil_append] at o5; have E45 : Ext w4 w5 := ext_grown ((Ext.refl w4).alloc _) g5 (fun q hq => by cases hq; exact Nat.le_refl _); obtain ⟨va5, vc5, rfl, _, hc51, hc52, _⟩ := ownsRow_row o5)
   obtain ⟨g, rfl, hg0, hg1⟩ := ownsRow_block o5 hlp
   have HO5 : Hid (OwnY w5 w4.heap.size (.slice (some ⟨g, 0, none⟩) ys.length vc5) ys) := Lib.hid o5
   have q5 := ((ecell E45).1 b _ hb).trans q
   have r5 := ownsRow_cell o5 (j := i) (u := .int .u8 y) (by rw [List.getElem?_map, List.getElem?_eq_getElem hil, HYY.out, List.getD_eq_getElem?_getD, List.getElem?_eq_getElem hil]; rfl)
   have f5 := ownsRow_frozen o5 i
   have hb5 := Nat.lt_of_lt_of_le hb E45.size
   have E5 := E4.trans E45
   have hwg : w.heap.size ≤ g := by have := E4.size; omega
   have hwy : IntKind.i64.wrap y = y := by rw [IntKind.wrap_i64]; omega
   have hLm : ((bs.length : Int)).tmod 255 = (bs.length : Int) % 255 := Int.tmod_eq_emod_of_nonneg (by omega)
   have hBN := bent_ne y0 y1 (show (0 : Int) ≤ (bs.length : Int) by omega)
   have HBN := Lib.hid hBN
   clear o5 g5 m5 OD hrA q hb hY9 hY4 hK4 b4 E4 hBN E45
   go_upto_region 12 with fail
   obtain ⟨z, hz⟩ : ∃ z, z = (y + 1 + (bs.length : Int) % 255) % 256 := ⟨_, rfl⟩
   have hz0 : 0 ≤ z ∧ z < 256 := by rw [hz]; omega
   have hzne : z ≠ y := by rw [hz]; exact HBN.out
   have HP := HO5.out.put hil z
   obtain ⟨w6, hw6⟩ : ∃ x : World, x = w5.setCell ⟨g, i, none⟩ (.int .u8 z) := ⟨_, rfl⟩
   rw [← hz, ← hw6]
   rw [← hw6] at HP
   have hdec : decB (ys.set i z) = false := by
    rw [HY.out]
    exact dec_bent HOK.out (by have := HLEN.out; omega) hz0.1 hz0.2 (by rw [← HY.out, ← HYY.out]; exact hzne)
   have E6 : Ext w w6 := by rw [hw6]; exact Ext.setNew E5 (p := ⟨g, i, none⟩) hwg _
   have T := implDecodeConfig_c (ys.set i z) (some ⟨g, 0, none⟩) vc5 w6 HP.byt (HALL.out.set i hz0.1 hz0.2) (by rw [List.length_set]; omega) (by rw [List.length_set]; exact hc51) hc52
   rw [hdec, List.length_set] at T
   have HT := Lib.hid T
   clear T hdec HP hw6 hzne hz q5 r5 f5 hb5 hwy hLm HBN HO5 HYY E5 hz0
   go_wp2_with fail
   refine HT.out.mono ?_
   rintro e w7 ⟨tv, pv, us, rfl, hK7, hE7⟩
   obtain ⟨ta7, tc7, pa7, pc7, rfl, rfl⟩ := hK7.sl
   have E7 := E6.trans hE7
   clear hK7
   go_wp2_with fail
   go_ret
   exact ⟨rfl, Ext.trans E7 (by (repeat (first | with_reducible assumption | with_reducible exact Ext.refl _ | with_reducible refine Ext.drew' ?_ | with_reducible refine Ext.drewN' ?_ _ | with_reducible refine Ext.alloc ?_ _ | (with_reducible refine Ext.setNew ?_ (by first | exact Nat.le_refl _ | (simp; done) | (simp; omega) | omega) _))))⟩
 ·go_enter Try.func7, Try.ntmps7
  go_wp2
  go_ret
  exact ⟨rfl, Ext.refl _⟩
theorem fnEncodeByte_lifted (os : Os) (started : os.Started) (H : Type) (enc : TypeId × Value → H) :
  ReturnsInHanded {} Try.checked os 7 .any (Rows.fnEncodeByteSpec.pre6 enc Try.prog Try.f7 Rows.fnEncodeByteRow.domain false) (Rows.fnEncodeByteSpec.post enc Try.prog Try.f7 false true false false) := by
 refine returnsInHanded_of_change (C := Try.checked) own started (by kernel_rfl) Try.func7
  (ChangeSpec.witness6 (enc := enc) (C := Try.checked) false ⟨#[], #[.slice none 0 0], []⟩ 8 (by kernel_rfl) (by kernel_rfl) (by kernel_rfl) (by kernel_rfl)) ?_
 intro W base args ds gs before hval0 hW hcnd _
 have hval : ∀ (j : Nat) t v, Try.f7.params[j]? = some t → args[j]? = some v → Value.okWide Try.prog W .any base t v := hval0
 have hW' := hW
 obtain ⟨p, q, hA0, hV, rfl, hfz, hnd⟩ := hW
 have hA : DataW.TrodAll enc Try.prog W 0 (fun _ => true) true Try.f7.params.toList args.toList ds p := hA0
 rw [Try.params7] at hA hval
 obtain ⟨v0, vs0, d0, ds0, p0, q0, hargs, rfl, rfl, h0, r0⟩ := trodAll_cons hA
 obtain ⟨rfl, rfl, rfl⟩ := trodAll_nil r0
 obtain rfl : args = #[v0] := by cases args; simp_all
 obtain ⟨rfl, rfl⟩ := trodVars_none hV
 obtain ⟨a0, len0, cap0, rfl⟩ := okWide_slice Try.underlying22 (hval 0 22 v0 rfl rfl)
 have k0 := h0
 have lt0 : ∀ x ∈ p0, x.block < W.heap.size := by obtain ⟨m, hm⟩ := k0; exact DataW.trod_lt m _ _ _ hm
 obtain ⟨z0, w0⟩ : ∃ zs, IsRow .u8 W a0 len0 cap0 zs := by
  obtain ⟨fuel, hf⟩ := h0
  rcases open_ints Try.underlying22 Try.underlying5 (by kernel_rfl) hf with ⟨hcs, _⟩ | ⟨x, l, c, zs, hcs, _, hl, hm, hz, _, hcell, hwz⟩
  ·simp [Value.cells] at hcs
   obtain ⟨rfl, rfl, rfl⟩ := hcs
   exact ⟨[], .inl ⟨rfl, rfl, rfl, rfl⟩⟩
  ·simp [Value.cells] at hcs
   obtain ⟨rfl, rfl, rfl⟩ := hcs
   exact ⟨zs, .inr ⟨_, rfl, hl, hm, by simpa using hz, hcell, hwz⟩⟩
 clear hA0 hval0
 refine (fnEncodeByte_walk a0 len0 cap0 z0 W w0).mono fun e W' ⟨he, bel⟩ => ?_
 subst he
 exact ⟨_, rfl, _, _, _, [], _, [], hW', trodAll_mk1 (shut_bool Try.underlying4 _), (trodAll_cons_mk (Below.trod laidOut (by kernel_rfl) (of_decide_eq_true (by kernel_rfl)) k0 bel lt0) trodAll_mk0), rfl, bel.frame _, fun h => by cases h⟩
theorem fnEncodeByte_over : Rows.fnEncodeByteRow.holds Try.pinned (OpenSpec.ofChange Rows.fnEncodeByteSpec) :=
 OpenClaim.holds_of_wide 7 Try.f7 rfl rfl rfl rfl rfl rfl rfl ⟨rfl, rfl, rfl, rfl, rfl⟩ rfl rfl rfl rfl rfl (by kernel_rfl) Try.func7 (by kernel_rfl)
  (of_decide_eq_true (by kernel_rfl)) (by unfold Func.isWrapper; first | (rw [if_pos (by decide +kernel)]; kernel_rfl) | (rw [if_neg (by decide +kernel)]; exact ⟨rfl, rfl⟩))
  (fun os started H enc _ => fnEncodeByte_lifted os started H enc)
theorem fnEncodeByte_holds : Rows.FnEncodeByteSaid := fnEncodeByte_over
end Go.Proofs.Ytgialedmbmfejaa
