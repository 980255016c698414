/- The law FnConfigValid: both libraries agree; the empty configuration is valid; one with a tile less, or driven from above in the first row, is not. No condition. -/
import Derived.Test.YtgialedmbmfejaaBytes
import Derived.Test.YtgialedmbmfejaaBDk
import Derived.Test.YtgialedmbmfejaaSameK
import Derived.Test.YtgialedmbmfejaaKRow
import Derived.Test.YtgialedmbmfejaaBKf
import Derived.Test.YtgialedmbmfejaaRegion2
namespace Go.Proofs.Ytgialedmbmfejaa
open Go.ChangeShapes Go.WideShapes Go.ChangeAt Go.RowKit
set_option maxRecDepth 100000
set_option linter.unusedVariables false
set_option linter.unusedSimpArgs false
theorem conf_less {K : Conf} (h : K.Ok) : confB { K with ts := K.ts.drop 1 } = false := confB_false (fun h2 => by
 have := h2.lt
 have e : (K.ts.drop 1).length = 25 := this
 rw [List.length_drop, h.lt] at e
 omega)
def badT (x : Tile) : Tile := { x with dr := 2 :: x.dr.drop 1 }
theorem conf_bad {K : Conf} (h : K.Ok) : confB { K with ts := K.ts.set 0 (badT (K.ts.getD 0 tile0)) } = false := confB_false (fun h2 => by
 have h3 := h2.tile (j := 0) (by omega)
 have e : (K.ts.set 0 (badT (K.ts.getD 0 tile0))).getD 0 tile0 = badT (K.ts.getD 0 tile0) := tile_set (by rw [h.lt]; omega) _
 have h4 : Tile.Ok (badT (K.ts.getD 0 tile0)) 0 := by rw [← e]; exact h3
 have h5 := h4.ds 0 (by omega)
 have h6 : drvB 0 2 = true := h5
 rw [drvB_near (by omega) (by omega)] at h6
 simp [nbV] at h6)
theorem econf_shape : econf.ts.length = 25 ∧ econf.ps.length = 3 := ⟨by simp [econf], by simp [econf]⟩
theorem intSizeK : (Try.prog.info? 3).map (·.size) = some 1 := by kernel_rfl
theorem cellsT_dr : ∀ (ts : List Tile) (us : List Value), us.length = 2 * ts.length → 0 < ts.length → ∀ (b : Value) (d : List Int), (cellsT ts us).set 3 b = cellsT (ts.set 0 { ts.getD 0 tile0 with dr := d }) (us.set 1 b)
 | [], _, _, h, _, _ => by simp at h
 | x :: xs, [], h, _, _, _ => by simp at h
 | x :: xs, [_], h, _, _, _ => by simp at h; omega
 | x :: xs, a :: c :: us, h, _, b, d => by simp [cellsT]
theorem tiles_drop {w : World} {b o o1 : Nat} {ts : List Tile} (h : TilesAt w (some ⟨b, o, none⟩) ts) (hn : 0 < ts.length) (ho : o1 = o + 4) : TilesAt w (some ⟨b, o1, none⟩) (ts.drop 1) := by
 obtain ⟨b', o', e, hb, hc⟩ := h.get hn
 cases e
 refine .inr ⟨b, o1, rfl, hb, fun j hj => ?_⟩
 rw [List.length_drop] at hj
 have := hc (1 + j) (by omega)
 have e1 : (ts.drop 1).getD j tile0 = ts.getD (1 + j) tile0 := by rw [List.getD_eq_getElem?_getD, List.getD_eq_getElem?_getD, List.getElem?_drop]
 have e2 : o1 + j * 4 = o + (1 + j) * 4 := by omega
 rw [e1, e2]; exact this
theorem less_at {w : World} {b o o1 : Nat} {pa : Option Addr} {K : Conf} (h : ConfAt w K (some ⟨b, o, none⟩) pa) (hn : 0 < K.ts.length) (ho : o1 = o + 4) : ConfAt w { K with ts := K.ts.drop 1 } (some ⟨b, o1, none⟩) pa := by
 refine ⟨tiles_drop h.ts hn ho, h.ps, ?_, h.lp, fun j hj => ?_⟩
 ·show (K.ts.drop 1).length ≤ _
  rw [List.length_drop]; have := h.lt; omega
 ·have hj2 : j < (K.ts.drop 1).length := hj
  rw [List.length_drop] at hj2
  have e1 : (K.ts.drop 1).getD j tile0 = K.ts.getD (1 + j) tile0 := by rw [List.getD_eq_getElem?_getD, List.getD_eq_getElem?_getD, List.getElem?_drop]
  show ((K.ts.drop 1).getD j tile0).sl.length ≤ _ ∧ ((K.ts.drop 1).getD j tile0).dr.length ≤ _
  rw [e1]; exact h.ls (1 + j) (by omega)
theorem bad_at {w w9 : World} {g base n c : Nat} {ta pa va : Option Addr} {vn vc : Nat} {K : Conf} {us : List Value} (h9 : ConfAt w9 K ta pa) (e : Ext w9 w) (hus : us.length = 2 * K.ts.length) (hts : ∀ j, j < K.ts.length → TileS w9 (K.ts.getD j tile0) (us.getD (2 * j) vnil) (us.getD (2 * j + 1) vnil)) (h0 : 0 < K.ts.length)
  (hd : (K.ts.getD 0 tile0).dr.length = 8) (hn : n = K.ts.length) (hv : vn = 8) (hr : w.ownsRow base 61 4 (.slice (some ⟨g, 0, none⟩) n c) n (cellsT (K.ts.set 0 (badT (K.ts.getD 0 tile0))) (us.set 1 (.slice va vn vc)))) (hi : IntsAt w va (2 :: (K.ts.getD 0 tile0).dr.drop 1)) :
  ConfAt w { K with ts := K.ts.set 0 (badT (K.ts.getD 0 tile0)) } (some ⟨g, 0, none⟩) pa := by
 subst hn hv
 have hbl : (badT (K.ts.getD 0 tile0)).dr.length = 8 := by
  show (2 :: (K.ts.getD 0 tile0).dr.drop 1).length = 8
  rw [List.length_cons, List.length_drop, hd]
 refine ⟨?_, h9.ps.ext e, ?_, h9.lp, fun j hj => ?_⟩
 ·refine tiles_of_row hr (by rw [List.length_set, List.length_set]; exact hus) (fun j hj => ?_)
  rw [List.length_set] at hj
  by_cases hj0 : j = 0
  ·subst hj0
   rw [tile_set h0, getD_set _ _ _ _ _ (by omega), if_neg (by omega), getD_set _ _ _ _ _ (by omega), if_pos (by omega)]
   obtain ⟨sa, sc, da, dc, e1, e2, i1, i2⟩ := (hts 0 h0).ext e
   exact ⟨sa, sc, va, vc, e1, by rw [hbl], i1, hi⟩
  ·rw [getD_set _ _ _ _ _ h0, if_neg (by omega), getD_set _ _ _ _ _ (by omega), if_neg (by omega), getD_set _ _ _ _ _ (by omega), if_neg (by omega)]
   exact (hts j hj).ext e
 ·show (K.ts.set 0 _).length ≤ _
  rw [List.length_set]; exact h9.lt
 ·have hj2 : j < (K.ts.set 0 (badT (K.ts.getD 0 tile0))).length := hj
  rw [List.length_set] at hj2
  show ((K.ts.set 0 (badT (K.ts.getD 0 tile0))).getD j tile0).sl.length ≤ _ ∧ ((K.ts.set 0 (badT (K.ts.getD 0 tile0))).getD j tile0).dr.length ≤ _
  by_cases hj0 : j = 0
  ·subst hj0
   rw [tile_set h0]
   exact ⟨(h9.ls 0 h0).1, by rw [hbl]; omega⟩
  ·rw [getD_set _ _ _ _ _ h0, if_neg (by omega)]
   exact h9.ls j hj2
set_option maxHeartbeats 8000000 in
theorem fnConfigValid_walk (a0 : Option Addr) (len0 cap0 : Nat) (z0 : List Int) (w : World) (w0 : IsRow .u8 w a0 len0 cap0 z0) :
  Calls Try.prog 6 #[.slice a0 len0 cap0] w fun e w' => e = .returned (.bool true) ∧ Below w.heap.size w w' := by
 obtain ⟨bs, rfl, hB, hlc, hcm⟩ := bytes_of_row w0
 by_cases hl : bs.length ≤ 1048576
 ·go_enter Try.func6, Try.ntmps6
  go_wp2_with fail
  refine (DrawConfigValid_c a0 cap0 bs _ hB hl hlc hcm).mono ?_
  rintro e w1 ⟨ta, tc, pa, pc, K, rfl, ⟨hK, hDC⟩, hcaps, hE⟩
  have HDC := Lib.hid hDC
  clear hDC
  have bk := Blk.at w1 [.slice ta K.ts.length tc, .slice pa K.ps.length pc] 52 rfl
  have E12 := (Ext.refl w1).alloc (.cells #[.slice ta K.ts.length tc, .slice pa K.ps.length pc] 52)
  have hK2 := hK.ext E12
  go_upto_region 4 with fail
  obtain ⟨w2, hw2⟩ : ∃ x : World, x = w1.alloc (.cells #[.slice ta K.ts.length tc, .slice pa K.ps.length pc] 52) := ⟨_, rfl⟩
  rw [← hw2] at bk E12 hK2
  rw [← hw2]
  clear hw2
  have E2 := hE.trans E12
  obtain ⟨B, hBB⟩ : ∃ B, B = confB K := ⟨_, rfl⟩
  have T1 := implConfigValid_c K ta pa tc pc w2 hK2
  have T2 := fun W h => specConfigValid_c K ta pa tc pc W h
  rw [← hBB] at T1 T2
  have HT2 := Lib.hid T2
  have z0 := bk.cell (i := 0) rfl
  have z1 := bk.cell (i := 1) rfl
  have zl := bk.lt
  have HB := Lib.hid hBB
  clear hBB T2 hK hE
  go_wp2_with fail
  refine T1.mono ?_
  rintro e w3 ⟨rfl, hE3⟩
  clear T1 z0 z1 zl
  go_wp2_with fail
  have hEm := implEmptyConfig_c w3
  have hEs := fun W => specEmptyConfig_c W
  obtain ⟨KE, hKE⟩ : ∃ k, k = econf := ⟨_, rfl⟩
  have hok : KE.Ok := by rw [hKE]; exact econf_ok
  rw [← hKE] at hEm hEs
  clear hKE
  have HES := Lib.hid hEs
  refine hEm.mono ?_
  rintro e w4 ⟨tv, pv, us, rfl, hEK, hE4⟩
  obtain ⟨te, tec, pe, pec, rfl, rfl⟩ := hEK.sl
  have HBG := Lib.hid hok.shp.big
  have hCE := hEK.at_ HBG.out.1 HBG.out.2.1 HBG.out.2.2
  have TE := fun W (h : ConfAt W KE te pe) => implConfigValid_c KE te pe tec pec W h
  have hce : confB KE = true := confB_true hok
  rw [hce] at TE
  have HTE := Lib.hid TE
  have HSK := Lib.hid (fun ta2 pa2 tc2 pc2 W (h1 : ConfAt W KE te pe) (h2 : ConfAt W KE ta2 pa2) => sameConfig_c KE te pe ta2 pa2 tec pec tc2 pc2 W h1 h2)
  have be := Blk.at w4 [.slice te KE.ts.length tec, .slice pe KE.ps.length pec] 52 rfl
  have E45 := (Ext.refl w4).alloc (.cells #[.slice te KE.ts.length tec, .slice pe KE.ps.length pec] 52)
  have E24 := hE3.trans hE4
  have hCE5 := hCE.ext E45
  have hne : (B != B) = false := by cases B <;> rfl
  clear hCE TE hce hEK hok hEm hEs
  go_upto_region 6 with fail
  obtain ⟨w5, hw5⟩ : ∃ x : World, x = w4.alloc (.cells #[.slice te KE.ts.length tec, .slice pe KE.ps.length pec] 52) := ⟨_, rfl⟩
  rw [← hw5] at be E45 hCE5
  rw [← hw5]
  clear hw5
  have E25 := E24.trans E45
  have hK5 := hK2.ext E25
  have b5 := bk.ext E25
  have z0 := b5.cell (i := 0) rfl
  have z1 := b5.cell (i := 1) rfl
  have zl := b5.lt
  have y0 := be.cell (i := 0) rfl
  have y1 := be.cell (i := 1) rfl
  have yl := be.lt
  (refine wp_regionT ((fun w' => (∀ b o, b < w5.heap.size → w'.cell? ⟨b, o, none⟩ = w5.cell? ⟨b, o, none⟩) ∧ Ext w5 w')) 14 (by kernel_rfl) ?_; have hS0 := held_mk (Ext.drew w5))
  ((refine tkT 0 (v := ?_) rfl (by kernel_rfl) (by kernel_rfl) ?_ (by assumption) ?_; rotate_left; (intro wS hSw; (try dsimp only at hSw); go_simp; (try with_reducible rfl)); (try simp only [Act.put, lA, lB, lC])); (refine tkT 1 (v := ?_) rfl (by kernel_rfl) (by kernel_rfl) ?_ (by assumption) ?_; rotate_left; (intro wS hSw; (try dsimp only at hSw); go_simp; (try with_reducible rfl)); (try simp only [Act.put, lA, lB, lC])))
  (refine wpAnyT_do 2 (by kernel_rfl) rfl (fun K hK => ?_))
  go_simp
  refine (HT2.out _ (hK5.ext (Ext.drew w5))).mono ?_
  rintro e w6 ⟨rfl, hE6⟩
  have X6 : Ext w5 w6 := (Ext.drew w5).trans hE6
  have hS1 := held_mk X6
  (refine hK _ _ hS1 ?_; clear hK K; (try simp only [Act.put, lA, lB, lC]))
  ((refine tkT 3 (v := ?_) rfl (by kernel_rfl) (by kernel_rfl) ?_ (by assumption) ?_; rotate_left; (intro wS hSw; (try dsimp only at hSw); go_simp; (try with_reducible rfl)); (try simp only [Act.put, lA, lB, lC])); (refine tkT 4 (v := ?_) rfl (by kernel_rfl) (by kernel_rfl) ?_ (by assumption) ?_; rotate_left; (intro wS hSw; (try dsimp only at hSw); go_simp; (try with_reducible rfl)); (try simp only [Act.put, lA, lB, lC])); (refine tkT 5 (v := ?_) rfl (by kernel_rfl) (by kernel_rfl) ?_ (by assumption) ?_; rotate_left; (intro wS hSw; (try dsimp only at hSw); go_simp; (try with_reducible rfl)); (try simp only [Act.put, lA, lB, lC])))
  (refine wpAnyT_do 6 (by kernel_rfl) rfl (fun K hK => ?_))
  go_simp
  refine (HTE.out _ (hCE5.ext X6)).mono ?_
  rintro e w7 ⟨rfl, hE7⟩
  have X7 := X6.trans hE7
  have hS2 := held_mk X7
  (refine hK _ _ hS2 ?_; clear hK K; (try simp only [Act.put, lA, lB, lC]))
  ((refine tkT 7 (v := ?_) rfl (by kernel_rfl) (by kernel_rfl) ?_ (by assumption) ?_; rotate_left; (intro wS hSw; (try dsimp only at hSw); go_simp; (try with_reducible rfl)); (try simp only [Act.put, lA, lB, lC])); (refine tkT 8 (v := ?_) rfl (by kernel_rfl) (by kernel_rfl) ?_ (by assumption) ?_; rotate_left; (intro wS hSw; (try dsimp only at hSw); go_simp; (try with_reducible rfl)); (try simp only [Act.put, lA, lB, lC])); (refine tkT 9 (v := ?_) rfl (by kernel_rfl) (by kernel_rfl) ?_ (by assumption) ?_; rotate_left; (intro wS hSw; (try dsimp only at hSw); go_simp; (try with_reducible rfl)); (try simp only [Act.put, lA, lB, lC])); (refine tkT 10 (v := ?_) rfl (by kernel_rfl) (by kernel_rfl) ?_ (by assumption) ?_; rotate_left; (intro wS hSw; (try dsimp only at hSw); go_simp; (try with_reducible rfl)); (try simp only [Act.put, lA, lB, lC])))
  (refine wpAnyT_do 11 (by kernel_rfl) rfl (fun K hK => ?_))
  go_simp
  refine (HES.out w7).mono ?_
  rintro e w8 ⟨tv2, pv2, us2, rfl, hEK2, hE8⟩
  obtain ⟨te2, tec2, pe2, pec2, rfl, rfl⟩ := hEK2.sl
  have hCE2 := hEK2.at_ HBG.out.1 HBG.out.2.1 HBG.out.2.2
  have X8 := X7.trans hE8
  have hS3 := held_mk X8
  (refine hK _ _ hS3 ?_; clear hK K; (try simp only [Act.put, lA, lB, lC]))
  (refine wpAnyT_do 12 (by kernel_rfl) rfl (fun K hK => ?_))
  go_simp
  refine (HSK.out te2 pe2 tec2 pec2 _ (hCE5.ext X8) hCE2).mono ?_
  rintro e w9 ⟨rfl, hE9⟩
  have X9 := X8.trans hE9
  have hS4 := held_mk X9
  (refine hK _ _ hS4 ?_; clear hK K; (try simp only [Act.put, lA, lB, lC]))
  ((refine tkT 13 (v := ?_) rfl (by kernel_rfl) (by kernel_rfl) ?_ (by assumption) ?_; rotate_left; (intro wS hSw; (try dsimp only at hSw); go_simp; (try with_reducible rfl)); (try simp only [Act.put, lA, lB, lC])))
  (refine wpAnyT_last 14 (by kernel_rfl) rfl (by decide) (by kernel_rfl) (fun K hK => ?_))
  go_simp
  (refine hK _ _ ?_; clear hK K; (try simp only [Act.put, lA, lB, lC]))
  have hK9 := hK5.ext X9
  have b9 := b5.ext X9
  have E9 := (E2.trans E25).trans X9
  have E19 := (E12.trans E25).trans X9
  clear hS0 hS1 hS2 hS3 hS4 z0 z1 zl y0 y1 yl hEK2 hCE2 hE6 hE7 hE8 hE9 hCE5 be hK5 b5 X6 X7 X8 X9
  cases B
  ·go_wp2_with fail
   go_ret
   exact ⟨rfl, E9⟩
  ·have hOK := confB_iff.1 HB.out.symm
   have HOK := Lib.hid hOK
   have h25b : ((K.ts.length : Int) == 25) = true := by rw [hOK.lt]; rfl
   have h3b : ((K.ps.length : Int) == 3) = true := by rw [hOK.lp]; rfl
   have h25 : 1 < K.ts.length := by rw [hOK.lt]; omega
   have h25l : K.ts.length ≤ 100 := by rw [hOK.lt]; omega
   have htl0 := (hOK.tile (j := 0) (by omega)).ld
   have HD8 := Lib.hid htl0
   have hK9' := hK9
   obtain ⟨b, o, rfl, hb, hcc⟩ := hK9.ts.get (by omega)
   obtain ⟨us, hus, hrow, hts⟩ := hK9'.ts.rowUs (by omega)
   obtain ⟨o1, ho1, hsl⟩ := run_fromO (P := Try.prog) (t := 49) (e := 61) (sz := 4) Try.underlying49 tileSize b o K.ts.length tc 1 (by omega) (by omega)
   have HO1 : Hid (o1 = o + 4) := Lib.hid (ho1 (by omega))
   have HUS := Lib.hid hus
   have HTS := Lib.hid hts
   have HROW := Lib.hid hrow
   have z0 := b9.cell (i := 0) rfl
   have z1 := b9.cell (i := 1) rfl
   have zl := b9.lt
   clear hOK htl0 hcc ho1 hus hts hrow hK9'
   go_upto_region 13 with fail
   obtain ⟨w10, hw10⟩ : ∃ x : World, x = (w9.alloc (.cells #[.slice (some ⟨b, o1, none⟩) (K.ts.length - 1) (tc - 1), .slice pa K.ps.length pc] 52)).alloc (.cells #[.slice (some ⟨b, o, none⟩) K.ts.length tc, .slice pa K.ps.length pc] 52) := ⟨_, rfl⟩
   have BL := (Blk.at w9 [.slice (some ⟨b, o1, none⟩) (K.ts.length - 1) (tc - 1), .slice pa K.ps.length pc] 52 rfl).alloc (.cells #[.slice (some ⟨b, o, none⟩) K.ts.length tc, .slice pa K.ps.length pc] 52)
   have BD := Blk.at (w9.alloc (.cells #[.slice (some ⟨b, o1, none⟩) (K.ts.length - 1) (tc - 1), .slice pa K.ps.length pc] 52)) [.slice (some ⟨b, o, none⟩) K.ts.length tc, .slice pa K.ps.length pc] 52 (B := w9.heap.size + 1) (by simp)
   have E910 : Ext w9 w10 := by rw [hw10]; exact ((Ext.refl w9).alloc _).alloc _
   rw [← hw10] at BL BD
   rw [← hw10]
   have s910 : w9.heap.size + 2 ≤ w10.heap.size := by rw [hw10]; simp
   clear hw10 z0 z1 zl
   have b10 := b9.ext E910
   have z0 := b10.cell (i := 0) rfl
   have z1 := b10.cell (i := 1) rfl
   have zl := b10.lt
   have d0 := BD.cell (i := 0) rfl
   have dl := BD.lt
   have OD := (Blk.at w10 [] 61 rfl).owns (base := w10.heap.size) (size := 4) (n := 0) rfl (Nat.le_refl _) (by decide)
   have hrA := (HROW.out.ext E910).ext ((Ext.refl w10).alloc (.cells #[] 61))
   go_upto_region 14 with (at_builtin; refine wpList_app tyTiles OD hrA (cellsT_length _ _ HUS.out) (oneCell_tiles _ _ HUS.out HTS.out) (by first | omega | (simp; done) | (simp; omega)) (by first | omega | (simp; done) | (simp; omega)) rfl rfl rfl rfl ?_; intro v11 w11 o11 g11 m11; rw [Nat.zero_add, List.nil_append] at o11; have E1011 : Ext w10 w11 := ext_grown ((Ext.refl w10).alloc _) g11 (fun q hq => by cases hq; exact Nat.le_refl _); obtain ⟨va, vc, rfl, _⟩ := ownsRow_row o11; have BD11 := BD.ext E1011; have d1 := BD11.cell (i := 0) rfl; have df := (fun i => BD11.frozen i); have dl1 := BD11.lt)
   obtain ⟨g, rfl, hg0, hg1⟩ := ownsRow_block o11 (by omega)
   have hlt0 : 0 < K.ts.length := by omega
   obtain ⟨w12, hw12⟩ : ∃ x : World, x = w11.setCell ⟨w9.heap.size + 1, 0, none⟩ (.slice (some ⟨g, 0, none⟩) K.ts.length vc) := ⟨_, rfl⟩
   have E912 : Ext w9 w12 := by rw [hw12]; exact Ext.setNew (E910.trans E1011) (by simp) _
   have BD12 := BD11.set 0 (.slice (some ⟨g, 0, none⟩) K.ts.length vc)
   have BL12 := (BL.ext E1011).setOther (p := ⟨w9.heap.size + 1, 0, none⟩) (by simp) (.slice (some ⟨g, 0, none⟩) K.ts.length vc)
   have o12 := ownsRow_set o11 (p := ⟨w9.heap.size + 1, 0, none⟩) (fun e => by have h9 : g = w9.heap.size + 1 := Option.some.inj e; omega) (.slice (some ⟨g, 0, none⟩) K.ts.length vc)
   rw [← hw12] at BD12 BL12 o12
   rw [← hw12]
   clear hw12 o11 g11 m11 E1011 BD11 d1 df dl1 BL BD d0 dl OD hrA z0 z1 zl b10 E910
   have b12 := b9.ext E912
   have hK12 := hK9.ext E912
   have HDC9 := Lib.hid HDC.out
   obtain ⟨bq, oq, da, dc, eq, q3, hDA, hdc0, hdc1⟩ := HDC.out 0 hlt0
   obtain ⟨rfl, rfl⟩ : b = bq ∧ o = oq := by cases eq; exact ⟨rfl, rfl⟩
   have E112 := E19.trans E912
   have q3' := ((ecell E112).1 b _ (cell_lt q3)).trans q3
   have hb1 := Nat.lt_of_lt_of_le (cell_lt q3) E112.size
   have hDA12 := hDA.ext E112
   have h8 := HD8.out
   rw [Nat.zero_mul, Nat.add_zero] at q3'
   obtain ⟨X0, hX0⟩ : ∃ x, x = K.ts.getD 0 tile0 := ⟨_, rfl⟩
   rw [← hX0] at q3' hDA12 hdc0 h8
   have HX0 := Lib.hid hX0
   obtain ⟨db, d0, rfl, hdb, hdcs⟩ := hDA12.get (by omega)
   obtain ⟨o2, ho2, hsl2⟩ := run_fromO (P := Try.prog) (t := 23) (e := 3) (sz := 1) Try.underlying23 intSizeK db d0 X0.dr.length dc 1 (by omega) (by omega)
   have ho2' : o2 = d0 + 1 := ho2 (by omega)
   have HO2 := Lib.hid ho2'
   clear hX0 eq q3 hDA ho2 ho2'
   have hrest : IntsAt w12 (some ⟨db, o2, none⟩) (X0.dr.drop 1) := .inr ⟨db, o2, rfl, hdb, fun j hj => by
    rw [List.length_drop] at hj
    have h := hdcs (1 + j) (by omega)
    rw [HO2.out, Nat.add_assoc, h, List.getD_eq_getElem?_getD, List.getD_eq_getElem?_getD, List.getElem?_drop]⟩
   have hdl : (X0.dr.drop 1).length = X0.dr.length - 1 := List.length_drop
   have OA := (Blk.at (World.drew w12) [.int .i64 2] 3 (B := w12.heap.size) rfl).owns (base := w12.heap.size) (size := 1) (n := 1) rfl (Nat.le_refl _) (by decide)
   have eA : Ext w12 ((World.drew w12).alloc (.cells #[.int .i64 2] 3)) := (Ext.drew w12).alloc _
   have hrA2 := hrest.row.ext eA
   have HDL := Lib.hid hdl
   have z0 := b12.cell (i := 0) rfl
   have zl := b12.lt
   have d0' := BD12.cell (i := 0) rfl
   have dl' := BD12.lt
   have h0i : (0 : Int) < (K.ts.length : Int) := by omega
   have h8l : X0.dr.length ≤ 100 := by omega
   clear hrest hdcs hdl h8
   go_upto_region 14 with fail
   (refine wp_regionT ((fun w' => (∀ b o, b < w12.heap.size → w'.cell? ⟨b, o, none⟩ = w12.cell? ⟨b, o, none⟩) ∧ Ext w12 w')) 12 (by kernel_rfl) ?_; have hS0 := held_mk (Ext.drew w12))
   ((refine tkT 0 (v := ?_) rfl (by kernel_rfl) (by kernel_rfl) ?_ (by assumption) ?_; rotate_left; (intro wS hSw; (try dsimp only at hSw); go_simp; (try with_reducible rfl)); (try simp only [Act.put, lA, lB, lC])); (refine tkT 1 (v := ?_) rfl (by kernel_rfl) (by kernel_rfl) ?_ (by assumption) ?_; rotate_left; (intro wS hSw; (try dsimp only at hSw); go_simp; (try with_reducible rfl)); (try simp only [Act.put, lA, lB, lC])); (refine tkT 3 (v := ?_) rfl (by kernel_rfl) (by kernel_rfl) ?_ (by assumption) ?_; rotate_left; (intro wS hSw; (try dsimp only at hSw); go_simp; (try with_reducible rfl)); (try simp only [Act.put, lA, lB, lC])); (refine tkT 4 (v := ?_) rfl (by kernel_rfl) (by kernel_rfl) ?_ (by assumption) ?_; rotate_left; (intro wS hSw; (try dsimp only at hSw); go_simp; (try with_reducible rfl)); (try simp only [Act.put, lA, lB, lC])); (refine tkT 5 (v := ?_) rfl (by kernel_rfl) (by kernel_rfl) ?_ (by assumption) ?_; rotate_left; (intro wS hSw; (try dsimp only at hSw); go_simp; (try with_reducible rfl)); (try simp only [Act.put, lA, lB, lC])); (refine tkT 6 (v := ?_) rfl (by kernel_rfl) (by kernel_rfl) ?_ (by assumption) ?_; rotate_left; (intro wS hSw; (try dsimp only at hSw); go_simp; (try with_reducible rfl)); (try simp only [Act.put, lA, lB, lC])); (refine tkT 7 (v := ?_) rfl (by kernel_rfl) (by kernel_rfl) ?_ (by assumption) ?_; rotate_left; (intro wS hSw; (try dsimp only at hSw); go_simp; (try with_reducible rfl)); (try simp only [Act.put, lA, lB, lC])); (refine tkT 8 (v := ?_) rfl (by kernel_rfl) (by kernel_rfl) ?_ (by assumption) ?_; rotate_left; (intro wS hSw; (try dsimp only at hSw); go_simp; (try with_reducible rfl)); (try simp only [Act.put, lA, lB, lC])))
   (refine wpAnyT_do 2 (by kernel_rfl) rfl (fun K hK => ?_))
   go_simp
   have hS1 := held_mk eA
   (refine hK _ _ hS1 ?_; clear hK K; (try simp only [Act.put, lA, lB, lC]))
   (refine wpAnyT_do 9 (by kernel_rfl) rfl (fun K hK => ?_))
   refine step_app tyInts OA hrA2 (by rw [List.length_map, HDL.out, Nat.mul_one]) (oneCell_ints _) (by first | omega | (simp; done) | (simp; omega)) (by first | omega | (simp; done) | (simp; omega)) rfl rfl rfl rfl ?_
   intro v13 w13 o13 g13 m13
   have E1213 : Ext w12 w13 := ext_grown eA g13 (fun q hq => by cases hq; exact Nat.le_refl _)
   obtain ⟨va, vc2, rfl, _⟩ := ownsRow_row o13
   have hS2 := held_mk E1213
   (refine hK _ _ hS2 ?_; clear hK K; (try simp only [Act.put, lA, lB, lC]))
   ((refine tkT 10 (v := ?_) rfl (by kernel_rfl) (by kernel_rfl) ?_ (by assumption) ?_; rotate_left; (intro wS hSw; (try dsimp only at hSw); go_simp; (try with_reducible rfl)); (try simp only [Act.put, lA, lB, lC])); (refine tkT 11 (v := ?_) rfl (by kernel_rfl) (by kernel_rfl) ?_ (by assumption) ?_; rotate_left; (intro wS hSw; (try dsimp only at hSw); go_simp; (try with_reducible rfl)); (try simp only [Act.put, lA, lB, lC])))
   have o14 := ownsRow_ext o12 E1213
   obtain ⟨c0, c1, c2, c3⟩ := cellsT_get K.ts us HUS.out 0 hlt0
   have e3 := ownsRow_cell o14 c3
   have ef := fun i => ownsRow_frozen o14 i
   obtain ⟨uo, huo⟩ : ∃ u, u = us.getD (2 * 0 + 1) vnil := ⟨_, rfl⟩
   rw [← huo] at e3
   clear c0 c1 c2 c3 huo
   (refine wpAnyT_last 12 (by kernel_rfl) rfl (by decide) (by kernel_rfl) (fun K hK => ?_))
   go_simp
   (refine hK _ _ ?_; clear hK K; (try simp only [Act.put, lA, lB, lC]))
   obtain ⟨w14, hw14⟩ : ∃ x : World, x = w13.setCell ⟨g, 3, none⟩ (.slice va (1 + (X0.dr.length - 1)) vc2) := ⟨_, rfl⟩
   rw [← hw14]
   have hg12 : g < w12.heap.size := (World.ownsRow.lt o12 g rfl).2
   have hgg : w9.heap.size + 2 ≤ g := by omega
   have E914 : Ext w9 w14 := by rw [hw14]; exact Ext.setNew (E912.trans E1213) (p := ⟨g, 3, none⟩) (by show w9.heap.size ≤ g; omega) _
   have BL14 : Blk w14 w9.heap.size 52 [.slice (some ⟨b, o1, none⟩) (K.ts.length - 1) (tc - 1), .slice pa K.ps.length pc] := by rw [hw14]; exact (BL12.ext E1213).setOther (p := ⟨g, 3, none⟩) (by show w9.heap.size ≠ g; omega) _
   have BD14 : Blk w14 (w9.heap.size + 1) 52 [.slice (some ⟨g, 0, none⟩) K.ts.length vc, .slice pa K.ps.length pc] := by rw [hw14]; exact (BD12.ext E1213).setOther (p := ⟨g, 3, none⟩) (by show w9.heap.size + 1 ≠ g; omega) _
   have b14 := b9.ext E914
   have hvl := World.ownsRow.lt o13
   have o15 := ownsRow_set o13 (p := ⟨g, 3, none⟩) (fun e => by have h9 := hvl g e; omega) (.slice va (1 + (X0.dr.length - 1)) vc2)
   have o16 := ownsRow_setAt o14 3 (by rw [cellsT_length _ _ HUS.out]; omega) (.slice va (1 + (X0.dr.length - 1)) vc2)
   rw [← hw14] at o15 o16
   obtain ⟨_, _, e15, hr15, _⟩ := ownsRow_row o15
   cases e15
   have hI14 : IntsAt w14 va (2 :: X0.dr.drop 1) := intsAt_of_row (xs := 2 :: X0.dr.drop 1) hr15
   have hd8 : X0.dr.length = 8 := by rw [HX0.out]; exact HD8.out
   rw [cellsT_dr K.ts us HUS.out hlt0 _ (2 :: (K.ts.getD 0 tile0).dr.drop 1)] at o16
   rw [HX0.out] at hI14
   have hBad := bad_at hK9 E914 HUS.out HTS.out hlt0 HD8.out rfl (by omega) o16 hI14
   have hLess := less_at (hK9.ext E914) hlt0 HO1.out
   have HOKv := HOK.out
   have TL := fun W (e : Ext w14 W) => implConfigValid_c { K with ts := K.ts.drop 1 } (some ⟨b, o1, none⟩) pa (tc - 1) pc W (hLess.ext e)
   have TB := fun W (e : Ext w14 W) => implConfigValid_c { K with ts := K.ts.set 0 (badT (K.ts.getD 0 tile0)) } (some ⟨g, 0, none⟩) pa vc pc W (hBad.ext e)
   rw [conf_less HOKv] at TL
   rw [conf_bad HOKv] at TB
   simp only [List.length_drop, List.length_set] at TL TB
   have HTL := Lib.hid TL
   have HTB := Lib.hid TB
   have EF := E9.trans E914
   have HEF := Lib.hid EF
   have z0 := BL14.cell (i := 0) rfl
   have z1 := BL14.cell (i := 1) rfl
   have zl := BL14.lt
   clear TL TB hBad hLess HOKv o15 o16 hr15 hI14 hd8 hvl e3 ef o14 o13 g13 m13 hw14 hS0 hS1 hS2 E1213 E912 E112 BL12 BD12 b12 hK12 EF HX0 hDA12 q3' o12 HROW HUS HTS HDL eA OA hrA2
   go_wp2_with fail
   refine (HTL.out _ (by (repeat (first | with_reducible assumption | with_reducible exact Ext.refl _ | with_reducible refine Ext.drew' ?_ | with_reducible refine Ext.drewN' ?_ _ | with_reducible refine Ext.alloc ?_ _ | (with_reducible refine Ext.setNew ?_ (by first | exact Nat.le_refl _ | (simp; done) | (simp; omega) | omega) _))))).mono ?_
   rintro e w15 ⟨rfl, hE15⟩
   have X15 : Ext w14 w15 := Ext.trans (by (repeat (first | with_reducible assumption | with_reducible exact Ext.refl _ | with_reducible refine Ext.drew' ?_ | with_reducible refine Ext.drewN' ?_ _ | with_reducible refine Ext.alloc ?_ _ | (with_reducible refine Ext.setNew ?_ (by first | exact Nat.le_refl _ | (simp; done) | (simp; omega) | omega) _)))) hE15
   have BD15 := BD14.ext X15
   have y0 := BD15.cell (i := 0) rfl
   have y1 := BD15.cell (i := 1) rfl
   have yl := BD15.lt
   clear z0 z1 zl BL14
   go_wp2_with fail
   refine (HTB.out _ (Ext.trans X15 (by (repeat (first | with_reducible assumption | with_reducible exact Ext.refl _ | with_reducible refine Ext.drew' ?_ | with_reducible refine Ext.drewN' ?_ _ | with_reducible refine Ext.alloc ?_ _ | (with_reducible refine Ext.setNew ?_ (by first | exact Nat.le_refl _ | (simp; done) | (simp; omega) | omega) _)))))).mono ?_
   rintro e w16 ⟨rfl, hE16⟩
   have X16 : Ext w14 w16 := X15.trans (Ext.trans (by (repeat (first | with_reducible assumption | with_reducible exact Ext.refl _ | with_reducible refine Ext.drew' ?_ | with_reducible refine Ext.drewN' ?_ _ | with_reducible refine Ext.alloc ?_ _ | (with_reducible refine Ext.setNew ?_ (by first | exact Nat.le_refl _ | (simp; done) | (simp; omega) | omega) _)))) hE16)
   have b16 := b14.ext X16
   have y0 := b16.cell (i := 0) rfl
   have y1 := b16.cell (i := 1) rfl
   have yl := b16.lt
   clear BD15 BD14
   go_wp2_with fail
   go_ret
   exact ⟨rfl, HEF.out.trans (Ext.trans X16 (by (repeat (first | with_reducible assumption | with_reducible exact Ext.refl _ | with_reducible refine Ext.drew' ?_ | with_reducible refine Ext.drewN' ?_ _ | with_reducible refine Ext.alloc ?_ _ | (with_reducible refine Ext.setNew ?_ (by first | exact Nat.le_refl _ | (simp; done) | (simp; omega) | omega) _)))))⟩
 ·go_enter Try.func6, Try.ntmps6
  go_wp2
  go_ret
  exact ⟨rfl, Ext.refl _⟩
theorem fnConfigValid_lifted (os : Os) (started : os.Started) (H : Type) (enc : TypeId × Value → H) :
  ReturnsInHanded {} Try.checked os 6 .any (Rows.fnConfigValidSpec.pre6 enc Try.prog Try.f6 Rows.fnConfigValidRow.domain false) (Rows.fnConfigValidSpec.post enc Try.prog Try.f6 false true false false) := by
 refine returnsInHanded_of_change (C := Try.checked) own started (by kernel_rfl) Try.func6
  (ChangeSpec.witness6 (enc := enc) (C := Try.checked) false ⟨#[], #[.slice none 0 0], []⟩ 8 (by kernel_rfl) (by kernel_rfl) (by kernel_rfl) (by kernel_rfl)) ?_
 intro W base args ds gs before hval0 hW hcnd _
 have hval : ∀ (j : Nat) t v, Try.f6.params[j]? = some t → args[j]? = some v → Value.okWide Try.prog W .any base t v := hval0
 have hW' := hW
 obtain ⟨p, q, hA0, hV, rfl, hfz, hnd⟩ := hW
 have hA : DataW.TrodAll enc Try.prog W 0 (fun _ => true) true Try.f6.params.toList args.toList ds p := hA0
 rw [Try.params6] at hA hval
 obtain ⟨v0, vs0, d0, ds0, p0, q0, hargs, rfl, rfl, h0, r0⟩ := trodAll_cons hA
 obtain ⟨rfl, rfl, rfl⟩ := trodAll_nil r0
 obtain rfl : args = #[v0] := by cases args; simp_all
 obtain ⟨rfl, rfl⟩ := trodVars_none hV
 obtain ⟨a0, len0, cap0, rfl⟩ := okWide_slice Try.underlying22 (hval 0 22 v0 rfl rfl)
 have k0 := h0
 have lt0 : ∀ x ∈ p0, x.block < W.heap.size := by obtain ⟨m, hm⟩ := k0; exact DataW.trod_lt m _ _ _ hm
 obtain ⟨z0, w0⟩ : ∃ zs, IsRow .u8 W a0 len0 cap0 zs := by
  obtain ⟨fuel, hf⟩ := h0
  rcases open_ints Try.underlying22 Try.underlying5 (by kernel_rfl) hf with ⟨hcs, _⟩ | ⟨x, l, c, zs, hcs, _, hl, hm, hz, _, hcell, hwz⟩
  ·simp [Value.cells] at hcs
   obtain ⟨rfl, rfl, rfl⟩ := hcs
   exact ⟨[], .inl ⟨rfl, rfl, rfl, rfl⟩⟩
  ·simp [Value.cells] at hcs
   obtain ⟨rfl, rfl, rfl⟩ := hcs
   exact ⟨zs, .inr ⟨_, rfl, hl, hm, by simpa using hz, hcell, hwz⟩⟩
 clear hA0 hval0
 refine (fnConfigValid_walk a0 len0 cap0 z0 W w0).mono fun e W' ⟨he, bel⟩ => ?_
 subst he
 exact ⟨_, rfl, _, _, _, [], _, [], hW', trodAll_mk1 (shut_bool Try.underlying4 _), (trodAll_cons_mk (Below.trod laidOut (by kernel_rfl) (of_decide_eq_true (by kernel_rfl)) k0 bel lt0) trodAll_mk0), rfl, bel.frame _, fun h => by cases h⟩
theorem fnConfigValid_over : Rows.fnConfigValidRow.holds Try.pinned (OpenSpec.ofChange Rows.fnConfigValidSpec) :=
 OpenClaim.holds_of_wide 6 Try.f6 rfl rfl rfl rfl rfl rfl rfl ⟨rfl, rfl, rfl, rfl, rfl⟩ rfl rfl rfl rfl rfl (by kernel_rfl) Try.func6 (by kernel_rfl)
  (of_decide_eq_true (by kernel_rfl)) (by unfold Func.isWrapper; first | (rw [if_pos (by decide +kernel)]; kernel_rfl) | (rw [if_neg (by decide +kernel)]; exact ⟨rfl, rfl⟩))
  (fun os started H enc _ => fnConfigValid_lifted os started H enc)
theorem fnConfigValid_holds : Rows.FnConfigValidSaid := fnConfigValid_over
end Go.Proofs.Ytgialedmbmfejaa
