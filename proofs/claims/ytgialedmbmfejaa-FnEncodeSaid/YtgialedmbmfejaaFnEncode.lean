/- The law FnEncode: bitstreams encode configurations exactly. No condition. -/
import Derived.Test.YtgialedmbmfejaaBytes
import Derived.Test.YtgialedmbmfejaaDrD
import Derived.Test.YtgialedmbmfejaaEnL
import Derived.Test.YtgialedmbmfejaaBEnc
import Derived.Test.YtgialedmbmfejaaBDcs
import Derived.Test.YtgialedmbmfejaaSameK
import Derived.Test.YtgialedmbmfejaaRegion2
namespace Go.Proofs.Ytgialedmbmfejaa
open Go.ChangeShapes Go.WideShapes Go.ChangeAt Go.RowKit
set_option maxRecDepth 100000
set_option linter.unusedVariables false
set_option linter.unusedSimpArgs false
theorem giveKB_open {w w' : World} {K : Conf} {fl : Bool} {e : Ending} (h : GiveKB w K fl e w') (l1 : K.ts.length ≤ 1048576) (l2 : K.ps.length ≤ 1048576) (l3 : ∀ j, j < K.ts.length → (K.ts.getD j tile0).sl.length ≤ 1048576 ∧ (K.ts.getD j tile0).dr.length ≤ 1048576) :
  ∃ ta tc pa pc, e = .returned (.tuple #[.agg #[.slice ta K.ts.length tc, .slice pa K.ps.length pc], .bool fl]) ∧ ConfAt w' K ta pa ∧ Ext w w' := by
 obtain ⟨tv, pv, us, h1, h2, h3⟩ := h
 obtain ⟨ta, tc, pa, pc, rfl, rfl⟩ := h2.sl
 exact ⟨ta, tc, pa, pc, h1, h2.at_ l1 l2 l3, h3⟩
theorem decV_lens (bs : List Int) : (decV bs).ts.length ≤ 1048576 ∧ (decV bs).ps.length ≤ 1048576 ∧ ∀ j, j < (decV bs).ts.length → ((decV bs).ts.getD j tile0).sl.length ≤ 1048576 ∧ ((decV bs).ts.getD j tile0).dr.length ≤ 1048576 := by
 cases hd : decB bs
 ·rw [decV_no hd]
  exact ⟨by simp [conf0], by simp [conf0], fun j hj => by simp [conf0] at hj⟩
 ·rw [decV_yes hd]
  exact ⟨by show (pTs bs 25).length ≤ _; rw [pTs_len]; omega, by show (pPs bs 3).length ≤ _; rw [pPs_len]; omega, confAt_pK_lens bs⟩
set_option maxHeartbeats 8000000 in
theorem fnEncode_walk (a0 : Option Addr) (len0 cap0 : Nat) (z0 : List Int) (a1 : Option Addr) (len1 cap1 : Nat) (z1 : List Int) (w : World) (w0 : IsRow .u8 w a0 len0 cap0 z0) (w1 : IsRow .u8 w a1 len1 cap1 z1) :
  Calls Try.prog 8 #[.slice a0 len0 cap0, .slice a1 len1 cap1] w fun e w' => e = .returned (.bool true) ∧ Below w.heap.size w w' := by
 obtain ⟨bs, rfl, hB, hlc, hcm⟩ := bytes_of_row w0
 obtain ⟨ms, rfl, hM, hmc, hmm⟩ := bytes_of_row w1
 by_cases hl : bs.length ≤ 1048576
 ·by_cases hl2 : ms.length ≤ 1048576
  ·go_enter Try.func8, Try.ntmps8
   go_wp2_with fail
   refine (DrawEncodeConfig_c a0 cap0 bs _ hB hl hlc hcm).mono ?_
   rintro e v1 ⟨ta, tc, pa, pc, K, rfl, ⟨hK, _⟩, hcaps, hE⟩
   have bk := Blk.at v1 [.slice ta K.ts.length tc, .slice pa K.ps.length pc] 52 rfl
   have E12 := (Ext.refl v1).alloc (.cells #[.slice ta K.ts.length tc, .slice pa K.ps.length pc] 52)
   have hK2 := hK.ext E12
   go_upto_region 4 with fail
   obtain ⟨v2, hv2⟩ : ∃ x : World, x = v1.alloc (.cells #[.slice ta K.ts.length tc, .slice pa K.ps.length pc] 52) := ⟨_, rfl⟩
   rw [← hv2] at bk E12 hK2
   rw [← hv2]
   clear hv2
   have E2 := hE.trans E12
   clear hE E12 hK hB
   go_wp2_with fail
   refine (DrawDecodeConfig_c a1 cap1 ms _ (hM.ext E2) hl2 hmc hmm).mono ?_
   rintro e v3 ⟨ya, yc, ys, rfl, hY, hYA, hyl, hyc, hycm, hE3⟩
   have hK3 := hK2.ext hE3
   have b3 := bk.ext hE3
   have E3 := E2.trans hE3
   have HYA := Lib.hid hYA
   have hyl2 : ys.length ≤ 1048576 := by omega
   clear hM hK2 bk hE3 E2 hYA
   have z0 := b3.cell (i := 0) rfl
   have z1 := b3.cell (i := 1) rfl
   have zl := b3.lt
   have T1 := implEncodeConfig_c K ta pa tc pc v3 hK3
   have HT2 := Lib.hid (fun W h => specEncodeConfig_c K ta pa tc pc W h)
   have HT3 := Lib.hid (fun W h => specConfigValid_c K ta pa tc pc W h)
   obtain ⟨D, hD⟩ : ∃ d, d = decV ys := ⟨_, rfl⟩
   obtain ⟨F, hF⟩ : ∃ b, b = decB ys := ⟨_, rfl⟩
   obtain ⟨l1, l2, l3⟩ := decV_lens ys
   have HU1 := Lib.hid (fun W (h : BytAt W ya ys) => (implDecodeConfig_c ys ya yc W h HYA.out hyl2 hyc hycm).mono (fun e w' h => giveKB_open h l1 l2 l3))
   have HU2 := Lib.hid (fun W (h : BytAt W ya ys) => (specDecodeConfig_c ys ya yc W h HYA.out hyl2).mono (fun e w' h => giveKB_open h l1 l2 l3))
   obtain ⟨bb, hbb⟩ : ∃ z, z = encV K := ⟨_, rfl⟩
   rw [← hbb] at T1 HT2
   rw [← hD, ← hF] at HU1 HU2
   have HBA : Hid (AllB bb) := Lib.hid (by rw [hbb]; exact encV_all K)
   have HBL : Hid (bb.length ≤ 333) := Lib.hid (by rw [hbb]; rcases encV_len K with h | h <;> omega)
   have HB := Lib.hid hbb
   have HD := Lib.hid hD
   have HF := Lib.hid hF
   clear hD hF hbb l1 l2 l3
   go_wp2_with fail
   refine T1.mono ?_
   rintro e v4 ⟨v, rfl, hO, hE4⟩
   obtain ⟨ba, bc, rfl, _, hbc1, hbc2, _⟩ := ownsRow_row hO
   have hb4 := hO.byt
   have hY4 := hY.ext hE4
   have hK4 := hK3.ext hE4
   have b4 := b3.ext hE4
   have E4 := E3.trans hE4
   clear T1 hO hE4 E3 b3 hK3 hY z0 z1 zl
   go_wp2_with fail
   refine (HU1.out _ hY4).mono ?_
   rintro e v5 ⟨xa, xc, qa, qc, rfl, hX5, hE5⟩
   have bx := Blk.at v5 [.slice xa D.ts.length xc, .slice qa D.ps.length qc] 52 rfl
   have E56 := (Ext.refl v5).alloc (.cells #[.slice xa D.ts.length xc, .slice qa D.ps.length qc] 52)
   go_upto_region 7 with fail
   obtain ⟨v6, hv6⟩ : ∃ x : World, x = v5.alloc (.cells #[.slice xa D.ts.length xc, .slice qa D.ps.length qc] 52) := ⟨_, rfl⟩
   rw [← hv6] at bx E56
   rw [← hv6]
   have E46 := hE5.trans E56
   have hX6 := hX5.ext E56
   have hb6 := hb4.ext E46
   have hY6 := hY4.ext E46
   have hK6 := hK4.ext E46
   have b6 := b4.ext E46
   have E6 := E4.trans E46
   clear hv6 E56 E46 hE5 hX5 hb4 hY4 hK4 b4 E4
   go_wp2_with fail
   refine (HU2.out _ hY6).mono ?_
   rintro e v7 ⟨wa, wc, ra, rc, rfl, hW7, hE7⟩
   have bw := Blk.at v7 [.slice wa D.ts.length wc, .slice ra D.ps.length rc] 52 rfl
   have E78 := (Ext.refl v7).alloc (.cells #[.slice wa D.ts.length wc, .slice ra D.ps.length rc] 52)
   go_upto_region 8 with fail
   obtain ⟨v8, hv8⟩ : ∃ x : World, x = v7.alloc (.cells #[.slice wa D.ts.length wc, .slice ra D.ps.length rc] 52) := ⟨_, rfl⟩
   rw [← hv8] at bw E78
   rw [← hv8]
   have E68 := hE7.trans E78
   have hW8 := hW7.ext E78
   have hX8 := hX6.ext E68
   have hb8 := hb6.ext E68
   have hY8 := hY6.ext E68
   have hK8 := hK6.ext E68
   have b8 := b6.ext E68
   have bx8 := bx.ext E68
   have E8 := E6.trans E68
   clear hv8 E78 E68 hE7 hW7 hX6 hb6 hY6 hK6 b6 bx E6 HU1 HU2
   have z0 := b8.cell (i := 0) rfl
   have z1 := b8.cell (i := 1) rfl
   have zl := b8.lt
   have x0 := bx8.cell (i := 0) rfl
   have x1 := bx8.cell (i := 1) rfl
   have xl := bx8.lt
   have y0 := bw.cell (i := 0) rfl
   have y1 := bw.cell (i := 1) rfl
   have yl := bw.lt
   have hcv : ∀ wS : World, Ext v8 wS → (convert 22 9 (.slice ba bb.length bc)).run Try.prog wS = .ok (.string (strOfNums bb)) wS := fun wS hS => conv_byt (c := bc) (hb8.ext hS) rfl
   have hbe : ((strOfNums bb).toList == (strOfNums bb).toList) = true := by simp
   have hFF : (F != F) = false := by cases F <;> rfl
   go_wp2_with fail
   (refine wp_regionT ((fun w' => (∀ b o, b < v8.heap.size → w'.cell? ⟨b, o, none⟩ = v8.cell? ⟨b, o, none⟩) ∧ Ext v8 w')) 16 (by kernel_rfl) ?_; have hS0 := held_mk (Ext.drew v8))
   ((refine tkT 0 (v := ?_) rfl (by kernel_rfl) (by kernel_rfl) ?_ (by assumption) ?_; rotate_left; (intro wS hSw; (try dsimp only at hSw); go_simp; (try with_reducible rfl)); (try simp only [Act.put, lA, lB, lC])); (refine tkT 1 (v := ?_) rfl (by kernel_rfl) (by kernel_rfl) ?_ (by assumption) ?_; rotate_left; (intro wS hSw; (try dsimp only at hSw); go_simp; (try with_reducible rfl)); (try simp only [Act.put, lA, lB, lC])); (refine tkT 2 (v := ?_) rfl (by kernel_rfl) (by kernel_rfl) ?_ (by assumption) ?_; rotate_left; (intro wS hSw; (try dsimp only at hSw); go_simp; (try with_reducible rfl)); (try simp only [Act.put, lA, lB, lC])))
   (refine wpAnyT_do 3 (by kernel_rfl) rfl (fun K hK => ?_))
   go_simp
   refine (HT2.out _ (hK8.ext (Ext.drew v8))).mono ?_
   rintro e v9 ⟨v, rfl, hV, hE9⟩
   obtain ⟨va, vc, rfl, hVB⟩ := hV.opened
   have c2 := conv_byt (c := vc) hVB rfl
   have X9 := (Ext.drew v8).trans hE9
   have hS1 := held_mk X9
   clear hV hVB hE9
   (refine hK _ _ hS1 ?_; clear hK K; (try simp only [Act.put, lA, lB, lC]))
   (refine wpAnyT_do 4 (by kernel_rfl) rfl (fun K hK => ?_))
   go_simp
   (refine hK _ _ hS1 ?_; clear hK K; (try simp only [Act.put, lA, lB, lC]))
   ((refine tkT 5 (v := ?_) rfl (by kernel_rfl) (by kernel_rfl) ?_ (by assumption) ?_; rotate_left; (intro wS hSw; (try dsimp only at hSw); go_simp; (try with_reducible rfl)); (try simp only [Act.put, lA, lB, lC])); (refine tkT 6 (v := ?_) rfl (by kernel_rfl) (by kernel_rfl) ?_ (by assumption) ?_; rotate_left; (intro wS hSw; (try dsimp only at hSw); go_simp; (try with_reducible rfl)); (try simp only [Act.put, lA, lB, lC])); (refine tkT 7 (v := ?_) rfl (by kernel_rfl) (by kernel_rfl) ?_ (by assumption) ?_; rotate_left; (intro wS hSw; (try dsimp only at hSw); go_simp; (try with_reducible rfl)); (try simp only [Act.put, lA, lB, lC])); (refine tkT 8 (v := ?_) rfl (by kernel_rfl) (by kernel_rfl) ?_ (by assumption) ?_; rotate_left; (intro wS hSw; (try dsimp only at hSw); go_simp; (try with_reducible rfl)); (try simp only [Act.put, lA, lB, lC])))
   (refine wpAnyT_do 9 (by kernel_rfl) rfl (fun K hK => ?_))
   go_simp
   refine (sameConfig_c D xa qa wa ra xc qc wc rc _ (hX8.ext X9) (hW8.ext X9)).mono ?_
   rintro e v10 ⟨rfl, hE10⟩
   have X10 := X9.trans hE10
   have hS2 := held_mk X10
   (refine hK _ _ hS2 ?_; clear hK K; (try simp only [Act.put, lA, lB, lC]))
   ((refine tkT 10 (v := ?_) rfl (by kernel_rfl) (by kernel_rfl) ?_ (by assumption) ?_; rotate_left; (intro wS hSw; (try dsimp only at hSw); go_simp; (try with_reducible rfl)); (try simp only [Act.put, lA, lB, lC])); (refine tkT 11 (v := ?_) rfl (by kernel_rfl) (by kernel_rfl) ?_ (by assumption) ?_; rotate_left; (intro wS hSw; (try dsimp only at hSw); go_simp; (try with_reducible rfl)); (try simp only [Act.put, lA, lB, lC])); (refine tkT 12 (v := ?_) rfl (by kernel_rfl) (by kernel_rfl) ?_ (by assumption) ?_; rotate_left; (intro wS hSw; (try dsimp only at hSw); go_simp; (try with_reducible rfl)); (try simp only [Act.put, lA, lB, lC])); (refine tkT 13 (v := ?_) rfl (by kernel_rfl) (by kernel_rfl) ?_ (by assumption) ?_; rotate_left; (intro wS hSw; (try dsimp only at hSw); go_simp; (try with_reducible rfl)); (try simp only [Act.put, lA, lB, lC])); (refine tkT 14 (v := ?_) rfl (by kernel_rfl) (by kernel_rfl) ?_ (by assumption) ?_; rotate_left; (intro wS hSw; (try dsimp only at hSw); go_simp; (try with_reducible rfl)); (try simp only [Act.put, lA, lB, lC])); (refine tkT 15 (v := ?_) rfl (by kernel_rfl) (by kernel_rfl) ?_ (by assumption) ?_; rotate_left; (intro wS hSw; (try dsimp only at hSw); go_simp; (try with_reducible rfl)); (try simp only [Act.put, lA, lB, lC])))
   (refine wpAnyT_last 16 (by kernel_rfl) rfl (by decide) (by kernel_rfl) (fun K hK => ?_))
   go_simp
   (refine hK _ _ ?_; clear hK K; (try simp only [Act.put, lA, lB, lC]))
   have hb10 := hb8.ext X10
   have hY10 := hY8.ext X10
   have hK10 := hK8.ext X10
   have hX11 := hX8.ext X10
   have b10 := b8.ext X10
   have bx10 := bx8.ext X10
   have E10 := E8.trans X10
   clear hS0 hS1 hS2 hcv c2 hbe hE10 X9 X10 hb8 hY8 hK8 hX8 hW8 b8 bx8 bw E8 z0 z1 zl x0 x1 xl y0 y1 yl hFF HT2
   have x0 := bx10.cell (i := 0) rfl
   have x1 := bx10.cell (i := 1) rfl
   have xl := bx10.lt
   go_upto_region 10 with fail
   go_cut [78] (fun v wx => v = .bool false ∧ Ext v10 wx)
   case first =>
    cases F
    ·have h0 : ((D.ts.length : Int) != 0) = false := by rw [HD.out, decV_no HF.out.symm]; rfl
     (refine wp_regionT ((fun w' => (∀ b o, b < v10.heap.size → w'.cell? ⟨b, o, none⟩ = v10.cell? ⟨b, o, none⟩) ∧ Ext v10 w')) 23 (by kernel_rfl) ?_; have hS0 := held_mk (Ext.drew v10))
     ((refine tkT 0 (v := ?_) rfl (by kernel_rfl) (by kernel_rfl) ?_ (by assumption) ?_; rotate_left; (intro wS hSw; (try dsimp only at hSw); go_simp; (try with_reducible rfl)); (try simp only [Act.put, lA, lB, lC])); (refine tkT 1 (v := ?_) rfl (by kernel_rfl) (by kernel_rfl) ?_ (by assumption) ?_; rotate_left; (intro wS hSw; (try dsimp only at hSw); go_simp; (try with_reducible rfl)); (try simp only [Act.put, lA, lB, lC])))
     ((refine wpAnyT_take 2 (v := undef) rfl (by kernel_rfl) (fun _ _ _ h => h) (Or.inr ⟨by kernel_rfl, rfl⟩) (by assumption) ?_; (try simp only [Act.put, lA, lB, lC])); (refine wpAnyT_take 3 (v := undef) rfl (by kernel_rfl) (fun _ _ _ h => h) (Or.inr ⟨by kernel_rfl, rfl⟩) (by assumption) ?_; (try simp only [Act.put, lA, lB, lC])); (refine wpAnyT_take 4 (v := undef) rfl (by kernel_rfl) (fun _ _ _ h => h) (Or.inr ⟨by kernel_rfl, rfl⟩) (by assumption) ?_; (try simp only [Act.put, lA, lB, lC])); (refine wpAnyT_take 5 (v := undef) rfl (by kernel_rfl) (fun _ _ _ h => h) (Or.inr ⟨by kernel_rfl, rfl⟩) (by assumption) ?_; (try simp only [Act.put, lA, lB, lC])); (refine wpAnyT_take 6 (v := undef) rfl (by kernel_rfl) (fun _ _ _ h => h) (Or.inr ⟨by kernel_rfl, rfl⟩) (by assumption) ?_; (try simp only [Act.put, lA, lB, lC])); (refine wpAnyT_take 7 (v := undef) rfl (by kernel_rfl) (fun _ _ _ h => h) (Or.inr ⟨by kernel_rfl, rfl⟩) (by assumption) ?_; (try simp only [Act.put, lA, lB, lC])); (refine wpAnyT_take 8 (v := undef) rfl (by kernel_rfl) (fun _ _ _ h => h) (Or.inr ⟨by kernel_rfl, rfl⟩) (by assumption) ?_; (try simp only [Act.put, lA, lB, lC])); (refine wpAnyT_take 9 (v := undef) rfl (by kernel_rfl) (fun _ _ _ h => h) (Or.inr ⟨by kernel_rfl, rfl⟩) (by assumption) ?_; (try simp only [Act.put, lA, lB, lC])); (refine wpAnyT_take 10 (v := undef) rfl (by kernel_rfl) (fun _ _ _ h => h) (Or.inr ⟨by kernel_rfl, rfl⟩) (by assumption) ?_; (try simp only [Act.put, lA, lB, lC])); (refine wpAnyT_take 11 (v := undef) rfl (by kernel_rfl) (fun _ _ _ h => h) (Or.inr ⟨by kernel_rfl, rfl⟩) (by assumption) ?_; (try simp only [Act.put, lA, lB, lC])); (refine wpAnyT_take 12 (v := undef) rfl (by kernel_rfl) (fun _ _ _ h => h) (Or.inr ⟨by kernel_rfl, rfl⟩) (by assumption) ?_; (try simp only [Act.put, lA, lB, lC])))
     ((refine tkT 13 (v := ?_) rfl (by kernel_rfl) (by kernel_rfl) ?_ (by assumption) ?_; rotate_left; (intro wS hSw; (try dsimp only at hSw); go_simp; (try with_reducible rfl)); (try simp only [Act.put, lA, lB, lC])); (refine tkT 14 (v := ?_) rfl (by kernel_rfl) (by kernel_rfl) ?_ (by assumption) ?_; rotate_left; (intro wS hSw; (try dsimp only at hSw); go_simp; (try with_reducible rfl)); (try simp only [Act.put, lA, lB, lC])); (refine tkT 15 (v := ?_) rfl (by kernel_rfl) (by kernel_rfl) ?_ (by assumption) ?_; rotate_left; (intro wS hSw; (try dsimp only at hSw); go_simp; (try with_reducible rfl)); (try simp only [Act.put, lA, lB, lC])); (refine tkT 16 (v := ?_) rfl (by kernel_rfl) (by kernel_rfl) ?_ (by assumption) ?_; rotate_left; (intro wS hSw; (try dsimp only at hSw); go_simp; (try with_reducible rfl)); (try simp only [Act.put, lA, lB, lC])); (refine tkT 17 (v := ?_) rfl (by kernel_rfl) (by kernel_rfl) ?_ (by assumption) ?_; rotate_left; (intro wS hSw; (try dsimp only at hSw); go_simp; (try with_reducible rfl)); (try simp only [Act.put, lA, lB, lC])); (refine tkT 18 (v := ?_) rfl (by kernel_rfl) (by kernel_rfl) ?_ (by assumption) ?_; rotate_left; (intro wS hSw; (try dsimp only at hSw); go_simp; (try with_reducible rfl)); (try simp only [Act.put, lA, lB, lC])); (refine tkT 19 (v := ?_) rfl (by kernel_rfl) (by kernel_rfl) ?_ (by assumption) ?_; rotate_left; (intro wS hSw; (try dsimp only at hSw); go_simp; (try with_reducible rfl)); (try simp only [Act.put, lA, lB, lC])); (refine tkT 20 (v := ?_) rfl (by kernel_rfl) (by kernel_rfl) ?_ (by assumption) ?_; rotate_left; (intro wS hSw; (try dsimp only at hSw); go_simp; (try with_reducible rfl)); (try simp only [Act.put, lA, lB, lC])); (refine tkT 21 (v := ?_) rfl (by kernel_rfl) (by kernel_rfl) ?_ (by assumption) ?_; rotate_left; (intro wS hSw; (try dsimp only at hSw); go_simp; (try with_reducible rfl)); (try simp only [Act.put, lA, lB, lC])); (refine tkT 22 (v := ?_) rfl (by kernel_rfl) (by kernel_rfl) ?_ (by assumption) ?_; rotate_left; (intro wS hSw; (try dsimp only at hSw); go_simp; (try with_reducible rfl)); (try simp only [Act.put, lA, lB, lC])))
     (refine wpAnyT_last 23 (by kernel_rfl) rfl (by decide) (by kernel_rfl) (fun K hK => ?_))
     go_simp
     (refine hK _ _ ?_; clear hK K; (try simp only [Act.put, lA, lB, lC]))
     go_wp2_with fail
     go_meet
     exact ⟨rfl, Ext.drew _⟩
    ·have hdy := HF.out.symm
     obtain ⟨hok, henc, h333⟩ := decB_iff.1 hdy
     clear h333
     rw [← decV_yes hdy, ← HD.out] at hok henc
     have U1 := fun W h => implConfigValid_c D xa qa xc qc W h
     rw [confB_true hok] at U1
     have U2 := fun W h => implEncodeConfig_c D xa qa xc qc W h
     rw [henc] at U2
     have HU1 := Lib.hid U1
     have HU2 := Lib.hid U2
     have hcv : ∀ wS : World, Ext v10 wS → (convert 22 9 (.slice ya ys.length yc)).run Try.prog wS = .ok (.string (strOfNums ys)) wS := fun wS hS => conv_byt (c := yc) (hY10.ext hS) rfl
     have hbe : ((strOfNums ys).toList == (strOfNums ys).toList) = true := by simp
     clear hdy hok henc U1 U2
     (refine wp_regionT ((fun w' => (∀ b o, b < v10.heap.size → w'.cell? ⟨b, o, none⟩ = v10.cell? ⟨b, o, none⟩) ∧ Ext v10 w')) 23 (by kernel_rfl) ?_; have hS0 := held_mk (Ext.drew v10))
     ((refine tkT 0 (v := ?_) rfl (by kernel_rfl) (by kernel_rfl) ?_ (by assumption) ?_; rotate_left; (intro wS hSw; (try dsimp only at hSw); go_simp; (try with_reducible rfl)); (try simp only [Act.put, lA, lB, lC])); (refine tkT 1 (v := ?_) rfl (by kernel_rfl) (by kernel_rfl) ?_ (by assumption) ?_; rotate_left; (intro wS hSw; (try dsimp only at hSw); go_simp; (try with_reducible rfl)); (try simp only [Act.put, lA, lB, lC])); (refine tkT 2 (v := ?_) rfl (by kernel_rfl) (by kernel_rfl) ?_ (by assumption) ?_; rotate_left; (intro wS hSw; (try dsimp only at hSw); go_simp; (try with_reducible rfl)); (try simp only [Act.put, lA, lB, lC])))
     (refine wpAnyT_do 3 (by kernel_rfl) rfl (fun K hK => ?_))
     go_simp
     refine (HU1.out _ (hX11.ext (Ext.drew v10))).mono ?_
     rintro e v11 ⟨rfl, hE11⟩
     have X11 := (Ext.drew v10).trans hE11
     have hS1 := held_mk X11
     (refine hK _ _ hS1 ?_; clear hK K; (try simp only [Act.put, lA, lB, lC]))
     ((refine tkT 4 (v := ?_) rfl (by kernel_rfl) (by kernel_rfl) ?_ (by assumption) ?_; rotate_left; (intro wS hSw; (try dsimp only at hSw); go_simp; (try with_reducible rfl)); (try simp only [Act.put, lA, lB, lC])); (refine tkT 5 (v := ?_) rfl (by kernel_rfl) (by kernel_rfl) ?_ (by assumption) ?_; rotate_left; (intro wS hSw; (try dsimp only at hSw); go_simp; (try with_reducible rfl)); (try simp only [Act.put, lA, lB, lC])); (refine tkT 6 (v := ?_) rfl (by kernel_rfl) (by kernel_rfl) ?_ (by assumption) ?_; rotate_left; (intro wS hSw; (try dsimp only at hSw); go_simp; (try with_reducible rfl)); (try simp only [Act.put, lA, lB, lC])); (refine tkT 9 (v := ?_) rfl (by kernel_rfl) (by kernel_rfl) ?_ (by assumption) ?_; rotate_left; (intro wS hSw; (try dsimp only at hSw); go_simp; (try with_reducible rfl)); (try simp only [Act.put, lA, lB, lC])); (refine tkT 10 (v := ?_) rfl (by kernel_rfl) (by kernel_rfl) ?_ (by assumption) ?_; rotate_left; (intro wS hSw; (try dsimp only at hSw); go_simp; (try with_reducible rfl)); (try simp only [Act.put, lA, lB, lC])))
     (refine wpAnyT_do 7 (by kernel_rfl) rfl (fun K hK => ?_))
     go_simp
     refine (HU2.out _ (hX11.ext X11)).mono ?_
     rintro e v12 ⟨v, rfl, hV, hE12⟩
     obtain ⟨va, vc, rfl, hVB⟩ := hV.opened
     have c2 := conv_byt (c := vc) hVB rfl
     have X12 := X11.trans hE12
     have hS2 := held_mk X12
     clear hV hVB
     (refine hK _ _ hS2 ?_; clear hK K; (try simp only [Act.put, lA, lB, lC]))
     (refine wpAnyT_do 8 (by kernel_rfl) rfl (fun K hK => ?_))
     go_simp
     (refine hK _ _ hS2 ?_; clear hK K; (try simp only [Act.put, lA, lB, lC]))
     ((refine tkT 11 (v := ?_) rfl (by kernel_rfl) (by kernel_rfl) ?_ (by assumption) ?_; rotate_left; (intro wS hSw; (try dsimp only at hSw); go_simp; (try with_reducible rfl)); (try simp only [Act.put, lA, lB, lC])); (refine tkT 12 (v := ?_) rfl (by kernel_rfl) (by kernel_rfl) ?_ (by assumption) ?_; rotate_left; (intro wS hSw; (try dsimp only at hSw); go_simp; (try with_reducible rfl)); (try simp only [Act.put, lA, lB, lC])); (refine tkT 13 (v := ?_) rfl (by kernel_rfl) (by kernel_rfl) ?_ (by assumption) ?_; rotate_left; (intro wS hSw; (try dsimp only at hSw); go_simp; (try with_reducible rfl)); (try simp only [Act.put, lA, lB, lC])); (refine tkT 14 (v := ?_) rfl (by kernel_rfl) (by kernel_rfl) ?_ (by assumption) ?_; rotate_left; (intro wS hSw; (try dsimp only at hSw); go_simp; (try with_reducible rfl)); (try simp only [Act.put, lA, lB, lC])); (refine tkT 15 (v := ?_) rfl (by kernel_rfl) (by kernel_rfl) ?_ (by assumption) ?_; rotate_left; (intro wS hSw; (try dsimp only at hSw); go_simp; (try with_reducible rfl)); (try simp only [Act.put, lA, lB, lC])); (refine tkT 16 (v := ?_) rfl (by kernel_rfl) (by kernel_rfl) ?_ (by assumption) ?_; rotate_left; (intro wS hSw; (try dsimp only at hSw); go_simp; (try with_reducible rfl)); (try simp only [Act.put, lA, lB, lC])); (refine tkT 17 (v := ?_) rfl (by kernel_rfl) (by kernel_rfl) ?_ (by assumption) ?_; rotate_left; (intro wS hSw; (try dsimp only at hSw); go_simp; (try with_reducible rfl)); (try simp only [Act.put, lA, lB, lC])))
     ((refine wpAnyT_take 18 (v := undef) rfl (by kernel_rfl) (fun _ _ _ h => h) (Or.inr ⟨by kernel_rfl, rfl⟩) (by assumption) ?_; (try simp only [Act.put, lA, lB, lC])); (refine wpAnyT_take 19 (v := undef) rfl (by kernel_rfl) (fun _ _ _ h => h) (Or.inr ⟨by kernel_rfl, rfl⟩) (by assumption) ?_; (try simp only [Act.put, lA, lB, lC])); (refine wpAnyT_take 20 (v := undef) rfl (by kernel_rfl) (fun _ _ _ h => h) (Or.inr ⟨by kernel_rfl, rfl⟩) (by assumption) ?_; (try simp only [Act.put, lA, lB, lC])); (refine wpAnyT_take 21 (v := undef) rfl (by kernel_rfl) (fun _ _ _ h => h) (Or.inr ⟨by kernel_rfl, rfl⟩) (by assumption) ?_; (try simp only [Act.put, lA, lB, lC])))
     ((refine tkT 22 (v := ?_) rfl (by kernel_rfl) (by kernel_rfl) ?_ (by assumption) ?_; rotate_left; (intro wS hSw; (try dsimp only at hSw); go_simp; (try with_reducible rfl)); (try simp only [Act.put, lA, lB, lC])))
     (refine wpAnyT_last 23 (by kernel_rfl) rfl (by decide) (by kernel_rfl) (fun K hK => ?_))
     go_simp
     (refine hK _ _ ?_; clear hK K; (try simp only [Act.put, lA, lB, lC]))
     go_wp2_with fail
     go_meet
     exact ⟨rfl, X12⟩
   obtain ⟨rfl, hX13⟩ := hcut
   obtain ⟨v13, rfl⟩ : ∃ x : World, x = wc := ⟨_, rfl⟩
   have hb13 := hb10.ext hX13
   have hK13 := hK10.ext hX13
   have b13 := b10.ext hX13
   have E13 := E10.trans hX13
   clear hb10 hY10 hK10 hX11 b10 bx10 E10 x0 x1 xl hX13 HD HF
   have z0 := b13.cell (i := 0) rfl
   have z1 := b13.cell (i := 1) rfl
   have zl := b13.lt
   cases hc : confB K
   ·have h0b : ((bb.length : Int) == 0) = true := by rw [HB.out, encV_no hc]; rfl
    have T3 := HT3.out _ hK13
    rw [hc] at T3
    clear hc
    go_wp2_with fail
    refine T3.mono ?_
    rintro e v14 ⟨rfl, hE14⟩
    go_wp2_with fail
    refine (alive_c _).mono ?_
    rintro e v15 ⟨rfl, hE15⟩
    go_wp2_with fail
    go_ret
    exact ⟨rfl, (E13.trans hE14).trans hE15⟩
   ·have hOK := confB_iff.1 hc
    have T3 := HT3.out _ hK13
    rw [hc] at T3
    obtain ⟨d1, d2⟩ := dec_enc hOK
    have U3 := fun W (h : BytAt W ba bb) => (implDecodeConfig_c bb ba bc W h HBA.out (by have := HBL.out; omega) hbc1 hbc2).mono (fun e w' h => giveKB_open h (decV_lens bb).1 (decV_lens bb).2.1 (decV_lens bb).2.2)
    have e1 : decB bb = true := by rw [HB.out]; exact d1
    have e2 : decV bb = K := by rw [HB.out]; exact d2
    rw [e1, e2] at U3
    have HU3 := Lib.hid U3
    clear hc d1 d2 U3 e1 e2 hOK
    go_wp2_with fail
    refine T3.mono ?_
    rintro e v14 ⟨rfl, hE14⟩
    have hb14 := hb13.ext hE14
    clear T3
    go_wp2_with fail
    refine (HU3.out _ hb14).mono ?_
    rintro e v15 ⟨fa, fc, ga, gc, rfl, hG15, hE15⟩
    have bf := Blk.at v15 [.slice fa K.ts.length fc, .slice ga K.ps.length gc] 52 rfl
    have E16 := (Ext.refl v15).alloc (.cells #[.slice fa K.ts.length fc, .slice ga K.ps.length gc] 52)
    go_upto_region 15 with fail
    obtain ⟨v16, hv16⟩ : ∃ x : World, x = v15.alloc (.cells #[.slice fa K.ts.length fc, .slice ga K.ps.length gc] 52) := ⟨_, rfl⟩
    rw [← hv16] at bf E16
    rw [← hv16]
    have X16 := (hE14.trans hE15).trans E16
    have b16 := b13.ext X16
    have hK16 := hK13.ext X16
    have hG16 := hG15.ext E16
    have EF := E13.trans X16
    clear hv16 z0 z1 zl b13 hK13 hG15 E16 X16 hb13 hb14 hE14 hE15 E13
    have z0 := b16.cell (i := 0) rfl
    have z1 := b16.cell (i := 1) rfl
    have zl := b16.lt
    have y0 := bf.cell (i := 0) rfl
    have y1 := bf.cell (i := 1) rfl
    have yl := bf.lt
    go_wp2_with fail
    refine (sameConfig_c K fa ga ta pa fc gc tc pc _ (hG16.ext (by (repeat (first | with_reducible assumption | with_reducible exact Ext.refl _ | with_reducible refine Ext.drew' ?_ | with_reducible refine Ext.drewN' ?_ _ | with_reducible refine Ext.alloc ?_ _ | (with_reducible refine Ext.setNew ?_ (by first | exact Nat.le_refl _ | (simp; done) | (simp; omega) | omega) _))))) (hK16.ext (by (repeat (first | with_reducible assumption | with_reducible exact Ext.refl _ | with_reducible refine Ext.drew' ?_ | with_reducible refine Ext.drewN' ?_ _ | with_reducible refine Ext.alloc ?_ _ | (with_reducible refine Ext.setNew ?_ (by first | exact Nat.le_refl _ | (simp; done) | (simp; omega) | omega) _)))))).mono ?_
    rintro e v17 ⟨rfl, hE17⟩
    go_wp2_with fail
    go_ret
    exact ⟨rfl, EF.trans (Ext.trans (by (repeat (first | with_reducible assumption | with_reducible exact Ext.refl _ | with_reducible refine Ext.drew' ?_ | with_reducible refine Ext.drewN' ?_ _ | with_reducible refine Ext.alloc ?_ _ | (with_reducible refine Ext.setNew ?_ (by first | exact Nat.le_refl _ | (simp; done) | (simp; omega) | omega) _)))) hE17)⟩
  ·go_enter Try.func8, Try.ntmps8
   go_wp2
   go_ret
   exact ⟨rfl, Ext.refl _⟩
 ·go_enter Try.func8, Try.ntmps8
  go_wp2
  go_ret
  exact ⟨rfl, Ext.refl _⟩
theorem fnEncode_lifted (os : Os) (started : os.Started) (H : Type) (enc : TypeId × Value → H) :
  ReturnsInHanded {} Try.checked os 8 .any (Rows.fnEncodeSpec.pre6 enc Try.prog Try.f8 Rows.fnEncodeRow.domain false) (Rows.fnEncodeSpec.post enc Try.prog Try.f8 false true false false) := by
 refine returnsInHanded_of_change (C := Try.checked) own started (by kernel_rfl) Try.func8
  (ChangeSpec.witness6 (enc := enc) (C := Try.checked) false ⟨#[], #[.slice none 0 0, .slice none 0 0], []⟩ 8 (by kernel_rfl) (by kernel_rfl) (by kernel_rfl) (by kernel_rfl)) ?_
 intro W base args ds gs before hval0 hW hcnd _
 have hval : ∀ (j : Nat) t v, Try.f8.params[j]? = some t → args[j]? = some v → Value.okWide Try.prog W .any base t v := hval0
 have hW' := hW
 obtain ⟨p, q, hA0, hV, rfl, hfz, hnd⟩ := hW
 have hA : DataW.TrodAll enc Try.prog W 0 (fun _ => true) true Try.f8.params.toList args.toList ds p := hA0
 rw [Try.params8] at hA hval
 obtain ⟨v0, vs0, d0, ds0, p0, q0, hargs, rfl, rfl, h0, r0⟩ := trodAll_cons hA
 obtain ⟨v1, vs1, d1, ds1, p1, q1, rfl, rfl, rfl, h1, r1⟩ := trodAll_cons r0
 obtain ⟨rfl, rfl, rfl⟩ := trodAll_nil r1
 obtain rfl : args = #[v0, v1] := by cases args; simp_all
 obtain ⟨rfl, rfl⟩ := trodVars_none hV
 obtain ⟨a0, len0, cap0, rfl⟩ := okWide_slice Try.underlying22 (hval 0 22 v0 rfl rfl)
 have k0 := h0
 have lt0 : ∀ x ∈ p0, x.block < W.heap.size := by obtain ⟨m, hm⟩ := k0; exact DataW.trod_lt m _ _ _ hm
 obtain ⟨z0, w0⟩ : ∃ zs, IsRow .u8 W a0 len0 cap0 zs := by
  obtain ⟨fuel, hf⟩ := h0
  rcases open_ints Try.underlying22 Try.underlying5 (by kernel_rfl) hf with ⟨hcs, _⟩ | ⟨x, l, c, zs, hcs, _, hl, hm, hz, _, hcell, hwz⟩
  ·simp [Value.cells] at hcs
   obtain ⟨rfl, rfl, rfl⟩ := hcs
   exact ⟨[], .inl ⟨rfl, rfl, rfl, rfl⟩⟩
  ·simp [Value.cells] at hcs
   obtain ⟨rfl, rfl, rfl⟩ := hcs
   exact ⟨zs, .inr ⟨_, rfl, hl, hm, by simpa using hz, hcell, hwz⟩⟩
 obtain ⟨a1, len1, cap1, rfl⟩ := okWide_slice Try.underlying22 (hval 1 22 v1 rfl rfl)
 have k1 := h1
 have lt1 : ∀ x ∈ p1, x.block < W.heap.size := by obtain ⟨m, hm⟩ := k1; exact DataW.trod_lt m _ _ _ hm
 obtain ⟨z1, w1⟩ : ∃ zs, IsRow .u8 W a1 len1 cap1 zs := by
  obtain ⟨fuel, hf⟩ := h1
  rcases open_ints Try.underlying22 Try.underlying5 (by kernel_rfl) hf with ⟨hcs, _⟩ | ⟨x, l, c, zs, hcs, _, hl, hm, hz, _, hcell, hwz⟩
  ·simp [Value.cells] at hcs
   obtain ⟨rfl, rfl, rfl⟩ := hcs
   exact ⟨[], .inl ⟨rfl, rfl, rfl, rfl⟩⟩
  ·simp [Value.cells] at hcs
   obtain ⟨rfl, rfl, rfl⟩ := hcs
   exact ⟨zs, .inr ⟨_, rfl, hl, hm, by simpa using hz, hcell, hwz⟩⟩
 clear hA0 hval0
 refine (fnEncode_walk a0 len0 cap0 z0 a1 len1 cap1 z1 W w0 w1).mono fun e W' ⟨he, bel⟩ => ?_
 subst he
 exact ⟨_, rfl, _, _, _, [], _, [], hW', trodAll_mk1 (shut_bool Try.underlying4 _), (trodAll_cons_mk (Below.trod laidOut (by kernel_rfl) (of_decide_eq_true (by kernel_rfl)) k0 bel lt0) (trodAll_cons_mk (Below.trod laidOut (by kernel_rfl) (of_decide_eq_true (by kernel_rfl)) k1 bel lt1) trodAll_mk0)), rfl, bel.frame _, fun h => by cases h⟩
theorem fnEncode_over : Rows.fnEncodeRow.holds Try.pinned (OpenSpec.ofChange Rows.fnEncodeSpec) :=
 OpenClaim.holds_of_wide 8 Try.f8 rfl rfl rfl rfl rfl rfl rfl ⟨rfl, rfl, rfl, rfl, rfl⟩ rfl rfl rfl rfl rfl (by kernel_rfl) Try.func8 (by kernel_rfl)
  (of_decide_eq_true (by kernel_rfl)) (by unfold Func.isWrapper; first | (rw [if_pos (by decide +kernel)]; kernel_rfl) | (rw [if_neg (by decide +kernel)]; exact ⟨rfl, rfl⟩))
  (fun os started H enc _ => fnEncode_lifted os started H enc)
theorem fnEncode_holds : Rows.FnEncodeSaid := fnEncode_over
end Go.Proofs.Ytgialedmbmfejaa
