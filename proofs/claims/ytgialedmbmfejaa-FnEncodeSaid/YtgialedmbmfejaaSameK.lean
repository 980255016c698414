/- Contract: laws.sameConfig at configurations that read alike. -/
import Derived.Test.YtgialedmbmfejaaBKf
import Derived.Test.YtgialedmbmfejaaBEv
import Derived.Test.YtgialedmbmfejaaRegion2
import Derived.Deep.DeepCutAuto
namespace Go.Proofs.Ytgialedmbmfejaa
open Go.RowKit
set_option maxRecDepth 100000
set_option linter.unusedVariables false
set_option linter.unusedSimpArgs false
set_option maxHeartbeats 8000000 in
theorem sameConfig_c (K : Conf) (ta pa ta2 pa2 : Option Addr) (tc pc tc2 pc2 : Nat) (w : World) (h1 : ConfAt w K ta pa) (h2 : ConfAt w K ta2 pa2) :
  Calls Try.prog 38 #[.agg #[.slice ta K.ts.length tc, .slice pa K.ps.length pc], .agg #[.slice ta2 K.ts.length tc2, .slice pa2 K.ps.length pc2]] w fun e w' => e = .returned (.bool true) ∧ Ext w w' := by
 have E0 : Ext w ((w.alloc (.cells #[.slice ta K.ts.length tc, .slice pa K.ps.length pc] 52)).alloc (.cells #[.slice ta2 K.ts.length tc2, .slice pa2 K.ps.length pc2] 52)) := ((Ext.refl w).alloc _).alloc _
 have y := (Blk.at w [.slice ta K.ts.length tc, .slice pa K.ps.length pc] 52 rfl).ext ((Ext.refl _).alloc (.cells #[.slice ta2 K.ts.length tc2, .slice pa2 K.ps.length pc2] 52))
 have z := Blk.at (w.alloc (.cells #[.slice ta K.ts.length tc, .slice pa K.ps.length pc] 52)) [.slice ta2 K.ts.length tc2, .slice pa2 K.ps.length pc2] 52 (B := w.heap.size + 1) (by simp)
 have H1 := Lib.hid (h1.ext E0)
 have H2 := Lib.hid (h2.ext E0)
 have HLS := Lib.hid h1.ls
 have lt := h1.lt
 have lp := h1.lp
 clear h1 h2
 go_enter Try.func38, Try.ntmps38
 go_upto_region 1 with fail
 obtain ⟨w1, hw1⟩ : ∃ x : World, x = (w.alloc (.cells #[.slice ta K.ts.length tc, .slice pa K.ps.length pc] 52)).alloc (.cells #[.slice ta2 K.ts.length tc2, .slice pa2 K.ps.length pc2] 52) := ⟨_, rfl⟩
 rw [← hw1] at E0 y z H1 H2
 rw [← hw1]
 clear hw1
 have y0 := y.cell (i := 0) rfl
 have y1 := y.cell (i := 1) rfl
 have yl := y.lt
 have z0 := z.cell (i := 0) rfl
 have z1 := z.cell (i := 1) rfl
 have zl := z.lt
 go_wp2_with fail
 clear y0 y1 yl z0 z1 zl
 go_loopw [5] (fun u5 wr => ∃ j : Nat, j ≤ K.ts.length ∧ u5 = .int .i64 j ∧ Ext w1 wr) (fun v _ => K.ts.length - (intOf v).toNat)
 case atStart => exact ⟨0, Nat.zero_le _, rfl, Ext.refl _⟩
 case round =>
  obtain ⟨j, hj, rfl, hE⟩ := hrel
  obtain ⟨w2, rfl⟩ : ∃ x : World, x = wr := ⟨_, rfl⟩
  have y2 := y.ext hE
  have z2 := z.ext hE
  have y0 := y2.cell (i := 0) rfl
  have y1 := y2.cell (i := 1) rfl
  have yl := y2.lt
  have z0 := z2.cell (i := 0) rfl
  have z1 := z2.cell (i := 1) rfl
  have zl := z2.lt
  by_cases hlt : j < K.ts.length
  ·have hlti : (j : Int) < (K.ts.length : Int) := by omega
   obtain ⟨b5, o5, rfl, hb5, hc5⟩ := (H1.out.ts.ext hE).get (by omega)
   obtain ⟨b6, o6, rfl, hb6, hc6⟩ := (H2.out.ts.ext hE).get (by omega)
   obtain ⟨sa, sc, da, dc, q0, q1, q2, q3, i1, i2⟩ := (hc5 j hlt).ex
   obtain ⟨sa2, sc2, da2, dc2, r0, r1, r2, r3, j1, j2⟩ := (hc6 j hlt).ex
   obtain ⟨l1, l2⟩ := HLS.out j hlt
   obtain ⟨X, hX⟩ : ∃ X, X = K.ts.getD j tile0 := ⟨_, rfl⟩
   rw [← hX] at q0 q1 q2 q3 r0 r1 r2 r3 i1 i2 j1 j2 l1 l2
   have I1 := Lib.hid i1
   have I2 := Lib.hid i2
   have J1 := Lib.hid j1
   have J2 := Lib.hid j2
   clear hc5 hc6 hX i1 i2 j1 j2
   go_wp2_with fail
   refine (sameInts_c sa sa2 sc sc2 X.sl _ (I1.out.ext (by (repeat (first | with_reducible assumption | with_reducible exact Ext.refl _ | with_reducible refine Ext.drew' ?_ | with_reducible refine Ext.drewN' ?_ _ | with_reducible refine Ext.alloc ?_ _ | (with_reducible refine Ext.setNew ?_ (by first | exact Nat.le_refl _ | (simp; done) | (simp; omega) | omega) _))))) (J1.out.ext (by (repeat (first | with_reducible assumption | with_reducible exact Ext.refl _ | with_reducible refine Ext.drew' ?_ | with_reducible refine Ext.drewN' ?_ _ | with_reducible refine Ext.alloc ?_ _ | (with_reducible refine Ext.setNew ?_ (by first | exact Nat.le_refl _ | (simp; done) | (simp; omega) | omega) _))))) l1).mono ?_
   rintro e w3 ⟨rfl, hE3⟩
   have E3 : Ext w2 w3 := Ext.trans (by (repeat (first | with_reducible assumption | with_reducible exact Ext.refl _ | with_reducible refine Ext.drew' ?_ | with_reducible refine Ext.drewN' ?_ _ | with_reducible refine Ext.alloc ?_ _ | (with_reducible refine Ext.setNew ?_ (by first | exact Nat.le_refl _ | (simp; done) | (simp; omega) | omega) _)))) hE3
   have t1 := ((Blk.at w2 [.int .i64 X.tb, .slice sa X.sl.length sc, .bool X.rg, .slice da X.dr.length dc] 61 rfl).alloc (.cells #[.int .i64 X.tb, .slice sa2 X.sl.length sc2, .bool X.rg, .slice da2 X.dr.length dc2] 61)).ext hE3
   have t2 := (Blk.at (w2.alloc (.cells #[.int .i64 X.tb, .slice sa X.sl.length sc, .bool X.rg, .slice da X.dr.length dc] 61)) [.int .i64 X.tb, .slice sa2 X.sl.length sc2, .bool X.rg, .slice da2 X.dr.length dc2] 61 (B := w2.heap.size + 1) (by simp)).ext hE3
   have c1 := t1.cell (i := 3) rfl
   have c2 := t2.cell (i := 3) rfl
   clear q0 q1 q2 q3 r0 r1 r2 r3 y0 y1 z0 z1 yl zl y2 z2 hE3
   go_wp2_with fail
   refine (sameInts_c da da2 dc dc2 X.dr _ (I2.out.ext E3) (J2.out.ext E3) l2).mono ?_
   rintro e w4 ⟨rfl, hE4⟩
   go_wp2_with fail
   go_roundw
   case rel => exact ⟨j + 1, by omega, by go_num, (hE.trans E3).trans hE4⟩
   case measure => simp [intOf]; omega
  ·have hlti : ¬ ((j : Int) < (K.ts.length : Int)) := by omega
   go_wp2_with fail
   clear y0 y1 yl z0 z1 zl y2 z2
   go_loopw [8] (fun u8 wr => ∃ o : Nat, o ≤ K.ps.length ∧ u8 = .int .i64 o ∧ Ext w1 wr) (fun v _ => K.ps.length - (intOf v).toNat)
   case atStart => exact ⟨0, Nat.zero_le _, rfl, hE⟩
   case round =>
    clear hE
    obtain ⟨o, ho, rfl, hE⟩ := hrel
    obtain ⟨w3, rfl⟩ : ∃ x : World, x = wr := ⟨_, rfl⟩
    have y2 := y.ext hE
    have z2 := z.ext hE
    have y1 := y2.cell (i := 1) rfl
    have yl := y2.lt
    have z1 := z2.cell (i := 1) rfl
    have zl := z2.lt
    by_cases hlt2 : o < K.ps.length
    ·have hlt2i : (o : Int) < (K.ps.length : Int) := by omega
     obtain ⟨b5, o5, rfl, hb5, hc5⟩ := (H1.out.ps.ext hE).get (by omega)
     obtain ⟨b6, o6, rfl, hb6, hc6⟩ := (H2.out.ps.ext hE).get (by omega)
     obtain ⟨q0, q1⟩ := hc5 o hlt2
     obtain ⟨r0, r1⟩ := hc6 o hlt2
     obtain ⟨X, hX⟩ : ∃ X, X = K.ps.getD o (0, false) := ⟨_, rfl⟩
     rw [← hX] at q0 q1 r0 r1
     obtain ⟨xt, xb⟩ := X
     dsimp only at q0 q1 r0 r1
     clear hc5 hc6 hX y2 z2
     go_wp2_with fail
     (refine wp_regionT ((fun w' => (∀ b o, b < w3.heap.size → w'.cell? ⟨b, o, none⟩ = w3.cell? ⟨b, o, none⟩) ∧ Ext w3 w')) 10 (by kernel_rfl) ?_; have hS0 := held_mk (Ext.drew w3))
     ((refine tkT 0 (v := ?_) rfl (by kernel_rfl) (by kernel_rfl) ?_ (by assumption) ?_; rotate_left; (intro wS hSw; (try dsimp only at hSw); go_simp; (try with_reducible rfl)); (try simp only [Act.put, lA, lB, lC])); (refine tkT 1 (v := ?_) rfl (by kernel_rfl) (by kernel_rfl) ?_ (by assumption) ?_; rotate_left; (intro wS hSw; (try dsimp only at hSw); go_simp; (try with_reducible rfl)); (try simp only [Act.put, lA, lB, lC])); (refine tkT 2 (v := ?_) rfl (by kernel_rfl) (by kernel_rfl) ?_ (by assumption) ?_; rotate_left; (intro wS hSw; (try dsimp only at hSw); go_simp; (try with_reducible rfl)); (try simp only [Act.put, lA, lB, lC])); (refine tkT 3 (v := ?_) rfl (by kernel_rfl) (by kernel_rfl) ?_ (by assumption) ?_; rotate_left; (intro wS hSw; (try dsimp only at hSw); go_simp; (try with_reducible rfl)); (try simp only [Act.put, lA, lB, lC])); (refine tkT 4 (v := ?_) rfl (by kernel_rfl) (by kernel_rfl) ?_ (by assumption) ?_; rotate_left; (intro wS hSw; (try dsimp only at hSw); go_simp; (try with_reducible rfl)); (try simp only [Act.put, lA, lB, lC])); (refine tkT 5 (v := ?_) rfl (by kernel_rfl) (by kernel_rfl) ?_ (by assumption) ?_; rotate_left; (intro wS hSw; (try dsimp only at hSw); go_simp; (try with_reducible rfl)); (try simp only [Act.put, lA, lB, lC])); (refine tkT 6 (v := ?_) rfl (by kernel_rfl) (by kernel_rfl) ?_ (by assumption) ?_; rotate_left; (intro wS hSw; (try dsimp only at hSw); go_simp; (try with_reducible rfl)); (try simp only [Act.put, lA, lB, lC])); (refine tkT 7 (v := ?_) rfl (by kernel_rfl) (by kernel_rfl) ?_ (by assumption) ?_; rotate_left; (intro wS hSw; (try dsimp only at hSw); go_simp; (try with_reducible rfl)); (try simp only [Act.put, lA, lB, lC])); (refine tkT 8 (v := ?_) rfl (by kernel_rfl) (by kernel_rfl) ?_ (by assumption) ?_; rotate_left; (intro wS hSw; (try dsimp only at hSw); go_simp; (try with_reducible rfl)); (try simp only [Act.put, lA, lB, lC])); (refine tkT 9 (v := ?_) rfl (by kernel_rfl) (by kernel_rfl) ?_ (by assumption) ?_; rotate_left; (intro wS hSw; (try dsimp only at hSw); go_simp; (try with_reducible rfl)); (try simp only [Act.put, lA, lB, lC])))
     (refine wpAnyT_last 10 (by kernel_rfl) rfl (by decide) (by kernel_rfl) (fun K hK => ?_))
     go_simp
     (refine hK _ _ ?_; clear hK K; (try simp only [Act.put, lA, lB, lC]))
     go_wp2_with fail
     go_roundw
     case rel => exact ⟨o + 1, by omega, by go_num, hE.trans (Ext.drew _)⟩
     case measure => simp [intOf]; omega
    ·have hlt2i : ¬ ((o : Int) < (K.ps.length : Int)) := by omega
     go_wp2_with fail
     go_ret
     exact ⟨rfl, E0.trans hE⟩
end Go.Proofs.Ytgialedmbmfejaa
