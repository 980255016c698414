/- The law FnStepFabric: both libraries agree; flip-flops of tiles that are not registered become 0; an inverted pad inverts its output; the empty configuration gives 0. No condition. -/
import Derived.Test.YtgialedmbmfejaaBytes
import Derived.Test.YtgialedmbmfejaaDrSF
import Derived.Test.YtgialedmbmfejaaStL
import Derived.Test.YtgialedmbmfejaaStpF
import Derived.Test.YtgialedmbmfejaaBKf
import Derived.Test.YtgialedmbmfejaaBFa
import Derived.Test.YtgialedmbmfejaaBEv
import Derived.Test.YtgialedmbmfejaaRegion2
import Derived.Deep.DeepCutAuto
namespace Go.Proofs.Ytgialedmbmfejaa
open Go.ChangeShapes Go.WideShapes Go.ChangeAt Go.RowKit
set_option maxRecDepth 100000
set_option linter.unusedVariables false
set_option linter.unusedSimpArgs false
theorem giveF_open {w w' : World} {xs ys : List Bool} {e : Ending} (h : GiveF w xs ys e w') : ∃ a1 c1 a2 c2, e = .returned (.agg #[.slice a1 xs.length c1, .slice a2 ys.length c2]) ∧ BoolsAt w' a1 xs ∧ BoolsAt w' a2 ys ∧ (xs.length ≤ c1 ∧ c1 ≤ maxLen) ∧ (∀ x, a1 = some x → w.heap.size ≤ x.block) ∧ (∀ x, a2 = some x → w.heap.size ≤ x.block) ∧ Ext w w' := by
 obtain ⟨ov, rv, rfl, h1, h2, _, h3⟩ := h
 obtain ⟨a1, c1, rfl, _, l1, l2, g1⟩ := ownsRow_row h1
 obtain ⟨a2, c2, rfl, _, _, _, g2⟩ := ownsRow_row h2
 obtain ⟨_, _, e1, k1⟩ := h1.opened
 cases e1
 obtain ⟨_, _, e2, k2⟩ := h2.opened
 cases e2
 exact ⟨a1, c1, a2, c2, rfl, k1, k2, ⟨l1, l2⟩, fun x hx => (g1 x hx).1, fun x hx => (g2 x hx).1, h3⟩
def CutF (w : World) (x : List Bool × List Bool) (v : Value) (wx : World) : Prop := ∃ D a1 c1 a2 c2, v = .pointer (some ⟨D, 0, none⟩) ∧ Blk wx D 71 [.slice a1 x.1.length c1, .slice a2 x.2.length c2] ∧ BoolsAt wx a1 x.1 ∧ BoolsAt wx a2 x.2 ∧ Ext w wx
theorem cutF_behind {w0 w4 : World} {a1 a2 : Option Addr} {c1 c2 : Nat} {x : List Bool × List Bool} (h1 : BoolsAt w4 a1 x.1) (h2 : BoolsAt w4 a2 x.2) (E : Ext w0 w4) :
  CutF w0 x (.pointer (some ⟨w4.heap.size, 0, none⟩)) (w4.alloc (.cells #[.slice a1 x.1.length c1, .slice a2 x.2.length c2] 71)) := by
 have eB : Ext w4 (w4.alloc (.cells #[.slice a1 x.1.length c1, .slice a2 x.2.length c2] 71)) := (Ext.refl w4).alloc _
 exact ⟨_, _, _, _, _, rfl, Blk.at w4 _ _ rfl, h1.ext eB, h2.ext eB, E.trans eB⟩
theorem cutF_before {w0 wc w4 : World} {D : Nat} {a1 a2 : Option Addr} {c1 c2 : Nat} {x : List Bool × List Bool} (h1 : BoolsAt w4 a1 x.1) (h2 : BoolsAt w4 a2 x.2) (g1 : ∀ y, a1 = some y → wc.heap.size ≤ y.block) (g2 : ∀ y, a2 = some y → wc.heap.size ≤ y.block) (hD : D < wc.heap.size) (bk : Blk w4 D 71 [.slice none 0 0, .slice none 0 0]) (E : Ext w0 w4) (h0 : w0.heap.size ≤ D) :
  CutF w0 x (.pointer (some ⟨D, 0, none⟩)) ((w4.setCell ⟨D, 0, none⟩ (.slice a1 x.1.length c1)).setCell ⟨D, 1, none⟩ (.slice a2 x.2.length c2)) := by
 have n1 : ∀ y, a1 = some y → D ≠ y.block := fun y hy => by have := g1 y hy; omega
 have n2 : ∀ y, a2 = some y → D ≠ y.block := fun y hy => by have := g2 y hy; omega
 exact ⟨_, _, _, _, _, rfl, (bk.set 0 _).set 1 _, (h1.set n1 0 _).set n1 1 _, (h2.set n2 0 _).set n2 1 _, Ext.setNew (p := ⟨D, 1, none⟩) (Ext.setNew (p := ⟨D, 0, none⟩) E h0 _) h0 _⟩
theorem pads_row {w : World} {a : Option Addr} {ps : List (Int × Bool)} (h : PadsAt w a ps) : RowAt w a (flatP ps) := by
 rcases h with rfl | ⟨b, o, ha, hb, hc⟩
 ·exact .inl rfl
 ·refine .inr ⟨b, o, ha, hb, fun i u hu => ?_⟩
  have hl : i < (flatP ps).length := (List.getElem?_eq_some_iff.1 hu).1
  rw [flatP_length] at hl
  obtain ⟨c1, c2⟩ := hc (i / 2) (by omega)
  obtain ⟨f1, f2⟩ := flatP_get ps (i / 2) (by omega)
  rcases Nat.mod_two_eq_zero_or_one i with h2 | h2
  ·have e : i = i / 2 * 2 := by omega
   rw [← e] at f1 c1
   rw [f1] at hu
   cases hu; exact c1
  ·have e : i = i / 2 * 2 + 1 := by omega
   rw [← e] at f2
   rw [Nat.add_assoc, ← e] at c2
   rw [f2] at hu
   cases hu; exact c2
def zer3 : List Value := (List.replicate 3 [Value.bool false]).flatten
theorem zer3_eq : zer3 = (List.replicate 3 false).map Value.bool := by unfold zer3; rfl
theorem make3 (w : World) : (Instr.makeSlice 65 (.int .i64 3) (.int .i64 3)).run Try.prog w = .ok (.slice (some ⟨w.heap.size, 0, none⟩) 3 3) (w.alloc (.cells zer3.toArray 4)) :=
 run_zeros (P := Try.prog) 65 4 (.bool false) [.bool false] 1 Try.underlying65 boolInfo rfl (by decide) (by decide) 3 (by decide) w
theorem flipO_get : ∀ xs : List Bool, 0 < xs.length → (flipO xs).getD 0 false = !(xs.getD 0 false)
 | [], h => by simp at h
 | x :: xs, _ => rfl
theorem flipO_drop : ∀ xs : List Bool, (flipO xs).drop 1 = xs.drop 1
 | [] => rfl
 | x :: xs => rfl
theorem flipO_length : ∀ xs : List Bool, (flipO xs).length = xs.length
 | [] => rfl
 | x :: xs => rfl
theorem bools_dropO {w : World} {b o o1 : Nat} {xs : List Bool} (h : BoolsAt w (some ⟨b, o, none⟩) xs) (hl : 1 < xs.length) (ho : o1 = o + 1) : BoolsAt w (some ⟨b, o1, none⟩) (xs.drop 1) := by
 subst ho
 rcases h with rfl | ⟨b', o', ha, hb, hc⟩
 ·simp at hl
 ·cases ha
  refine .inr ⟨b, o + 1, rfl, hb, fun j hj => ?_⟩
  rw [List.length_drop] at hj
  have := hc (1 + j) (by omega)
  rw [← Nat.add_assoc] at this
  rw [this, List.getD_eq_getElem?_getD, List.getD_eq_getElem?_getD, List.getElem?_drop]
theorem flatP_inv : ∀ (ps : List (Int × Bool)), 0 < ps.length → ∀ b : Bool, (flatP ps).set 1 (.bool b) = flatP (ps.set 0 ((ps.getD 0 (0, false)).1, b))
 | [], h, _ => by simp at h
 | p :: ps, _, b => rfl
theorem flip_at {w w9 : World} {g base n c : Nat} {ta pa : Option Addr} {K : Conf} (h9 : ConfAt w9 K ta pa) (e : Ext w9 w) (hn : n = K.ps.length) (h0 : 0 < K.ps.length) (hr : w.ownsRow base 75 2 (.slice (some ⟨g, 0, none⟩) n c) n ((flatP K.ps).set 1 (.bool (!(K.ps.getD 0 (0, false)).2)))) : ConfAt w (flipK K) ta (some ⟨g, 0, none⟩) := by
 subst hn
 rw [flatP_inv K.ps h0] at hr
 obtain ⟨_, _, e1, hrow, _⟩ := ownsRow_row hr
 cases e1
 refine ⟨h9.ts.ext e, padsAt_of_row hrow, h9.lt, ?_, h9.ls⟩
 show (K.ps.set 0 _).length ≤ _
 rw [List.length_set]; exact h9.lp
set_option maxHeartbeats 20000000 in
theorem fnStepFabric_walk (a0 : Option Addr) (len0 cap0 : Nat) (z0 : List Int) (w : World) (w0 : IsRow .u8 w a0 len0 cap0 z0) :
  Calls Try.prog 9 #[.slice a0 len0 cap0] w fun e w' => e = .returned (.bool true) ∧ Below w.heap.size w w' := by
 obtain ⟨bs, rfl, hB, hlc, hcm⟩ := bytes_of_row w0
 by_cases hl : bs.length ≤ 1048576
 ·go_enter Try.func9, Try.ntmps9
  go_wp2_with fail
  refine (DrawStepFabric_c a0 cap0 bs _ hB hl hlc hcm).mono ?_
  rintro e w1 ⟨ta, tc, pa, pc, K, sa, sc, regs, ia, ic, ins, rfl, hK, hcaps, hS, hI, hrl, hil, hE⟩
  have bk := (Blk.at w1 [.slice ta K.ts.length tc, .slice pa K.ps.length pc] 52 rfl).alloc (.cells #[.slice sa regs.length sc] 67)
  have bs4 := Blk.at (w1.alloc (.cells #[.slice ta K.ts.length tc, .slice pa K.ps.length pc] 52)) [.slice sa regs.length sc] 67 (B := w1.heap.size + 1) (by simp)
  have E12 : Ext w1 ((w1.alloc (.cells #[.slice ta K.ts.length tc, .slice pa K.ps.length pc] 52)).alloc (.cells #[.slice sa regs.length sc] 67)) := ((Ext.refl w1).alloc _).alloc _
  go_upto_region 4 with fail
  obtain ⟨w2, hw2⟩ : ∃ x : World, x = (w1.alloc (.cells #[.slice ta K.ts.length tc, .slice pa K.ps.length pc] 52)).alloc (.cells #[.slice sa regs.length sc] 67) := ⟨_, rfl⟩
  rw [← hw2] at bk bs4 E12
  rw [← hw2]
  clear hw2
  have hF2 : FabAt w2 K ta pa sa regs ia ins := ⟨hK.ext E12, hS.ext E12, hI.ext E12⟩
  have E2 := hE.trans E12
  obtain ⟨X, hX⟩ : ∃ X, X = stepV K regs ins := ⟨_, rfl⟩
  have hr6 : regs.length ≤ 1048576 := by omega
  have hi6 : ins.length ≤ 1048576 := by omega
  have T1 := fun W (h : FabAt W K ta pa sa regs ia ins) => (implStepFabric_c K ta pa sa ia tc pc sc ic regs ins W h hr6 hi6).mono (fun e w' h => giveF_open h)
  have T2 := fun W (h : FabAt W K ta pa sa regs ia ins) => (specStepFabric_c K ta pa sa ia tc pc sc ic regs ins W h hr6 hi6).mono (fun e w' h => giveF_open h)
  rw [← hX] at T1 T2
  have HT1 := Lib.hid T1
  have HT2 := Lib.hid T2
  have HX := Lib.hid hX
  have hXl : X.1.length ≤ 1048576 ∧ X.2.length ≤ 1048576 := by
   rw [hX]
   unfold stepV
   split
   ·rw [outsV_len, nextV_len]; omega
   ·exact ⟨by simp, by simp⟩
  obtain ⟨hx1, hx2⟩ := hXl
  clear T1 T2 hX hK hS hI hE E12
  have z0 := bk.cell (i := 0) rfl
  have z1 := bk.cell (i := 1) rfl
  have zl := bk.lt
  have s0 := bs4.cell (i := 0) rfl
  have sl := bs4.lt
  go_wp2_with fail
  refine (HT1.out _ hF2).mono ?_
  rintro e w3 ⟨a1, c1, a2, c2, rfl, k1, k2, hca, _, _, hE3⟩
  have b6 := Blk.at w3 [.slice a1 X.1.length c1, .slice a2 X.2.length c2] 71 rfl
  have E34 := (Ext.refl w3).alloc (.cells #[.slice a1 X.1.length c1, .slice a2 X.2.length c2] 71)
  go_upto_region 5 with fail
  obtain ⟨w4, hw4⟩ : ∃ x : World, x = w3.alloc (.cells #[.slice a1 X.1.length c1, .slice a2 X.2.length c2] 71) := ⟨_, rfl⟩
  rw [← hw4] at b6 E34
  rw [← hw4]
  have E24 := hE3.trans E34
  have hF4 := hF2.ext E24
  have k14 := k1.ext E34
  have k24 := k2.ext E34
  have bk4 := bk.ext E24
  have bs44 := bs4.ext E24
  have E4 := E2.trans E24
  clear hw4 E34 E24 hE3 k1 k2 hF2 bk bs4 E2 z0 z1 zl s0 sl
  have z0 := bk4.cell (i := 0) rfl
  have z1 := bk4.cell (i := 1) rfl
  have zl := bk4.lt
  have s0 := bs44.cell (i := 0) rfl
  have sl := bs44.lt
  go_wp2_with fail
  refine (HT2.out _ hF4).mono ?_
  rintro e w5 ⟨d1, e1, d2, e2, rfl, j1, j2, _, _, _, hE5⟩
  have b7 := Blk.at w5 [.slice d1 X.1.length e1, .slice d2 X.2.length e2] 71 rfl
  have E56 := (Ext.refl w5).alloc (.cells #[.slice d1 X.1.length e1, .slice d2 X.2.length e2] 71)
  go_upto_region 6 with fail
  obtain ⟨w6, hw6⟩ : ∃ x : World, x = w5.alloc (.cells #[.slice d1 X.1.length e1, .slice d2 X.2.length e2] 71) := ⟨_, rfl⟩
  rw [← hw6] at b7 E56
  rw [← hw6]
  have E46 := hE5.trans E56
  have hF6 := hF4.ext E46
  have k16 := k14.ext E46
  have k26 := k24.ext E46
  have j16 := j1.ext E56
  have j26 := j2.ext E56
  have bk6 := bk4.ext E46
  have bs46 := bs44.ext E46
  have b66 := b6.ext E46
  have E6 := E4.trans E46
  clear hw6 E46 E56 hE5 k14 k24 j1 j2 hF4 bk4 bs44 b6 E4 z0 z1 zl s0 sl HT2
  have y0 := b66.cell (i := 0) rfl
  have y1 := b66.cell (i := 1) rfl
  have yl := b66.lt
  have x0 := b7.cell (i := 0) rfl
  have x1 := b7.cell (i := 1) rfl
  have xl := b7.lt
  go_wp2_with fail
  refine (sameBools_c a1 d1 c1 e1 _ _ X.1 X.1 rfl rfl _ (k16.ext (by (repeat (first | with_reducible assumption | with_reducible exact Ext.refl _ | with_reducible refine Ext.drew' ?_ | with_reducible refine Ext.drewN' ?_ _ | with_reducible refine Ext.alloc ?_ _ | (with_reducible refine Ext.setNew ?_ (by first | exact Nat.le_refl _ | (simp; done) | (simp; omega) | omega) _))))) (j16.ext (by (repeat (first | with_reducible assumption | with_reducible exact Ext.refl _ | with_reducible refine Ext.drew' ?_ | with_reducible refine Ext.drewN' ?_ _ | with_reducible refine Ext.alloc ?_ _ | (with_reducible refine Ext.setNew ?_ (by first | exact Nat.le_refl _ | (simp; done) | (simp; omega) | omega) _))))) hx1 hx1).mono ?_
  rw [beq_self_eq_true]
  rintro e w7 ⟨rfl, hE7⟩
  have X67 : Ext w6 w7 := Ext.trans (by (repeat (first | with_reducible assumption | with_reducible exact Ext.refl _ | with_reducible refine Ext.drew' ?_ | with_reducible refine Ext.drewN' ?_ _ | with_reducible refine Ext.alloc ?_ _ | (with_reducible refine Ext.setNew ?_ (by first | exact Nat.le_refl _ | (simp; done) | (simp; omega) | omega) _)))) hE7
  have b67 := b66.ext X67
  have b77 := b7.ext X67
  clear y0 y1 yl x0 x1 xl
  have y0 := b67.cell (i := 0) rfl
  have y1 := b67.cell (i := 1) rfl
  have yl := b67.lt
  have x0 := b77.cell (i := 0) rfl
  have x1 := b77.cell (i := 1) rfl
  have xl := b77.lt
  go_wp2_with fail
  refine (sameBools_c a2 d2 c2 e2 _ _ X.2 X.2 rfl rfl _ (k26.ext (Ext.trans X67 (by (repeat (first | with_reducible assumption | with_reducible exact Ext.refl _ | with_reducible refine Ext.drew' ?_ | with_reducible refine Ext.drewN' ?_ _ | with_reducible refine Ext.alloc ?_ _ | (with_reducible refine Ext.setNew ?_ (by first | exact Nat.le_refl _ | (simp; done) | (simp; omega) | omega) _)))))) (j26.ext (Ext.trans X67 (by (repeat (first | with_reducible assumption | with_reducible exact Ext.refl _ | with_reducible refine Ext.drew' ?_ | with_reducible refine Ext.drewN' ?_ _ | with_reducible refine Ext.alloc ?_ _ | (with_reducible refine Ext.setNew ?_ (by first | exact Nat.le_refl _ | (simp; done) | (simp; omega) | omega) _)))))) hx2 hx2).mono ?_
  rw [beq_self_eq_true]
  rintro e w8 ⟨rfl, hE8⟩
  have X68 : Ext w6 w8 := Ext.trans (Ext.trans X67 (by (repeat (first | with_reducible assumption | with_reducible exact Ext.refl _ | with_reducible refine Ext.drew' ?_ | with_reducible refine Ext.drewN' ?_ _ | with_reducible refine Ext.alloc ?_ _ | (with_reducible refine Ext.setNew ?_ (by first | exact Nat.le_refl _ | (simp; done) | (simp; omega) | omega) _))))) hE8
  have hF8 := hF6.ext X68
  have k18 := k16.ext X68
  have k28 := k26.ext X68
  have bk8 := bk6.ext X68
  have bs48 := bs46.ext X68
  have b68 := b66.ext X68
  have E8 := E6.trans X68
  clear y0 y1 yl x0 x1 xl b67 b77 X67 hE7 hE8 X68 hF6 k16 k26 j16 j26 bk6 bs46 b66 b7 E6
  have z0 := bk8.cell (i := 0) rfl
  have z1 := bk8.cell (i := 1) rfl
  have zl := bk8.lt
  have s0 := bs48.cell (i := 0) rfl
  have sl := bs48.lt
  have HA := Lib.hid (fun W h => specConfigAcyclic_c K ta pa tc pc W h)
  obtain ⟨A, hA⟩ : ∃ A, A = acyV K := ⟨_, rfl⟩
  rw [← hA] at HA
  have HAV := Lib.hid hA
  clear hA
  go_wp2_with fail
  refine (HA.out _ hF8.k).mono ?_
  rintro e w9 ⟨rfl, hE9⟩
  have hF9 := hF8.ext hE9
  have k19 := k18.ext hE9
  have k29 := k28.ext hE9
  have bk9 := bk8.ext hE9
  have bs49 := bs48.ext hE9
  have b69 := b68.ext hE9
  have E9 := E8.trans hE9
  clear z0 z1 zl s0 sl hE9 hF8 k18 k28 bk8 bs48 b68 E8 HA
  have s0 := bs49.cell (i := 0) rfl
  have sl := bs49.lt
  have y0 := b69.cell (i := 0) rfl
  have y1 := b69.cell (i := 1) rfl
  have yl := b69.lt
  by_cases hP : A = true ∧ regs.length = 25 ∧ ins.length ≤ 4
  ·obtain ⟨rfl, hr25, hi4⟩ := hP
   have hacy := HAV.out.symm
   have hOK := acyV_ok hacy
   have HR25 := Lib.hid hr25
   have HI4 := Lib.hid hi4
   have HACY := Lib.hid hacy
   have HXV : Hid (X = (outsV K regs ins 3, nextV K regs ins 25)) := Lib.hid (by rw [HX.out]; exact stepV_yes hacy hr25 hi4)
   have hnr : ((regs.length : Int) != 25) = false := by simp; omega
   have hni : decide ((4 : Int) < (ins.length : Int)) = false := by simp; omega
   have hni2 : ¬ ((4 : Int) < (ins.length : Int)) := by omega
   have hkt : K.ts.length = 25 := hOK.lt
   have HKT := Lib.hid hkt
   have HOK := Lib.hid hOK
   have hX2l : Hid (X.2.length = 25) := Lib.hid (by rw [HXV.out]; exact nextV_len _ _ _ _)
   have hX1l : Hid (X.1.length = 3) := Lib.hid (by rw [HXV.out]; exact outsV_len _ _ _ _)
   have hj25 : X.2.length = K.ts.length := by rw [hX2l.out, hkt]
   have HJ25 := Lib.hid hj25
   clear hr25 hi4 hacy hOK hkt hj25
   have z0 := bk9.cell (i := 0) rfl
   have z1 := bk9.cell (i := 1) rfl
   have zl := bk9.lt
   go_wp2_with fail
   clear z0 z1 zl s0 sl y0 y1 yl
   go_loopw [8] (fun u8 wr => ∃ j : Nat, j ≤ K.ts.length ∧ u8 = .int .i64 j ∧ Ext w9 wr) (fun i _ => K.ts.length - (intOf i).toNat)
   case atStart => exact ⟨0, Nat.zero_le _, rfl, Ext.refl _⟩
   case round =>
    obtain ⟨j, hj, rfl, hE10⟩ := hrel
    obtain ⟨w10, rfl⟩ : ∃ x : World, x = wr := ⟨_, rfl⟩
    have b10 := bk9.ext hE10
    have z0 := b10.cell (i := 0) rfl
    have z1 := b10.cell (i := 1) rfl
    have zl := b10.lt
    by_cases hlt : j < K.ts.length
    ·skip
     have hlti : (j : Int) < (K.ts.length : Int) := by omega
     have hltx : j < X.2.length := by rw [HJ25.out]; exact hlt
     have hltxi : (j : Int) < (X.2.length : Int) := by omega
     have b610 := b69.ext hE10
     have y1 := b610.cell (i := 1) rfl
     have yl := b610.lt
     obtain ⟨b, o, rfl, hb, hcc⟩ := (hF9.k.ts.ext hE10).get (by omega)
     obtain ⟨_, _, _, _, _, _, q2, _, _, _⟩ := (hcc j hlt).ex
     obtain ⟨b2, o2, rfl, hb2, hc2⟩ := (k29.ext hE10).get (by omega)
     have p2 := hc2 j hltx
     have hNG : (K.ts.getD j tile0).rg = false → X.2.getD j false = false := fun h => by rw [HXV.out]; exact nextV_get K regs ins (by rw [← HKT.out]; exact hlt) h
     obtain ⟨rg, hrg⟩ : ∃ r, r = (K.ts.getD j tile0).rg := ⟨_, rfl⟩
     obtain ⟨nx, hnx⟩ : ∃ r, r = X.2.getD j false := ⟨_, rfl⟩
     rw [← hrg] at q2 hNG
     rw [← hnx] at p2 hNG
     clear hcc hc2 hrg hnx
     cases rg
     ·have hnf := hNG rfl
      subst hnf
      clear hNG
      go_wp2_with fail
      go_roundw
      case rel => exact ⟨j + 1, by omega, by go_num, hE10⟩
      case measure => simp [intOf]; omega
     ·clear hNG
      go_wp2_with fail
      go_roundw
      case rel => exact ⟨j + 1, by omega, by go_num, hE10⟩
      case measure => simp [intOf]; omega
    ·have hlti : ¬ ((j : Int) < (K.ts.length : Int)) := by omega
     have hF10 := hF9.ext hE10
     have k110 := k19.ext hE10
     have k210 := k29.ext hE10
     have bs410 := bs49.ext hE10
     have b610 := b69.ext hE10
     have E10 := E9.trans hE10
     clear hF9 k19 k29 bk9 bs49 b69 E9 hE10
     have b9 := Blk.at w10 [.slice ta K.ts.length tc, .slice pa K.ps.length pc] 52 rfl
     have E1011 := (Ext.refl w10).alloc (.cells #[.slice ta K.ts.length tc, .slice pa K.ps.length pc] 52)
     go_upto_region 16 with fail
     obtain ⟨w11, hw11⟩ : ∃ x : World, x = w10.alloc (.cells #[.slice ta K.ts.length tc, .slice pa K.ps.length pc] 52) := ⟨_, rfl⟩
     have hD9 : w10.heap.size < w11.heap.size := by rw [hw11]; simp
     rw [← hw11] at b9 E1011
     rw [← hw11]
     clear hw11 z0 z1 zl
     have bk11 := b10.ext E1011
     have z0 := bk11.cell (i := 0) rfl
     have z1 := bk11.cell (i := 1) rfl
     have zl := bk11.lt
     have OD := (Blk.at w11 [] 75 rfl).owns (base := w11.heap.size) (size := 2) (n := 0) rfl (Nat.le_refl _) (by decide)
     have hrA := (pads_row (hF10.k.ps.ext E1011)).ext ((Ext.refl w11).alloc (.cells #[] 75))
     have hpl : 0 < K.ps.length := by rw [HOK.out.lp]; omega
     have hpl3 : K.ps.length ≤ 3 := by rw [HOK.out.lp]; omega
     go_upto_region 17 with (at_builtin; refine wpList_app tyPads OD hrA (flatP_length _) (oneCell_flatP K.ps) (by first | omega | (simp; done) | (simp; omega)) (by first | omega | (simp; done) | (simp; omega)) rfl rfl rfl rfl ?_; intro v12 w12 o12 g12 m12; rw [Nat.zero_add, List.nil_append] at o12; have E1112 : Ext w11 w12 := ext_grown ((Ext.refl w11).alloc _) g12 (fun q hq => by cases hq; exact Nat.le_refl _); obtain ⟨va, vc, rfl, _⟩ := ownsRow_row o12; have b912 := b9.ext E1112; have d1 := b912.cell (i := 1) rfl; have df := (fun i => b912.frozen i); have dl := b912.lt)
     obtain ⟨g, rfl, hg0, hg1⟩ := ownsRow_block o12 hpl
     obtain ⟨w13, hw13⟩ : ∃ x : World, x = w12.setCell ⟨w10.heap.size, 1, none⟩ (.slice (some ⟨g, 0, none⟩) K.ps.length vc) := ⟨_, rfl⟩
     have E1013 : Ext w10 w13 := by rw [hw13]; exact Ext.setNew (E1011.trans E1112) (p := ⟨w10.heap.size, 1, none⟩) (Nat.le_refl _) _
     have b913 := b912.set 1 (.slice (some ⟨g, 0, none⟩) K.ps.length vc)
     have o13 := ownsRow_set o12 (p := ⟨w10.heap.size, 1, none⟩) (fun e => by have h9 : g = w10.heap.size := Option.some.inj e; omega) (.slice (some ⟨g, 0, none⟩) K.ps.length vc)
     rw [← hw13] at b913 o13
     rw [← hw13]
     have hbg : w10.heap.size < g := by omega
     clear hw13 o12 g12 m12 E1112 b912 d1 df dl OD hrA z0 z1 zl hg0 b9
     have bk13 := b10.ext E1013
     have z1 := bk13.cell (i := 1) rfl
     have zl := bk13.lt
     have d1 := b913.cell (i := 1) rfl
     have dl := b913.lt
     obtain ⟨bp, op, rfl, hbp, hcp⟩ := (hF10.k.ps.ext E1013).get hpl
     have p1 := (hcp 0 hpl).2
     rw [Nat.zero_mul, Nat.add_zero] at p1
     obtain ⟨f1, f2⟩ := flatP_get K.ps 0 hpl
     have q1 := ownsRow_cell o13 f2
     have qf := fun i => ownsRow_frozen o13 i
     have hg13 : g < w13.heap.size := (World.ownsRow.lt o13 g rfl).2
     obtain ⟨iv, hiv⟩ : ∃ z, z = (K.ps.getD 0 (0, false)).2 := ⟨_, rfl⟩
     rw [← hiv] at p1 q1
     have HIV := Lib.hid hiv
     have hp0i : (0 : Int) < (K.ps.length : Int) := by omega
     clear hcp f1 f2 hiv
     go_wp2_with fail
     (refine wp_regionT ((fun w' => (∀ b o, b < w13.heap.size → w'.cell? ⟨b, o, none⟩ = w13.cell? ⟨b, o, none⟩) ∧ Ext w13 w')) 10 (by kernel_rfl) ?_; have hS0 := held_mk (Ext.drew w13))
     ((refine tkT 0 (v := ?_) rfl (by kernel_rfl) (by kernel_rfl) ?_ (by assumption) ?_; rotate_left; (intro wS hSw; (try dsimp only at hSw); go_simp; (try with_reducible rfl)); (try simp only [Act.put, lA, lB, lC])); (refine tkT 1 (v := ?_) rfl (by kernel_rfl) (by kernel_rfl) ?_ (by assumption) ?_; rotate_left; (intro wS hSw; (try dsimp only at hSw); go_simp; (try with_reducible rfl)); (try simp only [Act.put, lA, lB, lC])); (refine tkT 2 (v := ?_) rfl (by kernel_rfl) (by kernel_rfl) ?_ (by assumption) ?_; rotate_left; (intro wS hSw; (try dsimp only at hSw); go_simp; (try with_reducible rfl)); (try simp only [Act.put, lA, lB, lC])); (refine tkT 3 (v := ?_) rfl (by kernel_rfl) (by kernel_rfl) ?_ (by assumption) ?_; rotate_left; (intro wS hSw; (try dsimp only at hSw); go_simp; (try with_reducible rfl)); (try simp only [Act.put, lA, lB, lC])); (refine tkT 4 (v := ?_) rfl (by kernel_rfl) (by kernel_rfl) ?_ (by assumption) ?_; rotate_left; (intro wS hSw; (try dsimp only at hSw); go_simp; (try with_reducible rfl)); (try simp only [Act.put, lA, lB, lC])); (refine tkT 5 (v := ?_) rfl (by kernel_rfl) (by kernel_rfl) ?_ (by assumption) ?_; rotate_left; (intro wS hSw; (try dsimp only at hSw); go_simp; (try with_reducible rfl)); (try simp only [Act.put, lA, lB, lC])); (refine tkT 6 (v := ?_) rfl (by kernel_rfl) (by kernel_rfl) ?_ (by assumption) ?_; rotate_left; (intro wS hSw; (try dsimp only at hSw); go_simp; (try with_reducible rfl)); (try simp only [Act.put, lA, lB, lC])); (refine tkT 7 (v := ?_) rfl (by kernel_rfl) (by kernel_rfl) ?_ (by assumption) ?_; rotate_left; (intro wS hSw; (try dsimp only at hSw); go_simp; (try with_reducible rfl)); (try simp only [Act.put, lA, lB, lC])); (refine tkT 8 (v := ?_) rfl (by kernel_rfl) (by kernel_rfl) ?_ (by assumption) ?_; rotate_left; (intro wS hSw; (try dsimp only at hSw); go_simp; (try with_reducible rfl)); (try simp only [Act.put, lA, lB, lC])); (refine tkT 9 (v := ?_) rfl (by kernel_rfl) (by kernel_rfl) ?_ (by assumption) ?_; rotate_left; (intro wS hSw; (try dsimp only at hSw); go_simp; (try with_reducible rfl)); (try simp only [Act.put, lA, lB, lC])))
     (refine wpAnyT_last 10 (by kernel_rfl) rfl (by decide) (by kernel_rfl) (fun K hK => ?_))
     go_simp
     (refine hK _ _ ?_; clear hK K; (try simp only [Act.put, lA, lB, lC]))
     obtain ⟨w14, hw14⟩ : ∃ x : World, x = (w13.setCell ⟨g, 1, none⟩ (.bool !iv)).drew := ⟨_, rfl⟩
     rw [← hw14]
     have E1014 : Ext w10 w14 := by rw [hw14]; exact (Ext.setNew E1013 (p := ⟨g, 1, none⟩) (by show w10.heap.size ≤ g; omega) _).drew'
     have o14 : w14.ownsRow w11.heap.size 75 2 (.slice (some ⟨g, 0, none⟩) K.ps.length vc) K.ps.length ((flatP K.ps).set 1 (.bool !iv)) := by
      rw [hw14]; exact ownsRow_ext (ownsRow_setAt o13 1 (by rw [flatP_length]; omega) (.bool !iv)) (Ext.drew _)
     have b914 : Blk w14 w10.heap.size 52 [.slice ta K.ts.length tc, .slice (some ⟨g, 0, none⟩) K.ps.length vc] := by
      rw [hw14]; exact (b913.setOther (p := ⟨g, 1, none⟩) (by show w10.heap.size ≠ g; omega) _).ext (Ext.drew _)
     rw [HIV.out] at o14
     have hKF := flip_at hF10.k E1014 rfl hpl o14
     have hst : stepV (flipK K) regs ins = (flipO X.1, X.2) := by rw [HXV.out]; exact flip_step HACY.out HR25.out HI4.out
     have hF14 := hF10.ext E1014
     have T3 := (implStepFabric_c (flipK K) ta (some ⟨g, 0, none⟩) sa ia tc vc sc ic regs ins w14 ⟨hKF, hF14.r, hF14.i⟩ hr6 hi6).mono (fun e w' h => giveF_open h)
     rw [hst, show (flipK K).ts.length = K.ts.length from rfl, show (flipK K).ps.length = K.ps.length from by show (K.ps.set 0 _).length = _; rw [List.length_set]] at T3
     have HF14r := Lib.hid hF14.r
     have HF14i := Lib.hid hF14.i
     have HT3 := Lib.hid T3
     have hFl : (flipO X.1).length ≤ 1048576 := by rw [flipO_length]; exact hx1
     have HFG := Lib.hid (flipO_get X.1)
     have HFD := Lib.hid (flipO_drop X.1)
     have HFL := Lib.hid (flipO_length X.1)
     obtain ⟨FO, hFO⟩ : ∃ f, f = flipO X.1 := ⟨_, rfl⟩
     rw [← hFO] at HT3 hFl HFG HFD HFL
     have bs414 := bs410.ext E1014
     have k114 := k110.ext E1014
     have k214 := k210.ext E1014
     have b614 := b610.ext E1014
     have E14 := E10.trans E1014
     clear hFO hst T3 hKF o14 hF14 hw14 o13 b913 hF10 k110 k210 bs410 b610 E10 E1014 E1013 E1011 bk11 bk13 b10 z1 zl d1 dl p1 q1 qf hp0i hpl hpl3 hbp hg13 hbg hlti HIV
     have s0 := bs414.cell (i := 0) rfl
     have sl := bs414.lt
     have d0 := b914.cell (i := 0) rfl
     have dd := b914.cell (i := 1) rfl
     have dl := b914.lt
     go_wp2_with fail
     refine HT3.out.mono ?_
     rintro e w15 ⟨h1, g1, h2, g2, rfl, m1, m2, hcb, _, _, hE15⟩
     have b10 := Blk.at w15 [.slice h1 FO.length g1, .slice h2 X.2.length g2] 71 rfl
     have E1516 := (Ext.refl w15).alloc (.cells #[.slice h1 FO.length g1, .slice h2 X.2.length g2] 71)
     go_upto_region 19 with fail
     obtain ⟨w16, hw16⟩ : ∃ x : World, x = w15.alloc (.cells #[.slice h1 FO.length g1, .slice h2 X.2.length g2] 71) := ⟨_, rfl⟩
     rw [← hw16] at b10 E1516
     rw [← hw16]
     have E1416 := hE15.trans E1516
     have m116 := m1.ext E1516
     have m216 := m2.ext E1516
     have bs416 := bs414.ext E1416
     have k116 := k114.ext E1416
     have k216 := k214.ext E1416
     have b616 := b614.ext E1416
     have E16 := E14.trans E1416
     clear hw16 E1516 hE15 m1 m2 bs414 k114 k214 b614 E14 HT3 b914 d0 dd dl s0 sl
     have hEm := fun W => implEmptyConfig_c W
     have hes : stepV econf regs ins = (List.replicate 3 false, List.replicate 25 false) := econf_step HR25.out HI4.out
     have hshp := econf_ok.shp
     obtain ⟨KE, hKE⟩ : ∃ k, k = econf := ⟨_, rfl⟩
     rw [← hKE] at hEm hes hshp
     have HBG := Lib.hid hshp.big
     obtain ⟨Z, hZ⟩ : ∃ z, z = stepV KE regs ins := ⟨_, rfl⟩
     have HZ1 : Hid (Z.1 = List.replicate 3 false) := Lib.hid (by rw [hZ, hes])
     have HZ2 : Hid (Z.2 = List.replicate 25 false) := Lib.hid (by rw [hZ, hes])
     have hZ1l : Z.1.length ≤ 1048576 := by rw [HZ1.out]; decide
     have hZ2l : Z.2.length ≤ 1048576 := by rw [HZ2.out]; decide
     have HEM := Lib.hid hEm
     have hES := fun ta pa tc pc W (h : ConfAt W KE ta pa) (e : Ext w16 W) => (implStepFabric_c KE ta pa sa ia tc pc sc ic regs ins W ⟨h, (HF14r.out.ext E1416).ext e, (HF14i.out.ext E1416).ext e⟩ hr6 hi6).mono (fun e w' h => giveF_open h)
     rw [← hZ] at hES
     have HES := Lib.hid hES
     clear hZ hES hEm hes hshp hKE E1416
     have s0 := bs416.cell (i := 0) rfl
     have sl := bs416.lt
     go_cut [11] (CutF w16 Z)
     case first =>
      skip
      (refine wp_regionT ((fun w' => (∀ b o, b < w16.heap.size → w'.cell? ⟨b, o, none⟩ = w16.cell? ⟨b, o, none⟩) ∧ Ext w16 w')) 5 (by kernel_rfl) ?_; have hS0 := held_mk (Ext.drew w16))
      ((refine tkT 1 (v := ?_) rfl (by kernel_rfl) (by kernel_rfl) ?_ (by assumption) ?_; rotate_left; (intro wS hSw; (try dsimp only at hSw); go_simp; (try with_reducible rfl)); (try simp only [Act.put, lA, lB, lC])); (refine tkT 2 (v := ?_) rfl (by kernel_rfl) (by kernel_rfl) ?_ (by assumption) ?_; rotate_left; (intro wS hSw; (try dsimp only at hSw); go_simp; (try with_reducible rfl)); (try simp only [Act.put, lA, lB, lC])))
      (refine wpAnyT_do2 0 4 (by kernel_rfl) rfl rfl (fun K hK => ?_) (fun K hK => ?_))
      ·go_simp
       refine (HEM.out _).mono ?_
       rintro e w17 ⟨tv, pv, us, rfl, hEK, hE17⟩
       obtain ⟨te, tec, pe, pec, rfl, rfl⟩ := hEK.sl
       have hCE := hEK.at_ HBG.out.1 HBG.out.2.1 HBG.out.2.2
       have X17 := (Ext.drew w16).trans hE17
       have hS1 := held_mk X17
       clear hEK
       (refine hK _ _ hS1 ?_; clear hK K; (try simp only [Act.put, lA, lB, lC]))
       (refine wpAnyT_do2 3 4 (by kernel_rfl) rfl rfl (fun K hK => ?_) (fun K hK => ?_))
       ·go_simp
        refine (HES.out _ _ _ _ _ hCE X17).mono ?_
        rintro e w18 ⟨u1, v1, u2, v2, rfl, n1, n2, _, _, _, hE18⟩
        have X18 := X17.trans hE18
        have hS2 := held_mk X18
        have HN1 := Lib.hid n1
        have HN2 := Lib.hid n2
        clear n1 n2
        (refine hK _ _ hS2 ?_; clear hK K; (try simp only [Act.put, lA, lB, lC]))
        (refine wpAnyT_do 4 (by kernel_rfl) rfl (fun K hK => ?_))
        go_simp
        have X19 := X18.alloc (.cells #[.slice none 0 0, .slice none 0 0] 71)
        have bk8 := Blk.at w18 [.slice none 0 0, .slice none 0 0] 71 rfl
        have z0 := bk8.cell (i := 0) rfl
        have z1 := bk8.cell (i := 1) rfl
        have zf := fun i => bk8.frozen i
        have hS3 := held_mk X19
        (refine hK _ _ hS3 ?_; clear hK K; (try simp only [Act.put, lA, lB, lC]))
        (refine wpAnyT_last 5 (by kernel_rfl) rfl (by decide) (by kernel_rfl) (fun K hK => ?_))
        go_simp
        (refine hK _ _ ?_; clear hK K; (try simp only [Act.put, lA, lB, lC]))
        go_wp2_with fail
        go_meet
        exact cutF_behind HN1.out HN2.out X18
       ·go_simp
        have X18 := X17.alloc (.cells #[.slice none 0 0, .slice none 0 0] 71)
        have e18 := (Ext.refl w17).alloc (.cells #[.slice none 0 0, .slice none 0 0] 71)
        have bk0 := Blk.at w17 [.slice none 0 0, .slice none 0 0] 71 rfl
        have hlt0 := bk0.lt
        have hS2 := held_mk X18
        (refine hK _ _ hS2 ?_; clear hK K; (try simp only [Act.put, lA, lB, lC]))
        (refine wpAnyT_do 3 (by kernel_rfl) rfl (fun K hK => ?_))
        go_simp
        refine (HES.out _ _ _ _ _ (hCE.ext e18) X18).mono ?_
        rintro e w18 ⟨u1, v1, u2, v2, rfl, n1, n2, _, hg1, hg2, hE18⟩
        have X19 := X18.trans hE18
        have bk8 := bk0.ext hE18
        have z0 := bk8.cell (i := 0) rfl
        have z1 := bk8.cell (i := 1) rfl
        have zf := fun i => bk8.frozen i
        have hS3 := held_mk X19
        have HN1 := Lib.hid n1
        have HN2 := Lib.hid n2
        have HG1 := Lib.hid hg1
        have HG2 := Lib.hid hg2
        have HSZ := Lib.hid X17.size
        clear n1 n2 hg1 hg2
        (refine hK _ _ hS3 ?_; clear hK K; (try simp only [Act.put, lA, lB, lC]))
        (refine wpAnyT_last 5 (by kernel_rfl) rfl (by decide) (by kernel_rfl) (fun K hK => ?_))
        go_simp
        (refine hK _ _ ?_; clear hK K; (try simp only [Act.put, lA, lB, lC]))
        go_wp2_with fail
        go_meet
        exact cutF_before HN1.out HN2.out HG1.out HG2.out hlt0 bk8 X19 HSZ.out
      ·go_simp
       have eZ : Ext w16 (w16.alloc (.cells #[.slice none 0 0, .slice none 0 0] 71)).drew := ((Ext.refl w16).alloc _).drew'
       have bk0 := (Blk.at w16 [.slice none 0 0, .slice none 0 0] 71 rfl).ext (Ext.drew _)
       have hlt0 := bk0.lt
       have hS1 := held_mk eZ
       (refine hK _ _ hS1 ?_; clear hK K; (try simp only [Act.put, lA, lB, lC]))
       (refine wpAnyT_do 0 (by kernel_rfl) rfl (fun K hK => ?_))
       go_simp
       refine (HEM.out _).mono ?_
       rintro e w17 ⟨tv, pv, us, rfl, hEK, hE17⟩
       obtain ⟨te, tec, pe, pec, rfl, rfl⟩ := hEK.sl
       have hCE := hEK.at_ HBG.out.1 HBG.out.2.1 HBG.out.2.2
       have X17 := eZ.trans hE17
       have hS2 := held_mk X17
       have hlt1 := Nat.lt_of_lt_of_le hlt0 hE17.size
       have bk1 := bk0.ext hE17
       clear hEK bk0
       (refine hK _ _ hS2 ?_; clear hK K; (try simp only [Act.put, lA, lB, lC]))
       (refine wpAnyT_do 3 (by kernel_rfl) rfl (fun K hK => ?_))
       go_simp
       refine (HES.out _ _ _ _ _ hCE X17).mono ?_
       rintro e w18 ⟨u1, v1, u2, v2, rfl, n1, n2, _, hg1, hg2, hE18⟩
       have X19 := X17.trans hE18
       have bk8 := bk1.ext hE18
       have z0 := bk8.cell (i := 0) rfl
       have z1 := bk8.cell (i := 1) rfl
       have zf := fun i => bk8.frozen i
       have hS3 := held_mk X19
       have HN1 := Lib.hid n1
       have HN2 := Lib.hid n2
       have HG1 := Lib.hid hg1
       have HG2 := Lib.hid hg2
       clear n1 n2 hg1 hg2
       (refine hK _ _ hS3 ?_; clear hK K; (try simp only [Act.put, lA, lB, lC]))
       (refine wpAnyT_last 5 (by kernel_rfl) rfl (by decide) (by kernel_rfl) (fun K hK => ?_))
       go_simp
       (refine hK _ _ ?_; clear hK K; (try simp only [Act.put, lA, lB, lC]))
       go_wp2_with fail
       go_meet
       exact cutF_before HN1.out HN2.out HG1.out HG2.out hlt1 bk8 X19 (Nat.le_refl _)
     obtain ⟨D1, u1, v1, u2, v2, rfl, b11, n1, n2, hE20⟩ := hcut
     obtain ⟨w20, rfl⟩ : ∃ x : World, x = wc := ⟨_, rfl⟩
     have b1020 := b10.ext hE20
     have b620 := b616.ext hE20
     have k120 := k116.ext hE20
     have k220 := k216.ext hE20
     have m120 := m116.ext hE20
     have m220 := m216.ext hE20
     have E20 := E16.trans hE20
     clear s0 sl bs416 b10 b616 k116 k216 m116 m216 E16 hE20 HEM HES HBG HF14r HF14i
     have hX3 : 1 < X.1.length := by rw [hX1l.out]; omega
     have hF3 : 1 < FO.length := by rw [HFL.out]; exact hX3
     have hX00 : 0 < X.1.length := by omega
     have hF00 : 0 < FO.length := by omega
     have hX0i : (0 : Int) < (X.1.length : Int) := by omega
     have hF0i : (0 : Int) < (FO.length : Int) := by omega
     obtain ⟨ba, oa, rfl, hba, hcaa⟩ := k120.get (by omega)
     obtain ⟨bq, oq, rfl, hbq, hcq⟩ := m120.get (by omega)
     obtain ⟨o1, ho1, hsl1⟩ := run_fromO (P := Try.prog) (t := 65) (e := 4) (sz := 1) Try.underlying65 boolSize ba oa X.1.length c1 1 (by omega) (by omega)
     obtain ⟨o2, ho2, hsl2⟩ := run_fromO (P := Try.prog) (t := 65) (e := 4) (sz := 1) Try.underlying65 boolSize bq oq FO.length g1 1 (by omega) (by omega)
     have R1 := Lib.hid (bools_dropO k120 hX3 (ho1 (by omega)))
     have Q1 := Lib.hid (show BoolsAt w20 (some ⟨bq, o2, none⟩) (X.1.drop 1) from by rw [← HFD.out]; exact bools_dropO m120 hF3 (ho2 (by omega)))
     have hL1 : Hid ((X.1.drop 1).length = X.1.length - 1) := Lib.hid List.length_drop
     have hL2 : Hid ((X.1.drop 1).length = FO.length - 1) := Lib.hid (by rw [HFL.out]; exact List.length_drop)
     have hLd : (X.1.drop 1).length ≤ 1048576 := by rw [hL1.out]; omega
     have r0 := hcaa 0 (by omega)
     have q0 := hcq 0 (by omega)
     rw [HFG.out (by omega)] at q0
     rw [Nat.add_zero] at r0 q0
     obtain ⟨ov, hov⟩ : ∃ z, z = X.1.getD 0 false := ⟨_, rfl⟩
     rw [← hov] at r0 q0
     have hne : ((!ov) != ov) = true := by cases ov <;> rfl
     have K2 := Lib.hid k220
     have M2 := Lib.hid m220
     have N1 := Lib.hid n1
     have N2 := Lib.hid n2
     have hm3 := make3
     have hm25 := make25
     have hl3 : (List.replicate 3 false).length ≤ 1048576 := by decide
     have hl25 : (List.replicate 25 false).length ≤ 1048576 := by decide
     clear hcaa hcq hov ho1 ho2 k120 k220 m120 m220 n1 n2 hca hcb
     have y0 := b620.cell (i := 0) rfl
     have y1 := b620.cell (i := 1) rfl
     have yl := b620.lt
     have x0 := b1020.cell (i := 0) rfl
     have x1 := b1020.cell (i := 1) rfl
     have xl := b1020.lt
     have t0 := b11.cell (i := 0) rfl
     have t1 := b11.cell (i := 1) rfl
     have tl := b11.lt
     go_wp2_with fail
     (refine wp_regionT ((fun w' => (∀ b o, b < w20.heap.size → w'.cell? ⟨b, o, none⟩ = w20.cell? ⟨b, o, none⟩) ∧ Ext w20 w')) 40 (by kernel_rfl) ?_; have hS0 := held_mk (Ext.drew w20))
     ((refine tkT 0 (v := ?_) rfl (by kernel_rfl) (by kernel_rfl) ?_ (by assumption) ?_; rotate_left; (intro wS hSw; (try dsimp only at hSw); go_simp; (try with_reducible rfl)); (try simp only [Act.put, lA, lB, lC])); (refine tkT 1 (v := ?_) rfl (by kernel_rfl) (by kernel_rfl) ?_ (by assumption) ?_; rotate_left; (intro wS hSw; (try dsimp only at hSw); go_simp; (try with_reducible rfl)); (try simp only [Act.put, lA, lB, lC])); (refine tkT 2 (v := ?_) rfl (by kernel_rfl) (by kernel_rfl) ?_ (by assumption) ?_; rotate_left; (intro wS hSw; (try dsimp only at hSw); go_simp; (try with_reducible rfl)); (try simp only [Act.put, lA, lB, lC])); (refine tkT 3 (v := ?_) rfl (by kernel_rfl) (by kernel_rfl) ?_ (by assumption) ?_; rotate_left; (intro wS hSw; (try dsimp only at hSw); go_simp; (try with_reducible rfl)); (try simp only [Act.put, lA, lB, lC])); (refine tkT 4 (v := ?_) rfl (by kernel_rfl) (by kernel_rfl) ?_ (by assumption) ?_; rotate_left; (intro wS hSw; (try dsimp only at hSw); go_simp; (try with_reducible rfl)); (try simp only [Act.put, lA, lB, lC])); (refine tkT 5 (v := ?_) rfl (by kernel_rfl) (by kernel_rfl) ?_ (by assumption) ?_; rotate_left; (intro wS hSw; (try dsimp only at hSw); go_simp; (try with_reducible rfl)); (try simp only [Act.put, lA, lB, lC])); (refine tkT 6 (v := ?_) rfl (by kernel_rfl) (by kernel_rfl) ?_ (by assumption) ?_; rotate_left; (intro wS hSw; (try dsimp only at hSw); go_simp; (try with_reducible rfl)); (try simp only [Act.put, lA, lB, lC])); (refine tkT 7 (v := ?_) rfl (by kernel_rfl) (by kernel_rfl) ?_ (by assumption) ?_; rotate_left; (intro wS hSw; (try dsimp only at hSw); go_simp; (try with_reducible rfl)); (try simp only [Act.put, lA, lB, lC])); (refine tkT 8 (v := ?_) rfl (by kernel_rfl) (by kernel_rfl) ?_ (by assumption) ?_; rotate_left; (intro wS hSw; (try dsimp only at hSw); go_simp; (try with_reducible rfl)); (try simp only [Act.put, lA, lB, lC])); (refine tkT 9 (v := ?_) rfl (by kernel_rfl) (by kernel_rfl) ?_ (by assumption) ?_; rotate_left; (intro wS hSw; (try dsimp only at hSw); go_simp; (try with_reducible rfl)); (try simp only [Act.put, lA, lB, lC])))
     ((refine tkT 10 (v := ?_) rfl (by kernel_rfl) (by kernel_rfl) ?_ (by assumption) ?_; rotate_left; (intro wS hSw; (try dsimp only at hSw); go_simp; (try with_reducible rfl)); (try simp only [Act.put, lA, lB, lC])); (refine tkT 11 (v := ?_) rfl (by kernel_rfl) (by kernel_rfl) ?_ (by assumption) ?_; rotate_left; (intro wS hSw; (try dsimp only at hSw); go_simp; (try with_reducible rfl)); (try simp only [Act.put, lA, lB, lC])); (refine tkT 12 (v := ?_) rfl (by kernel_rfl) (by kernel_rfl) ?_ (by assumption) ?_; rotate_left; (intro wS hSw; (try dsimp only at hSw); go_simp; (try with_reducible rfl)); (try simp only [Act.put, lA, lB, lC])); (refine tkT 13 (v := ?_) rfl (by kernel_rfl) (by kernel_rfl) ?_ (by assumption) ?_; rotate_left; (intro wS hSw; (try dsimp only at hSw); go_simp; (try with_reducible rfl)); (try simp only [Act.put, lA, lB, lC])); (refine tkT 14 (v := ?_) rfl (by kernel_rfl) (by kernel_rfl) ?_ (by assumption) ?_; rotate_left; (intro wS hSw; (try dsimp only at hSw); go_simp; (try with_reducible rfl)); (try simp only [Act.put, lA, lB, lC])); (refine tkT 15 (v := ?_) rfl (by kernel_rfl) (by kernel_rfl) ?_ (by assumption) ?_; rotate_left; (intro wS hSw; (try dsimp only at hSw); go_simp; (try with_reducible rfl)); (try simp only [Act.put, lA, lB, lC])))
     (refine wpAnyT_do 16 (by kernel_rfl) rfl (fun K hK => ?_))
     go_simp
     refine (sameBools_c _ _ _ _ _ _ (X.1.drop 1) (X.1.drop 1) hL2.out hL1.out _ (Q1.out.ext (Ext.drew w20)) (R1.out.ext (Ext.drew w20)) (by omega) (by omega)).mono ?_
     rw [beq_self_eq_true]
     rintro e w21 ⟨rfl, hE21⟩
     have X21 := (Ext.drew w20).trans hE21
     have hS1 := held_mk X21
     (refine hK _ _ hS1 ?_; clear hK K; (try simp only [Act.put, lA, lB, lC]))
     ((refine tkT 17 (v := ?_) rfl (by kernel_rfl) (by kernel_rfl) ?_ (by assumption) ?_; rotate_left; (intro wS hSw; (try dsimp only at hSw); go_simp; (try with_reducible rfl)); (try simp only [Act.put, lA, lB, lC])); (refine tkT 18 (v := ?_) rfl (by kernel_rfl) (by kernel_rfl) ?_ (by assumption) ?_; rotate_left; (intro wS hSw; (try dsimp only at hSw); go_simp; (try with_reducible rfl)); (try simp only [Act.put, lA, lB, lC])); (refine tkT 19 (v := ?_) rfl (by kernel_rfl) (by kernel_rfl) ?_ (by assumption) ?_; rotate_left; (intro wS hSw; (try dsimp only at hSw); go_simp; (try with_reducible rfl)); (try simp only [Act.put, lA, lB, lC])); (refine tkT 20 (v := ?_) rfl (by kernel_rfl) (by kernel_rfl) ?_ (by assumption) ?_; rotate_left; (intro wS hSw; (try dsimp only at hSw); go_simp; (try with_reducible rfl)); (try simp only [Act.put, lA, lB, lC])); (refine tkT 21 (v := ?_) rfl (by kernel_rfl) (by kernel_rfl) ?_ (by assumption) ?_; rotate_left; (intro wS hSw; (try dsimp only at hSw); go_simp; (try with_reducible rfl)); (try simp only [Act.put, lA, lB, lC])); (refine tkT 22 (v := ?_) rfl (by kernel_rfl) (by kernel_rfl) ?_ (by assumption) ?_; rotate_left; (intro wS hSw; (try dsimp only at hSw); go_simp; (try with_reducible rfl)); (try simp only [Act.put, lA, lB, lC])); (refine tkT 23 (v := ?_) rfl (by kernel_rfl) (by kernel_rfl) ?_ (by assumption) ?_; rotate_left; (intro wS hSw; (try dsimp only at hSw); go_simp; (try with_reducible rfl)); (try simp only [Act.put, lA, lB, lC])); (refine tkT 24 (v := ?_) rfl (by kernel_rfl) (by kernel_rfl) ?_ (by assumption) ?_; rotate_left; (intro wS hSw; (try dsimp only at hSw); go_simp; (try with_reducible rfl)); (try simp only [Act.put, lA, lB, lC])))
     (refine wpAnyT_do 25 (by kernel_rfl) rfl (fun K hK => ?_))
     go_simp
     refine (sameBools_c _ _ _ _ _ _ X.2 X.2 rfl rfl _ (M2.out.ext X21) (K2.out.ext X21) hx2 hx2).mono ?_
     rw [beq_self_eq_true]
     rintro e w22 ⟨rfl, hE22⟩
     have X22 := X21.trans hE22
     have hS2 := held_mk X22
     (refine hK _ _ hS2 ?_; clear hK K; (try simp only [Act.put, lA, lB, lC]))
     ((refine tkT 26 (v := ?_) rfl (by kernel_rfl) (by kernel_rfl) ?_ (by assumption) ?_; rotate_left; (intro wS hSw; (try dsimp only at hSw); go_simp; (try with_reducible rfl)); (try simp only [Act.put, lA, lB, lC])); (refine tkT 27 (v := ?_) rfl (by kernel_rfl) (by kernel_rfl) ?_ (by assumption) ?_; rotate_left; (intro wS hSw; (try dsimp only at hSw); go_simp; (try with_reducible rfl)); (try simp only [Act.put, lA, lB, lC])); (refine tkT 28 (v := ?_) rfl (by kernel_rfl) (by kernel_rfl) ?_ (by assumption) ?_; rotate_left; (intro wS hSw; (try dsimp only at hSw); go_simp; (try with_reducible rfl)); (try simp only [Act.put, lA, lB, lC])); (refine tkT 29 (v := ?_) rfl (by kernel_rfl) (by kernel_rfl) ?_ (by assumption) ?_; rotate_left; (intro wS hSw; (try dsimp only at hSw); go_simp; (try with_reducible rfl)); (try simp only [Act.put, lA, lB, lC])))
     (refine wpAnyT_do 30 (by kernel_rfl) rfl (fun K hK => ?_))
     go_simp
     have e23 : Ext w22 (w22.alloc (.cells zer3.toArray 4)) := (Ext.refl w22).alloc _
     have bn3 : Blk (w22.alloc (.cells zer3.toArray 4)) w22.heap.size 4 ((List.replicate 3 false).map Value.bool) := by rw [← zer3_eq]; exact Blk.at w22 _ _ rfl
     have X23 := X22.trans e23
     have hS3 := held_mk X23
     (refine hK _ _ hS3 ?_; clear hK K; (try simp only [Act.put, lA, lB, lC]))
     (refine wpAnyT_do 31 (by kernel_rfl) rfl (fun K hK => ?_))
     go_simp
     refine (sameBools_c _ _ _ _ _ _ Z.1 (List.replicate 3 false) rfl rfl _ (N1.out.ext X23) bn3.bools hZ1l hl3).mono ?_
     rw [HZ1.out, beq_self_eq_true]
     rintro e w24 ⟨rfl, hE24⟩
     have X24 := X23.trans hE24
     have hS4 := held_mk X24
     (refine hK _ _ hS4 ?_; clear hK K; (try simp only [Act.put, lA, lB, lC]))
     ((refine tkT 32 (v := ?_) rfl (by kernel_rfl) (by kernel_rfl) ?_ (by assumption) ?_; rotate_left; (intro wS hSw; (try dsimp only at hSw); go_simp; (try with_reducible rfl)); (try simp only [Act.put, lA, lB, lC])); (refine tkT 33 (v := ?_) rfl (by kernel_rfl) (by kernel_rfl) ?_ (by assumption) ?_; rotate_left; (intro wS hSw; (try dsimp only at hSw); go_simp; (try with_reducible rfl)); (try simp only [Act.put, lA, lB, lC])); (refine tkT 34 (v := ?_) rfl (by kernel_rfl) (by kernel_rfl) ?_ (by assumption) ?_; rotate_left; (intro wS hSw; (try dsimp only at hSw); go_simp; (try with_reducible rfl)); (try simp only [Act.put, lA, lB, lC])); (refine tkT 35 (v := ?_) rfl (by kernel_rfl) (by kernel_rfl) ?_ (by assumption) ?_; rotate_left; (intro wS hSw; (try dsimp only at hSw); go_simp; (try with_reducible rfl)); (try simp only [Act.put, lA, lB, lC])); (refine tkT 36 (v := ?_) rfl (by kernel_rfl) (by kernel_rfl) ?_ (by assumption) ?_; rotate_left; (intro wS hSw; (try dsimp only at hSw); go_simp; (try with_reducible rfl)); (try simp only [Act.put, lA, lB, lC])))
     (refine wpAnyT_do 37 (by kernel_rfl) rfl (fun K hK => ?_))
     go_simp
     have e25 : Ext w24 (w24.alloc (.cells zer25.toArray 4)) := (Ext.refl w24).alloc _
     have bn25 : Blk (w24.alloc (.cells zer25.toArray 4)) w24.heap.size 4 ((List.replicate 25 false).map Value.bool) := by rw [← zer25_eq]; exact Blk.at w24 _ _ rfl
     have X25 := X24.trans e25
     have hS5 := held_mk X25
     (refine hK _ _ hS5 ?_; clear hK K; (try simp only [Act.put, lA, lB, lC]))
     (refine wpAnyT_do 38 (by kernel_rfl) rfl (fun K hK => ?_))
     go_simp
     refine (sameBools_c _ _ _ _ _ _ Z.2 (List.replicate 25 false) rfl rfl _ (N2.out.ext X25) bn25.bools hZ2l hl25).mono ?_
     rw [HZ2.out, beq_self_eq_true]
     rintro e w26 ⟨rfl, hE26⟩
     have X26 := X25.trans hE26
     have hS6 := held_mk X26
     (refine hK _ _ hS6 ?_; clear hK K; (try simp only [Act.put, lA, lB, lC]))
     ((refine tkT 39 (v := ?_) rfl (by kernel_rfl) (by kernel_rfl) ?_ (by assumption) ?_; rotate_left; (intro wS hSw; (try dsimp only at hSw); go_simp; (try with_reducible rfl)); (try simp only [Act.put, lA, lB, lC])))
     (refine wpAnyT_last 40 (by kernel_rfl) rfl (by decide) (by kernel_rfl) (fun K hK => ?_))
     go_simp
     (refine hK _ _ ?_; clear hK K; (try simp only [Act.put, lA, lB, lC]))
     go_wp2_with fail
     go_ret
     exact ⟨rfl, E20.trans X26⟩
  ·have hX0 : X = ([], []) := by rw [HX.out]; exact stepV_no (by rw [← HAV.out]; exact hP)
   have hx10 : X.1.length = 0 := by rw [hX0]; rfl
   have hx20 : X.2.length = 0 := by rw [hX0]; rfl
   have HALV : Hid (∀ W, Calls Try.prog 18 #[] W fun e w' => e = .returned (.bool true) ∧ Ext W w') := Lib.hid alive_c
   clear hX0
   cases A
   ·clear hP
    go_wp2_with fail
    refine (HALV.out _).mono ?_
    rintro e w10 ⟨rfl, hE10⟩
    go_wp2_with fail
    go_ret
    exact ⟨rfl, E9.trans hE10⟩
   ·by_cases hr : regs.length = 25
    ·have hnr : ((regs.length : Int) != 25) = false := by simp; omega
     have hi : ¬ ins.length ≤ 4 := fun h => hP ⟨rfl, hr, h⟩
     have hni : decide ((4 : Int) < (ins.length : Int)) = true := by simp; omega
     have hni2 : (4 : Int) < (ins.length : Int) := by omega
     clear hP hr hi
     go_wp2_with fail
     refine (HALV.out _).mono ?_
     rintro e w10 ⟨rfl, hE10⟩
     go_wp2_with fail
     go_ret
     exact ⟨rfl, E9.trans hE10⟩
    ·have hnr : ((regs.length : Int) != 25) = true := by simp; omega
     clear hP hr
     go_wp2_with fail
     refine (HALV.out _).mono ?_
     rintro e w10 ⟨rfl, hE10⟩
     go_wp2_with fail
     go_ret
     exact ⟨rfl, E9.trans hE10⟩
 ·go_enter Try.func9, Try.ntmps9
  go_wp2
  go_ret
  exact ⟨rfl, Ext.refl _⟩
theorem fnStepFabric_lifted (os : Os) (started : os.Started) (H : Type) (enc : TypeId × Value → H) :
  ReturnsInHanded {} Try.checked os 9 .any (Rows.fnStepFabricSpec.pre6 enc Try.prog Try.f9 Rows.fnStepFabricRow.domain false) (Rows.fnStepFabricSpec.post enc Try.prog Try.f9 false true false false) := by
 refine returnsInHanded_of_change (C := Try.checked) own started (by kernel_rfl) Try.func9
  (ChangeSpec.witness6 (enc := enc) (C := Try.checked) false ⟨#[], #[.slice none 0 0], []⟩ 8 (by kernel_rfl) (by kernel_rfl) (by kernel_rfl) (by kernel_rfl)) ?_
 intro W base args ds gs before hval0 hW hcnd _
 have hval : ∀ (j : Nat) t v, Try.f9.params[j]? = some t → args[j]? = some v → Value.okWide Try.prog W .any base t v := hval0
 have hW' := hW
 obtain ⟨p, q, hA0, hV, rfl, hfz, hnd⟩ := hW
 have hA : DataW.TrodAll enc Try.prog W 0 (fun _ => true) true Try.f9.params.toList args.toList ds p := hA0
 rw [Try.params9] at hA hval
 obtain ⟨v0, vs0, d0, ds0, p0, q0, hargs, rfl, rfl, h0, r0⟩ := trodAll_cons hA
 obtain ⟨rfl, rfl, rfl⟩ := trodAll_nil r0
 obtain rfl : args = #[v0] := by cases args; simp_all
 obtain ⟨rfl, rfl⟩ := trodVars_none hV
 obtain ⟨a0, len0, cap0, rfl⟩ := okWide_slice Try.underlying22 (hval 0 22 v0 rfl rfl)
 have k0 := h0
 have lt0 : ∀ x ∈ p0, x.block < W.heap.size := by obtain ⟨m, hm⟩ := k0; exact DataW.trod_lt m _ _ _ hm
 obtain ⟨z0, w0⟩ : ∃ zs, IsRow .u8 W a0 len0 cap0 zs := by
  obtain ⟨fuel, hf⟩ := h0
  rcases open_ints Try.underlying22 Try.underlying5 (by kernel_rfl) hf with ⟨hcs, _⟩ | ⟨x, l, c, zs, hcs, _, hl, hm, hz, _, hcell, hwz⟩
  ·simp [Value.cells] at hcs
   obtain ⟨rfl, rfl, rfl⟩ := hcs
   exact ⟨[], .inl ⟨rfl, rfl, rfl, rfl⟩⟩
  ·simp [Value.cells] at hcs
   obtain ⟨rfl, rfl, rfl⟩ := hcs
   exact ⟨zs, .inr ⟨_, rfl, hl, hm, by simpa using hz, hcell, hwz⟩⟩
 clear hA0 hval0
 refine (fnStepFabric_walk a0 len0 cap0 z0 W w0).mono fun e W' ⟨he, bel⟩ => ?_
 subst he
 exact ⟨_, rfl, _, _, _, [], _, [], hW', trodAll_mk1 (shut_bool Try.underlying4 _), (trodAll_cons_mk (Below.trod laidOut (by kernel_rfl) (of_decide_eq_true (by kernel_rfl)) k0 bel lt0) trodAll_mk0), rfl, bel.frame _, fun h => by cases h⟩
theorem fnStepFabric_over : Rows.fnStepFabricRow.holds Try.pinned (OpenSpec.ofChange Rows.fnStepFabricSpec) :=
 OpenClaim.holds_of_wide 9 Try.f9 rfl rfl rfl rfl rfl rfl rfl ⟨rfl, rfl, rfl, rfl, rfl⟩ rfl rfl rfl rfl rfl (by kernel_rfl) Try.func9 (by kernel_rfl)
  (of_decide_eq_true (by kernel_rfl)) (by unfold Func.isWrapper; first | (rw [if_pos (by decide +kernel)]; kernel_rfl) | (rw [if_neg (by decide +kernel)]; exact ⟨rfl, rfl⟩))
  (fun os started H enc _ => fnStepFabric_lifted os started H enc)
theorem fnStepFabric_holds : Rows.FnStepFabricSaid := fnStepFabric_over
end Go.Proofs.Ytgialedmbmfejaa
