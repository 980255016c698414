/- The law FnRunFabric: a run of the fabric is a sequence of steps; prefixes. No condition. -/
import Derived.Test.YtgialedmbmfejaaBytes
import Derived.Test.YtgialedmbmfejaaDrRF
import Derived.Test.YtgialedmbmfejaaBFa
import Derived.Test.YtgialedmbmfejaaBFc
import Derived.Test.YtgialedmbmfejaaStpF
import Derived.Test.YtgialedmbmfejaaRegion2
import Derived.Deep.DeepCutAuto
namespace Go.Proofs.Ytgialedmbmfejaa
open Go.ChangeShapes Go.WideShapes Go.ChangeAt Go.RowKit
set_option maxRecDepth 100000
set_option linter.unusedVariables false
set_option linter.unusedSimpArgs false
theorem runs_open {w w' : World} {xss : List (List Bool)} {e : Ending} (h : GiveRows w xss e w') : ∃ a c, e = .returned (.slice a xss.length c) ∧ RowsAt w' a xss ∧ xss.length ≤ c ∧ c ≤ maxLen ∧ Ext w w' := by
 obtain ⟨v, vals, h1, h2, h3⟩ := h
 obtain ⟨a, c, e, _, l1, l2, _⟩ := ownsRow_row h2.row
 subst e
 exact ⟨a, c, h1, h2.at_, l1, l2, h3⟩
theorem giveF_open {w w' : World} {xs ys : List Bool} {e : Ending} (h : GiveF w xs ys e w') : ∃ a1 c1 a2 c2, e = .returned (.agg #[.slice a1 xs.length c1, .slice a2 ys.length c2]) ∧ BoolsAt w' a1 xs ∧ BoolsAt w' a2 ys ∧ (∀ b v i, b < w.heap.size → BoolsAt (w'.setCell ⟨b, i, none⟩ v) a1 xs ∧ BoolsAt (w'.setCell ⟨b, i, none⟩ v) a2 ys) ∧ (∀ x, a1 = some x → w.heap.size ≤ x.block) ∧ (∀ x, a2 = some x → w.heap.size ≤ x.block) ∧ Ext w w' := by
 obtain ⟨ov, rv, rfl, h1, h2, _, h3⟩ := h
 obtain ⟨a1, c1, rfl, _, _, _, g1⟩ := ownsRow_row h1
 obtain ⟨a2, c2, rfl, _, _, _, g2⟩ := ownsRow_row h2
 obtain ⟨_, _, e1, k1⟩ := h1.opened
 cases e1
 obtain ⟨_, _, e2, k2⟩ := h2.opened
 cases e2
 exact ⟨a1, c1, a2, c2, rfl, k1, k2, fun b v i hb => ⟨k1.set (fun x hx e => by have := (g1 x hx).1; omega) i v, k2.set (fun x hx e => by have := (g2 x hx).1; omega) i v⟩, fun x hx => (g1 x hx).1, fun x hx => (g2 x hx).1, h3⟩
def CutF (w : World) (x : List Bool × List Bool) (v : Value) (wx : World) : Prop := ∃ D a1 c1 a2 c2, v = .pointer (some ⟨D, 0, none⟩) ∧ Blk wx D 71 [.slice a1 x.1.length c1, .slice a2 x.2.length c2] ∧ BoolsAt wx a1 x.1 ∧ BoolsAt wx a2 x.2 ∧ (∀ y, a2 = some y → w.heap.size ≤ y.block) ∧ Ext w wx
theorem cutF_behind {w0 w4 : World} {a1 a2 : Option Addr} {c1 c2 : Nat} {x : List Bool × List Bool} (h1 : BoolsAt w4 a1 x.1) (h2 : BoolsAt w4 a2 x.2) (g2 : ∀ y, a2 = some y → w0.heap.size ≤ y.block) (E : Ext w0 w4) :
  CutF w0 x (.pointer (some ⟨w4.heap.size, 0, none⟩)) (w4.alloc (.cells #[.slice a1 x.1.length c1, .slice a2 x.2.length c2] 71)) := by
 have eB : Ext w4 (w4.alloc (.cells #[.slice a1 x.1.length c1, .slice a2 x.2.length c2] 71)) := (Ext.refl w4).alloc _
 exact ⟨_, _, _, _, _, rfl, Blk.at w4 _ _ rfl, h1.ext eB, h2.ext eB, g2, E.trans eB⟩
theorem cutF_before {w0 wc w4 : World} {D : Nat} {a1 a2 : Option Addr} {c1 c2 : Nat} {x : List Bool × List Bool} (h1 : BoolsAt w4 a1 x.1) (h2 : BoolsAt w4 a2 x.2) (g1 : ∀ y, a1 = some y → wc.heap.size ≤ y.block) (g2 : ∀ y, a2 = some y → wc.heap.size ≤ y.block) (hD : D < wc.heap.size) (bk : Blk w4 D 71 [.slice none 0 0, .slice none 0 0]) (E : Ext w0 w4) (h0 : w0.heap.size ≤ D) :
  CutF w0 x (.pointer (some ⟨D, 0, none⟩)) ((w4.setCell ⟨D, 0, none⟩ (.slice a1 x.1.length c1)).setCell ⟨D, 1, none⟩ (.slice a2 x.2.length c2)) := by
 have n1 : ∀ y, a1 = some y → D ≠ y.block := fun y hy => by have := g1 y hy; omega
 have n2 : ∀ y, a2 = some y → D ≠ y.block := fun y hy => by have := g2 y hy; omega
 exact ⟨_, _, _, _, _, rfl, (bk.set 0 _).set 1 _, (h1.set n1 0 _).set n1 1 _, (h2.set n2 0 _).set n2 1 _, fun y hy => by have := g2 y hy; omega, Ext.setNew (p := ⟨D, 1, none⟩) (Ext.setNew (p := ⟨D, 0, none⟩) E h0 _) h0 _⟩
theorem stepV_yes {k : Conf} {regs ins : List Bool} (h1 : acyV k = true) (h2 : regs.length = 25) (h3 : ins.length ≤ 4) : stepV k regs ins = (outsV k regs ins 3, nextV k regs ins 25) := by unfold stepV; rw [if_pos ⟨h1, h2, h3⟩]
theorem take_sn {α : Type} (xs : List α) (k : Nat) (d : α) (h : k < xs.length) : xs.take (k + 1) = xs.take k ++ [xs.getD k d] := by
 rw [List.take_add_one, List.getElem?_eq_getElem h, List.getD_eq_getElem?_getD, List.getElem?_eq_getElem h]; rfl
set_option maxHeartbeats 20000000 in
theorem fnRunFabric_walk (a0 : Option Addr) (len0 cap0 : Nat) (z0 : List Int) (w : World) (w0 : IsRow .u8 w a0 len0 cap0 z0) :
  Calls Try.prog 10 #[.slice a0 len0 cap0] w fun e w' => e = .returned (.bool true) ∧ Below w.heap.size w w' := by
 obtain ⟨bs, rfl, hB, hlc, hcm⟩ := bytes_of_row w0
 by_cases hl : bs.length ≤ 1048576
 ·go_enter Try.func10, Try.ntmps10
  go_wp2_with fail
  refine (DrawRunFabric_c a0 cap0 bs _ hB hl hlc hcm).mono ?_
  rintro e w1 ⟨ta, tc, pa, pc, K, ra, rc, xss, rfl, hK, hX, hxl, hx8, hrc, hrcm, hE⟩
  have bk := Blk.at w1 [.slice ta K.ts.length tc, .slice pa K.ps.length pc] 52 rfl
  have E12 := (Ext.refl w1).alloc (.cells #[.slice ta K.ts.length tc, .slice pa K.ps.length pc] 52)
  have hK2 := hK.ext E12
  have hX2 := hX.ext E12
  go_upto_region 4 with fail
  obtain ⟨w2, hw2⟩ : ∃ x : World, x = w1.alloc (.cells #[.slice ta K.ts.length tc, .slice pa K.ps.length pc] 52) := ⟨_, rfl⟩
  rw [← hw2] at bk E12 hK2 hX2
  rw [← hw2]
  clear hw2
  have E2 := hE.trans E12
  have hl3 : xss.length ≤ 1048576 := by omega
  have HXR : Hid (∀ j, j < xss.length → (xss.getD j []).length ≤ 1048576) := Lib.hid (fun j hj => by have := hx8 _ (mem_getD hj); omega)
  have H1 := Lib.hid (fun W (h1 : ConfAt W K ta pa) (h2 : RowsAt W ra xss) => (implRunFabric_c K ta pa tc pc ra rc xss W h1 h2 hl3 HXR.out).mono (fun e w' h => runs_open h))
  have H2 := Lib.hid (fun W (h1 : ConfAt W K ta pa) (h2 : RowsAt W ra xss) => (specRunFabric_c K ta pa tc pc ra rc xss W h1 h2 hl3 HXR.out).mono (fun e w' h => runs_open h))
  have hSm := runFV_sm K xss
  obtain ⟨S, hS⟩ : ∃ S, S = runFV K xss := ⟨_, rfl⟩
  rw [← hS] at H1 H2 hSm
  have hSl : S.length ≤ 41 := by omega
  have hSl2 : S.length ≤ 1048576 := by omega
  have HSR : Hid (∀ j, j < S.length → (S.getD j []).length ≤ 1048576) := Lib.hid (fun j hj => by have := hSm.2 _ (mem_getD hj); omega)
  have HS := Lib.hid hS
  have HX8 := Lib.hid hx8
  have z0 := bk.cell (i := 0) rfl
  have z1 := bk.cell (i := 1) rfl
  have zl := bk.lt
  clear hSm hS hx8 hK hX hE E12
  go_wp2_with fail
  refine (H1.out _ hK2 hX2).mono ?_
  rintro e w3 ⟨oa, oc, rfl, hO, hoc, hocm, hE3⟩
  have hK3 := hK2.ext hE3
  have hX3 := hX2.ext hE3
  have b3 := bk.ext hE3
  have E3 := E2.trans hE3
  clear hK2 hX2 bk hE3 E2 z0 z1 zl H1
  have z0 := b3.cell (i := 0) rfl
  have z1 := b3.cell (i := 1) rfl
  have zl := b3.lt
  have hm := make25
  have hfd : ∀ (w : World) (B : Nat), (Instr.field 67 (.agg #[.slice (some ⟨B, 0, none⟩) 25 25]) 0).run Try.prog w = .ok (.slice (some ⟨B, 0, none⟩) 25 25) w := fun _ _ => by kernel_rfl
  have hl25 : (List.replicate 25 false).length ≤ 1048576 := by decide
  go_upto_region 5 with fail
  go_cut [32] (fun v wx => v = .bool false ∧ Ext w3 wx)
  case first =>
   (refine wp_regionT ((fun w' => (∀ b o, b < w3.heap.size → w'.cell? ⟨b, o, none⟩ = w3.cell? ⟨b, o, none⟩) ∧ Ext w3 w')) 12 (by kernel_rfl) ?_; have hS0 := held_mk (Ext.drew w3))
   ((refine tkT 0 (v := ?_) rfl (by kernel_rfl) (by kernel_rfl) ?_ (by assumption) ?_; rotate_left; (intro wS hSw; (try dsimp only at hSw); go_simp; (try with_reducible rfl)); (try simp only [Act.put, lA, lB, lC])); (refine tkT 1 (v := ?_) rfl (by kernel_rfl) (by kernel_rfl) ?_ (by assumption) ?_; rotate_left; (intro wS hSw; (try dsimp only at hSw); go_simp; (try with_reducible rfl)); (try simp only [Act.put, lA, lB, lC])); (refine tkT 2 (v := ?_) rfl (by kernel_rfl) (by kernel_rfl) ?_ (by assumption) ?_; rotate_left; (intro wS hSw; (try dsimp only at hSw); go_simp; (try with_reducible rfl)); (try simp only [Act.put, lA, lB, lC])))
   (refine wpAnyT_do 3 (by kernel_rfl) rfl (fun K hK => ?_))
   go_simp
   refine (H2.out _ (hK3.ext (Ext.drew w3)) (hX3.ext (Ext.drew w3))).mono ?_
   rintro e w4 ⟨sa, sc, rfl, hSA, _, _, hE4⟩
   have X4 := (Ext.drew w3).trans hE4
   have hS1 := held_mk X4
   (refine hK _ _ hS1 ?_; clear hK K; (try simp only [Act.put, lA, lB, lC]))
   (refine wpAnyT_do 4 (by kernel_rfl) rfl (fun K hK => ?_))
   go_simp
   refine (sameRows_c oa sa oc sc _ S rfl _ (hO.ext X4) hSA hSl2 HSR.out).mono ?_
   rintro e w5 ⟨rfl, hE5⟩
   have X5 := X4.trans hE5
   have hS2 := held_mk X5
   clear hSA hE4 hE5 X4
   (refine hK _ _ hS2 ?_; clear hK K; (try simp only [Act.put, lA, lB, lC]))
   ((refine tkT 5 (v := ?_) rfl (by kernel_rfl) (by kernel_rfl) ?_ (by assumption) ?_; rotate_left; (intro wS hSw; (try dsimp only at hSw); go_simp; (try with_reducible rfl)); (try simp only [Act.put, lA, lB, lC])); (refine tkT 6 (v := ?_) rfl (by kernel_rfl) (by kernel_rfl) ?_ (by assumption) ?_; rotate_left; (intro wS hSw; (try dsimp only at hSw); go_simp; (try with_reducible rfl)); (try simp only [Act.put, lA, lB, lC])))
   (refine wpAnyT_do2 7 9 (by kernel_rfl) rfl rfl (fun K hK => ?_) (fun K hK => ?_))
   ·go_simp
    refine (implReset_c _).mono ?_
    rintro e w6 ⟨B, rfl, hB0, hBk, hE6⟩
    have X6 := X5.trans hE6
    have hS3 := held_mk X6
    (refine hK _ _ hS3 ?_; clear hK K; (try simp only [Act.put, lA, lB, lC]))
    ((refine tkT 8 (v := ?_) rfl (by kernel_rfl) (by kernel_rfl) ?_ (by assumption) ?_; rotate_left; (intro wS hSw; (try dsimp only at hSw); go_simp; (try with_reducible rfl)); (try simp only [Act.put, lA, lB, lC])))
    (refine wpAnyT_do 9 (by kernel_rfl) rfl (fun K hK => ?_))
    go_simp
    have e7 : Ext w6 (w6.alloc (.cells zer25.toArray 4)) := (Ext.refl w6).alloc _
    have bn : Blk (w6.alloc (.cells zer25.toArray 4)) w6.heap.size 4 ((List.replicate 25 false).map Value.bool) := by rw [← zer25_eq]; exact Blk.at w6 _ _ rfl
    have X7 := X6.trans e7
    have hS4 := held_mk X7
    (refine hK _ _ hS4 ?_; clear hK K; (try simp only [Act.put, lA, lB, lC]))
    (refine wpAnyT_do 10 (by kernel_rfl) rfl (fun K hK => ?_))
    go_simp
    refine (sameBools_c _ _ _ _ _ _ (List.replicate 25 false) (List.replicate 25 false) rfl rfl _ (hBk.bools.ext e7) bn.bools hl25 hl25).mono ?_
    rw [beq_self_eq_true]
    rintro e w8 ⟨rfl, hE8⟩
    have X8 := X7.trans hE8
    have hS5 := held_mk X8
    (refine hK _ _ hS5 ?_; clear hK K; (try simp only [Act.put, lA, lB, lC]))
    ((refine tkT 11 (v := ?_) rfl (by kernel_rfl) (by kernel_rfl) ?_ (by assumption) ?_; rotate_left; (intro wS hSw; (try dsimp only at hSw); go_simp; (try with_reducible rfl)); (try simp only [Act.put, lA, lB, lC])))
    (refine wpAnyT_last 12 (by kernel_rfl) rfl (by decide) (by kernel_rfl) (fun K hK => ?_))
    go_simp
    (refine hK _ _ ?_; clear hK K; (try simp only [Act.put, lA, lB, lC]))
    go_wp2_with fail
    go_meet
    exact ⟨rfl, X8⟩
   ·go_simp
    have e7 : Ext w5 (w5.alloc (.cells zer25.toArray 4)) := (Ext.refl w5).alloc _
    have bn : Blk (w5.alloc (.cells zer25.toArray 4)) w5.heap.size 4 ((List.replicate 25 false).map Value.bool) := by rw [← zer25_eq]; exact Blk.at w5 _ _ rfl
    have X6 := X5.trans e7
    have hS3 := held_mk X6
    (refine hK _ _ hS3 ?_; clear hK K; (try simp only [Act.put, lA, lB, lC]))
    (refine wpAnyT_do 7 (by kernel_rfl) rfl (fun K hK => ?_))
    go_simp
    refine (implReset_c _).mono ?_
    rintro e w7 ⟨B, rfl, hB0, hBk, hE7⟩
    have X7 := X6.trans hE7
    have hS4 := held_mk X7
    (refine hK _ _ hS4 ?_; clear hK K; (try simp only [Act.put, lA, lB, lC]))
    ((refine tkT 8 (v := ?_) rfl (by kernel_rfl) (by kernel_rfl) ?_ (by assumption) ?_; rotate_left; (intro wS hSw; (try dsimp only at hSw); go_simp; (try with_reducible rfl)); (try simp only [Act.put, lA, lB, lC])))
    (refine wpAnyT_do 10 (by kernel_rfl) rfl (fun K hK => ?_))
    go_simp
    refine (sameBools_c _ _ _ _ _ _ (List.replicate 25 false) (List.replicate 25 false) rfl rfl _ hBk.bools (bn.bools.ext hE7) hl25 hl25).mono ?_
    rw [beq_self_eq_true]
    rintro e w8 ⟨rfl, hE8⟩
    have X8 := X7.trans hE8
    have hS5 := held_mk X8
    (refine hK _ _ hS5 ?_; clear hK K; (try simp only [Act.put, lA, lB, lC]))
    ((refine tkT 11 (v := ?_) rfl (by kernel_rfl) (by kernel_rfl) ?_ (by assumption) ?_; rotate_left; (intro wS hSw; (try dsimp only at hSw); go_simp; (try with_reducible rfl)); (try simp only [Act.put, lA, lB, lC])))
    (refine wpAnyT_last 12 (by kernel_rfl) rfl (by decide) (by kernel_rfl) (fun K hK => ?_))
    go_simp
    (refine hK _ _ ?_; clear hK K; (try simp only [Act.put, lA, lB, lC]))
    go_wp2_with fail
    go_meet
    exact ⟨rfl, X8⟩
  obtain ⟨rfl, hX5⟩ := hcut
  obtain ⟨w9, rfl⟩ : ∃ x : World, x = wc := ⟨_, rfl⟩
  have hK9 := hK3.ext hX5
  have hX9 := hX3.ext hX5
  have hO9 := hO.ext hX5
  have b9 := b3.ext hX5
  have E9 := E3.trans hX5
  clear hK3 hX3 hO b3 E3 hX5 z0 z1 zl hm H2 hfd
  by_cases hq : S.length = xss.length
  ·have hSx1 : S.length ≤ xss.length := by omega
   have hSx2 : xss.length ≤ S.length := by omega
   have hne : ((S.length : Int) != (xss.length : Int)) = false := by simp; omega
   have HFIT : Hid (∀ k, k < xss.length → FitF K xss) := Lib.hid (fun k hk => by
    by_cases hf : FitF K xss
    ·exact hf
    ·have := HS.out; rw [runFV_neg hf] at this; rw [this] at hq; simp at hq; omega)
   have HTK : Hid (∀ n, runFV K (xss.take n) = S.take n) := Lib.hid (fun n => by
    by_cases hf : FitF K xss
    ·rw [runFV_take hf, HS.out]
    ·have h1 := HS.out; rw [runFV_neg hf] at h1
     have h2 : xss = [] := by rw [h1] at hq; simp at hq; exact List.eq_nil_of_length_eq_zero hq.symm
     subst h2
     rw [h1]; simp [runFV_neg hf])
   have HRUN : Hid (∀ k, k < xss.length → S = runF K reset25 xss) := Lib.hid (fun k hk => by rw [HS.out, runFV_pos (HFIT.out k hk)])
   clear hq HS
   go_wp2_with fail
   refine (implReset_c _).mono ?_
   rintro e w10 ⟨B, rfl, hB0, hBk, hE10⟩
   have hB10 : BoolsAt w10 (some ⟨B, 0, none⟩) reset25 := hBk.bools
   have b6 := Blk.at w10 [.slice (some ⟨B, 0, none⟩) 25 25] 67 rfl
   have eB : Ext w10 (w10.alloc (.cells #[.slice (some ⟨B, 0, none⟩) 25 25] 67)) := (Ext.refl _).alloc _
   have hB11 := hB10.ext eB
   have hK10 := hK9.ext hE10
   have hX10 := hX9.ext hE10
   have hO10 := hO9.ext hE10
   have b10 := b9.ext hE10
   have E10 := E9.trans hE10
   have hlb10 := b10.lt
   clear hK9 hX9 hO9 b9 E9 hB0 hBk hE10 hB10
   go_wp2_with fail
   go_loopw [7] (fun u7 wr => ∃ (k : Nat) (sa : Option Addr) (sc : Nat), k ≤ xss.length ∧ u7 = .int .i64 k ∧ Blk wr w10.heap.size 67 [.slice sa 25 sc] ∧ BoolsAt wr sa (stF K reset25 (xss.take k)) ∧ Ext w10 wr) (fun i _ => xss.length - (intOf i).toNat)
   case atStart => exact ⟨0, _, _, Nat.zero_le _, rfl, b6, by simpa [stF] using hB11, eB⟩
   case round =>
    clear b6 hB11 eB
    obtain ⟨k, sa, sc, hk, rfl, hb6, hST, hE⟩ := hrel
    obtain ⟨w11, rfl⟩ : ∃ x : World, x = wr := ⟨_, rfl⟩
    have bb := b10.ext hE
    by_cases hlt : k < xss.length
    ·skip
     obtain ⟨gb, go, hra, hgb, hg⟩ := (hX10.ext hE).get (by omega)
     obtain ⟨aj, cj, q, hA⟩ := hg k hlt
     obtain ⟨hb, ho, hoa, hhb, hh⟩ := (hO10.ext hE).get (by omega)
     obtain ⟨ah, ch, q2, hA2⟩ := hh k (by omega)
     have FIT := HFIT.out k hlt
     have hget := runF_get K xss reset25 k hlt
     rw [← HRUN.out k hlt] at hget
     have hnx := stF_snoc K (xss.getD k []) (xss.take k) reset25
     rw [← take_sn xss k [] hlt] at hnx
     have hst25 := stF_len K (xss.take k)
     have hr4 := FIT.r k hlt
     obtain ⟨st, hst2⟩ : ∃ st, st = stF K reset25 (xss.take k) := ⟨_, rfl⟩
     obtain ⟨row, hrow⟩ : ∃ r, r = xss.getD k [] := ⟨_, rfl⟩
     rw [← hst2] at hST hnx hget hst25
     rw [← hrow] at q hA hnx hget hr4
     have hsv := stepV_yes FIT.a hst25 hr4
     obtain ⟨X, hX⟩ : ∃ X, X = stepV K st row := ⟨_, rfl⟩
     have hx1 : X.1 = outsV K st row 3 := by rw [hX, hsv]
     have hx2 : X.2 = nextV K st row 25 := by rw [hX, hsv]
     rw [← hx1] at hget
     rw [← hx2] at hnx
     rw [hget] at q2 hA2
     have HNX := Lib.hid hnx
     have HX2L : Hid (X.2.length = 25) := Lib.hid (by rw [hx2, nextV_len])
     have hX1L : X.1.length ≤ 1048576 := by rw [hx1, outsV_len]; decide
     have hKc := hK10.ext hE
     have hcall := fun (W : World) (e : Ext w11 W) => (implStepFabric_c K ta pa sa aj tc pc sc cj st row W ⟨hKc.ext e, hST.ext e, hA.ext e⟩ (by omega) (by omega)).mono (fun e w' h => giveF_open h)
     rw [← hX, hst25] at hcall
     have HCALL := Lib.hid hcall
     have hszb : w10.heap.size < w11.heap.size := hb6.lt
     subst hra hoa
     have z0 := bb.cell (i := 0) rfl
     have z1 := bb.cell (i := 1) rfl
     have zl := bb.lt
     have y0 := hb6.cell (i := 0) rfl
     have yl := hb6.lt
     clear hg hh hst2 hrow hX hnx hget hcall hsv hx1 hx2 FIT hst25 hr4 hKc hST hA
     go_wp2_with fail
     go_upto_region 13 with fail
     go_cut [8] (CutF w11 X)
     case first =>
      (refine wp_regionT ((fun w' => (∀ b o, b < w11.heap.size → w'.cell? ⟨b, o, none⟩ = w11.cell? ⟨b, o, none⟩) ∧ Ext w11 w')) 8 (by kernel_rfl) ?_; have hS0 := held_mk (Ext.drew w11))
      ((refine tkT 0 (v := ?_) rfl (by kernel_rfl) (by kernel_rfl) ?_ (by assumption) ?_; rotate_left; (intro wS hSw; (try dsimp only at hSw); go_simp; (try with_reducible rfl)); (try simp only [Act.put, lA, lB, lC])); (refine tkT 1 (v := ?_) rfl (by kernel_rfl) (by kernel_rfl) ?_ (by assumption) ?_; rotate_left; (intro wS hSw; (try dsimp only at hSw); go_simp; (try with_reducible rfl)); (try simp only [Act.put, lA, lB, lC])); (refine tkT 2 (v := ?_) rfl (by kernel_rfl) (by kernel_rfl) ?_ (by assumption) ?_; rotate_left; (intro wS hSw; (try dsimp only at hSw); go_simp; (try with_reducible rfl)); (try simp only [Act.put, lA, lB, lC])); (refine tkT 3 (v := ?_) rfl (by kernel_rfl) (by kernel_rfl) ?_ (by assumption) ?_; rotate_left; (intro wS hSw; (try dsimp only at hSw); go_simp; (try with_reducible rfl)); (try simp only [Act.put, lA, lB, lC])); (refine tkT 4 (v := ?_) rfl (by kernel_rfl) (by kernel_rfl) ?_ (by assumption) ?_; rotate_left; (intro wS hSw; (try dsimp only at hSw); go_simp; (try with_reducible rfl)); (try simp only [Act.put, lA, lB, lC])); (refine tkT 5 (v := ?_) rfl (by kernel_rfl) (by kernel_rfl) ?_ (by assumption) ?_; rotate_left; (intro wS hSw; (try dsimp only at hSw); go_simp; (try with_reducible rfl)); (try simp only [Act.put, lA, lB, lC])))
      (refine wpAnyT_do2 6 7 (by kernel_rfl) rfl rfl (fun K hK => ?_) (fun K hK => ?_))
      ·go_simp
       refine (HCALL.out _ (Ext.drew w11)).mono ?_
       rintro e w7 ⟨a1, c1, a2, c2, rfl, k1, k2, _, g1, g2, hE7⟩
       have hX7 := (Ext.drew w11).trans hE7
       have hS7 := held_mk hX7
       have HK1 := Lib.hid k1
       have HK2 := Lib.hid k2
       have HG2 := Lib.hid g2
       clear g1 g2 k1 k2
       (refine hK _ _ hS7 ?_; clear hK K; (try simp only [Act.put, lA, lB, lC]))
       (refine wpAnyT_do 7 (by kernel_rfl) rfl (fun K hK => ?_))
       go_simp
       have hX8 := hX7.alloc (.cells #[.slice none 0 0, .slice none 0 0] 71)
       have bk8 := Blk.at w7 [.slice none 0 0, .slice none 0 0] 71 rfl
       have z0 := bk8.cell (i := 0) rfl
       have z1 := bk8.cell (i := 1) rfl
       have zf := fun i => bk8.frozen i
       have hS8 := held_mk hX8
       (refine hK _ _ hS8 ?_; clear hK K; (try simp only [Act.put, lA, lB, lC]))
       (refine wpAnyT_last 8 (by kernel_rfl) rfl (by decide) (by kernel_rfl) (fun K hK => ?_))
       go_simp
       (refine hK _ _ ?_; clear hK K; (try simp only [Act.put, lA, lB, lC]))
       go_wp2_with fail
       go_meet
       exact cutF_behind HK1.out HK2.out HG2.out hX7
      ·go_simp
       have eZ : Ext w11 (w11.alloc (.cells #[.slice none 0 0, .slice none 0 0] 71)).drew := ((Ext.refl w11).alloc _).drew'
       have bk0 := (Blk.at w11 [.slice none 0 0, .slice none 0 0] 71 rfl).ext (Ext.drew _)
       have hlt0 := bk0.lt
       have hS7 := held_mk eZ
       (refine hK _ _ hS7 ?_; clear hK K; (try simp only [Act.put, lA, lB, lC]))
       (refine wpAnyT_do 6 (by kernel_rfl) rfl (fun K hK => ?_))
       go_simp
       refine (HCALL.out _ eZ).mono ?_
       rintro e w7 ⟨a1, c1, a2, c2, rfl, k1, k2, _, g1, g2, hE7⟩
       have hX7 := eZ.trans hE7
       have bk := bk0.ext hE7
       have z0 := bk.cell (i := 0) rfl
       have z1 := bk.cell (i := 1) rfl
       have zf := fun i => bk.frozen i
       have hS8 := held_mk hX7
       have HK1 := Lib.hid k1
       have HK2 := Lib.hid k2
       have HG1 := Lib.hid g1
       have HG2 := Lib.hid g2
       clear g1 g2 k1 k2
       (refine hK _ _ hS8 ?_; clear hK K; (try simp only [Act.put, lA, lB, lC]))
       (refine wpAnyT_last 8 (by kernel_rfl) rfl (by decide) (by kernel_rfl) (fun K hK => ?_))
       go_simp
       (refine hK _ _ ?_; clear hK K; (try simp only [Act.put, lA, lB, lC]))
       go_wp2_with fail
       go_meet
       exact cutF_before HK1.out HK2.out HG1.out HG2.out hlt0 bk hX7 (Nat.le_refl _)
     obtain ⟨D1, a1, c1, a2, c2, rfl, bk1, hA1, hA3, hg2, hE9⟩ := hcut
     have hE11 := hE.trans hE9
     have hA2 := hA2.ext hE9
     have q2 := ((ecell hE9).1 hb _ hhb).trans q2
     have hhb := Nat.lt_of_lt_of_le hhb hE9.size
     have hb66 := hb6.ext hE9
     obtain ⟨w12, rfl⟩ : ∃ x : World, x = wc := ⟨_, rfl⟩
     have HG2 := Lib.hid hg2
     clear z0 z1 zl y0 yl hE9 q HCALL bb hb6 hE hg2
     have p0 := bk1.cell (i := 0) rfl
     have p1 := bk1.cell (i := 1) rfl
     have plt := bk1.lt
     have hkS : k < S.length := by omega
     have hkS2 : (k : Int) < (S.length : Int) := by omega
     go_wp2_with fail
     go_region_held3 ((fun w' => (∀ b o, b < w12.heap.size → w'.cell? ⟨b, o, none⟩ = w12.cell? ⟨b, o, none⟩) ∧ Ext w12 w')) ((first | assumption | (with_reducible exact held_mk (Ext.drew w12)) | (with_reducible exact held_mk (((Ext.refl w12).alloc _).drew')) | (with_reducible exact held_mk ((Ext.drew w12).alloc _)))) (first | (go_simp; go_at_call 48; refine (sameBools_c _ _ _ _ _ _ X.1 X.1 rfl rfl _ (hA1.ext (Ext.drew w12)) (hA2.ext (Ext.drew w12)) hX1L hX1L).mono ?_; rw [beq_self_eq_true]; rintro e w13 ⟨rfl, hE13⟩; have hK1 := held_mk ((Ext.drew w12).trans hE13)))
     have hE13 := held_ext hK1
     have bk2 := bk1.ext hE13
     have b67 := hb66.ext hE13
     clear p0 p1 hK1 plt hkS2
     have p1 := bk2.cell (i := 1) rfl
     have p1l := bk2.lt
     have y0 := b67.cell (i := 0) rfl
     have yf := fun i => b67.frozen i
     have yl := b67.lt
     have HA3 := Lib.hid ((hA3.ext hE13).set (b := w10.heap.size) (fun x hx => by have := HG2.out x hx; omega) 0 (.slice a2 X.2.length c2))
     have HB6 := Lib.hid (b67.set 0 (.slice a2 X.2.length c2))
     have HE14 := Lib.hid (Ext.setNew (hE11.trans hE13) (p := ⟨w10.heap.size, 0, none⟩) (Nat.le_refl _) (.slice a2 X.2.length c2))
     clear bk1 hA1 hA2 hA3 hE11 hE13 hb66 b67 bk2
     go_wp2_with fail
     go_roundw
     case rel =>
      refine ⟨k + 1, a2, c2, by omega, by go_num, ?_, ?_, HE14.out⟩
      ·rw [← HX2L.out]; exact HB6.out
      ·rw [HNX.out]; exact HA3.out
     case measure => simp [intOf]; omega
    ·have hk2 : k = xss.length := by omega
     subst hk2
     obtain ⟨h, hh⟩ : ∃ h, h = xss.length / 2 := ⟨_, rfl⟩
     have hdv : (xss.length : Int) / 2 = (h : Int) := by omega
     have hle : h ≤ xss.length := by omega
     have hlS : h ≤ S.length := by omega
     have hlo : h ≤ oc := by omega
     have hlr : h ≤ rc := by omega
     have hi1 : (0 : Int) ≤ (h : Int) := by omega
     have hwr : IntKind.i64.wrap (h : Int) = (h : Int) := by rw [IntKind.wrap_i64]; omega
     have hi2 : (h : Int) ≤ (rc : Int) := by omega
     have hi3 : (h : Int) ≤ (oc : Int) := by omega
     have hlen1 : (xss.take h).length = h := by simp; omega
     have hlen2 : (S.take h).length = h := by simp; omega
     have hrs : ∀ j, j < (xss.take h).length → ((xss.take h).getD j []).length ≤ 1048576 := fun j hj => by
      have hj2 : j < h := by omega
      have e : (xss.take h).getD j [] = xss.getD j [] := by rw [List.getD_eq_getElem?_getD, List.getD_eq_getElem?_getD, List.getElem?_take_of_lt hj2]
      rw [e]; exact HXR.out j (by omega)
     have hrl : ∀ j, j < (S.take h).length → ((S.take h).getD j []).length ≤ 1048576 := fun j hj => by
      have hj2 : j < h := by omega
      have e : (S.take h).getD j [] = S.getD j [] := by rw [List.getD_eq_getElem?_getD, List.getD_eq_getElem?_getD, List.getElem?_take_of_lt hj2]
      rw [e]; exact HSR.out j (by omega)
     have HCT := fun (a : Option Addr) (cap : Nat) (w : World) (h1 : ConfAt w K ta pa) (h2 : RowsAt w a (xss.take h)) => (implRunFabric_c K ta pa tc pc a cap (xss.take h) w h1 h2 (by omega) hrs).mono (fun e w' h => runs_open h)
     rw [HTK.out h] at HCT
     rw [hlen1, hlen2] at HCT
     have HC1 := Lib.hid HCT
     have HRL := Lib.hid hrl
     have HL2 := Lib.hid hlen2
     have hR5 := rows_take (hX10.ext hE) h
     have hO5 := rows_take (hO10.ext hE) h
     have hK5 := hK10.ext hE
     have z0 := bb.cell (i := 0) rfl
     have z1 := bb.cell (i := 1) rfl
     have zl := bb.lt
     have EF := E10.trans hE
     clear hh HCT hrl hlen1 hlen2 hrs hST hb6
     rcases ra with _ | ⟨rb, ro, rk⟩ <;> rcases oa with _ | ⟨ob, oo, ok⟩
     all_goals
      go_wp2_with fail
      go_region_held3 ((fun w' => (∀ b o, b < w11.heap.size → w'.cell? ⟨b, o, none⟩ = w11.cell? ⟨b, o, none⟩) ∧ Ext w11 w')) ((first | assumption | (with_reducible exact held_mk (Ext.drew w11)) | (with_reducible exact held_mk (((Ext.refl w11).alloc _).drew')) | (with_reducible exact held_mk ((Ext.drew w11).alloc _)))) (first
       | (go_simp; go_at_call 30; have hguard := hK1; refine (sameRows_c _ _ _ _ _ (S.take h) HL2.out _ hR12 (hO5.ext (held_ext hK1)) (by omega) HRL.out).mono ?_; rintro e w13 ⟨rfl, hE13⟩; have hK2 := held_mk ((held_ext hK1).trans hE13))
       | (go_simp; go_at_call 33; refine (HC1.out _ _ _ (hK5.ext (Ext.drew w11)) (hR5.ext (Ext.drew w11))).mono ?_; rintro e w12 ⟨r12, c12, rfl, hR12, _, _, hE12⟩; have hK1 := held_mk ((Ext.drew w11).trans hE12)))
      go_wp2
      go_ret
      exact ⟨rfl, EF.trans (held_ext hK2)⟩
  ·have hS0 : S.length = 0 := by
    by_cases hf : FitF K xss
    ·exact absurd (by rw [HS.out, runFV_pos hf, runF_length]) hq
    ·rw [HS.out, runFV_neg hf]; rfl
   have h0b : ((S.length : Int) == 0) = true := by rw [hS0]; rfl
   have hne : ((S.length : Int) != (xss.length : Int)) = true := by simp; omega
   clear hS0 hq
   go_wp2_with fail
   go_ret
   exact ⟨rfl, E9⟩
 ·go_enter Try.func10, Try.ntmps10
  go_wp2
  go_ret
  exact ⟨rfl, Ext.refl _⟩
theorem fnRunFabric_lifted (os : Os) (started : os.Started) (H : Type) (enc : TypeId × Value → H) :
  ReturnsInHanded {} Try.checked os 10 .any (Rows.fnRunFabricSpec.pre6 enc Try.prog Try.f10 Rows.fnRunFabricRow.domain false) (Rows.fnRunFabricSpec.post enc Try.prog Try.f10 false true false false) := by
 refine returnsInHanded_of_change (C := Try.checked) own started (by kernel_rfl) Try.func10
  (ChangeSpec.witness6 (enc := enc) (C := Try.checked) false ⟨#[], #[.slice none 0 0], []⟩ 8 (by kernel_rfl) (by kernel_rfl) (by kernel_rfl) (by kernel_rfl)) ?_
 intro W base args ds gs before hval0 hW hcnd _
 have hval : ∀ (j : Nat) t v, Try.f10.params[j]? = some t → args[j]? = some v → Value.okWide Try.prog W .any base t v := hval0
 have hW' := hW
 obtain ⟨p, q, hA0, hV, rfl, hfz, hnd⟩ := hW
 have hA : DataW.TrodAll enc Try.prog W 0 (fun _ => true) true Try.f10.params.toList args.toList ds p := hA0
 rw [Try.params10] at hA hval
 obtain ⟨v0, vs0, d0, ds0, p0, q0, hargs, rfl, rfl, h0, r0⟩ := trodAll_cons hA
 obtain ⟨rfl, rfl, rfl⟩ := trodAll_nil r0
 obtain rfl : args = #[v0] := by cases args; simp_all
 obtain ⟨rfl, rfl⟩ := trodVars_none hV
 obtain ⟨a0, len0, cap0, rfl⟩ := okWide_slice Try.underlying22 (hval 0 22 v0 rfl rfl)
 have k0 := h0
 have lt0 : ∀ x ∈ p0, x.block < W.heap.size := by obtain ⟨m, hm⟩ := k0; exact DataW.trod_lt m _ _ _ hm
 obtain ⟨z0, w0⟩ : ∃ zs, IsRow .u8 W a0 len0 cap0 zs := by
  obtain ⟨fuel, hf⟩ := h0
  rcases open_ints Try.underlying22 Try.underlying5 (by kernel_rfl) hf with ⟨hcs, _⟩ | ⟨x, l, c, zs, hcs, _, hl, hm, hz, _, hcell, hwz⟩
  ·simp [Value.cells] at hcs
   obtain ⟨rfl, rfl, rfl⟩ := hcs
   exact ⟨[], .inl ⟨rfl, rfl, rfl, rfl⟩⟩
  ·simp [Value.cells] at hcs
   obtain ⟨rfl, rfl, rfl⟩ := hcs
   exact ⟨zs, .inr ⟨_, rfl, hl, hm, by simpa using hz, hcell, hwz⟩⟩
 clear hA0 hval0
 refine (fnRunFabric_walk a0 len0 cap0 z0 W w0).mono fun e W' ⟨he, bel⟩ => ?_
 subst he
 exact ⟨_, rfl, _, _, _, [], _, [], hW', trodAll_mk1 (shut_bool Try.underlying4 _), (trodAll_cons_mk (Below.trod laidOut (by kernel_rfl) (of_decide_eq_true (by kernel_rfl)) k0 bel lt0) trodAll_mk0), rfl, bel.frame _, fun h => by cases h⟩
theorem fnRunFabric_over : Rows.fnRunFabricRow.holds Try.pinned (OpenSpec.ofChange Rows.fnRunFabricSpec) :=
 OpenClaim.holds_of_wide 10 Try.f10 rfl rfl rfl rfl rfl rfl rfl ⟨rfl, rfl, rfl, rfl, rfl⟩ rfl rfl rfl rfl rfl (by kernel_rfl) Try.func10 (by kernel_rfl)
  (of_decide_eq_true (by kernel_rfl)) (by unfold Func.isWrapper; first | (rw [if_pos (by decide +kernel)]; kernel_rfl) | (rw [if_neg (by decide +kernel)]; exact ⟨rfl, rfl⟩))
  (fun os started H enc _ => fnRunFabric_lifted os started H enc)
theorem fnRunFabric_holds : Rows.FnRunFabricSaid := fnRunFabric_over
end Go.Proofs.Ytgialedmbmfejaa
