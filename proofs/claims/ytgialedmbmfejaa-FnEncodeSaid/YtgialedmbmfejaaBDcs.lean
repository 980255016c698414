/- Bundle: DecodeConfig of both libraries. -/
import Derived.Test.YtgialedmbmfejaaBDec
import Derived.Test.YtgialedmbmfejaaBEnc
import Derived.Deep.DeepCutAuto
namespace Go.Proofs.Ytgialedmbmfejaa
open Go.RowKit
set_option maxRecDepth 100000
set_option linter.unusedVariables false
set_option linter.unusedSimpArgs false
theorem ownInts_of {w : World} {base n : Nat} {v : Value} {xs : List Int} (hn : xs.length = n) (h : w.ownsRow base 3 1 v n (xs.map (Value.int .i64))) : OwnInts w base 3 v xs := by
 subst hn; exact h
/-- A store into a block behind the reader's. -/
theorem RdP.set {w : World} {rb : Nat} {bs : List Int} {p b o : Nat} (h : RdP w rb bs p) (hq : rb < b) (u : Value) : RdP (w.setCell ⟨b, o, none⟩ u) rb bs p :=
 h.gr (gr_setOwn (Gr.refl w (some b)) o u) (fun k hk => by have e : b = k := Option.some.inj hk; omega)
set_option maxHeartbeats 4000000 in
theorem implDecodeConfig_c (bs : List Int) (a : Option Addr) (c : Nat) (w : World) (hB : BytAt w a bs) (hb : AllB bs) (hl : bs.length ≤ 1048576) (hc : bs.length ≤ c) (hc2 : c ≤ maxLen) :
  Calls Try.prog 32 #[.slice a bs.length c] w (GiveKB w (decV bs) (decB bs)) := by
 have HT := Lib.hid (dec_test bs)
 have W1 := (Ext.refl w).alloc (.cells #[vnil, vnil] 52)
 have hD0 : DRel w bs 0 { ts := [], ps := [] } vnil vnil [] (((w.alloc (.cells #[vnil, vnil] 52)).alloc (.cells #[.slice a bs.length c, .bool false] 109)).alloc (.cells #[vnil, vnil] 52)) := by
  refine ⟨Blk.at _ _ _ (by simp), OwnK.none_, ((Blk.at w [vnil, vnil] _ rfl).alloc _).alloc _, ?_, by (repeat (first | with_reducible assumption | with_reducible exact Ext.refl _ | with_reducible refine Ext.drew' ?_ | with_reducible refine Ext.drewN' ?_ _ | with_reducible refine Ext.alloc ?_ _ | (with_reducible refine Ext.setNew ?_ (by first | exact Nat.le_refl _ | (simp; done) | (simp; omega) | omega) _)))⟩
  refine ⟨a, bs.length, c, (Blk.at _ _ _ (by simp)).alloc _, by omega, hc, hc2, ?_, ?_⟩
  ·rw [List.drop_zero]
   exact ((hB.ext W1).ext ((Ext.refl _).alloc _)).ext ((Ext.refl _).alloc _)
  ·intro x hx h0
   rcases hB with rfl | ⟨b, o, rfl, hbl, _⟩
   ·exact absurd rfl h0
   ·cases hx
    dsimp only
    omega
 have HB0 := Lib.hid hB
 go_enter Try.func32, Try.ntmps32
 go_wp2_with fail
 go_loopw [11] (fun u wr => ∃ (j : Nat) (tv pv : Value) (us : List Value), j ≤ 25 ∧ u = .int .i64 j ∧ DRel w bs (13 * j) { ts := pTs bs j, ps := [] } tv pv us wr) (fun i _ => 25 - (intOf i).toNat)
 case atStart => exact ⟨0, _, _, _, Nat.zero_le _, rfl, hD0⟩
 case round =>
  obtain ⟨j, tv, pv, us, hj, rfl, hD⟩ := hrel
  clear hD0 W1
  by_cases hlt : j < 25
  ·have T1 := Lib.hid (next_p wr (w.heap.size + 1) bs (13 * j) hb hl hD.d)
   obtain ⟨x, hx⟩ : ∃ x, x = bs.getD (13 * j) 0 := ⟨_, rfl⟩
   obtain ⟨f, hf⟩ : ∃ f, f = (bs.getD (13 * j + 1 + 3) 0 == 1) := ⟨_, rfl⟩
   have HX : Hid (pT bs (13 * j) = ⟨x, getN bs (13 * j + 1) 3, f, getN bs (13 * j + 1 + 3 + 1) 8⟩) := Lib.hid (by rw [hx, hf]; rfl)
   rw [← hx] at T1
   have HF := Lib.hid hf
   clear hx hf
   go_wp2_with fail
   refine (T1.out).mono ?_
   rintro e w1 ⟨rfl, hR1, hG1⟩
   have T2 := Lib.hid (many_c w1 (w.heap.size + 1) bs (13 * j + 1) 3 hb hl (by omega) hR1)
   go_wp2_with fail
   refine (T2.out).mono ?_
   rintro e w2 ⟨v1, rfl, hI1, hR2, hG2⟩
   have T3 := Lib.hid (flagR_c w2 (w.heap.size + 1) bs (13 * j + 1 + 3) hb hl hR2)
   rw [← HF.out] at T3
   go_wp2_with fail
   refine (T3.out).mono ?_
   rintro e w3 ⟨rfl, hR3, hG3⟩
   have T4 := Lib.hid (many_c w3 (w.heap.size + 1) bs (13 * j + 1 + 3 + 1) 8 hb hl (by omega) hR3)
   go_wp2_with fail
   refine (T4.out).mono ?_
   rintro e w4 ⟨v2, rfl, hI2, hR4, hG4⟩
   have hz := hD.e.size
   have hG := Gr.trans (Gr.trans (Gr.trans hG1 hG2) hG3) hG4
   have hO := hD.o.grown hG (by omega)
   have hB := hD.b.gr hG (fun e => by have e2 := Option.some.inj e; omega)
   have hR := hD.r.gr hG (fun e => by have e2 := Option.some.inj e; omega)
   have hE := ext_gr hD.e hG (by omega)
   have z1 := hG1.size
   have z2 := hG2.size
   have z3 := hG3.size
   have z4 := hG4.size
   have zR := hD.b.lt
   unfold OwnInts at hI1 hI2
   rw [getN_len] at hI1 hI2
   have hJ1 := own_gr hI1 (Gr.trans hG3 hG4) (by omega)
   obtain ⟨a1, c1, rfl, -⟩ := ownsRow_row hJ1
   obtain ⟨a2, c2, rfl, -⟩ := ownsRow_row hI2
   have N1 : ∀ q, (Value.slice a1 3 c1).ownBlock = some q → w1.heap.size ≤ q ∧ q < w2.heap.size := fun q hq => World.ownsRow.lt hI1 q hq
   have N2 : ∀ q, (Value.slice a2 8 c2).ownBlock = some q → w3.heap.size ≤ q := fun q hq => (World.ownsRow.lt hI2 q hq).1
   obtain ⟨ta, tc, pa, pc, rfl, rfl⟩ := hO.sl
   have HO0 := Lib.hid hD.o
   have HR4 := Lib.hid hR4
   simp only [pTs_len] at hO hB HO0
   have hrow := hO.ts.row
   simp only [pTs_len] at hrow
   have HS := Lib.hid (pTs_succ bs j)
   clear T1 T2 T3 T4 hD hR1 hR2 hR3 hR4 hG1 hG2 hG3 hG4 hI1
   have hnb : (Value.slice ta j tc).ownBlock ≠ some (w.heap.size + 1 + 1) := fun e => by have := (World.ownsRow.lt hrow _ e).1; omega
   have hnr : (Value.slice ta j tc).ownBlock ≠ some w.heap.size := fun e => by have := (World.ownsRow.lt hrow _ e).1; omega
   have hnR : ∀ q, (Value.slice ta j tc).ownBlock = some q → w.heap.size + 1 + 1 < q := fun q e => by have := (World.ownsRow.lt hrow _ e).1; omega
   have A : Ext w4 ((w4.alloc (.cells #[.int .i64 x, .slice a1 3 c1, .bool f, .slice a2 8 c2] 61)).alloc (.cells #[.int .i64 x, .slice a1 3 c1, .bool f, .slice a2 8 c2] 61)) := ((Ext.refl w4).alloc _).alloc _
   have A1 : Ext w4 (w4.alloc (.cells #[.int .i64 x, .slice a1 3 c1, .bool f, .slice a2 8 c2] 61)) := (Ext.refl w4).alloc _
   have x0 := (hB.ext A1).cell (i := 0) rfl
   have fz := fun i => (hB.ext A1).frozen i
   have bl := (hB.ext A1).lt
   have b3 := hB.ext A
   have hrow3 := ownsRow_ext hrow A
   have HO := Lib.hid hO
   have HR := Lib.hid hR
   have HJ1 := Lib.hid hJ1
   have HI2 := Lib.hid hI2
   clear hO hR hJ1 hI2 hB hrow
   go_wp2_with (at_builtin; go_loud (refine wpList_app tyTiles hrow3 (rowAtN (w4.alloc (.cells #[.int .i64 x, .slice a1 3 c1, .bool f, .slice a2 8 c2] 61)) #[.int .i64 x, .slice a1 3 c1, .bool f, .slice a2 8 c2] _ (B := w4.heap.size + 1) (by simp)) rfl (by simp [Value.oneCell']) (by omega) (by simp; omega) rfl rfl rfl rfl ?_); intro v' w8 o8 g8 m8; obtain ⟨va, vc, rfl, _⟩ := ownsRow_row o8; have b8 := b3.gr g8 hnb; have x8 := b8.cell (i := 0) rfl; have f8 := (fun i => b8.frozen i); have l8 := b8.lt)
   go_roundw
   case rel =>
    refine ⟨j + 1, .slice va (j + 1) vc, .slice pa 0 pc, us ++ [.slice a1 3 c1, .slice a2 8 c2], by omega, by go_num, ?_⟩
    have hO8 := (HO0.out.appTile3 (x := ⟨x, getN bs (13 * j + 1) 3, f, getN bs (13 * j + 1 + 3 + 1) 8⟩) (v' := .slice va (j + 1) vc) (w' := w8) (u1 := .slice a1 3 c1) (u2 := .slice a2 8 c2) (HO.out.ext A) (Nat.le_trans hG.size A.size) (by rw [pTs_len]; simpa using o8) g8 m8 (ownInts_of (getN_len _ _ _) (row_le (ownsRow_ext HJ1.out A) (by omega))) (ownInts_of (getN_len _ _ _) (row_le (ownsRow_ext HI2.out A) (by omega))) (fun q hq => by have := (N1 q hq).1; omega) (fun q hq => by have := N2 q hq; omega) (fun q hq e => by have := (N1 q hq).2; have := N2 q e; omega)).setCell (p := ⟨w.heap.size + 1 + 1, 0, none⟩) (by simp) (.slice va (j + 1) vc)
    rw [← HX.out] at hO8
    refine ⟨b8.set 0 _, ?_, ((HR.out.ext A).gr g8 hnr).setOther (by dsimp only; omega) _, ?_, Ext.setNew (ext_grown (hE.trans A) g8 (fun k hk => by have := hnR k hk; omega)) (by dsimp only; omega) _⟩
    ·rw [HS.out]; exact hO8
    ·exact ((RdP.gr HR4.out (Gr.ext A none) (fun k hk => by cases hk)).gr g8 (fun k hk => by have := hnR k hk; omega)).set (by omega) _
   case measure => simp [intOf]; omega
  ·have hk2 : j = 25 := by omega
   subst hk2
   have HD := Lib.hid hD
   clear hD
   go_wp2_with fail
   go_loopw [29] (fun u wr => ∃ (o : Nat) (tv pv : Value) (us : List Value), o ≤ 3 ∧ u = .int .i64 o ∧ DRel w bs (325 + 2 * o) { ts := pTs bs 25, ps := pPs bs o } tv pv us wr) (fun i _ => 3 - (intOf i).toNat)
   case atStart => exact ⟨0, _, _, _, Nat.zero_le _, rfl, HD.out⟩
   case round =>
    clear HD
    obtain ⟨o, tv, pv, us, ho, rfl, hD⟩ := hrel
    by_cases ho3 : o < 3
    ·obtain ⟨ta, tc, pa, pc, rfl, rfl⟩ := hD.o.sl
     have hd := hD.d
     have hE := hD.e
     have hB := hD.b
     have hO := hD.o
     have HR := Lib.hid hD.r
     have zR := hD.b.lt
     clear hD
     simp only [pTs_len, pPs_len] at hB hO
     have HO := Lib.hid hO
     have hps := hO.ps
     rw [pPs_len] at hps
     have x0 := hB.cell (i := 1) rfl
     have fz := fun i => hB.frozen i
     have hnb : (Value.slice pa o pc).ownBlock ≠ some (w.heap.size + 1 + 1) := fun e => by have := (World.ownsRow.lt hps _ e).1; omega
     have hnr : (Value.slice pa o pc).ownBlock ≠ some w.heap.size := fun e => by have := (World.ownsRow.lt hps _ e).1; omega
     have hnR : ∀ q, (Value.slice pa o pc).ownBlock = some q → w.heap.size + 1 + 1 < q := fun q e => by have := (World.ownsRow.lt hps _ e).1; omega
     obtain ⟨x, hx⟩ : ∃ x, x = bs.getD (325 + 2 * o) 0 := ⟨_, rfl⟩
     obtain ⟨f, hf⟩ : ∃ f, f = (bs.getD (325 + 2 * o + 1) 0 == 1) := ⟨_, rfl⟩
     have HX : Hid (pP bs (325 + 2 * o) = (x, f)) := Lib.hid (by rw [hx, hf]; rfl)
     have HS := Lib.hid (pPs_succ bs o)
     have T1 := Lib.hid (next_p wr.drew (w.heap.size + 1) bs (325 + 2 * o) hb hl (hd.gr (Gr.ext (Ext.drew wr) none) (fun k hk => by cases hk)))
     rw [← hx] at T1
     have HF := Lib.hid hf
     clear hx hf hd
     go_wp2_with fail
     refine wp_regionT (fun w' => ((fun w' => (∀ b o, b < w.heap.size → w'.cell? ⟨b, o, none⟩ = w.cell? ⟨b, o, none⟩) ∧ Ext w w')) w' ∧ w'.cell? ⟨w.heap.size + 1 + 1, 1, none⟩ = some (.slice pa o pc)) 8 (by kernel_rfl) ?_
     have hS0 : ((fun w' => (∀ b o, b < w.heap.size → w'.cell? ⟨b, o, none⟩ = w.cell? ⟨b, o, none⟩) ∧ Ext w w')) wr.drew ∧ wr.drew.cell? ⟨w.heap.size + 1 + 1, 1, none⟩ = some (.slice pa o pc) := ⟨held_mk (hE.drew'), x0⟩
     dsimp only at hS0
     ((refine tkT 0 (v := ?_) rfl (by kernel_rfl) (by kernel_rfl) ?_ (by assumption) ?_; rotate_left; (intro wS hSw; (try dsimp only at hSw); go_simp; (try with_reducible rfl)); (try simp only [Act.put, lA, lB, lC])); (refine tkT 1 (v := ?_) rfl (by kernel_rfl) (by kernel_rfl) ?_ (by assumption) ?_; rotate_left; (intro wS hSw; (try dsimp only at hSw); go_simp; (try with_reducible rfl)); (try simp only [Act.put, lA, lB, lC])); (refine tkT 2 (v := ?_) rfl (by kernel_rfl) (by kernel_rfl) ?_ (by assumption) ?_; rotate_left; (intro wS hSw; (try dsimp only at hSw); go_simp; (try with_reducible rfl)); (try simp only [Act.put, lA, lB, lC])); (refine tkT 4 (v := ?_) rfl (by kernel_rfl) (by kernel_rfl) ?_ (by assumption) ?_; rotate_left; (intro wS hSw; (try dsimp only at hSw); go_simp; (try with_reducible rfl)); (try simp only [Act.put, lA, lB, lC])))
     (refine wpAnyT_do 3 (by kernel_rfl) rfl (fun K hK => ?_))
     go_simp
     refine (T1.out).mono ?_
     rintro e w1 ⟨rfl, hR1, hG1⟩
     have T2 := Lib.hid (flagR_c w1 (w.heap.size + 1) bs (325 + 2 * o + 1) hb hl hR1)
     rw [← HF.out] at T2
     clear T1
     have hne : some (w.heap.size + 1) ≠ some (w.heap.size + 1 + 1) := fun e => by have e2 := Option.some.inj e; omega
     have B1 := (hB.ext (Ext.drew wr)).gr hG1 hne
     have E1 : Ext w w1 := ext_gr hE.drew' hG1 (by omega)
     have hS1 := And.intro (held_mk E1) (B1.cell (i := 1) rfl)
     (refine hK _ _ hS1 ?_; clear hK K; (try simp only [Act.put, lA, lB, lC]))
     (refine wpAnyT_do 5 (by kernel_rfl) rfl (fun K hK => ?_))
     go_simp
     refine (T2.out).mono ?_
     rintro e w2 ⟨rfl, hR2, hG2⟩
     have B2 := B1.gr hG2 hne
     have E2 : Ext w w2 := ext_gr E1 hG2 (by omega)
     have hG := Gr.trans (Gr.trans (Gr.ext (Ext.drew wr) (some (w.heap.size + 1))) hG1) hG2
     have O2 := HO.out.grown hG (by omega)
     have R2 := HR.out.gr hG (fun e => by have e2 := Option.some.inj e; omega)
     have HR2 := Lib.hid hR2
     have hS2 := And.intro (held_mk E2) (B2.cell (i := 1) rfl)
     clear T2 hR1 hR2 hG1 hG2 hG hS0
     (refine hK _ _ hS2 ?_; clear hK K; (try simp only [Act.put, lA, lB, lC]))
     ((refine tkT 6 (v := ?_) rfl (by kernel_rfl) (by kernel_rfl) ?_ (by assumption) ?_; rotate_left; (intro wS hSw; (try dsimp only at hSw); go_simp; (try with_reducible rfl)); (try simp only [Act.put, lA, lB, lC])))
     (refine wpAnyT_do 7 (by kernel_rfl) rfl (fun K hK => ?_))
     go_simp
     have A3 : Ext w2 (w2.alloc (.cells #[.int .i64 x, .bool f] 75)) := (Ext.refl w2).alloc _
     have B3 := B2.ext A3
     have hS3 := And.intro (held_mk (E2.trans A3)) (B3.cell (i := 1) rfl)
     (refine hK _ _ hS3 ?_; clear hK K; (try simp only [Act.put, lA, lB, lC]))
     (refine wpAnyT_do 8 (by kernel_rfl) rfl (fun K hK => ?_))
     have z2 := B2.lt
     have hps2 := ownsRow_ext O2.ps A3
     rw [pPs_len] at hps2
     refine step_app tyPads hps2 (RowAt.new w2 #[.int .i64 x, .bool f] _) rfl (oneCell_flatP [(x, f)]) (by omega) (by simp; omega) rfl rfl rfl rfl ?_
     intro v9 w9 p9 g9 m9
     obtain ⟨va, vc, rfl, _⟩ := ownsRow_row p9
     have b9 := B3.gr g9 hnb
     have f9 := fun i => b9.frozen i
     have E9 : Ext w w9 := ext_grown (E2.trans A3) g9 (fun k hk => by have := hnR k hk; omega)
     have hS4 := And.intro (held_mk E9) (b9.cell (i := 1) rfl)
     (refine hK _ _ hS4 ?_; clear hK K; (try simp only [Act.put, lA, lB, lC]))
     (refine wpAnyT_do 9 (by kernel_rfl) rfl (fun K hK => ?_))
     go_simp
     (refine hK _ _ hS4 ?_; clear hK K; (try simp only [Act.put, lA, lB, lC]))
     (refine wpAnyT_last 10 (by kernel_rfl) rfl (by decide) (by kernel_rfl) (fun K hK => ?_))
     go_simp
     (refine hK _ _ ?_; clear hK K; (try simp only [Act.put, lA, lB, lC]))
     have HO8 := Lib.hid (((O2.ext A3).appPad (y := (x, f)) (v' := .slice va (o + 1) vc) (w' := w9) (by rw [pPs_len]; simpa using p9) g9 m9).setCell (p := ⟨w.heap.size + 1 + 1, 1, none⟩) (by simp) (.slice va (o + 1) vc))
     have HB8 := Lib.hid (b9.set 1 (.slice va (o + 1) vc))
     have HR8 := Lib.hid (((R2.ext A3).gr g9 hnr).setOther (p := ⟨w.heap.size + 1 + 1, 1, none⟩) (by dsimp only; omega) (.slice va (o + 1) vc))
     have HD8 := Lib.hid (((RdP.gr HR2.out (Gr.ext A3 none) (fun k hk => by cases hk)).gr g9 (fun k hk => by have := hnR k hk; omega)).set (b := w.heap.size + 1 + 1) (o := 1) (by omega) (.slice va (o + 1) vc))
     have HE8 : Hid (Ext w (w9.setCell ⟨w.heap.size + 1 + 1, 1, none⟩ (.slice va (o + 1) vc))) := Lib.hid (Ext.setNew E9 (by dsimp only; omega) _)
     clear hS1 hS2 hS3 hS4 p9 g9 m9 b9 f9 E9 hps2 hps O2 R2 E1 E2 B1 B2 B3 A3 hE hB hO HO HR x0 fz
     go_wp2
     go_roundw
     case rel =>
      refine ⟨o + 1, by omega, by go_num, _, _, us, HB8.out, ?_, HR8.out, HD8.out, HE8.out⟩
      rw [HS.out, HX.out]
      exact HO8.out
     case measure => simp [intOf]; omega
    ·have hk3 : o = 3 := by omega
     subst hk3
     obtain ⟨ta, tc, pa, pc, rfl, rfl⟩ := hD.o.sl
     have hB := hD.b
     have hR := hD.r
     have HE := Lib.hid hD.e
     have HO := Lib.hid hD.o
     have zR := hD.b.lt
     have hE := hD.e
     obtain ⟨la, ln, lc, hY, hd⟩ := hD.d
     have y1 := hY.cell (i := 1) rfl
     clear hD hd
     simp only [pTs_len, pPs_len] at hB HO
     have x0 := hB.cell (i := 0) rfl
     have x1 := hB.cell (i := 1) rfl
     have r0 := hR.cell (i := 0) rfl
     have r1 := hR.cell (i := 1) rfl
     have fz := fun i => hR.frozen i
     have hLd := HO.out.at_ (by rw [pTs_len]; omega) (by rw [pPs_len]; omega) (confAt_pK_lens bs)
     cases hbad : decide (bs.length < 325 + 2 * 3)
     ·rw [hbad] at y1
      have HT2 : Hid ((encV (pK bs) == bs) = decB bs) := Lib.hid (by
       have h1 : decide (331 ≤ bs.length) = true := by simp at hbad ⊢; omega
       have := HT.out
       rw [h1, Bool.true_and] at this
       exact this)
      have T1 := Lib.hid (implEncodeConfig_c (pK bs) ta pa tc pc wr hLd)
      clear hbad hLd
      go_wp2_with fail
      refine (T1.out).mono ?_
      rintro e w1 ⟨v, rfl, hV, hE1⟩
      obtain ⟨va, vc, rfl, hVB⟩ := hV.opened
      have T2 := Lib.hid (equal_c (c := vc) (c' := c) hVB rfl (HB0.out.ext (hE.trans hE1)) rfl (encV_all _) hb)
      rw [HT2.out] at T2
      have x0' := ((ecell hE1).1 _ 0 zR).trans x0
      have x1' := ((ecell hE1).1 _ 1 zR).trans x1
      have zz : w.heap.size < wr.heap.size := by omega
      have r0' := ((ecell hE1).1 _ 0 zz).trans r0
      have r1' := ((ecell hE1).1 _ 1 zz).trans r1
      have hR1 := hR.ext hE1
      have fz1 := fun i => hR1.frozen i
      have zr1 := hR1.lt
      have HOk := Lib.hid (HO.out.ext hE1)
      have HE1 := Lib.hid (hE.trans hE1)
      clear T1 hV hVB hE1 hE x0 x1 r0 r1 fz
      cases hd : decB bs
      ·rw [hd] at T2
       have HV : Hid (decV bs = conf0) := Lib.hid (by unfold decV; rw [hd]; rfl)
       have HD := Lib.hid hd
       clear hd
       go_wp2_with fail
       refine (T2.out).mono ?_
       rintro e w2 ⟨rfl, rfl⟩
       go_wp2
       refine bodyPost_ret (v := .tuple #[.agg #[vnil, vnil], .bool false]) (by simp [results, Try.results32, go_sem, r0', r1', vnil]) rfl ?_
       rw [HV.out, HD.out]
       exact ⟨_, _, [], rfl, OwnK.none_, Ext.setNew (Ext.setNew HE1.out (Nat.le_refl _) _) (Nat.le_refl _) _⟩
      ·rw [hd] at T2
       have HV : Hid (decV bs = pK bs) := Lib.hid (by unfold decV; rw [hd]; rfl)
       have HD := Lib.hid hd
       clear hd
       go_wp2_with fail
       refine (T2.out).mono ?_
       rintro e w2 ⟨rfl, rfl⟩
       go_wp2
       refine bodyPost_ret (v := .tuple #[.agg #[.slice ta 25 tc, .slice pa 3 pc], .bool true]) (by simp [results, Try.results32, go_sem, r0', r1']) rfl ?_
       rw [HV.out, HD.out]
       exact ⟨_, _, us, rfl, (OwnK.setCell (p := ⟨w.heap.size, 1, none⟩) (OwnK.setCell (p := ⟨w.heap.size, 0, none⟩) HOk.out (by dsimp only; omega) _) (by dsimp only; omega) _).le (by omega), Ext.setNew (Ext.setNew HE1.out (Nat.le_refl _) _) (Nat.le_refl _) _⟩
     ·rw [hbad] at y1
      have hd : decB bs = false := by
       have h1 : decide (331 ≤ bs.length) = false := by simp at hbad ⊢; omega
       have := HT.out
       rw [h1, Bool.false_and] at this
       exact this.symm
      have HV : Hid (decV bs = conf0) := Lib.hid (by unfold decV; rw [hd]; rfl)
      have HD := Lib.hid hd
      have rl := hR.lt
      clear hd hbad hLd
      go_wp2
      refine bodyPost_ret (v := .tuple #[.agg #[vnil, vnil], .bool false]) (by simp [results, Try.results32, go_sem, r0, r1, vnil]) rfl ?_
      rw [HV.out, HD.out]
      exact ⟨_, _, [], rfl, OwnK.none_, Ext.setNew (Ext.setNew HE.out (Nat.le_refl _) _) (Nat.le_refl _) _⟩
end Go.Proofs.Ytgialedmbmfejaa

namespace Go.Proofs.Ytgialedmbmfejaa
open Go.RowKit
set_option maxRecDepth 100000
set_option linter.unusedVariables false
set_option linter.unusedSimpArgs false
/-- The configuration under way: its box is behind the result's. -/
structure SRel (w : World) (K : Conf) (tv pv : Value) (us : List Value) (wr : World) : Prop where
 b : Blk wr (w.heap.size + 1) 52 [tv, pv]
 o : OwnK wr (w.heap.size + 1 + 1) tv pv us K
 r : Blk wr w.heap.size 52 [vnil, vnil]
 e : Ext w wr
/-- The tile's box while its rows are put in. -/
structure TSt (w1 : World) (x : Int) (f : Bool) (sv dv : Value) (ss ds : List Int) (wr : World) : Prop where
 b : Blk wr w1.heap.size 61 [.int .i64 x, sv, .bool f, dv]
 s : OwnInts wr (w1.heap.size + 1) 3 sv ss
 d : OwnInts wr (w1.heap.size + 1) 3 dv ds
 n : ∀ q, sv.ownBlock = some q → dv.ownBlock ≠ some q
 e : Ext w1 wr
theorem TSt.mk0 {w1 wr : World} {x : Int} {f : Bool} (hb : Blk wr w1.heap.size 61 [.int .i64 x, vnil, .bool f, vnil]) (he : Ext w1 wr) : TSt w1 x f vnil vnil [] [] wr :=
 ⟨hb, ownsRow_nil, ownsRow_nil, (fun q hq => by cases hq), he⟩
theorem TSt.appS {w1 wr w3 w9 : World} {x z : Int} {f : Bool} {sv dv v' : Value} {ss ds : List Int} {n : Nat} (h : TSt w1 x f sv dv ss ds wr) (A : Ext wr w3) (hn : ss.length = n) (p9 : w9.ownsRow (w1.heap.size + 1) 3 1 v' (n + 1) (ss.map (Value.int .i64) ++ [.int .i64 z])) (g9 : w3.grownBy w9 sv.ownBlock) (m9 : RowMoved w3 sv v') :
  TSt w1 x f v' dv (ss ++ [z]) ds (w9.setCell ⟨w1.heap.size, 1, none⟩ v') := by
 subst hn
 have hz := A.size
 have hzz := h.b.lt
 have hs := fun q hq => World.ownsRow.lt (show wr.ownsRow (w1.heap.size + 1) 3 1 sv _ _ from h.s) q hq
 have hd := fun q hq => World.ownsRow.lt (show wr.ownsRow (w1.heap.size + 1) 3 1 dv _ _ from h.d) q hq
 have hd9 := ownsRow_gr (ownsRow_ext h.d A) g9 (off_rowI (fun q hq e => h.n q e hq)) 
 refine ⟨((h.b.ext A).gr g9 (fun e => by have := (hs _ e).1; omega)).set 1 _, ?_, ownsRow_set (p := ⟨w1.heap.size, 1, none⟩) hd9 (fun e => by have := (hd _ e).1; dsimp only at this; omega) _, ?_, Ext.setNew (ext_grown (h.e.trans A) g9 (fun q hq => by have := (hs q hq).1; omega)) (Nat.le_refl _) _⟩
 ·have := ownsRow_set p9 (p := ⟨w1.heap.size, 1, none⟩) (fun e => by have := (p9.lt _ e).1; dsimp only at this; omega) v'
  unfold OwnInts
  rw [List.length_append, List.map_append]
  exact this
 ·intro q hq e
  have h2 := hd q e
  rcases m9 with e6 | ⟨r, e6, hr⟩
  ·rw [e6] at hq; exact h.n q hq e
  ·rw [e6] at hq
   have : r = q := Option.some.inj hq
   omega
theorem TSt.appD {w1 wr w3 w9 : World} {x z : Int} {f : Bool} {sv dv v' : Value} {ss ds : List Int} {n : Nat} (h : TSt w1 x f sv dv ss ds wr) (A : Ext wr w3) (hn : ds.length = n) (p9 : w9.ownsRow (w1.heap.size + 1) 3 1 v' (n + 1) (ds.map (Value.int .i64) ++ [.int .i64 z])) (g9 : w3.grownBy w9 dv.ownBlock) (m9 : RowMoved w3 dv v') :
  TSt w1 x f sv v' ss (ds ++ [z]) (w9.setCell ⟨w1.heap.size, 3, none⟩ v') := by
 subst hn
 have hz := A.size
 have hzz := h.b.lt
 have hs := fun q hq => World.ownsRow.lt (show wr.ownsRow (w1.heap.size + 1) 3 1 sv _ _ from h.s) q hq
 have hd := fun q hq => World.ownsRow.lt (show wr.ownsRow (w1.heap.size + 1) 3 1 dv _ _ from h.d) q hq
 have hs9 := ownsRow_gr (ownsRow_ext h.s A) g9 (off_rowI (fun q hq e => h.n q hq e)) 
 refine ⟨((h.b.ext A).gr g9 (fun e => by have := (hd _ e).1; omega)).set 3 _, ownsRow_set (p := ⟨w1.heap.size, 3, none⟩) hs9 (fun e => by have := (hs _ e).1; dsimp only at this; omega) _, ?_, ?_, Ext.setNew (ext_grown (h.e.trans A) g9 (fun q hq => by have := (hd q hq).1; omega)) (Nat.le_refl _) _⟩
 ·have := ownsRow_set p9 (p := ⟨w1.heap.size, 3, none⟩) (fun e => by have := (p9.lt _ e).1; dsimp only at this; omega) v'
  unfold OwnInts
  rw [List.length_append, List.map_append]
  exact this
 ·intro q hq e
  have h2 := hs q hq
  rcases m9 with e6 | ⟨r, e6, hr⟩
  ·rw [e6] at e; exact h.n q hq e
  ·rw [e6] at e
   have : r = q := Option.some.inj e
   omega
theorem toList_beq {xs ys : List Int} (ax : AllB xs) (ay : AllB ys) : ((strOfNums xs).toList == (strOfNums ys).toList) = (xs == ys) := by
 rw [Lib.strOfNums_toList, Lib.strOfNums_toList, ← str_beq ax ay, byteArr_beq]
 by_cases h : strOfNums xs = strOfNums ys
 ·have h2 : Lib.bytesOf xs = Lib.bytesOf ys := by rw [← Lib.strOfNums_toList, ← Lib.strOfNums_toList, h]
  rw [h2]; simp [h]
 ·have h2 : Lib.bytesOf xs ≠ Lib.bytesOf ys := fun e => h (congrArg (fun l : List UInt8 => (⟨l.toArray⟩ : ByteArray)) (show (strOfNums xs).data.toList = (strOfNums ys).data.toList from e))
  rw [decide_eq_false h]; simpa using h2
theorem encV_no {k : Conf} (h : confB k = false) : encV k = [] := by unfold encV; rw [h]; rfl
theorem wrapI {x : Int} (h0 : 0 ≤ x) (h1 : x < 1000000) : IntKind.i64.wrap x = x := by simp [IntKind.wrap, IntKind.bits, IntKind.signed, IntKind.min, IntKind.max]; omega
set_option maxHeartbeats 4000000 in
theorem specDecodeConfig_c (bs : List Int) (a : Option Addr) (c : Nat) (w : World) (hB : BytAt w a bs) (hb : AllB bs) (hl : bs.length ≤ 1048576) :
  Calls Try.prog 44 #[.slice a bs.length c] w (GiveKB w (decV bs) (decB bs)) := by
 by_cases hlen : bs.length = 333
 ·have HL := Lib.hid hlen
  have hn1 : (bs.length : Int) = 333 := by omega
  have hD0 : SRel w { ts := [], ps := [] } vnil vnil [] ((w.alloc (.cells #[vnil, vnil] 52)).alloc (.cells #[vnil, vnil] 52)) := by
   refine ⟨Blk.at _ _ _ (by simp), OwnK.none_, (Blk.at w [vnil, vnil] _ rfl).alloc _, by (repeat (first | with_reducible assumption | with_reducible exact Ext.refl _ | with_reducible refine Ext.drew' ?_ | with_reducible refine Ext.drewN' ?_ _ | with_reducible refine Ext.alloc ?_ _ | (with_reducible refine Ext.setNew ?_ (by first | exact Nat.le_refl _ | (simp; done) | (simp; omega) | omega) _)))⟩
  have HB0 := Lib.hid hB
  obtain ⟨b, o, rfl, hbl, hcc⟩ := hB.get (by omega)
  have HC := Lib.hid hcc
  clear hcc hB hlen
  go_enter Try.func44, Try.ntmps44
  go_wp2_with fail
  go_loopw [6, 7] (fun u6 u7 wr => ∃ (j : Nat), j ≤ 25 ∧ u7 = .int .i64 j ∧ (∃ p : Nat, u6 = .int .i64 (p : Int) ∧ Hid (p = 13 * j)) ∧ ∃ (tv pv : Value) (us : List Value), SRel w { ts := pTs bs j, ps := [] } tv pv us wr) (fun _ i _ => 25 - (intOf i).toNat)
  case atStart => exact ⟨0, Nat.zero_le _, rfl, ⟨0, rfl, Lib.hid rfl⟩, _, _, _, hD0⟩
  case round =>
   obtain ⟨j, hj, rfl, ⟨p, rfl, HP⟩, tv, pv, us, hD⟩ := hrel
   clear hD0
   by_cases hlt : j < 25
   ·obtain ⟨w1, rfl⟩ : ∃ x : World, x = wr := ⟨_, rfl⟩
    have hE := hD.e
    have hbl1 := Nat.lt_of_lt_of_le hbl hE.size
    have hp : p + 13 ≤ 325 := by have := HP.out; omega
    have q1 := ((ecell hE).1 b (o + p) hbl).trans (HC.out p (by omega))
    obtain ⟨r, hr⟩ : ∃ r, r = p + 1 + 3 := ⟨_, rfl⟩
    have q2 := ((ecell hE).1 b (o + r) hbl).trans (HC.out r (by omega))
    have bx := hb.get p (by omega)
    have p0 : (0 : Int) ≤ (p : Int) := by omega
    have p1 : (p : Int) < 333 := by omega
    have p2 : (r : Int) < 333 := by omega
    have p3 : (0 : Int) ≤ (r : Int) := by omega
    have e1 : IntKind.i64.wrap ((p : Int) + 1) = (p : Int) + 1 := by simp [IntKind.wrap, IntKind.bits, IntKind.signed, IntKind.min, IntKind.max]; omega
    have e2 : IntKind.i64.wrap ((p : Int) + 1 + 3) = (r : Int) := by simp [IntKind.wrap, IntKind.bits, IntKind.signed, IntKind.min, IntKind.max]; omega
    have HR := Lib.hid hr
    clear hr
    obtain ⟨x, hx⟩ : ∃ x, x = bs.getD p 0 := ⟨_, rfl⟩
    obtain ⟨y, hy⟩ : ∃ y, y = bs.getD r 0 := ⟨_, rfl⟩
    rw [← hx] at q1 bx
    rw [← hy] at q2
    have hw : IntKind.i64.wrap x = x := by simp [IntKind.wrap, IntKind.bits, IntKind.signed, IntKind.min, IntKind.max]; omega
    have HX := Lib.hid hx
    have HY := Lib.hid hy
    clear hx hy
    have HU := Lib.hid hD
    have HE := Lib.hid hE
    clear hE
    clear hD
    go_wp2_with fail
    go_cut [8] (fun v wx => v = .pointer (some ⟨w1.heap.size, 0, none⟩) ∧ TSt w1 x (y == 1) vnil vnil [] [] wx)
    case first =>
     go_region_law (fail)
     all_goals
      go_wp2_with fail
      go_meet
      exact ⟨rfl, TSt.mk0 (by first | exact (Blk.at w1 [.int .i64 x, .slice none 0 0, .bool (y == 1), .slice none 0 0] _ rfl).ext (Ext.drew _) | exact Blk.at w1.drew [.int .i64 x, .slice none 0 0, .bool (y == 1), .slice none 0 0] _ rfl) (by (repeat (first | with_reducible assumption | with_reducible exact Ext.refl _ | with_reducible refine Ext.drew' ?_ | with_reducible refine Ext.drewN' ?_ _ | with_reducible refine Ext.alloc ?_ _ | (with_reducible refine Ext.setNew ?_ (by first | exact Nat.le_refl _ | (simp; done) | (simp; omega) | omega) _))))⟩
    obtain ⟨rfl, hT⟩ := hcut
    clear q1 q2 e1 e2 p2 p3 bx hw
    go_wp2_with fail
    go_loopw [9] (fun u wr => ∃ n : Nat, n ≤ 3 ∧ u = .int .i64 n ∧ ∃ sv, TSt w1 x (y == 1) sv vnil (getN bs (p + 1) n) [] wr) (fun i _ => 3 - (intOf i).toNat)
    case atStart => exact ⟨0, Nat.zero_le _, rfl, vnil, hT⟩
    case round =>
     clear hT
     obtain ⟨n, hn, rfl, sv, hT⟩ := hrel
     by_cases hn3 : n < 3
     ·obtain ⟨r, hr⟩ : ∃ r, r = p + 1 + n := ⟨_, rfl⟩
      have p2 : (r : Int) < 333 := by omega
      have p3 : (0 : Int) ≤ (r : Int) := by omega
      have e1 : IntKind.i64.wrap ((p : Int) + 1) = (p : Int) + 1 := wrapI (by omega) (by omega)
      have e2 : IntKind.i64.wrap ((p : Int) + 1 + (n : Int)) = (r : Int) := by rw [show (p : Int) + 1 + (n : Int) = (r : Int) from by omega]; exact wrapI (by omega) (by omega)
      have q2 := ((ecell HE.out).1 b (o + r) hbl).trans (HC.out r (by omega))
      have bz := hb.get r (by omega)
      have HS : Hid (getN bs (p + 1) (n + 1) = getN bs (p + 1) n ++ [bs.getD r 0]) := Lib.hid (by rw [hr]; exact getN_succ _ _ _)
      obtain ⟨z, hz⟩ : ∃ z, z = bs.getD r 0 := ⟨_, rfl⟩
      rw [← hz] at q2 bz HS
      have hw : IntKind.i64.wrap z = z := by simp [IntKind.wrap, IntKind.bits, IntKind.signed, IntKind.min, IntKind.max]; omega
      have hrow := hT.s
      unfold OwnInts at hrow
      rw [getN_len] at hrow
      obtain ⟨sa, sc, rfl, -⟩ := ownsRow_row hrow
      have tB := hT.b
      have x0 := tB.cell (i := 1) rfl
      have tE := hT.e
      have hnb : (Value.slice sa n sc).ownBlock ≠ some w1.heap.size := fun e => by have := (World.ownsRow.lt hrow _ e).1; omega
      have hnR : ∀ q, (Value.slice sa n sc).ownBlock = some q → w1.heap.size + 1 ≤ q := fun q e => (World.ownsRow.lt hrow _ e).1
      have HT := Lib.hid hT
      have hbl2 := Nat.lt_of_lt_of_le hbl1 tE.size
      have hzz := tB.lt
      clear hT hr hz
      go_wp2_with fail
      refine wp_regionT (fun w' => ((fun w' => (∀ b o, b < w1.heap.size → w'.cell? ⟨b, o, none⟩ = w1.cell? ⟨b, o, none⟩) ∧ Ext w1 w')) w' ∧ w'.cell? ⟨w1.heap.size, 1, none⟩ = some (.slice sa n sc)) 11 (by kernel_rfl) ?_
      have hS0 : ((fun w' => (∀ b o, b < w1.heap.size → w'.cell? ⟨b, o, none⟩ = w1.cell? ⟨b, o, none⟩) ∧ Ext w1 w')) wr.drew ∧ wr.drew.cell? ⟨w1.heap.size, 1, none⟩ = some (.slice sa n sc) := ⟨held_mk (tE.drew'), x0⟩
      dsimp only at hS0
      ((refine tkT 0 (v := ?_) rfl (by kernel_rfl) (by kernel_rfl) ?_ (by assumption) ?_; rotate_left; (intro wS hSw; (try dsimp only at hSw); go_simp; (try with_reducible rfl)); (try simp only [Act.put, lA, lB, lC])); (refine tkT 1 (v := ?_) rfl (by kernel_rfl) (by kernel_rfl) ?_ (by assumption) ?_; rotate_left; (intro wS hSw; (try dsimp only at hSw); go_simp; (try with_reducible rfl)); (try simp only [Act.put, lA, lB, lC])); (refine tkT 2 (v := ?_) rfl (by kernel_rfl) (by kernel_rfl) ?_ (by assumption) ?_; rotate_left; (intro wS hSw; (try dsimp only at hSw); go_simp; (try with_reducible rfl)); (try simp only [Act.put, lA, lB, lC])); (refine tkT 3 (v := ?_) rfl (by kernel_rfl) (by kernel_rfl) ?_ (by assumption) ?_; rotate_left; (intro wS hSw; (try dsimp only at hSw); go_simp; (try with_reducible rfl)); (try simp only [Act.put, lA, lB, lC])); (refine tkT 4 (v := ?_) rfl (by kernel_rfl) (by kernel_rfl) ?_ (by assumption) ?_; rotate_left; (intro wS hSw; (try dsimp only at hSw); go_simp; (try with_reducible rfl)); (try simp only [Act.put, lA, lB, lC])); (refine tkT 5 (v := ?_) rfl (by kernel_rfl) (by kernel_rfl) ?_ (by assumption) ?_; rotate_left; (intro wS hSw; (try dsimp only at hSw); go_simp; (try with_reducible rfl)); (try simp only [Act.put, lA, lB, lC])); (refine tkT 6 (v := ?_) rfl (by kernel_rfl) (by kernel_rfl) ?_ (by assumption) ?_; rotate_left; (intro wS hSw; (try dsimp only at hSw); go_simp; (try with_reducible rfl)); (try simp only [Act.put, lA, lB, lC])); (refine tkT 7 (v := ?_) rfl (by kernel_rfl) (by kernel_rfl) ?_ (by assumption) ?_; rotate_left; (intro wS hSw; (try dsimp only at hSw); go_simp; (try with_reducible rfl)); (try simp only [Act.put, lA, lB, lC])); (refine tkT 8 (v := ?_) rfl (by kernel_rfl) (by kernel_rfl) ?_ (by assumption) ?_; rotate_left; (intro wS hSw; (try dsimp only at hSw); go_simp; (try with_reducible rfl)); (try simp only [Act.put, lA, lB, lC])); (refine tkT 9 (v := ?_) rfl (by kernel_rfl) (by kernel_rfl) ?_ (by assumption) ?_; rotate_left; (intro wS hSw; (try dsimp only at hSw); go_simp; (try with_reducible rfl)); (try simp only [Act.put, lA, lB, lC])))
      (refine wpAnyT_do 10 (by kernel_rfl) rfl (fun K hK => ?_))
      go_simp
      have A3 : Ext wr (wr.drew.alloc (.cells #[.int .i64 z] 3)) := (Ext.drew wr).alloc _
      have B3 := tB.ext A3
      have hS3 := And.intro (held_mk (tE.trans A3)) (B3.cell (i := 1) rfl)
      (refine hK _ _ hS3 ?_; clear hK K; (try simp only [Act.put, lA, lB, lC]))
      (refine wpAnyT_do 11 (by kernel_rfl) rfl (fun K hK => ?_))
      refine step_app tyInts (ownsRow_ext hrow A3) (RowAt.new wr.drew #[.int .i64 z] _) rfl (oneCell_int1 _) (by omega) (by simp; omega) rfl rfl rfl rfl ?_
      intro v9 w9 p9 g9 m9
      obtain ⟨va, vc, rfl, _⟩ := ownsRow_row p9
      have b9 := B3.gr g9 hnb
      have f9 := fun i => b9.frozen i
      have E9 : Ext w1 w9 := ext_grown (tE.trans A3) g9 (fun k hk => by have := hnR k hk; omega)
      have hS4 := And.intro (held_mk E9) (b9.cell (i := 1) rfl)
      (refine hK _ _ hS4 ?_; clear hK K; (try simp only [Act.put, lA, lB, lC]))
      (refine wpAnyT_do 12 (by kernel_rfl) rfl (fun K hK => ?_))
      go_simp
      (refine hK _ _ hS4 ?_; clear hK K; (try simp only [Act.put, lA, lB, lC]))
      (refine wpAnyT_last 13 (by kernel_rfl) rfl (by decide) (by kernel_rfl) (fun K hK => ?_))
      go_simp
      (refine hK _ _ ?_; clear hK K; (try simp only [Act.put, lA, lB, lC]))
      have HT9 := Lib.hid (HT.out.appS A3 (getN_len _ _ _) (by simpa using p9) g9 m9)
      rw [← HS.out] at HT9
      clear hS0 hS3 hS4 p9 g9 m9 b9 f9 E9 B3 A3 x0 tB tE hrow q2 e2 p2 p3 hw bz
      go_wp2
      go_roundw
      case rel => exact ⟨n + 1, by omega, by go_num, _, HT9.out⟩
      case measure => simp [intOf]; omega
     ·have hn4 : n = 3 := by omega
      subst hn4
      go_wp2_with fail
      go_loopw [10] (fun u wr => ∃ n : Nat, n ≤ 8 ∧ u = .int .i64 n ∧ ∃ dv, TSt w1 x (y == 1) sv dv (getN bs (p + 1) 3) (getN bs (p + 5) n) wr) (fun i _ => 8 - (intOf i).toNat)
      case atStart => exact ⟨0, Nat.zero_le _, rfl, vnil, hT⟩
      case round =>
       clear hT
       obtain ⟨n, hn, rfl, dv, hT⟩ := hrel
       by_cases hn3 : n < 8
       ·obtain ⟨r, hr⟩ : ∃ r, r = p + 5 + n := ⟨_, rfl⟩
        have p2 : (r : Int) < 333 := by omega
        have p3 : (0 : Int) ≤ (r : Int) := by omega
        have e1 : IntKind.i64.wrap ((p : Int) + 2) = (p : Int) + 2 := wrapI (by omega) (by omega)
        have e3 : IntKind.i64.wrap ((p : Int) + 2 + 3) = (p : Int) + 2 + 3 := wrapI (by omega) (by omega)
        have e2 : IntKind.i64.wrap ((p : Int) + 2 + 3 + (n : Int)) = (r : Int) := by rw [show (p : Int) + 2 + 3 + (n : Int) = (r : Int) from by omega]; exact wrapI (by omega) (by omega)
        have q2 := ((ecell HE.out).1 b (o + r) hbl).trans (HC.out r (by omega))
        have bz := hb.get r (by omega)
        have HS : Hid (getN bs (p + 5) (n + 1) = getN bs (p + 5) n ++ [bs.getD r 0]) := Lib.hid (by rw [hr]; exact getN_succ _ _ _)
        obtain ⟨z, hz⟩ : ∃ z, z = bs.getD r 0 := ⟨_, rfl⟩
        rw [← hz] at q2 bz HS
        have hw : IntKind.i64.wrap z = z := by simp [IntKind.wrap, IntKind.bits, IntKind.signed, IntKind.min, IntKind.max]; omega
        have hrow := hT.d
        unfold OwnInts at hrow
        rw [getN_len] at hrow
        obtain ⟨sa, sc, rfl, -⟩ := ownsRow_row hrow
        have tB := hT.b
        have x0 := tB.cell (i := 3) rfl
        have tE := hT.e
        have hnb : (Value.slice sa n sc).ownBlock ≠ some w1.heap.size := fun e => by have := (World.ownsRow.lt hrow _ e).1; omega
        have hnR : ∀ q, (Value.slice sa n sc).ownBlock = some q → w1.heap.size + 1 ≤ q := fun q e => (World.ownsRow.lt hrow _ e).1
        have HT := Lib.hid hT
        have hbl2 := Nat.lt_of_lt_of_le hbl1 tE.size
        have hzz := tB.lt
        clear hT hr hz
        go_wp2_with fail
        refine wp_regionT (fun w' => ((fun w' => (∀ b o, b < w1.heap.size → w'.cell? ⟨b, o, none⟩ = w1.cell? ⟨b, o, none⟩) ∧ Ext w1 w')) w' ∧ w'.cell? ⟨w1.heap.size, 3, none⟩ = some (.slice sa n sc)) 12 (by kernel_rfl) ?_
        have hS0 : ((fun w' => (∀ b o, b < w1.heap.size → w'.cell? ⟨b, o, none⟩ = w1.cell? ⟨b, o, none⟩) ∧ Ext w1 w')) wr.drew ∧ wr.drew.cell? ⟨w1.heap.size, 3, none⟩ = some (.slice sa n sc) := ⟨held_mk (tE.drew'), x0⟩
        dsimp only at hS0
        ((refine tkT 0 (v := ?_) rfl (by kernel_rfl) (by kernel_rfl) ?_ (by assumption) ?_; rotate_left; (intro wS hSw; (try dsimp only at hSw); go_simp; (try with_reducible rfl)); (try simp only [Act.put, lA, lB, lC])); (refine tkT 1 (v := ?_) rfl (by kernel_rfl) (by kernel_rfl) ?_ (by assumption) ?_; rotate_left; (intro wS hSw; (try dsimp only at hSw); go_simp; (try with_reducible rfl)); (try simp only [Act.put, lA, lB, lC])); (refine tkT 2 (v := ?_) rfl (by kernel_rfl) (by kernel_rfl) ?_ (by assumption) ?_; rotate_left; (intro wS hSw; (try dsimp only at hSw); go_simp; (try with_reducible rfl)); (try simp only [Act.put, lA, lB, lC])); (refine tkT 3 (v := ?_) rfl (by kernel_rfl) (by kernel_rfl) ?_ (by assumption) ?_; rotate_left; (intro wS hSw; (try dsimp only at hSw); go_simp; (try with_reducible rfl)); (try simp only [Act.put, lA, lB, lC])); (refine tkT 4 (v := ?_) rfl (by kernel_rfl) (by kernel_rfl) ?_ (by assumption) ?_; rotate_left; (intro wS hSw; (try dsimp only at hSw); go_simp; (try with_reducible rfl)); (try simp only [Act.put, lA, lB, lC])); (refine tkT 5 (v := ?_) rfl (by kernel_rfl) (by kernel_rfl) ?_ (by assumption) ?_; rotate_left; (intro wS hSw; (try dsimp only at hSw); go_simp; (try with_reducible rfl)); (try simp only [Act.put, lA, lB, lC])); (refine tkT 6 (v := ?_) rfl (by kernel_rfl) (by kernel_rfl) ?_ (by assumption) ?_; rotate_left; (intro wS hSw; (try dsimp only at hSw); go_simp; (try with_reducible rfl)); (try simp only [Act.put, lA, lB, lC])); (refine tkT 7 (v := ?_) rfl (by kernel_rfl) (by kernel_rfl) ?_ (by assumption) ?_; rotate_left; (intro wS hSw; (try dsimp only at hSw); go_simp; (try with_reducible rfl)); (try simp only [Act.put, lA, lB, lC])); (refine tkT 8 (v := ?_) rfl (by kernel_rfl) (by kernel_rfl) ?_ (by assumption) ?_; rotate_left; (intro wS hSw; (try dsimp only at hSw); go_simp; (try with_reducible rfl)); (try simp only [Act.put, lA, lB, lC])); (refine tkT 9 (v := ?_) rfl (by kernel_rfl) (by kernel_rfl) ?_ (by assumption) ?_; rotate_left; (intro wS hSw; (try dsimp only at hSw); go_simp; (try with_reducible rfl)); (try simp only [Act.put, lA, lB, lC])); (refine tkT 10 (v := ?_) rfl (by kernel_rfl) (by kernel_rfl) ?_ (by assumption) ?_; rotate_left; (intro wS hSw; (try dsimp only at hSw); go_simp; (try with_reducible rfl)); (try simp only [Act.put, lA, lB, lC])))
        (refine wpAnyT_do 11 (by kernel_rfl) rfl (fun K hK => ?_))
        go_simp
        have A3 : Ext wr (wr.drew.alloc (.cells #[.int .i64 z] 3)) := (Ext.drew wr).alloc _
        have B3 := tB.ext A3
        have hS3 := And.intro (held_mk (tE.trans A3)) (B3.cell (i := 3) rfl)
        (refine hK _ _ hS3 ?_; clear hK K; (try simp only [Act.put, lA, lB, lC]))
        (refine wpAnyT_do 12 (by kernel_rfl) rfl (fun K hK => ?_))
        refine step_app tyInts (ownsRow_ext hrow A3) (RowAt.new wr.drew #[.int .i64 z] _) rfl (oneCell_int1 _) (by omega) (by simp; omega) rfl rfl rfl rfl ?_
        intro v9 w9 p9 g9 m9
        obtain ⟨va, vc, rfl, _⟩ := ownsRow_row p9
        have b9 := B3.gr g9 hnb
        have f9 := fun i => b9.frozen i
        have E9 : Ext w1 w9 := ext_grown (tE.trans A3) g9 (fun k hk => by have := hnR k hk; omega)
        have hS4 := And.intro (held_mk E9) (b9.cell (i := 3) rfl)
        (refine hK _ _ hS4 ?_; clear hK K; (try simp only [Act.put, lA, lB, lC]))
        (refine wpAnyT_do 13 (by kernel_rfl) rfl (fun K hK => ?_))
        go_simp
        (refine hK _ _ hS4 ?_; clear hK K; (try simp only [Act.put, lA, lB, lC]))
        (refine wpAnyT_last 14 (by kernel_rfl) rfl (by decide) (by kernel_rfl) (fun K hK => ?_))
        go_simp
        (refine hK _ _ ?_; clear hK K; (try simp only [Act.put, lA, lB, lC]))
        have HT9 := Lib.hid (HT.out.appD A3 (getN_len _ _ _) (by simpa using p9) g9 m9)
        rw [← HS.out] at HT9
        clear hS0 hS3 hS4 p9 g9 m9 b9 f9 E9 B3 A3 x0 tB tE hrow q2 e2 p2 p3 hw bz
        go_wp2
        go_roundw
        case rel => exact ⟨n + 1, by omega, by go_num, _, HT9.out⟩
        case measure => simp [intOf]; omega
       ·have hn5 : n = 8 := by omega
        subst hn5
        have hsr := hT.s
        have hdr := hT.d
        unfold OwnInts at hsr hdr
        rw [getN_len] at hsr hdr
        obtain ⟨sa, sc, rfl, -⟩ := ownsRow_row hsr
        obtain ⟨da, dc, rfl, -⟩ := ownsRow_row hdr
        obtain ⟨ta, tc, pa, pc, rfl, rfl⟩ := HU.out.o.sl
        have hb0 := HU.out.b
        have ho0 := HU.out.o
        simp only [pTs_len] at hb0 ho0 HU
        have hrow := ho0.ts.row
        rw [pTs_len] at hrow
        have tE := hT.e
        have tb := hT.b
        have y0 := tb.cell (i := 0) rfl
        have y1 := tb.cell (i := 1) rfl
        have y2 := tb.cell (i := 2) rfl
        have y3 := tb.cell (i := 3) rfl
        have x0 := (hb0.ext tE).cell (i := 0) rfl
        have fz := fun i => (hb0.ext tE).frozen i
        have bl := (hb0.ext tE).lt
        have tl := tb.lt
        have zz := HE.out.size
        have zb := hb0.lt
        have A := (Ext.refl wr).alloc (.cells #[.int .i64 x, .slice sa 3 sc, .bool (y == 1), .slice da 8 dc] 61)
        have hrow3 := ownsRow_ext hrow (tE.trans A)
        have b3 := hb0.ext (tE.trans A)
        have hnb : (Value.slice ta j tc).ownBlock ≠ some (w.heap.size + 1) := fun e => by have := (World.ownsRow.lt hrow _ e).1; omega
        have hnr : (Value.slice ta j tc).ownBlock ≠ some w.heap.size := fun e => by have := (World.ownsRow.lt hrow _ e).1; omega
        have hnR : ∀ q, (Value.slice ta j tc).ownBlock = some q → w.heap.size ≤ q := fun q e => by have := (World.ownsRow.lt hrow _ e).1; omega
        have HT := Lib.hid hT
        have HO0 := Lib.hid ho0
        have HS := Lib.hid (pTs_succ bs j)
        have HW : Hid (pT bs (13 * j) = ⟨x, getN bs (p + 1) 3, y == 1, getN bs (p + 5) 8⟩) := Lib.hid (by rw [← HP.out, HX.out, HY.out, HR.out]; rfl)
        clear hT hsr hdr tb hb0 ho0 hrow
        go_wp2_with (at_builtin; go_loud (refine wpList_app tyTiles hrow3 (RowAt.new wr #[.int .i64 x, .slice sa 3 sc, .bool (y == 1), .slice da 8 dc] _) rfl (by simp [Value.oneCell']) (by omega) (by simp; omega) rfl rfl rfl rfl ?_); intro v' w8 o8 g8 m8; obtain ⟨va, vc, rfl, _⟩ := ownsRow_row o8; have b8 := b3.gr g8 hnb; have x8 := b8.cell (i := 0) rfl; have f8 := (fun i => b8.frozen i); have l8 := b8.lt)
        go_roundw
        case rel =>
         have hO8 := (HO0.out.appTile2 (x := ⟨x, getN bs (p + 1) 3, y == 1, getN bs (p + 5) 8⟩) (v' := .slice va (j + 1) vc) (w' := w8) (u1 := .slice sa 3 sc) (u2 := .slice da 8 dc) (tE.trans A) (by rw [pTs_len]; simpa using o8) g8 m8 (row_le (ownsRow_ext HT.out.s A) (by omega)) (row_le (ownsRow_ext HT.out.d A) (by omega)) (fun q hq => by have := (ownI_lt HT.out.s q hq).1; omega) (fun q hq => by have := (ownI_lt HT.out.d q hq).1; omega) HT.out.n).setCell (p := ⟨w.heap.size + 1, 0, none⟩) (by dsimp only; omega) (.slice va (j + 1) vc)
         rw [← HW.out] at hO8
         refine ⟨j + 1, by omega, by go_num, ⟨p + 13, by go_num, Lib.hid (by have := HP.out; omega)⟩, .slice va (j + 1) vc, .slice pa 0 pc, us ++ [.slice sa 3 sc, .slice da 8 dc], b8.set 0 _, ?_, ((HU.out.r.ext (tE.trans A)).gr g8 hnr).setOther (by dsimp only; omega) _, Ext.setNew (ext_grown (HE.out.trans (tE.trans A)) g8 (fun k hk => by have := hnR k hk; omega)) (by dsimp only; omega) _⟩
         rw [HS.out]
         exact hO8
        case measure => simp [intOf]; omega
   ·have hk2 : j = 25 := by omega
    subst hk2
    have HD := Lib.hid hD
    clear hD
    go_wp2_with fail
    go_loopw [6, 11] (fun u6 u11 wr => ∃ (o : Nat), o ≤ 3 ∧ u11 = .int .i64 o ∧ (∃ p : Nat, u6 = .int .i64 (p : Int) ∧ Hid (p = 325 + 2 * o)) ∧ ∃ (tv pv : Value) (us : List Value), SRel w { ts := pTs bs 25, ps := pPs bs o } tv pv us wr) (fun _ i _ => 3 - (intOf i).toNat)
    case atStart => exact ⟨0, Nat.zero_le _, rfl, ⟨p, rfl, HP⟩, _, _, _, HD.out⟩
    case round =>
     clear HD HP
     obtain ⟨n, hn, rfl, ⟨p, rfl, HP⟩, tv, pv, us, hD⟩ := hrel
     by_cases hn3 : n < 3
     ·obtain ⟨ta, tc, pa, pc, rfl, rfl⟩ := hD.o.sl
      have hE := hD.e
      have hB := hD.b
      have hO := hD.o
      have HR := Lib.hid hD.r
      have zR := hD.b.lt
      clear hD
      simp only [pTs_len, pPs_len] at hB hO
      have HO := Lib.hid hO
      have hps := hO.ps
      rw [pPs_len] at hps
      have x0 := hB.cell (i := 1) rfl
      have fz := fun i => hB.frozen i
      have hnb : (Value.slice pa n pc).ownBlock ≠ some (w.heap.size + 1) := fun e => by have := (World.ownsRow.lt hps _ e).1; omega
      have hnr : (Value.slice pa n pc).ownBlock ≠ some w.heap.size := fun e => by have := (World.ownsRow.lt hps _ e).1; omega
      have hnR : ∀ q, (Value.slice pa n pc).ownBlock = some q → w.heap.size + 1 < q := fun q e => by have := (World.ownsRow.lt hps _ e).1; omega
      have hp : p + 2 ≤ 331 := by have := HP.out; omega
      have q1 := HC.out p (by omega)
      obtain ⟨r, hr⟩ : ∃ r, r = p + 1 := ⟨_, rfl⟩
      have q2 := HC.out r (by omega)
      have bx := hb.get p (by omega)
      have p0 : (0 : Int) ≤ (p : Int) := by omega
      have p1 : (p : Int) < 333 := by omega
      have p2 : (r : Int) < 333 := by omega
      have p3 : (0 : Int) ≤ (r : Int) := by omega
      have e1 : IntKind.i64.wrap ((p : Int) + 1) = (r : Int) := by rw [show (p : Int) + 1 = (r : Int) from by omega]; exact wrapI (by omega) (by omega)
      obtain ⟨x, hx⟩ : ∃ x, x = bs.getD p 0 := ⟨_, rfl⟩
      obtain ⟨y, hy⟩ : ∃ y, y = bs.getD r 0 := ⟨_, rfl⟩
      rw [← hx] at q1 bx
      rw [← hy] at q2
      have hw : IntKind.i64.wrap x = x := wrapI (by omega) (by omega)
      have HX : Hid (pP bs p = (x, y == 1)) := Lib.hid (by rw [hx, hy, hr]; rfl)
      have HS := Lib.hid (pPs_succ bs n)
      clear hx hy hr hO
      go_wp2_with fail
      refine wp_regionT (fun w' => ((fun w' => (∀ b o, b < w.heap.size → w'.cell? ⟨b, o, none⟩ = w.cell? ⟨b, o, none⟩) ∧ Ext w w')) w' ∧ w'.cell? ⟨w.heap.size + 1, 1, none⟩ = some (.slice pa n pc)) 15 (by kernel_rfl) ?_
      have hS0 : ((fun w' => (∀ b o, b < w.heap.size → w'.cell? ⟨b, o, none⟩ = w.cell? ⟨b, o, none⟩) ∧ Ext w w')) wr.drew ∧ wr.drew.cell? ⟨w.heap.size + 1, 1, none⟩ = some (.slice pa n pc) := ⟨held_mk (hE.drew'), x0⟩
      dsimp only at hS0
      ((refine tkT 0 (v := ?_) rfl (by kernel_rfl) (by kernel_rfl) ?_ (by assumption) ?_; rotate_left; (intro wS hSw; (try dsimp only at hSw); go_simp; (try with_reducible rfl)); (try simp only [Act.put, lA, lB, lC])); (refine tkT 1 (v := ?_) rfl (by kernel_rfl) (by kernel_rfl) ?_ (by assumption) ?_; rotate_left; (intro wS hSw; (try dsimp only at hSw); go_simp; (try with_reducible rfl)); (try simp only [Act.put, lA, lB, lC])); (refine tkT 2 (v := ?_) rfl (by kernel_rfl) (by kernel_rfl) ?_ (by assumption) ?_; rotate_left; (intro wS hSw; (try dsimp only at hSw); go_simp; (try with_reducible rfl)); (try simp only [Act.put, lA, lB, lC])); (refine tkT 3 (v := ?_) rfl (by kernel_rfl) (by kernel_rfl) ?_ (by assumption) ?_; rotate_left; (intro wS hSw; (try dsimp only at hSw); go_simp; (try with_reducible rfl)); (try simp only [Act.put, lA, lB, lC])); (refine tkT 4 (v := ?_) rfl (by kernel_rfl) (by kernel_rfl) ?_ (by assumption) ?_; rotate_left; (intro wS hSw; (try dsimp only at hSw); go_simp; (try with_reducible rfl)); (try simp only [Act.put, lA, lB, lC])); (refine tkT 5 (v := ?_) rfl (by kernel_rfl) (by kernel_rfl) ?_ (by assumption) ?_; rotate_left; (intro wS hSw; (try dsimp only at hSw); go_simp; (try with_reducible rfl)); (try simp only [Act.put, lA, lB, lC])); (refine tkT 6 (v := ?_) rfl (by kernel_rfl) (by kernel_rfl) ?_ (by assumption) ?_; rotate_left; (intro wS hSw; (try dsimp only at hSw); go_simp; (try with_reducible rfl)); (try simp only [Act.put, lA, lB, lC])); (refine tkT 7 (v := ?_) rfl (by kernel_rfl) (by kernel_rfl) ?_ (by assumption) ?_; rotate_left; (intro wS hSw; (try dsimp only at hSw); go_simp; (try with_reducible rfl)); (try simp only [Act.put, lA, lB, lC])); (refine tkT 8 (v := ?_) rfl (by kernel_rfl) (by kernel_rfl) ?_ (by assumption) ?_; rotate_left; (intro wS hSw; (try dsimp only at hSw); go_simp; (try with_reducible rfl)); (try simp only [Act.put, lA, lB, lC])); (refine tkT 9 (v := ?_) rfl (by kernel_rfl) (by kernel_rfl) ?_ (by assumption) ?_; rotate_left; (intro wS hSw; (try dsimp only at hSw); go_simp; (try with_reducible rfl)); (try simp only [Act.put, lA, lB, lC])); (refine tkT 10 (v := ?_) rfl (by kernel_rfl) (by kernel_rfl) ?_ (by assumption) ?_; rotate_left; (intro wS hSw; (try dsimp only at hSw); go_simp; (try with_reducible rfl)); (try simp only [Act.put, lA, lB, lC])); (refine tkT 11 (v := ?_) rfl (by kernel_rfl) (by kernel_rfl) ?_ (by assumption) ?_; rotate_left; (intro wS hSw; (try dsimp only at hSw); go_simp; (try with_reducible rfl)); (try simp only [Act.put, lA, lB, lC])); (refine tkT 12 (v := ?_) rfl (by kernel_rfl) (by kernel_rfl) ?_ (by assumption) ?_; rotate_left; (intro wS hSw; (try dsimp only at hSw); go_simp; (try with_reducible rfl)); (try simp only [Act.put, lA, lB, lC])); (refine tkT 13 (v := ?_) rfl (by kernel_rfl) (by kernel_rfl) ?_ (by assumption) ?_; rotate_left; (intro wS hSw; (try dsimp only at hSw); go_simp; (try with_reducible rfl)); (try simp only [Act.put, lA, lB, lC])))
      (refine wpAnyT_do 14 (by kernel_rfl) rfl (fun K hK => ?_))
      go_simp
      have A3 : Ext wr (wr.drew.alloc (.cells #[.int .i64 x, .bool (y == 1)] 75)) := (Ext.drew wr).alloc _
      have B3 := hB.ext A3
      have hS3 := And.intro (held_mk (hE.trans A3)) (B3.cell (i := 1) rfl)
      (refine hK _ _ hS3 ?_; clear hK K; (try simp only [Act.put, lA, lB, lC]))
      (refine wpAnyT_do 15 (by kernel_rfl) rfl (fun K hK => ?_))
      have z2 := B3.lt
      refine step_app tyPads (ownsRow_ext hps A3) (RowAt.new wr.drew #[.int .i64 x, .bool (y == 1)] _) rfl (oneCell_flatP [(x, y == 1)]) (by omega) (by simp; omega) rfl rfl rfl rfl ?_
      intro v9 w9 p9 g9 m9
      obtain ⟨va, vc, rfl, _⟩ := ownsRow_row p9
      have b9 := B3.gr g9 hnb
      have f9 := fun i => b9.frozen i
      have E9 : Ext w w9 := ext_grown (hE.trans A3) g9 (fun k hk => by have := hnR k hk; omega)
      have hS4 := And.intro (held_mk E9) (b9.cell (i := 1) rfl)
      (refine hK _ _ hS4 ?_; clear hK K; (try simp only [Act.put, lA, lB, lC]))
      (refine wpAnyT_do 16 (by kernel_rfl) rfl (fun K hK => ?_))
      go_simp
      (refine hK _ _ hS4 ?_; clear hK K; (try simp only [Act.put, lA, lB, lC]))
      (refine wpAnyT_last 17 (by kernel_rfl) rfl (by decide) (by kernel_rfl) (fun K hK => ?_))
      go_simp
      (refine hK _ _ ?_; clear hK K; (try simp only [Act.put, lA, lB, lC]))
      have HO8 := Lib.hid (((HO.out.ext A3).appPad (y := (x, y == 1)) (v' := .slice va (n + 1) vc) (w' := w9) (by rw [pPs_len]; simpa using p9) g9 m9).setCell (p := ⟨w.heap.size + 1, 1, none⟩) (by dsimp only; omega) (.slice va (n + 1) vc))
      have HB8 := Lib.hid (b9.set 1 (.slice va (n + 1) vc))
      have HR8 := Lib.hid (((HR.out.ext A3).gr g9 hnr).setOther (p := ⟨w.heap.size + 1, 1, none⟩) (by dsimp only; omega) (.slice va (n + 1) vc))
      have HE8 : Hid (Ext w (w9.setCell ⟨w.heap.size + 1, 1, none⟩ (.slice va (n + 1) vc))) := Lib.hid (Ext.setNew E9 (by dsimp only; omega) _)
      have e2 : IntKind.i64.wrap ((p : Int) + 2) = (p : Int) + 2 := wrapI (by omega) (by omega)
      clear hS0 hS3 hS4 p9 g9 m9 b9 f9 E9 hps B3 A3 hE hB HO HR x0 fz q1 q2 e1
      go_wp2
      go_roundw
      case rel =>
       refine ⟨n + 1, by omega, by go_num, ⟨p + 2, by go_num, Lib.hid (by have := HP.out; omega)⟩, _, _, us, HB8.out, ?_, HR8.out, HE8.out⟩
       rw [HS.out, ← HP.out, HX.out]
       exact HO8.out
      case measure => simp [intOf]; omega
     ·have hn4 : n = 3 := by omega
      subst hn4
      obtain ⟨ta, tc, pa, pc, rfl, rfl⟩ := hD.o.sl
      have hB := hD.b
      have hR := hD.r
      have hE := hD.e
      have HE := Lib.hid hE
      have HO := Lib.hid hD.o
      have zR := hD.b.lt
      clear hD
      simp only [pTs_len, pPs_len] at hB HO
      have x0 := hB.cell (i := 0) rfl
      have x1 := hB.cell (i := 1) rfl
      have hLd := HO.out.at_ (by rw [pTs_len]; omega) (by rw [pPs_len]; omega) (confAt_pK_lens bs)
      have hK0 : ConfAt wr (pK bs) ta pa := hLd
      have T1 := Lib.hid (specConfigValid_c (pK bs) ta pa tc pc wr.drew (hK0.ext (Ext.drew wr)))
      have HK0 := Lib.hid hK0
      have HDB : Hid (decB bs = (encV (pK bs) == bs)) := Lib.hid (by unfold decB; rw [HL.out]; simp)
      clear hLd hK0
      cases hcb : confB (pK bs)
      ·rw [hcb] at T1
       have hd : decB bs = false := by
        rw [HDB.out, encV_no hcb]
        have := HL.out
        cases bs with
        | nil => simp at this
        | cons z zs => rfl
       have HV : Hid (decV bs = conf0) := Lib.hid (by unfold decV; rw [hd]; rfl)
       have HD := Lib.hid hd
       clear hd hcb
       go_wp2_with fail
       (refine wp_regionT ((fun w' => (∀ b o, b < wr.heap.size → w'.cell? ⟨b, o, none⟩ = wr.cell? ⟨b, o, none⟩) ∧ Ext wr w')) 10 (by kernel_rfl) ?_; have hS0 := held_mk (Ext.drew wr))
       ((refine tkT 0 (v := ?_) rfl (by kernel_rfl) (by kernel_rfl) ?_ (by assumption) ?_; rotate_left; (intro wS hSw; (try dsimp only at hSw); go_simp; (try with_reducible rfl)); (try simp only [Act.put, lA, lB, lC])))
       (refine wpAnyT_do 1 (by kernel_rfl) rfl (fun K hK => ?_))
       go_simp
       refine (T1.out).mono ?_
       rintro e w2 ⟨rfl, hE2⟩
       have hX2 := (Ext.drew wr).trans hE2
       have hS1 := held_mk hX2
       (refine hK _ _ hS1 ?_; clear hK K; (try simp only [Act.put, lA, lB, lC]))
       ((refine tkT 2 (v := ?_) rfl (by kernel_rfl) (by kernel_rfl) ?_ (by assumption) ?_; rotate_left; (intro wS hSw; (try dsimp only at hSw); go_simp; (try with_reducible rfl)); (try simp only [Act.put, lA, lB, lC])); (refine tkT 3 (v := ?_) rfl (by kernel_rfl) (by kernel_rfl) ?_ (by assumption) ?_; rotate_left; (intro wS hSw; (try dsimp only at hSw); go_simp; (try with_reducible rfl)); (try simp only [Act.put, lA, lB, lC])))
       ((refine wpAnyT_take 4 (v := undef) rfl (by kernel_rfl) (fun _ _ _ h => h) (Or.inr ⟨by kernel_rfl, rfl⟩) (by assumption) ?_; (try simp only [Act.put, lA, lB, lC])); (refine wpAnyT_take 5 (v := undef) rfl (by kernel_rfl) (fun _ _ _ h => h) (Or.inr ⟨by kernel_rfl, rfl⟩) (by assumption) ?_; (try simp only [Act.put, lA, lB, lC])); (refine wpAnyT_take 6 (v := undef) rfl (by kernel_rfl) (fun _ _ _ h => h) (Or.inr ⟨by kernel_rfl, rfl⟩) (by assumption) ?_; (try simp only [Act.put, lA, lB, lC])); (refine wpAnyT_take 7 (v := undef) rfl (by kernel_rfl) (fun _ _ _ h => h) (Or.inr ⟨by kernel_rfl, rfl⟩) (by assumption) ?_; (try simp only [Act.put, lA, lB, lC])); (refine wpAnyT_take 8 (v := undef) rfl (by kernel_rfl) (fun _ _ _ h => h) (Or.inr ⟨by kernel_rfl, rfl⟩) (by assumption) ?_; (try simp only [Act.put, lA, lB, lC])); (refine wpAnyT_take 9 (v := undef) rfl (by kernel_rfl) (fun _ _ _ h => h) (Or.inr ⟨by kernel_rfl, rfl⟩) (by assumption) ?_; (try simp only [Act.put, lA, lB, lC])))
       (refine wpAnyT_last 10 (by kernel_rfl) rfl (by decide) (by kernel_rfl) (fun K hK => ?_))
       go_simp
       (refine hK _ _ ?_; clear hK K; (try simp only [Act.put, lA, lB, lC]))
       have hR2 := hR.ext hX2
       have r0 := hR2.cell (i := 0) rfl
       have r1 := hR2.cell (i := 1) rfl
       have fz := fun i => hR2.frozen i
       have rl := hR2.lt
       have HE2 := Lib.hid (hE.trans hX2)
       clear hS0 hS1 hX2 hE2 hE hR hR2 hB x0 x1
       go_wp2
       refine bodyPost_ret (v := .tuple #[.agg #[vnil, vnil], .bool false]) (by simp [results, Try.results44, go_sem, r0, r1, vnil]) rfl ?_
       rw [HV.out, HD.out]
       exact ⟨_, _, [], rfl, OwnK.none_, Ext.setNew (Ext.setNew HE2.out (Nat.le_refl _) _) (Nat.le_refl _) _⟩
      ·rw [hcb] at T1
       have hcv : ∀ wS : World, Ext wr wS → (convert 22 9 (.slice (some ⟨b, o, none⟩) bs.length c)).run Try.prog wS = .ok (.string (strOfNums bs)) wS := fun wS hS => conv_byt (c := c) (HB0.out.ext (HE.out.trans hS)) rfl
       have hbe := toList_beq (encV_all (pK bs)) hb
       rw [← HDB.out] at hbe
       clear hcb
       go_wp2_with fail
       (refine wp_regionT ((fun w' => (∀ b o, b < wr.heap.size → w'.cell? ⟨b, o, none⟩ = wr.cell? ⟨b, o, none⟩) ∧ Ext wr w')) 10 (by kernel_rfl) ?_; have hS0 := held_mk (Ext.drew wr))
       ((refine tkT 0 (v := ?_) rfl (by kernel_rfl) (by kernel_rfl) ?_ (by assumption) ?_; rotate_left; (intro wS hSw; (try dsimp only at hSw); go_simp; (try with_reducible rfl)); (try simp only [Act.put, lA, lB, lC])))
       (refine wpAnyT_do 1 (by kernel_rfl) rfl (fun K hK => ?_))
       go_simp
       refine (T1.out).mono ?_
       rintro e w2 ⟨rfl, hE2⟩
       have hX2 := (Ext.drew wr).trans hE2
       have T2 := Lib.hid (specEncodeConfig_c (pK bs) ta pa tc pc w2 (HK0.out.ext hX2))
       have hS1 := held_mk hX2
       (refine hK _ _ hS1 ?_; clear hK K; (try simp only [Act.put, lA, lB, lC]))
       ((refine tkT 2 (v := ?_) rfl (by kernel_rfl) (by kernel_rfl) ?_ (by assumption) ?_; rotate_left; (intro wS hSw; (try dsimp only at hSw); go_simp; (try with_reducible rfl)); (try simp only [Act.put, lA, lB, lC])); (refine tkT 3 (v := ?_) rfl (by kernel_rfl) (by kernel_rfl) ?_ (by assumption) ?_; rotate_left; (intro wS hSw; (try dsimp only at hSw); go_simp; (try with_reducible rfl)); (try simp only [Act.put, lA, lB, lC])); (refine tkT 4 (v := ?_) rfl (by kernel_rfl) (by kernel_rfl) ?_ (by assumption) ?_; rotate_left; (intro wS hSw; (try dsimp only at hSw); go_simp; (try with_reducible rfl)); (try simp only [Act.put, lA, lB, lC])); (refine tkT 7 (v := ?_) rfl (by kernel_rfl) (by kernel_rfl) ?_ (by assumption) ?_; rotate_left; (intro wS hSw; (try dsimp only at hSw); go_simp; (try with_reducible rfl)); (try simp only [Act.put, lA, lB, lC])); (refine tkT 8 (v := ?_) rfl (by kernel_rfl) (by kernel_rfl) ?_ (by assumption) ?_; rotate_left; (intro wS hSw; (try dsimp only at hSw); go_simp; (try with_reducible rfl)); (try simp only [Act.put, lA, lB, lC])))
       (refine wpAnyT_do 5 (by kernel_rfl) rfl (fun K hK => ?_))
       go_simp
       refine (T2.out).mono ?_
       rintro e w3 ⟨v, rfl, hV, hE3⟩
       obtain ⟨va, vc, rfl, hVB⟩ := hV.opened
       have c2 := conv_byt (c := vc) hVB rfl
       have hX3 := hX2.trans hE3
       have hS3 := held_mk hX3
       clear hV hVB
       (refine hK _ _ hS3 ?_; clear hK K; (try simp only [Act.put, lA, lB, lC]))
       (refine wpAnyT_do 6 (by kernel_rfl) rfl (fun K hK => ?_))
       go_simp
       (refine hK _ _ hS3 ?_; clear hK K; (try simp only [Act.put, lA, lB, lC]))
       ((refine tkT 9 (v := ?_) rfl (by kernel_rfl) (by kernel_rfl) ?_ (by assumption) ?_; rotate_left; (intro wS hSw; (try dsimp only at hSw); go_simp; (try with_reducible rfl)); (try simp only [Act.put, lA, lB, lC])))
       (refine wpAnyT_last 10 (by kernel_rfl) rfl (by decide) (by kernel_rfl) (fun K hK => ?_))
       go_simp
       (refine hK _ _ ?_; clear hK K; (try simp only [Act.put, lA, lB, lC]))
       have hR2 := hR.ext hX3
       have r0 := hR2.cell (i := 0) rfl
       have r1 := hR2.cell (i := 1) rfl
       have fz := fun i => hR2.frozen i
       have rl := hR2.lt
       have x0' := (hB.ext hX3).cell (i := 0) rfl
       have x1' := (hB.ext hX3).cell (i := 1) rfl
       have HE2 := Lib.hid (hE.trans hX3)
       have HO3 := Lib.hid (HO.out.ext hX3)
       clear hS0 hS1 hX2 hX3 hS3 hE2 hE3 hE hR hR2 hB x0 x1 c2 hcv T1 T2
       cases hd : decB bs
       ·have HV : Hid (decV bs = conf0) := Lib.hid (by unfold decV; rw [hd]; rfl)
        rw [hd] at hbe
        have HD := Lib.hid hd
        clear hd
        go_wp2
        refine bodyPost_ret (v := .tuple #[.agg #[vnil, vnil], .bool false]) (by simp [results, Try.results44, go_sem, r0, r1, vnil]) rfl ?_
        rw [HV.out, HD.out]
        exact ⟨_, _, [], rfl, OwnK.none_, Ext.setNew (Ext.setNew HE2.out (Nat.le_refl _) _) (Nat.le_refl _) _⟩
       ·have HV : Hid (decV bs = pK bs) := Lib.hid (by unfold decV; rw [hd]; rfl)
        rw [hd] at hbe
        have HD := Lib.hid hd
        clear hd
        go_wp2
        refine bodyPost_ret (v := .tuple #[.agg #[.slice ta 25 tc, .slice pa 3 pc], .bool true]) (by simp [results, Try.results44, go_sem, r0, r1]) rfl ?_
        rw [HV.out, HD.out]
        exact ⟨_, _, us, rfl, (OwnK.setCell (p := ⟨w.heap.size, 1, none⟩) (OwnK.setCell (p := ⟨w.heap.size, 0, none⟩) HO3.out (by dsimp only; omega) _) (by dsimp only; omega) _).le (by omega), Ext.setNew (Ext.setNew HE2.out (Nat.le_refl _) _) (Nat.le_refl _) _⟩
 ·have hn1 : (bs.length : Int) ≠ 333 := by omega
  have hd : decB bs = false := by unfold decB; rw [show (bs.length == 333) = false from by simpa using hlen, Bool.and_false]
  have HV : Hid (decV bs = conf0) := Lib.hid (by unfold decV; rw [hd]; rfl)
  have HD := Lib.hid hd
  have r0 := (Blk.at w [vnil, vnil] 52 rfl).cell (i := 0) rfl
  clear hd hB hlen
  go_enter Try.func44, Try.ntmps44
  go_wp2
  refine bodyPost_ret (v := .tuple #[.agg #[vnil, vnil], .bool false]) (by simp [results, Try.results44, go_sem, vnil]) rfl ?_
  rw [HV.out, HD.out]
  exact ⟨_, _, [], rfl, OwnK.none_, by (repeat (first | with_reducible assumption | with_reducible exact Ext.refl _ | with_reducible refine Ext.drew' ?_ | with_reducible refine Ext.drewN' ?_ _ | with_reducible refine Ext.alloc ?_ _ | (with_reducible refine Ext.setNew ?_ (by first | exact Nat.le_refl _ | (simp; done) | (simp; omega) | omega) _)))⟩
end Go.Proofs.Ytgialedmbmfejaa

