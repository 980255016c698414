/- Contract: the program's DecodeConfig. -/
import Derived.Test.YtkdiniaddnhkdaaDecK
namespace Go.Proofs.Ytkdiniaddnhkdaa
open Go.RowKit
set_option maxRecDepth 100000
set_option linter.unusedVariables false
set_option linter.unusedSimpArgs false
theorem ownInts_of {w : World} {base n : Nat} {v : Value} {xs : List Int} (hn : xs.length = n) (h : w.ownsRow base 3 1 v n (xs.map (Value.int .i64))) : OwnInts w base 3 v xs := by
  subst hn; exact h
/-- A store into a block behind the reader's. -/
theorem RdP.set {w : World} {rb : Nat} {bs : List Int} {p b o : Nat} (h : RdP w rb bs p) (hq : rb < b) (u : Value) : RdP (w.setCell ⟨b, o, none⟩ u) rb bs p :=
  h.gr (gr_setOwn (Gr.refl w (some b)) o u) (fun k hk => by have e : b = k := Option.some.inj hk; omega)
set_option maxHeartbeats 4000000 in
theorem implDecodeConfig_c (bs : List Int) (a : Option Addr) (c : Nat) (w : World) (hB : BytAt w a bs) (hb : AllB bs) (hl : bs.length ≤ 1048576) (hc : bs.length ≤ c) (hc2 : c ≤ maxLen) :
    Calls Try.prog 38 #[.slice a bs.length c] w (GiveKB w (decV bs) (decB bs)) := by
  have HT := Lib.hid (dec_test bs)
  have W1 := (Ext.refl w).alloc (.cells #[vnil, vnil] 25)
  have hD0 : DRel w bs 0 { ts := [], ps := [] } vnil vnil [] (((w.alloc (.cells #[vnil, vnil] 25)).alloc (.cells #[.slice a bs.length c, .bool false] 120)).alloc (.cells #[vnil, vnil] 25)) := by
    refine ⟨Blk.at _ _ _ (by simp), OwnK.none_, ((Blk.at w [vnil, vnil] _ rfl).alloc _).alloc _, ?_, by (repeat (first | with_reducible assumption | with_reducible exact Ext.refl _ | with_reducible refine Ext.drew' ?_ | with_reducible refine Ext.drewN' ?_ _ | with_reducible refine Ext.alloc ?_ _ | (with_reducible refine Ext.setNew ?_ (by first | exact Nat.le_refl _ | (simp; done) | (simp; omega) | omega) _)))⟩
    refine ⟨a, bs.length, c, (Blk.at _ _ _ (by simp)).alloc _, by omega, hc, hc2, ?_, ?_⟩
    · rw [List.drop_zero]
      exact ((hB.ext W1).ext ((Ext.refl _).alloc _)).ext ((Ext.refl _).alloc _)
    · intro x hx h0
      rcases hB with rfl | ⟨b, o, rfl, hbl, _⟩
      · exact absurd rfl h0
      · cases hx
        dsimp only
        omega
  have HB0 := Lib.hid hB
  go_enter Try.func38, Try.ntmps38
  go_wp2_with fail
  go_loopw [11] (fun u wr => ∃ (j : Nat) (tv pv : Value) (us : List Value), j ≤ 25 ∧ u = .int .i64 j ∧ DRel w bs (13 * j) { ts := pTs bs j, ps := [] } tv pv us wr) (fun i _ => 25 - (intOf i).toNat)
  case atStart => exact ⟨0, _, _, _, Nat.zero_le _, rfl, hD0⟩
  case round =>
    obtain ⟨j, tv, pv, us, hj, rfl, hD⟩ := hrel
    clear hD0 W1
    by_cases hlt : j < 25
    · have T1 := Lib.hid (next_p wr (w.heap.size + 1) bs (13 * j) hb hl hD.d)
      obtain ⟨x, hx⟩ : ∃ x, x = bs.getD (13 * j) 0 := ⟨_, rfl⟩
      obtain ⟨f, hf⟩ : ∃ f, f = (bs.getD (13 * j + 1 + 3) 0 == 1) := ⟨_, rfl⟩
      have HX : Hid (pT bs (13 * j) = ⟨x, getN bs (13 * j + 1) 3, f, getN bs (13 * j + 1 + 3 + 1) 8⟩) := Lib.hid (by rw [hx, hf]; rfl)
      rw [← hx] at T1
      have HF := Lib.hid hf
      clear hx hf
      go_wp2_with fail
      refine (T1.out).mono ?_
      rintro e w1 ⟨rfl, hR1, hG1⟩
      have T2 := Lib.hid (many_c w1 (w.heap.size + 1) bs (13 * j + 1) 3 hb hl (by omega) hR1)
      go_wp2_with fail
      refine (T2.out).mono ?_
      rintro e w2 ⟨v1, rfl, hI1, hR2, hG2⟩
      have T3 := Lib.hid (flagR_c w2 (w.heap.size + 1) bs (13 * j + 1 + 3) hb hl hR2)
      rw [← HF.out] at T3
      go_wp2_with fail
      refine (T3.out).mono ?_
      rintro e w3 ⟨rfl, hR3, hG3⟩
      have T4 := Lib.hid (many_c w3 (w.heap.size + 1) bs (13 * j + 1 + 3 + 1) 8 hb hl (by omega) hR3)
      go_wp2_with fail
      refine (T4.out).mono ?_
      rintro e w4 ⟨v2, rfl, hI2, hR4, hG4⟩
      have hz := hD.e.size
      have hG := Gr.trans (Gr.trans (Gr.trans hG1 hG2) hG3) hG4
      have hO := hD.o.grown hG (by omega)
      have hB := hD.b.gr hG (fun e => by have e2 := Option.some.inj e; omega)
      have hR := hD.r.gr hG (fun e => by have e2 := Option.some.inj e; omega)
      have hE := ext_gr hD.e hG (by omega)
      have z1 := hG1.size
      have z2 := hG2.size
      have z3 := hG3.size
      have z4 := hG4.size
      have zR := hD.b.lt
      unfold OwnInts at hI1 hI2
      rw [getN_len] at hI1 hI2
      have hJ1 := own_gr hI1 (Gr.trans hG3 hG4) (by omega)
      obtain ⟨a1, c1, rfl, -⟩ := ownsRow_row hJ1
      obtain ⟨a2, c2, rfl, -⟩ := ownsRow_row hI2
      have N1 : ∀ q, (Value.slice a1 3 c1).ownBlock = some q → w1.heap.size ≤ q ∧ q < w2.heap.size := fun q hq => World.ownsRow.lt hI1 q hq
      have N2 : ∀ q, (Value.slice a2 8 c2).ownBlock = some q → w3.heap.size ≤ q := fun q hq => (World.ownsRow.lt hI2 q hq).1
      obtain ⟨ta, tc, pa, pc, rfl, rfl⟩ := hO.sl
      have HO0 := Lib.hid hD.o
      have HR4 := Lib.hid hR4
      simp only [pTs_len] at hO hB HO0
      have hrow := hO.ts.row
      simp only [pTs_len] at hrow
      have HS := Lib.hid (pTs_succ bs j)
      clear T1 T2 T3 T4 hD hR1 hR2 hR3 hR4 hG1 hG2 hG3 hG4 hI1
      have hnb : (Value.slice ta j tc).ownBlock ≠ some (w.heap.size + 1 + 1) := fun e => by have := (World.ownsRow.lt hrow _ e).1; omega
      have hnr : (Value.slice ta j tc).ownBlock ≠ some w.heap.size := fun e => by have := (World.ownsRow.lt hrow _ e).1; omega
      have hnR : ∀ q, (Value.slice ta j tc).ownBlock = some q → w.heap.size + 1 + 1 < q := fun q e => by have := (World.ownsRow.lt hrow _ e).1; omega
      have A : Ext w4 ((w4.alloc (.cells #[.int .i64 x, .slice a1 3 c1, .bool f, .slice a2 8 c2] 85)).alloc (.cells #[.int .i64 x, .slice a1 3 c1, .bool f, .slice a2 8 c2] 85)) := ((Ext.refl w4).alloc _).alloc _
      have A1 : Ext w4 (w4.alloc (.cells #[.int .i64 x, .slice a1 3 c1, .bool f, .slice a2 8 c2] 85)) := (Ext.refl w4).alloc _
      have x0 := (hB.ext A1).cell (i := 0) rfl
      have fz := fun i => (hB.ext A1).frozen i
      have bl := (hB.ext A1).lt
      have b3 := hB.ext A
      have hrow3 := ownsRow_ext hrow A
      have HO := Lib.hid hO
      have HR := Lib.hid hR
      have HJ1 := Lib.hid hJ1
      have HI2 := Lib.hid hI2
      clear hO hR hJ1 hI2 hB hrow
      go_wp2_with (at_builtin; go_loud (refine wpList_app tyTiles hrow3 (rowAtN (w4.alloc (.cells #[.int .i64 x, .slice a1 3 c1, .bool f, .slice a2 8 c2] 85)) #[.int .i64 x, .slice a1 3 c1, .bool f, .slice a2 8 c2] _ (B := w4.heap.size + 1) (by simp)) rfl (by simp [Value.oneCell']) (by omega) (by simp; omega) rfl rfl rfl rfl ?_); intro v' w8 o8 g8 m8; obtain ⟨va, vc, rfl, _⟩ := ownsRow_row o8; have b8 := b3.gr g8 hnb; have x8 := b8.cell (i := 0) rfl; have f8 := (fun i => b8.frozen i); have l8 := b8.lt)
      go_roundw
      case rel =>
        refine ⟨j + 1, .slice va (j + 1) vc, .slice pa 0 pc, us ++ [.slice a1 3 c1, .slice a2 8 c2], by omega, by go_num, ?_⟩
        have hO8 := (HO0.out.appTile3 (x := ⟨x, getN bs (13 * j + 1) 3, f, getN bs (13 * j + 1 + 3 + 1) 8⟩) (v' := .slice va (j + 1) vc) (w' := w8) (u1 := .slice a1 3 c1) (u2 := .slice a2 8 c2) (HO.out.ext A) (Nat.le_trans hG.size A.size) (by rw [pTs_len]; simpa using o8) g8 m8 (ownInts_of (getN_len _ _ _) (row_le (ownsRow_ext HJ1.out A) (by omega))) (ownInts_of (getN_len _ _ _) (row_le (ownsRow_ext HI2.out A) (by omega))) (fun q hq => by have := (N1 q hq).1; omega) (fun q hq => by have := N2 q hq; omega) (fun q hq e => by have := (N1 q hq).2; have := N2 q e; omega)).setCell (p := ⟨w.heap.size + 1 + 1, 0, none⟩) (by simp) (.slice va (j + 1) vc)
        rw [← HX.out] at hO8
        refine ⟨b8.set 0 _, ?_, ((HR.out.ext A).gr g8 hnr).setOther (by dsimp only; omega) _, ?_, Ext.setNew (ext_grown (hE.trans A) g8 (fun k hk => by have := hnR k hk; omega)) (by dsimp only; omega) _⟩
        · rw [HS.out]; exact hO8
        · exact ((RdP.gr HR4.out (Gr.ext A none) (fun k hk => by cases hk)).gr g8 (fun k hk => by have := hnR k hk; omega)).set (by omega) _
      case measure => simp [intOf]; omega
    · have hk2 : j = 25 := by omega
      subst hk2
      have HD := Lib.hid hD
      clear hD
      go_wp2_with fail
      go_loopw [29] (fun u wr => ∃ (o : Nat) (tv pv : Value) (us : List Value), o ≤ 3 ∧ u = .int .i64 o ∧ DRel w bs (325 + 2 * o) { ts := pTs bs 25, ps := pPs bs o } tv pv us wr) (fun i _ => 3 - (intOf i).toNat)
      case atStart => exact ⟨0, _, _, _, Nat.zero_le _, rfl, HD.out⟩
      case round =>
        clear HD
        obtain ⟨o, tv, pv, us, ho, rfl, hD⟩ := hrel
        by_cases ho3 : o < 3
        · obtain ⟨ta, tc, pa, pc, rfl, rfl⟩ := hD.o.sl
          have hd := hD.d
          have hE := hD.e
          have hB := hD.b
          have hO := hD.o
          have HR := Lib.hid hD.r
          have zR := hD.b.lt
          clear hD
          simp only [pTs_len, pPs_len] at hB hO
          have HO := Lib.hid hO
          have hps := hO.ps
          rw [pPs_len] at hps
          have x0 := hB.cell (i := 1) rfl
          have fz := fun i => hB.frozen i
          have hnb : (Value.slice pa o pc).ownBlock ≠ some (w.heap.size + 1 + 1) := fun e => by have := (World.ownsRow.lt hps _ e).1; omega
          have hnr : (Value.slice pa o pc).ownBlock ≠ some w.heap.size := fun e => by have := (World.ownsRow.lt hps _ e).1; omega
          have hnR : ∀ q, (Value.slice pa o pc).ownBlock = some q → w.heap.size + 1 + 1 < q := fun q e => by have := (World.ownsRow.lt hps _ e).1; omega
          obtain ⟨x, hx⟩ : ∃ x, x = bs.getD (325 + 2 * o) 0 := ⟨_, rfl⟩
          obtain ⟨f, hf⟩ : ∃ f, f = (bs.getD (325 + 2 * o + 1) 0 == 1) := ⟨_, rfl⟩
          have HX : Hid (pP bs (325 + 2 * o) = (x, f)) := Lib.hid (by rw [hx, hf]; rfl)
          have HS := Lib.hid (pPs_succ bs o)
          have T1 := Lib.hid (next_p wr.drew (w.heap.size + 1) bs (325 + 2 * o) hb hl (hd.gr (Gr.ext (Ext.drew wr) none) (fun k hk => by cases hk)))
          rw [← hx] at T1
          have HF := Lib.hid hf
          clear hx hf hd
          go_wp2_with fail
          refine wp_regionT (fun w' => ((fun w' => (∀ b o, b < w.heap.size → w'.cell? ⟨b, o, none⟩ = w.cell? ⟨b, o, none⟩) ∧ Ext w w')) w' ∧ w'.cell? ⟨w.heap.size + 1 + 1, 1, none⟩ = some (.slice pa o pc)) 8 (by kernel_rfl) ?_
          have hS0 : ((fun w' => (∀ b o, b < w.heap.size → w'.cell? ⟨b, o, none⟩ = w.cell? ⟨b, o, none⟩) ∧ Ext w w')) wr.drew ∧ wr.drew.cell? ⟨w.heap.size + 1 + 1, 1, none⟩ = some (.slice pa o pc) := ⟨held_mk (hE.drew'), x0⟩
          dsimp only at hS0
          ((refine wpAnyT_take 0 (v := ?_) rfl (by kernel_rfl) (fun _ _ _ h => h) (Or.inl ⟨by kernel_rfl, ?_⟩) (by assumption) ?_; rotate_left; (intro wS hSw; (try dsimp only at hSw); go_simp; (try with_reducible rfl)); (try simp only [Act.put, List.setIfInBounds_toArray, List.set_cons_zero, List.set_cons_succ])); (refine wpAnyT_take 1 (v := ?_) rfl (by kernel_rfl) (fun _ _ _ h => h) (Or.inl ⟨by kernel_rfl, ?_⟩) (by assumption) ?_; rotate_left; (intro wS hSw; (try dsimp only at hSw); go_simp; (try with_reducible rfl)); (try simp only [Act.put, List.setIfInBounds_toArray, List.set_cons_zero, List.set_cons_succ])); (refine wpAnyT_take 2 (v := ?_) rfl (by kernel_rfl) (fun _ _ _ h => h) (Or.inl ⟨by kernel_rfl, ?_⟩) (by assumption) ?_; rotate_left; (intro wS hSw; (try dsimp only at hSw); go_simp; (try with_reducible rfl)); (try simp only [Act.put, List.setIfInBounds_toArray, List.set_cons_zero, List.set_cons_succ])); (refine wpAnyT_take 4 (v := ?_) rfl (by kernel_rfl) (fun _ _ _ h => h) (Or.inl ⟨by kernel_rfl, ?_⟩) (by assumption) ?_; rotate_left; (intro wS hSw; (try dsimp only at hSw); go_simp; (try with_reducible rfl)); (try simp only [Act.put, List.setIfInBounds_toArray, List.set_cons_zero, List.set_cons_succ])))
          (refine wpAnyT_do 3 (by kernel_rfl) rfl (fun K hK => ?_))
          go_simp
          refine (T1.out).mono ?_
          rintro e w1 ⟨rfl, hR1, hG1⟩
          have T2 := Lib.hid (flagR_c w1 (w.heap.size + 1) bs (325 + 2 * o + 1) hb hl hR1)
          rw [← HF.out] at T2
          clear T1
          have hne : some (w.heap.size + 1) ≠ some (w.heap.size + 1 + 1) := fun e => by have e2 := Option.some.inj e; omega
          have B1 := (hB.ext (Ext.drew wr)).gr hG1 hne
          have E1 : Ext w w1 := ext_gr hE.drew' hG1 (by omega)
          have hS1 := And.intro (held_mk E1) (B1.cell (i := 1) rfl)
          (refine hK _ _ hS1 ?_; clear hK K; (try simp only [Act.put, List.setIfInBounds_toArray, List.set_cons_zero, List.set_cons_succ]))
          (refine wpAnyT_do 5 (by kernel_rfl) rfl (fun K hK => ?_))
          go_simp
          refine (T2.out).mono ?_
          rintro e w2 ⟨rfl, hR2, hG2⟩
          have B2 := B1.gr hG2 hne
          have E2 : Ext w w2 := ext_gr E1 hG2 (by omega)
          have hG := Gr.trans (Gr.trans (Gr.ext (Ext.drew wr) (some (w.heap.size + 1))) hG1) hG2
          have O2 := HO.out.grown hG (by omega)
          have R2 := HR.out.gr hG (fun e => by have e2 := Option.some.inj e; omega)
          have HR2 := Lib.hid hR2
          have hS2 := And.intro (held_mk E2) (B2.cell (i := 1) rfl)
          clear T2 hR1 hR2 hG1 hG2 hG hS0
          (refine hK _ _ hS2 ?_; clear hK K; (try simp only [Act.put, List.setIfInBounds_toArray, List.set_cons_zero, List.set_cons_succ]))
          ((refine wpAnyT_take 6 (v := ?_) rfl (by kernel_rfl) (fun _ _ _ h => h) (Or.inl ⟨by kernel_rfl, ?_⟩) (by assumption) ?_; rotate_left; (intro wS hSw; (try dsimp only at hSw); go_simp; (try with_reducible rfl)); (try simp only [Act.put, List.setIfInBounds_toArray, List.set_cons_zero, List.set_cons_succ])))
          (refine wpAnyT_do 7 (by kernel_rfl) rfl (fun K hK => ?_))
          go_simp
          have A3 : Ext w2 (w2.alloc (.cells #[.int .i64 x, .bool f] 87)) := (Ext.refl w2).alloc _
          have B3 := B2.ext A3
          have hS3 := And.intro (held_mk (E2.trans A3)) (B3.cell (i := 1) rfl)
          (refine hK _ _ hS3 ?_; clear hK K; (try simp only [Act.put, List.setIfInBounds_toArray, List.set_cons_zero, List.set_cons_succ]))
          (refine wpAnyT_do 8 (by kernel_rfl) rfl (fun K hK => ?_))
          have z2 := B2.lt
          have hps2 := ownsRow_ext O2.ps A3
          rw [pPs_len] at hps2
          refine step_app tyPads hps2 (RowAt.new w2 #[.int .i64 x, .bool f] _) rfl (oneCell_flatP [(x, f)]) (by omega) (by simp; omega) rfl rfl rfl rfl ?_
          intro v9 w9 p9 g9 m9
          obtain ⟨va, vc, rfl, _⟩ := ownsRow_row p9
          have b9 := B3.gr g9 hnb
          have f9 := fun i => b9.frozen i
          have E9 : Ext w w9 := ext_grown (E2.trans A3) g9 (fun k hk => by have := hnR k hk; omega)
          have hS4 := And.intro (held_mk E9) (b9.cell (i := 1) rfl)
          (refine hK _ _ hS4 ?_; clear hK K; (try simp only [Act.put, List.setIfInBounds_toArray, List.set_cons_zero, List.set_cons_succ]))
          (refine wpAnyT_do 9 (by kernel_rfl) rfl (fun K hK => ?_))
          go_simp
          (refine hK _ _ hS4 ?_; clear hK K; (try simp only [Act.put, List.setIfInBounds_toArray, List.set_cons_zero, List.set_cons_succ]))
          (refine wpAnyT_last 10 (by kernel_rfl) rfl (by decide) (by kernel_rfl) (fun K hK => ?_))
          go_simp
          (refine hK _ _ ?_; clear hK K; (try simp only [Act.put, List.setIfInBounds_toArray, List.set_cons_zero, List.set_cons_succ]))
          have HO8 := Lib.hid (((O2.ext A3).appPad (y := (x, f)) (v' := .slice va (o + 1) vc) (w' := w9) (by rw [pPs_len]; simpa using p9) g9 m9).setCell (p := ⟨w.heap.size + 1 + 1, 1, none⟩) (by simp) (.slice va (o + 1) vc))
          have HB8 := Lib.hid (b9.set 1 (.slice va (o + 1) vc))
          have HR8 := Lib.hid (((R2.ext A3).gr g9 hnr).setOther (p := ⟨w.heap.size + 1 + 1, 1, none⟩) (by dsimp only; omega) (.slice va (o + 1) vc))
          have HD8 := Lib.hid (((RdP.gr HR2.out (Gr.ext A3 none) (fun k hk => by cases hk)).gr g9 (fun k hk => by have := hnR k hk; omega)).set (b := w.heap.size + 1 + 1) (o := 1) (by omega) (.slice va (o + 1) vc))
          have HE8 : Hid (Ext w (w9.setCell ⟨w.heap.size + 1 + 1, 1, none⟩ (.slice va (o + 1) vc))) := Lib.hid (Ext.setNew E9 (by dsimp only; omega) _)
          clear hS1 hS2 hS3 hS4 p9 g9 m9 b9 f9 E9 hps2 hps O2 R2 E1 E2 B1 B2 B3 A3 hE hB hO HO HR x0 fz
          go_wp2
          go_roundw
          case rel =>
            refine ⟨o + 1, by omega, by go_num, _, _, us, HB8.out, ?_, HR8.out, HD8.out, HE8.out⟩
            rw [HS.out, HX.out]
            exact HO8.out
          case measure => simp [intOf]; omega
        · have hk3 : o = 3 := by omega
          subst hk3
          obtain ⟨ta, tc, pa, pc, rfl, rfl⟩ := hD.o.sl
          have hB := hD.b
          have hR := hD.r
          have HE := Lib.hid hD.e
          have HO := Lib.hid hD.o
          have zR := hD.b.lt
          have hE := hD.e
          obtain ⟨la, ln, lc, hY, hd⟩ := hD.d
          have y1 := hY.cell (i := 1) rfl
          clear hD hd
          simp only [pTs_len, pPs_len] at hB HO
          have x0 := hB.cell (i := 0) rfl
          have x1 := hB.cell (i := 1) rfl
          have r0 := hR.cell (i := 0) rfl
          have r1 := hR.cell (i := 1) rfl
          have fz := fun i => hR.frozen i
          have hLd := HO.out.at_ (by rw [pTs_len]; omega) (by rw [pPs_len]; omega) (confAt_pK_lens bs)
          cases hbad : decide (bs.length < 325 + 2 * 3)
          · rw [hbad] at y1
            have HT2 : Hid ((encV (pK bs) == bs) = decB bs) := Lib.hid (by
              have h1 : decide (331 ≤ bs.length) = true := by simp at hbad ⊢; omega
              have := HT.out
              rw [h1, Bool.true_and] at this
              exact this)
            have T1 := Lib.hid (implEncodeConfig_c (pK bs) ta pa tc pc wr hLd)
            clear hbad hLd
            go_wp2_with fail
            refine (T1.out).mono ?_
            rintro e w1 ⟨v, rfl, hV, hE1⟩
            obtain ⟨va, vc, rfl, hVB⟩ := hV.opened
            have T2 := Lib.hid (equal_c (c := vc) (c' := c) hVB rfl (HB0.out.ext (hE.trans hE1)) rfl (encV_all _) hb)
            rw [HT2.out] at T2
            have x0' := ((ecell hE1).1 _ 0 zR).trans x0
            have x1' := ((ecell hE1).1 _ 1 zR).trans x1
            have zz : w.heap.size < wr.heap.size := by omega
            have r0' := ((ecell hE1).1 _ 0 zz).trans r0
            have r1' := ((ecell hE1).1 _ 1 zz).trans r1
            have hR1 := hR.ext hE1
            have fz1 := fun i => hR1.frozen i
            have zr1 := hR1.lt
            have HOk := Lib.hid (HO.out.ext hE1)
            have HE1 := Lib.hid (hE.trans hE1)
            clear T1 hV hVB hE1 hE x0 x1 r0 r1 fz
            cases hd : decB bs
            · rw [hd] at T2
              have HV : Hid (decV bs = conf0) := Lib.hid (by unfold decV; rw [hd]; rfl)
              have HD := Lib.hid hd
              clear hd
              go_wp2_with fail
              refine (T2.out).mono ?_
              rintro e w2 ⟨rfl, rfl⟩
              go_wp2
              refine bodyPost_ret (v := .tuple #[.agg #[vnil, vnil], .bool false]) (by simp [results, Try.results38, go_sem, r0', r1', vnil]) rfl ?_
              rw [HV.out, HD.out]
              exact ⟨_, _, [], rfl, OwnK.none_, Ext.setNew (Ext.setNew HE1.out (Nat.le_refl _) _) (Nat.le_refl _) _⟩
            · rw [hd] at T2
              have HV : Hid (decV bs = pK bs) := Lib.hid (by unfold decV; rw [hd]; rfl)
              have HD := Lib.hid hd
              clear hd
              go_wp2_with fail
              refine (T2.out).mono ?_
              rintro e w2 ⟨rfl, rfl⟩
              go_wp2
              refine bodyPost_ret (v := .tuple #[.agg #[.slice ta 25 tc, .slice pa 3 pc], .bool true]) (by simp [results, Try.results38, go_sem, r0', r1']) rfl ?_
              rw [HV.out, HD.out]
              exact ⟨_, _, us, rfl, (OwnK.setCell (p := ⟨w.heap.size, 1, none⟩) (OwnK.setCell (p := ⟨w.heap.size, 0, none⟩) HOk.out (by dsimp only; omega) _) (by dsimp only; omega) _).le (by omega), Ext.setNew (Ext.setNew HE1.out (Nat.le_refl _) _) (Nat.le_refl _) _⟩
          · rw [hbad] at y1
            have hd : decB bs = false := by
              have h1 : decide (331 ≤ bs.length) = false := by simp at hbad ⊢; omega
              have := HT.out
              rw [h1, Bool.false_and] at this
              exact this.symm
            have HV : Hid (decV bs = conf0) := Lib.hid (by unfold decV; rw [hd]; rfl)
            have HD := Lib.hid hd
            have rl := hR.lt
            clear hd hbad hLd
            go_wp2
            refine bodyPost_ret (v := .tuple #[.agg #[vnil, vnil], .bool false]) (by simp [results, Try.results38, go_sem, r0, r1, vnil]) rfl ?_
            rw [HV.out, HD.out]
            exact ⟨_, _, [], rfl, OwnK.none_, Ext.setNew (Ext.setNew HE.out (Nat.le_refl _) _) (Nat.le_refl _) _⟩
end Go.Proofs.Ytkdiniaddnhkdaa
