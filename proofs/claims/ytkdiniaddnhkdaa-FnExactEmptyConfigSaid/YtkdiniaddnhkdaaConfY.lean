/- The reference's empty configuration. -/
import Derived.Test.YtkdiniaddnhkdaaConfX
import Derived.Test.YtkdiniaddnhkdaaConfU2
namespace Go.Proofs.Ytkdiniaddnhkdaa
open Go.RowKit
set_option maxRecDepth 100000
set_option linter.unusedVariables false
set_option linter.unusedSimpArgs false
/-- The tile's box while its selectors are put in. -/
def TRel (w0 : World) (n : Nat) (wr : World) : Prop := ∃ sa sc, Blk wr (w0.heap.size + 1) 85 [.int .i64 0, .slice sa n sc, .bool false, .slice (some ⟨w0.heap.size, 0, none⟩) 8 8] ∧ OwnInts wr (w0.heap.size + 2) 3 (.slice sa n sc) (List.replicate n 15) ∧ Blk wr w0.heap.size 3 ((List.replicate 8 (0 : Int)).map (Value.int .i64)) ∧ Ext w0 wr
set_option maxHeartbeats 1000000 in
theorem specEmptyConfig_c (w : World) : Calls Try.prog 12 #[] w (GiveK w econf) := by
  have hm := make8
  go_enter Try.func12, Try.ntmps12
  go_wp2_with fail
  go_loopw [2] (fun u wr => ∃ j : Nat, j ≤ 25 ∧ u = .int .i64 j ∧ ERel w j 0 wr) (fun i _ => 25 - (intOf i).toNat)
  case atStart => exact ⟨0, Nat.zero_le _, rfl, vnil, vnil, [], Blk.at _ _ _ (by simp), OwnK.none_, by (repeat (first | with_reducible assumption | with_reducible exact Ext.refl _ | with_reducible refine Ext.drew' ?_ | with_reducible refine Ext.drewN' ?_ _ | with_reducible refine Ext.alloc ?_ _ | (with_reducible refine Ext.setNew ?_ (by first | exact Nat.le_refl _ | (simp; done) | (simp; omega) | omega) _))), (Blk.at _ [vnil, vnil] _ rfl).alloc _⟩
  case round =>
    obtain ⟨j, hj, rfl, tv, pv, us, hB, hO, hE, hR⟩ := hrel
    by_cases hlt : j < 25
    · obtain ⟨w1, rfl⟩ : ∃ x : World, x = wr := ⟨_, rfl⟩
      go_wp2_with fail
      go_loopw [4] (fun u wr => ∃ n : Nat, n ≤ 3 ∧ u = .int .i64 n ∧ TRel w1 n wr) (fun i _ => 3 - (intOf i).toNat)
      case atStart => exact ⟨0, Nat.zero_le _, rfl, none, 0, Blk.at _ _ _ (by simp), ownsRow_nil, (Blk.at _ _ _ rfl).alloc _, by (repeat (first | with_reducible assumption | with_reducible exact Ext.refl _ | with_reducible refine Ext.drew' ?_ | with_reducible refine Ext.drewN' ?_ _ | with_reducible refine Ext.alloc ?_ _ | (with_reducible refine Ext.setNew ?_ (by first | exact Nat.le_refl _ | (simp; done) | (simp; omega) | omega) _)))⟩
      case round =>
        obtain ⟨n, hn, rfl, sa, sc, tB, tO, tD, tE⟩ := hrel
        by_cases hn3 : n < 3
        · have x0 := tB.cell (i := 1) rfl
          have fz := fun i => tB.frozen i
          have bl := tB.lt
          have tO2 : wr.ownsRow (w1.heap.size + 2) 3 1 (.slice sa n sc) n ((List.replicate n (15 : Int)).map (Value.int .i64)) := by have := tO; unfold OwnInts at this; simpa using this
          have nb : (Value.slice sa n sc).ownBlock ≠ some (w1.heap.size + 1) := fun e => by have := (World.ownsRow.lt tO2 _ e).1; omega
          have nd : (Value.slice sa n sc).ownBlock ≠ some w1.heap.size := fun e => by have := (World.ownsRow.lt tO2 _ e).1; omega
          have A := (Ext.refl wr).alloc (.cells #[.int .i64 15] 3)
          have tB2 := tB.ext A
          have tD2 := tD.ext A
          have hz := tE.size
          have tO3 := ownsRow_ext tO2 A
          go_wp2_with (at_builtin; go_loud (refine wpList_app tyInts tO3 (RowAt.new wr #[.int .i64 15] _) rfl (oneCell_int1 _) (by omega) (by simp; omega) rfl rfl rfl rfl ?_); intro v' w8 o8 g8 m8; obtain ⟨va, vc, rfl, _⟩ := ownsRow_row o8; have b8 := tB2.gr g8 nb; have x8 := b8.cell (i := 1) rfl; have f8 := (fun i => b8.frozen i); have l8 := b8.lt)
          go_roundw
          case rel =>
            refine ⟨n + 1, by omega, by go_num, va, vc, b8.set 1 _, ?_, (tD2.gr g8 nd).setOther (by simp) _, Ext.setNew (ext_grown (tE.trans A) g8 (fun k hk => by have := (World.ownsRow.lt tO2 k hk).1; omega)) (by simp) _⟩
            have := ownsRow_set o8 (p := ⟨w1.heap.size + 1, 1, none⟩) (by intro h; have := (o8.lt _ h).1; dsimp only at this; omega) (.slice va (n + 1) vc)
            unfold OwnInts
            rw [show List.replicate (n + 1) (15 : Int) = List.replicate n 15 ++ [15] from List.replicate_succ']
            simpa using this
          case measure => simp [intOf]; omega
        · have hn4 : n = 3 := by omega
          subst hn4
          obtain ⟨ta, tc, pa, pc, rfl, rfl⟩ := hO.sl
          simp only [List.length_replicate] at hO hB
          have hrow := hO.ts.row
          simp only [List.length_replicate] at hrow
          have hnb : (Value.slice ta j tc).ownBlock ≠ some (w.heap.size + 1) := fun e => by have := (World.ownsRow.lt hrow _ e).1; omega
          have hnr : (Value.slice ta j tc).ownBlock ≠ some w.heap.size := fun e => by have := (World.ownsRow.lt hrow _ e).1; omega
          have hz := hB.lt
          have hz2 := tE.size
          have tO1 := ownI_lt tO
          have y0 := tB.cell (i := 0) rfl
          have y1 := tB.cell (i := 1) rfl
          have y2 := tB.cell (i := 2) rfl
          have y3 := tB.cell (i := 3) rfl
          have x0 := (hB.ext tE).cell (i := 0) rfl
          have fz := fun i => (hB.ext tE).frozen i
          have bl := (hB.ext tE).lt
          have tl := tB.lt
          have A := (Ext.refl wr).alloc (.cells #[.int .i64 0, .slice sa 3 sc, .bool false, .slice (some ⟨w1.heap.size, 0, none⟩) 8 8] 85)
          have hrow3 := ownsRow_ext hrow (tE.trans A)
          have b3 := hB.ext (tE.trans A)
          have HR := Lib.hid hR
          have HO := Lib.hid hO
          have HT := Lib.hid tO
          have HD := Lib.hid tD
          clear hR hO tO tD hB
          go_wp2_with (at_builtin; go_loud (refine wpList_app tyTiles hrow3 (RowAt.new wr #[.int .i64 0, .slice sa 3 sc, .bool false, .slice (some ⟨w1.heap.size, 0, none⟩) 8 8] _) rfl (by simp [Value.oneCell']) (by omega) (by simp; omega) rfl rfl rfl rfl ?_); intro v' w8 o8 g8 m8; obtain ⟨va, vc, rfl, _⟩ := ownsRow_row o8; have b8 := b3.gr g8 hnb; have x8 := b8.cell (i := 0) rfl; have f8 := (fun i => b8.frozen i); have l8 := b8.lt)
          go_roundw
          case rel =>
            have o2 : OwnInts (wr.alloc (.cells #[.int .i64 0, .slice sa 3 sc, .bool false, .slice (some ⟨w1.heap.size, 0, none⟩) 8 8] 85)) (w.heap.size + 2) 3 (.slice (some ⟨w1.heap.size, 0, none⟩) 8 8) (List.replicate 8 0) := (HD.out.ext A).owns (n := 8) (size := 1) (by simp) (by omega) (by decide)
            have hO8 := (HO.out.appTile2 (x := etile) (v' := .slice va (j + 1) vc) (w' := w8) (u1 := .slice sa 3 sc) (u2 := .slice (some ⟨w1.heap.size, 0, none⟩) 8 8) (tE.trans A) (by simpa [etile] using o8) g8 m8 (ownI_le (HT.out.ext A) (by omega)) o2 (fun q hq => by have := (tO1 q hq).1; omega) (fun q hq => by have e2 : w1.heap.size = q := Option.some.inj hq; omega) (fun q hq e => by have := (tO1 q hq).1; have e2 : w1.heap.size = q := Option.some.inj e; omega)).setCell (p := ⟨w.heap.size + 1, 0, none⟩) (by simp) (.slice va (j + 1) vc)
            refine ⟨j + 1, by omega, by go_num, _, _, us ++ [.slice sa 3 sc, .slice (some ⟨w1.heap.size, 0, none⟩) 8 8], b8.set 0 _, ?_, Ext.setNew (ext_grown (hE.trans (tE.trans A)) g8 (fun k hk => by have := (World.ownsRow.lt hrow k hk).1; omega)) (by simp) _, ((HR.out.ext (tE.trans A)).gr g8 hnr).setOther (by simp) _⟩
            rw [show List.replicate (j + 1) etile = List.replicate j etile ++ [etile] from List.replicate_succ']
            exact hO8
          case measure => simp [intOf]; omega
    · have hk2 : j = 25 := by omega
      subst hk2
      go_wp2_with fail
      go_loopw [5] (fun u wr => ∃ j : Nat, j ≤ 3 ∧ u = .int .i64 j ∧ ERel w 25 j wr) (fun i _ => 3 - (intOf i).toNat)
      case atStart => exact ⟨0, Nat.zero_le _, rfl, tv, pv, us, hB, hO, hE, hR⟩
      case round =>
        clear hB hO hE hR
        obtain ⟨j, hj, rfl, tv, pv, us, hB, hO, hE, hR⟩ := hrel
        by_cases hlt : j < 3
        · have x0 := hB.cell (i := 1) rfl
          have fz := fun i => hB.frozen i
          have bl := hB.lt
          obtain ⟨ta, tc, pa, pc, rfl, rfl⟩ := hO.sl
          have hps := hO.ps
          simp only [List.length_replicate] at x0 hps hO hB
          have hnb : (Value.slice pa j pc).ownBlock ≠ some (w.heap.size + 1) := fun e => by have := (World.ownsRow.lt hps _ e).1; omega
          have hnr : (Value.slice pa j pc).ownBlock ≠ some w.heap.size := fun e => by have := (World.ownsRow.lt hps _ e).1; omega
          have hB2 := hB.alloc (.cells #[.int .i64 15, .bool false] 87)
          have hR2 := hR.alloc (.cells #[.int .i64 15, .bool false] 87)
          have hO2 := hO.ext ((Ext.refl wr).alloc (.cells #[.int .i64 15, .bool false] 87))
          have hE2 := hE.alloc (.cells #[.int .i64 15, .bool false] 87)
          have hps2 := ownsRow_ext hps ((Ext.refl wr).alloc (.cells #[.int .i64 15, .bool false] 87))
          have hz := hE.size
          go_wp2_with (at_builtin; go_loud (refine wpList_app tyPads hps2 (RowAt.new wr #[.int .i64 15, .bool false] _) rfl (oneCell_flatP [(15, false)]) (by omega) (by simp; omega) rfl rfl rfl rfl ?_); intro v' w8 o8 g8 m8; obtain ⟨va, vc, rfl, _⟩ := ownsRow_row o8; have b8 := hB2.gr g8 hnb; have x8 := b8.cell (i := 1) rfl; have f8 := (fun i => b8.frozen i); have l8 := b8.lt)
          go_roundw
          case rel =>
            have hL := World.ownsRow.lt hps
            have hO8 := (hO2.appPad (y := (15, false)) (v' := .slice va (j + 1) vc) (w' := w8) (by simpa using o8) g8 m8).setCell (p := ⟨w.heap.size + 1, 1, none⟩) (by simp) (.slice va (j + 1) vc)
            refine ⟨j + 1, by omega, by go_num, _, _, us, b8.set 1 _, ?_, Ext.setNew (ext_grown hE2 g8 (fun k hk => by have := (hL k hk).1; omega)) (by simp) _, (hR2.gr g8 hnr).setOther (by simp) _⟩
            rw [show List.replicate (j + 1) ((15 : Int), false) = List.replicate j (15, false) ++ [(15, false)] from List.replicate_succ']
            exact hO8
          case measure => simp [intOf]; omega
        · have hk2 : j = 3 := by omega
          subst hk2
          have x0 := hB.cell (i := 0) rfl
          have x1 := hB.cell (i := 1) rfl
          have y0 := hR.cell (i := 0) rfl
          have y1 := hR.cell (i := 1) rfl
          have fz := fun i => hR.frozen i
          have bl := hR.lt
          obtain ⟨ta, tc, pa, pc, rfl, rfl⟩ := hO.sl
          simp only [List.length_replicate] at x0 x1 hO hB
          have HO := Lib.hid hO
          have HE := Lib.hid hE
          clear hO hB hE
          go_wp2
          refine bodyPost_ret (v := .agg #[.slice ta 25 tc, .slice pa 3 pc]) (by simp [results, Try.results12, go_sem, y0, y1]) rfl ?_
          refine ⟨_, _, us, rfl, ?_, ?_⟩
          · exact (OwnK.setCell (p := ⟨w.heap.size, 1, none⟩) (OwnK.setCell (p := ⟨w.heap.size, 0, none⟩) HO.out (by simp) _) (by simp) _).le (by omega)
          · exact Ext.setNew (Ext.setNew HE.out (Nat.le_refl _) _) (Nat.le_refl _) _
end Go.Proofs.Ytkdiniaddnhkdaa
