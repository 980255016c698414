/- The program's empty configuration. -/
import Derived.Test.YtkdiniaddnhkdaaConfU
import Derived.Test.YtkdiniaddnhkdaaRegion2
namespace Go.Proofs.Ytkdiniaddnhkdaa
open Go.RowKit
set_option maxRecDepth 100000
set_option linter.unusedVariables false
set_option linter.unusedSimpArgs false
theorem tyTiles : RowTy Try.prog 22 85 4 64 := RowTy.mk' (z := .agg #[.int .i64 0, .slice none 0 0, .bool false, .slice none 0 0]) Try.underlying22 (by kernel_rfl) rfl (by decide) (by decide)
theorem tyPads : RowTy Try.prog 23 87 2 16 := RowTy.mk' (z := .agg #[.int .i64 0, .bool false]) Try.underlying23 (by kernel_rfl) rfl (by decide) (by decide)
def ERel (w : World) (j m : Nat) (wr : World) : Prop := ∃ tv pv us, Blk wr (w.heap.size + 1) 25 [tv, pv] ∧ OwnK wr (w.heap.size + 2) tv pv us { ts := List.replicate j etile, ps := List.replicate m (15, false) } ∧ Ext w wr ∧ Blk wr w.heap.size 25 [vnil, vnil]
set_option maxHeartbeats 1000000 in
theorem implEmptyConfig_c (w : World) : Calls Try.prog 13 #[] w (GiveK w econf) := by
  go_enter Try.func13, Try.ntmps13
  go_wp2_with fail
  go_loopw [3] (fun u wr => ∃ j : Nat, j ≤ 25 ∧ u = .int .i64 j ∧ ERel w j 0 wr) (fun i _ => 25 - (intOf i).toNat)
  case atStart => exact ⟨0, Nat.zero_le _, rfl, vnil, vnil, [], Blk.at _ _ _ (by simp), OwnK.none_, by (repeat (first | with_reducible assumption | with_reducible exact Ext.refl _ | with_reducible refine Ext.drew' ?_ | with_reducible refine Ext.drewN' ?_ _ | with_reducible refine Ext.alloc ?_ _ | (with_reducible refine Ext.setNew ?_ (by first | exact Nat.le_refl _ | (simp; done) | (simp; omega) | omega) _))), (Blk.at _ [vnil, vnil] _ rfl).alloc _⟩
  case round =>
    obtain ⟨j, hj, rfl, tv, pv, us, hB, hO, hE, hR⟩ := hrel
    by_cases hlt : j < 25
    · have x0 := hB.cell (i := 0) rfl
      have fz := fun i => hB.frozen i
      have bl := hB.lt
      obtain ⟨ta, tc, pa, pc, rfl, rfl⟩ := hO.sl
      simp only [List.length_replicate] at x0 hO hB
      have hrow := hO.ts.row
      simp only [List.length_replicate] at hrow
      have hnb : (Value.slice ta j tc).ownBlock ≠ some (w.heap.size + 1) := fun e => by have := (World.ownsRow.lt hrow _ e).1; omega
      have hnr : (Value.slice ta j tc).ownBlock ≠ some w.heap.size := fun e => by have := (World.ownsRow.lt hrow _ e).1; omega
      have hz := hE.size
      go_wp2_with fail
      refine wp_regionT (fun w' => ((fun w' => (∀ b o, b < w.heap.size → w'.cell? ⟨b, o, none⟩ = w.cell? ⟨b, o, none⟩) ∧ Ext w w')) w' ∧ w'.cell? ⟨w.heap.size + 1, 0, none⟩ = some (.slice ta j tc)) 4 (by kernel_rfl) ?_
      have hS0 : ((fun w' => (∀ b o, b < w.heap.size → w'.cell? ⟨b, o, none⟩ = w.cell? ⟨b, o, none⟩) ∧ Ext w w')) wr.drew ∧ wr.drew.cell? ⟨w.heap.size + 1, 0, none⟩ = some (.slice ta j tc) := ⟨held_mk (hE.drew'), x0⟩
      dsimp only at hS0
      ((refine wpAnyT_take 0 (v := ?_) rfl (by kernel_rfl) (fun _ _ _ h => h) (Or.inl ⟨by kernel_rfl, ?_⟩) (by assumption) ?_; rotate_left; (intro wS hSw; (try dsimp only at hSw); go_simp; (try with_reducible rfl)); (try simp only [Act.put, List.setIfInBounds_toArray, List.set_cons_zero, List.set_cons_succ])); (refine wpAnyT_take 1 (v := ?_) rfl (by kernel_rfl) (fun _ _ _ h => h) (Or.inl ⟨by kernel_rfl, ?_⟩) (by assumption) ?_; rotate_left; (intro wS hSw; (try dsimp only at hSw); go_simp; (try with_reducible rfl)); (try simp only [Act.put, List.setIfInBounds_toArray, List.set_cons_zero, List.set_cons_succ])))
      (refine wpAnyT_do 2 (by kernel_rfl) rfl (fun K hK => ?_))
      go_simp
      refine (emptyTile_c _).mono ?_
      rintro e w2 ⟨B1, B2, rfl, hB1, h12, hI1, hI2, hE2⟩
      have E2 : Ext wr w2 := (Ext.drew wr).trans hE2
      have hz2 := E2.size
      have hB1' : wr.heap.size ≤ B1 := by simpa using hB1
      have hS1 := And.intro (held_mk (hE.trans E2)) ((hB.ext E2).cell (i := 0) rfl)
      (refine hK _ _ hS1 ?_; clear hK K; (try simp only [Act.put, List.setIfInBounds_toArray, List.set_cons_zero, List.set_cons_succ]))
      (refine wpAnyT_do 3 (by kernel_rfl) rfl (fun K hK => ?_))
      go_simp
      have A3 : Ext w2 (w2.alloc (.cells #[.int .i64 0, .slice (some ⟨B1, 0, none⟩) 3 3, .bool false, .slice (some ⟨B2, 0, none⟩) 8 8] 85)) := (Ext.refl w2).alloc _
      have hS2 := And.intro (held_mk (hE.trans (E2.trans A3))) ((hB.ext (E2.trans A3)).cell (i := 0) rfl)
      (refine hK _ _ hS2 ?_; clear hK K; (try simp only [Act.put, List.setIfInBounds_toArray, List.set_cons_zero, List.set_cons_succ]))
      (refine wpAnyT_do 4 (by kernel_rfl) rfl (fun K hK => ?_))
      refine step_app tyTiles (ownsRow_ext hrow (E2.trans A3)) (RowAt.new w2 #[.int .i64 0, .slice (some ⟨B1, 0, none⟩) 3 3, .bool false, .slice (some ⟨B2, 0, none⟩) 8 8] _) rfl (by simp [Value.oneCell']) (by omega) (by simp; omega) rfl rfl rfl rfl ?_
      intro v9 w9 p9 g9 m9
      obtain ⟨va, vc, rfl, _⟩ := ownsRow_row p9
      have b9 := (hB.ext (E2.trans A3)).gr g9 hnb
      have f9 := fun i => b9.frozen i
      have E9 : Ext w w9 := ext_grown (hE.trans (E2.trans A3)) g9 (fun k hk => by have := (World.ownsRow.lt hrow k hk).1; omega)
      have hS4 := And.intro (held_mk E9) (b9.cell (i := 0) rfl)
      (refine hK _ _ hS4 ?_; clear hK K; (try simp only [Act.put, List.setIfInBounds_toArray, List.set_cons_zero, List.set_cons_succ]))
      (refine wpAnyT_do 5 (by kernel_rfl) rfl (fun K hK => ?_))
      go_simp
      (refine hK _ _ hS4 ?_; clear hK K; (try simp only [Act.put, List.setIfInBounds_toArray, List.set_cons_zero, List.set_cons_succ]))
      (refine wpAnyT_last 6 (by kernel_rfl) rfl (by decide) (by kernel_rfl) (fun K hK => ?_))
      go_simp
      (refine hK _ _ ?_; clear hK K; (try simp only [Act.put, List.setIfInBounds_toArray, List.set_cons_zero, List.set_cons_succ]))
      have HO8 : Hid (OwnK (w9.setCell ⟨w.heap.size + 1, 0, none⟩ (.slice va (j + 1) vc)) (w.heap.size + 2) (.slice va (j + 1) vc) (.slice pa 0 pc) (us ++ [.slice (some ⟨B1, 0, none⟩) 3 3, .slice (some ⟨B2, 0, none⟩) 8 8]) { ts := List.replicate j etile ++ [etile], ps := [] }) := Lib.hid ((hO.appTile (x := etile) (v' := .slice va (j + 1) vc) (w' := w9) (E2.trans A3) (by simpa [etile] using p9) g9 m9 (hI1.ext A3) (hI2.ext A3) hB1' (by omega) h12 (by simp [etile]) (by simp [etile])).setCell (p := ⟨w.heap.size + 1, 0, none⟩) (by simp) (.slice va (j + 1) vc))
      have HB8 := Lib.hid (b9.set 0 (.slice va (j + 1) vc))
      have HR8 := Lib.hid (((hR.ext (E2.trans A3)).gr g9 hnr).setOther (p := ⟨w.heap.size + 1, 0, none⟩) (by simp) (.slice va (j + 1) vc))
      have HE8 : Hid (Ext w (w9.setCell ⟨w.heap.size + 1, 0, none⟩ (.slice va (j + 1) vc))) := Lib.hid (Ext.setNew E9 (by simp) _)
      clear hS0 hS1 hS2 hS4 p9 g9 m9 b9 f9 E9 hB hO hR hrow hI1 hI2 hE2 E2 A3
      go_wp2
      go_roundw
      case rel =>
        refine ⟨j + 1, by omega, by go_num, _, _, us ++ [.slice (some ⟨B1, 0, none⟩) 3 3, .slice (some ⟨B2, 0, none⟩) 8 8], HB8.out, ?_, HE8.out, HR8.out⟩
        rw [show List.replicate (j + 1) etile = List.replicate j etile ++ [etile] from List.replicate_succ']
        exact HO8.out
      case measure => simp [intOf]; omega
    · have hk2 : j = 25 := by omega
      subst hk2
      go_wp2_with fail
      go_loopw [12] (fun u wr => ∃ j : Nat, j ≤ 3 ∧ u = .int .i64 j ∧ ERel w 25 j wr) (fun i _ => 3 - (intOf i).toNat)
      case atStart => exact ⟨0, Nat.zero_le _, rfl, tv, pv, us, hB, hO, hE, hR⟩
      case round =>
        clear hB hO hE hR
        obtain ⟨j, hj, rfl, tv, pv, us, hB, hO, hE, hR⟩ := hrel
        by_cases hlt : j < 3
        · have x0 := hB.cell (i := 1) rfl
          have fz := fun i => hB.frozen i
          have bl := hB.lt
          obtain ⟨ta, tc, pa, pc, rfl, rfl⟩ := hO.sl
          have hps := hO.ps
          simp only [List.length_replicate] at x0 hps hO hB
          have hnb : (Value.slice pa j pc).ownBlock ≠ some (w.heap.size + 1) := fun e => by have := (World.ownsRow.lt hps _ e).1; omega
          have hnr : (Value.slice pa j pc).ownBlock ≠ some w.heap.size := fun e => by have := (World.ownsRow.lt hps _ e).1; omega
          have hB2 := hB.alloc (.cells #[.int .i64 15, .bool false] 87)
          have hR2 := hR.alloc (.cells #[.int .i64 15, .bool false] 87)
          have hO2 := hO.ext ((Ext.refl wr).alloc (.cells #[.int .i64 15, .bool false] 87))
          have hE2 := hE.alloc (.cells #[.int .i64 15, .bool false] 87)
          have hps2 := ownsRow_ext hps ((Ext.refl wr).alloc (.cells #[.int .i64 15, .bool false] 87))
          have hz := hE.size
          go_wp2_with (at_builtin; go_loud (refine wpList_app tyPads hps2 (RowAt.new wr #[.int .i64 15, .bool false] _) rfl (oneCell_flatP [(15, false)]) (by omega) (by simp; omega) rfl rfl rfl rfl ?_); intro v' w8 o8 g8 m8; obtain ⟨va, vc, rfl, _⟩ := ownsRow_row o8; have b8 := hB2.gr g8 hnb; have x8 := b8.cell (i := 1) rfl; have f8 := (fun i => b8.frozen i); have l8 := b8.lt)
          go_roundw
          case rel =>
            have hL := World.ownsRow.lt hps
            have hO8 := (hO2.appPad (y := (15, false)) (v' := .slice va (j + 1) vc) (w' := w8) (by simpa using o8) g8 m8).setCell (p := ⟨w.heap.size + 1, 1, none⟩) (by simp) (.slice va (j + 1) vc)
            refine ⟨j + 1, by omega, by go_num, _, _, us, b8.set 1 _, ?_, Ext.setNew (ext_grown hE2 g8 (fun k hk => by have := (hL k hk).1; omega)) (by simp) _, (hR2.gr g8 hnr).setOther (by simp) _⟩
            rw [show List.replicate (j + 1) ((15 : Int), false) = List.replicate j (15, false) ++ [(15, false)] from List.replicate_succ']
            exact hO8
          case measure => simp [intOf]; omega
        · have hk2 : j = 3 := by omega
          subst hk2
          have x0 := hB.cell (i := 0) rfl
          have x1 := hB.cell (i := 1) rfl
          have y0 := hR.cell (i := 0) rfl
          have y1 := hR.cell (i := 1) rfl
          have fz := fun i => hR.frozen i
          have bl := hR.lt
          obtain ⟨ta, tc, pa, pc, rfl, rfl⟩ := hO.sl
          simp only [List.length_replicate] at x0 x1 hO hB
          have HO := Lib.hid hO
          have HE := Lib.hid hE
          clear hO hB hE
          go_wp2
          refine bodyPost_ret (v := .agg #[.slice ta 25 tc, .slice pa 3 pc]) (by simp [results, Try.results13, go_sem, y0, y1]) rfl ?_
          refine ⟨_, _, us, rfl, ?_, ?_⟩
          · exact (OwnK.setCell (p := ⟨w.heap.size, 1, none⟩) (OwnK.setCell (p := ⟨w.heap.size, 0, none⟩) HO.out (by simp) _) (by simp) _).le (by omega)
          · exact Ext.setNew (Ext.setNew HE.out (Nat.le_refl _) _) (Nat.le_refl _) _
end Go.Proofs.Ytkdiniaddnhkdaa
