/- Contract: the reference's EncodeConfig. -/
import Derived.Test.YtkdiniaddnhkdaaEncC
import Derived.Test.YtkdiniaddnhkdaaRegion2
namespace Go.Proofs.Ytkdiniaddnhkdaa
open Go.RowKit
set_option maxRecDepth 100000
set_option linter.unusedVariables false
set_option linter.unusedSimpArgs false
set_option maxHeartbeats 4000000 in
theorem specEncodeConfig_c (k : Conf) (ta pa : Option Addr) (tc pc : Nat) (w : World) (hk : ConfAt w k ta pa) :
    Calls Try.prog 31 #[.agg #[.slice ta k.ts.length tc, .slice pa k.ps.length pc]] w (GiveY w (encV k)) := by
  have y := (Blk.at w [.slice ta k.ts.length tc, .slice pa k.ps.length pc] 25 rfl).alloc (.cells #[] 5)
  have Ey : Ext w (w.alloc (.cells #[.slice ta k.ts.length tc, .slice pa k.ps.length pc] 25)) := (Ext.refl w).alloc _
  have Ey2 : Ext w ((w.alloc (.cells #[.slice ta k.ts.length tc, .slice pa k.ps.length pc] 25)).alloc (.cells #[] 5)) := Ey.alloc _
  have N0 : OwnY ((w.alloc (.cells #[.slice ta k.ts.length tc, .slice pa k.ps.length pc] 25)).alloc (.cells #[] 5)) (w.heap.size + 1) (.slice (some ⟨w.heap.size + 1, 0, none⟩) 0 0) [] := (Blk.at (w.alloc (.cells #[.slice ta k.ts.length tc, .slice pa k.ps.length pc] 25)) [] 5 (B := w.heap.size + 1) (by simp)).owns (n := 0) (size := 1) rfl (Nat.le_refl _) (by decide)
  have T1 := Lib.hid (specConfigValid_c k ta pa tc pc)
  cases hb : confB k
  · rw [hb] at T1
    have HV : Hid (encV k = []) := Lib.hid (by unfold encV; rw [hb]; rfl)
    obtain ⟨V, hV⟩ : ∃ V, V = encV k := ⟨_, rfl⟩
    rw [← hV] at HV ⊢
    clear hb hV
    go_enter Try.func31, Try.ntmps31
    go_wp2_with fail
    refine (T1.out _ (hk.ext Ey2)).mono ?_
    rintro e w1 ⟨rfl, hE1⟩
    go_wp2
    go_ret
    exact ⟨_, rfl, by rw [HV.out]; exact (N0.ext hE1).le (by omega), Ey2.trans hE1⟩
  · rw [hb] at T1
    have HOk := Lib.hid (confB_iff.1 hb)
    have HV : Hid (encV k = bodyV k ++ [sumV (bodyV k) / 256, sumV (bodyV k) % 256]) := Lib.hid (by unfold encV; rw [hb]; rfl)
    obtain ⟨V, hV⟩ : ∃ V, V = encV k := ⟨_, rfl⟩
    rw [← hV] at HV ⊢
    clear hb hV
    have hts := hk.ts
    have hps := hk.ps
    obtain ⟨lt1, lt2⟩ : k.ts.length ≤ 25 ∧ 25 ≤ k.ts.length := by have := HOk.out.lt; omega
    obtain ⟨lp1, lp2⟩ : k.ps.length ≤ 3 ∧ 3 ≤ k.ps.length := by have := HOk.out.lp; omega
    go_enter Try.func31, Try.ntmps31
    go_wp2_with fail
    refine (T1.out _ (hk.ext Ey2)).mono ?_
    rintro e w1 ⟨rfl, hE1⟩
    have R0 : EncO w [.slice ta k.ts.length tc, .slice pa k.ps.length pc] (.slice (some ⟨w.heap.size + 1, 0, none⟩) 0 0) [] w1 := ⟨N0.ext hE1, y.ext hE1, Ey2.trans hE1⟩
    clear y hk T1 N0 Ey2
    go_wp2_with fail
    go_loopw [3, 4] (fun u3 u19 wr => ∃ (j : Nat) (xs : List Int), j ≤ k.ts.length ∧ u19 = .int .i64 j ∧ Hid (xs = encTs (k.ts.take j)) ∧ xs.length ≤ 13 * j ∧ EncO w [.slice ta k.ts.length tc, .slice pa k.ps.length pc] u3 xs wr) (fun _ i _ => k.ts.length - (intOf i).toNat)
    case atStart => exact ⟨0, [], Nat.zero_le _, rfl, Lib.hid (by simp [encTs]), by simp, R0⟩
    case round =>
      clear R0 hE1
      obtain ⟨j, xs, hj, rfl, hXS, hxl, hR⟩ := hrel
      have y0 := hR.box.cell (i := 0) rfl
      have y1 := hR.box.cell (i := 1) rfl
      have yl := hR.box.lt
      by_cases hlt : j < k.ts.length
      · obtain ⟨b, o, rfl, hb, hcc⟩ := hts.get (by omega)
        obtain ⟨sa, sc, da, dc, q0, q1, q2, q3, hsl, hdr⟩ := hcc j hlt
        have hok := HOk.out.tile (j := j) (by omega)
        have hE := hR.ext
        replace q0 := ((ecell hE).1 b _ hb).trans q0
        replace q1 := ((ecell hE).1 b _ hb).trans q1
        replace q2 := ((ecell hE).1 b _ hb).trans q2
        replace q3 := ((ecell hE).1 b _ hb).trans q3
        have hb2 := Nat.lt_of_lt_of_le hb hE.size
        have hst := encTs_take hlt
        obtain ⟨x, hx⟩ : ∃ x, x = k.ts.getD j tile0 := ⟨_, rfl⟩
        rw [← hx] at q0 q1 q2 q3 hsl hdr hok hst
        rw [← hXS.out, encT_parts x xs hok.ls hok.ld] at hst
        have HST := Lib.hid hst
        have HO := Lib.hid hok
        have wtb := wrap8 hok.t0 hok.t1
        have ls := hok.ls
        have ld := hok.ld
        obtain ⟨ls1, ls2⟩ : x.sl.length ≤ 3 ∧ 3 ≤ x.sl.length := by omega
        obtain ⟨ld1, ld2⟩ : x.dr.length ≤ 8 ∧ 8 ≤ x.dr.length := by omega
        obtain ⟨w2, rfl⟩ : ∃ z : World, z = wr := ⟨_, rfl⟩
        have hP := hR.put [.int .i64 x.tb, .slice sa x.sl.length sc, .bool x.rg, .slice da x.dr.length dc] 85
        have A := (Ext.refl (w2.alloc (.cells #[.int .i64 x.tb, .slice sa x.sl.length sc, .bool x.rg, .slice da x.dr.length dc] 85))).alloc (.cells #[.int .u8 x.tb] 5)
        have z2 := hE.size
        have hw2 := hR.box.lt
        clear hcc hx hst hok ls ld
        go_wp2_with (at_builtin; go_loud (refine wpList_app tyByt (ownsRow_ext hP.o.own A) (rowAtN (w2.alloc (.cells #[.int .i64 x.tb, .slice sa x.sl.length sc, .bool x.rg, .slice da x.dr.length dc] 85)) #[.int .u8 x.tb] _ (B := w2.heap.size + 1) (by simp)) rfl (oneCell_byt [x.tb]) (by omega) (by simp; omega) rfl rfl rfl rfl ?_); intro v8 w8 o8 g8 m8; have P8 := hP.app A (ys := [x.tb]) o8 g8 m8; clear o8 g8 m8; have pl := P8.b.lt)
        clear q0 q1 q2 q3 hP A y0 y1 yl
        go_loopw [3, 6] (fun u3 u32 wr => ∃ (n : Nat) (ys : List Int), n ≤ x.sl.length ∧ u32 = .int .i64 n ∧ Hid (ys = (xs ++ [x.tb]) ++ x.sl.take n) ∧ ys.length ≤ 13 * j + 1 + n ∧ EncP w [.slice (some ⟨b, o, none⟩) k.ts.length tc, .slice pa k.ps.length pc] w2.heap.size 85 [.int .i64 x.tb, .slice sa x.sl.length sc, .bool x.rg, .slice da x.dr.length dc] u3 ys wr) (fun _ i _ => x.sl.length - (intOf i).toNat)
        case atStart => exact ⟨0, _, Nat.zero_le _, rfl, Lib.hid (by simp), by simp; omega, P8⟩
        case round =>
          clear P8 pl
          obtain ⟨n, ys, hn, rfl, hYS, hyl, hP⟩ := hrel
          have p1 := hP.b.cell (i := 1) rfl
          have pl := hP.b.lt
          by_cases hn3 : n < x.sl.length
          · obtain ⟨b1, o1, rfl, hb1, hc1⟩ := (hsl.ext hP.o.ext).get (by omega)
            have q1 := hc1 n hn3
            have hw := track_lt (HO.out.ss n (by omega))
            have hs := take_snocI hn3
            obtain ⟨s, hss⟩ : ∃ s, s = x.sl.getD n 0 := ⟨_, rfl⟩
            rw [← hss] at q1 hw hs
            have hww := wrap8 hw.1 hw.2
            have HS := Lib.hid hs
            obtain ⟨w3, rfl⟩ : ∃ z : World, z = wr := ⟨_, rfl⟩
            have A := (Ext.refl w3).alloc (.cells #[.int .u8 s] 5)
            have z3 := hP.o.ext.size
            clear hc1 hss hs hw
            go_wp2_with (at_builtin; go_loud (refine wpList_app tyByt (ownsRow_ext hP.o.own A) (rowAtN w3 #[.int .u8 s] _ (B := w3.heap.size) rfl) rfl (oneCell_byt [s]) (by omega) (by simp; omega) rfl rfl rfl rfl ?_); intro v8 w8 o8 g8 m8; have P8 := hP.app A (ys := [s]) o8 g8 m8; clear o8 g8 m8)
            go_roundw
            case rel => exact ⟨n + 1, _, by omega, by go_num, Lib.hid (by rw [HS.out, hYS.out, List.append_assoc]), by simp; omega, P8⟩
            case measure => simp [intOf]; omega
          · have hn4 : n = x.sl.length := by omega
            subst hn4
            have hcell2 := hP.b.cell (i := 2) rfl
            have hcell3 := hP.b.cell (i := 3) rfl
            have hbl := hP.b.lt
            go_wp2_with fail
            refine (l9Bit_c x.rg _).mono ?_
            rintro e w3 ⟨rfl, rfl⟩
            have hwf := wrap8 (flag_lt x.rg).1 (flag_lt x.rg).2
            have A := (Ext.refl wr).alloc (.cells #[.int .u8 (flagV x.rg)] 5)
            have z3 := hP.o.ext.size
            obtain ⟨w3, rfl⟩ : ∃ z : World, z = wr := ⟨_, rfl⟩
            go_wp2_with (at_builtin; go_loud (refine wpList_app tyByt (ownsRow_ext hP.o.own A) (rowAtN w3 #[.int .u8 (flagV x.rg)] _ (B := w3.heap.size) rfl) rfl (oneCell_byt [flagV x.rg]) (by omega) (by simp; omega) rfl rfl rfl rfl ?_); intro v8 w8 o8 g8 m8; have P8 := hP.app A (ys := [flagV x.rg]) o8 g8 m8; clear o8 g8 m8)
            clear hcell2 hcell3 hbl A p1 pl
            go_loopw [3, 7] (fun u3 u51 wr => ∃ (n : Nat) (zs : List Int), n ≤ x.dr.length ∧ u51 = .int .i64 n ∧ Hid (zs = (ys ++ [flagV x.rg]) ++ x.dr.take n) ∧ zs.length ≤ 13 * j + 5 + n ∧ EncP w [.slice (some ⟨b, o, none⟩) k.ts.length tc, .slice pa k.ps.length pc] w2.heap.size 85 [.int .i64 x.tb, .slice sa x.sl.length sc, .bool x.rg, .slice da x.dr.length dc] u3 zs wr) (fun _ i _ => x.dr.length - (intOf i).toNat)
            case atStart => exact ⟨0, _, Nat.zero_le _, rfl, Lib.hid (by simp), by simp; omega, P8⟩
            case round =>
              clear P8 hP
              obtain ⟨n, zs, hn, rfl, hZS, hzl, hP⟩ := hrel
              have p1 := hP.b.cell (i := 3) rfl
              have pl := hP.b.lt
              by_cases hn3 : n < x.dr.length
              · obtain ⟨b1, o1, rfl, hb1, hc1⟩ := (hdr.ext hP.o.ext).get (by omega)
                have q1 := hc1 n hn3
                have hw := drv_lt (HO.out.ds n (by omega))
                have hs := take_snocI hn3
                obtain ⟨s, hss⟩ : ∃ s, s = x.dr.getD n 0 := ⟨_, rfl⟩
                rw [← hss] at q1 hw hs
                have hww := wrap8 hw.1 hw.2
                have HS := Lib.hid hs
                obtain ⟨w4, rfl⟩ : ∃ z : World, z = wr := ⟨_, rfl⟩
                have A := (Ext.refl w4).alloc (.cells #[.int .u8 s] 5)
                have z3 := hP.o.ext.size
                clear hc1 hss hs hw
                go_wp2_with (at_builtin; go_loud (refine wpList_app tyByt (ownsRow_ext hP.o.own A) (rowAtN w4 #[.int .u8 s] _ (B := w4.heap.size) rfl) rfl (oneCell_byt [s]) (by omega) (by simp; omega) rfl rfl rfl rfl ?_); intro v8 w8 o8 g8 m8; have P8 := hP.app A (ys := [s]) o8 g8 m8; clear o8 g8 m8)
                go_roundw
                case rel => exact ⟨n + 1, _, by omega, by go_num, Lib.hid (by rw [HS.out, hZS.out, List.append_assoc]), by simp; omega, P8⟩
                case measure => simp [intOf]; omega
              · have hn4 : n = x.dr.length := by omega
                subst hn4
                go_wp2
                go_roundw
                case rel =>
                  refine ⟨j + 1, zs, by omega, by go_num, Lib.hid ?_, by omega, hP.o⟩
                  rw [HST.out, hZS.out, hYS.out, List.take_length, List.take_length, List.take_of_length_le (by omega), List.take_of_length_le (by omega)]
                case measure => simp [intOf]; omega
      · have hk2 : j = k.ts.length := by omega
        subst hk2
        go_wp2_with fail
        go_loopw [3, 8] (fun u3 u65 wr => ∃ (j : Nat) (ys : List Int), j ≤ k.ps.length ∧ u65 = .int .i64 j ∧ Hid (ys = xs ++ encPs (k.ps.take j)) ∧ ys.length ≤ 325 + 2 * j ∧ EncO w [.slice ta k.ts.length tc, .slice pa k.ps.length pc] u3 ys wr) (fun _ i _ => k.ps.length - (intOf i).toNat)
        case atStart => exact ⟨0, xs, Nat.zero_le _, rfl, Lib.hid (by simp [encPs]), by omega, hR⟩
        case round =>
          clear hR y0 y1 yl
          obtain ⟨j, ys, hj, rfl, hYS, hyl, hR⟩ := hrel
          have y1 := hR.box.cell (i := 1) rfl
          have yl := hR.box.lt
          by_cases hlt2 : j < k.ps.length
          · obtain ⟨b, o, rfl, hb, hcc⟩ := (hps.ext hR.ext).get (by omega)
            obtain ⟨q0, q1⟩ := hcc j hlt2
            have hw := track_lt (HOk.out.ps j (by omega))
            have hst := encPs_take hlt2
            obtain ⟨x, hx⟩ : ∃ x, x = k.ps.getD j (0, false) := ⟨_, rfl⟩
            rw [← hx] at q0 q1 hw hst
            obtain ⟨n, v⟩ := x
            dsimp only at q0 q1 hw hst
            have hww := wrap8 hw.1 hw.2
            have HST := Lib.hid hst
            obtain ⟨w2, rfl⟩ : ∃ z : World, z = wr := ⟨_, rfl⟩
            clear hcc hx hst hw
            have hwf := wrap8 (flag_lt v).1 (flag_lt v).2
            have z2 := hR.ext.size
            go_wp2_with fail
            refine wp_regionT (fun w' => w'.cell? ⟨w.heap.size, 1, none⟩ = some (.slice (some ⟨b, o, none⟩) k.ps.length pc) ∧ w'.cell? ⟨b, o + j * 2, none⟩ = some (.int .i64 n) ∧ w'.cell? ⟨b, o + j * 2 + 1, none⟩ = some (.bool v)) 17 (by kernel_rfl) ?_
            have hS0 := And.intro (a := w2.drew.cell? ⟨w.heap.size, 1, none⟩ = some (.slice (some ⟨b, o, none⟩) k.ps.length pc)) y1 (And.intro (a := w2.drew.cell? ⟨b, o + j * 2, none⟩ = some (.int .i64 n)) q0 (show w2.drew.cell? ⟨b, o + j * 2 + 1, none⟩ = some (.bool v) from q1))
            ((refine wpAnyT_take 0 (v := ?_) rfl (by kernel_rfl) (fun _ _ _ h => h) (Or.inl ⟨by kernel_rfl, ?_⟩) (by assumption) ?_; rotate_left; (intro wS hSw; (try dsimp only at hSw); go_simp; (try with_reducible rfl)); (try simp only [Act.put, List.setIfInBounds_toArray, List.set_cons_zero, List.set_cons_succ])); (refine wpAnyT_take 1 (v := ?_) rfl (by kernel_rfl) (fun _ _ _ h => h) (Or.inl ⟨by kernel_rfl, ?_⟩) (by assumption) ?_; rotate_left; (intro wS hSw; (try dsimp only at hSw); go_simp; (try with_reducible rfl)); (try simp only [Act.put, List.setIfInBounds_toArray, List.set_cons_zero, List.set_cons_succ])); (refine wpAnyT_take 2 (v := ?_) rfl (by kernel_rfl) (fun _ _ _ h => h) (Or.inl ⟨by kernel_rfl, ?_⟩) (by assumption) ?_; rotate_left; (intro wS hSw; (try dsimp only at hSw); go_simp; (try with_reducible rfl)); (try simp only [Act.put, List.setIfInBounds_toArray, List.set_cons_zero, List.set_cons_succ])); (refine wpAnyT_take 3 (v := ?_) rfl (by kernel_rfl) (fun _ _ _ h => h) (Or.inl ⟨by kernel_rfl, ?_⟩) (by assumption) ?_; rotate_left; (intro wS hSw; (try dsimp only at hSw); go_simp; (try with_reducible rfl)); (try simp only [Act.put, List.setIfInBounds_toArray, List.set_cons_zero, List.set_cons_succ])); (refine wpAnyT_take 4 (v := ?_) rfl (by kernel_rfl) (fun _ _ _ h => h) (Or.inl ⟨by kernel_rfl, ?_⟩) (by assumption) ?_; rotate_left; (intro wS hSw; (try dsimp only at hSw); go_simp; (try with_reducible rfl)); (try simp only [Act.put, List.setIfInBounds_toArray, List.set_cons_zero, List.set_cons_succ])); (refine wpAnyT_take 5 (v := ?_) rfl (by kernel_rfl) (fun _ _ _ h => h) (Or.inl ⟨by kernel_rfl, ?_⟩) (by assumption) ?_; rotate_left; (intro wS hSw; (try dsimp only at hSw); go_simp; (try with_reducible rfl)); (try simp only [Act.put, List.setIfInBounds_toArray, List.set_cons_zero, List.set_cons_succ])); (refine wpAnyT_take 6 (v := ?_) rfl (by kernel_rfl) (fun _ _ _ h => h) (Or.inl ⟨by kernel_rfl, ?_⟩) (by assumption) ?_; rotate_left; (intro wS hSw; (try dsimp only at hSw); go_simp; (try with_reducible rfl)); (try simp only [Act.put, List.setIfInBounds_toArray, List.set_cons_zero, List.set_cons_succ])); (refine wpAnyT_take 7 (v := ?_) rfl (by kernel_rfl) (fun _ _ _ h => h) (Or.inl ⟨by kernel_rfl, ?_⟩) (by assumption) ?_; rotate_left; (intro wS hSw; (try dsimp only at hSw); go_simp; (try with_reducible rfl)); (try simp only [Act.put, List.setIfInBounds_toArray, List.set_cons_zero, List.set_cons_succ])); (refine wpAnyT_take 8 (v := ?_) rfl (by kernel_rfl) (fun _ _ _ h => h) (Or.inl ⟨by kernel_rfl, ?_⟩) (by assumption) ?_; rotate_left; (intro wS hSw; (try dsimp only at hSw); go_simp; (try with_reducible rfl)); (try simp only [Act.put, List.setIfInBounds_toArray, List.set_cons_zero, List.set_cons_succ])); (refine wpAnyT_take 9 (v := ?_) rfl (by kernel_rfl) (fun _ _ _ h => h) (Or.inl ⟨by kernel_rfl, ?_⟩) (by assumption) ?_; rotate_left; (intro wS hSw; (try dsimp only at hSw); go_simp; (try with_reducible rfl)); (try simp only [Act.put, List.setIfInBounds_toArray, List.set_cons_zero, List.set_cons_succ])); (refine wpAnyT_take 10 (v := ?_) rfl (by kernel_rfl) (fun _ _ _ h => h) (Or.inl ⟨by kernel_rfl, ?_⟩) (by assumption) ?_; rotate_left; (intro wS hSw; (try dsimp only at hSw); go_simp; (try with_reducible rfl)); (try simp only [Act.put, List.setIfInBounds_toArray, List.set_cons_zero, List.set_cons_succ])); (refine wpAnyT_take 11 (v := ?_) rfl (by kernel_rfl) (fun _ _ _ h => h) (Or.inl ⟨by kernel_rfl, ?_⟩) (by assumption) ?_; rotate_left; (intro wS hSw; (try dsimp only at hSw); go_simp; (try with_reducible rfl)); (try simp only [Act.put, List.setIfInBounds_toArray, List.set_cons_zero, List.set_cons_succ])); (refine wpAnyT_take 12 (v := ?_) rfl (by kernel_rfl) (fun _ _ _ h => h) (Or.inl ⟨by kernel_rfl, ?_⟩) (by assumption) ?_; rotate_left; (intro wS hSw; (try dsimp only at hSw); go_simp; (try with_reducible rfl)); (try simp only [Act.put, List.setIfInBounds_toArray, List.set_cons_zero, List.set_cons_succ])); (refine wpAnyT_take 13 (v := ?_) rfl (by kernel_rfl) (fun _ _ _ h => h) (Or.inl ⟨by kernel_rfl, ?_⟩) (by assumption) ?_; rotate_left; (intro wS hSw; (try dsimp only at hSw); go_simp; (try with_reducible rfl)); (try simp only [Act.put, List.setIfInBounds_toArray, List.set_cons_zero, List.set_cons_succ])))
            (refine wpAnyT_do 14 (by kernel_rfl) rfl (fun K hK => ?_))
            go_simp
            refine (l9Bit_c v _).mono ?_
            rintro e w3 ⟨rfl, rfl⟩
            (refine hK _ _ hS0 ?_; clear hK K; (try simp only [Act.put, List.setIfInBounds_toArray, List.set_cons_zero, List.set_cons_succ]))
            ((refine wpAnyT_take 15 (v := ?_) rfl (by kernel_rfl) (fun _ _ _ h => h) (Or.inl ⟨by kernel_rfl, ?_⟩) (by assumption) ?_; rotate_left; (intro wS hSw; (try dsimp only at hSw); go_simp; (try with_reducible rfl)); (try simp only [Act.put, List.setIfInBounds_toArray, List.set_cons_zero, List.set_cons_succ])))
            (refine wpAnyT_do 16 (by kernel_rfl) rfl (fun K hK => ?_))
            go_simp
            have hP2 := hR.ext' (Ext.drew _)
            have A := (Ext.refl w2.drew).alloc (.cells #[.int .u8 n, .int .u8 (flagV v)] 5)
            have hP3 := hP2.ext' A
            have hS1 := And.intro (hP3.box.cell (i := 1) rfl) (And.intro (((ecell A).1 b _ hb).trans hS0.2.1) (((ecell A).1 b _ hb).trans hS0.2.2))
            (refine hK _ _ hS1 ?_; clear hK K; (try simp only [Act.put, List.setIfInBounds_toArray, List.set_cons_zero, List.set_cons_succ]))
            (refine wpAnyT_doN 17 (by kernel_rfl) rfl (by decide) (fun K hK => ?_))
            refine step_app tyByt hP3.own (rowAtN w2.drew #[.int .u8 n, .int .u8 (flagV v)] _ (B := w2.heap.size) rfl) rfl (oneCell_byt [n, flagV v]) (by omega) (by simp; omega) rfl rfl rfl rfl ?_
            intro v9 w9 o9 g9 m9
            have P9 := hP2.app A (ys := [n, flagV v]) o9 g9
            (refine hK _ _ ?_; clear hK K; (try simp only [Act.put, List.setIfInBounds_toArray, List.set_cons_zero, List.set_cons_succ]))
            (refine wpAnyT_last 18 (by kernel_rfl) rfl (by decide) (by kernel_rfl) (fun K hK => ?_))
            go_simp
            (refine hK _ _ ?_; clear hK K; (try simp only [Act.put, List.setIfInBounds_toArray, List.set_cons_zero, List.set_cons_succ]))
            clear hS0 hS1 o9 g9 m9 hP2 hP3 A
            go_wp2
            go_roundw
            case rel => exact ⟨j + 1, _, by omega, by go_num, Lib.hid (by rw [HST.out, hYS.out, List.append_assoc]), by simp; omega, P9⟩
            case measure => simp [intOf]; omega
          · have hk3 : j = k.ps.length := by omega
            subst hk3
            have hbody : bodyV k = ys := by
              rw [hYS.out, hXS.out, List.take_length, List.take_length]; rfl
            have hall := HOk.out.body
            rw [hbody] at hall HV
            obtain ⟨hall, hal⟩ := hall
            obtain ⟨hal1, hal2⟩ : ys.length ≤ 331 ∧ 331 ≤ ys.length := by omega
            have HA := Lib.hid (l9Sum_c (hb := hall) (hl := by omega))
            clear hal hall hbody
            obtain ⟨s0, s1⟩ := sumV_lt ys
            obtain ⟨s, hs⟩ : ∃ s, s = sumV ys := ⟨_, rfl⟩
            rw [← hs] at s0 s1 HA HV
            obtain ⟨a5, c5, rfl, hX⟩ := hR.own.opened
            clear hs
            go_wp2_with fail
            refine (HA.out _ _ _ hX).mono ?_
            rintro e w3 ⟨rfl, hE3⟩
            have hR3 := hR.ext' hE3
            clear hR hX hE3
            have A := (Ext.refl w3).alloc (.cells #[.int .u8 (s / 256), .int .u8 (s % 256)] 5)
            have td : s.tdiv 256 = s / 256 := Int.tdiv_eq_ediv_of_nonneg s0
            have tm : s.tmod 256 = s % 256 := Int.tmod_eq_emod_of_nonneg s0
            have wd : IntKind.u8.wrap (s / 256) = s / 256 := wrap8 (by omega) (by omega)
            have wm : IntKind.u8.wrap (s % 256) = s % 256 := wrap8 (by omega) (by omega)
            have z3 := hR3.ext.size
            go_wp2_with (at_builtin; go_loud (refine wpList_app tyByt (ownsRow_ext hR3.own A) (rowAtN w3 #[.int .u8 (s / 256), .int .u8 (s % 256)] _ (B := w3.heap.size) rfl) rfl (oneCell_byt [s / 256, s % 256]) (by omega) (by have := hR3.box.lt; simp; omega) rfl rfl rfl rfl ?_); intro v8 w8 o8 g8 m8; have P8 := hR3.app A (ys := [s / 256, s % 256]) o8 g8; clear o8 g8 m8)
            go_ret
            exact ⟨_, rfl, by rw [HV.out]; exact P8.own.le (by omega), P8.ext⟩
end Go.Proofs.Ytkdiniaddnhkdaa
