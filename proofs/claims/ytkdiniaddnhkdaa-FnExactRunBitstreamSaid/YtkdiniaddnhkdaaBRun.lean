/- Bundle: RunFabric of both libraries. -/
import Derived.Test.YtkdiniaddnhkdaaRun0
import Derived.Test.YtkdiniaddnhkdaaBStp
import Derived.Test.YtkdiniaddnhkdaaFabR
import Derived.Test.YtkdiniaddnhkdaaBAct
import Derived.Test.YtkdiniaddnhkdaaRegion2
import Derived.Deep.DeepCutAuto
import Derived.Test.YtkdiniaddnhkdaaBAcy
namespace Go.Proofs.Ytkdiniaddnhkdaa
open Go.RowKit
set_option maxRecDepth 100000
set_option linter.unusedVariables false
set_option linter.unusedSimpArgs false
/-- What the cycle of a round leaves: its result in a box. -/
def CutFab (w : World) (x1 x2 : List Bool) (v : Value) (wx : World) : Prop := ∃ D a1 c1 a2 c2, v = .pointer (some ⟨D, 0, none⟩) ∧ Blk wx D 65 [.slice a1 x1.length c1, .slice a2 x2.length c2] ∧ w.heap.size ≤ D ∧
  OwnB wx w.heap.size (.slice a1 x1.length c1) x1 ∧ OwnB wx w.heap.size (.slice a2 x2.length c2) x2 ∧ Hid (∀ q, (Value.slice a1 x1.length c1).ownBlock = some q → (Value.slice a2 x2.length c2).ownBlock ≠ some q) ∧ Ext w wx
theorem OwnB.set2' {W : World} {base D : Nat} {v : Value} {xs : List Bool} {a b : Value} (h : OwnB W base v xs) (hD : v.ownBlock ≠ some D) : OwnB ((W.setCell ⟨D, 0, none⟩ a).setCell ⟨D, 1, none⟩ b) base v xs :=
  ownsRow_set (ownsRow_set h (p := ⟨D, 0, none⟩) hD _) (p := ⟨D, 1, none⟩) hD _
theorem OwnR.setCell' {w : World} {base : Nat} {v : Value} {vals : List Value} {xss : List (List Bool)} (h : OwnR w base v vals xss) {p : Addr} (h1 : v.ownBlock ≠ some p.block) (h2 : ∀ i, (vals.getD i (.slice none 0 0)).ownBlock ≠ some p.block) (u : Value) : OwnR (w.setCell p u) base v vals xss :=
  { h with row := ownsRow_set h.row h1 u, el := fun j hj => OwnB.setOther (h.el j hj) (h2 j) u }
set_option maxHeartbeats 8000000 in
theorem specRunFabric_c (k : Conf) (ta pa : Option Addr) (tc pc : Nat) (a : Option Addr) (cap : Nat) (xss : List (List Bool)) (w : World) (hk : ConfAt w k ta pa) (hr : RowsAt w a xss) (hl : xss.length ≤ 1048576) (hlr : ∀ j, j < xss.length → (xss.getD j []).length ≤ 1048576) :
    Calls Try.prog 58 #[.agg #[.slice ta k.ts.length tc, .slice pa k.ps.length pc], .slice a xss.length cap] w (GiveRows w (runFV k xss)) := by
  have T1 := Lib.hid (specConfigAcyclic_c k ta pa tc pc)
  have y := (Blk.at w [.slice ta k.ts.length tc, .slice pa k.ps.length pc] 25 rfl).alloc (.cells #[] 59)
  have E0 : Ext w ((w.alloc (.cells #[.slice ta k.ts.length tc, .slice pa k.ps.length pc] 25)).alloc (.cells #[] 59)) := ((Ext.refl w).alloc _).alloc _
  have X0 := Blk.at (w.alloc (.cells #[.slice ta k.ts.length tc, .slice pa k.ps.length pc] 25)) [] 59 (B := w.heap.size + 1) (by simp)
  have OWN := Lib.hid (fun (W : World) (base B : Nat) (hB : Blk W B 59 []) (hb : base ≤ B) => (⟨rfl, hB.owns (n := 0) (size := 1) rfl hb (by decide), fun j hj => by simp at hj, fun j k hj => by simp at hj, fun i j k _ hj => by simp at hj⟩ : OwnR W base (.slice (some ⟨B, 0, none⟩) 0 0) [] []))
  have HL := Lib.hid hlr
  clear hlr
  cases ha : acyV k
  · have hV := runFV_neg (k := k) (xss := xss) (fun h => by have := h.a; rw [ha] at this; cases this)
    rw [hV]
    rw [ha] at T1
    clear hV ha
    go_enter Try.func58, Try.ntmps58
    go_wp2_with fail
    refine (T1.out _ (hk.ext E0)).mono ?_
    rintro e w1 ⟨rfl, hE1⟩
    have X1 := X0.ext hE1
    go_wp2
    go_ret
    exact ⟨_, [], rfl, OWN.out _ _ _ X1 (by omega), E0.trans hE1⟩
  rw [ha] at T1
  by_cases h40 : xss.length ≤ 40
  · have hgt : ¬ (40 : Int) < (xss.length : Int) := by omega
    obtain ⟨V, HV⟩ : ∃ V, Hid (V = runFV k xss) := ⟨_, Lib.hid rfl⟩
    rw [← HV.out]
    have HA := Lib.hid ha
    clear ha
    go_enter Try.func58, Try.ntmps58
    go_wp2_with fail
    refine (T1.out _ (hk.ext E0)).mono ?_
    rintro e w1 ⟨rfl, hE1⟩
    have y1 := y.ext hE1
    have X1 := X0.ext hE1
    have E1 := E0.trans hE1
    clear y E0 hE1 T1 X0
    go_wp2_with fail
    go_loopw [6] (fun u22 wr => ∃ j : Nat, j ≤ xss.length ∧ u22 = .int .i64 j ∧ Hid (∀ i, i < j → (xss.getD i []).length ≤ 4) ∧ Ext w1 wr) (fun i _ => xss.length - (intOf i).toNat)
    case atStart => exact ⟨0, Nat.zero_le _, rfl, Lib.hid (fun i hi => absurd hi (Nat.not_lt_zero i)), Ext.refl _⟩
    case round =>
      obtain ⟨j, hj, rfl, hP, hE⟩ := hrel
      by_cases hlt : j < xss.length
      · obtain ⟨gb, go, rfl, hgb, hg⟩ := (hr.ext (E1.trans hE)).get (by omega)
        obtain ⟨aj, cj, q, hA⟩ := hg j hlt
        have hrl := HL.out j hlt
        obtain ⟨row, hrow⟩ : ∃ r, r = xss.getD j [] := ⟨_, rfl⟩
        rw [← hrow] at q hA hrl
        have HROW := Lib.hid hrow
        clear hg hrow
        by_cases h4 : row.length ≤ 4
        · have h4i : ¬ (4 : Int) < (row.length : Int) := by omega
          go_wp2
          go_roundw
          case rel =>
            refine ⟨j + 1, by omega, by go_num, Lib.hid (fun i hi => ?_), hE⟩
            rcases Nat.lt_or_ge i j with h | h
            · exact hP.out i h
            · have : i = j := by omega
              subst this; rw [← HROW.out]; exact h4
          case measure => simp [intOf]; omega
        · have h4i : (4 : Int) < (row.length : Int) := by omega
          have hV : V = [] := by
            rw [HV.out]
            refine runFV_neg (fun h => ?_)
            have := h.r j hlt
            rw [← HROW.out] at this; omega
          subst hV
          have XN := Blk.at wr [] 59 rfl
          have zn := (E1.trans hE).size
          go_wp2
          go_ret
          exact ⟨_, [], rfl, OWN.out _ _ _ XN zn, (E1.trans hE).alloc _⟩
      · have hj2 : j = xss.length := by omega
        have hP : Hid (∀ i, i < xss.length → (xss.getD i []).length ≤ 4) := Lib.hid (by rw [← hj2]; exact hP.out)
        have HVV : Hid (V = runF k reset25 xss) := Lib.hid (by rw [HV.out]; exact runFV_pos ⟨HA.out, h40, hP.out⟩)
        have hok := acy_ok HA.out
        have hf : ∀ x : Wire, x.Ok → ∃ n, FinN k n x := fun x hx => acy_fin HA.out hx
        have y2 := y1.ext hE
        have X2 := X1.ext hE
        have E2 := E1.trans hE
        obtain ⟨w2, rfl⟩ : ∃ z : World, z = wr := ⟨_, rfl⟩
        clear hj2 y1 E1 hE X1
        go_wp2_with fail
        refine (specReset_c _).mono ?_
        rintro e w3 ⟨B, rfl, hB, hI, hE3⟩
        have y3 := y2.ext hE3
        have E3 := E2.trans hE3
        have zz := y2.lt
        have Bl := hI.lt
        have A3 : Ext w3 (w3.alloc (.cells #[.slice (some ⟨B, 0, none⟩) 25 25] 63)) := (Ext.refl w3).alloc _
        have S0 : OwnB (w3.alloc (.cells #[.slice (some ⟨B, 0, none⟩) 25 25] 63)) w2.heap.size (.slice (some ⟨B, 0, none⟩) 25 25) reset25 := (hI.ext A3).owns (n := 25) (size := 1) (by simp) hB (by decide)
        have q0 := Blk.at w3 [.slice (some ⟨B, 0, none⟩) 25 25] 63 rfl
        have y4 := y3.ext A3
        have X4 := (X2.ext hE3).ext A3
        have xl := X2.lt
        have E4 := E3.trans A3
        have zs : w3.heap.size + 1 ≤ (w3.alloc (.cells #[.slice (some ⟨B, 0, none⟩) 25 25] 63)).heap.size := by simp
        have hz3 := hE3.size
        clear y2 y3 hI E3 hE3 A3 X2
        go_upto_region 10 with fail
        generalize w3.alloc (.cells #[.slice (some ⟨B, 0, none⟩) 25 25] 63) = W4 at *
        go_wp2_with fail
        go_loopw [5, 8] (fun u8 u33 wr => ∃ (j : Nat) (vals : List Value) (rv : Value), j ≤ xss.length ∧ u33 = .int .i64 j ∧ OwnR wr (w.heap.size + 1) u8 vals (runF k reset25 (xss.take j)) ∧ Hid (∀ q, u8.ownBlock = some q → q ≠ w3.heap.size) ∧ Hid (∀ i q, (vals.getD i (.slice none 0 0)).ownBlock = some q → q ≠ w3.heap.size) ∧ Blk wr w3.heap.size 63 [rv] ∧ OwnB wr w2.heap.size rv (stF k reset25 (xss.take j)) ∧ Hid (∀ q, rv.ownBlock = some q → q ≠ w3.heap.size ∧ u8.ownBlock ≠ some q) ∧ Blk wr w.heap.size 25 [.slice ta k.ts.length tc, .slice pa k.ps.length pc] ∧ Ext w wr) (fun _ i _ => xss.length - (intOf i).toNat)
        case atStart => exact ⟨0, [], _, Nat.zero_le _, rfl, OWN.out _ _ _ X4 (Nat.le_refl _), Lib.hid (fun q hq => by have : w.heap.size + 1 = q := Option.some.inj hq; omega), Lib.hid (fun i q hq => by simp [Value.ownBlock] at hq), q0, S0, Lib.hid (fun q hq => ⟨by have : B = q := Option.some.inj hq; omega, fun e => by have : B = q := Option.some.inj hq; have : w.heap.size + 1 = q := Option.some.inj e; omega⟩), y4, E4⟩
        case round =>
          clear S0 q0 y4 E4 zs X4
          obtain ⟨j, vals, rv, hj, rfl, hO, hUB, hVB, q0, hS, hD, y4, hE⟩ := hrel
          by_cases hlt : j < xss.length
          · obtain ⟨gb, go, rfl, hgb, hg⟩ := (hr.ext hE).get (by omega)
            obtain ⟨aj, cj, q, hA⟩ := hg j hlt
            have h4 := hP.out j hlt
            have hrl := runF_length k (xss.take j) reset25
            rw [List.length_take, Nat.min_eq_left hj] at hrl
            have hsl := stF_len k (xss.take j)
            have hr1 := runF_snoc k (xss.getD j []) (xss.take j) reset25
            have hs1 := stF_snoc k (xss.getD j []) (xss.take j) reset25
            rw [← take_snocG xss j [] hlt] at hr1 hs1
            obtain ⟨st, hst⟩ : ∃ st, st = stF k reset25 (xss.take j) := ⟨_, rfl⟩
            obtain ⟨row, hrow⟩ : ∃ r, r = xss.getD j [] := ⟨_, rfl⟩
            obtain ⟨outs, hou⟩ : ∃ r, r = runF k reset25 (xss.take j) := ⟨_, rfl⟩
            rw [← hst] at hS hr1 hs1 hsl
            rw [← hrow] at q hA hr1 hs1 h4
            rw [← hou] at hO hr1 hrl
            obtain ⟨sa, sc, rfl, hSA⟩ := hS.opened
            have hor := hO.row
            rw [hrl] at hor
            obtain ⟨oa, oc, rfl, _⟩ := ownsRow_row hor
            obtain ⟨w5, rfl⟩ : ∃ z : World, z = wr := ⟨_, rfl⟩
            obtain ⟨O2, hO2⟩ : ∃ r, r = outsV k st row 3 := ⟨_, rfl⟩
            obtain ⟨N2, hN2⟩ : ∃ r, r = nextV k st row 25 := ⟨_, rfl⟩
            have hc := fun (W : World) (e : Ext w5 W) => l10Step_c k ta pa sa _ tc pc sc cj st row hok hf (by omega) h4 W ⟨(hk.ext hE).ext e, hSA.ext e, hA.ext e⟩
            rw [← hO2] at hr1 hc
            rw [← hN2] at hs1 hc
            have HC := Lib.hid hc
            have HRL := Lib.hid hrl
            have HR1 := Lib.hid hr1
            have HS1 := Lib.hid hs1
            have HOO := Lib.hid hO
            have s0 := q0.cell (i := 0) rfl
            have sl := q0.lt
            have yl := y4.lt
            have k0 := y4.cell (i := 0) rfl
            have k1 := y4.cell (i := 1) rfl
            clear hg hst hrow hou hr1 hs1 hrl hsl hc hO2 hN2 hO
            go_upto_region 13 with fail
            go_cut [9] (CutFab w5 O2 N2)
            case first =>
              (refine wp_regionT ((fun w' => (∀ b o, b < w5.heap.size → w'.cell? ⟨b, o, none⟩ = w5.cell? ⟨b, o, none⟩) ∧ Ext w5 w')) 8 (by kernel_rfl) ?_; have hS0 := held_mk (Ext.drew w5))
              ((refine wpAnyT_take 0 (v := ?_) rfl (by kernel_rfl) (fun _ _ _ h => h) (Or.inl ⟨by kernel_rfl, ?_⟩) (by assumption) ?_; rotate_left; (intro wS hSw; (try dsimp only at hSw); go_simp; (try with_reducible rfl)); (try simp only [Act.put, List.setIfInBounds_toArray, List.set_cons_zero, List.set_cons_succ])); (refine wpAnyT_take 1 (v := ?_) rfl (by kernel_rfl) (fun _ _ _ h => h) (Or.inl ⟨by kernel_rfl, ?_⟩) (by assumption) ?_; rotate_left; (intro wS hSw; (try dsimp only at hSw); go_simp; (try with_reducible rfl)); (try simp only [Act.put, List.setIfInBounds_toArray, List.set_cons_zero, List.set_cons_succ])); (refine wpAnyT_take 2 (v := ?_) rfl (by kernel_rfl) (fun _ _ _ h => h) (Or.inl ⟨by kernel_rfl, ?_⟩) (by assumption) ?_; rotate_left; (intro wS hSw; (try dsimp only at hSw); go_simp; (try with_reducible rfl)); (try simp only [Act.put, List.setIfInBounds_toArray, List.set_cons_zero, List.set_cons_succ])); (refine wpAnyT_take 3 (v := ?_) rfl (by kernel_rfl) (fun _ _ _ h => h) (Or.inl ⟨by kernel_rfl, ?_⟩) (by assumption) ?_; rotate_left; (intro wS hSw; (try dsimp only at hSw); go_simp; (try with_reducible rfl)); (try simp only [Act.put, List.setIfInBounds_toArray, List.set_cons_zero, List.set_cons_succ])); (refine wpAnyT_take 4 (v := ?_) rfl (by kernel_rfl) (fun _ _ _ h => h) (Or.inl ⟨by kernel_rfl, ?_⟩) (by assumption) ?_; rotate_left; (intro wS hSw; (try dsimp only at hSw); go_simp; (try with_reducible rfl)); (try simp only [Act.put, List.setIfInBounds_toArray, List.set_cons_zero, List.set_cons_succ])); (refine wpAnyT_take 5 (v := ?_) rfl (by kernel_rfl) (fun _ _ _ h => h) (Or.inl ⟨by kernel_rfl, ?_⟩) (by assumption) ?_; rotate_left; (intro wS hSw; (try dsimp only at hSw); go_simp; (try with_reducible rfl)); (try simp only [Act.put, List.setIfInBounds_toArray, List.set_cons_zero, List.set_cons_succ])))
              (refine wpAnyT_do2 6 7 (by kernel_rfl) rfl rfl (fun K hK => ?_) (fun K hK => ?_))
              · go_simp
                refine (HC.out _ (Ext.drew w5)).mono ?_
                rintro e w6 ⟨ov, nv, rfl, hov, hnv, hdis, hE6⟩
                obtain ⟨oa2, oc2, rfl, _⟩ := hov.len
                obtain ⟨na2, nc2, rfl, _⟩ := hnv.len
                have hE7 := (Ext.drew w5).trans hE6
                have hS1 := held_mk hE7
                (refine hK _ _ hS1 ?_; clear hK K; (try simp only [Act.put, List.setIfInBounds_toArray, List.set_cons_zero, List.set_cons_succ]))
                (refine wpAnyT_doB 7 (by kernel_rfl) rfl (fun K hK => ?_))
                refine Bx.mk ?_
                go_simp
                have hS2 := held_mk (hE7.alloc (.cells #[.slice none 0 0, .slice none 0 0] 65))
                have bk := Blk.at w6 [.slice none 0 0, .slice none 0 0] 65 rfl
                have z0 := bk.cell (i := 0) rfl
                have z1 := bk.cell (i := 1) rfl
                have zf := fun i => bk.frozen i
                (refine hK _ _ hS2 ?_; clear hK K; (try simp only [Act.put, List.setIfInBounds_toArray, List.set_cons_zero, List.set_cons_succ]))
                (refine wpAnyT_lastB 8 (by kernel_rfl) rfl (by decide) (by kernel_rfl) (fun K hK => ?_))
                refine Bx.mk ?_
                go_simp
                (refine hK _ _ ?_; clear hK K; (try simp only [Act.put, List.setIfInBounds_toArray, List.set_cons_zero, List.set_cons_succ]))
                go_wp2_with fail
                go_meet
                have eB : Ext w6 (w6.alloc (.cells #[.slice oa2 O2.length oc2, .slice na2 N2.length nc2] 65)) := (Ext.refl w6).alloc _
                exact ⟨w6.heap.size, _, _, _, _, rfl, Blk.at w6 _ _ rfl, hE7.size, hov.ext eB, hnv.ext eB, Lib.hid hdis, hE7.trans eB⟩
              · go_simp
                have eZ : Ext w5 (w5.alloc (.cells #[.slice none 0 0, .slice none 0 0] 65)).drew := ((Ext.refl w5).alloc _).drew'
                have bk0 := (Blk.at w5 [.slice none 0 0, .slice none 0 0] 65 rfl).ext (Ext.drew _)
                have hS1 := held_mk eZ
                (refine hK _ _ hS1 ?_; clear hK K; (try simp only [Act.put, List.setIfInBounds_toArray, List.set_cons_zero, List.set_cons_succ]))
                (refine wpAnyT_doB 6 (by kernel_rfl) rfl (fun K hK => ?_))
                refine Bx.mk ?_
                go_simp
                refine (HC.out _ eZ).mono ?_
                rintro e w6 ⟨ov, nv, rfl, hov, hnv, hdis, hE6⟩
                obtain ⟨oa2, oc2, rfl, _⟩ := hov.len
                obtain ⟨na2, nc2, rfl, _⟩ := hnv.len
                have hE7 := eZ.trans hE6
                have hS2 := held_mk hE7
                have bk := bk0.ext hE6
                have z0 := bk.cell (i := 0) rfl
                have z1 := bk.cell (i := 1) rfl
                have zf := fun i => bk.frozen i
                (refine hK _ _ hS2 ?_; clear hK K; (try simp only [Act.put, List.setIfInBounds_toArray, List.set_cons_zero, List.set_cons_succ]))
                (refine wpAnyT_lastB 8 (by kernel_rfl) rfl (by decide) (by kernel_rfl) (fun K hK => ?_))
                refine Bx.mk ?_
                go_simp
                (refine hK _ _ ?_; clear hK K; (try simp only [Act.put, List.setIfInBounds_toArray, List.set_cons_zero, List.set_cons_succ]))
                go_wp2_with fail
                go_meet
                have h1 : (Value.slice oa2 O2.length oc2).ownBlock ≠ some w5.heap.size := fun e => by have := (hov.lt' _ e).1; simp at this; omega
                have h2 : (Value.slice na2 N2.length nc2).ownBlock ≠ some w5.heap.size := fun e => by have := (hnv.lt' _ e).1; simp at this; omega
                exact ⟨w5.heap.size, _, _, _, _, rfl, (bk.set 0 _).set 1 _, Nat.le_refl _, (OwnB.le hov (by simp)).set2' h1, (OwnB.le hnv (by simp)).set2' h2, Lib.hid hdis, Ext.setNew (p := ⟨w5.heap.size, 1, none⟩) (Ext.setNew (p := ⟨w5.heap.size, 0, none⟩) hE7 (Nat.le_refl _) _) (Nat.le_refl _) _⟩
            case rest =>
              obtain ⟨D, oa2, oc2, na2, nc2, rfl, bk, hDD, hov, hnv, hdis, hE6⟩ := hcut
              obtain ⟨w6, rfl⟩ : ∃ z : World, z = wc := ⟨_, rfl⟩
              have eA : Ext w6 (w6.alloc (.cells #[.slice oa2 O2.length oc2] 59)) := (Ext.refl w6).alloc _
              have hrA := rowAtN w6 #[.slice oa2 O2.length oc2] 59 (B := w6.heap.size) rfl
              have hoA := ownsRow_ext hor (hE6.trans eA)
              have hz6 := hE6.size
              have hsA : w.heap.size + 1 ≤ (w6.alloc (.cells #[.slice oa2 O2.length oc2] 59)).heap.size := by simp; omega
              have hnA : j + 1 ≤ 1073741824 := by omega
              have bkA := bk.ext eA
              have qA := (q0.ext hE6).ext eA
              have yA := (y4.ext hE6).ext eA
              have HOL := Lib.hid hor.lt
              have HOV := Lib.hid hov
              have HNV := Lib.hid hnv
              have d0 := bk.cell (i := 0) rfl
              have dl := bk.lt
              clear hor s0 hov hnv k0 k1
              go_wp2_with (at_builtin; go_loud (refine wpList_app tyRows hoA hrA rfl (by simp [Value.oneCell']) hnA hsA rfl rfl rfl rfl ?_); intro v9 w9 o9 g9 m9; obtain ⟨a9, c9, rfl, _⟩ := ownsRow_row o9; have bk9 := bkA.gr g9 (by intro e; have := (HOL.out _ e).2; omega); have z0 := bk9.cell (i := 0) rfl; have z1 := bk9.cell (i := 1) rfl; have zl := bk9.lt; have q9 := qA.gr g9 (by intro e; exact hUB.out _ e rfl); have f9 := fun i => q9.frozen i; have x9 := q9.cell (i := 0) rfl; have l9 := q9.lt)
              go_roundw
              case rel =>
                have hO9 := HOO.out.snoc (u := .slice oa2 O2.length oc2) (x := O2) (hE6.trans eA) (OwnB.le (HOV.out.ext eA) (by omega)) (fun q hq => (HOV.out.lt' q hq).1) g9 m9 (by rw [HRL.out]) (by exact o9)
                have hv2 : OwnB w9 w2.heap.size (.slice na2 N2.length nc2) N2 := OwnB.le (ownsRow_gr (HNV.out.ext eA) g9 (off_row (fun q hq e => by have := (HNV.out.lt' q hq).1; have := (HOL.out q e).2; omega))) (by omega)
                have hnq : ∀ q, (Value.slice na2 N2.length nc2).ownBlock = some q → q ≠ w3.heap.size := fun q hq => by have := (HNV.out.lt' q hq).1; omega
                have hub9 : ∀ q, (Value.slice a9 (j + 1) c9).ownBlock = some q → q ≠ w3.heap.size := fun q hq => by
                  rcases m9 with em | ⟨x, em, hx⟩
                  · rw [em] at hq; exact hUB.out q hq
                  · rw [em] at hq; have : x = q := Option.some.inj hq; have := eA.size; omega
                have hvb9 : ∀ i q, ((vals ++ [Value.slice oa2 O2.length oc2]).getD i (.slice none 0 0)).ownBlock = some q → q ≠ w3.heap.size := fun i q hq => by
                  rcases Nat.lt_or_ge i vals.length with h | h
                  · rw [getD_append_left _ _ _ _ h] at hq; exact hVB.out i q hq
                  · rw [List.getD_eq_getElem?_getD, List.getElem?_append_right h] at hq
                    rcases Nat.eq_zero_or_pos (i - vals.length) with h0 | h0
                    · rw [h0] at hq
                      have := (HOV.out.lt' q (by simpa using hq)).1
                      omega
                    · rw [List.getElem?_eq_none (by simp; omega)] at hq; cases hq
                refine ⟨j + 1, vals ++ [.slice oa2 O2.length oc2], .slice na2 N2.length nc2, by omega, by go_num, ?_, Lib.hid hub9, Lib.hid hvb9, q9.set 0 _, ?_, Lib.hid (fun q hq => ⟨hnq q hq, fun e => ?_⟩), ?_, ?_⟩
                · rw [HR1.out]; exact hO9.setCell' (fun e => hub9 _ e rfl) (fun i e => hvb9 i _ e rfl) _
                · rw [HS1.out]; exact OwnB.setOther hv2 (fun e => hnq _ e rfl) _
                · have h3 := (HNV.out.lt' q hq)
                  rcases m9 with em | ⟨x, em, hx⟩
                  · rw [em] at e; have := (HOL.out q e).2; omega
                  · rw [em] at e; have : x = q := Option.some.inj e; have := eA.size; omega
                · exact (yA.gr g9 (by intro e; have := (HOL.out _ e).1; omega)).setOther (by simp; omega) _
                · exact Ext.setNew (ext_grown ((hE.trans hE6).trans eA) g9 (fun q hq => by have := (HOL.out q hq).1; omega)) (by simp; omega) _
              case measure => simp [intOf]; omega
          · have hk2 : j = xss.length := by omega
            have hO2 : OwnR wr (w.heap.size + 1) u5 vals (runF k reset25 xss) := by rw [hk2, List.take_length] at hO; exact hO
            have HO2 := Lib.hid hO2
            clear hO2 hO hk2
            go_wp2
            go_ret
            rw [HVV.out]
            exact ⟨_, vals, rfl, HO2.out.le (by omega), hE⟩
  · have hgt : (40 : Int) < (xss.length : Int) := by omega
    have hV := runFV_neg (k := k) (xss := xss) (fun h => h40 h.n)
    rw [hV]
    clear hV ha
    go_enter Try.func58, Try.ntmps58
    go_wp2_with fail
    refine (T1.out _ (hk.ext E0)).mono ?_
    rintro e w1 ⟨rfl, hE1⟩
    have X1 := X0.ext hE1
    go_wp2
    go_ret
    exact ⟨_, [], rfl, OWN.out _ _ _ X1 (by omega), E0.trans hE1⟩
end Go.Proofs.Ytkdiniaddnhkdaa

namespace Go.Proofs.Ytkdiniaddnhkdaa
open Go.RowKit
set_option maxRecDepth 100000
set_option linter.unusedVariables false
set_option linter.unusedSimpArgs false
set_option maxHeartbeats 8000000 in
theorem implRunFabric_c (k : Conf) (ta pa : Option Addr) (tc pc : Nat) (a : Option Addr) (cap : Nat) (xss : List (List Bool)) (w : World) (hk : ConfAt w k ta pa) (hr : RowsAt w a xss) (hl : xss.length ≤ 1048576) (hlr : ∀ j, j < xss.length → (xss.getD j []).length ≤ 1048576) :
    Calls Try.prog 59 #[.agg #[.slice ta k.ts.length tc, .slice pa k.ps.length pc], .slice a xss.length cap] w (GiveRows w (runFV k xss)) := by
  have T1 := Lib.hid (implConfigAcyclic_c k ta pa tc pc)
  have y := Blk.at w [.slice ta k.ts.length tc, .slice pa k.ps.length pc] 25 rfl
  have E0 : Ext w (w.alloc (.cells #[.slice ta k.ts.length tc, .slice pa k.ps.length pc] 25)) := (Ext.refl w).alloc _
  have HL := Lib.hid hlr
  clear hlr
  cases ha : acyV k
  · have hV := runFV_neg (k := k) (xss := xss) (fun h => by have := h.a; rw [ha] at this; cases this)
    rw [hV]
    rw [ha] at T1
    clear hV ha
    go_enter Try.func59, Try.ntmps59
    go_wp2_with fail
    refine (T1.out _ (hk.ext E0)).mono ?_
    rintro e w1 ⟨rfl, hE1⟩
    go_wp2
    go_ret
    exact ⟨_, [], rfl, OwnR.nil, E0.trans hE1⟩
  rw [ha] at T1
  by_cases h40 : xss.length ≤ 40
  · have hgt : ¬ (40 : Int) < (xss.length : Int) := by omega
    obtain ⟨V, HV⟩ : ∃ V, Hid (V = runFV k xss) := ⟨_, Lib.hid rfl⟩
    rw [← HV.out]
    have HA := Lib.hid ha
    clear ha
    go_enter Try.func59, Try.ntmps59
    go_wp2_with fail
    refine (T1.out _ (hk.ext E0)).mono ?_
    rintro e w1 ⟨rfl, hE1⟩
    have y1 := y.ext hE1
    have E1 := E0.trans hE1
    clear y E0 hE1 T1
    go_wp2_with fail
    go_loopw [22] (fun u22 wr => ∃ j : Nat, j ≤ xss.length ∧ u22 = .int .i64 j ∧ Hid (∀ i, i < j → (xss.getD i []).length ≤ 4) ∧ Ext w1 wr) (fun i _ => xss.length - (intOf i).toNat)
    case atStart => exact ⟨0, Nat.zero_le _, rfl, Lib.hid (fun i hi => absurd hi (Nat.not_lt_zero i)), Ext.refl _⟩
    case round =>
      obtain ⟨j, hj, rfl, hP, hE⟩ := hrel
      by_cases hlt : j < xss.length
      · obtain ⟨gb, go, rfl, hgb, hg⟩ := (hr.ext (E1.trans hE)).get (by omega)
        obtain ⟨aj, cj, q, hA⟩ := hg j hlt
        have hrl := HL.out j hlt
        obtain ⟨row, hrow⟩ : ∃ r, r = xss.getD j [] := ⟨_, rfl⟩
        rw [← hrow] at q hA hrl
        have HROW := Lib.hid hrow
        clear hg hrow
        by_cases h4 : row.length ≤ 4
        · have h4i : ¬ (4 : Int) < (row.length : Int) := by omega
          go_wp2
          go_roundw
          case rel =>
            refine ⟨j + 1, by omega, by go_num, Lib.hid (fun i hi => ?_), hE⟩
            rcases Nat.lt_or_ge i j with h | h
            · exact hP.out i h
            · have : i = j := by omega
              subst this; rw [← HROW.out]; exact h4
          case measure => simp [intOf]; omega
        · have h4i : (4 : Int) < (row.length : Int) := by omega
          have hV : V = [] := by
            rw [HV.out]
            refine runFV_neg (fun h => ?_)
            have := h.r j hlt
            rw [← HROW.out] at this; omega
          subst hV
          go_wp2
          go_ret
          exact ⟨_, [], rfl, OwnR.nil, E1.trans hE⟩
      · have hj2 : j = xss.length := by omega
        have hP : Hid (∀ i, i < xss.length → (xss.getD i []).length ≤ 4) := Lib.hid (by rw [← hj2]; exact hP.out)
        have HVV : Hid (V = runF k reset25 xss) := Lib.hid (by rw [HV.out]; exact runFV_pos ⟨HA.out, h40, hP.out⟩)
        have hok := acy_ok HA.out
        have hf : ∀ x : Wire, x.Ok → ∃ n, FinN k n x := fun x hx => acy_fin HA.out hx
        have y2 := y1.ext hE
        have E2 := E1.trans hE
        obtain ⟨w2, rfl⟩ : ∃ z : World, z = wr := ⟨_, rfl⟩
        clear hj2 y1 E1 hE
        go_wp2_with fail
        refine (implReset_c _).mono ?_
        rintro e w3 ⟨B, rfl, hB, hI, hE3⟩
        have y3 := y2.ext hE3
        have E3 := E2.trans hE3
        have zz := y2.lt
        have Bl := hI.lt
        have A3 : Ext w3 (w3.alloc (.cells #[.slice (some ⟨B, 0, none⟩) 25 25] 63)) := (Ext.refl w3).alloc _
        have S0 : OwnB (w3.alloc (.cells #[.slice (some ⟨B, 0, none⟩) 25 25] 63)) w2.heap.size (.slice (some ⟨B, 0, none⟩) 25 25) reset25 := (hI.ext A3).owns (n := 25) (size := 1) (by simp) hB (by decide)
        have q0 := Blk.at w3 [.slice (some ⟨B, 0, none⟩) 25 25] 63 rfl
        have y4 := y3.ext A3
        have E4 := E3.trans A3
        have zs : w3.heap.size + 1 ≤ (w3.alloc (.cells #[.slice (some ⟨B, 0, none⟩) 25 25] 63)).heap.size := by simp
        have hz3 := hE3.size
        clear y2 y3 hI E3 hE3 A3
        go_upto_region 11 with fail
        generalize w3.alloc (.cells #[.slice (some ⟨B, 0, none⟩) 25 25] 63) = W4 at *
        go_wp2_with fail
        go_loopw [8, 33] (fun u8 u33 wr => ∃ (j : Nat) (vals : List Value) (rv : Value), j ≤ xss.length ∧ u33 = .int .i64 j ∧ OwnR wr (w3.heap.size + 1) u8 vals (runF k reset25 (xss.take j)) ∧ Blk wr w3.heap.size 63 [rv] ∧ OwnB wr w2.heap.size rv (stF k reset25 (xss.take j)) ∧ Hid (∀ q, rv.ownBlock = some q → q ≠ w3.heap.size ∧ u8.ownBlock ≠ some q) ∧ Blk wr w.heap.size 25 [.slice ta k.ts.length tc, .slice pa k.ps.length pc] ∧ Ext w wr) (fun _ i _ => xss.length - (intOf i).toNat)
        case atStart => exact ⟨0, [], _, Nat.zero_le _, rfl, OwnR.nil, q0, S0, Lib.hid (fun q hq => ⟨by have : B = q := Option.some.inj hq; omega, by simp [Value.ownBlock]⟩), y4, E4⟩
        case round =>
          clear S0 q0 y4 E4 zs
          obtain ⟨j, vals, rv, hj, rfl, hO, q0, hS, hD, y4, hE⟩ := hrel
          by_cases hlt : j < xss.length
          · obtain ⟨gb, go, rfl, hgb, hg⟩ := (hr.ext hE).get (by omega)
            obtain ⟨aj, cj, q, hA⟩ := hg j hlt
            have h4 := hP.out j hlt
            have hrl := runF_length k (xss.take j) reset25
            rw [List.length_take, Nat.min_eq_left hj] at hrl
            have hsl := stF_len k (xss.take j)
            have hr1 := runF_snoc k (xss.getD j []) (xss.take j) reset25
            have hs1 := stF_snoc k (xss.getD j []) (xss.take j) reset25
            rw [← take_snocG xss j [] hlt] at hr1 hs1
            obtain ⟨st, hst⟩ : ∃ st, st = stF k reset25 (xss.take j) := ⟨_, rfl⟩
            obtain ⟨row, hrow⟩ : ∃ r, r = xss.getD j [] := ⟨_, rfl⟩
            obtain ⟨outs, hou⟩ : ∃ r, r = runF k reset25 (xss.take j) := ⟨_, rfl⟩
            rw [← hst] at hS hr1 hs1 hsl
            rw [← hrow] at q hA hr1 hs1 h4
            rw [← hou] at hO hr1 hrl
            obtain ⟨sa, sc, rfl, hSA⟩ := hS.opened
            have hor := hO.row
            rw [hrl] at hor
            obtain ⟨oa, oc, rfl, _⟩ := ownsRow_row hor
            obtain ⟨w5, rfl⟩ : ∃ z : World, z = wr := ⟨_, rfl⟩
            have hc := stepFabric_c k ta pa sa aj tc pc sc cj w.heap.size st row hok hf (by omega) h4 w5 ⟨hk.ext hE, hSA, hA⟩ y4
            obtain ⟨O2, hO2⟩ : ∃ r, r = outsV k st row 3 := ⟨_, rfl⟩
            obtain ⟨N2, hN2⟩ : ∃ r, r = nextV k st row 25 := ⟨_, rfl⟩
            rw [← hO2] at hr1 hc
            rw [← hN2] at hs1 hc
            have HC := Lib.hid hc
            have HRL := Lib.hid hrl
            have HR1 := Lib.hid hr1
            have HS1 := Lib.hid hs1
            have HOO := Lib.hid hO
            have s0 := q0.cell (i := 0) rfl
            have sl := q0.lt
            have yl := y4.lt
            clear hg hst hrow hou hr1 hs1 hrl hsl hc hO2 hN2 hO
            go_wp2_with fail
            refine HC.out.mono ?_
            rintro e w6 ⟨ov, nv, rfl, hov, hnv, hdis, hE6⟩
            obtain ⟨oa2, oc2, rfl, _⟩ := hov.len
            obtain ⟨na2, nc2, rfl, _⟩ := hnv.len
            have bk := Blk.at w6 [.slice oa2 O2.length oc2, .slice na2 N2.length nc2] 65 rfl
            have eA : Ext w6 ((w6.alloc (.cells #[.slice oa2 O2.length oc2, .slice na2 N2.length nc2] 65)).alloc (.cells #[.slice oa2 O2.length oc2] 59)) := ((Ext.refl w6).alloc _).alloc _
            have hrA := rowAtN (w6.alloc (.cells #[.slice oa2 O2.length oc2, .slice na2 N2.length nc2] 65)) #[.slice oa2 O2.length oc2] 59 (B := w6.heap.size + 1) (by simp)
            have hoA := ownsRow_ext hor (hE6.trans eA)
            have hz6 := hE6.size
            have hsA : w3.heap.size + 1 ≤ ((w6.alloc (.cells #[.slice oa2 O2.length oc2, .slice na2 N2.length nc2] 65)).alloc (.cells #[.slice oa2 O2.length oc2] 59)).heap.size := by simp; omega
            have hnA : j + 1 ≤ 1073741824 := by omega
            have bkA := bk.ext ((Ext.refl _).alloc (.cells #[.slice oa2 O2.length oc2] 59))
            have qA := (q0.ext hE6).ext eA
            have yA := (y4.ext hE6).ext eA
            have HOL := Lib.hid hor.lt
            have HOV := Lib.hid hov
            have HNV := Lib.hid hnv
            clear hor s0 hov hnv
            go_wp2_with (at_builtin; go_loud (refine wpList_app tyRows hoA hrA rfl (by simp [Value.oneCell']) hnA hsA rfl rfl rfl rfl ?_); intro v9 w9 o9 g9 m9; obtain ⟨a9, c9, rfl, _⟩ := ownsRow_row o9; have bk9 := bkA.gr g9 (by intro e; have := (HOL.out _ e).2; omega); have z0 := bk9.cell (i := 0) rfl; have z1 := bk9.cell (i := 1) rfl; have zl := bk9.lt; have q9 := qA.gr g9 (by intro e; have := (HOL.out _ e).1; omega); have f9 := fun i => q9.frozen i; have x9 := q9.cell (i := 0) rfl; have l9 := q9.lt)
            go_roundw
            case rel =>
              have hO9 := HOO.out.snoc (u := .slice oa2 O2.length oc2) (x := O2) (hE6.trans eA) (OwnB.le (HOV.out.ext eA) (by omega)) (fun q hq => (HOV.out.lt' q hq).1) g9 m9 (by rw [HRL.out]) (by exact o9)
              have hv2 : OwnB w9 w2.heap.size (.slice na2 N2.length nc2) N2 := OwnB.le (ownsRow_gr (HNV.out.ext eA) g9 (off_row (fun q hq e => by have := (HNV.out.lt' q hq).1; have := (HOL.out q e).2; omega))) (by omega)
              have hnq : ∀ q, (Value.slice na2 N2.length nc2).ownBlock = some q → q ≠ w3.heap.size := fun q hq => by have := (HNV.out.lt' q hq).1; omega
              refine ⟨j + 1, vals ++ [.slice oa2 O2.length oc2], .slice na2 N2.length nc2, by omega, by go_num, ?_, q9.set 0 _, ?_, Lib.hid (fun q hq => ⟨hnq q hq, fun e => ?_⟩), ?_, ?_⟩
              · rw [HR1.out]; exact hO9.setCell (by simp) _
              · rw [HS1.out]; exact OwnB.setOther hv2 (fun e => hnq _ e rfl) _
              · have h3 := (HNV.out.lt' q hq)
                rcases m9 with em | ⟨x, em, hx⟩
                · rw [em] at e; have := (HOL.out q e).2; omega
                · rw [em] at e; have : x = q := Option.some.inj e; have := eA.size; omega
              · exact (yA.gr g9 (by intro e; have := (HOL.out _ e).1; omega)).setOther (by simp; omega) _
              · exact Ext.setNew (ext_grown ((hE.trans hE6).trans eA) g9 (fun q hq => by have := (HOL.out q hq).1; omega)) (by simp; omega) _
            case measure => simp [intOf]; omega
          · have hk2 : j = xss.length := by omega
            have hO2 : OwnR wr (w3.heap.size + 1) u8 vals (runF k reset25 xss) := by rw [hk2, List.take_length] at hO; exact hO
            have HO2 := Lib.hid hO2
            clear hO2 hO hk2
            go_wp2
            go_ret
            rw [HVV.out]
            exact ⟨_, vals, rfl, HO2.out.le (by omega), hE⟩
  · have hgt : (40 : Int) < (xss.length : Int) := by omega
    have hV := runFV_neg (k := k) (xss := xss) (fun h => h40 h.n)
    rw [hV]
    clear hV ha
    go_enter Try.func59, Try.ntmps59
    go_wp2_with fail
    refine (T1.out _ (hk.ext E0)).mono ?_
    rintro e w1 ⟨rfl, hE1⟩
    go_wp2
    go_ret
    exact ⟨_, [], rfl, OwnR.nil, E0.trans hE1⟩
end Go.Proofs.Ytkdiniaddnhkdaa

