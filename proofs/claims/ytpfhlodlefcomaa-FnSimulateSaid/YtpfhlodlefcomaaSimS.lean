/- Contracts: the reference's Simulate. -/
import Derived.Test.YtpfhlodlefcomaaSim0
import Derived.Test.YtpfhlodlefcomaaSpec1
import Derived.Test.YtpfhlodlefcomaaRegion
import Derived.Deep.DeepCutAuto
import Derived.Outline
namespace Go.Proofs.Ytpfhlodlefcomaa
open Go.RowKit
set_option maxRecDepth 100000
set_option linter.unusedVariables false
set_option linter.unusedSimpArgs false
theorem l2Inputs_c (c : Circ) (V : c.Valid) (a : Option Addr) (cap : Nat) (xss : List (List Bool)) (w : World) (hr : RowsAt w a xss) (hl : xss.length ≤ 1048576) (hlr : ∀ j, j < xss.length → (xss.getD j []).length ≤ 1048576) :
    Calls Try.prog 46 #[.slice a xss.length cap, .int .i64 c.inputs] w fun e w' => e = .returned (.bool (fitB c xss)) ∧ Ext w w' := by
  obtain ⟨R, hR⟩ : ∃ R, R = fitB c xss := ⟨_, rfl⟩
  rw [← hR]
  have HR := Lib.hid hR
  have HL := Lib.hid hlr
  have VV := Lib.hid V
  clear hR hlr V
  go_enter Try.func46, Try.ntmps46
  go_wp2_with fail
  go_loopw [5] (fun i wr => ∃ k : Nat, k ≤ xss.length ∧ i = .int .i64 k ∧ Hid (∀ j, j < k → ((xss.getD j []).length : Int) = c.inputs) ∧ Ext w wr) (fun i _ => xss.length - (intOf i).toNat)
  case atStart => exact ⟨0, Nat.zero_le _, rfl, Lib.hid (fun j hj => by omega), Ext.refl w⟩
  case round =>
    obtain ⟨k, hk, rfl, hp, hE⟩ := hrel
    by_cases hlt : k < xss.length
    · obtain ⟨gb, go, rfl, hgb, hg⟩ := (hr.ext hE).get (by omega)
      obtain ⟨aj, cj, q, hA⟩ := hg k hlt
      obtain ⟨n, hn⟩ : ∃ n, n = (xss.getD k []).length := ⟨_, rfl⟩
      have hn1 := HL.out k hlt
      rw [← hn] at q hn1
      have HN := Lib.hid hn
      clear hg hA hn
      by_cases he : (n : Int) = c.inputs
      · have hne : ((n : Int) != c.inputs) = false := by simp [he]
        have HE := Lib.hid he
        clear he
        go_wp2
        go_roundw
        case rel =>
          refine ⟨k + 1, by omega, by go_num, Lib.hid (fun j hj => ?_), by (repeat (first | with_reducible assumption | with_reducible exact Ext.refl _ | with_reducible refine Ext.drew' ?_ | with_reducible refine Ext.drewN' ?_ _ | with_reducible refine Ext.alloc ?_ _ | (with_reducible refine Ext.setNew ?_ (by first | exact Nat.le_refl _ | (simp; done) | (simp; omega) | omega) _)))⟩
          rcases Nat.lt_or_ge j k with h | h
          · exact hp.out j h
          · have : j = k := by omega
            subst this
            rw [← HN.out]; exact HE.out
        case measure => simp [intOf]; omega
      · have hne : ((n : Int) != c.inputs) = true := by simp [he]
        have hRR : R = false := by
          rw [HR.out]
          cases hf : fitB c xss
          · rfl
          · have := (fitB_iff.1 hf).r k hlt
            rw [← HN.out] at this
            exact absurd this he
        subst hRR
        clear he
        go_wp2
        go_ret
        exact ⟨rfl, by (repeat (first | with_reducible assumption | with_reducible exact Ext.refl _ | with_reducible refine Ext.drew' ?_ | with_reducible refine Ext.drewN' ?_ _ | with_reducible refine Ext.alloc ?_ _ | (with_reducible refine Ext.setNew ?_ (by first | exact Nat.le_refl _ | (simp; done) | (simp; omega) | omega) _)))⟩
    · have hk2 : k = xss.length := by omega
      subst hk2
      by_cases h40 : xss.length ≤ 40
      · have hRR : R = true := by
          rw [HR.out, fitB_iff]
          exact ⟨VV.out, h40, hp.out⟩
        have hd : decide ((xss.length : Int) ≤ 40) = true := by simp; omega
        subst hRR
        go_wp2
        go_ret
        exact ⟨rfl, by (repeat (first | with_reducible assumption | with_reducible exact Ext.refl _ | with_reducible refine Ext.drew' ?_ | with_reducible refine Ext.drewN' ?_ _ | with_reducible refine Ext.alloc ?_ _ | (with_reducible refine Ext.setNew ?_ (by first | exact Nat.le_refl _ | (simp; done) | (simp; omega) | omega) _)))⟩
      · have hRR : R = false := by
          rw [HR.out]
          cases hf : fitB c xss
          · rfl
          · exact absurd (fitB_iff.1 hf).n h40
        have hd : decide ((xss.length : Int) ≤ 40) = false := by simp; omega
        subst hRR
        go_wp2
        go_ret
        exact ⟨rfl, by (repeat (first | with_reducible assumption | with_reducible exact Ext.refl _ | with_reducible refine Ext.drew' ?_ | with_reducible refine Ext.drewN' ?_ _ | with_reducible refine Ext.alloc ?_ _ | (with_reducible refine Ext.setNew ?_ (by first | exact Nat.le_refl _ | (simp; done) | (simp; omega) | omega) _)))⟩
/-- What the step of a round leaves: its result in a box. -/
def CutSim (w : World) (x : List Bool × List Bool) (v : Value) (wx : World) : Prop := ∃ D a1 n1 c1 a2 n2 c2, v = .pointer (some ⟨D, 0, none⟩) ∧ Blk wx D 40 [.slice a1 n1 c1, .slice a2 n2 c2] ∧ w.heap.size ≤ D ∧
  OwnB wx w.heap.size (.slice a1 n1 c1) x.1 ∧ OwnB wx w.heap.size (.slice a2 n2 c2) x.2 ∧ Hid (∀ q, (Value.slice a1 n1 c1).ownBlock = some q → (Value.slice a2 n2 c2).ownBlock ≠ some q) ∧ Ext w wx
theorem OwnB.set2 {W : World} {base D : Nat} {v : Value} {xs : List Bool} {a b : Value} (h : OwnB W base v xs) (hD : v.ownBlock ≠ some D) : OwnB ((W.setCell ⟨D, 0, none⟩ a).setCell ⟨D, 1, none⟩ b) base v xs :=
  ownsRow_set (ownsRow_set h (p := ⟨D, 0, none⟩) hD _) (p := ⟨D, 1, none⟩) hD _
set_option maxHeartbeats 4000000 in
theorem specSimulate_c (c : Circ) (p : Where3) (a : Option Addr) (cap : Nat) (xss : List (List Bool)) (w : World) (hc : CircAt w c p) (hr : RowsAt w a xss) (hl : xss.length ≤ 1048576) (hlr : ∀ j, j < xss.length → (xss.getD j []).length ≤ 1048576) :
    Calls Try.prog 19 #[.agg #[.int .i64 c.inputs, .slice p.an c.next.length p.cn, .slice p.ag c.gates.length p.cg, .slice p.ao c.outs.length p.co], .slice a xss.length cap] w (GiveRows w (simV c xss)) := by
  have made := (CircBox.made w c p 26).ext ((Ext.refl _).alloc (.cells #[] 38))
  have E0 : Ext w ((w.alloc (.cells #[.int .i64 c.inputs, .slice p.an c.next.length p.cn, .slice p.ag c.gates.length p.cg, .slice p.ao c.outs.length p.co] 26)).alloc (.cells #[] 38)) := ((Ext.refl w).alloc _).alloc _
  have X0 := Blk.at (w.alloc (.cells #[.int .i64 c.inputs, .slice p.an c.next.length p.cn, .slice p.ag c.gates.length p.cg, .slice p.ao c.outs.length p.co] 26)) [] 38 (B := w.heap.size + 1) (by simp)
  have HO := Lib.hid (show simV c xss = (if fitB c xss then runV c (st0 c) xss else []) from rfl)
  have HL := Lib.hid hlr
  have own0 : ∀ (W : World) (base : Nat), Blk W (w.heap.size + 1) 38 [] → base ≤ w.heap.size + 1 → OwnR W base (.slice (some ⟨w.heap.size + 1, 0, none⟩) 0 0) [] [] := fun _ _ hB hb =>
    ⟨rfl, hB.owns (n := 0) (size := 1) rfl hb (by decide), fun j hj => by simp at hj, fun j k hj => by simp at hj, fun i j k _ hj => by simp at hj⟩
  have OWN := Lib.hid own0
  clear own0
  go_enter Try.func19, Try.ntmps19
  (obtain ⟨lb, b0, b1, b2, b3⟩ := (id made))
  go_wp2_with fail
  clear lb b0 b1 b2 b3
  refine (specCircuitValid_c c p _ (hc.ext E0)).mono ?_
  rintro e w1 ⟨rfl, hE1⟩
  have y1 := made.ext hE1
  have X1 := X0.ext hE1
  have E1 := E0.trans hE1
  clear made E0 hE1 X0
  (obtain ⟨lb, b0, b1, b2, b3⟩ := (id y1))
  cases hv : validB c
  · have hfB : fitB c xss = false := by unfold fitB; rw [hv]; rfl
    rw [hfB] at HO
    clear hv hfB
    go_wp2
    go_ret
    rw [HO.out]
    exact ⟨_, [], rfl, OWN.out _ _ X1 (by omega), E1⟩
  · have V := validB_iff.1 hv
    have VV := Lib.hid V
    have ln := V.ln
    clear hv
    go_wp2_with fail
    clear lb b0 b1 b2 b3
    refine (l2Inputs_c c V a cap xss w1 (hr.ext E1) hl hlr).mono ?_
    rintro e w2 ⟨rfl, hE2⟩
    have y2 := y1.ext hE2
    have X2 := X1.ext hE2
    have E2 := E1.trans hE2
    clear y1 X1 E1 hE2 hlr V
    (obtain ⟨lb, b0, b1, b2, b3⟩ := (id y2))
    cases hf : fitB c xss
    · rw [hf] at HO
      clear hf
      go_wp2
      go_ret
      rw [HO.out]
      exact ⟨_, [], rfl, OWN.out _ _ X2 (by omega), E2⟩
    · rw [hf] at HO
      have F := fitB_iff.1 hf
      have HF := Lib.hid F
      have hn40 := F.n
      clear hf F
      have hm := run_zeros' (P := Try.prog) 38 4 (.bool false) [.bool false] 1 Try.underlying38 boolInfo' rfl (by decide) (by decide) c.next.length (by omega) w2
      have hz : zeros [Value.bool false] c.next.length = (st0 c).map Value.bool := by unfold st0; rw [zeros_one, List.map_replicate]
      have L0 : Blk (w2.alloc (.cells (zeros [Value.bool false] c.next.length).toArray 4)) w2.heap.size 4 ((st0 c).map Value.bool) := by
        have := Blk.at w2 (zeros [Value.bool false] c.next.length) 4 rfl
        rw [hz] at this ⊢; exact this
      have hs0 : (st0 c).length = c.next.length := by simp [st0]
      have s2 := E2.size
      have sX := X2.lt
      have S0 : OwnB (w2.alloc (.cells (zeros [Value.bool false] c.next.length).toArray 4)) (w.heap.size + 1) (.slice (some ⟨w2.heap.size, 0, none⟩) c.next.length c.next.length) (st0 c) := by
        unfold OwnB
        rw [hs0]
        exact L0.owns (n := c.next.length) (size := 1) (base := w.heap.size + 1) (by rw [List.length_map, hs0]; simp) (by omega) (by unfold maxLen; omega)
      have E3 := (Ext.refl w2).alloc (.cells (zeros [Value.bool false] c.next.length).toArray 4)
      have O3 := OWN.out _ _ (X2.ext E3) (Nat.le_refl _)
      have y3 := y2.ext E3
      have E4 := E2.trans E3
      clear L0 hz hs0
      go_wp2_with fail
      clear lb b0 b1 b2 b3
      go_loopw [6, 5, 7] (fun u5 u6 u19 wr => ∃ (k : Nat) (vals : List Value), k ≤ xss.length ∧ u19 = .int .i64 k ∧ OwnB wr (w.heap.size + 1) u5 (stRun c (st0 c) (xss.take k)) ∧ Hid (∀ q, u5.ownBlock = some q → u6.ownBlock ≠ some q) ∧ OwnR wr (w.heap.size + 1) u6 vals (runV c (st0 c) (xss.take k)) ∧ CircBox wr w.heap.size c p ∧ Ext w wr) (fun _ _ i _ => xss.length - (intOf i).toNat)
      case atStart => exact ⟨0, [], Nat.zero_le _, rfl, S0, Lib.hid (by simp [Value.ownBlock]; omega), O3, y3, E4⟩
      case round =>
        clear S0 E3 y3 hm O3 E4
        obtain ⟨k, vals, hk, rfl, hS, hSO, hO, y, hE⟩ := hrel
        have hrl := runV_length c (xss.take k) (st0 c)
        rw [List.length_take, Nat.min_eq_left hk] at hrl
        by_cases hlt : k < xss.length
        · obtain ⟨gb, go, hra, hgb, hg⟩ := (hr.ext hE).get (by omega)
          obtain ⟨aj, cj, q, hA⟩ := hg k hlt
          have hrl2 := HL.out k hlt
          have ok := evOk_run HF.out k hlt
          have hr1 := runV_snoc c (xss.getD k []) (xss.take k) (st0 c)
          have hs1 := stRun_snoc c (xss.getD k []) (xss.take k) (st0 c)
          rw [← take_snocG xss k [] hlt] at hr1 hs1
          obtain ⟨st, hst⟩ : ∃ st, st = stRun c (st0 c) (xss.take k) := ⟨_, rfl⟩
          obtain ⟨row, hrow⟩ : ∃ r, r = xss.getD k [] := ⟨_, rfl⟩
          obtain ⟨outs, hou⟩ : ∃ r, r = runV c (st0 c) (xss.take k) := ⟨_, rfl⟩
          rw [← hst] at hS ok hr1 hs1
          rw [← hrow] at q hA ok hr1 hs1 hrl2
          rw [← hou] at hO hr1 hrl
          obtain ⟨sa, sc, rfl, hSA⟩ := hS.opened
          (obtain ⟨lb, b0, b1, b2, b3⟩ := (id y))
          have hor := hO.row
          rw [hrl] at hor
          obtain ⟨oa, oc, rfl, _⟩ := ownsRow_row hor
          have HRL := Lib.hid hrl
          have HR1 := Lib.hid hr1
          have HS1 := Lib.hid hs1
          have HOK := Lib.hid ok
          have HO2 := Lib.hid hO
          rw [hra]
          have HRA := Lib.hid hra
          obtain ⟨w3, rfl⟩ : ∃ x : World, x = wr := ⟨_, rfl⟩
          have hs3 := hE.size
          have hcall := fun (W : World) (e : Ext w3 W) => l2Step_c c p sa aj sc cj st row W (hc.ext (hE.trans e)) (hSA.ext e) (hA.ext e) ok
          have HCALL := Lib.hid hcall
          clear hg hst hrow hou hr1 hs1 hrl ok hS hra hcall hO
          go_wp2_with fail
          go_upto_region 8 with fail
          go_cut [8] (CutSim w3 (stepV c st row))
          case first =>
            (refine wp_regionT ((fun w' => (∀ b o, b < w3.heap.size → w'.cell? ⟨b, o, none⟩ = w3.cell? ⟨b, o, none⟩) ∧ Ext w3 w')) 8 (by kernel_rfl) ?_; have hS0 := held_mk (Ext.drew w3))
            ((refine wpAnyT_take 0 (v := ?_) rfl (by kernel_rfl) (fun _ _ _ h => h) (Or.inl ⟨by kernel_rfl, ?_⟩) (by assumption) ?_; rotate_left; (intro wS hSw; (try dsimp only at hSw); go_simp; (try with_reducible rfl)); (try simp only [Act.put, List.setIfInBounds_toArray, List.set_cons_zero, List.set_cons_succ])); (refine wpAnyT_take 1 (v := ?_) rfl (by kernel_rfl) (fun _ _ _ h => h) (Or.inl ⟨by kernel_rfl, ?_⟩) (by assumption) ?_; rotate_left; (intro wS hSw; (try dsimp only at hSw); go_simp; (try with_reducible rfl)); (try simp only [Act.put, List.setIfInBounds_toArray, List.set_cons_zero, List.set_cons_succ])); (refine wpAnyT_take 2 (v := ?_) rfl (by kernel_rfl) (fun _ _ _ h => h) (Or.inl ⟨by kernel_rfl, ?_⟩) (by assumption) ?_; rotate_left; (intro wS hSw; (try dsimp only at hSw); go_simp; (try with_reducible rfl)); (try simp only [Act.put, List.setIfInBounds_toArray, List.set_cons_zero, List.set_cons_succ])); (refine wpAnyT_take 3 (v := ?_) rfl (by kernel_rfl) (fun _ _ _ h => h) (Or.inl ⟨by kernel_rfl, ?_⟩) (by assumption) ?_; rotate_left; (intro wS hSw; (try dsimp only at hSw); go_simp; (try with_reducible rfl)); (try simp only [Act.put, List.setIfInBounds_toArray, List.set_cons_zero, List.set_cons_succ])); (refine wpAnyT_take 4 (v := ?_) rfl (by kernel_rfl) (fun _ _ _ h => h) (Or.inl ⟨by kernel_rfl, ?_⟩) (by assumption) ?_; rotate_left; (intro wS hSw; (try dsimp only at hSw); go_simp; (try with_reducible rfl)); (try simp only [Act.put, List.setIfInBounds_toArray, List.set_cons_zero, List.set_cons_succ])); (refine wpAnyT_take 5 (v := ?_) rfl (by kernel_rfl) (fun _ _ _ h => h) (Or.inl ⟨by kernel_rfl, ?_⟩) (by assumption) ?_; rotate_left; (intro wS hSw; (try dsimp only at hSw); go_simp; (try with_reducible rfl)); (try simp only [Act.put, List.setIfInBounds_toArray, List.set_cons_zero, List.set_cons_succ])))
            (refine wpAnyT_do2 6 7 (by kernel_rfl) rfl rfl (fun K hK => ?_) (fun K hK => ?_))
            · go_simp
              refine (HCALL.out _ (Ext.drew w3)).mono ?_
              rintro e w4 ⟨v1, v2, rfl, hrep, hE4⟩
              obtain ⟨a1, c1, n1, a2, c2, n2, rfl, rfl⟩ := hrep.sl
              obtain ⟨⟨m, r1, r2, r3, r4, r5, r6⟩, _, _⟩ := hrep
              have hE5 := (Ext.drew w3).trans hE4
              have hS1 := held_mk hE5
              (refine hK _ _ hS1 ?_; clear hK K; (try simp only [Act.put, List.setIfInBounds_toArray, List.set_cons_zero, List.set_cons_succ]))
              (refine wpAnyT_doB 7 (by kernel_rfl) rfl (fun K hK => ?_))
              refine Bx.mk ?_
              go_simp
              have hS2 := held_mk (hE5.alloc (.cells #[.slice none 0 0, .slice none 0 0] 40))
              have bk := Blk.at w4 [.slice none 0 0, .slice none 0 0] 40 rfl
              have z0 := bk.cell (i := 0) rfl
              have z1 := bk.cell (i := 1) rfl
              have zf := fun i => bk.frozen i
              (refine hK _ _ hS2 ?_; clear hK K; (try simp only [Act.put, List.setIfInBounds_toArray, List.set_cons_zero, List.set_cons_succ]))
              (refine wpAnyT_lastB 8 (by kernel_rfl) rfl (by decide) (by kernel_rfl) (fun K hK => ?_))
              refine Bx.mk ?_
              go_simp
              (refine hK _ _ ?_; clear hK K; (try simp only [Act.put, List.setIfInBounds_toArray, List.set_cons_zero, List.set_cons_succ]))
              go_wp2_with fail
              go_meet
              have eB : Ext w4 (w4.alloc (.cells #[.slice a1 n1 c1, .slice a2 n2 c2] 40)) := (Ext.refl w4).alloc _
              exact ⟨w4.heap.size, _, _, _, _, _, _, rfl, Blk.at w4 _ _ rfl, hE5.size, r1.ext eB, OwnB.le (r3.ext eB) r5, Lib.hid (fun q hq e => by have := r2 q hq; have := (r3.lt2 q e).1; omega), hE5.trans eB⟩
            · go_simp
              have eZ : Ext w3 (w3.alloc (.cells #[.slice none 0 0, .slice none 0 0] 40)).drew := ((Ext.refl w3).alloc _).drew'
              have bk0 := (Blk.at w3 [.slice none 0 0, .slice none 0 0] 40 rfl).ext (Ext.drew _)
              have hS1 := held_mk eZ
              (refine hK _ _ hS1 ?_; clear hK K; (try simp only [Act.put, List.setIfInBounds_toArray, List.set_cons_zero, List.set_cons_succ]))
              (refine wpAnyT_doB 6 (by kernel_rfl) rfl (fun K hK => ?_))
              refine Bx.mk ?_
              go_simp
              refine (HCALL.out _ eZ).mono ?_
              rintro e w4 ⟨v1, v2, rfl, hrep, hE4⟩
              obtain ⟨a1, c1, n1, a2, c2, n2, rfl, rfl⟩ := hrep.sl
              obtain ⟨⟨m, r1, r2, r3, r4, r5, r6⟩, _, _⟩ := hrep
              have hE5 := eZ.trans hE4
              have hS2 := held_mk hE5
              have bk := bk0.ext hE4
              have z0 := bk.cell (i := 0) rfl
              have z1 := bk.cell (i := 1) rfl
              have zf := fun i => bk.frozen i
              (refine hK _ _ hS2 ?_; clear hK K; (try simp only [Act.put, List.setIfInBounds_toArray, List.set_cons_zero, List.set_cons_succ]))
              (refine wpAnyT_lastB 8 (by kernel_rfl) rfl (by decide) (by kernel_rfl) (fun K hK => ?_))
              refine Bx.mk ?_
              go_simp
              (refine hK _ _ ?_; clear hK K; (try simp only [Act.put, List.setIfInBounds_toArray, List.set_cons_zero, List.set_cons_succ]))
              go_wp2_with fail
              go_meet
              have h1 : (Value.slice a1 n1 c1).ownBlock ≠ some w3.heap.size := fun e => by have := (r1.lt2 _ e).1; simp at this; omega
              have h2 : (Value.slice a2 n2 c2).ownBlock ≠ some w3.heap.size := fun e => by have := (r3.lt2 _ e).1; simp at r5; omega
              exact ⟨w3.heap.size, _, _, _, _, _, _, rfl, (bk.set 0 _).set 1 _, Nat.le_refl _, (OwnB.le r1 (by simp)).set2 h1, (OwnB.le r3 (by simp at r5; omega)).set2 h2, Lib.hid (fun q hq e => by have := r2 q hq; have := (r3.lt2 q e).1; omega), Ext.setNew (p := ⟨w3.heap.size, 1, none⟩) (Ext.setNew (p := ⟨w3.heap.size, 0, none⟩) hE5 (Nat.le_refl _) _) (Nat.le_refl _) _⟩
          obtain ⟨D, a1, n1, c1, a2, n2, c2, rfl, bk, hD, r1, r3, r4, hE5⟩ := hcut
          clear b0 b1 b2 b3 lb
          have hrA := RowAt.new wc #[.slice a1 n1 c1] 38
          have eA : Ext wc (wc.alloc (.cells #[.slice a1 n1 c1] 38)) := (Ext.refl wc).alloc _
          have hoA := ownsRow_ext hor (hE5.trans eA)
          have hsA : w.heap.size + 1 ≤ (wc.alloc (.cells #[.slice a1 n1 c1] 38)).heap.size := by have := hE5.size; have := y.lt; simp; omega
          have hnA : k + 1 ≤ 1073741824 := by omega
          have bkA := bk.ext eA
          have HOL := Lib.hid hor.lt
          have x0 := bk.cell (i := 0) rfl
          have hy := (y.ext hE5).ext eA
          go_wp2_with (at_builtin; refine wpList_app tyRows hoA hrA rfl (by simp [Value.oneCell']) hnA hsA rfl rfl rfl rfl ?_; intro v9 w9 o9 g9 m9; obtain ⟨a9, c9, rfl, _⟩ := ownsRow_row o9; have bk9 := bkA.gr g9 (by intro e; have := (HOL.out _ e).2; omega); have z1 := bk9.cell (i := 1) rfl)
          go_roundw
          case rel =>
            have hO9 := HO2.out.snoc (u := .slice a1 n1 c1) (x := (stepV c st row).1) (hE5.trans eA) (OwnB.le (r1.ext eA) (by have := y.lt; omega)) (fun q hq => (r1.lt2 q hq).1) g9 m9 (by rw [HRL.out]) (by exact o9)
            have hv2 : OwnB w9 (w.heap.size + 1) (.slice a2 n2 c2) (stepV c st row).2 := OwnB.le (ownsRow_gr (r3.ext eA) g9 (off_row (fun q hq e => by have := (r3.lt2 q hq).1; have := (HOL.out q e).2; omega))) (by have := y.lt; omega)
            refine ⟨k + 1, vals ++ [.slice a1 n1 c1], by omega, by go_num, ?_, Lib.hid (fun q hq e => ?_), ?_, hy.grn g9 (by intro e; have := (HOL.out _ e).1; omega), ?_⟩
            · rw [HS1.out]; exact hv2
            · have h3 := (r3.lt2 q hq)
              rcases m9 with em | ⟨x, em, hx⟩
              · rw [em] at e; have := (HOL.out q e).2; omega
              · rw [em] at e; have : x = q := Option.some.inj e; have := eA.size; omega
            · rw [HR1.out]; exact hO9
            · exact ext_grown ((hE.trans hE5).trans eA) g9 (fun q hq => by have := (HOL.out q hq).1; omega)
          case measure => simp [intOf]; omega
        · have hk2 : k = xss.length := by omega
          subst hk2
          rw [List.take_length] at hO
          simp only [if_true] at HO
          (obtain ⟨lb, b0, b1, b2, b3⟩ := (id y))
          go_wp2
          go_ret
          rw [HO.out]
          exact ⟨_, vals, rfl, hO.le (by omega), hE⟩
end Go.Proofs.Ytpfhlodlefcomaa
