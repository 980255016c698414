/- Bundle: the lookup tables of both libraries. -/
import Derived.Test.YtgialedmbmfejaaBBest
import Derived.Test.YtgialedmbmfejaaRegion2
import Derived.Deep.DeepCutAuto
import Derived.Test.YtgialedmbmfejaaNest
import Derived.Lib.OwnBridge
import Derived.Test.YtgialedmbmfejaaBEv
namespace Go.Proofs.Ytgialedmbmfejaa
open Go.RowKit
set_option maxRecDepth 100000
set_option linter.unusedVariables false
set_option linter.unusedSimpArgs false
/-- What the recursion returns at a variable. -/
def ConeC (c : Circ) (p : Where3) (la : Option Addr) (lc : Nat) (leaves : List Int) (x v : Nat) : Prop := ∀ w, CircAt w c p → IntsAt w la leaves → Calls Try.prog 146 #[.agg #[.int .i64 c.inputs, .slice p.an c.next.length p.cn, .slice p.ag c.gates.length p.cg, .slice p.ao c.outs.length p.co], .int .i64 v, .slice la leaves.length lc, .int .i64 x] w fun e w' => e = .returned (.bool (coneB c leaves x v)) ∧ Ext w w'
theorem leafB_none {leaves : List Int} {x : Nat} {v : Int} {d : Bool} (h : ∀ j, j < leaves.length → leaves.getD j 0 ≠ v) : leafB leaves x v d = d := by unfold leafB; rw [leafIdx_none h]
theorem leafB_some {leaves : List Int} {x k : Nat} {v : Int} {d : Bool} (hk : k < leaves.length) (he : leaves.getD k 0 = v) (hb : ∀ j, j < k → leaves.getD j 0 ≠ v) : leafB leaves x v d = bitN x k := by unfold leafB; rw [leafIdx_at hk he hb]
set_option maxHeartbeats 4000000 in
theorem l5Cone_c (c : Circ) (p : Where3) (la : Option Addr) (lc : Nat) (leaves : List Int) (x : Nat) (V : c.Valid) (hl : leaves.length ≤ 10) (hx : x ≤ 1000) : ∀ n v : Nat, v < n → (v : Int) < c.vars → ConeC c p la lc leaves x v := by
 intro n
 induction n with
 | zero => intro v h; exact absurd h (Nat.not_lt_zero v)
 | succ n ih =>
  intro v hvn hvv w hc hI
  have IH := Lib.hid ih
  have hi0 := V.i0
  have hi4 := V.i4
  have ln := V.ln
  have lg := V.lg
  have lo := V.lo
  obtain ⟨f, hf⟩ : ∃ f : Nat, c.first = (f : Int) := ⟨c.first.toNat, by unfold Circ.first; omega⟩
  have hft : c.first.toNat = f := by omega
  have hf1 : 1 ≤ f ∧ f ≤ 8 := by unfold Circ.first at hf; omega
  obtain ⟨hf1, hf2⟩ := hf1
  have hvb : v < f + c.gates.length := by unfold Circ.vars at hvv; omega
  obtain ⟨R, hR⟩ : ∃ R, R = coneB c leaves x v := ⟨_, rfl⟩
  rw [← hR]
  have HR := Lib.hid hR
  have HFT := Lib.hid hft
  have HG := Lib.hid V.gs
  obtain ⟨an, cn, ag, cg, ao, co⟩ := p
  dsimp only
  have y := CircBox.made w c ⟨an, cn, ag, cg, ao, co⟩ 26
  have E0 : Ext w (w.alloc (.cells #[.int .i64 c.inputs, .slice an c.next.length cn, .slice ag c.gates.length cg, .slice ao c.outs.length co] 26)) := (Ext.refl w).alloc _
  have hI0 := hI.ext E0
  clear hR hft ih V
  go_enter Try.func146, Try.ntmps146
  go_wp2_with fail
  go_loop [9] (fun u => ∃ k : Nat, k ≤ leaves.length ∧ u = .int .i64 k ∧ Hid (∀ j, j < k → leaves.getD j 0 ≠ v)) (fun i => leaves.length - (intOf i).toNat)
  case atStart => exact ⟨0, Nat.zero_le _, rfl, Lib.hid (fun j hj => absurd hj (Nat.not_lt_zero j))⟩
  case round =>
   obtain ⟨k, hk, rfl, HP⟩ := hrel
   by_cases hlt : k < leaves.length
   ·obtain ⟨b2, o2, rfl, hb2, hc2⟩ := hI0.get (by omega)
    have q2 := hc2 k hlt
    obtain ⟨z, hz⟩ : ∃ z, z = leaves.getD k 0 := ⟨_, rfl⟩
    rw [← hz] at q2
    have HZ := Lib.hid hz
    clear hc2 hz
    by_cases hzv : z = (v : Int)
    ·have hRR : R = bitN x k := by
      rw [HR.out]
      by_cases hlow : v < f
      ·rw [coneB_low (by rw [HFT.out]; exact hlow), leafB_some hlt (by rw [← HZ.out]; exact hzv) HP.out]
      ·obtain ⟨k2, hk2⟩ : ∃ k2, v = f + k2 := ⟨v - f, by omega⟩
       have hg := HG.out k2 (by omega)
       have h1 := litB_ok hg.1
       have h2 := litB_ok hg.2
       rw [hf] at h1 h2
       rw [hk2, ← HFT.out, coneB_gate (by omega) (by rw [HFT.out]; omega) (by rw [HFT.out]; omega), HFT.out, ← hk2, leafB_some hlt (by rw [← HZ.out]; exact hzv) HP.out]
     have hbq := bit_eq x k
     have hbn := bit_nonneg x k
     have hble := bit_le x k
     rw [← hRR] at hbq
     have d1 : (z == (v : Int)) = true := by simp [hzv]
     have HRR := Lib.hid hRR
     clear hRR hzv
     go_wp2_with fail
     have hb2 := bit_eq2 x k
     rw [← HRR.out] at hb2
     go_ret
     exact ⟨by rw [← hb2]; rfl, E0⟩
    ·have d1 : (z == (v : Int)) = false := by simp [hzv]
     go_wp2_with fail
     go_round
     case rel =>
      refine ⟨k + 1, by omega, by go_num, Lib.hid (fun j hj => ?_)⟩
      rcases Nat.lt_or_ge j k with h | h
      ·exact HP.out j h
      ·have : j = k := by omega
       subst this
       rw [← HZ.out]; exact hzv
     case measure => simp [intOf]; omega
   ·have hkl : k = leaves.length := by omega
    have HNO : Hid (∀ j, j < leaves.length → leaves.getD j 0 ≠ v) := Lib.hid (fun j hj => HP.out j (by omega))
    (obtain ⟨lb, b0, b1, b2, b3⟩ := (id y))
    dsimp only at b1 b2 b3
    clear hkl HP
    go_wp2_with fail
    refine (l1First_c c ⟨an, cn, ag, cg, ao, co⟩ _ (by omega) (by omega) (by omega)).mono ?_
    rintro e w1 ⟨rfl, hE1⟩
    rw [hf]
    have E1 := E0.trans hE1
    have y1 := y.ext hE1
    clear b0 b1 b2 b3 lb y hE1
    by_cases hlow : v < f
    ·have hRR : R = false := by rw [HR.out, coneB_low (by rw [HFT.out]; exact hlow), leafB_none HNO.out]
     subst hRR
     go_wp2_with fail
     go_ret
     exact ⟨rfl, E1⟩
    ·obtain ⟨k2, hk2⟩ : ∃ k2, v = f + k2 := ⟨v - f, by omega⟩
     have hg := HG.out k2 (by omega)
     have h1 := litB_ok hg.1
     have h2 := litB_ok hg.2
     rw [hf] at h1 h2
     have hk2l : k2 < c.gates.length := by omega
     have hval := coneB_gate (leaves := leaves) (x := x) hk2l (by rw [HFT.out]; omega) (by rw [HFT.out]; omega)
     rw [HFT.out, leafB_none (by rw [← hk2]; exact HNO.out), ← hk2, ← HR.out] at hval
     obtain ⟨gb, go, hag, hgl, hg1, hg2⟩ := (hc.ext E1).gs.get (by omega)
     dsimp only at hag
     subst hag
     have q1 := hg1 k2 hk2l
     have q2 := hg2 k2 hk2l
     obtain ⟨ga, hga⟩ : ∃ x, x = (c.gates.getD k2 (0, 0)).1 := ⟨_, rfl⟩
     obtain ⟨gc, hgc⟩ : ∃ x, x = (c.gates.getD k2 (0, 0)).2 := ⟨_, rfl⟩
     rw [← hga] at q1 h1 hval
     rw [← hgc] at q2 h2 hval
     have IHA := Lib.hid (IH.out (ga / 2).toNat (by omega) (by unfold Circ.vars; omega))
     have IHC := Lib.hid (IH.out (gc / 2).toNat (by omega) (by unfold Circ.vars; omega))
     obtain ⟨h1a, h1b⟩ := h1
     obtain ⟨h2a, h2b⟩ := h2
     have HVAL := Lib.hid hval
     have hwr : IntKind.i64.wrap ((v : Int) - (f : Int)) = (v : Int) - (f : Int) := IntWalk.i64_in _ (by omega)
     have hidx : ((v : Int) - (f : Int)).toNat = k2 := by omega
     have hix0 : 0 ≤ (v : Int) - (f : Int) := by omega
     have hix1 : (v : Int) - (f : Int) < (c.gates.length : Int) := by omega
     have hvf : ¬ (v : Int) < (f : Int) := by omega
     have HK2 := Lib.hid hk2
     (obtain ⟨lb, b0, b1, b2, b3⟩ := (id y1))
     dsimp only at b1 b2 b3
     clear hg1 hg2 hga hgc hval hk2 hg hlow
     go_upto_region 8 with fail
     have lgb : gb < w1.heap.size := hgl
     go_cut [10] (fun sx wx => ∃ D, sx = .pointer (some ⟨D, 0, none⟩) ∧ Blk wx D 100 [.int .i64 ga, .int .i64 gc] ∧ w1.heap.size ≤ D ∧ Ext w1 wx)
     case first =>
      go_region_held3 ((fun w' => (∀ b o, b < w1.heap.size → w'.cell? ⟨b, o, none⟩ = w1.cell? ⟨b, o, none⟩) ∧ Ext w1 w')) (first | (first | assumption | (with_reducible exact held_mk (Ext.drew w1)) | (with_reducible exact held_mk (((Ext.refl w1).alloc _).drew')) | (with_reducible exact held_mk ((Ext.drew w1).alloc _))) | exact held_mk (by (repeat (first | with_reducible assumption | with_reducible exact Ext.refl _ | with_reducible refine Ext.drew' ?_ | with_reducible refine Ext.drewN' ?_ _ | with_reducible refine Ext.alloc ?_ _ | (with_reducible refine Ext.setNew ?_ (by first | exact Nat.le_refl _ | (simp; done) | (simp; omega) | omega) _))))) ((go_simp; go_at_call 69; refine (l1First_c c ⟨an, cn, some ⟨gb, go, none⟩, cg, ao, co⟩ _ (by omega) (by omega) (by omega)).mono ?_; rintro e w4 ⟨rfl, hQ1⟩; rw [hf]; have hX1 : Ext w1 w4 := Ext.trans (by (repeat (first | with_reducible assumption | with_reducible exact Ext.refl _ | with_reducible refine Ext.drew' ?_ | with_reducible refine Ext.drewN' ?_ _ | with_reducible refine Ext.alloc ?_ _ | (with_reducible refine Ext.setNew ?_ (by first | exact Nat.le_refl _ | (simp; done) | (simp; omega) | omega) _)))) hQ1; have hK1 := held_mk hX1; have hZ1 := hX1.size; (first | (have kb := (Blk.at (World.drew w1) [.int .i64 0, .int .i64 0] 100 (B := w1.heap.size) rfl).ext hQ1) | (have kb := (Blk.at _ [.int .i64 0, .int .i64 0] 100 rfl).ext hQ1) | (replace kb := kb.ext hQ1) | skip); (first | (have kb0 := kb.cell (i := 0) rfl; have kb1 := kb.cell (i := 1) rfl; have kbf := fun i => kb.frozen i) | skip)))
      all_goals
       go_wp2_with fail
       go_meet
       first
       | exact ⟨w1.heap.size, rfl, (kb.set 0 _).set 1 _, Nat.le_refl _, Ext.setNew (Ext.setNew hX1 (Nat.le_refl _) _) (Nat.le_refl _) _⟩
       | exact ⟨w4.heap.size, rfl, Blk.at _ _ _ rfl, hZ1, hX1.alloc _⟩
     obtain ⟨D, rfl, bk, hD, hE5⟩ := hcut
     have z0 := bk.cell (i := 0) rfl
     have z1 := bk.cell (i := 1) rfl
     have zl := bk.lt
     have y5 := y1.ext hE5
     have E5 := E1.trans hE5
     obtain ⟨w5, rfl⟩ : ∃ z : World, z = wc := ⟨_, rfl⟩
     clear b0 b1 b2 b3 lb q1 q2
     (obtain ⟨lb, b0, b1, b2, b3⟩ := (id y5))
     dsimp only at b1 b2 b3
     have ihA := IHA.out
     unfold ConeC at ihA
     rw [Int.toNat_of_nonneg (by omega)] at ihA
     have ihC := IHC.out
     unfold ConeC at ihC
     rw [Int.toNat_of_nonneg (by omega)] at ihC
     have hta : IntKind.i64.wrap (ga.tdiv 2) = ga / 2 := by rw [Int.tdiv_eq_ediv_of_nonneg h1a]; exact IntWalk.i64_in _ (by omega)
     have htc : IntKind.i64.wrap (gc.tdiv 2) = gc / 2 := by rw [Int.tdiv_eq_ediv_of_nonneg h2a]; exact IntWalk.i64_in _ (by omega)
     obtain ⟨A, hA⟩ : ∃ A, A = coneB c leaves x (ga / 2).toNat := ⟨_, rfl⟩
     obtain ⟨B, hB⟩ : ∃ B, B = coneB c leaves x (gc / 2).toNat := ⟨_, rfl⟩
     rw [← hA] at ihA HVAL
     rw [← hB] at ihC HVAL
     obtain ⟨pa, hpa⟩ : ∃ par, (ga % 2 == 1) = par := ⟨_, rfl⟩
     obtain ⟨pb, hpb⟩ : ∃ par, (gc % 2 == 1) = par := ⟨_, rfl⟩
     rw [hpa, hpb] at HVAL
     have hma : ga.tmod 2 = ga % 2 := Int.tmod_eq_emod_of_nonneg h1a
     have hmc : gc.tmod 2 = gc % 2 := Int.tmod_eq_emod_of_nonneg h2a
     obtain ⟨va, hva⟩ : ∃ a, (A != pa) = a := ⟨_, rfl⟩
     obtain ⟨vb, hvb2⟩ : ∃ a, (B != pb) = a := ⟨_, rfl⟩
     rw [hva, hvb2] at HVAL
     have hva3 : (!(A == pa)) = va := by rw [← hva]; cases A <;> cases pa <;> rfl
     have hvb3 : (!(B == pb)) = vb := by rw [← hvb2]; cases B <;> cases pb <;> rfl
     have HIA := Lib.hid ihA
     have HIC := Lib.hid ihC
     clear hA hB ihA ihC IHA IHC
     go_wp2_with fail
     go_region_held3 ((fun w' => (∀ b o, b < w5.heap.size → w'.cell? ⟨b, o, none⟩ = w5.cell? ⟨b, o, none⟩) ∧ Ext w5 w')) ((first | assumption | (with_reducible exact held_mk (Ext.drew w5)) | (with_reducible exact held_mk (((Ext.refl w5).alloc _).drew')) | (with_reducible exact held_mk ((Ext.drew w5).alloc _)))) ((go_simp; go_at_call 146; refine (HIA.out _ (hc.ext (E5.trans (Ext.drew _))) (hI.ext (E5.trans (Ext.drew _)))).mono ?_; rintro e w6 ⟨rfl, hE6⟩; have hK1 := held_mk ((Ext.drew w5).trans hE6)))
     have hE7 := held_ext hK1
     have E7 := E5.trans hE7
     have y7 := y5.ext hE7
     have bk7 := bk.ext hE7
     clear b0 b1 b2 b3 lb z0 z1 zl hK1
     (obtain ⟨lb, b0, b1, b2, b3⟩ := (id y7))
     dsimp only at b1 b2 b3
     have z0 := bk7.cell (i := 0) rfl
     have z1 := bk7.cell (i := 1) rfl
     have zl := bk7.lt
     obtain ⟨w7, rfl⟩ : ∃ z : World, z = w6 := ⟨_, rfl⟩
     go_wp2_with fail
     go_region_held3 ((fun w' => (∀ b o, b < w7.heap.size → w'.cell? ⟨b, o, none⟩ = w7.cell? ⟨b, o, none⟩) ∧ Ext w7 w')) ((first | assumption | (with_reducible exact held_mk (Ext.drew w7)) | (with_reducible exact held_mk (((Ext.refl w7).alloc _).drew')) | (with_reducible exact held_mk ((Ext.drew w7).alloc _)))) ((go_simp; go_at_call 146; refine (HIC.out _ (hc.ext (E7.trans (Ext.drew _))) (hI.ext (E7.trans (Ext.drew _)))).mono ?_; rintro e w8 ⟨rfl, hE8⟩; have hK1 := held_mk ((Ext.drew w7).trans hE8)))
     have hE9 := held_ext hK1
     have E9 := E7.trans hE9
     clear b0 b1 b2 b3 lb z0 z1 zl hK1
     have hRR := HVAL.out
     clear hva hvb2 hva3 hvb3 hpa hpb hma hmc hta htc
     cases va
     ·have hR2 : R = false := by rw [hRR]; rfl
      clear hRR HVAL
      subst hR2
      go_wp2_with fail
      go_ret
      exact ⟨rfl, E9⟩
     ·have hR2 : R = vb := by rw [hRR]; rfl
      clear hRR HVAL
      subst hR2
      go_wp2_with fail
      go_ret
      exact ⟨rfl, E9⟩
set_option maxHeartbeats 1000000 in
theorem l5Table_c (c : Circ) (p : Where3) (la : Option Addr) (lc : Nat) (leaves : List Int) (v : Nat) (w : World) (hc : CircAt w c p) (V : c.Valid) (hI : IntsAt w la leaves) (hl : leaves.length ≤ 3) (hv : (v : Int) < c.vars) :
  Calls Try.prog 134 #[.agg #[.int .i64 c.inputs, .slice p.an c.next.length p.cn, .slice p.ag c.gates.length p.cg, .slice p.ao c.outs.length p.co], .int .i64 v, .slice la leaves.length lc] w fun e w' => e = .returned (.int .i64 (tableV c leaves v)) ∧ Ext w w' := by
 obtain ⟨N, hN⟩ : ∃ N, N = 2 ^ leaves.length := ⟨_, rfl⟩
 have hN8 : N ≤ 8 := by rw [hN]; exact Nat.pow_le_pow_right (by decide) hl
 have HU : Hid (tableV c leaves v = tabN (fun x => coneB c leaves x v) N) := Lib.hid (by unfold tableV; rw [hN])
 obtain ⟨U, hU⟩ : ∃ U, U = tableV c leaves v := ⟨_, rfl⟩
 rw [← hU] at HU ⊢
 have HC := Lib.hid (fun x (hx : x ≤ 1000) => l5Cone_c c p la lc leaves x V (by omega) hx (v + 1) v (by omega) hv)
 have E0 : Ext w (w.alloc (.cells #[.int .i64 c.inputs, .slice p.an c.next.length p.cn, .slice p.ag c.gates.length p.cg, .slice p.ao c.outs.length p.co] 26)) := (Ext.refl w).alloc _
 have y := CircBox.made w c p 26
 have hsh : (1 : Int) * 2 ^ leaves.length = (N : Int) := by rw [hN, Int.one_mul]; norm_cast
 have HSH := Lib.hid hsh
 clear hU hN
 go_enter Try.func134, Try.ntmps134
 go_wp2_with fail
 go_loopw [7, 8] (fun u7 u8 wr => ∃ (k t : Nat), k ≤ N ∧ u8 = .int .i64 k ∧ u7 = .int .i64 t ∧ Hid (t = tabN (fun x => coneB c leaves x v) k) ∧ CircBox wr w.heap.size c p ∧ Ext w wr) (fun _ v _ => N - (intOf v).toNat)
 case atStart => exact ⟨0, 0, Nat.zero_le _, rfl, rfl, Lib.hid rfl, y, E0⟩
 case round =>
  clear y E0
  obtain ⟨k, t, hk, rfl, rfl, HT, y, hE⟩ := hrel
  (obtain ⟨lb, b0, b1, b2, b3⟩ := (id y))
  by_cases hlt : k < N
  ·have hcall := HC.out k (by omega) wr (hc.ext hE) (hI.ext hE)
   have htl := tabN_lt (fun x => coneB c leaves x v) k
   rw [← HT.out] at htl
   have hpk : 2 ^ k ≤ 2 ^ 7 := Nat.pow_le_pow_right (by decide) (by omega)
   have hsk : (1 : Int) * 2 ^ k = ((2 ^ k : Nat) : Int) := by rw [Int.one_mul]; norm_cast
   have hsn : tabN (fun x => coneB c leaves x v) (k + 1) = t + if coneB c leaves k v then 2 ^ k else 0 := by rw [HT.out]; rfl
   obtain ⟨q, hq⟩ : ∃ q, q = 2 ^ k := ⟨_, rfl⟩
   rw [← hq] at hsn htl hpk hsk
   have HSN := Lib.hid hsn
   clear hsn hq
   go_wp2_with fail
   refine hcall.mono ?_
   rintro e w1 ⟨rfl, hE1⟩
   cases hb : coneB c leaves k v
   ·rw [hb] at HSN
    go_wp2_with fail
    go_roundw
    case rel => exact ⟨k + 1, t, by omega, by go_num, rfl, Lib.hid (by rw [HSN.out]; simp), y.ext hE1, hE.trans hE1⟩
    case measure => simp [intOf]; omega
   ·rw [hb] at HSN
    go_wp2_with fail
    go_roundw
    case rel => exact ⟨k + 1, t + q, by omega, by go_num, by first | rfl | (congr 1; omega), Lib.hid (by rw [HSN.out]; simp), y.ext hE1, hE.trans hE1⟩
    case measure => simp [intOf]; omega
  ·have hkk : k = N := by omega
   have e : t = U := by rw [HU.out, HT.out, hkk]
   subst e
   clear hkk HT HU
   go_wp2_with fail
   go_ret
   exact ⟨rfl, hE⟩
end Go.Proofs.Ytgialedmbmfejaa

namespace Go.Proofs.Ytgialedmbmfejaa
open Go.RowKit Go.Maps
set_option maxRecDepth 100000
set_option linter.unusedVariables false
set_option linter.unusedSimpArgs false
theorem gr_behind {w0 w w' : World} {mb : Nat} (h : w.grownBy w' (some mb)) (e : Ext w0 w) (hm : w0.heap.size ≤ mb) : Ext w0 w' :=
 ⟨h.os.trans (Below.os e), h.tape.trans (Below.tape e), h.output.trans (Below.output e), Nat.le_trans e.size h.size, fun k hk => (h.block k (Nat.lt_of_lt_of_le hk e.size) (fun e2 => by have := Option.some.inj e2; omega)).trans (Below.block e k hk)⟩
theorem some_ne {a b : Nat} (h : a ≠ b) : some a ≠ some b := fun e => h (Option.some.inj e)
theorem asc_ne {leaves : List Int} (h : Asc leaves) {i j : Nat} (hij : i < j) (hj : j < leaves.length) : leaves.getD i 0 ≠ leaves.getD j 0 := by
 have := List.pairwise_iff_getElem.1 h i j (by omega) hj hij
 rw [List.getD_eq_getElem?_getD, List.getD_eq_getElem?_getD, List.getElem?_eq_getElem (show i < leaves.length by omega), List.getElem?_eq_getElem hj]
 simp; omega
theorem coneB_leaf {c : Circ} (V : c.Valid) {leaves : List Int} (ha : Asc leaves) {x v j : Nat} (hv : (v : Int) < c.vars) (hj : j < leaves.length) (he : leaves.getD j 0 = (v : Int)) : coneB c leaves x v = bitN x j := by
 have hi : leafIdx leaves v = some j := leafIdx_at hj he (fun i hi => by rw [← he]; exact asc_ne ha hi hj)
 have hf : 1 ≤ c.first := by have := V.i0; unfold Circ.first; omega
 by_cases h : v < c.first.toNat
 ·rw [coneB_low h]; unfold leafB; rw [hi]
 ·obtain ⟨k, hk⟩ : ∃ k, v = c.first.toNat + k := ⟨v - c.first.toNat, by omega⟩
  have hkl : k < c.gates.length := by unfold Circ.vars at hv; omega
  have g := V.gs k hkl
  have h1 := litB_ok g.1
  have h2 := litB_ok g.2
  have := coneB_gate (leaves := leaves) (x := x) hkl (by omega) (by omega)
  rw [← hk] at this
  rw [this]; unfold leafB; rw [hi]
theorem coneB_zero {c : Circ} (V : c.Valid) {leaves : List Int} (hlo : ∀ z ∈ leaves, 0 < z) (x : Nat) : coneB c leaves x 0 = false := by
 have hf : 1 ≤ c.first := by have := V.i0; unfold Circ.first; omega
 rw [coneB_low (by omega)]
 unfold leafB
 rw [leafIdx_none (fun j hj e => by have := hlo _ (getN_mem (d := 0) hj); omega)]
end Go.Proofs.Ytgialedmbmfejaa

namespace Go.Proofs.Ytgialedmbmfejaa
open Go.RowKit Go.Sort
set_option maxRecDepth 100000
set_option linter.unusedVariables false
set_option linter.unusedSimpArgs false
def PLut : OwnP LutT := fun w cs l F => ∃ v, cs = [.int .i64 l.var, v, .int .i64 l.tb] ∧ OwnInts w 0 3 v l.lv ∧ F = fp v
theorem goodLut : GoodP PLut 3 where
 len := by rintro w cs x F ⟨v, rfl, _⟩; rfl
 lt := by rintro w cs x F ⟨v, rfl, h, rfl⟩ g hg; exact (fp_lt h g hg).2
 keep := by rintro w w' cs x F ⟨v, rfl, h, rfl⟩ hk; exact ⟨v, rfl, ownsRow_keep h (fun g hg => hk g (mem_fp.2 hg)), rfl⟩
 one := by
  rintro w cs x F ⟨v, rfl, h, rfl⟩ u hu
  obtain ⟨a, c, rfl, _⟩ := own_sl h
  simp at hu
  rcases hu with rfl | rfl | rfl <;> rfl
abbrev NstL (w : World) (v : Value) (xs : List LutT) (F : List Nat) : Prop := Nst PLut 139 3 w v xs F
theorem tyLuts : RowTy Try.prog 136 139 3 40 := RowTy.mk' (z := .agg #[.int .i64 0, .slice none 0 0, .int .i64 0]) Try.underlying136 (by kernel_rfl) rfl (by decide) (by decide)
/-- The cells of a table, as data. -/
abbrev LutC := Int × Option Addr × Nat × Nat × Int
instance : Inhabited LutC := ⟨(0, none, 0, 0, 0)⟩
def encL (d : LutC) : List Value := [.int .i64 d.1, .slice d.2.1 d.2.2.1 d.2.2.2.1, .int .i64 d.2.2.2.2]
theorem encL_len (d : LutC) : (encL d).length = 3 := rfl
theorem encL_one (d : LutC) : ∀ v ∈ encL d, v.oneCell' = true := by
 intro v hv
 simp [encL] at hv
 rcases hv with rfl | rfl | rfl <;> rfl
end Go.Proofs.Ytgialedmbmfejaa

namespace Go.Proofs.Ytgialedmbmfejaa
open Go.RowKit
set_option maxRecDepth 100000
set_option linter.unusedVariables false
set_option linter.unusedSimpArgs false
abbrev GiveLuts (w : World) (xs : List LutT) (e : Ending) (w' : World) : Prop := GiveN PLut 139 3 w xs e w'
theorem ndB_get (nd : List Bool) (i : Nat) (h : i < nd.length) : (nd.map Value.bool)[i]? = some (.bool (nd.getD i false)) := by
 rw [List.getElem?_map, List.getD_eq_getElem?_getD, List.getElem?_eq_getElem h]; rfl
theorem ndB_set {w : World} {B : Nat} {t : TypeId} {nd : List Bool} (h : Blk w B t (nd.map Value.bool)) (i : Nat) : Blk (w.setCell ⟨B, i, none⟩ (.bool true)) B t ((nd.set i true).map Value.bool) := by
 rw [List.map_set]; exact h.set i _
theorem rows_get {w : World} {b : Nat} {g : Nat} {cc : Nat} {vals : List Value} {bs : List (List Int)} (h : w.ownsRow b 23 1 (.slice (some ⟨g, 0, none⟩) bs.length cc) bs.length vals) (hR : ReadII w vals bs) : ∀ j, j < bs.length → ∃ a c, w.cell? ⟨g, j, none⟩ = some (.slice a (bs.getD j []).length c) ∧ IntsAt w a (bs.getD j []) := by
 intro j hj
 obtain ⟨a, c, h1, h2⟩ := hR.2 j hj
 have := ownsRow_cell h h1
 exact ⟨a, c, this, h2⟩
theorem nil_ints {w : World} {a : Option Addr} {xs : List Int} (h : IntsAt w a xs) : a = none → xs = [] := by
 intro e
 rcases h with h | ⟨b, o, h, _⟩
 ·exact h
 ·rw [e] at h; cases h
end Go.Proofs.Ytgialedmbmfejaa

namespace Go.Proofs.Ytgialedmbmfejaa
open Go.RowKit
set_option maxRecDepth 100000
set_option linter.unusedVariables false
set_option linter.unusedSimpArgs false
/-- A row's first element and the rest, in a new row. -/
theorem nst_cons {w w' : World} {v' : Value} {cells cs : List Value} {G Fx : List Nat} {x : LutT} {xs : List LutT} (h2 : ElsN PLut w cells xs G) (hx : PLut w cs x Fx) (hd : ∀ g ∈ Fx, g ∉ G) (e : Ext w w') (hn : ∀ g ∈ fp v', w.heap.size ≤ g)
  (o : w'.ownsRow 0 139 3 v' (1 + xs.length) (cs ++ cells)) : NstL w' v' (x :: xs) (fp v' ++ (Fx ++ G)) := by
 refine ⟨cs ++ cells, Fx ++ G, by rw [List.length_cons, Nat.add_comm]; exact o, .cons (goodLut.ext hx e) (h2.ext goodLut e) hd, rfl, fun g hg hg2 => ?_⟩
 have := hn g hg
 rcases List.mem_append.1 hg2 with h | h
 ·have := goodLut.lt hx g h; omega
 ·have := h2.lt goodLut g h; omega
theorem needL_comm' (nd : List Bool) (a b : List Int) : needL nd (halves (a ++ b)) = needL nd (halves (b ++ a)) := by
 unfold halves; rw [List.map_append, List.map_append]; exact needL_comm nd _ _
set_option maxHeartbeats 8000000 in
theorem l5Map_c (c : Circ) (p : Where3) (w : World) (hc : CircAt w c p) (V : c.Valid) :
  Calls Try.prog 110 #[.agg #[.int .i64 c.inputs, .slice p.an c.next.length p.cn, .slice p.ag c.gates.length p.cg, .slice p.ao c.outs.length p.co]] w (GiveLuts w (lutN c)) := by
 have E1 : Ext w (w.alloc (.cells #[.int .i64 c.inputs, .slice p.an c.next.length p.cn, .slice p.ag c.gates.length p.cg, .slice p.ao c.outs.length p.co] 26)) := (Ext.refl w).alloc _
 have y1 := CircBox.made w c p 26
 obtain ⟨D, hD⟩ : ∃ D, D = lutN c := ⟨_, rfl⟩
 rw [← hD]
 obtain ⟨hl1, hl2, _⟩ := bestN_len V
 have ln := V.ln
 have lg := V.lg
 have lo := V.lo
 have hi0 := V.i0
 have hi4 := V.i4
 have hvl : c.vars ≤ 100 := by unfold Circ.vars Circ.first; omega
 obtain ⟨n, hn⟩ : ∃ n : Nat, c.vars = (n : Int) := ⟨c.vars.toNat, by unfold Circ.vars Circ.first; omega⟩
 obtain ⟨f, hf⟩ : ∃ f : Nat, c.first = (f : Int) := ⟨c.first.toNat, by unfold Circ.first; omega⟩
 have hfn : n = f + c.gates.length := by unfold Circ.vars at hn; omega
 have hf1 : 1 ≤ f := by unfold Circ.first at hf; omega
 have hcut : ∀ k, k < c.gates.length → CutOk ((f + k : Nat) : Int) ((bestN c).1.getD (f + k) []) := by
  intro k hk
  have := bestN_cut V hk
  rw [hf] at this
  simpa using this
 obtain ⟨bs, hbs⟩ : ∃ bs, bs = (bestN c).1 := ⟨_, rfl⟩
 rw [← hbs] at hl2 hcut
 have HST := Lib.hid (show ∀ k, lutK c n (k + 1) = (if (lutK c n k).1.getD (n - 1 - k) false then (needL (lutK c n k).1 (bs.getD (n - 1 - k) []), ⟨(n - 1 - k : Nat), bs.getD (n - 1 - k) [], (tableV c (bs.getD (n - 1 - k) []) (n - 1 - k) : Nat)⟩ :: (lutK c n k).2) else lutK c n k) from fun k => by rw [hbs]; rfl)
 have HLEN := Lib.hid (fun k => And.intro (lutK_length c n k) (lutK_count c n k))
 have HLN : Hid (D = (lutK c n c.gates.length).2) := Lib.hid (by rw [hD]; unfold lutN; rw [hn]; rfl)
 have hbl : bs.length = n := by omega
 have HCUT := Lib.hid hcut
 have HV := Lib.hid V
 have HBL := Lib.hid hbl
 have HBS := Lib.hid hbs
 have hxi := root_ok V (xs := c.outs ++ c.next) (fun x hx => by simp only [List.mem_append] at hx ⊢; exact hx.symm)
 rw [hn] at hxi
 have HXI := Lib.hid hxi
 have HFN := Lib.hid hfn
 have hn1 : 1 ≤ n ∧ n ≤ 100 ∧ c.gates.length < n := ⟨by omega, by omega, by omega⟩
 obtain ⟨hn1, hn2, hn3⟩ := hn1
 have hfg : ((f : Int) + (c.gates.length : Int)) = (n : Int) := by omega
 clear hD hbs hcut V hl1 hl2 hfn hxi hbl
 (obtain ⟨lb, b0, b1, b2, b3⟩ := (id y1))
 go_enter Try.func110, Try.ntmps110
 go_upto_region 1 with fail
 obtain ⟨w1, hw1⟩ : ∃ x : World, x = w.alloc (.cells #[.int .i64 c.inputs, .slice p.an c.next.length p.cn, .slice p.ag c.gates.length p.cg, .slice p.ao c.outs.length p.co] 26) := ⟨_, rfl⟩
 rw [← hw1] at E1 y1 b0 b1 b2 b3 lb
 rw [← hw1]
 clear hw1
 go_region_held3 ((fun w' => (∀ b o, b < w1.heap.size → w'.cell? ⟨b, o, none⟩ = w1.cell? ⟨b, o, none⟩) ∧ Ext w1 w')) ((first | assumption | (with_reducible exact held_mk (Ext.drew w1)) | (with_reducible exact held_mk (((Ext.refl w1).alloc _).drew')) | (with_reducible exact held_mk ((Ext.drew w1).alloc _)))) (first
  | (go_simp; go_at_call 132; have hguard := hK1; obtain ⟨va, vc, rfl, _, _⟩ := hN2.sl; refine (l5Best_c c p _ _ (cutsN c) F2 _ (hc.ext (E1.trans (held_ext hK1))) HV.out hN2 rfl).mono ?_; rw [← HBS.out]; rintro e w3 ⟨bv, av, vals, rfl, hB, _, hR, hE3⟩; have hZ := (held_ext hK1).size; have hK2 := held_mk ((held_ext hK1).trans hE3))
  | (go_simp; go_at_call 133; refine (l5Cuts_c c p _ (hc.ext (E1.trans (Ext.drew _))) HV.out).mono ?_; rintro e w2 ⟨v2, F2, rfl, hN2, _, hE2⟩; have hK1 := held_mk ((Ext.drew w1).trans hE2)))
 have hE3 := held_ext hK2
 obtain ⟨ba, bc, rfl, _⟩ := ownsRow_row hB
 obtain ⟨gb, rfl, _, hgb⟩ := ownsRow_block hB (by have := HBL.out; omega)
 have HBG := Lib.hid (rows_get hB hR)
 have E3 := E1.trans hE3
 have y3 := y1.ext hE3
 have HC3 := Lib.hid (hc.ext E3)
 have Y3 := Lib.hid y3
 rw [HBL.out]
 clear hK1 hK2 hE2 hE3 b0 b1 b2 b3 lb y1 hB hR hN2 hZ hc
 (obtain ⟨lb, b0, b1, b2, b3⟩ := (id y3))
 go_wp2_with fail
 refine (l1First_c c p _ (by omega) (by omega) (by omega)).mono ?_
 rintro e w4 ⟨rfl, hE4⟩
 rw [hf]
 clear b0 b1 b2 b3 lb
 have y4 := y3.ext hE4
 (obtain ⟨lb, b0, b1, b2, b3⟩ := (id y4))
 have hm := run_zeros' (P := Try.prog) 65 4 (.bool false) [.bool false] 1 Try.underlying65 boolInfo' rfl (by decide) (by decide) n (by omega) w4
 have B1 := Blk.at w4 (zeros [Value.bool false] n) 4 (B := w4.heap.size) rfl
 have e5 : Ext w3 (w4.alloc (.cells (zeros [Value.bool false] n).toArray 4)) := hE4.alloc _
 have hsz5 : (w4.alloc (.cells (zeros [Value.bool false] n).toArray 4)).heap.size = w4.heap.size + 1 := by simp
 obtain ⟨w5, hw5⟩ : ∃ x : World, x = w4.alloc (.cells (zeros [Value.bool false] n).toArray 4) := ⟨_, rfl⟩
 rw [← hw5] at hm B1 e5 hsz5
 rw [zeros_one] at B1
 have HSZ5 := Lib.hid hsz5
 clear hsz5
 have y5 := Y3.out.ext e5
 go_upto_region 4 with fail
 try rw [← hw5]
 clear hm hw5 b0 b1 b2 b3 lb
 have Hc5 := HC3.out.ext e5
 obtain ⟨lz2, y0, y1', y2, y3'⟩ := (id y5)
 have hnx : RowAt w5 p.an (c.next.map (Value.int .i64)) := Hc5.nx.row
 have hou : RowAt w5 p.ao (c.outs.map (Value.int .i64)) := Hc5.ou.row
 have EA : Ext w5 ((w5.alloc (.cells #[] 3)).drew) := ((Ext.refl w5).alloc _).drew'
 have OA : World.ownsRow ((w5.alloc (.cells #[] 3)).drew) w5.heap.size 3 1 (.slice (some ⟨w5.heap.size, 0, none⟩) 0 0) 0 [] := ownsRow_ext (ownsRow_made w5 w5.heap.size 3 [] (Nat.le_refl _) (by decide)) (Ext.drew _)
 have YA := y5.ext EA
 have hnA := hnx.ext EA
 have hoA := hou.ext EA
 go_cut [7] (fun s7 wx => ∃ ra rc, s7 = .slice ra (c.outs ++ c.next).length rc ∧ Hid (Blk wx w4.heap.size 4 (List.replicate n (Value.bool false))) ∧ OwnInts wx (w4.heap.size + 1) 3 (.slice ra (c.outs ++ c.next).length rc) (c.outs ++ c.next) ∧ Ext w3 wx)
 case first =>
  go_region_law (first | (refine step_app tyInts OA hoA (by simp) (oneCell_ints _) (by omega) (by simp) rfl rfl rfl rfl ?_; intro v3 w6 o3 g3 m3; simp only [Nat.zero_add, List.nil_append] at o3; obtain ⟨a3, c3, rfl, _, _, _, ob3⟩ := ownsRow_row o3; have E6 := ext_grown EA g3 (by intro k hk; simp [Value.ownBlock] at hk; omega); obtain ⟨_, p0, p1, p2, p3⟩ := y5.ext E6; have hn6 := hnx.ext E6) | (refine step_app tyInts o3 hn6 (by simp) (oneCell_ints _) (by omega) (by have := E6.size; omega) rfl rfl rfl rfl ?_; intro v4 w7 o4 g4 m4))
  all_goals
   rw [← List.map_append] at o4
   have E7 : Ext w5 w7 := ext_grown E6 g4 (by intro k hk; have := (o3.lt _ hk).1; omega)
   have hO : OwnInts w7 (w4.heap.size + 1) 3 v4 (c.outs ++ c.next) := by
    unfold OwnInts
    rw [List.length_append]
    exact ownsRow_base o4 (by have := HSZ5.out; omega)
   have HB7 := Lib.hid (B1.ext E7)
   have E37 := e5.trans E7
   obtain ⟨ra, rc, rfl, _⟩ := own_sl hO
   clear o4 g4 m4 g3 m3 o3 p0 p1 p2 p3 y0 y1' y2 y3' OA YA hnA hoA EA hn6 hnx hou E6 E7 B1 ob3 lz2
   go_wp2_with fail
   go_meet
   exact ⟨ra, rc, rfl, HB7, hO, E37⟩
 obtain ⟨ra, rc, rfl, HB7, hO, e7⟩ := hcut
 obtain ⟨w7, rfl⟩ : ∃ z : World, z = wc := ⟨_, rfl⟩
 have hxl : (c.outs ++ c.next).length = c.outs.length + c.next.length := by simp
 obtain ⟨xs, hxs⟩ : ∃ xs, xs = c.outs ++ c.next := ⟨_, rfl⟩
 rw [← hxs] at hO hxl HXI
 rw [← hxs]
 have HXX := Lib.hid hxs
 have B7' : Hid (Blk w7 w4.heap.size 4 ((needL (List.replicate n false) (halves (xs.take 0))).map Value.bool)) := Lib.hid (by
  have : needL (List.replicate n false) (halves (xs.take 0)) = List.replicate n false := rfl
  rw [this, List.map_replicate]; exact HB7.out)
 have hNB := hE4.size
 have hxl6 : xs.length ≤ 6 := by omega
 clear hxl
 clear y0 y1' y2 y3' OA YA hnA hoA EA hnx hou B1 y3 y4 e5 HSZ5 y5 Hc5 lz2 hxs HB7
 go_wp2_with fail
 go_loopw [8] (fun u8 wr => ∃ (k : Nat) (nd : List Bool), k ≤ xs.length ∧ u8 = .int .i64 k ∧ Hid (nd = needL (List.replicate n false) (halves (xs.take k))) ∧ Hid (Blk wr w4.heap.size 4 (nd.map Value.bool)) ∧ OwnInts wr (w4.heap.size + 1) 3 (.slice ra xs.length rc) xs ∧ Ext w3 wr) (fun v _ => xs.length - (intOf v).toNat)
 case atStart => exact ⟨0, _, Nat.zero_le _, rfl, Lib.hid rfl, B7', hO, e7⟩
 case round =>
  clear B7' hO e7
  obtain ⟨k, nd, hk, rfl, HND, HB, hO, hE⟩ := hrel
  by_cases hlt : k < xs.length
  ·obtain ⟨b5, o5, rfl, hb5, hc5⟩ := (show IntsAt wr ra xs from by obtain ⟨a, cc, e, h, _⟩ := hO.opened; cases e; exact h).get (by omega)
   have q1 := hc5 k hlt
   have hxi := HXI.out k hlt
   obtain ⟨i1, i2⟩ := hxi
   have hs : needL (List.replicate n false) (halves (xs.take (k + 1))) = nd.set ((xs.getD k 0) / 2).toNat true := by
    rw [take_snocD xs k 0 hlt, halves, List.map_append, HND.out]
    exact needL_snoc _ _ _
   have hndl : nd.length = n := by rw [HND.out, needL_length, List.length_replicate]
   obtain ⟨x, hx⟩ : ∃ x, x = xs.getD k 0 := ⟨_, rfl⟩
   rw [← hx] at q1 i1 i2 hs
   have hta : IntKind.i64.wrap (x.tdiv 2) = x / 2 := by rw [Int.tdiv_eq_ediv_of_nonneg i1]; exact IntWalk.i64_in _ (by omega)
   have k1 : 0 ≤ x / 2 := by omega
   have k2 : x / 2 < (n : Int) := by omega
   have q2 := HB.out.cell (ndB_get nd (x / 2).toNat (by omega))
   have q2f := HB.out.frozen (x / 2).toNat
   have HS := Lib.hid hs
   have lNB := HB.out.lt
   clear hc5 hx hs
   go_wp2_with fail
   go_roundw
   case rel => exact ⟨k + 1, _, by omega, by go_num, Lib.hid (by rw [HS.out]), Lib.hid (ndB_set HB.out _), ownsRow_keep hO (fun g hg => heap_setCell_other _ _ g _ (by have := (own_lo hO g hg).1; simp; omega)), Ext.setNew hE hNB _⟩
   case measure => simp [intOf]; omega
  ·have hk2 : k = xs.length := by omega
   subst hk2
   have HND0 : Hid (nd = (lutK c n 0).1) := Lib.hid (by rw [HND.out, List.take_length, HXX.out]; exact needL_comm' _ _ _)
   have HB0 := HB.out.alloc (.cells #[] 139)
   have hE0 := hE.alloc (.cells #[] 139)
   have O0 : (wr.alloc (.cells #[] 139)).ownsRow 0 139 3 (.slice (some ⟨wr.heap.size, 0, none⟩) 0 0) 0 [] := (Blk.at wr [] 139 rfl).owns (n := 0) rfl (Nat.zero_le _) (by decide)
   have N0 : NstL (wr.alloc (.cells #[] 139)) (.slice (some ⟨wr.heap.size, 0, none⟩) 0 0) [] [wr.heap.size] := ⟨[], [], O0, .nil, rfl, fun g _ h => by simp at h⟩
   have hlw := HB.out.lt
   have HB0' := Lib.hid HB0
   clear HND HB hE hO HXI HB0 O0
   go_wp2_with fail
   go_loopw [9, 10] (fun u9 u10 wr => ∃ (k : Nat) (nd : List Bool) (L : List LutT) (F : List Nat), k ≤ c.gates.length ∧ u10 = .int .i64 ((n - 1 - k : Nat) : Int) ∧ Hid (nd = (lutK c n k).1) ∧ Hid (L = (lutK c n k).2) ∧ Hid (Blk wr w4.heap.size 4 (nd.map Value.bool)) ∧ NstL wr u9 L F ∧ (∀ g ∈ F, w4.heap.size + 1 ≤ g) ∧ Ext w3 wr) (fun _ v _ => (intOf v).toNat)
   case atStart => exact ⟨0, _, [], _, Nat.zero_le _, by first | rfl | (congr 1; omega), HND0, Lib.hid rfl, HB0', N0, (fun g hg => by simp at hg; omega), hE0⟩
   case round =>
    clear HND0 HB0' N0 hE0 hlw
    obtain ⟨k, nd, L, F, hk, rfl, HND, HL, HB, hN, hF, hE⟩ := hrel
    obtain ⟨w8, rfl⟩ : ∃ z : World, z = wr := ⟨_, rfl⟩
    have hndl : nd.length = n := by rw [HND.out]; exact (HLEN.out k).1
    have hLl : L.length ≤ k := by rw [HL.out]; exact (HLEN.out k).2
    obtain ⟨m, hm⟩ : ∃ m, m = n - 1 - k := ⟨_, rfl⟩
    have hst := HST.out k
    rw [← hm] at hst
    have hpr : lutK c n k = (nd, L) := by rw [HND.out, HL.out]
    rw [hpr] at hst
    dsimp only at hst
    rw [← hm]
    have hmn : m < n := by omega
    have HM := Lib.hid hm
    have HL0 := HL
    clear hm hpr HL HND
    by_cases hlt : k < c.gates.length
    ·have hfm : f ≤ m := by have := HM.out; have := HFN.out; omega
     have hge : decide ((f : Int) ≤ (m : Int)) = true := by simp; omega
     have b7 := HB.out.cell (ndB_get nd m (by omega))
     have lNB := HB.out.lt
     obtain ⟨q, hq⟩ : ∃ q, q = nd.getD m false := ⟨_, rfl⟩
     rw [← hq] at b7 hst
     clear hq
     have hsuc : ((m : Int) - 1) = ((n - 1 - (k + 1) : Nat) : Int) := by have := HM.out; omega
     have HSUC := Lib.hid hsuc
     cases q
     ·have hs2 : lutK c n (k + 1) = (nd, L) := hst
      have HS2 := Lib.hid hs2
      clear hst hs2 hsuc
      go_wp2_with fail
      go_roundw
      case rel => exact ⟨k + 1, nd, L, F, by omega, by first | (rw [HSUC.out]; done) | (congr 1; have := HSUC.out; omega), Lib.hid (by rw [HS2.out]), Lib.hid (by rw [HS2.out]), HB, hN, hF, hE⟩
      case measure => have := HSUC.out; simp [intOf]; omega
     ·have hs2 : lutK c n (k + 1) = (needL nd (bs.getD m []), ⟨(m : Nat), bs.getD m [], (tableV c (bs.getD m []) m : Nat)⟩ :: L) := hst
      obtain ⟨la, lc, hcell, hLI⟩ := HBG.out m (by have := HBL.out; omega)
      have hcut := HCUT.out (m - f) (by have := HM.out; have := HFN.out; omega)
      rw [show f + (m - f) = m by omega] at hcut
      obtain ⟨lv, hlv⟩ : ∃ lv, lv = bs.getD m [] := ⟨_, rfl⟩
      rw [← hlv] at hs2 hcell hLI hcut
      have HS2 := Lib.hid hs2
      have HCT := Lib.hid hcut
      have hl3 := hcut.len
      clear hst hs2 hsuc hlv hcut
      go_wp2_with fail
      go_loopw [11] (fun u11 wr => ∃ (j : Nat) (nd' : List Bool), j ≤ lv.length ∧ u11 = .int .i64 j ∧ Hid (nd' = needL nd (lv.take j)) ∧ Hid (Blk wr w4.heap.size 4 (nd'.map Value.bool)) ∧ NstL wr u9 L F ∧ Ext w3 wr) (fun v _ => lv.length - (intOf v).toNat)
      case atStart => exact ⟨0, nd, Nat.zero_le _, rfl, Lib.hid rfl, HB, hN, hE⟩
      case round =>
       clear HB hN hE b7
       obtain ⟨j, nd', hj, rfl, HN', HB', N8, E8⟩ := hrel
       have hcell8 := ((ecell E8).1 gb m hgb).trans hcell
       have lNB' := HB'.out.lt
       have lgb : gb < wr.heap.size := Nat.lt_of_lt_of_le hgb E8.size
       by_cases hlt2 : j < lv.length
       ·obtain ⟨b9, o9, rfl, hb9, hc9⟩ := (hLI.ext E8).get (by omega)
        have q9 := hc9 j hlt2
        have z0 := HCT.out.lo _ (getN_mem (d := 0) hlt2)
        have z1 := HCT.out.hi _ (getN_mem (d := 0) hlt2)
        have hs : needL nd (lv.take (j + 1)) = nd'.set (lv.getD j 0).toNat true := by
         rw [take_snocD lv j 0 hlt2, HN'.out]; exact needL_snoc _ _ _
        have hndl' : nd'.length = n := by rw [HN'.out, needL_length, hndl]
        obtain ⟨z, hz⟩ : ∃ z, z = lv.getD j 0 := ⟨_, rfl⟩
        rw [← hz] at q9 z0 z1 hs
        have z2 : 0 ≤ z := by omega
        have z3 : z < (n : Int) := by omega
        have q8 := HB'.out.cell (ndB_get nd' z.toNat (by omega))
        have q8f := HB'.out.frozen z.toNat
        have HS := Lib.hid hs
        clear hc9 hz hs
        go_wp2_with fail
        go_roundw
        case rel => exact ⟨j + 1, _, by omega, by go_num, Lib.hid (by rw [HS.out]), Lib.hid (ndB_set HB'.out _), N8.keep goodLut (fun g hg => heap_setCell_other _ _ g _ (by have := hF g hg; simp; omega)), Ext.setNew E8 hNB _⟩
        case measure => simp [intOf]; omega
       ·have hj2 : j = lv.length := by omega
        subst hj2
        rw [List.take_length] at HN'
        obtain ⟨w8', rfl⟩ : ∃ z : World, z = wr := ⟨_, rfl⟩
        have hLI8 := hLI.ext E8
        obtain ⟨cells, G, o8, els8, rfl, off8⟩ := N8
        obtain ⟨oa, oc, rfl, r8, _, _, _⟩ := ownsRow_row o8
        have lG8 := els8.lt goodLut
        clear hcell
        go_upto_region 18 with fail
        have Y8 := Y3.out.ext E8
        (obtain ⟨lb, b0, b1, b2, b3⟩ := (id Y8))
        have C8 := HC3.out.ext E8
        have OA := (Blk.at (World.drew w8') [] 3 rfl).owns (base := w8'.heap.size) (size := 1) (n := 0) rfl (Nat.le_refl _) (by decide)
        have A1 := (Ext.drew w8').alloc (.cells #[] 3)
        (refine wp_regionT ((fun w' => (∀ b o, b < w8'.heap.size → w'.cell? ⟨b, o, none⟩ = w8'.cell? ⟨b, o, none⟩) ∧ Ext w8' w')) 18 (by kernel_rfl) ?_; have hS0 := held_mk (Ext.drew w8'))
        ((refine tkT 0 (v := ?_) rfl (by kernel_rfl) (by kernel_rfl) ?_ (by assumption) ?_; rotate_left; (intro wS hSw; (try dsimp only at hSw); go_simp; (try with_reducible rfl)); (try simp only [Act.put, lA, lB, lC])); (refine tkT 2 (v := ?_) rfl (by kernel_rfl) (by kernel_rfl) ?_ (by assumption) ?_; rotate_left; (intro wS hSw; (try dsimp only at hSw); go_simp; (try with_reducible rfl)); (try simp only [Act.put, lA, lB, lC])); (refine tkT 3 (v := ?_) rfl (by kernel_rfl) (by kernel_rfl) ?_ (by assumption) ?_; rotate_left; (intro wS hSw; (try dsimp only at hSw); go_simp; (try with_reducible rfl)); (try simp only [Act.put, lA, lB, lC])); (refine tkT 4 (v := ?_) rfl (by kernel_rfl) (by kernel_rfl) ?_ (by assumption) ?_; rotate_left; (intro wS hSw; (try dsimp only at hSw); go_simp; (try with_reducible rfl)); (try simp only [Act.put, lA, lB, lC])); (refine tkT 5 (v := ?_) rfl (by kernel_rfl) (by kernel_rfl) ?_ (by assumption) ?_; rotate_left; (intro wS hSw; (try dsimp only at hSw); go_simp; (try with_reducible rfl)); (try simp only [Act.put, lA, lB, lC])); (refine tkT 7 (v := ?_) rfl (by kernel_rfl) (by kernel_rfl) ?_ (by assumption) ?_; rotate_left; (intro wS hSw; (try dsimp only at hSw); go_simp; (try with_reducible rfl)); (try simp only [Act.put, lA, lB, lC])); (refine tkT 8 (v := ?_) rfl (by kernel_rfl) (by kernel_rfl) ?_ (by assumption) ?_; rotate_left; (intro wS hSw; (try dsimp only at hSw); go_simp; (try with_reducible rfl)); (try simp only [Act.put, lA, lB, lC])); (refine tkT 9 (v := ?_) rfl (by kernel_rfl) (by kernel_rfl) ?_ (by assumption) ?_; rotate_left; (intro wS hSw; (try dsimp only at hSw); go_simp; (try with_reducible rfl)); (try simp only [Act.put, lA, lB, lC])); (refine tkT 10 (v := ?_) rfl (by kernel_rfl) (by kernel_rfl) ?_ (by assumption) ?_; rotate_left; (intro wS hSw; (try dsimp only at hSw); go_simp; (try with_reducible rfl)); (try simp only [Act.put, lA, lB, lC])); (refine tkT 11 (v := ?_) rfl (by kernel_rfl) (by kernel_rfl) ?_ (by assumption) ?_; rotate_left; (intro wS hSw; (try dsimp only at hSw); go_simp; (try with_reducible rfl)); (try simp only [Act.put, lA, lB, lC])); (refine tkT 12 (v := ?_) rfl (by kernel_rfl) (by kernel_rfl) ?_ (by assumption) ?_; rotate_left; (intro wS hSw; (try dsimp only at hSw); go_simp; (try with_reducible rfl)); (try simp only [Act.put, lA, lB, lC])); (refine tkT 16 (v := ?_) rfl (by kernel_rfl) (by kernel_rfl) ?_ (by assumption) ?_; rotate_left; (intro wS hSw; (try dsimp only at hSw); go_simp; (try with_reducible rfl)); (try simp only [Act.put, lA, lB, lC])))
        (refine wpAnyT_do 1 (by kernel_rfl) rfl (fun K hK => ?_))
        go_simp
        have hS1 := held_mk A1
        (refine hK _ _ hS1 ?_; clear hK K; (try simp only [Act.put, lA, lB, lC]))
        (refine wpAnyT_do 6 (by kernel_rfl) rfl (fun K hK => ?_))
        refine step_app tyInts OA (hLI8.row.ext A1) (by simp) (oneCell_ints lv) (by omega) (by simp) rfl rfl rfl rfl ?_
        intro cv w9 oC' g9 m9
        have E9 := ext_grown A1 g9 (by intro k hk; simp [Value.ownBlock] at hk; omega)
        have oC : OwnInts w9 w8'.heap.size 3 cv lv := by
         unfold OwnInts
         rw [Nat.zero_add, List.nil_append] at oC'
         exact oC'
        obtain ⟨ca, cc, rfl, _, _⟩ := own_sl oC
        have hS2 := held_mk E9
        (refine hK _ _ hS2 ?_; clear hK K; (try simp only [Act.put, lA, lB, lC]))
        (refine wpAnyT_do 13 (by kernel_rfl) rfl (fun K hK => ?_))
        go_simp
        have hT := l5Table_c c p la lc lv m w9 (C8.ext E9) HV.out (hLI8.ext E9) hl3 (by rw [hn]; omega)
        obtain ⟨tb, htb⟩ : ∃ tb : Int, tb = (tableV c lv m : Nat) := ⟨_, rfl⟩
        rw [← htb] at HS2 hT
        clear htb
        refine hT.mono ?_
        clear hT
        rintro e w10 ⟨rfl, e10⟩
        have E10 := E9.trans e10
        have hS3 := held_mk E10
        (refine hK _ _ hS3 ?_; clear hK K; (try simp only [Act.put, lA, lB, lC]))
        ((refine tkT 14 (v := ?_) rfl (by kernel_rfl) (by kernel_rfl) ?_ (by assumption) ?_; rotate_left; (intro wS hSw; (try dsimp only at hSw); go_simp; (try with_reducible rfl)); (try simp only [Act.put, lA, lB, lC])))
        (refine wpAnyT_do 15 (by kernel_rfl) rfl (fun K hK => ?_))
        go_simp
        have A := E10.alloc (.cells #[.int .i64 m, (.slice ca lv.length cc), .int .i64 tb] 139)
        have hS4 := held_mk A
        (refine hK _ _ hS4 ?_; clear hK K; (try simp only [Act.put, lA, lB, lC]))
        (refine wpAnyT_do 17 (by kernel_rfl) rfl (fun K hK => ?_))
        have hPL : PLut w10 [.int .i64 m, (.slice ca lv.length cc), .int .i64 tb] ⟨m, lv, tb⟩ (fp (.slice ca lv.length cc)) := ⟨_, rfl, ownsRow_zero (ownsRow_ext oC e10), rfl⟩
        have hoC := own_lo oC
        have OB := (Blk.at w10 [.int .i64 m, (.slice ca lv.length cc), .int .i64 tb] 139 rfl).owns (base := 0) (size := 3) (n := 1) rfl (Nat.zero_le _) (by decide)
        refine step_app tyLuts OB (r8.ext A) (els8.len goodLut) (els8.one goodLut) (by omega) (Nat.zero_le _) rfl rfl rfl rfl ?_
        intro v11 w11 o11 g11 m11
        have z10 := E10.size
        have E11' : Ext w10 w11 := ext_grown ((Ext.refl w10).alloc _) g11 (by intro k hk; simp [Value.ownBlock] at hk; omega)
        have hn11 : ∀ g ∈ fp v11, w10.heap.size ≤ g := by
         intro g hg
         have h5 := mem_fp.1 hg
         rcases m11 with e6 | ⟨q, e6, hq⟩
         ·rw [e6] at h5; simp [Value.ownBlock] at h5; omega
         ·rw [e6] at h5; cases h5; simp at hq; omega
        have N11 := nst_cons (els8.ext goodLut E10) hPL (fun g hg hg2 => by have := (hoC g (mem_fp.1 hg)).1; have := lG8 g hg2; omega) E11' hn11 o11
        have FF : ∀ g ∈ fp v11 ++ (fp (.slice ca lv.length cc) ++ G), w4.heap.size + 1 ≤ g := by
         intro g hg
         rcases List.mem_append.1 hg with h | h
         ·have := hn11 g h; omega
         ·rcases List.mem_append.1 h with h | h
          ·have := (hoC g (mem_fp.1 h)).1; omega
          ·exact hF g (List.mem_append_right _ h)
        have E11 := E8.trans (E10.trans E11')
        have HB11 := HB'.out.ext (E10.trans E11')
        have hS5 := held_mk (E10.trans E11')
        clear o11 g11 m11 hPL oC' oC hoC e10 A E9 hn11 OB OA A1 g9 m9 E11' E10 z10
        (refine hK _ _ hS5 ?_; clear hK K; (try simp only [Act.put, lA, lB, lC]))
        clear hS0 hS1 hS2 hS3 hS4 hS5 b0 b1 b2 b3 lb hcell8 hLI8 r8 els8 off8 lG8
        (refine wpAnyT_last 18 (by kernel_rfl) rfl (by decide) (by kernel_rfl) (fun K hK => ?_))
        go_simp
        (refine hK _ _ ?_; clear hK K; (try simp only [Act.put, lA, lB, lC]))
        go_wp2_with fail
        go_roundw
        case rel => exact ⟨k + 1, _, _, _, by omega, by first | (rw [HSUC.out]; done) | (congr 1; have := HSUC.out; omega), Lib.hid (by rw [HS2.out, ← HN'.out]), Lib.hid (by rw [HS2.out]), Lib.hid HB11, N11, FF, E11⟩
        case measure => have := HSUC.out; simp [intOf]; omega
    ·have hk2 : k = c.gates.length := by omega
     have hge : decide ((f : Int) ≤ (m : Int)) = false := by have := HM.out; have := HFN.out; simp; omega
     have hlow : m < f := by have := HM.out; have := HFN.out; omega
     have hLD : D = L := by rw [HLN.out, HL0.out, hk2]
     subst hLD
     clear hk2 HL0 HLN HM
     go_wp2_with fail
     go_ret
     exact ⟨_, F, rfl, hN, (fun g hg => by have := hF g hg; have := E3.size; omega), E3.trans hE⟩
end Go.Proofs.Ytgialedmbmfejaa

