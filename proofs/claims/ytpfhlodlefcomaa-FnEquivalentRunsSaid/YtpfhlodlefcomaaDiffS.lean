/- Contracts of FindDifference, the reference's, and of Equivalent. -/
import Derived.Test.YtpfhlodlefcomaaDiff
import Derived.Test.YtpfhlodlefcomaaDetS2
namespace Go.Proofs.Ytpfhlodlefcomaa
open Go.RowKit
set_option maxRecDepth 100000
set_option linter.unusedVariables false
set_option linter.unusedSimpArgs false
theorem app_beq {a b c d : List Bool} (hl : a.length = c.length) : (a ++ b != c ++ d) = (!(b == d) || !(a == c)) := by
  cases h1 : b == d <;> cases h2 : a == c
  · simp only [Bool.not_false, Bool.or_self, bne_iff_ne, ne_eq]
    rw [beq_eq_false_iff_ne] at h1 h2
    intro h
    exact h2 (List.append_inj_left h hl)
  · simp only [Bool.not_false, Bool.not_true, Bool.or_false, bne_iff_ne, ne_eq]
    rw [beq_eq_false_iff_ne] at h1
    intro h
    exact h1 (List.append_inj_right h hl)
  · simp only [Bool.not_false, Bool.not_true, Bool.or_true, bne_iff_ne, ne_eq]
    rw [beq_eq_false_iff_ne] at h2
    intro h
    exact h2 (List.append_inj_left h hl)
  · rw [beq_iff_eq] at h1 h2
    rw [h1, h2]; simp
theorem evOk_bits {a : Circ} (V : a.Valid) (x : Nat) : EvOk a (stB a x) (inB a x) := by
  have := V.i0
  exact ⟨V, by unfold stB; rw [bitsN_length], by unfold inB; rw [bitsN_length]; omega⟩
theorem diffV_split {a b : Circ} (h : sameI a b = true) (x : Nat) (S1 S2 : List Bool × List Bool) (h1 : S1 = stepV a (stB a x) (inB a x)) (h2 : S2 = stepV b (stB a x) (inB a x)) :
    diffV a b x = (!(S1.1 == S2.1) || !(S1.2 == S2.2)) := by
  obtain ⟨VA, VB, hin, hnx, hou⟩ := sameI_iff.1 h
  have es : stB a x = stB b x := by unfold stB; rw [hin, hnx]
  have ei : inB a x = inB b x := by unfold inB; rw [hin]
  rw [stepV_ok (evOk_bits VA x)] at h1
  rw [es, ei, stepV_ok (evOk_bits VB x)] at h2
  rw [h1, h2]
  unfold diffV resV
  rw [litsV_append, litsV_append]
  exact app_beq (by rw [litsV_length, litsV_length, hnx])
def DiffSRel (w : World) (a b : Circ) (p q : Where3) (u : Value) (wr : World) : Prop :=
  ∃ k : Nat, k ≤ assigns a ∧ u = .int .i64 k ∧ Hid (∀ y, y < k → diffV a b y = false) ∧ CircBox wr w.heap.size a p ∧ CircBox wr (w.heap.size + 1) b q ∧ Blk wr (w.heap.size + 2) 49 [.bool false, .slice none 0 0, .slice none 0 0] ∧ Ext w wr
set_option maxHeartbeats 4000000 in
theorem specFindDifference_c (a b : Circ) (p q : Where3) (w : World) (hc : CircAt w a p) (hd : CircAt w b q) :
    Calls Try.prog 30 #[.agg #[.int .i64 a.inputs, .slice p.an a.next.length p.cn, .slice p.ag a.gates.length p.cg, .slice p.ao a.outs.length p.co], .agg #[.int .i64 b.inputs, .slice q.an b.next.length q.cn, .slice q.ag b.gates.length q.cg, .slice q.ao b.outs.length q.co]] w (GiveCex w (cexV a b)) := by
  have hno := cexV_no (a := a) (b := b)
  have hhit := cexV_hit (a := a) (b := b)
  have hnone := cexV_none (a := a) (b := b)
  obtain ⟨X, hX⟩ : ∃ X, X = cexV a b := ⟨_, rfl⟩
  rw [← hX] at hno hhit hnone ⊢
  clear hX
  have HNO := Lib.hid hno
  have HHIT := Lib.hid hhit
  have HNONE := Lib.hid hnone
  clear hno hhit hnone
  have y := ((CircBox.made w a p 26).ext ((Ext.refl _).alloc (.cells #[.int .i64 b.inputs, .slice q.an b.next.length q.cn, .slice q.ag b.gates.length q.cg, .slice q.ao b.outs.length q.co] 26))).ext ((Ext.refl _).alloc (.cells #[.bool false, .slice none 0 0, .slice none 0 0] 49))
  have x := (CircBox.at (w.alloc (.cells #[.int .i64 a.inputs, .slice p.an a.next.length p.cn, .slice p.ag a.gates.length p.cg, .slice p.ao a.outs.length p.co] 26)) b q 26 (B := w.heap.size + 1) (by simp)).ext ((Ext.refl _).alloc (.cells #[.bool false, .slice none 0 0, .slice none 0 0] 49))
  have r := Blk.at ((w.alloc (.cells #[.int .i64 a.inputs, .slice p.an a.next.length p.cn, .slice p.ag a.gates.length p.cg, .slice p.ao a.outs.length p.co] 26)).alloc (.cells #[.int .i64 b.inputs, .slice q.an b.next.length q.cn, .slice q.ag b.gates.length q.cg, .slice q.ao b.outs.length q.co] 26)) [.bool false, .slice none 0 0, .slice none 0 0] 49 (B := w.heap.size + 2) (by simp)
  cases hS : sameI a b
  · have HS := Lib.hid hS
    clear hS
    go_enter Try.func30, Try.ntmps30
    go_wp2_with fail
    refine (specSame_c a b _ _ _ (hc.ext (by (repeat (first | with_reducible assumption | with_reducible exact Ext.refl _ | with_reducible refine Ext.drew' ?_ | with_reducible refine Ext.drewN' ?_ _ | with_reducible refine Ext.alloc ?_ _ | (with_reducible refine Ext.setNew ?_ (by first | exact Nat.le_refl _ | (simp; done) | (simp; omega) | omega) _))))) (hd.ext (by (repeat (first | with_reducible assumption | with_reducible exact Ext.refl _ | with_reducible refine Ext.drew' ?_ | with_reducible refine Ext.drewN' ?_ _ | with_reducible refine Ext.alloc ?_ _ | (with_reducible refine Ext.setNew ?_ (by first | exact Nat.le_refl _ | (simp; done) | (simp; omega) | omega) _)))))).mono ?_
    rw [HS.out]
    rintro e w1 ⟨rfl, hE1⟩
    have E1 := Ext.trans (a := w) (by (repeat (first | with_reducible assumption | with_reducible exact Ext.refl _ | with_reducible refine Ext.drew' ?_ | with_reducible refine Ext.drewN' ?_ _ | with_reducible refine Ext.alloc ?_ _ | (with_reducible refine Ext.setNew ?_ (by first | exact Nat.le_refl _ | (simp; done) | (simp; omega) | omega) _)))) hE1
    have r1 := r.ext hE1
    have rl := r1.lt
    have z0 := r1.cell (i := 0) rfl
    have z1 := r1.cell (i := 1) rfl
    have z2 := r1.cell (i := 2) rfl
    have zf := fun i => r1.frozen i
    have rF := ((r1.set 0 (.bool false)).set 1 (.slice none 0 0)).set 2 (.slice none 0 0)
    have rf0 := rF.cell (i := 0) rfl
    have rf1 := rF.cell (i := 1) rfl
    have rf2 := rF.cell (i := 2) rfl
    go_wp2
    refine bodyPost_ret (v := .agg #[.bool false, .slice none 0 0, .slice none 0 0]) (by simp [results, Try.results30, go_sem, rf0, rf1, rf2]) rfl ?_
    rw [HNO.out (by rw [HS.out]; simp)]
    exact ⟨_, _, _, _, _, _, rfl, RepTwo.nil, Ext.setNew (Ext.setNew (Ext.setNew E1 (by first | omega | (simp; done) | (simp; omega)) _) (by first | omega | (simp; done) | (simp; omega)) _) (by first | omega | (simp; done) | (simp; omega)) _⟩
  have HS := Lib.hid hS
  obtain ⟨VA, VB, hin, hnx, hou⟩ := sameI_iff.1 hS
  have hsplit := diffV_split hS
  have HSP := Lib.hid hsplit
  clear hS hsplit
  have al := assigns_le VA
  have hw := shl_wrap VA
  have i0 := VA.i0
  have i4 := VA.i4
  have la3 := VA.ln
  have lo3 := VA.lo
  have oka := fun k => evOk_bits VA k
  have okb : ∀ k, EvOk b (stB a k) (inB a k) := fun k => by
    have es : stB a k = stB b k := by unfold stB; rw [hin, hnx]
    have ei : inB a k = inB b k := by unfold inB; rw [hin]
    rw [es, ei]; exact evOk_bits VB k
  have OKA := Lib.hid oka
  have OKB := Lib.hid okb
  clear hin hnx hou oka okb
  go_enter Try.func30, Try.ntmps30
  go_wp2_with fail
  refine (specSame_c a b _ _ _ (hc.ext (by (repeat (first | with_reducible assumption | with_reducible exact Ext.refl _ | with_reducible refine Ext.drew' ?_ | with_reducible refine Ext.drewN' ?_ _ | with_reducible refine Ext.alloc ?_ _ | (with_reducible refine Ext.setNew ?_ (by first | exact Nat.le_refl _ | (simp; done) | (simp; omega) | omega) _))))) (hd.ext (by (repeat (first | with_reducible assumption | with_reducible exact Ext.refl _ | with_reducible refine Ext.drew' ?_ | with_reducible refine Ext.drewN' ?_ _ | with_reducible refine Ext.alloc ?_ _ | (with_reducible refine Ext.setNew ?_ (by first | exact Nat.le_refl _ | (simp; done) | (simp; omega) | omega) _)))))).mono ?_
  rw [HS.out]
  rintro e w1 ⟨rfl, hE1⟩
  have E1 := Ext.trans (a := w) (by (repeat (first | with_reducible assumption | with_reducible exact Ext.refl _ | with_reducible refine Ext.drew' ?_ | with_reducible refine Ext.drewN' ?_ _ | with_reducible refine Ext.alloc ?_ _ | (with_reducible refine Ext.setNew ?_ (by first | exact Nat.le_refl _ | (simp; done) | (simp; omega) | omega) _)))) hE1
  replace y := y.ext hE1
  replace x := x.ext hE1
  replace r := r.ext hE1
  clear hE1
  (obtain ⟨la, a0, a1, a2, a3⟩ := (id y))
  go_wp2_with fail
  go_loopw [6] (DiffSRel w a b p q) (fun i _ => assigns a - (intOf i).toNat)
  case atStart => exact ⟨0, Nat.zero_le _, rfl, Lib.hid (fun y hy => by omega), y, x, r, E1⟩
  case round =>
    obtain ⟨k, hk, rfl, hpre, hy, hx, hr, hE⟩ := hrel
    clear x y r E1 a0 a1 a2 a3 la
    (obtain ⟨la, a0, a1, a2, a3⟩ := (id hy))
    by_cases hlt : k < assigns a
    · have ET : Hid (stB a k = bitsN (k / 2 ^ a.inputs.toNat) a.next.length) := Lib.hid rfl
      have EI : Hid (inB a k = bitsN k a.inputs.toNat) := Lib.hid rfl
      have sm := sb_small a k VA
      have hd1 := bits_div k a.inputs.toNat
      have HD1 := Lib.hid hd1
      have hle : k / 2 ^ a.inputs.toNat ≤ 100000000 := Nat.le_trans (Nat.div_le_self _ _) (by omega)
      obtain ⟨S1, hS1⟩ : ∃ S, S = stepV a (stB a k) (inB a k) := ⟨_, rfl⟩
      obtain ⟨S2, hS2⟩ : ∃ S, S = stepV b (stB a k) (inB a k) := ⟨_, rfl⟩
      have hsp := HSP.out k S1 S2 hS1 hS2
      have okA := OKA.out k
      have okB := OKB.out k
      obtain ⟨I, hI⟩ : ∃ I, I = inB a k := ⟨_, rfl⟩
      obtain ⟨T, hT⟩ : ∃ T, T = stB a k := ⟨_, rfl⟩
      rw [← hI] at EI sm hS1 hS2 okA okB
      rw [← hT] at ET sm hS1 hS2 okA okB
      have HI := Lib.hid hI
      have HT := Lib.hid hT
      have H1 := Lib.hid hS1
      have H2 := Lib.hid hS2
      have OA := Lib.hid okA
      have OB := Lib.hid okB
      obtain ⟨sm1, sm2⟩ := sm
      have SPL := Lib.hid hsp
      clear hd1 hS1 hS2 hsp okA okB hI hT
      have hcase : ∃ d1 d2 : Bool, Hid ((S1.1 == S2.1) = d1) ∧ Hid ((S1.2 == S2.2) = d2) := ⟨_, _, Lib.hid rfl, Lib.hid rfl⟩
      obtain ⟨d1, d2, D1, D2⟩ := hcase
      have hfin : Hid (diffV a b k = (!d1 || !d2)) := Lib.hid (by rw [SPL.out, D1.out, D2.out])
      cases d1 <;> cases d2
      all_goals
        go_wp2_with fail
        refine (l4Bits_i _ _ k a.inputs.toNat rfl (by omega) (by omega) (by omega) _).mono ?_
        rw [← EI.out]
        rintro e w2 ⟨v2, rfl, hO2, hE2⟩
        have y2 := hy.ext hE2
        clear a0 a1 a2 a3 la
        (obtain ⟨la, a0, a1, a2, a3⟩ := (id y2))
        go_wp2_with fail
        go_region_held3 ((fun w' => (∀ b o, b < w2.heap.size → w'.cell? ⟨b, o, none⟩ = w2.cell? ⟨b, o, none⟩) ∧ Ext w2 w')) ((first | assumption | (with_reducible exact held_mk (Ext.drew w2)) | (with_reducible exact held_mk (((Ext.refl w2).alloc _).drew')) | (with_reducible exact held_mk ((Ext.drew w2).alloc _)))) (first | (go_simp; go_at_call 62; refine (l4Bits_i _ _ (k / 2 ^ a.inputs.toNat) a.next.length HD1.out rfl hle (by omega) _).mono ?_; rw [← ET.out]; rintro e w3 ⟨v3, rfl, hO3, hE3⟩; have hK3 := held_mk ((Ext.drew w2).trans hE3)))
        have F3 := held_ext hK3
        have G3 := hE2.trans F3
        obtain ⟨ra2, c2, rfl, hB2⟩ := hO2.opened
        obtain ⟨ra3, c3, rfl, hB3⟩ := hO3.opened
        have hB2 := hB2.ext F3
        have y3 := y2.ext F3
        have x3 := hx.ext G3
        clear a0 a1 a2 a3 la
        (obtain ⟨la, a0, a1, a2, a3⟩ := (id y3))
        go_wp2_with fail
        refine (l2Step_c a p _ _ _ _ T I _ ((hc.ext hE).ext G3) hB3 hB2 OA.out).mono ?_
        rw [← H1.out]
        rintro e w4 ⟨v4, u4, rfl, hP4, hE4⟩
        obtain ⟨pa, pc, pd, pe, rfl, hPA, rfl, hPB⟩ := hP4.opened
        have G4 := G3.trans hE4
        have z4 := Blk.at w4 [.slice pa S1.1.length pc, .slice pd S1.2.length pe] 40 rfl
        have x4 := x3.ext hE4
        clear a0 a1 a2 a3 la
        (obtain ⟨la, a0, a1, a2, a3⟩ := (id x4))
        go_wp2_with fail
        refine (l2Step_c b q _ _ _ _ T I _ (((hd.ext hE).ext G4).ext (by (repeat (first | with_reducible assumption | with_reducible exact Ext.refl _ | with_reducible refine Ext.drew' ?_ | with_reducible refine Ext.drewN' ?_ _ | with_reducible refine Ext.alloc ?_ _ | (with_reducible refine Ext.setNew ?_ (by first | exact Nat.le_refl _ | (simp; done) | (simp; omega) | omega) _))))) ((hB3.ext hE4).ext (by (repeat (first | with_reducible assumption | with_reducible exact Ext.refl _ | with_reducible refine Ext.drew' ?_ | with_reducible refine Ext.drewN' ?_ _ | with_reducible refine Ext.alloc ?_ _ | (with_reducible refine Ext.setNew ?_ (by first | exact Nat.le_refl _ | (simp; done) | (simp; omega) | omega) _))))) ((hB2.ext hE4).ext (by (repeat (first | with_reducible assumption | with_reducible exact Ext.refl _ | with_reducible refine Ext.drew' ?_ | with_reducible refine Ext.drewN' ?_ _ | with_reducible refine Ext.alloc ?_ _ | (with_reducible refine Ext.setNew ?_ (by first | exact Nat.le_refl _ | (simp; done) | (simp; omega) | omega) _))))) OB.out).mono ?_
        rw [← H2.out]
        rintro e w5 ⟨v5, u5, rfl, hP5, hE5⟩
        obtain ⟨qa, qc, qd, qe, rfl, hQA, rfl, hQB⟩ := hP5.opened
        have F5 := Ext.trans (a := w4) (by (repeat (first | with_reducible assumption | with_reducible exact Ext.refl _ | with_reducible refine Ext.drew' ?_ | with_reducible refine Ext.drewN' ?_ _ | with_reducible refine Ext.alloc ?_ _ | (with_reducible refine Ext.setNew ?_ (by first | exact Nat.le_refl _ | (simp; done) | (simp; omega) | omega) _)))) hE5
        have G5 := G4.trans F5
        have y5 := z4.ext hE5
        have y50 := y5.cell (i := 0) rfl
        have y51 := y5.cell (i := 1) rfl
        have y5l := y5.lt
        have z5 := Blk.at w5 [.slice qa S2.1.length qc, .slice qd S2.2.length qe] 40 rfl
        have t1 := hP4.small1
        have t2 := hP4.small2
        have t3 := hP5.small1
        have t4 := hP5.small2
        go_wp2_with fail
        refine (l4Same_c _ _ _ _ _ _ S1.1 S2.1 rfl rfl _ ((hPA.ext F5).ext (by (repeat (first | with_reducible assumption | with_reducible exact Ext.refl _ | with_reducible refine Ext.drew' ?_ | with_reducible refine Ext.drewN' ?_ _ | with_reducible refine Ext.alloc ?_ _ | (with_reducible refine Ext.setNew ?_ (by first | exact Nat.le_refl _ | (simp; done) | (simp; omega) | omega) _))))) (hQA.ext (by (repeat (first | with_reducible assumption | with_reducible exact Ext.refl _ | with_reducible refine Ext.drew' ?_ | with_reducible refine Ext.drewN' ?_ _ | with_reducible refine Ext.alloc ?_ _ | (with_reducible refine Ext.setNew ?_ (by first | exact Nat.le_refl _ | (simp; done) | (simp; omega) | omega) _))))) t1 t3).mono ?_
        rw [D1.out]
        rintro e w6 ⟨rfl, hE6⟩
        have F6 := Ext.trans (a := w5) (by (repeat (first | with_reducible assumption | with_reducible exact Ext.refl _ | with_reducible refine Ext.drew' ?_ | with_reducible refine Ext.drewN' ?_ _ | with_reducible refine Ext.alloc ?_ _ | (with_reducible refine Ext.setNew ?_ (by first | exact Nat.le_refl _ | (simp; done) | (simp; omega) | omega) _)))) hE6
        have G6 := G5.trans F6
        have y6 := y5.ext F6
        have z6 := z5.ext hE6
        have y60 := y6.cell (i := 0) rfl
        have y61 := y6.cell (i := 1) rfl
        have z60 := z6.cell (i := 0) rfl
        have z61 := z6.cell (i := 1) rfl
        clear y50 y51
        first
        | (go_wp2_with fail
           refine (l4Same_c _ _ _ _ _ _ S1.2 S2.2 rfl rfl _ ((hPB.ext F5).ext F6) (hQB.ext F6) t2 t4).mono ?_
           rw [D2.out]
           rintro e w7 ⟨rfl, hE7⟩)
        | (have hE7 := Ext.refl w6)
        have G7 := G6.trans hE7
        have r7 := hr.ext G7
        have z0 := r7.cell (i := 0) rfl
        have z1 := r7.cell (i := 1) rfl
        have z2 := r7.cell (i := 2) rfl
        have zf := fun i => r7.frozen i
        have rl := hr.lt
        have rF := ((r7.set 0 (.bool true)).set 1 (.slice ra3 T.length c3)).set 2 (.slice ra2 I.length c2)
        have rf0 := rF.cell (i := 0) rfl
        have rf1 := rF.cell (i := 1) rfl
        have rf2 := rF.cell (i := 2) rfl
        go_wp2
        first
        | (go_roundw
           case rel =>
             refine ⟨k + 1, by omega, by go_num, Lib.hid (fun y hy => ?_), hy.ext G7, hx.ext G7, hr.ext G7, hE.trans G7⟩
             rcases Nat.lt_or_ge y k with h | h
             · exact hpre.out y h
             · have : y = k := by omega
               subst this; exact hfin.out
           case measure => simp [intOf]; omega)
        | (refine bodyPost_ret (v := .agg #[.bool true, .slice ra3 T.length c3, .slice ra2 I.length c2]) (by simp [results, Try.results30, go_sem, rf0, rf1, rf2]) rfl ?_
           have hX := HHIT.out HS.out k hlt hpre.out hfin.out
           rw [← HI.out, ← HT.out] at hX
           rw [hX]
           have H37 := ((hE4.trans F5).trans F6).trans hE7
           have s2 := hE2.size
           have sE := hE.size
           have hw3 := hE3.size
           simp at hw3
           have RT : RepTwo _ wr.heap.size _ (.slice ra3 T.length c3) (.slice ra2 I.length c2) (T, I) :=
             ⟨(hO3.ext H37).le (by simp; omega), (hO2.ext (F3.trans H37)), fun k hk => Nat.lt_of_lt_of_le (hO3.lt' k hk).2 H37.size, fun k hk => by have := (hO2.lt' k hk).2; have := H37.size; omega, fun k h1 h2 => by have q1 := (hO3.lt' k h1).1; have q2 := (hO2.lt' k h2).2; simp at q1; omega, by show T.length ≤ _; omega, by show I.length ≤ _; omega⟩
           exact ⟨_, _, _, _, _, _, rfl, ((((RT.set (by first | omega | (simp; done) | (simp; omega)) _).set (by first | omega | (simp; done) | (simp; omega)) _).set (by first | omega | (simp; done) | (simp; omega)) _).le sE).up (by first | omega | (simp; done) | (simp; omega)), Ext.setNew (Ext.setNew (Ext.setNew (hE.trans G7) (by first | omega | (simp; done) | (simp; omega)) _) (by first | omega | (simp; done) | (simp; omega)) _) (by first | omega | (simp; done) | (simp; omega)) _⟩)
    · have hX := HNONE.out (fun y hy => hpre.out y (by omega))
      have HXX := Lib.hid hX
      clear hX
      have rl := hr.lt
      have z0 := hr.cell (i := 0) rfl
      have z1 := hr.cell (i := 1) rfl
      have z2 := hr.cell (i := 2) rfl
      have zf := fun i => hr.frozen i
      have rF := ((hr.set 0 (.bool false)).set 1 (.slice none 0 0)).set 2 (.slice none 0 0)
      have rf0 := rF.cell (i := 0) rfl
      have rf1 := rF.cell (i := 1) rfl
      have rf2 := rF.cell (i := 2) rfl
      go_wp2
      refine bodyPost_ret (v := .agg #[.bool false, .slice none 0 0, .slice none 0 0]) (by simp [results, Try.results30, go_sem, rf0, rf1, rf2]) rfl ?_
      rw [HXX.out]
      exact ⟨_, _, _, _, _, _, rfl, RepTwo.nil, Ext.setNew (Ext.setNew (Ext.setNew hE (by first | omega | (simp; done) | (simp; omega)) _) (by first | omega | (simp; done) | (simp; omega)) _) (by first | omega | (simp; done) | (simp; omega)) _⟩
theorem implEquivalent_c (a b : Circ) (p q : Where3) (w : World) (hc : CircAt w a p) (hd : CircAt w b q) :
    Calls Try.prog 33 #[.agg #[.int .i64 a.inputs, .slice p.an a.next.length p.cn, .slice p.ag a.gates.length p.cg, .slice p.ao a.outs.length p.co], .agg #[.int .i64 b.inputs, .slice q.an b.next.length q.cn, .slice q.ag b.gates.length q.cg, .slice q.ao b.outs.length q.co]] w fun e w' => e = .returned (.bool (sameI a b && !(cexV a b).1)) ∧ Ext w w' := by
  have EF : Hid ((sameI a b && !(cexV a b).1) = (sameI a b && !(cexV a b).1)) := Lib.hid rfl
  obtain ⟨D, hD⟩ : ∃ D, D = (sameI a b && !(cexV a b).1) := ⟨_, rfl⟩
  have HD := Lib.hid hD
  rw [← hD]
  clear hD EF
  have hfd : ∀ (w : World) (f : Bool) (a1 a2 : Option Addr) (n1 c1 n2 c2 : Nat), (Instr.field 49 (.agg #[.bool f, .slice a1 n1 c1, .slice a2 n2 c2]) 0).run Try.prog w = .ok (.bool f) w := fun _ _ _ _ _ _ _ _ => by kernel_rfl
  have y := (CircBox.made w a p 26).ext ((Ext.refl _).alloc (.cells #[.int .i64 b.inputs, .slice q.an b.next.length q.cn, .slice q.ag b.gates.length q.cg, .slice q.ao b.outs.length q.co] 26))
  have x := CircBox.at (w.alloc (.cells #[.int .i64 a.inputs, .slice p.an a.next.length p.cn, .slice p.ag a.gates.length p.cg, .slice p.ao a.outs.length p.co] 26)) b q 26 (B := w.heap.size + 1) (by simp)
  cases hS : sameI a b
  · have HS := Lib.hid hS
    clear hS
    go_enter Try.func33, Try.ntmps33
    go_wp2_with fail
    refine (implSame_c a b _ _ _ (hc.ext (by (repeat (first | with_reducible assumption | with_reducible exact Ext.refl _ | with_reducible refine Ext.drew' ?_ | with_reducible refine Ext.drewN' ?_ _ | with_reducible refine Ext.alloc ?_ _ | (with_reducible refine Ext.setNew ?_ (by first | exact Nat.le_refl _ | (simp; done) | (simp; omega) | omega) _))))) (hd.ext (by (repeat (first | with_reducible assumption | with_reducible exact Ext.refl _ | with_reducible refine Ext.drew' ?_ | with_reducible refine Ext.drewN' ?_ _ | with_reducible refine Ext.alloc ?_ _ | (with_reducible refine Ext.setNew ?_ (by first | exact Nat.le_refl _ | (simp; done) | (simp; omega) | omega) _)))))).mono ?_
    rw [HS.out]
    rintro e w1 ⟨rfl, hE1⟩
    have E1 := Ext.trans (a := w) (by (repeat (first | with_reducible assumption | with_reducible exact Ext.refl _ | with_reducible refine Ext.drew' ?_ | with_reducible refine Ext.drewN' ?_ _ | with_reducible refine Ext.alloc ?_ _ | (with_reducible refine Ext.setNew ?_ (by first | exact Nat.le_refl _ | (simp; done) | (simp; omega) | omega) _)))) hE1
    go_wp2
    go_ret
    exact ⟨by rw [HD.out, HS.out]; rfl, E1⟩
  · have HS := Lib.hid hS
    clear hS
    go_enter Try.func33, Try.ntmps33
    go_wp2_with fail
    refine (implSame_c a b _ _ _ (hc.ext (by (repeat (first | with_reducible assumption | with_reducible exact Ext.refl _ | with_reducible refine Ext.drew' ?_ | with_reducible refine Ext.drewN' ?_ _ | with_reducible refine Ext.alloc ?_ _ | (with_reducible refine Ext.setNew ?_ (by first | exact Nat.le_refl _ | (simp; done) | (simp; omega) | omega) _))))) (hd.ext (by (repeat (first | with_reducible assumption | with_reducible exact Ext.refl _ | with_reducible refine Ext.drew' ?_ | with_reducible refine Ext.drewN' ?_ _ | with_reducible refine Ext.alloc ?_ _ | (with_reducible refine Ext.setNew ?_ (by first | exact Nat.le_refl _ | (simp; done) | (simp; omega) | omega) _)))))).mono ?_
    rw [HS.out]
    rintro e w1 ⟨rfl, hE1⟩
    have E1 := Ext.trans (a := w) (by (repeat (first | with_reducible assumption | with_reducible exact Ext.refl _ | with_reducible refine Ext.drew' ?_ | with_reducible refine Ext.drewN' ?_ _ | with_reducible refine Ext.alloc ?_ _ | (with_reducible refine Ext.setNew ?_ (by first | exact Nat.le_refl _ | (simp; done) | (simp; omega) | omega) _)))) hE1
    have y1 := y.ext hE1
    have x1 := x.ext hE1
    (obtain ⟨la, a0, a1, a2, a3⟩ := (id y1))
    (obtain ⟨lb, b0, b1, b2, b3⟩ := (id x1))
    go_wp2_with fail
    refine (implFindDifference_c a b _ _ _ (hc.ext E1) (hd.ext E1)).mono ?_
    rintro e w2 ⟨ra1, n1, c1, ra2, n2, c2, rfl, _, hE2⟩
    go_wp2
    go_ret
    exact ⟨by rw [HD.out, HS.out]; rfl, E1.trans hE2⟩
theorem specEquivalent_c (a b : Circ) (p q : Where3) (w : World) (hc : CircAt w a p) (hd : CircAt w b q) :
    Calls Try.prog 34 #[.agg #[.int .i64 a.inputs, .slice p.an a.next.length p.cn, .slice p.ag a.gates.length p.cg, .slice p.ao a.outs.length p.co], .agg #[.int .i64 b.inputs, .slice q.an b.next.length q.cn, .slice q.ag b.gates.length q.cg, .slice q.ao b.outs.length q.co]] w fun e w' => e = .returned (.bool (sameI a b && !(cexV a b).1)) ∧ Ext w w' := by
  have EF : Hid ((sameI a b && !(cexV a b).1) = (sameI a b && !(cexV a b).1)) := Lib.hid rfl
  obtain ⟨D, hD⟩ : ∃ D, D = (sameI a b && !(cexV a b).1) := ⟨_, rfl⟩
  have HD := Lib.hid hD
  rw [← hD]
  clear hD EF
  have hfd : ∀ (w : World) (f : Bool) (a1 a2 : Option Addr) (n1 c1 n2 c2 : Nat), (Instr.field 49 (.agg #[.bool f, .slice a1 n1 c1, .slice a2 n2 c2]) 0).run Try.prog w = .ok (.bool f) w := fun _ _ _ _ _ _ _ _ => by kernel_rfl
  have y := (CircBox.made w a p 26).ext ((Ext.refl _).alloc (.cells #[.int .i64 b.inputs, .slice q.an b.next.length q.cn, .slice q.ag b.gates.length q.cg, .slice q.ao b.outs.length q.co] 26))
  have x := CircBox.at (w.alloc (.cells #[.int .i64 a.inputs, .slice p.an a.next.length p.cn, .slice p.ag a.gates.length p.cg, .slice p.ao a.outs.length p.co] 26)) b q 26 (B := w.heap.size + 1) (by simp)
  cases hS : sameI a b
  · have HS := Lib.hid hS
    clear hS
    go_enter Try.func34, Try.ntmps34
    go_wp2_with fail
    refine (specSame_c a b _ _ _ (hc.ext (by (repeat (first | with_reducible assumption | with_reducible exact Ext.refl _ | with_reducible refine Ext.drew' ?_ | with_reducible refine Ext.drewN' ?_ _ | with_reducible refine Ext.alloc ?_ _ | (with_reducible refine Ext.setNew ?_ (by first | exact Nat.le_refl _ | (simp; done) | (simp; omega) | omega) _))))) (hd.ext (by (repeat (first | with_reducible assumption | with_reducible exact Ext.refl _ | with_reducible refine Ext.drew' ?_ | with_reducible refine Ext.drewN' ?_ _ | with_reducible refine Ext.alloc ?_ _ | (with_reducible refine Ext.setNew ?_ (by first | exact Nat.le_refl _ | (simp; done) | (simp; omega) | omega) _)))))).mono ?_
    rw [HS.out]
    rintro e w1 ⟨rfl, hE1⟩
    have E1 := Ext.trans (a := w) (by (repeat (first | with_reducible assumption | with_reducible exact Ext.refl _ | with_reducible refine Ext.drew' ?_ | with_reducible refine Ext.drewN' ?_ _ | with_reducible refine Ext.alloc ?_ _ | (with_reducible refine Ext.setNew ?_ (by first | exact Nat.le_refl _ | (simp; done) | (simp; omega) | omega) _)))) hE1
    go_wp2
    go_ret
    exact ⟨by rw [HD.out, HS.out]; rfl, E1⟩
  · have HS := Lib.hid hS
    clear hS
    go_enter Try.func34, Try.ntmps34
    go_wp2_with fail
    refine (specSame_c a b _ _ _ (hc.ext (by (repeat (first | with_reducible assumption | with_reducible exact Ext.refl _ | with_reducible refine Ext.drew' ?_ | with_reducible refine Ext.drewN' ?_ _ | with_reducible refine Ext.alloc ?_ _ | (with_reducible refine Ext.setNew ?_ (by first | exact Nat.le_refl _ | (simp; done) | (simp; omega) | omega) _))))) (hd.ext (by (repeat (first | with_reducible assumption | with_reducible exact Ext.refl _ | with_reducible refine Ext.drew' ?_ | with_reducible refine Ext.drewN' ?_ _ | with_reducible refine Ext.alloc ?_ _ | (with_reducible refine Ext.setNew ?_ (by first | exact Nat.le_refl _ | (simp; done) | (simp; omega) | omega) _)))))).mono ?_
    rw [HS.out]
    rintro e w1 ⟨rfl, hE1⟩
    have E1 := Ext.trans (a := w) (by (repeat (first | with_reducible assumption | with_reducible exact Ext.refl _ | with_reducible refine Ext.drew' ?_ | with_reducible refine Ext.drewN' ?_ _ | with_reducible refine Ext.alloc ?_ _ | (with_reducible refine Ext.setNew ?_ (by first | exact Nat.le_refl _ | (simp; done) | (simp; omega) | omega) _)))) hE1
    have y1 := y.ext hE1
    have x1 := x.ext hE1
    (obtain ⟨la, a0, a1, a2, a3⟩ := (id y1))
    (obtain ⟨lb, b0, b1, b2, b3⟩ := (id x1))
    go_wp2_with fail
    refine (specFindDifference_c a b _ _ _ (hc.ext E1) (hd.ext E1)).mono ?_
    rintro e w2 ⟨ra1, n1, c1, ra2, n2, c2, rfl, _, hE2⟩
    go_wp2
    go_ret
    exact ⟨by rw [HD.out, HS.out]; rfl, E1.trans hE2⟩
end Go.Proofs.Ytpfhlodlefcomaa
