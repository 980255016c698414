/- The law FnFindDifference: a difference is a witness, and the first one. -/
import Derived.Test.YtpfhlodlefcomaaBytes
import Derived.Test.YtpfhlodlefcomaaDrawP
import Derived.Test.YtpfhlodlefcomaaDiffS
import Derived.Test.YtpfhlodlefcomaaStep
import Derived.Test.YtpfhlodlefcomaaEqB
namespace Go.Proofs.Ytpfhlodlefcomaa
open Go.ChangeShapes Go.WideShapes Go.ChangeAt Go.RowKit
set_option maxRecDepth 100000
set_option linter.unusedVariables false
set_option linter.unusedSimpArgs false
theorem lawBits_j (xi ni : Int) (x n : Nat) (h1 : xi = x) (h2 : ni = n) (hx : x ≤ 100000000) (hn : n ≤ 30) (w : World) :
    Calls Try.prog 31 #[.int .i64 xi, .int .i64 ni] w (GiveB w (bitsN x n)) := by
  subst h1 h2; exact lawBits_c x n hx hn w
theorem cexV_small (a b : Circ) : (cexV a b).2.1.length ≤ 3 ∧ (cexV a b).2.2.length ≤ 4 := by
  unfold cexV
  by_cases h : sameI a b = true ∧ 0 ≤ firstD (diffV a b) (assigns a)
  · rw [if_pos h]
    exact sb_small _ _ (sameI_iff.1 h.1).1
  · rw [if_neg h]; exact ⟨by simp, by simp⟩
set_option maxHeartbeats 4000000 in
theorem fnFindDifference_walk (a0 : Option Addr) (len0 cap0 : Nat) (z0 : List Int) (w : World) (w0 : IsRow .u8 w a0 len0 cap0 z0) :
    Calls Try.prog 7 #[.slice a0 len0 cap0] w fun e w' => e = .returned (.bool true) ∧ Below w.heap.size w w' := by
  obtain ⟨bs, rfl, hB, hlc, hcm⟩ := bytes_of_row w0
  by_cases hl : bs.length ≤ 1048576
  · go_enter Try.func7, Try.ntmps7
    go_wp2_with fail
    refine (DrawFindDifference_c a0 cap0 bs _ hB hl hlc hcm).mono ?_
    rintro e w1 ⟨c, d, p, q, rfl, hC, hD, E1, _, _⟩
    go_wp2_with fail
    have Ex : Ext w1 ((w1.alloc (.cells #[.int .i64 c.inputs, .slice p.an c.next.length p.cn, .slice p.ag c.gates.length p.cg, .slice p.ao c.outs.length p.co] 26)).alloc (.cells #[.int .i64 d.inputs, .slice q.an d.next.length q.cn, .slice q.ag d.gates.length q.cg, .slice q.ao d.outs.length q.co] 26)) := ((Ext.refl w1).alloc _).alloc _
    have y := (CircBox.made w1 c p 26).ext ((Ext.refl _).alloc (.cells #[.int .i64 d.inputs, .slice q.an d.next.length q.cn, .slice q.ag d.gates.length q.cg, .slice q.ao d.outs.length q.co] 26))
    have z := CircBox.at (w1.alloc (.cells #[.int .i64 c.inputs, .slice p.an c.next.length p.cn, .slice p.ag c.gates.length p.cg, .slice p.ao c.outs.length p.co] 26)) d q 26 (B := w1.heap.size + 1) (by simp)
    have hC := hC.ext Ex
    have hD := hD.ext Ex
    have E2 := E1.trans Ex
    generalize (w1.alloc (.cells #[.int .i64 c.inputs, .slice p.an c.next.length p.cn, .slice p.ag c.gates.length p.cg, .slice p.ao c.outs.length p.co] 26)).alloc (.cells #[.int .i64 d.inputs, .slice q.an d.next.length q.cn, .slice q.ag d.gates.length q.cg, .slice q.ao d.outs.length q.co] 26) = W2 at *
    clear Ex E1
    have HX0 : Hid (¬ sameI c d = true → cexV c d = (false, [], [])) := Lib.hid cexV_no
    have HX1 : Hid (sameI c d = true → ∀ k, k < assigns c → (∀ y, y < k → diffV c d y = false) → diffV c d k = true → cexV c d = (true, stB c k, inB c k)) := Lib.hid (fun h k hk h1 h2 => cexV_hit h k hk h1 h2)
    have HX2 : Hid ((∀ y, y < assigns c → diffV c d y = false) → cexV c d = (false, [], [])) := Lib.hid (fun h => cexV_none h)
    have F1 := Lib.hid (implFindDifference_c c d p q)
    have F2 := Lib.hid (specFindDifference_c c d p q)
    obtain ⟨xl1, xl2⟩ := cexV_small c d
    generalize cexV c d = X at *
    obtain ⟨xf, xs, xi⟩ := X
    dsimp only at xl1 xl2
    refine (F1.out _ hC hD).mono ?_
    rintro e w3 ⟨a1, n1, c1, a2, n2, c2, rfl, hR3, hE3⟩
    obtain ⟨_, _, e1, r1⟩ := hR3.own1.opened
    obtain ⟨_, _, e2, r2⟩ := hR3.own2.opened
    cases e1
    cases e2
    dsimp only at r1 r2
    clear hR3
    have hC := hC.ext hE3
    have hD := hD.ext hE3
    have y := y.ext hE3
    have z := z.ext hE3
    have E3 := E2.trans hE3
    clear E2 hE3
    obtain ⟨ly, y0, y1, y2, y3⟩ := (id y)
    obtain ⟨lz, z0, z1, z2, z3⟩ := (id z)
    go_wp2_with fail
    have u4 := Blk.at w3 [.bool xf, .slice a1 xs.length c1, .slice a2 xi.length c2] 49 rfl
    have Eu : Ext w3 (w3.alloc (.cells #[.bool xf, .slice a1 xs.length c1, .slice a2 xi.length c2] 49)) := (Ext.refl w3).alloc _
    refine (F2.out _ (hC.ext Eu) (hD.ext Eu)).mono ?_
    rintro e w4 ⟨b1, m1, d1, b2, m2, d2, rfl, hR4, hE4⟩
    obtain ⟨_, _, e1, t1⟩ := hR4.own1.opened
    obtain ⟨_, _, e2, t2⟩ := hR4.own2.opened
    cases e1
    cases e2
    dsimp only at t1 t2
    clear hR4
    have hE5 := Eu.trans hE4
    have u5 := u4.ext hE4
    have r1 := r1.ext hE5
    have r2 := r2.ext hE5
    have hC := hC.ext hE5
    have hD := hD.ext hE5
    have y := y.ext hE5
    have z := z.ext hE5
    have E5 := E3.trans hE5
    clear E3 hE4 Eu u4 y0 y1 y2 y3 ly z0 z1 z2 z3 lz
    have v6 := Blk.at w4 [.bool xf, .slice b1 xs.length d1, .slice b2 xi.length d2] 49 rfl
    have Ev : Ext w4 (w4.alloc (.cells #[.bool xf, .slice b1 xs.length d1, .slice b2 xi.length d2] 49)) := (Ext.refl w4).alloc _
    have u6 := u5.ext Ev
    have u0 := u6.cell (i := 0) rfl
    have u1 := u6.cell (i := 1) rfl
    have u2 := u6.cell (i := 2) rfl
    have v0 := v6.cell (i := 0) rfl
    have v1 := v6.cell (i := 1) rfl
    have v2 := v6.cell (i := 2) rfl
    go_wp2_with fail
    refine (sameBools_c _ _ _ _ _ _ xs xs rfl rfl _ (r1.ext Ev) (t1.ext Ev) (by omega) (by omega)).mono ?_
    rintro e w7 ⟨rfl, hE7⟩
    have E47 := Ev.trans hE7
    rw [beq_self_eq_true]
    have u7 := u6.ext hE7
    have v7 := v6.ext hE7
    clear u0 u1 u2 v0 v1 v2
    have u0 := u7.cell (i := 0) rfl
    have u1 := u7.cell (i := 1) rfl
    have u2 := u7.cell (i := 2) rfl
    have v0 := v7.cell (i := 0) rfl
    have v1 := v7.cell (i := 1) rfl
    have v2 := v7.cell (i := 2) rfl
    go_wp2_with fail
    refine (sameBools_c _ _ _ _ _ _ xi xi rfl rfl _ (r2.ext E47) (t2.ext E47) (by omega) (by omega)).mono ?_
    rintro e w8 ⟨rfl, hE8⟩
    rw [beq_self_eq_true]
    have E48 := E47.trans hE8
    have r1 := r1.ext E48
    have r2 := r2.ext E48
    have hC := hC.ext E48
    have hD := hD.ext E48
    have y := y.ext E48
    have z := z.ext E48
    have u8 := u7.ext hE8
    have E8 := E5.trans E48
    clear u0 u1 u2 v0 v1 v2 u6 u7 v6 v7 t1 t2 u5 hE5 E5 E48 E47 hE7 hE8 Ev F1 F2
    obtain ⟨ly, y0, y1, y2, y3⟩ := (id y)
    obtain ⟨lz, z0, z1, z2, z3⟩ := (id z)
    go_wp2_with fail
    refine (specSame_c c d p q _ hC hD).mono ?_
    rintro e w9 ⟨rfl, hE9⟩
    have r1 := r1.ext hE9
    have r2 := r2.ext hE9
    have hC := hC.ext hE9
    have hD := hD.ext hE9
    have y := y.ext hE9
    have z := z.ext hE9
    have u9 := u8.ext hE9
    have E9 := E8.trans hE9
    clear y0 y1 y2 y3 ly z0 z1 z2 z3 lz u8 E8 hE9
    have u0 := u9.cell (i := 0) rfl
    cases hs : sameI c d
    · have hx := HX0.out (by rw [hs]; simp)
      simp only [Prod.mk.injEq] at hx
      obtain ⟨rfl, hx1, hx2⟩ := hx
      clear hx1 hx2 hs
      go_wp2_with fail
      refine (alive_c _).mono ?_
      rintro e w10 ⟨rfl, hE10⟩
      go_wp2
      go_ret
      exact ⟨rfl, E9.trans hE10⟩
    · obtain ⟨V, W, f1, f2, f3⟩ := sameI_iff.1 hs
      obtain ⟨ly, y0, y1, y2, y3⟩ := (id y)
      obtain ⟨lz, z0, z1, z2, z3⟩ := (id z)
      have H1 := Lib.hid (HX1.out hs)
      have HD := Lib.hid (fun k => diffV_step hs k)
      have HF := Lib.hid (And.intro f1 (And.intro f2 f3))
      have HVW := Lib.hid (And.intro V W)
      have i0 := V.i0
      have i4 := V.i4
      have ln := V.ln
      have al := assigns_le V
      have hw := shl_wrap V
      have hw6 : IntKind.i64.wrap (c.inputs + (c.next.length : Int)) = c.inputs + (c.next.length : Int) := IntWalk.i64_in _ (by omega)
      have hw7 : 0 ≤ c.inputs + (c.next.length : Int) ∧ c.inputs + (c.next.length : Int) ≤ 64 := by omega
      obtain ⟨hw70, hw71⟩ := hw7
      clear HX0 HX1 hs f1 f2 f3 V W
      obtain ⟨T, hT⟩ : ∃ T, T = assigns c := ⟨_, rfl⟩
      rw [← hT] at H1 HX2 al hw
      have HT := Lib.hid hT
      clear hT
      go_wp2_with fail
      go_loopw [7] (fun u wr => ∃ k : Nat, k ≤ T ∧ u = .int .i64 k ∧ Hid (∀ y, y < k → diffV c d y = false) ∧ CircBox wr w1.heap.size c p ∧ CircBox wr (w1.heap.size + 1) d q ∧ Blk wr w3.heap.size 49 [.bool xf, .slice a1 xs.length c1, .slice a2 xi.length c2] ∧ Ext w9 wr) (fun i _ => T - (intOf i).toNat)
      case atStart => exact ⟨0, Nat.zero_le _, rfl, Lib.hid (fun y hy => by omega), y, z, u9, Ext.refl _⟩
      case round =>
        obtain ⟨k, hk, rfl, hB, hy, hz, hu, hE⟩ := hrel
        clear y0 y1 y2 y3 ly z0 z1 z2 z3 lz
        obtain ⟨ly, y0, y1, y2, y3⟩ := (id hy)
        obtain ⟨lz, z0, z1, z2, z3⟩ := (id hz)
        have u0 := hu.cell (i := 0) rfl
        by_cases hlt : k < T
        · have hd1 := bits_div k c.inputs.toNat
          have HD1 := Lib.hid hd1
          have hle : k / 2 ^ c.inputs.toNat ≤ 100000000 := Nat.le_trans (Nat.div_le_self _ _) (by omega)
          have EI : Hid (inB c k = bitsN k c.inputs.toNat) := Lib.hid rfl
          have ET : Hid (stB c k = bitsN (k / 2 ^ c.inputs.toNat) c.next.length) := Lib.hid rfl
          have HDk := Lib.hid (HD.out k)
          have H1k := Lib.hid (H1.out k hlt hB.out)
          have li1 : (inB c k).length ≤ 4 := (sb_small c k HVW.out.1).2
          have ls1 : (stB c k).length ≤ 3 := (sb_small c k HVW.out.1).1
          generalize inB c k = I at *
          generalize stB c k = S at *
          clear hd1
          go_wp2_with fail
          refine (lawBits_j _ _ k c.inputs.toNat rfl (by omega) (by omega) (by omega) _).mono ?_
          rw [← EI.out]
          rintro e w10 ⟨v10, rfl, hO10, hE10⟩
          obtain ⟨r10, c10, rfl, hBI⟩ := hO10.opened
          have hy := hy.ext hE10
          have hz := hz.ext hE10
          have hu := hu.ext hE10
          have hE := hE.trans hE10
          clear y0 y1 y2 y3 ly z0 z1 z2 z3 lz u0 hO10 hE10
          obtain ⟨ly, y0, y1, y2, y3⟩ := (id hy)
          go_wp2_with fail
          go_region_held3 ((fun w' => (∀ b o, b < w10.heap.size → w'.cell? ⟨b, o, none⟩ = w10.cell? ⟨b, o, none⟩) ∧ Ext w10 w')) ((first | assumption | (with_reducible exact held_mk (Ext.drew w10)) | (with_reducible exact held_mk (((Ext.refl w10).alloc _).drew')) | (with_reducible exact held_mk ((Ext.drew w10).alloc _)))) (first | (go_simp; go_at_call 31; refine (lawBits_j _ _ (k / 2 ^ c.inputs.toNat) c.next.length HD1.out rfl hle (by omega) _).mono ?_; rw [← ET.out]; rintro e w11 ⟨v11, rfl, hO11, hE11⟩; obtain ⟨r11, c11, rfl, hBT⟩ := hO11.opened; have hK11 := held_mk ((Ext.drew w10).trans hE11)))
          have F11 := held_ext hK11
          have hy := hy.ext F11
          have hz := hz.ext F11
          have hu := hu.ext F11
          have hBI := hBI.ext F11
          have hE := hE.trans F11
          clear y0 y1 y2 y3 ly hK11
          obtain ⟨ly, y0, y1, y2, y3⟩ := (id hy)
          go_wp2_with fail
          obtain ⟨X1, hX1⟩ : ∃ X, X = stepV c S I := ⟨_, rfl⟩
          obtain ⟨X2, hX2⟩ : ∃ X, X = stepV d S I := ⟨_, rfl⟩
          rw [← hX1, ← hX2] at HDk
          refine (implStep_c c p _ _ _ _ S I _ (hC.ext hE) hBT hBI (by omega) (by omega)).mono ?_
          rw [← hX1]
          rintro e w12 ⟨v1, v2, rfl, hR, hE12⟩
          obtain ⟨ra, rc, rb, rd, rfl, hRA, rfl, hRB⟩ := hR.opened
          have s1 := hR.small1
          have s2 := hR.small2
          have hy := hy.ext hE12
          have hz := hz.ext hE12
          have hu := hu.ext hE12
          have hBI := hBI.ext hE12
          have hBT := hBT.ext hE12
          have hE := hE.trans hE12
          have HX2' := Lib.hid hX2
          clear y0 y1 y2 y3 ly hR hE12 hX1 hX2
          obtain ⟨lz, z0, z1, z2, z3⟩ := (id hz)
          have Ep : Ext w12 (w12.alloc (.cells #[.slice ra X1.1.length rc, .slice rb X1.2.length rd] 40)) := (Ext.refl w12).alloc _
          have p12 := Blk.at w12 [.slice ra X1.1.length rc, .slice rb X1.2.length rd] 40 rfl
          go_wp2_with fail
          refine (implStep_c d q _ _ _ _ S I _ ((hD.ext hE).ext Ep) (hBT.ext Ep) (hBI.ext Ep) (by omega) (by omega)).mono ?_
          rw [← HX2'.out]
          rintro e w13 ⟨v3, v4, rfl, hT, hE13⟩
          obtain ⟨ta, tc, tb, td, rfl, hTA, rfl, hTB⟩ := hT.opened
          have t1 := hT.small1
          have t2 := hT.small2
          have F13 := Ep.trans hE13
          have p13 := p12.ext hE13
          have hRA := hRA.ext F13
          have hRB := hRB.ext F13
          have hy := hy.ext F13
          have hz := hz.ext F13
          have hu := hu.ext F13
          have hBI := hBI.ext F13
          have hBT := hBT.ext F13
          have hE := hE.trans F13
          clear z0 z1 z2 z3 lz hT F13 hE13 p12 Ep HX2'
          have Eq : Ext w13 (w13.alloc (.cells #[.slice ta X2.1.length tc, .slice tb X2.2.length td] 40)) := (Ext.refl w13).alloc _
          have q13 := Blk.at w13 [.slice ta X2.1.length tc, .slice tb X2.2.length td] 40 rfl
          have p14 := p13.ext Eq
          have p0 := p14.cell (i := 0) rfl
          have p1 := p14.cell (i := 1) rfl
          have q0 := q13.cell (i := 0) rfl
          have q1 := q13.cell (i := 1) rfl
          have hy := hy.ext Eq
          have hz := hz.ext Eq
          have hu := hu.ext Eq
          have hBI := hBI.ext Eq
          have hBT := hBT.ext Eq
          have hE := hE.trans Eq
          generalize hb1 : (X1.1 == X2.1) = b1 at HDk
          generalize hb2 : (X1.2 == X2.2) = b2 at HDk
          have HB1 := Lib.hid hb1
          have HB2 := Lib.hid hb2
          clear hb1 hb2
          go_wp2_with fail
          refine (sameBools_c _ _ _ _ _ _ X1.1 X2.1 rfl rfl _ (hRA.ext Eq) (hTA.ext Eq) s1 t1).mono ?_
          rw [HB1.out]
          rintro e w15 ⟨rfl, hE15⟩
          have E15 := Eq.trans hE15
          have p15 := p14.ext hE15
          have q15 := q13.ext hE15
          have hy := hy.ext hE15
          have hz := hz.ext hE15
          have hu := hu.ext hE15
          have hBI := hBI.ext hE15
          have hBT := hBT.ext hE15
          have hE := hE.trans hE15
          have hRB := hRB.ext E15
          have hTB := hTB.ext E15
          clear p0 p1 q0 q1 p14 q13 p13 hE15 E15 Eq hRA hTA
          have p0 := p15.cell (i := 0) rfl
          have p1 := p15.cell (i := 1) rfl
          have q0 := q15.cell (i := 0) rfl
          have q1 := q15.cell (i := 1) rfl
          clear HD HF HVW HD1 EI ET HB1
          cases b1
          · clear p0 p1 q0 q1 HB2
            have hx := H1k.out (by rw [HDk.out]; rfl)
            simp only [Prod.mk.injEq] at hx
            obtain ⟨hx1, hx2, hx3⟩ := hx
            subst hx1 hx2 hx3
            have u0 := hu.cell (i := 0) rfl
            have u1 := hu.cell (i := 1) rfl
            have u2 := hu.cell (i := 2) rfl
            clear H1k HX2 H1 hy hz
            go_wp2_with fail
            refine (sameBools_c _ _ _ _ _ _ xi xi rfl rfl _ (r2.ext hE) hBI (by omega) (by omega)).mono ?_
            rw [beq_self_eq_true]
            rintro e w20 ⟨rfl, hE20⟩
            have hu20 := hu.ext hE20
            clear u0 u1 u2
            have u0 := hu20.cell (i := 0) rfl
            have u1 := hu20.cell (i := 1) rfl
            have u2 := hu20.cell (i := 2) rfl
            go_wp2_with fail
            refine (sameBools_c _ _ _ _ _ _ xs xs rfl rfl _ ((r1.ext hE).ext hE20) (hBT.ext hE20) (by omega) (by omega)).mono ?_
            rw [beq_self_eq_true]
            rintro e w21 ⟨rfl, hE21⟩
            go_wp2
            go_ret
            exact ⟨rfl, ((E9.trans hE).trans hE20).trans hE21⟩
          · go_wp2_with fail
            refine (sameBools_c _ _ _ _ _ _ X1.2 X2.2 rfl rfl _ hRB hTB s2 t2).mono ?_
            rw [HB2.out]
            rintro e w16 ⟨rfl, hE16⟩
            have hy := hy.ext hE16
            have hz := hz.ext hE16
            have hu := hu.ext hE16
            have hBI := hBI.ext hE16
            have hBT := hBT.ext hE16
            have hE := hE.trans hE16
            clear p0 p1 q0 q1 HB2
            cases b2
            · skip
              have hx := H1k.out (by rw [HDk.out]; rfl)
              simp only [Prod.mk.injEq] at hx
              obtain ⟨hx1, hx2, hx3⟩ := hx
              subst hx1 hx2 hx3
              have u0 := hu.cell (i := 0) rfl
              have u1 := hu.cell (i := 1) rfl
              have u2 := hu.cell (i := 2) rfl
              clear H1k HX2 H1 hy hz
              go_wp2_with fail
              refine (sameBools_c _ _ _ _ _ _ xi xi rfl rfl _ (r2.ext hE) hBI (by omega) (by omega)).mono ?_
              rw [beq_self_eq_true]
              rintro e w20 ⟨rfl, hE20⟩
              have hu20 := hu.ext hE20
              clear u0 u1 u2
              have u0 := hu20.cell (i := 0) rfl
              have u1 := hu20.cell (i := 1) rfl
              have u2 := hu20.cell (i := 2) rfl
              go_wp2_with fail
              refine (sameBools_c _ _ _ _ _ _ xs xs rfl rfl _ ((r1.ext hE).ext hE20) (hBT.ext hE20) (by omega) (by omega)).mono ?_
              rw [beq_self_eq_true]
              rintro e w21 ⟨rfl, hE21⟩
              go_wp2
              go_ret
              exact ⟨rfl, ((E9.trans hE).trans hE20).trans hE21⟩
            · have hBn : Hid (∀ y, y < k + 1 → diffV c d y = false) := Lib.hid (fun y hy => by
                rcases Nat.lt_or_ge y k with h | h
                · exact hB.out y h
                · have : y = k := by omega
                  subst this
                  rw [HDk.out]; rfl)
              clear H1k HX2 H1 r1 r2 hBI hBT
              go_wp2_with fail
              go_roundw
              case rel => exact ⟨k + 1, by omega, by go_num, hBn, hy, hz, hu, hE⟩
              case measure => simp [intOf]; omega
        · obtain rfl : k = T := by omega
          have hx := HX2.out hB.out
          simp only [Prod.mk.injEq] at hx
          obtain ⟨rfl, hx1, hx2⟩ := hx
          clear hx1 hx2
          go_wp2
          go_ret
          exact ⟨rfl, E9.trans hE⟩
  · go_enter Try.func7, Try.ntmps7
    go_wp2
    go_ret
    exact ⟨rfl, Below.refl _ _⟩
theorem fnFindDifference_lifted (os : Os) (started : os.Started) (H : Type) (enc : TypeId × Value → H) :
    ReturnsInHanded {} Try.checked os 7 .any (Rows.fnFindDifferenceSpec.pre6 enc Try.prog Try.f7 Rows.fnFindDifferenceRow.domain false) (Rows.fnFindDifferenceSpec.post enc Try.prog Try.f7 false true false false) := by
  refine returnsInHanded_of_change (C := Try.checked) own started (by kernel_rfl) Try.func7
    (ChangeSpec.witness6 (enc := enc) (C := Try.checked) false ⟨#[], #[.slice none 0 0], []⟩ 8 (by kernel_rfl) (by kernel_rfl) (by kernel_rfl) (by kernel_rfl)) ?_
  intro W base args ds gs before hval0 hW hcnd _
  have hval : ∀ (j : Nat) t v, Try.f7.params[j]? = some t → args[j]? = some v → Value.okWide Try.prog W .any base t v := hval0
  have hW' := hW
  obtain ⟨p, q, hA0, hV, rfl, hfz, hnd⟩ := hW
  have hA : DataW.TrodAll enc Try.prog W 0 (fun _ => true) true Try.f7.params.toList args.toList ds p := hA0
  rw [Try.params7] at hA hval
  obtain ⟨v0, vs0, d0, ds0, p0, q0, hargs, rfl, rfl, h0, r0⟩ := trodAll_cons hA
  obtain ⟨rfl, rfl, rfl⟩ := trodAll_nil r0
  obtain rfl : args = #[v0] := by cases args; simp_all
  obtain ⟨rfl, rfl⟩ := trodVars_none hV
  obtain ⟨a0, len0, cap0, rfl⟩ := okWide_slice Try.underlying22 (hval 0 22 v0 rfl rfl)
  have k0 := h0
  have lt0 : ∀ x ∈ p0, x.block < W.heap.size := by obtain ⟨m, hm⟩ := k0; exact DataW.trod_lt m _ _ _ hm
  obtain ⟨z0, w0⟩ : ∃ zs, IsRow .u8 W a0 len0 cap0 zs := by
    obtain ⟨fuel, hf⟩ := h0
    rcases open_ints Try.underlying22 Try.underlying5 (by kernel_rfl) hf with ⟨hcs, _⟩ | ⟨x, l, c, zs, hcs, _, hl, hm, hz, _, hcell, hwz⟩
    · simp [Value.cells] at hcs
      obtain ⟨rfl, rfl, rfl⟩ := hcs
      exact ⟨[], .inl ⟨rfl, rfl, rfl, rfl⟩⟩
    · simp [Value.cells] at hcs
      obtain ⟨rfl, rfl, rfl⟩ := hcs
      exact ⟨zs, .inr ⟨_, rfl, hl, hm, by simpa using hz, hcell, hwz⟩⟩
  clear hA0 hval0
  refine (fnFindDifference_walk a0 len0 cap0 z0 W w0).mono fun e W' ⟨he, bel⟩ => ?_
  subst he
  exact ⟨_, rfl, _, _, _, [], _, [], hW', trodAll_mk1 (shut_bool Try.underlying4 _), (trodAll_cons_mk (Below.trod laidOut (by kernel_rfl) (of_decide_eq_true (by kernel_rfl)) k0 bel lt0) trodAll_mk0), rfl, bel.frame _, fun h => by cases h⟩
theorem fnFindDifference_over : Rows.fnFindDifferenceRow.holds Try.pinned (OpenSpec.ofChange Rows.fnFindDifferenceSpec) :=
  OpenClaim.holds_of_wide 7 Try.f7 rfl rfl rfl rfl rfl rfl rfl ⟨rfl, rfl, rfl, rfl, rfl⟩ rfl rfl rfl rfl rfl (by kernel_rfl) Try.func7 (by kernel_rfl)
    (of_decide_eq_true (by kernel_rfl)) (by unfold Func.isWrapper; first | (rw [if_pos (by decide +kernel)]; kernel_rfl) | (rw [if_neg (by decide +kernel)]; exact ⟨rfl, rfl⟩))
    (fun os started H enc _ => fnFindDifference_lifted os started H enc)
theorem fnFindDifference_holds : Rows.FnFindDifferenceSaid := fnFindDifference_over
end Go.Proofs.Ytpfhlodlefcomaa
