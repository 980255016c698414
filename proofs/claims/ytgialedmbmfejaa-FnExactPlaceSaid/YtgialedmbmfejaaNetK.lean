/- Contract: the program's nets. -/
import Derived.Test.YtgialedmbmfejaaNetL
namespace Go.Proofs.Ytgialedmbmfejaa
open Go.RowKit
set_option maxRecDepth 100000
set_option linter.unusedVariables false
set_option linter.unusedSimpArgs false
abbrev GiveNets (w : World) (xs : List NetT) (e : Ending) (w' : World) : Prop := GiveN PNet 91 5 w xs e w'
theorem netsK_le (c : Circ) (cs : List CellT) (k : Nat) : (netsK c cs k).length ≤ k := by
  induction k with
  | zero => simp [netsK]
  | succ k ih => rw [netsK, List.length_append]; split <;> simp <;> omega
set_option maxHeartbeats 16000000 in
theorem netsOf_c (b : Nat) (c : Circ) (p : Where3) (w : World) (hb : CircBox w b c p) (hc : CircAt w c p) (V : c.Valid) :
    Calls Try.prog 61 #[.pointer (some ⟨b, 0, none⟩)] w (GiveNets w (netsK c (cellsN c) (c.vars - 1).toNat)) := by
  have hcv : cellsV c = cellsN c := by unfold cellsV; rw [validB_iff.2 V]; rfl
  have hsm := cells_sm c
  rw [hcv] at hsm
  obtain ⟨hl17, hs3⟩ := hsm
  have hcC := implCells_c c p
  rw [hcv] at hcC
  have hsK : ∀ net W, CircAt W c p → Calls Try.prog 105 #[.agg #[.int .i64 c.inputs, .slice p.an c.next.length p.cn, .slice p.ag c.gates.length p.cg, .slice p.ao c.outs.length p.co], .int .i64 net] W (GiveNL W (sinkL (cellsN c) net (cellsN c).length)) := fun net W h => by
    have := implNetSinks_c c p net W h
    unfold sinksV at this
    rw [hcv] at this
    exact this
  have i0 := V.i0
  have i4 := V.i4
  have ln := V.ln
  have lg := V.lg
  have lo := V.lo
  have hv1 : c.vars = c.first + c.gates.length := rfl
  have hf1 : c.first = 1 + c.inputs + c.next.length := rfl
  obtain ⟨n, hn⟩ : ∃ n : Nat, n = (c.vars - 1).toNat := ⟨_, rfl⟩
  have hvn : c.vars = (n : Int) + 1 := by omega
  have hn30 : n ≤ 30 := by omega
  have HVN := Lib.hid hvn
  have HXO := Lib.hid (root_ok V (xs := c.outs) (fun x hx => List.mem_append_right _ hx))
  rw [← hn]
  obtain ⟨cs, hcs⟩ : ∃ cs, cs = cellsN c := ⟨_, rfl⟩
  rw [← hcs] at hl17 hs3 hcC hsK ⊢
  have HCC := Lib.hid hcC
  have HSK := Lib.hid hsK
  have HC := Lib.hid hc
  clear hcv hcC hsK hv1 hf1 hn hcs V hvn hc hs3
  (obtain ⟨lb, b0, b1, b2, b3⟩ := (id hb))
  go_enter Try.func61, Try.ntmps61
  go_wp2_with fail
  refine (HCC.out w HC.out).mono ?_
  rintro e w1 ⟨v, F, rfl, hN, _, hE1⟩
  obtain ⟨ca, cc, rfl, _⟩ := hN.sl
  have y1 := hb.ext hE1
  have HN := Lib.hid hN
  clear b0 b1 b2 b3 lb hb hN HCC
  go_wp2_with fail
  go_loopw [4, 5] (fun u4 u5 wr => ∃ (k : Nat) (F : List Nat), k ≤ n ∧ u5 = .int .i64 ((k : Int) + 1) ∧ NstN wr u4 (netsK c cs k) F ∧ Hid (∀ g ∈ F, w1.heap.size ≤ g) ∧ Ext w1 wr) (fun _ v _ => n + 1 - (intOf v).toNat)
  case atStart => exact ⟨0, [], Nat.zero_le _, rfl, Nst.nil, Lib.hid (fun g hg => by simp at hg), Ext.refl _⟩
  case round =>
    obtain ⟨k, F2, hk, rfl, hM, HF, hE⟩ := hrel
    obtain ⟨w2, rfl⟩ : ∃ z : World, z = wr := ⟨_, rfl⟩
    have y2 := y1.ext hE
    obtain ⟨q, hq⟩ : ∃ q : Int, q = (k : Int) + 1 := ⟨_, rfl⟩
    rw [← hq]
    have q0 : 1 ≤ q := by omega
    have q31 : q ≤ 31 := by omega
    have HQ := Lib.hid hq
    by_cases hlt : k < n
    · have hqn : q < (n : Int) + 1 := by omega
      have hsn : netsK c cs (k + 1) = netsK c cs k ++ if usedB (netT c cs q) then [netT c cs q] else [] := by rw [hq]; rfl
      have hkl := netsK_le c cs k
      have HSN := Lib.hid hsn
      clear hq hsn
      go_wp2_with fail
      refine (vars_c b c p _ y2 i0 (by omega) (by omega) (by omega)).mono ?_
      rintro e w3' ⟨rfl, nv, rfl⟩
      obtain ⟨w3, hw3⟩ : ∃ z, z = w2.drewN nv := ⟨_, rfl⟩
      have E23 : Ext w2 w3 := by rw [hw3]; exact Ext.drewN _ _
      rw [← hw3]
      have y3 := y2.ext E23
      have HVN2 := HVN.out
      rw [HVN2]
      clear hw3 HVN2 y2
      (obtain ⟨lb, b0, b1, b2, b3⟩ := (id y3))
      go_wp2_with fail
      refine (HSK.out q _ (HC.out.ext ((hE1.trans hE).trans E23))).mono ?_
      rintro e w4 ⟨sv, rfl, oS, hE4⟩
      have hss := sinkL_le cs q cs.length
      obtain ⟨S, hS⟩ : ∃ S, S = sinkL cs q cs.length := ⟨_, rfl⟩
      rw [← hS] at oS hss
      have HS := Lib.hid hS
      obtain ⟨sa, sc, rfl, _⟩ := own_sl oS
      have y4 := y3.ext hE4
      have E24 := E23.trans hE4
      have hbl := y4.1
      have hB := Blk.at w4 [.int .i64 q, .int .i64 (-1), .int .i64 ((q - 1) * 5), .slice sa S.length sc, .slice none 0 0] 91 rfl
      have s23 := E23.size
      clear b0 b1 b2 b3 lb y3 hS hE4 E23
      go_wp2_with fail
      go_loopw [33] (fun u33 wr => ∃ i : Nat, i ≤ cs.length ∧ u33 = .int .i64 i ∧ Blk wr w4.heap.size 91 [.int .i64 q, .int .i64 (lastC cs q i), .int .i64 ((q - 1) * 5), .slice sa S.length sc, .slice none 0 0] ∧ Ext w4 wr) (fun v _ => cs.length - (intOf v).toNat)
      case atStart => exact ⟨0, Nat.zero_le _, rfl, hB, by (repeat (first | with_reducible assumption | with_reducible exact Ext.refl _ | with_reducible refine Ext.drew' ?_ | with_reducible refine Ext.drewN' ?_ _ | with_reducible refine Ext.alloc ?_ _ | (with_reducible refine Ext.setNew ?_ (by first | exact Nat.le_refl _ | (simp; done) | (simp; omega) | omega) _)))⟩
      case round =>
        clear hB
        obtain ⟨i, hi, rfl, hB, hE5⟩ := hrel
        obtain ⟨w5, rfl⟩ : ∃ z : World, z = wr := ⟨_, rfl⟩
        by_cases hlt2 : i < cs.length
        · obtain ⟨g, rfl, hg, _, hcells⟩ := Nst.getN goodCell (HN.out.ext goodCell ((hE.trans E24).trans hE5)) (by omega)
          obtain ⟨ds, F1, ⟨v, rfl, o1, rfl⟩, qq, _⟩ := hcells i cell0 hlt2
          have r0 := qq 0 _ (by omega) rfl
          have r1 := qq 1 _ (by omega) rfl
          have r2 := qq 2 _ (by omega) rfl
          have r3 := qq 3 _ (by omega) rfl
          rw [Nat.add_zero] at r0
          obtain ⟨va, vc, rfl, _⟩ := own_sl o1
          have hsl : lastC cs q (i + 1) = if (cs.getD i cell0).net == q then (i : Int) else lastC cs q i := rfl
          obtain ⟨x, hx⟩ : ∃ x, x = cs.getD i cell0 := ⟨_, rfl⟩
          rw [← hx] at r0 r1 r2 r3 hsl
          obtain ⟨xn, xi, xt, xr⟩ := x
          dsimp only at r0 r1 r2 r3 hsl
          obtain ⟨L, hL⟩ : ∃ L, L = lastC cs q i := ⟨_, rfl⟩
          rw [← hL] at hB hsl
          have bl := hB.lt
          have f1 := fun i => hB.frozen i
          have x1 := hB.cell (i := 1) rfl
          have s5 := hE5.size
          by_cases he : xn = q
          · have hsl2 : lastC cs q (i + 1) = (i : Int) := by rw [hsl, if_pos (by simp [he])]
            have HSL := Lib.hid hsl2
            have he2 : (xn == q) = true := by simp [he]
            have hG : ∀ W, Blk W w4.heap.size 91 [.int .i64 q, .int .i64 L, .int .i64 ((q - 1) * 5), .slice sa S.length sc, .slice none 0 0] → Blk (W.setCell ⟨w4.heap.size, 1, none⟩ (.int .i64 (i : Int))) w4.heap.size 91 [.int .i64 q, .int .i64 (i : Int), .int .i64 ((q - 1) * 5), .slice sa S.length sc, .slice none 0 0] := fun W h => h.set 1 _
            clear hx hsl hsl2 hL he hcells qq o1
            go_wp2_with fail
            go_roundw
            case rel =>
              refine ⟨i + 1, by omega, by go_num, by rw [HSL.out]; first | exact (hB.set 1 (.int .i64 (i : Int))).alloc _ | (refine hG _ ?_; (repeat (first | with_reducible exact hB | with_reducible refine Blk.setOther ?_ (by simp; omega) _ | with_reducible refine Blk.alloc ?_ _))), ?_⟩
              repeat (first | with_reducible exact hE5 | with_reducible refine Ext.alloc ?_ _ | with_reducible refine Ext.setNew ?_ (by first | exact Nat.le_refl _ | (simp; omega) | omega) _)
            case measure => simp [intOf]; omega
          · have hsl2 : lastC cs q (i + 1) = L := by rw [hsl, if_neg (by simp [he])]
            have HSL := Lib.hid hsl2
            have he2 : (xn == q) = false := by simp [he]
            clear hx hsl hsl2 hL he hcells qq o1
            go_wp2_with fail
            go_roundw
            case rel =>
              refine ⟨i + 1, by omega, by go_num, by rw [HSL.out]; (repeat (first | with_reducible exact hB | with_reducible refine Blk.setOther ?_ (by simp; omega) _ | with_reducible refine Blk.alloc ?_ _)), ?_⟩
              repeat (first | with_reducible exact hE5 | with_reducible refine Ext.alloc ?_ _ | with_reducible refine Ext.setNew ?_ (by first | exact Nat.le_refl _ | (simp; omega) | omega) _)
            case measure => simp [intOf]; omega
        · have hi2 : i = cs.length := by omega
          have hnn : ¬ ((i : Int) < (cs.length : Int)) := by omega
          obtain ⟨L, hL⟩ : ∃ L, L = lastC cs q i := ⟨_, rfl⟩
          rw [← hL] at hB
          have HLc : Hid (L = lastC cs q cs.length) := Lib.hid (by rw [hL, hi2])
          have y5 := y4.ext hE5
          clear hL hi2
          (obtain ⟨lb, b0, b1, b2, b3⟩ := (id y5))
          go_wp2_with fail
          go_loopw [50] (fun u50 wr => ∃ (o : Nat) (pv : Value), o ≤ c.outs.length ∧ u50 = .int .i64 o ∧ Blk wr w4.heap.size 91 [.int .i64 q, .int .i64 L, .int .i64 ((q - 1) * 5), .slice sa S.length sc, pv] ∧ OwnInts wr (w4.heap.size + 1) 3 pv (padL c q o) ∧ Ext w4 wr) (fun v _ => c.outs.length - (intOf v).toNat)
          case atStart => exact ⟨0, _, Nat.zero_le _, rfl, hB, ownsRow_nil, hE5⟩
          case round =>
            clear b0 b1 b2 b3 lb hB
            obtain ⟨o, pv, ho, rfl, hB, hO, hE6⟩ := hrel
            obtain ⟨w6, rfl⟩ : ∃ z : World, z = wr := ⟨_, rfl⟩
            have hpl3 := padL_le c q o
            by_cases hlt3 : o < c.outs.length
            · obtain ⟨b5, o5, eao, hb5, hc5⟩ := (HC.out.ou.ext (((hE1.trans hE).trans E24).trans hE6)).get (by omega)
              have q1 := hc5 o hlt3
              obtain ⟨i1, i2⟩ := HXO.out o hlt3
              have hvn2 := HVN.out
              have hpn := padL_succ c q o
              obtain ⟨l, hll⟩ : ∃ l, l = c.outs.getD o 0 := ⟨_, rfl⟩
              rw [← hll] at q1 i1 i2 hpn
              rw [hvn2] at i2
              have hta : IntKind.i64.wrap (l.tdiv 2) = l / 2 := by rw [Int.tdiv_eq_ediv_of_nonneg i1]; exact IntWalk.i64_in _ (by omega)
              rw [eao]
              obtain ⟨P, hP⟩ : ∃ P, P = padL c q o := ⟨_, rfl⟩
              rw [← hP] at hO hpn hpl3
              have s6 := hE6.size
              clear hc5 hll hvn2 hP
              by_cases he : l / 2 = q
              · have hpn2 : padL c q (o + 1) = P ++ [(o : Int) * 5 + 4] := by rw [hpn, if_pos (by simp [he])]
                have HPN := Lib.hid hpn2
                have he2 : (l / 2 == q) = true := by simp [he]
                obtain ⟨pa, pc, rfl, _⟩ := own_sl hO
                have x4 := hB.cell (i := 4) rfl
                have bl := hB.lt
                have hnb : (Value.slice pa P.length pc).ownBlock ≠ some w4.heap.size := fun e => by have := (own_lo hO _ e).1; omega
                clear hpn hpn2 he
                go_wp2_with fail
                refine wp_regionT (fun w' => ((fun w' => (∀ b o, b < w4.heap.size → w'.cell? ⟨b, o, none⟩ = w4.cell? ⟨b, o, none⟩) ∧ Ext w4 w')) w' ∧ w'.cell? ⟨w4.heap.size, 4, none⟩ = some (.slice pa P.length pc)) 7 (by kernel_rfl) ?_
                have hS0 : ((fun w' => (∀ b o, b < w4.heap.size → w'.cell? ⟨b, o, none⟩ = w4.cell? ⟨b, o, none⟩) ∧ Ext w4 w')) w6.drew ∧ w6.drew.cell? ⟨w4.heap.size, 4, none⟩ = some (.slice pa P.length pc) := ⟨held_mk (hE6.drew'), x4⟩
                dsimp only at hS0
                ((refine wpAnyT_take 0 (v := ?_) rfl (by kernel_rfl) (fun _ _ _ h => h) (Or.inl ⟨by kernel_rfl, ?_⟩) (by assumption) ?_; rotate_left; (intro wS hSw; (try dsimp only at hSw); go_simp; (try with_reducible rfl)); (try simp only [Act.put, List.setIfInBounds_toArray, List.set_cons_zero, List.set_cons_succ])); (refine wpAnyT_take 1 (v := ?_) rfl (by kernel_rfl) (fun _ _ _ h => h) (Or.inl ⟨by kernel_rfl, ?_⟩) (by assumption) ?_; rotate_left; (intro wS hSw; (try dsimp only at hSw); go_simp; (try with_reducible rfl)); (try simp only [Act.put, List.setIfInBounds_toArray, List.set_cons_zero, List.set_cons_succ])); (refine wpAnyT_take 2 (v := ?_) rfl (by kernel_rfl) (fun _ _ _ h => h) (Or.inl ⟨by kernel_rfl, ?_⟩) (by assumption) ?_; rotate_left; (intro wS hSw; (try dsimp only at hSw); go_simp; (try with_reducible rfl)); (try simp only [Act.put, List.setIfInBounds_toArray, List.set_cons_zero, List.set_cons_succ])))
                (refine wpAnyT_do 3 (by kernel_rfl) rfl (fun K hK => ?_))
                go_simp
                refine (padTile_c o _ (by omega)).mono ?_
                rintro e w7 ⟨rfl, rfl⟩
                (refine hK _ _ hS0 ?_; clear hK K; (try simp only [Act.put, List.setIfInBounds_toArray, List.set_cons_zero, List.set_cons_succ]))
                (refine wpAnyT_do 4 (by kernel_rfl) rfl (fun K hK => ?_))
                go_simp
                have A3 : Ext w6 ((World.drew w6).alloc (.cells #[.int .i64 ((o : Int) * 5 + 4)] 3)) := (Ext.drew w6).alloc _
                have hS2 := And.intro (held_mk (hE6.trans A3)) ((hB.ext A3).cell (i := 4) rfl)
                (refine hK _ _ hS2 ?_; clear hK K; (try simp only [Act.put, List.setIfInBounds_toArray, List.set_cons_zero, List.set_cons_succ]))
                (refine wpAnyT_do 5 (by kernel_rfl) rfl (fun K hK => ?_))
                refine step_app tyInts (ownsRow_ext hO A3) (RowAt.new (World.drew w6) #[.int .i64 ((o : Int) * 5 + 4)] _) rfl (by simp [Value.oneCell']) (by omega) (by simp; omega) rfl rfl rfl rfl ?_
                intro v9 w9 p9 g9 m9
                have O9 : OwnInts w9 (w4.heap.size + 1) 3 v9 (P ++ [(o : Int) * 5 + 4]) := own_app (xs := P) (ys := [(o : Int) * 5 + 4]) rfl rfl p9
                obtain ⟨va, vc, rfl⟩ := own_len O9 (n := P.length + 1) (by simp)
                have b9 := (hB.ext A3).gr g9 hnb
                have f9 := fun i => b9.frozen i
                have bl9 := b9.lt
                have E9 : Ext w4 w9 := ext_grown (hE6.trans A3) g9 (fun k hk => by have := (own_lo hO k hk).1; omega)
                have hS4 := And.intro (held_mk E9) (b9.cell (i := 4) rfl)
                (refine hK _ _ hS4 ?_; clear hK K; (try simp only [Act.put, List.setIfInBounds_toArray, List.set_cons_zero, List.set_cons_succ]))
                (refine wpAnyT_do 6 (by kernel_rfl) rfl (fun K hK => ?_))
                go_simp
                (refine hK _ _ hS4 ?_; clear hK K; (try simp only [Act.put, List.setIfInBounds_toArray, List.set_cons_zero, List.set_cons_succ]))
                (refine wpAnyT_last 7 (by kernel_rfl) rfl (by decide) (by kernel_rfl) (fun K hK => ?_))
                go_simp
                (refine hK _ _ ?_; clear hK K; (try simp only [Act.put, List.setIfInBounds_toArray, List.set_cons_zero, List.set_cons_succ]))
                have hlo9 := own_lo O9
                have HO10 := Lib.hid (ownsRow_set O9 (p := ⟨w4.heap.size, 4, none⟩) (fun e => by have h9 : w4.heap.size + 1 ≤ w4.heap.size := (hlo9 _ e).1; omega) (.slice va (P.length + 1) vc))
                have HB10 := Lib.hid (b9.set 4 (.slice va (P.length + 1) vc))
                have E10 : Ext w4 (w9.setCell ⟨w4.heap.size, 4, none⟩ (.slice va (P.length + 1) vc)) := Ext.setNew E9 (Nat.le_refl _) _
                clear hS0 hS2 hS4 p9 g9 m9 b9 f9 bl9 E9 O9 hlo9 hB hO A3 x4
                go_wp2
                go_roundw
                case rel => exact ⟨o + 1, _, by omega, by go_num, HB10.out, by rw [HPN.out]; exact HO10.out, E10⟩
                case measure => simp [intOf]; omega
              · have hpn2 : padL c q (o + 1) = P := by rw [hpn, if_neg (by simp [he]), List.append_nil]
                have HPN := Lib.hid hpn2
                have he2 : (l / 2 == q) = false := by simp [he]
                clear hpn hpn2 he
                go_wp2_with fail
                go_roundw
                case rel => exact ⟨o + 1, pv, by omega, by go_num, hB, by rw [HPN.out]; exact hO, hE6⟩
                case measure => simp [intOf]; omega
            · have ho2 : o = c.outs.length := by omega
              have hnn2 : ¬ ((o : Int) < (c.outs.length : Int)) := by omega
              obtain ⟨P, hP⟩ : ∃ P, P = padL c q o := ⟨_, rfl⟩
              rw [← hP] at hO hpl3
              have hnt : netT c cs q = ⟨q, L, (q - 1) * 5, S, P⟩ := by unfold netT; rw [HLc.out, HS.out, hP, ho2]
              have hub : usedB (netT c cs q) = decide (0 < S.length + P.length) := by rw [hnt]; rfl
              have HSN2 := HSN.out
              rw [hub, hnt] at HSN2
              have HS3 := Lib.hid HSN2
              obtain ⟨pa, pc, rfl, _⟩ := own_sl hO
              have x0 := hB.cell (i := 0) rfl
              have x1 := hB.cell (i := 1) rfl
              have x2 := hB.cell (i := 2) rfl
              have x3 := hB.cell (i := 3) rfl
              have x4 := hB.cell (i := 4) rfl
              have bl := hB.lt
              have E26 := E24.trans hE6
              have s26 := E26.size
              have oS6 := ownsRow_ext oS hE6
              have s24 := E24.size
              clear hP hnt hub HSN2 HSN ho2 HS HLc
              by_cases hu : 0 < S.length + P.length
              · have hu2 : (0 : Int) < (S.length : Int) + (P.length : Int) := by omega
                have HS4 : Hid (netsK c cs (k + 1) = netsK c cs k ++ [⟨q, L, (q - 1) * 5, S, P⟩]) := Lib.hid (by rw [HS3.out, decide_eq_true hu]; rfl)
                obtain ⟨cells, G, o8, els8, rfl, off8⟩ := hM
                clear hu HS3
                go_wp2_with (at_builtin; refine wpList_app tyNets (ownsRow_ext o8 (by (repeat (first | with_reducible assumption | with_reducible exact Ext.refl _ | with_reducible refine Ext.drew' ?_ | with_reducible refine Ext.drewN' ?_ _ | with_reducible refine Ext.alloc ?_ _ | (with_reducible refine Ext.setNew ?_ (by first | exact Nat.le_refl _ | (simp; done) | (simp; omega) | omega) _))))) (rowNew _ _ _ (by simp)) rfl (by simp [Value.oneCell']) (by omega) (Nat.zero_le _) rfl rfl rfl rfl ?_; intro v9 w9 o9 g9 m9)
                obtain ⟨W, EW, hg, hm⟩ : ∃ W, Ext w6 W ∧ W.grownBy w9 u4.ownBlock ∧ RowMoved W u4 v9 := ⟨_, by (repeat (first | with_reducible assumption | with_reducible exact Ext.refl _ | with_reducible refine Ext.drew' ?_ | with_reducible refine Ext.drewN' ?_ _ | with_reducible refine Ext.alloc ?_ _ | (with_reducible refine Ext.setNew ?_ (by first | exact Nat.le_refl _ | (simp; done) | (simp; omega) | omega) _))), g9, m9⟩
                have hPC : PNet W [.int .i64 q, .int .i64 L, .int .i64 ((q - 1) * 5), .slice sa S.length sc, .slice pa P.length pc] ⟨q, L, (q - 1) * 5, S, P⟩ (fp (.slice sa S.length sc) ++ fp (.slice pa P.length pc)) := ⟨_, _, rfl, ownsRow_zero (ownsRow_ext oS6 EW), ownsRow_zero (ownsRow_ext hO EW), rfl⟩
                have hloS := own_lo oS
                have hloP := own_lo hO
                obtain ⟨N9, F9⟩ := nst_snoc goodNet o8 els8 off8 (E26.trans EW) hPC (fun g hg => by
                  rcases List.mem_append.1 hg with h | h
                  · have := (hloS g (mem_fp.1 h)).1; omega
                  · have := (hloP g (mem_fp.1 h)).1; omega) hg hm rfl o9
                rw [← HS4.out] at N9
                have E9 := ext_grown ((hE.trans E26).trans EW) hg (fun q hq => HF.out q (List.mem_append_left _ (mem_fp.2 hq)))
                have hsE := hE.size
                go_roundw
                case rel => exact ⟨k + 1, _, by omega, by have := HQ.out; congr 1; omega, N9, Lib.hid (F9 w1.heap.size HF.out hsE), E9⟩
                case measure => have := HQ.out; simp [intOf]; omega
              · have hu2 : ¬ (0 : Int) < (S.length : Int) + (P.length : Int) := by omega
                have HS4 : Hid (netsK c cs (k + 1) = netsK c cs k) := Lib.hid (by rw [HS3.out, decide_eq_false hu]; simp)
                clear hu HS3
                go_wp2_with fail
                go_roundw
                case rel => exact ⟨k + 1, F2, by omega, by have := HQ.out; congr 1; omega, by rw [HS4.out]; exact hM.ext goodNet E26, HF, hE.trans E26⟩
                case measure => have := HQ.out; simp [intOf]; omega
    · have hk2 : k = n := by omega
      subst hk2
      have hqn : ¬ q < (k : Int) + 1 := by omega
      clear hq
      go_wp2_with fail
      refine (vars_c b c p _ y2 i0 (by omega) (by omega) (by omega)).mono ?_
      rintro e w3' ⟨rfl, nv, rfl⟩
      have HVN2 := HVN.out
      rw [HVN2]
      clear HVN2
      go_wp2_with fail
      go_ret
      exact ⟨_, F2, rfl, hM.ext goodNet (Ext.drewN _ _), fun g hg => by have := HF.out g hg; have := hE1.size; omega, (hE1.trans hE).trans (Ext.drewN _ _)⟩
end Go.Proofs.Ytgialedmbmfejaa
