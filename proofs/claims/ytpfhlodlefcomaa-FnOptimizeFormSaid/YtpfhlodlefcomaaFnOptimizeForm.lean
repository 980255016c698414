/- The law FnOptimizeForm: the optimized circuit is in normal form, and optimizing it again changes nothing. No condition. -/
import Derived.Test.YtpfhlodlefcomaaBytes
import Derived.Test.YtpfhlodlefcomaaDraw3
import Derived.Test.YtpfhlodlefcomaaOptC
import Derived.Test.YtpfhlodlefcomaaOptM
import Derived.Test.YtpfhlodlefcomaaOptE
import Derived.Test.YtpfhlodlefcomaaForm
import Derived.Test.YtpfhlodlefcomaaSameC
namespace Go.Proofs.Ytpfhlodlefcomaa
open Go.ChangeShapes Go.WideShapes Go.ChangeAt Go.RowKit
set_option maxRecDepth 100000
set_option linter.unusedVariables false
set_option linter.unusedSimpArgs false
set_option maxHeartbeats 4000000 in
theorem fnOptimizeForm_walk (a0 : Option Addr) (len0 cap0 : Nat) (z0 : List Int) (w : World) (w0 : IsRow .u8 w a0 len0 cap0 z0) :
    Calls Try.prog 5 #[.slice a0 len0 cap0] w fun e w' => e = .returned (.bool true) ∧ Below w.heap.size w w' := by
  obtain ⟨bs, rfl, hB, hlc, hcm⟩ := bytes_of_row w0
  by_cases hl : bs.length ≤ 1048576
  · go_enter Try.func5, Try.ntmps5
    go_wp2_with fail
    refine (DrawOptimize_c a0 cap0 bs _ hB hl hlc hcm).mono ?_
    rintro e w1 ⟨c, p, rfl, hC, hd, hE, hcap⟩
    have hb := Blk.at w1 [.int .i64 c.inputs, .slice p.an c.next.length p.cn, .slice p.ag c.gates.length p.cg, .slice p.ao c.outs.length p.co] 26 rfl
    go_wp2_with fail
    (have y := CircBox.made w1 c p 26; have Ey : Ext w1 (w1.alloc (.cells #[.int .i64 c.inputs, .slice p.an c.next.length p.cn, .slice p.ag c.gates.length p.cg, .slice p.ao c.outs.length p.co] 26)) := (Ext.refl w1).alloc _; have hC := hC.ext Ey)
    generalize w1.alloc (.cells #[.int .i64 c.inputs, .slice p.an c.next.length p.cn, .slice p.ag c.gates.length p.cg, .slice p.ao c.outs.length p.co] 26) = W1 at *
    have E1 := Ext.trans hE Ey
    clear hE Ey hb
    refine (implOptimize_c c p _ hC).mono ?_
    rintro e w2 ⟨nv, gv, ov, rfl, o2, hE2⟩
    obtain ⟨l1, l2, l3⟩ := optV_lens c
    have hnf := optV_nf c
    have hid := optV_idem c
    obtain ⟨d, hd2⟩ : ∃ d, d = optV c := ⟨_, rfl⟩
    rw [← hd2] at o2 l1 l2 l3 hnf hid ⊢
    have HD := Lib.hid hd2
    have HNF := Lib.hid hnf
    have HID := Lib.hid hid
    have i0 := hnf.V.i0
    have i4 := hnf.V.i4
    clear hnf hid hd2
    obtain ⟨q, rfl, rfl, rfl, hCd, _⟩ := o2.opened (by omega) (by omega) (by omega)
    have hC := hC.ext hE2
    have y := y.ext hE2
    have E2 := E1.trans hE2
    clear o2 hE2 E1
    go_wp2_with fail
    have Ez : Ext w2 (w2.alloc (.cells #[.int .i64 d.inputs, .slice q.an d.next.length q.cn, .slice q.ag d.gates.length q.cg, .slice q.ao d.outs.length q.co] 26)) := (Ext.refl w2).alloc _
    have z := CircBox.made w2 d q 26
    have hC := hC.ext Ez
    have hCd := hCd.ext Ez
    have y := y.ext Ez
    have E3 := E2.trans Ez
    generalize w2.alloc (.cells #[.int .i64 d.inputs, .slice q.an d.next.length q.cn, .slice q.ag d.gates.length q.cg, .slice q.ao d.outs.length q.co] 26) = W3 at *
    clear E2 Ez
    (obtain ⟨ly, y0, y1, y2, y3⟩ := (id y))
    (obtain ⟨lz, z0, z1, z2, z3⟩ := (id z))
    go_region_held3 ((fun w' => (∀ b o, b < W3.heap.size → w'.cell? ⟨b, o, none⟩ = W3.cell? ⟨b, o, none⟩) ∧ Ext W3 w')) ((first | assumption | (with_reducible exact held_mk (Ext.drew W3)) | (with_reducible exact held_mk (((Ext.refl W3).alloc _).drew')) | (with_reducible exact held_mk ((Ext.drew W3).alloc _)))) (first | (go_simp; go_at_call 25; have hguard := hK1; refine (sameCircuit_c d q r _ (hCd.ext (held_ext hK1)) hR).mono ?_; rintro e w5 ⟨rfl, hE5⟩; have hK2 := held_mk ((held_ext hK1).trans hE5)) | (go_simp; go_at_call 26; refine (specOptimize_c c p _ (hC.ext (Ext.drew W3))).mono ?_; rw [← HD.out]; rintro e w4 ⟨nv4, gv4, ov4, rfl, o4, hE4⟩; obtain ⟨r, rfl, rfl, rfl, hR, _⟩ := o4.opened (by omega) (by omega) (by omega); have hK1 := held_mk ((Ext.drew W3).trans hE4)))
    have E5 := held_ext hK2
    have hC := hC.ext E5
    have hCd := hCd.ext E5
    have y := y.ext E5
    have z := z.ext E5
    have E6 := E3.trans E5
    clear hK1 hK2 hE4 hE5 o4 hR E3 E5 y0 y1 y2 y3 ly z0 z1 z2 z3 lz
    clear hC y
    (obtain ⟨lz, z0, z1, z2, z3⟩ := (id z))
    go_wp2_with fail
    go_loopw [6] (fun u wr => ∃ k : Nat, k ≤ d.gates.length ∧ u = .int .i64 k ∧ CircBox wr w2.heap.size d q ∧ Ext w5 wr) (fun i _ => d.gates.length - (intOf i).toNat)
    case atStart => exact ⟨0, Nat.zero_le _, rfl, z, Ext.refl _⟩
    case round =>
      obtain ⟨k, hk, rfl, hz, hE⟩ := hrel
      clear z0 z1 z2 z3 lz
      obtain ⟨lz, z0, z1, z2, z3⟩ := (id hz)
      by_cases hlt : k < d.gates.length
      · obtain ⟨b8, o8, hag, hb8, hg1, hg2⟩ := (hCd.ext hE).gs.get (by omega)
        have q1 := hg1 k hlt
        have q2 := hg2 k hlt
        have hn := HNF.out.gs.ng _ (getD_mem (d := (0, 0)) hlt)
        have hv := HNF.out.V.gs k hlt
        obtain ⟨ga, hga⟩ : ∃ x, x = (d.gates.getD k (0, 0)).1 := ⟨_, rfl⟩
        obtain ⟨gb, hgb⟩ : ∃ x, x = (d.gates.getD k (0, 0)).2 := ⟨_, rfl⟩
        unfold NG at hn
        rw [litB_ii, litB_ii] at hv
        unfold Circ.first at hv
        rw [← hga, ← hgb] at hn hv
        rw [← hga] at q1
        rw [← hgb] at q2
        have HGA := Lib.hid hga
        have HGB := Lib.hid hgb
        have HAG := Lib.hid hag
        obtain ⟨n1, n2, n3⟩ := hn
        obtain ⟨⟨v1, v2⟩, v3, v4⟩ := hv
        have t1 : IntKind.i64.wrap (ga.tdiv 2) = ga / 2 := by rw [Int.tdiv_eq_ediv_of_nonneg v1]; exact IntWalk.i64_in _ (by omega)
        have t2 : IntKind.i64.wrap (gb.tdiv 2) = gb / 2 := by rw [Int.tdiv_eq_ediv_of_nonneg v3]; exact IntWalk.i64_in _ (by omega)
        have g1 : (ga / 2 == gb / 2) = false := by simpa using n3
        rw [hag] at z2
        clear hg1 hg2 hga hgb hag
        obtain ⟨w6, rfl⟩ : ∃ x : World, x = wr := ⟨_, rfl⟩
        have Eg : Ext w6 (w6.alloc (.cells #[.int .i64 ga, .int .i64 gb] 46)) := (Ext.refl w6).alloc _
        have bg := Blk.at w6 [.int .i64 ga, .int .i64 gb] 46 rfl
        have HUS := Lib.hid (nf_used HNF.out hlt)
        go_wp2_with fail
        have hz := hz.ext Eg
        have hE6 := hE.trans Eg
        clear z0 z1 z2 z3 lz q1 q2 g1 t1 t2
        generalize w6.alloc (.cells #[.int .i64 ga, .int .i64 gb] 46) = w7 at *
        go_loopw [8, 9] (fun u8 u9 wr => ∃ (j : Nat) (dk : Bool), k + 1 ≤ j ∧ j ≤ d.gates.length ∧ u9 = .int .i64 j ∧ u8 = .bool dk ∧ Hid ((∃ m, k < m ∧ m < j ∧ refs d.first d.gates m k) → dk = true) ∧ CircBox wr w2.heap.size d q ∧ Blk wr w6.heap.size 46 [.int .i64 ga, .int .i64 gb] ∧ Ext w7 wr) (fun _ i _ => d.gates.length - (intOf i).toNat)
        case atStart => exact ⟨k + 1, false, Nat.le_refl _, by omega, by go_num, rfl, Lib.hid (fun ⟨m, h1, h2, _⟩ => by omega), hz, bg, Ext.refl _⟩
        case round =>
          obtain ⟨j, dk, hj0, hj, rfl, rfl, hdk, hz7, hg7, hE7⟩ := hrel
          obtain ⟨lz, z0, z1, z2, z3⟩ := (id hz7)
          by_cases hlt2 : j < d.gates.length
          · have y0 := hg7.cell (i := 0) rfl
            have y1 := hg7.cell (i := 1) rfl
            obtain ⟨b9, o9, hbg, hb9, hh1, hh2⟩ := (hCd.ext (hE6.trans hE7)).gs.get (by omega)
            have q3 := hh1 j hlt2
            have q4 := hh2 j hlt2
            have hn := nf_ne HNF.out (show k < j by omega) hlt2
            have hv := HNF.out.V.gs j hlt2
            rw [← HGA.out, ← HGB.out] at hn
            have hrf : refs d.first d.gates j k ↔ (d.gates.getD j (0, 0)).1 / 2 = 1 + d.inputs + (d.next.length : Int) + (k : Int) ∨ (d.gates.getD j (0, 0)).2 / 2 = 1 + d.inputs + (d.next.length : Int) + (k : Int) := Iff.rfl
            obtain ⟨gc, hgc⟩ : ∃ x, x = (d.gates.getD j (0, 0)).1 := ⟨_, rfl⟩
            obtain ⟨gd, hgd⟩ : ∃ x, x = (d.gates.getD j (0, 0)).2 := ⟨_, rfl⟩
            rw [litB_ii, litB_ii] at hv
            unfold Circ.first at hv
            rw [← hgc, ← hgd] at hn hv hrf
            rw [← hgc] at q3
            rw [← hgd] at q4
            have HRF := Lib.hid hrf
            obtain ⟨⟨v5, v6⟩, v7, v8⟩ := hv
            have t1 : IntKind.i64.wrap (gc.tdiv 2) = gc / 2 := by rw [Int.tdiv_eq_ediv_of_nonneg v5]; exact IntWalk.i64_in _ (by omega)
            have t2 : IntKind.i64.wrap (gd.tdiv 2) = gd / 2 := by rw [Int.tdiv_eq_ediv_of_nonneg v7]; exact IntWalk.i64_in _ (by omega)
            have hcase : (gc == ga) = false ∨ ((gc == ga) = true ∧ (gd == gb) = false) := by
              by_cases h1 : gc = ga
              · exact .inr ⟨by simp [h1], by simpa using fun h2 => hn ⟨h1, h2⟩⟩
              · exact .inl (by simpa using h1)
            rw [hbg] at z2
            clear hh1 hh2 hgc hgd hbg hrf hn
            obtain ⟨w8, rfl⟩ : ∃ x : World, x = wr := ⟨_, rfl⟩
            have hdk2 : dk = true ∨ (dk = false ∧ (gc / 2 == 1 + d.inputs + (d.next.length : Int) + (k : Int)) = true) ∨ (dk = false ∧ (gc / 2 == 1 + d.inputs + (d.next.length : Int) + (k : Int)) = false) := by
              cases dk
              · cases (gc / 2 == 1 + d.inputs + (d.next.length : Int) + (k : Int))
                · exact .inr (.inr ⟨rfl, rfl⟩)
                · exact .inr (.inl ⟨rfl, rfl⟩)
              · exact .inl rfl
            rcases hcase with e5 | ⟨e5, e6⟩ <;> rcases hdk2 with rfl | ⟨rfl, e1⟩ | ⟨rfl, e1⟩
            all_goals
              go_wp2_with fail
              go_quiet (fail)
              go_wp2
              go_roundw
              case rel =>
                refine ⟨j + 1, _, by omega, by omega, by go_num, rfl, Lib.hid ?_, hz7.ext (by (repeat (first | with_reducible assumption | with_reducible exact Ext.refl _ | with_reducible refine Ext.drew' ?_ | with_reducible refine Ext.drewN' ?_ _ | with_reducible refine Ext.alloc ?_ _ | (with_reducible refine Ext.setNew ?_ (by first | exact Nat.le_refl _ | (simp; done) | (simp; omega) | omega) _)))), hg7.ext (by (repeat (first | with_reducible assumption | with_reducible exact Ext.refl _ | with_reducible refine Ext.drew' ?_ | with_reducible refine Ext.drewN' ?_ _ | with_reducible refine Ext.alloc ?_ _ | (with_reducible refine Ext.setNew ?_ (by first | exact Nat.le_refl _ | (simp; done) | (simp; omega) | omega) _)))), hE7.trans (by (repeat (first | with_reducible assumption | with_reducible exact Ext.refl _ | with_reducible refine Ext.drew' ?_ | with_reducible refine Ext.drewN' ?_ _ | with_reducible refine Ext.alloc ?_ _ | (with_reducible refine Ext.setNew ?_ (by first | exact Nat.le_refl _ | (simp; done) | (simp; omega) | omega) _))))⟩
                rintro ⟨m, h1, h2, hr⟩
                rcases Nat.lt_or_ge m j with h | h
                · first
                  | rfl
                  | (have := hdk.out ⟨m, h1, h, hr⟩; cases this)
                · have : m = j := by omega
                  subst this
                  have hr2 := HRF.out.1 hr
                  first
                  | rfl
                  | (rcases hr2 with h | h
                     · exact absurd h (by simpa using e1)
                     · simpa using h)
              case measure => simp [intOf]; omega
          · have hdkN : Hid ((∃ m, k < m ∧ m < d.gates.length ∧ refs d.first d.gates m k) → dk = true) := Lib.hid (fun ⟨m, h1, h2, h3⟩ => hdk.out ⟨m, h1, by omega, h3⟩)
            have hE8 := hE6.trans hE7
            clear hdk hg7 hz hE6 hE7 bg
            obtain ⟨w8, rfl⟩ : ∃ x : World, x = wr := ⟨_, rfl⟩
            go_wp2_with fail
            obtain ⟨A1, hA1⟩ : ∃ A : Prop, A = (∃ m, k < m ∧ m < d.gates.length ∧ refs d.first d.gates m k) := ⟨_, rfl⟩
            rw [← hA1] at hdkN
            have HA1 := Lib.hid hA1
            clear hA1
            go_loopw [8, 10] (fun u8 ui wr => ∃ (j : Nat) (dk : Bool), j ≤ d.outs.length ∧ ui = .int .i64 j ∧ u8 = .bool dk ∧ Hid (A1 ∨ (∃ m, m < j ∧ d.outs.getD m 0 / 2 = d.first + k) → dk = true) ∧ CircBox wr w2.heap.size d q ∧ Ext w5 wr) (fun _ i _ => d.outs.length - (intOf i).toNat)
            case atStart => exact ⟨0, _, Nat.zero_le _, rfl, rfl, Lib.hid (fun h => h.elim hdkN.out (fun ⟨m, hm, _⟩ => absurd hm (Nat.not_lt_zero m))), hz7, hE8⟩
            case round =>
              obtain ⟨j1, dk1, hj1, rfl, rfl, hd1, hz1, hE1⟩ := hrel
              clear z0 z1 z2 z3 lz
              obtain ⟨lz, z0, z1, z2, z3⟩ := (id hz1)
              by_cases hlt1 : j1 < d.outs.length
              · obtain ⟨bb, oo, hao, hob, hcc⟩ := (hCd.ext hE1).ou.get (by omega)
                have qq := hcc j1 hlt1
                have hlv := litB_ii.1 (LitsOk.mem.1 HNF.out.V.rs _ (List.mem_append_right _ (getD_mem (d := 0) hlt1)))
                have hvars : d.vars = 1 + d.inputs + d.next.length + d.gates.length := rfl
                obtain ⟨l, hll⟩ : ∃ l, l = d.outs.getD j1 0 := ⟨_, rfl⟩
                rw [← hll] at qq hlv
                rw [hao] at z3
                obtain ⟨v5, v6⟩ := hlv
                have t5 : IntKind.i64.wrap (l.tdiv 2) = l / 2 := by rw [Int.tdiv_eq_ediv_of_nonneg v5]; exact IntWalk.i64_in _ (by omega)
                have HLL := Lib.hid hll
                have HFI : Hid (d.first = 1 + d.inputs + (d.next.length : Int)) := Lib.hid rfl
                clear hcc hll hao hvars
                obtain ⟨wL, rfl⟩ : ∃ x : World, x = wr := ⟨_, rfl⟩
                cases dk1
                all_goals
                  go_wp2
                  go_roundw
                  case rel =>
                    refine ⟨j1 + 1, _, by omega, by go_num, rfl, Lib.hid ?_, hz1.ext (by (repeat (first | with_reducible assumption | with_reducible exact Ext.refl _ | with_reducible refine Ext.drew' ?_ | with_reducible refine Ext.drewN' ?_ _ | with_reducible refine Ext.alloc ?_ _ | (with_reducible refine Ext.setNew ?_ (by first | exact Nat.le_refl _ | (simp; done) | (simp; omega) | omega) _)))), hE1.trans (by (repeat (first | with_reducible assumption | with_reducible exact Ext.refl _ | with_reducible refine Ext.drew' ?_ | with_reducible refine Ext.drewN' ?_ _ | with_reducible refine Ext.alloc ?_ _ | (with_reducible refine Ext.setNew ?_ (by first | exact Nat.le_refl _ | (simp; done) | (simp; omega) | omega) _))))⟩
                    intro h
                    first
                    | rfl
                    | (rcases h with h | ⟨m, hm, hmr⟩
                       · have := hd1.out (.inl h); cases this
                       · rcases Nat.lt_or_ge m j1 with h | h
                         · have := hd1.out (.inr ⟨m, h, hmr⟩); cases this
                         · have : m = j1 := by omega
                           subst this
                           rw [← HLL.out, HFI.out] at hmr
                           simpa using hmr)
                  case measure => simp [intOf]; omega
              · have hdkM1 : Hid (A1 ∨ (∃ m, m < d.outs.length ∧ d.outs.getD m 0 / 2 = d.first + k) → dk1 = true) := Lib.hid (fun h => hd1.out (h.elim .inl (fun ⟨m, h1, h2⟩ => .inr ⟨m, by omega, h2⟩)))
                clear hd1
                obtain ⟨wM1, rfl⟩ : ∃ x : World, x = wr := ⟨_, rfl⟩
                go_wp2_with fail
                obtain ⟨A2, hA2⟩ : ∃ A : Prop, A = (A1 ∨ (∃ m, m < d.outs.length ∧ d.outs.getD m 0 / 2 = d.first + k)) := ⟨_, rfl⟩
                rw [← hA2] at hdkM1
                have HA2 := Lib.hid hA2
                clear hA2
                go_loopw [8, 11] (fun u8 ui wr => ∃ (j : Nat) (dk : Bool), j ≤ d.next.length ∧ ui = .int .i64 j ∧ u8 = .bool dk ∧ Hid (A2 ∨ (∃ m, m < j ∧ d.next.getD m 0 / 2 = d.first + k) → dk = true) ∧ CircBox wr w2.heap.size d q ∧ Ext w5 wr) (fun _ i _ => d.next.length - (intOf i).toNat)
                case atStart => exact ⟨0, _, Nat.zero_le _, rfl, rfl, Lib.hid (fun h => h.elim hdkM1.out (fun ⟨m, hm, _⟩ => absurd hm (Nat.not_lt_zero m))), hz1, hE1⟩
                case round =>
                  obtain ⟨j2, dk2, hj2, rfl, rfl, hd2, hz2, hE2⟩ := hrel
                  clear z0 z1 z2 z3 lz
                  obtain ⟨lz, z0, z1, z2, z3⟩ := (id hz2)
                  by_cases hlt2 : j2 < d.next.length
                  · obtain ⟨bb, oo, hao, hob, hcc⟩ := (hCd.ext hE2).nx.get (by omega)
                    have qq := hcc j2 hlt2
                    have hlv := litB_ii.1 (LitsOk.mem.1 HNF.out.V.rs _ (List.mem_append_left _ (getD_mem (d := 0) hlt2)))
                    have hvars : d.vars = 1 + d.inputs + d.next.length + d.gates.length := rfl
                    obtain ⟨l, hll⟩ : ∃ l, l = d.next.getD j2 0 := ⟨_, rfl⟩
                    rw [← hll] at qq hlv
                    rw [hao] at z1
                    obtain ⟨v5, v6⟩ := hlv
                    have t5 : IntKind.i64.wrap (l.tdiv 2) = l / 2 := by rw [Int.tdiv_eq_ediv_of_nonneg v5]; exact IntWalk.i64_in _ (by omega)
                    have HLL := Lib.hid hll
                    have HFI : Hid (d.first = 1 + d.inputs + (d.next.length : Int)) := Lib.hid rfl
                    clear hcc hll hao hvars
                    obtain ⟨wL, rfl⟩ : ∃ x : World, x = wr := ⟨_, rfl⟩
                    cases dk2
                    all_goals
                      go_wp2
                      go_roundw
                      case rel =>
                        refine ⟨j2 + 1, _, by omega, by go_num, rfl, Lib.hid ?_, hz2.ext (by (repeat (first | with_reducible assumption | with_reducible exact Ext.refl _ | with_reducible refine Ext.drew' ?_ | with_reducible refine Ext.drewN' ?_ _ | with_reducible refine Ext.alloc ?_ _ | (with_reducible refine Ext.setNew ?_ (by first | exact Nat.le_refl _ | (simp; done) | (simp; omega) | omega) _)))), hE2.trans (by (repeat (first | with_reducible assumption | with_reducible exact Ext.refl _ | with_reducible refine Ext.drew' ?_ | with_reducible refine Ext.drewN' ?_ _ | with_reducible refine Ext.alloc ?_ _ | (with_reducible refine Ext.setNew ?_ (by first | exact Nat.le_refl _ | (simp; done) | (simp; omega) | omega) _))))⟩
                        intro h
                        first
                        | rfl
                        | (rcases h with h | ⟨m, hm, hmr⟩
                           · have := hd2.out (.inl h); cases this
                           · rcases Nat.lt_or_ge m j2 with h | h
                             · have := hd2.out (.inr ⟨m, h, hmr⟩); cases this
                             · have : m = j2 := by omega
                               subst this
                               rw [← HLL.out, HFI.out] at hmr
                               simpa using hmr)
                      case measure => simp [intOf]; omega
                  · have hdkM2 : Hid (A2 ∨ (∃ m, m < d.next.length ∧ d.next.getD m 0 / 2 = d.first + k) → dk2 = true) := Lib.hid (fun h => hd2.out (h.elim .inl (fun ⟨m, h1, h2⟩ => .inr ⟨m, by omega, h2⟩)))
                    clear hd2
                    obtain ⟨wM2, rfl⟩ : ∃ x : World, x = wr := ⟨_, rfl⟩
                    have hd : dk2 = true := by
                      have h := HUS.out
                      refine hdkM2.out ?_
                      rcases h with h | h | h
                      · exact .inl (by rw [HA2.out]; exact .inl (by rw [HA1.out]; exact h))
                      · exact .inl (by rw [HA2.out]; exact .inr h)
                      · exact .inr h
                    subst hd
                    go_wp2_with fail
                    go_roundw
                    case rel => exact ⟨k + 1, by omega, by go_num, hz2, hE2⟩
                    case measure => simp [intOf]; omega
      · have hk2 : k = d.gates.length := by omega
        subst hk2
        have HO := Lib.hid (implOptimize_c d q)
        rw [HID.out] at HO
        obtain ⟨wF, rfl⟩ : ∃ x : World, x = wr := ⟨_, rfl⟩
        have hCF := hCd.ext hE
        go_wp2_with fail
        go_region_held3 ((fun w' => (∀ b o, b < wF.heap.size → w'.cell? ⟨b, o, none⟩ = wF.cell? ⟨b, o, none⟩) ∧ Ext wF w')) ((first | assumption | (with_reducible exact held_mk (Ext.drew wF)) | (with_reducible exact held_mk (((Ext.refl wF).alloc _).drew')) | (with_reducible exact held_mk ((Ext.drew wF).alloc _)))) (first
          | (go_simp; go_at_call 15; have hguard := hK2; refine (alive_c _).mono ?_; rintro e w12 ⟨rfl, hE12⟩; have hK3 := held_mk ((held_ext hK2).trans hE12))
          | (go_simp; go_at_call 25; have hguard := hK1; refine (sameCircuit_c d r2 q _ hR2 (hCF.ext (held_ext hK1))).mono ?_; rintro e w11 ⟨rfl, hE11⟩; have hK2 := held_mk ((held_ext hK1).trans hE11))
          | (go_simp; go_at_call 24; refine (HO.out _ (hCF.ext (Ext.drew wF))).mono ?_; rintro e w10 ⟨nv5, gv5, ov5, rfl, o5, hE10⟩; obtain ⟨r2, rfl, rfl, rfl, hR2, _⟩ := o5.opened (by omega) (by omega) (by omega); have hK1 := held_mk ((Ext.drew wF).trans hE10)))
        go_wp2
        go_ret
        exact ⟨rfl, (E6.trans hE).trans (held_ext hK3)⟩
  · go_enter Try.func5, Try.ntmps5
    go_wp2
    go_ret
    exact ⟨rfl, Below.refl _ _⟩
theorem fnOptimizeForm_lifted (os : Os) (started : os.Started) (H : Type) (enc : TypeId × Value → H) :
    ReturnsInHanded {} Try.checked os 5 .any (Rows.fnOptimizeFormSpec.pre6 enc Try.prog Try.f5 Rows.fnOptimizeFormRow.domain false) (Rows.fnOptimizeFormSpec.post enc Try.prog Try.f5 false true false false) := by
  refine returnsInHanded_of_change (C := Try.checked) own started (by kernel_rfl) Try.func5
    (ChangeSpec.witness6 (enc := enc) (C := Try.checked) false ⟨#[], #[.slice none 0 0], []⟩ 8 (by kernel_rfl) (by kernel_rfl) (by kernel_rfl) (by kernel_rfl)) ?_
  intro W base args ds gs before hval0 hW hcnd _
  have hval : ∀ (j : Nat) t v, Try.f5.params[j]? = some t → args[j]? = some v → Value.okWide Try.prog W .any base t v := hval0
  have hW' := hW
  obtain ⟨p, q, hA0, hV, rfl, hfz, hnd⟩ := hW
  have hA : DataW.TrodAll enc Try.prog W 0 (fun _ => true) true Try.f5.params.toList args.toList ds p := hA0
  rw [Try.params5] at hA hval
  obtain ⟨v0, vs0, d0, ds0, p0, q0, hargs, rfl, rfl, h0, r0⟩ := trodAll_cons hA
  obtain ⟨rfl, rfl, rfl⟩ := trodAll_nil r0
  obtain rfl : args = #[v0] := by cases args; simp_all
  obtain ⟨rfl, rfl⟩ := trodVars_none hV
  obtain ⟨a0, len0, cap0, rfl⟩ := okWide_slice Try.underlying22 (hval 0 22 v0 rfl rfl)
  have k0 := h0
  have lt0 : ∀ x ∈ p0, x.block < W.heap.size := by obtain ⟨m, hm⟩ := k0; exact DataW.trod_lt m _ _ _ hm
  obtain ⟨z0, w0⟩ : ∃ zs, IsRow .u8 W a0 len0 cap0 zs := by
    obtain ⟨fuel, hf⟩ := h0
    rcases open_ints Try.underlying22 Try.underlying5 (by kernel_rfl) hf with ⟨hcs, _⟩ | ⟨x, l, c, zs, hcs, _, hl, hm, hz, _, hcell, hwz⟩
    · simp [Value.cells] at hcs
      obtain ⟨rfl, rfl, rfl⟩ := hcs
      exact ⟨[], .inl ⟨rfl, rfl, rfl, rfl⟩⟩
    · simp [Value.cells] at hcs
      obtain ⟨rfl, rfl, rfl⟩ := hcs
      exact ⟨zs, .inr ⟨_, rfl, hl, hm, by simpa using hz, hcell, hwz⟩⟩
  clear hA0 hval0
  refine (fnOptimizeForm_walk a0 len0 cap0 z0 W w0).mono fun e W' ⟨he, bel⟩ => ?_
  subst he
  exact ⟨_, rfl, _, _, _, [], _, [], hW', trodAll_mk1 (shut_bool Try.underlying4 _), (trodAll_cons_mk (Below.trod laidOut (by kernel_rfl) (of_decide_eq_true (by kernel_rfl)) k0 bel lt0) trodAll_mk0), rfl, bel.frame _, fun h => by cases h⟩
theorem fnOptimizeForm_over : Rows.fnOptimizeFormRow.holds Try.pinned (OpenSpec.ofChange Rows.fnOptimizeFormSpec) :=
  OpenClaim.holds_of_wide 5 Try.f5 rfl rfl rfl rfl rfl rfl rfl ⟨rfl, rfl, rfl, rfl, rfl⟩ rfl rfl rfl rfl rfl (by kernel_rfl) Try.func5 (by kernel_rfl)
    (of_decide_eq_true (by kernel_rfl)) (by unfold Func.isWrapper; first | (rw [if_pos (by decide +kernel)]; kernel_rfl) | (rw [if_neg (by decide +kernel)]; exact ⟨rfl, rfl⟩))
    (fun os started H enc _ => fnOptimizeForm_lifted os started H enc)
theorem fnOptimizeForm_holds : Rows.FnOptimizeFormSaid := fnOptimizeForm_over
end Go.Proofs.Ytpfhlodlefcomaa
