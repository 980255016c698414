/- Contract: the program's cuts. -/
import Derived.Test.YtpomcoegpjehgaaJoinI
import Derived.Test.YtpomcoegpjehgaaCutS
import Derived.Outline
namespace Go.Proofs.Ytpomcoegpjehgaa
open Go.RowKit
set_option maxRecDepth 100000
set_option linter.unusedVariables false
set_option linter.unusedSimpArgs false
set_option maxHeartbeats 4000000 in
theorem implCuts_c (c : Circ) (p : Where3) (w : World) (hc : CircAt w c p) :
    Calls Try.prog 16 #[.agg #[.int .i64 c.inputs, .slice p.an c.next.length p.cn, .slice p.ag c.gates.length p.cg, .slice p.ao c.outs.length p.co]] w (GiveIII w (cutsV c)) := by
  have E0 : Ext w (w.alloc (.cells #[.int .i64 c.inputs, .slice p.an c.next.length p.cn, .slice p.ag c.gates.length p.cg, .slice p.ao c.outs.length p.co] 26)) := (Ext.refl w).alloc _
  have y := CircBox.made w c p 26
  cases hv : validB c
  · have HU : Hid (cutsV c = []) := Lib.hid (by unfold cutsV; rw [hv]; rfl)
    go_enter Try.func16, Try.ntmps16
    go_wp2_with fail
    refine (implCircuitValid_c c p _ (hc.ext E0)).mono ?_
    rw [hv]
    rintro e w1 ⟨rfl, hE1⟩
    go_wp2_with fail
    go_ret
    rw [HU.out]
    exact ⟨_, [], rfl, Nst.nil, fun g hg => by simp at hg, E0.trans hE1⟩
  · have V := validB_iff.1 hv
    have hi0 := V.i0
    have hi4 := V.i4
    have ln := V.ln
    have lg := V.lg
    have lo := V.lo
    obtain ⟨an, cn, ag, cg, ao, co⟩ := p
    dsimp only at E0 y ⊢
    obtain ⟨f, hf⟩ : ∃ f : Nat, c.first = (f : Int) := ⟨c.first.toNat, by unfold Circ.first; omega⟩
    have hf1 : 1 ≤ f ∧ f ≤ 8 := by unfold Circ.first at hf; omega
    obtain ⟨hf1, hf2⟩ := hf1
    have HFF := Lib.hid hf
    have HCK := Lib.hid (cutsK_ok V)
    have HU : Hid (cutsV c = (c.gates.take c.gates.length).foldl cutStep (cuts0 c.first)) := Lib.hid (by rw [List.take_length]; unfold cutsV; rw [hv]; rfl)
    have HG := Lib.hid V.gs
    obtain ⟨U, hUU⟩ : ∃ U, U = cutsV c := ⟨_, rfl⟩
    rw [← hUU] at HU ⊢
    have HV := Lib.hid hv
    clear hUU V
    go_enter Try.func16, Try.ntmps16
    go_wp2_with fail
    refine (implCircuitValid_c c ⟨an, cn, ag, cg, ao, co⟩ _ (hc.ext E0)).mono ?_
    rw [hv]
    rintro e w1 ⟨rfl, hE1⟩
    have E1 := E0.trans hE1
    have y1 := y.ext hE1
    have ls1 := E1.size
    have ls2 := y1.lt
    clear hv
    go_wp2_with fail
    go_loopw [3, 4] (fun u3 u4 wr => ∃ (v : Nat) (F : List Nat), 1 ≤ v ∧ v ≤ f ∧ u4 = .int .i64 v ∧ NstII wr u3 (cuts0 v) F ∧ Hid (∀ g ∈ F, w.heap.size + 1 ≤ g) ∧ CircBox wr w.heap.size c ⟨an, cn, ag, cg, ao, co⟩ ∧ Ext w wr) (fun _ v _ => f - (intOf v).toNat)
    case atStart =>
      refine ⟨1, _, Nat.le_refl _, hf1, rfl, lit_e w1 rfl, Lib.hid (fun g hg => ?_), y1.ext (by (repeat (first | with_reducible assumption | with_reducible exact Ext.refl _ | with_reducible refine Ext.drew' ?_ | with_reducible refine Ext.drewN' ?_ _ | with_reducible refine Ext.alloc ?_ _ | (with_reducible refine Ext.setNew ?_ (by first | exact Nat.le_refl _ | (simp; done) | (simp; omega) | omega) _)))), by (repeat (first | with_reducible assumption | with_reducible exact Ext.refl _ | with_reducible refine Ext.drew' ?_ | with_reducible refine Ext.drewN' ?_ _ | with_reducible refine Ext.alloc ?_ _ | (with_reducible refine Ext.setNew ?_ (by first | exact Nat.le_refl _ | (simp; done) | (simp; omega) | omega) _)))⟩
      simp at hg; omega
    case round =>
      clear y1 ls2 y
      obtain ⟨v, F, hv1, hv2, rfl, hN, HF, y, hE⟩ := hrel
      go_wp2_with fail
      refine (firstGate_c w.heap.size c ⟨an, cn, ag, cg, ao, co⟩ _ y (by omega) (by omega) (by omega)).mono ?_
      rintro e w1' ⟨rfl, nd, rfl⟩
      rw [hf]
      by_cases hlt : v < f
      · obtain ⟨cells, G, h1, h2, rfl, h4⟩ := hN
        have hl : (cuts0 v).length = v := by have := cuts0_length (f := (v : Int)) (by omega); omega
        have hob := fun k hk => HF.out k (List.mem_append_left _ (mem_fp.2 hk))
        have hss := hE.size
        have hyl := y.lt
        rw [hl] at h1
        obtain ⟨a3, c3, rfl, _⟩ := ownsRow_row h1
        obtain ⟨w2, rfl⟩ : ∃ x : World, x = wr := ⟨_, rfl⟩
        have eD := Ext.drewN w2 nd
        obtain ⟨w3, hw3⟩ : ∃ x : World, x = w2.drewN nd := ⟨_, rfl⟩
        rw [← hw3] at eD
        rw [← hw3]
        have hs1 := eD.size
        have L2 := lit_ii w3 v rfl
        clear hw3
        go_wp2_with (at_builtin; refine wpList_app tyIII (ownsRow_ext h1 (by (repeat (first | with_reducible assumption | with_reducible exact Ext.refl _ | with_reducible refine Ext.drew' ?_ | with_reducible refine Ext.drewN' ?_ _ | with_reducible refine Ext.alloc ?_ _ | (with_reducible refine Ext.setNew ?_ (by first | exact Nat.le_refl _ | (simp; done) | (simp; omega) | omega) _))))) (rowNew _ [.slice (some ⟨w3.heap.size + 1, 0, none⟩) 1 1] _ (B := w3.heap.size + 1 + 1) (by simp)) rfl (by simp [Value.oneCell']) (by omega) (Nat.zero_le _) rfl rfl rfl rfl ?_; intro v9 w9 o9 g9 m9; obtain ⟨a9, c9, rfl, _⟩ := ownsRow_row o9)
        have SN := nst_snoc goodII h1 h2 h4 (by (repeat (first | with_reducible assumption | with_reducible exact Ext.refl _ | with_reducible refine Ext.drew' ?_ | with_reducible refine Ext.drewN' ?_ _ | with_reducible refine Ext.alloc ?_ _ | (with_reducible refine Ext.setNew ?_ (by first | exact Nat.le_refl _ | (simp; done) | (simp; omega) | omega) _)))) ⟨_, rfl, L2.ext goodInts ((Ext.refl _).alloc _)⟩ (fun g hg => by simp at hg; omega) g9 m9 hl.symm o9
        go_roundw
        case rel =>
          refine ⟨v + 1, _, by omega, by omega, by go_num, ?_, Lib.hid (SN.2 _ HF.out (by omega)), ?_, ?_⟩
          · have := cuts0_succ v hv1
            rw [show ((v + 1 : Nat) : Int) = (v : Int) + 1 from by omega, this]
            exact SN.1
          · exact (y.ext (by (repeat (first | with_reducible assumption | with_reducible exact Ext.refl _ | with_reducible refine Ext.drew' ?_ | with_reducible refine Ext.drewN' ?_ _ | with_reducible refine Ext.alloc ?_ _ | (with_reducible refine Ext.setNew ?_ (by first | exact Nat.le_refl _ | (simp; done) | (simp; omega) | omega) _))))).grn g9 (fun e => by have := hob _ e; omega)
          · exact ext_grown (hE.trans (by (repeat (first | with_reducible assumption | with_reducible exact Ext.refl _ | with_reducible refine Ext.drew' ?_ | with_reducible refine Ext.drewN' ?_ _ | with_reducible refine Ext.alloc ?_ _ | (with_reducible refine Ext.setNew ?_ (by first | exact Nat.le_refl _ | (simp; done) | (simp; omega) | omega) _))))) g9 (fun q hq => by have := hob q hq; omega)
        case measure => simp [intOf]; omega
      · have hvf : f = v := by omega
        subst hvf
        have eD := Ext.drewN wr nd
        have hN1 := Nst.ext goodII hN eD
        have E2 := hE.trans eD
        have y2 := y.ext eD
        (obtain ⟨lb, b0, b1, b2, b3⟩ := (id y2))
        dsimp only at b1 b2 b3
        rw [← hf] at hN1
        clear hN y
        go_wp2_with fail
        go_loopw [3, 28] (fun u3 u28 wr => ∃ (i : Nat) (F : List Nat), i ≤ c.gates.length ∧ u28 = .int .i64 i ∧ NstII wr u3 ((c.gates.take i).foldl cutStep (cuts0 c.first)) F ∧ Hid (∀ g ∈ F, w.heap.size + 1 ≤ g) ∧ CircBox wr w.heap.size c ⟨an, cn, ag, cg, ao, co⟩ ∧ Ext w wr) (fun _ v _ => c.gates.length - (intOf v).toNat)
        case atStart => exact ⟨0, F, Nat.zero_le _, rfl, hN1, HF, y2, E2⟩
        case round =>
          clear hN1 E2 y2 HF b0 b1 b2 b3 lb
          obtain ⟨i, F, hi, rfl, hN, HF, y, hE⟩ := hrel
          by_cases hlt : i < c.gates.length
          · obtain ⟨gb, go, hag, hgl, hg1, hg2⟩ := (hc.ext hE).gs.get (by omega)
            dsimp only at hag
            subst hag
            have q1 := hg1 i hlt
            have q2 := hg2 i hlt
            have hv := HG.out i hlt
            obtain ⟨ok, okl⟩ := HCK.out i hi
            have hst := foldl_snocD cutStep c.gates i (0, 0) (cuts0 c.first) hlt
            obtain ⟨all, hall⟩ : ∃ all, all = (c.gates.take i).foldl cutStep (cuts0 c.first) := ⟨_, rfl⟩
            rw [← hall] at hst ok okl hN
            obtain ⟨ga, hga⟩ : ∃ x, x = (c.gates.getD i (0, 0)).1 := ⟨_, rfl⟩
            obtain ⟨gc, hgc⟩ : ∃ x, x = (c.gates.getD i (0, 0)).2 := ⟨_, rfl⟩
            rw [← hga] at q1 hv
            rw [← hgc] at q2 hv
            have hst2 : (c.gates.take (i + 1)).foldl cutStep (cuts0 c.first) = all ++ [joinV (all.getD (ga / 2).toNat []) (all.getD (gc / 2).toNat []) ++ [[(all.length : Int)]]] := by rw [hst, hga, hgc]; rfl
            clear hg1 hg2 hga hgc hst
            obtain ⟨va1, va2⟩ := litB_ok hv.1
            obtain ⟨vb1, vb2⟩ := litB_ok hv.2
            rw [hf] at okl va2 vb2
            have hta : IntKind.i64.wrap (ga.tdiv 2) = ga / 2 := by rw [Int.tdiv_eq_ediv_of_nonneg va1]; exact IntWalk.i64_in _ (by omega)
            have htb : IntKind.i64.wrap (gc.tdiv 2) = gc / 2 := by rw [Int.tdiv_eq_ediv_of_nonneg vb1]; exact IntWalk.i64_in _ (by omega)
            have okA := ok (ga / 2).toNat (by omega)
            have okB := ok (gc / 2).toNat (by omega)
            obtain ⟨va, vc, rfl, hvc, _⟩ := hN.sl
            obtain ⟨g, rfl, hgl3, hg3⟩ := NstII.get hN (by omega)
            obtain ⟨pa, pc, pF, r1, nP, hpc, _⟩ := hg3 (ga / 2).toNat (by omega)
            obtain ⟨qa, qc, qF, r2, nQ, hqc, _⟩ := hg3 (gc / 2).toNat (by omega)
            obtain ⟨P, hP⟩ : ∃ P, P = all.getD (ga / 2).toNat [] := ⟨_, rfl⟩
            obtain ⟨Q, hQ⟩ : ∃ Q, Q = all.getD (gc / 2).toNat [] := ⟨_, rfl⟩
            rw [← hP] at r1 nP hpc okA hst2
            rw [← hQ] at r2 nQ hqc okB hst2
            have PN := okA.n
            have QN := okB.n
            have HA : Hid (∀ x ∈ P, CutOk ((f : Int) + i) x) := Lib.hid (fun x hx => (okA.ok x hx).mono (by omega))
            have HB : Hid (∀ x ∈ Q, CutOk ((f : Int) + i) x) := Lib.hid (fun x hx => (okB.ok x hx).mono (by omega))
            have HST := Lib.hid hst2
            have k1 : 0 ≤ ga / 2 := by omega
            have k2 : ga / 2 < all.length := by omega
            have k3 : 0 ≤ gc / 2 := by omega
            have k4 : gc / 2 < all.length := by omega
            have hal : all.length ≤ 1000 := by omega
            have OKL := Lib.hid okl
            have hsz := hE.size
            obtain ⟨w2, rfl⟩ : ∃ x : World, x = wr := ⟨_, rfl⟩
            have gE : Ext w2 (w2.alloc (.cells #[.int .i64 ga, .int .i64 gc] 82)) := (Ext.refl _).alloc _
            have gx := Blk.at w2 [.int .i64 ga, .int .i64 gc] 82 rfl
            have z0 := gx.cell (i := 0) rfl
            have z1 := gx.cell (i := 1) rfl
            clear hg3 ok okA okB hst2 hall hP hQ hv okl hvc
            go_wp2_with fail
            obtain ⟨w3, hw3⟩ : ∃ x : World, x = w2.alloc (.cells #[.int .i64 ga, .int .i64 gc] 82) := ⟨_, rfl⟩
            rw [← hw3] at gE gx z0 z1
            rw [← hw3]
            have s1 := (ecell gE).1 g (ga / 2).toNat hgl3
            have s2 := (ecell gE).1 g (gc / 2).toNat hgl3
            rw [r1] at s1
            rw [r2] at s2
            have zl := gx.lt
            have ls3 := gE.size
            have l2 : g < w3.heap.size := by omega
            clear q1 q2 r1 r2 hw3
            go_region_held3 ((fun w' => (∀ b o, b < w3.heap.size → w'.cell? ⟨b, o, none⟩ = w3.cell? ⟨b, o, none⟩) ∧ Ext w3 w')) ((first | assumption | (with_reducible exact held_mk (Ext.drew w3)) | (with_reducible exact held_mk (((Ext.refl w3).alloc _).drew')) | (with_reducible exact held_mk ((Ext.drew w3).alloc _)))) ((go_simp; go_at_call 65; refine (joinCuts_c pa qa pc qc P Q pF qF ((f : Int) + i) _ (Nst.ext goodInts nP (gE.trans (Ext.drew w3))) (Nst.ext goodInts nQ (gE.trans (Ext.drew w3))) PN QN HA.out HB.out).mono ?_; rintro e w4 ⟨v4, F4, rfl, hN4, hF4, hE4⟩; have hK1 := held_mk ((Ext.drew w3).trans hE4)))
            have hE4' := held_ext hK1
            have E24 : Ext w2 w4 := gE.trans hE4'
            obtain ⟨L, hL⟩ : ∃ L, L = joinV P Q := ⟨_, rfl⟩
            rw [← hL] at hN4
            have hL8 : L.length ≤ 8 := by rw [hL]; exact (joinV_ok HA.out HB.out).2
            have HST2 : Hid ((c.gates.take (i + 1)).foldl cutStep (cuts0 c.first) = all ++ [L ++ [[(f : Int) + i]]]) := Lib.hid (by rw [HST.out, hL, OKL.out])
            obtain ⟨a4, c4, rfl, _⟩ := hN4.sl
            have HF4 : Hid (∀ q ∈ F4, w2.heap.size ≤ q) := Lib.hid (fun q hq => by have := hF4 q hq; simp at this; omega)
            have y4 := y.ext E24
            clear hK1 hE4 hL hF4 s1 s2 z0 z1 zl
            go_wp2_with fail
            refine (firstGate_c w.heap.size c ⟨an, cn, some ⟨gb, go, none⟩, cg, ao, co⟩ _ y4 (by omega) (by omega) (by omega)).mono ?_
            rintro e w1' ⟨rfl, nd2, rfl⟩
            rw [hf]
            obtain ⟨w5, hw5⟩ : ∃ x : World, x = w4.drewN nd2 := ⟨_, rfl⟩
            have eD5 := Ext.drewN w4 nd2
            rw [← hw5] at eD5
            rw [← hw5]
            have E25 := E24.trans eD5
            have hN5 := Nst.ext goodInts hN4 eD5
            have y5 := y4.ext eD5
            obtain ⟨cells, G, h1, h2, rfl, h4⟩ := hN
            obtain ⟨cells7, G7, h17, h27, rfl, h47⟩ := hN5
            have hob := fun k hk => HF.out k (List.mem_append_left _ (mem_fp.2 hk))
            have hob7 := fun k hk => HF4.out k (List.mem_append_left _ (mem_fp.2 hk))
            have hs5 := E25.size
            clear hw5 hN4 y4
            go_wp2_with (first
              | (have hguard := E8; at_builtin; refine wpList_app tyIII (ownsRow_ext h1 (E8.alloc _)) (rowNew w8 [.slice a8 (L.length + 1) c8] _ rfl) rfl (by simp [Value.oneCell']) (by omega) (Nat.zero_le _) rfl rfl rfl rfl ?_; intro v9 w9 o9 g9 m9; obtain ⟨a9, c9, rfl, _⟩ := ownsRow_row o9)
              | (at_builtin; refine wpList_app tyII (ownsRow_ext h17 (by (repeat (first | with_reducible assumption | with_reducible exact Ext.refl _ | with_reducible refine Ext.drew' ?_ | with_reducible refine Ext.drewN' ?_ _ | with_reducible refine Ext.alloc ?_ _ | (with_reducible refine Ext.setNew ?_ (by first | exact Nat.le_refl _ | (simp; done) | (simp; omega) | omega) _))))) (rowNew _ [.slice (some ⟨w5.heap.size, 0, none⟩) 1 1] _ (B := w5.heap.size + 1) (by simp)) rfl (by simp [Value.oneCell']) (by omega) (Nat.zero_le _) rfl rfl rfl rfl ?_; intro v8 w8 o8 g8 m8; obtain ⟨a8, c8, rfl, _⟩ := ownsRow_row o8; have E8 : Ext w2 w8 := ext_grown (E25.trans (by (repeat (first | with_reducible assumption | with_reducible exact Ext.refl _ | with_reducible refine Ext.drew' ?_ | with_reducible refine Ext.drewN' ?_ _ | with_reducible refine Ext.alloc ?_ _ | (with_reducible refine Ext.setNew ?_ (by first | exact Nat.le_refl _ | (simp; done) | (simp; omega) | omega) _))))) g8 hob7))
            have L5 := lit_ii w5 ((f : Int) + i) rfl
            have p5 : PInts ((w5.alloc (.cells #[.int .i64 ((f : Int) + i)] 3)).alloc (.cells #[.slice (some ⟨w5.heap.size, 0, none⟩) 1 1] 23)) [.slice (some ⟨w5.heap.size, 0, none⟩) 1 1] [(f : Int) + i] [w5.heap.size] :=
              Blk.pints (xs := [(f : Int) + i]) (t := 3) ((Blk.at w5 [.int .i64 ((f : Int) + i)] 3 rfl).ext ((Ext.refl _).alloc _)) (by simp [maxLen])
            have SN1 := nst_snoc goodInts h17 h27 h47 (by (repeat (first | with_reducible assumption | with_reducible exact Ext.refl _ | with_reducible refine Ext.drew' ?_ | with_reducible refine Ext.drewN' ?_ _ | with_reducible refine Ext.alloc ?_ _ | (with_reducible refine Ext.setNew ?_ (by first | exact Nat.le_refl _ | (simp; done) | (simp; omega) | omega) _)))) p5 (fun q hq => by simp at hq; omega) g8 m8 rfl o8
            have SN2 := nst_snoc goodII h1 h2 h4 (E8.alloc _) ⟨_, rfl, Nst.ext goodInts SN1.1 ((Ext.refl _).alloc _)⟩ (SN1.2 _ HF4.out (by omega)) g9 m9 rfl o9
            have hyl := y.lt
            go_roundw
            case rel =>
              refine ⟨i + 1, _, by omega, by go_num, by rw [HST2.out]; exact SN2.1, Lib.hid (SN2.2 _ HF.out (by omega)), (y.ext (E8.alloc _)).grn g9 (fun e => by have := hob _ e; omega), ext_grown (hE.trans (E8.alloc _)) g9 (fun q hq => by have := hob q hq; omega)⟩
            case measure => simp [intOf]; omega
          · have hig : i = c.gates.length := by omega
            subst hig
            rw [← HU.out] at hN
            go_wp2_with fail
            go_ret
            exact ⟨_, _, rfl, hN, fun q hq => by have := HF.out q hq; omega, hE⟩
end Go.Proofs.Ytpomcoegpjehgaa
