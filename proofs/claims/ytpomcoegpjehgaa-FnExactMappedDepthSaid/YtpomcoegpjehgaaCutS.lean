/- Contract: the reference's cuts of all variables. -/
import Derived.Test.YtpomcoegpjehgaaHasS
import Derived.Test.YtpomcoegpjehgaaCutT
import Derived.Test.YtpomcoegpjehgaaSpec1
import Derived.Test.YtpomcoegpjehgaaRegion
import Derived.Outline
namespace Go.Proofs.Ytpomcoegpjehgaa
open Go.RowKit
set_option maxRecDepth 100000
set_option linter.unusedVariables false
set_option linter.unusedSimpArgs false
theorem cuts0_succ (v : Nat) (hv : 1 ≤ v) : cuts0 ((v : Int) + 1) = cuts0 v ++ [[[(v : Int)]]] := by
  unfold cuts0
  have e : ((v : Int) + 1 - 1).toNat = ((v : Int) - 1).toNat + 1 := by omega
  rw [e, List.range_succ, List.map_append, List.cons_append]
  simp; omega
theorem cuts0_one : cuts0 1 = [[[]]] := rfl
theorem take_snocD {α : Type} (xs : List α) (k : Nat) (d : α) (h : k < xs.length) : xs.take (k + 1) = xs.take k ++ [xs.getD k d] := by
  rw [List.take_add_one, List.getD_eq_getElem?_getD, List.getElem?_eq_getElem h]; rfl
theorem foldl_snocD {α β : Type} (f : β → α → β) (xs : List α) (k : Nat) (d : α) (b : β) (h : k < xs.length) : (xs.take (k + 1)).foldl f b = f ((xs.take k).foldl f b) (xs.getD k d) := by
  rw [take_snocD xs k d h, List.foldl_append]; rfl
/-- All cuts after k gates: well made. -/
theorem cutsK_ok {c : Circ} (V : c.Valid) : ∀ k, k ≤ c.gates.length → CutsOk c.first ((c.gates.take k).foldl cutStep (cuts0 c.first)) ∧ (((c.gates.take k).foldl cutStep (cuts0 c.first)).length : Int) = c.first + k := by
  have hf : 1 ≤ c.first := by have := V.i0; unfold Circ.first; omega
  have hl0 := cuts0_length hf
  intro k
  induction k with
  | zero => intro _; exact ⟨cuts0_ok hf, by simpa using hl0⟩
  | succ k ih =>
    intro hk
    obtain ⟨h1, h2⟩ := ih (by omega)
    rw [foldl_snocD _ _ k (0, 0) _ (by omega)]
    have g := V.gs k (by omega)
    simp only [litB, Bool.and_eq_true, decide_eq_true_eq] at g
    refine ⟨cutStep_ok hf (by omega) h1 g.1.1 (by omega) g.2.1 (by omega), ?_⟩
    rw [cutStep_length]; omega
theorem joinV_take (P Q : List (List Int)) : joinV P Q = (P.take P.length).foldl (fun o x => joinRow x Q o) [] := by rw [joinV_eq, List.take_length]
theorem joinRow_take (x : List Int) (Q L : List (List Int)) : joinRow x Q L = (Q.take Q.length).foldl (fun o y => joinStep o (mrg x y)) L := by rw [List.take_length]; unfold joinRow; rw [List.foldl_map]
theorem joinStep_no1 {L : List (List Int)} {x : List Int} (h : 3 < x.length) : joinStep L x = L := by unfold joinStep; rw [if_pos (.inl h)]
theorem joinStep_no2 {L : List (List Int)} {x : List Int} (h : L.length = 8) : joinStep L x = L := by unfold joinStep; rw [if_pos (.inr h)]
theorem joinStep_no3 {L : List (List Int)} {x : List Int} (h : x ∈ L) : joinStep L x = L := by unfold joinStep; rw [if_pos h, ite_self]
theorem joinStep_yes {L : List (List Int)} {x : List Int} (h1 : ¬ 3 < x.length) (h2 : ¬ L.length = 8) (h : x ∉ L) : joinStep L x = L ++ [x] := by unfold joinStep; rw [if_neg (by omega), if_neg h]
set_option maxHeartbeats 4000000 in
theorem l5Cuts_c (c : Circ) (p : Where3) (w : World) (hc : CircAt w c p) (V : c.Valid) :
    Calls Try.prog 66 #[.agg #[.int .i64 c.inputs, .slice p.an c.next.length p.cn, .slice p.ag c.gates.length p.cg, .slice p.ao c.outs.length p.co]] w (GiveIII w (cutsN c)) := by
  have hi0 := V.i0
  have hi4 := V.i4
  have ln := V.ln
  have lg := V.lg
  have lo := V.lo
  obtain ⟨an, cn, ag, cg, ao, co⟩ := p
  dsimp only
  obtain ⟨f, hf⟩ : ∃ f : Nat, c.first = (f : Int) := ⟨c.first.toNat, by unfold Circ.first; omega⟩
  have hf1 : 1 ≤ f ∧ f ≤ 8 := by unfold Circ.first at hf; omega
  obtain ⟨hf1, hf2⟩ := hf1
  have HFF := Lib.hid hf
  have HCK := Lib.hid (cutsK_ok V)
  have HU : Hid (cutsN c = (c.gates.take c.gates.length).foldl cutStep (cuts0 c.first)) := Lib.hid (by rw [List.take_length]; rfl)
  have HG := Lib.hid V.gs
  obtain ⟨U, hUU⟩ : ∃ U, U = cutsN c := ⟨_, rfl⟩
  rw [← hUU] at HU ⊢
  have y := CircBox.made w c ⟨an, cn, ag, cg, ao, co⟩ 26
  have E0 : Ext w (w.alloc (.cells #[.int .i64 c.inputs, .slice an c.next.length cn, .slice ag c.gates.length cg, .slice ao c.outs.length co] 26)) := (Ext.refl w).alloc _
  clear hUU V
  go_enter Try.func66, Try.ntmps66
  go_wp2_with fail
  go_loopw [3, 4] (fun u3 u4 wr => ∃ (v : Nat) (F : List Nat), 1 ≤ v ∧ v ≤ f ∧ u4 = .int .i64 v ∧ NstII wr u3 (cuts0 v) F ∧ Hid (∀ g ∈ F, w.heap.size + 1 ≤ g) ∧ CircBox wr w.heap.size c ⟨an, cn, ag, cg, ao, co⟩ ∧ Ext w wr) (fun _ v _ => f - (intOf v).toNat)
  case atStart =>
    refine ⟨1, _, Nat.le_refl _, hf1, rfl, lit_e _ (by simp), Lib.hid (fun g hg => ?_), y.ext (by (repeat (first | with_reducible assumption | with_reducible exact Ext.refl _ | with_reducible refine Ext.drew' ?_ | with_reducible refine Ext.drewN' ?_ _ | with_reducible refine Ext.alloc ?_ _ | (with_reducible refine Ext.setNew ?_ (by first | exact Nat.le_refl _ | (simp; done) | (simp; omega) | omega) _)))), by (repeat (first | with_reducible assumption | with_reducible exact Ext.refl _ | with_reducible refine Ext.drew' ?_ | with_reducible refine Ext.drewN' ?_ _ | with_reducible refine Ext.alloc ?_ _ | (with_reducible refine Ext.setNew ?_ (by first | exact Nat.le_refl _ | (simp; done) | (simp; omega) | omega) _)))⟩
    simp at hg; omega
  case round =>
    obtain ⟨v, F, hv1, hv2, rfl, hN, HF, y, hE⟩ := hrel
    (obtain ⟨lb, b0, b1, b2, b3⟩ := (id y))
    go_wp2_with fail
    refine (l1First_c c ⟨an, cn, ag, cg, ao, co⟩ _ (by omega) (by omega) (by omega)).mono ?_
    rintro e w1 ⟨rfl, hE1⟩
    rw [hf]
    by_cases hlt : v < f
    · obtain ⟨cells, G, h1, h2, rfl, h4⟩ := hN
      have hl : (cuts0 v).length = v := by have := cuts0_length (f := (v : Int)) (by omega); omega
      have hob := fun k hk => HF.out k (List.mem_append_left _ (mem_fp.2 hk))
      have hs1 := hE1.size
      have hss := hE.size
      rw [hl] at h1
      obtain ⟨a3, c3, rfl, _⟩ := ownsRow_row h1
      have L2 := lit_ii w1 v rfl
      go_wp2_with (at_builtin; refine wpList_app tyIII (ownsRow_ext h1 (by (repeat (first | with_reducible assumption | with_reducible exact Ext.refl _ | with_reducible refine Ext.drew' ?_ | with_reducible refine Ext.drewN' ?_ _ | with_reducible refine Ext.alloc ?_ _ | (with_reducible refine Ext.setNew ?_ (by first | exact Nat.le_refl _ | (simp; done) | (simp; omega) | omega) _))))) (rowNew _ [.slice (some ⟨w1.heap.size + 1, 0, none⟩) 1 1] _ (B := w1.heap.size + 1 + 1) (by simp)) rfl (by simp [Value.oneCell']) (by omega) (Nat.zero_le _) rfl rfl rfl rfl ?_; intro v9 w9 o9 g9 m9; obtain ⟨a9, c9, rfl, _⟩ := ownsRow_row o9)
      have SN := nst_snoc goodII h1 h2 h4 (by (repeat (first | with_reducible assumption | with_reducible exact Ext.refl _ | with_reducible refine Ext.drew' ?_ | with_reducible refine Ext.drewN' ?_ _ | with_reducible refine Ext.alloc ?_ _ | (with_reducible refine Ext.setNew ?_ (by first | exact Nat.le_refl _ | (simp; done) | (simp; omega) | omega) _)))) ⟨_, rfl, L2.ext goodInts ((Ext.refl _).alloc _)⟩ (fun g hg => by simp at hg; omega) g9 m9 hl.symm o9
      go_roundw
      case rel =>
        refine ⟨v + 1, _, by omega, by omega, by go_num, ?_, Lib.hid (SN.2 _ HF.out (by omega)), ?_, ?_⟩
        · have := cuts0_succ v hv1
          rw [show ((v + 1 : Nat) : Int) = (v : Int) + 1 from by omega, this]
          exact SN.1
        · exact (y.ext (by (repeat (first | with_reducible assumption | with_reducible exact Ext.refl _ | with_reducible refine Ext.drew' ?_ | with_reducible refine Ext.drewN' ?_ _ | with_reducible refine Ext.alloc ?_ _ | (with_reducible refine Ext.setNew ?_ (by first | exact Nat.le_refl _ | (simp; done) | (simp; omega) | omega) _))))).grn g9 (fun e => by have := hob _ e; omega)
        · exact ext_grown (hE.trans (by (repeat (first | with_reducible assumption | with_reducible exact Ext.refl _ | with_reducible refine Ext.drew' ?_ | with_reducible refine Ext.drewN' ?_ _ | with_reducible refine Ext.alloc ?_ _ | (with_reducible refine Ext.setNew ?_ (by first | exact Nat.le_refl _ | (simp; done) | (simp; omega) | omega) _))))) g9 (fun q hq => by have := hob q hq; omega)
      case measure => simp [intOf]; omega
    · have hvf : f = v := by omega
      subst hvf
      have hN1 := Nst.ext goodII hN hE1
      have E1 := hE.trans hE1
      have y1 := y.ext hE1
      clear b0 b1 b2 b3 lb y hN
      go_wp2_with fail
      rw [← hf] at hN1
      go_loopw [3, 5] (fun u3 u5 wr => ∃ (i : Nat) (F : List Nat), i ≤ c.gates.length ∧ u5 = .int .i64 i ∧ NstII wr u3 ((c.gates.take i).foldl cutStep (cuts0 c.first)) F ∧ Hid (∀ g ∈ F, w.heap.size + 1 ≤ g) ∧ CircBox wr w.heap.size c ⟨an, cn, ag, cg, ao, co⟩ ∧ Ext w wr) (fun _ v _ => c.gates.length - (intOf v).toNat)
      case atStart => exact ⟨0, F, Nat.zero_le _, rfl, hN1, HF, y1, E1⟩
      case round =>
        clear hN1 E1 y1 HF
        obtain ⟨i, F, hi, rfl, hN, HF, y, hE⟩ := hrel
        (obtain ⟨lb, b0, b1, b2, b3⟩ := (id y))
        dsimp only at b1 b2 b3
        by_cases hlt : i < c.gates.length
        · obtain ⟨gb, go, hag, hgl, hg1, hg2⟩ := (hc.ext hE).gs.get (by omega)
          dsimp only at hag
          subst hag
          have q1 := hg1 i hlt
          have q2 := hg2 i hlt
          have hv := HG.out i hlt
          obtain ⟨ok, okl⟩ := HCK.out i hi
          have hst := foldl_snocD cutStep c.gates i (0, 0) (cuts0 c.first) hlt
          obtain ⟨all, hall⟩ : ∃ all, all = (c.gates.take i).foldl cutStep (cuts0 c.first) := ⟨_, rfl⟩
          rw [← hall] at hst ok okl hN
          obtain ⟨ga, hga⟩ : ∃ x, x = (c.gates.getD i (0, 0)).1 := ⟨_, rfl⟩
          obtain ⟨gc, hgc⟩ : ∃ x, x = (c.gates.getD i (0, 0)).2 := ⟨_, rfl⟩
          rw [← hga] at q1 hv
          rw [← hgc] at q2 hv
          have hst2 : (c.gates.take (i + 1)).foldl cutStep (cuts0 c.first) = all ++ [joinV (all.getD (ga / 2).toNat []) (all.getD (gc / 2).toNat []) ++ [[(all.length : Int)]]] := by rw [hst, hga, hgc]; rfl
          clear hg1 hg2 hga hgc hst
          obtain ⟨va1, va2⟩ := litB_ok hv.1
          obtain ⟨vb1, vb2⟩ := litB_ok hv.2
          rw [hf] at okl va2 vb2
          have hta : IntKind.i64.wrap (ga.tdiv 2) = ga / 2 := by rw [Int.tdiv_eq_ediv_of_nonneg va1]; exact IntWalk.i64_in _ (by omega)
          have htb : IntKind.i64.wrap (gc.tdiv 2) = gc / 2 := by rw [Int.tdiv_eq_ediv_of_nonneg vb1]; exact IntWalk.i64_in _ (by omega)
          have okA := ok (ga / 2).toNat (by omega)
          have okB := ok (gc / 2).toNat (by omega)
          obtain ⟨va, vc, rfl, hvc, _⟩ := hN.sl
          obtain ⟨g, rfl, hgl3, hg3⟩ := NstII.get hN (by omega)
          obtain ⟨pa, pc, pF, r1, nP, hpc, _⟩ := hg3 (ga / 2).toNat (by omega)
          obtain ⟨qa, qc, qF, r2, nQ, hqc, _⟩ := hg3 (gc / 2).toNat (by omega)
          obtain ⟨P, hP⟩ : ∃ P, P = all.getD (ga / 2).toNat [] := ⟨_, rfl⟩
          obtain ⟨Q, hQ⟩ : ∃ Q, Q = all.getD (gc / 2).toNat [] := ⟨_, rfl⟩
          rw [← hP] at r1 nP hpc okA hst2
          rw [← hQ] at r2 nQ hqc okB hst2
          have PN := okA.n
          have QN := okB.n
          have HA : Hid (∀ x ∈ P, CutOk ((f : Int) + i) x) := Lib.hid (fun x hx => (okA.ok x hx).mono (by omega))
          have HB : Hid (∀ x ∈ Q, CutOk ((f : Int) + i) x) := Lib.hid (fun x hx => (okB.ok x hx).mono (by omega))
          have HST := Lib.hid hst2
          have HAL := Lib.hid hall
          have k1 : 0 ≤ ga / 2 := by omega
          have k2 : ga / 2 < all.length := by omega
          have k3 : 0 ≤ gc / 2 := by omega
          have k4 : gc / 2 < all.length := by omega
          have OKL := Lib.hid okl
          have hsz := hE.size
          obtain ⟨w2, rfl⟩ : ∃ x : World, x = wr := ⟨_, rfl⟩
          clear hg3 ok okA okB hst2 hall hP hQ hv okl hvc
          go_wp2_with fail
          refine (l1First_c c ⟨an, cn, some ⟨gb, go, none⟩, cg, ao, co⟩ _ (by omega) (by omega) (by omega)).mono ?_
          rintro e w3 ⟨rfl, hE3⟩
          rw [hf]
          have hE30 := (Ext.refl w2).trans hE3
          have t1 := (ecell hE3).1 gb (go + i * 2) hgl
          have t2 := (ecell hE3).1 gb (go + i * 2 + 1) hgl
          rw [q1] at t1
          rw [q2] at t2
          have t3 := (ecell hE3).1 g (ga / 2).toNat hgl3
          have t4 := (ecell hE3).1 g (gc / 2).toNat hgl3
          rw [r1] at t3
          rw [r2] at t4
          have t5 := (ecell hE3).1 w.heap.size 2 lb
          rw [b2] at t5
          have ls := hE3.size
          have l1 : gb < w3.heap.size := by omega
          have l2 : g < w3.heap.size := by omega
          have l3 : w.heap.size < w3.heap.size := by omega
          clear b0 b1 b2 b3 q1 q2 r1 r2
          go_wp2_with fail
          go_loopw [7, 10] (fun u7 u10 wr => ∃ (a : Nat) (L : List (List Int)) (F7 : List Nat), a ≤ P.length ∧ u10 = .int .i64 a ∧ NstI wr u7 L F7 ∧ Hid (∀ g ∈ F7, w2.heap.size ≤ g) ∧ Hid (L = (P.take a).foldl (fun o x => joinRow x Q o) []) ∧ L.length ≤ 8 ∧ Hid (∀ z ∈ L, CutOk ((f : Int) + i) z) ∧ Ext w2 wr) (fun _ v _ => P.length - (intOf v).toNat)
          case atStart => exact ⟨0, [], [w3.heap.size], Nat.zero_le _, rfl, Nst.made0 w3 rfl, Lib.hid (fun q hq => by simp at hq; omega), Lib.hid rfl, by simp, Lib.hid (fun z hz => by simp at hz), by (repeat (first | with_reducible assumption | with_reducible exact Ext.refl _ | with_reducible refine Ext.drew' ?_ | with_reducible refine Ext.drewN' ?_ _ | with_reducible refine Ext.alloc ?_ _ | (with_reducible refine Ext.setNew ?_ (by first | exact Nat.le_refl _ | (simp; done) | (simp; omega) | omega) _)))⟩
          case round =>
            clear t1 t2 t3 t4 t5
            obtain ⟨a, L, F7, ha, rfl, nL, HF7, HL, hL8, HLo, hE4⟩ := hrel
            by_cases hlt2 : a < P.length
            · obtain ⟨w5, rfl⟩ : ∃ x : World, x = wr := ⟨_, rfl⟩
              go_wp2_with fail
              go_loopw [7, 11] (fun u7 u11 wr => ∃ (b : Nat) (L2 : List (List Int)) (F8 : List Nat), b ≤ Q.length ∧ u11 = .int .i64 b ∧ NstI wr u7 L2 F8 ∧ Hid (∀ g ∈ F8, w2.heap.size ≤ g) ∧ Hid (L2 = (Q.take b).foldl (fun o y => joinStep o (mrg (P.getD a []) y)) L) ∧ L2.length ≤ 8 ∧ Hid (∀ z ∈ L2, CutOk ((f : Int) + i) z) ∧ Ext w2 wr) (fun _ v _ => Q.length - (intOf v).toNat)
              case atStart => exact ⟨0, L, F7, Nat.zero_le _, rfl, nL, HF7, Lib.hid rfl, hL8, HLo, hE4⟩
              case round =>
                obtain ⟨b, L2, F8, hb, rfl, nL2, HF8, HL2, hL28, HLo2, hE5⟩ := hrel
                have nP5 := Nst.ext goodInts nP hE5
                have nQ5 := Nst.ext goodInts nQ hE5
                obtain ⟨la, lc, rfl, hlc, _⟩ := nL2.sl
                obtain ⟨w6, rfl⟩ : ∃ x : World, x = wr := ⟨_, rfl⟩
                by_cases hlt3 : b < Q.length
                · obtain ⟨g1, rfl, hg1l, hg1⟩ := NstI.get nP5 (by omega)
                  obtain ⟨g2, rfl, hg2l, hg2⟩ := NstI.get nQ5 (by omega)
                  obtain ⟨a1, d1, x1, hA1⟩ := hg1 a hlt2
                  obtain ⟨a2, d2, x2, hA2⟩ := hg2 b hlt3
                  have okx := HA.out _ (getN_mem (d := []) hlt2)
                  have oky := HB.out _ (getN_mem (d := []) hlt3)
                  have hs := foldl_snocD (fun o y => joinStep o (mrg (P.getD a []) y)) Q b [] L hlt3
                  rw [← HL2.out] at hs
                  obtain ⟨x, hxx⟩ : ∃ x, x = P.getD a [] := ⟨_, rfl⟩
                  obtain ⟨yv, hyy⟩ : ∃ x, x = Q.getD b [] := ⟨_, rfl⟩
                  rw [← hxx] at x1 hA1 okx hs
                  rw [← hyy] at x2 hA2 oky hs
                  have lx := okx.len
                  have ly := oky.len
                  have HX := Lib.hid hxx
                  have OKS := Lib.hid (joinStep_ok HLo2.out okx oky)
                  have hml := mrg_len x yv
                  obtain ⟨cut, hcut⟩ : ∃ z, z = mrg x yv := ⟨_, rfl⟩
                  have HS := Lib.hid hs
                  rw [← hcut] at HS OKS hml
                  have HCUT := Lib.hid hcut
                  obtain ⟨hml1, hml2⟩ := hml
                  have hsz6 := hE5.size
                  clear hg1 hg2 hxx hyy okx oky hs hcut
                  go_wp2_with fail
                  go_region_held3 ((fun w' => (∀ b o, b < w6.heap.size → w'.cell? ⟨b, o, none⟩ = w6.cell? ⟨b, o, none⟩) ∧ Ext w6 w')) ((first | assumption | (with_reducible exact held_mk (Ext.drew w6)) | (with_reducible exact held_mk (((Ext.refl w6).alloc _).drew')) | (with_reducible exact held_mk ((Ext.drew w6).alloc _)))) ((go_simp; go_at_call 105; refine (l5Merge_c a1 a2 d1 d2 x yv _ (hA1.ext (Ext.drew w6)) (hA2.ext (Ext.drew w6)) (by omega) (by omega)).mono ?_; rw [← HCUT.out]; rintro e w7 ⟨v7, rfl, hO7, hE7⟩; obtain ⟨a7, c7, rfl, hI7, _⟩ := hO7.opened; have hK1 := held_mk ((Ext.drew w6).trans hE7)))
                  have hE8 := held_ext hK1
                  have nL7 := Nst.ext goodInts nL2 hE8
                  have HLE : Hid (∀ z ∈ L2, z.length ≤ 1000) := Lib.hid (fun z hz => by have := (HLo2.out z hz).len; omega)
                  have hsz7 := hE8.size
                  have hO7' := hO7
                  have HO7 := Lib.hid hO7
                  clear hO7 hO7'
                  by_cases c1 : 3 < cut.length
                  · have d1 : decide ((cut.length : Int) ≤ 3) = false := by simp; omega
                    rw [joinStep_no1 c1] at HS OKS
                    go_wp2_with fail
                    go_roundw
                    case rel => exact ⟨b + 1, L2, F8, by omega, by go_num, nL7, HF8, Lib.hid (by rw [← HX.out]; exact HS.out.symm), hL28, HLo2, hE5.trans hE8⟩
                    case measure => simp [intOf]; omega
                  · have d1 : decide ((cut.length : Int) ≤ 3) = true := by simp; omega
                    by_cases c2 : L2.length = 8
                    · have d2 : decide ((L2.length : Int) < 8) = false := by simp; omega
                      rw [joinStep_no2 c2] at HS OKS
                      clear c2
                      go_wp2_with fail
                      go_roundw
                      case rel => exact ⟨b + 1, L2, F8, by omega, by go_num, nL7, HF8, Lib.hid (by rw [← HX.out]; exact HS.out.symm), hL28, HLo2, hE5.trans hE8⟩
                      case measure => simp [intOf]; omega
                    · have d2 : decide ((L2.length : Int) < 8) = true := by simp; omega
                      have hcall := l5Has_c la _ lc c7 L2 F8 cut w7 nL7 hI7 (by omega) (by omega) HLE.out
                      by_cases c3 : cut ∈ L2
                      · rw [joinStep_no3 c3] at HS OKS
                        rw [decide_eq_true c3] at hcall
                        clear c3
                        go_wp2_with fail
                        refine hcall.mono ?_
                        rintro e w8 ⟨rfl, hE9⟩
                        go_wp2_with fail
                        go_roundw
                        case rel => exact ⟨b + 1, L2, F8, by omega, by go_num, Nst.ext goodInts nL7 hE9, HF8, Lib.hid (by rw [← HX.out]; exact HS.out.symm), hL28, HLo2, (hE5.trans hE8).trans hE9⟩
                        case measure => simp [intOf]; omega
                      · rw [joinStep_yes c1 c2 c3] at HS OKS
                        rw [decide_eq_false c3] at hcall
                        clear c3
                        go_wp2_with fail
                        refine hcall.mono ?_
                        rintro e w8 ⟨rfl, hE9⟩
                        have hO8 := HO7.out.ext hE9
                        obtain ⟨cells, G, h1, h2, rfl, h4⟩ := nL2
                        have hE10 := hE8.trans hE9
                        have hob := fun k hk => HF8.out k (List.mem_append_left _ (mem_fp.2 hk))
                        have hsz8 := hE9.size
                        obtain ⟨hp1, hp2⟩ := PInts.of hO8
                        have HP1 := Lib.hid hp1
                        have HP2 := Lib.hid hp2
                        clear hp1 hp2 hO8
                        go_wp2_with (at_builtin; refine wpList_app tyII (ownsRow_ext h1 (hE10.alloc _)) (rowNew w8 [.slice _ cut.length c7] _ rfl) rfl (by simp [Value.oneCell']) (by omega) (Nat.zero_le _) rfl rfl rfl rfl ?_; intro v9 w9 o9 g9 m9; obtain ⟨a9, c9, rfl, _⟩ := ownsRow_row o9)
                        have SN := nst_snoc goodInts h1 h2 h4 (hE10.alloc _) (goodInts.ext HP1.out ((Ext.refl _).alloc _)) (fun q hq => by have := HP2.out q hq; simp at this; omega) g9 m9 rfl o9
                        go_roundw
                        case rel => exact ⟨b + 1, L2 ++ [cut], _, by omega, by go_num, SN.1, Lib.hid (SN.2 _ HF8.out (by omega)), Lib.hid (by rw [← HX.out]; exact HS.out.symm), by simp; omega, OKS, ext_grown ((hE5.trans hE10).alloc _) g9 hob⟩
                        case measure => simp [intOf]; omega
                · have hbq : b = Q.length := by omega
                  subst hbq
                  have hs := foldl_snocD (fun o x => joinRow x Q o) P a [] [] hlt2
                  rw [← HL.out, joinRow_take, ← HL2.out] at hs
                  have HS := Lib.hid hs
                  clear hs
                  go_wp2_with fail
                  go_roundw
                  case rel => exact ⟨a + 1, L2, F8, by omega, by go_num, nL2, HF8, Lib.hid HS.out.symm, hL28, HLo2, hE5⟩
                  case measure => simp [intOf]; omega
            · have hap : a = P.length := by omega
              subst hap
              rw [← joinV_take] at HL
              have HST2 : Hid ((c.gates.take (i + 1)).foldl cutStep (cuts0 c.first) = all ++ [L ++ [[(f : Int) + i]]]) := Lib.hid (by rw [HST.out, HL.out, OKL.out])
              obtain ⟨cells, G, h1, h2, rfl, h4⟩ := hN
              obtain ⟨cells7, G7, h17, h27, rfl, h47⟩ := nL
              obtain ⟨w5, rfl⟩ : ∃ x : World, x = wr := ⟨_, rfl⟩
              have hob := fun k hk => HF.out k (List.mem_append_left _ (mem_fp.2 hk))
              have hob7 := fun k hk => HF7.out k (List.mem_append_left _ (mem_fp.2 hk))
              have hs5 := hE4.size
              have hal : all.length ≤ 1000 := by have := OKL.out; omega
              go_wp2_with (first
                | (have hguard := E8; at_builtin; refine wpList_app tyIII (ownsRow_ext h1 (E8.alloc _)) (rowNew w8 [.slice a8 (L.length + 1) c8] _ rfl) rfl (by simp [Value.oneCell']) (by omega) (Nat.zero_le _) rfl rfl rfl rfl ?_; intro v9 w9 o9 g9 m9; obtain ⟨a9, c9, rfl, _⟩ := ownsRow_row o9)
                | (at_builtin; refine wpList_app tyII (ownsRow_ext h17 (by (repeat (first | with_reducible assumption | with_reducible exact Ext.refl _ | with_reducible refine Ext.drew' ?_ | with_reducible refine Ext.drewN' ?_ _ | with_reducible refine Ext.alloc ?_ _ | (with_reducible refine Ext.setNew ?_ (by first | exact Nat.le_refl _ | (simp; done) | (simp; omega) | omega) _))))) (rowNew _ [.slice (some ⟨w5.heap.size, 0, none⟩) 1 1] _ (B := w5.heap.size + 1) (by simp)) rfl (by simp [Value.oneCell']) (by omega) (Nat.zero_le _) rfl rfl rfl rfl ?_; intro v8 w8 o8 g8 m8; obtain ⟨a8, c8, rfl, _⟩ := ownsRow_row o8; have E8 : Ext w2 w8 := ext_grown (hE4.trans (by (repeat (first | with_reducible assumption | with_reducible exact Ext.refl _ | with_reducible refine Ext.drew' ?_ | with_reducible refine Ext.drewN' ?_ _ | with_reducible refine Ext.alloc ?_ _ | (with_reducible refine Ext.setNew ?_ (by first | exact Nat.le_refl _ | (simp; done) | (simp; omega) | omega) _))))) g8 hob7))
              have L5 := lit_ii w5 ((f : Int) + i) rfl
              have p5 : PInts ((w5.alloc (.cells #[.int .i64 ((f : Int) + i)] 3)).alloc (.cells #[.slice (some ⟨w5.heap.size, 0, none⟩) 1 1] 23)) [.slice (some ⟨w5.heap.size, 0, none⟩) 1 1] [(f : Int) + i] [w5.heap.size] :=
                Blk.pints (xs := [(f : Int) + i]) (t := 3) ((Blk.at w5 [.int .i64 ((f : Int) + i)] 3 rfl).ext ((Ext.refl _).alloc _)) (by simp [maxLen])
              have SN1 := nst_snoc goodInts h17 h27 h47 (by (repeat (first | with_reducible assumption | with_reducible exact Ext.refl _ | with_reducible refine Ext.drew' ?_ | with_reducible refine Ext.drewN' ?_ _ | with_reducible refine Ext.alloc ?_ _ | (with_reducible refine Ext.setNew ?_ (by first | exact Nat.le_refl _ | (simp; done) | (simp; omega) | omega) _)))) p5 (fun q hq => by simp at hq; omega) g8 m8 rfl o8
              have SN2 := nst_snoc goodII h1 h2 h4 (E8.alloc _) ⟨_, rfl, Nst.ext goodInts SN1.1 ((Ext.refl _).alloc _)⟩ (SN1.2 _ HF7.out (by omega)) g9 m9 rfl o9
              go_roundw
              case rel =>
                refine ⟨i + 1, _, by omega, by go_num, by rw [HST2.out]; exact SN2.1, Lib.hid (SN2.2 _ HF.out (by omega)), (y.ext (E8.alloc _)).grn g9 (fun e => by have := hob _ e; omega), ext_grown (hE.trans (E8.alloc _)) g9 (fun q hq => by have := hob q hq; omega)⟩
              case measure => simp [intOf]; omega
        · have hig : i = c.gates.length := by omega
          subst hig
          rw [← HU.out] at hN
          go_wp2_with fail
          go_ret
          exact ⟨_, _, rfl, hN, fun q hq => by have := HF.out q hq; omega, hE⟩
end Go.Proofs.Ytpomcoegpjehgaa
