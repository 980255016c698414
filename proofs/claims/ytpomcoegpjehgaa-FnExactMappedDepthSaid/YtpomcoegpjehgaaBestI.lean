/- Contract: the program's best cuts and arrival times. -/
import Derived.Test.YtpomcoegpjehgaaBestS
import Derived.Test.YtpomcoegpjehgaaCutI
namespace Go.Proofs.Ytpomcoegpjehgaa
open Go.RowKit
set_option maxRecDepth 100000
set_option linter.unusedVariables false
set_option linter.unusedSimpArgs false
theorem set_mid {α : Type} (xs ys : List α) (a b : α) {n : Nat} (h : n = xs.length) : (xs ++ a :: ys).set n b = xs ++ b :: ys := by
  subst h
  rw [List.set_append_right _ _ (Nat.le_refl _), Nat.sub_self, List.set_cons_zero]
theorem get_mid {α : Type} (xs ys : List α) (a : α) {n : Nat} (h : n = xs.length) : (xs ++ a :: ys)[n]? = some a := by
  subst h
  rw [List.getElem?_append_right (Nat.le_refl _), Nat.sub_self]; rfl
theorem get_pre (xs : List Int) (ys : List Value) (j : Nat) (h : j < xs.length) : (xs.map (Value.int .i64) ++ ys)[j]? = some (.int .i64 (xs.getD j 0)) := by
  rw [List.getElem?_append_left (by simpa using h), List.getElem?_map, List.getD_eq_getElem?_getD, List.getElem?_eq_getElem h]; rfl
theorem rep_succ {α : Type} (a : α) (n : Nat) (h : 0 < n) : List.replicate n a = a :: List.replicate (n - 1) a := by
  obtain ⟨m, rfl⟩ : ∃ m, n = m + 1 := ⟨n - 1, by omega⟩
  rfl
set_option maxHeartbeats 4000000 in
theorem bestCuts_c (b : Nat) (c : Circ) (p : Where3) (w : World) (hb : CircBox w b c p) (hc : CircAt w c p) (V : c.Valid) :
    Calls Try.prog 74 #[.pointer (some ⟨b, 0, none⟩)] w (BestPost w (bestN c).1 (bestN c).2) := by
  have hi0 := V.i0
  have hi4 := V.i4
  have ln := V.ln
  have lg := V.lg
  have lo := V.lo
  obtain ⟨f, hf⟩ : ∃ f : Nat, c.first = (f : Int) := ⟨c.first.toNat, by unfold Circ.first; omega⟩
  have hf1 : 1 ≤ f ∧ f ≤ 8 := by unfold Circ.first at hf; omega
  obtain ⟨hf1, hf2⟩ := hf1
  obtain ⟨ok, okl⟩ := cutsK_ok V c.gates.length (Nat.le_refl _)
  rw [List.take_length] at ok okl
  change CutsOk _ (cutsN c) at ok
  change ((cutsN c).length : Int) = _ at okl
  have hcv : cutsV c = cutsN c := by unfold cutsV; rw [validB_true V]; rfl
  have hcall := implCuts_c c p w hc
  rw [hcv] at hcall
  obtain ⟨all, hall⟩ : ∃ all, all = cutsN c := ⟨_, rfl⟩
  rw [← hall] at ok okl hcall
  have hal : all.length = f + c.gates.length := by omega
  have HU : Hid (bestN c = bestK all f c.gates.length) := Lib.hid (by unfold bestN; rw [hall, hf]; rfl)
  have HOK := Lib.hid ok
  have HAL := Lib.hid hal
  have HALT : Hid (∀ i, i < c.gates.length → f + i < all.length) := Lib.hid (fun i hi => by omega)
  have hal2 : all.length ≤ 100 := by omega
  have hal3 : f ≤ all.length := by omega
  obtain ⟨U, hUU⟩ : ∃ U, U = bestN c := ⟨_, rfl⟩
  rw [← hUU] at HU ⊢
  clear hUU V hall ok okl hal hcv
  (obtain ⟨lb, b0, b1, b2, b3⟩ := (id hb))
  go_enter Try.func74, Try.ntmps74
  go_wp2_with fail
  refine hcall.mono ?_
  rintro e w1 ⟨v1, F, rfl, hN, hF, hE1⟩
  obtain ⟨ca, cc, rfl, _⟩ := hN.sl
  obtain ⟨gA, rfl, hgA, hgC⟩ := NstII.get hN (by omega)
  have HGC := Lib.hid hgC
  have hm1 := run_zeros' (P := Try.prog) 30 23 (.slice none 0 0) [.slice none 0 0] 24 Try.underlying30 slInfoN rfl (by decide) (by decide) all.length (by omega) w1
  have B1 := Blk.at w1 (zeros [Value.slice none 0 0] all.length) 23 rfl
  have hm2 := run_zeros' (P := Try.prog) 23 3 (.int .i64 0) [.int .i64 0] 8 Try.underlying23 intInfoN rfl (by decide) (by decide) all.length (by omega) (w1.alloc (.cells (zeros [Value.slice none 0 0] all.length).toArray 23))
  have B2 := Blk.at (w1.alloc (.cells (zeros [Value.slice none 0 0] all.length).toArray 23)) (zeros [Value.int .i64 0] all.length) 3 (B := w1.heap.size + 1) (by simp)
  have B1' := B1.ext ((Ext.refl _).alloc (.cells (zeros [Value.int .i64 0] all.length).toArray 3))
  have y1 := hb.ext (hE1.trans (((Ext.refl w1).alloc (.cells (zeros [Value.slice none 0 0] all.length).toArray 23)).alloc (.cells (zeros [Value.int .i64 0] all.length).toArray 3)))
  have ls1 := hE1.size
  have lbb : b < w1.heap.size := Nat.lt_of_lt_of_le hb.lt ls1
  clear hgC b0 b1 b2 b3 lb hcall B1
  go_wp2_with fail
  refine (firstGate_c b c p _ y1 (by omega) (by omega) (by omega)).mono ?_
  rintro e w2 ⟨rfl, nd, rfl⟩
  rw [hf]
  obtain ⟨w2, hw2⟩ : ∃ x : World, x = ((w1.alloc (.cells (zeros [Value.slice none 0 0] all.length).toArray 23)).alloc (.cells (zeros [Value.int .i64 0] all.length).toArray 3)).drewN nd := ⟨_, rfl⟩
  have B1' := B1'.drewN nd
  have B2 := B2.drewN nd
  have e2 : Ext w1 (((w1.alloc (.cells (zeros [Value.slice none 0 0] all.length).toArray 23)).alloc (.cells (zeros [Value.int .i64 0] all.length).toArray 3)).drewN nd) := (((Ext.refl w1).alloc _).alloc _).trans (Ext.drewN _ nd)
  rw [← hw2] at B1' B2 e2
  rw [← hw2]
  rw [zeros_one] at B1' B2
  have H1 := Lib.hid B1'
  have H2 := Lib.hid B2
  clear hw2 y1 hm1 hm2 B1' B2
  go_wp2_with fail
  go_loopw [7] (fun u7 wr => ∃ (i : Nat) (vals : List Value) (ar : List Int) (bs : List (List Int)), i ≤ c.gates.length ∧ u7 = .int .i64 ((f + i : Nat) : Int) ∧ Hid (ar = (bestK all f i).2) ∧ Hid (bs = (bestK all f i).1) ∧ Hid (Blk wr w1.heap.size 23 (vals ++ List.replicate (all.length - (f + i)) (.slice none 0 0))) ∧ Hid (Blk wr (w1.heap.size + 1) 3 (ar.map (Value.int .i64) ++ List.replicate (all.length - (f + i)) (.int .i64 0))) ∧ ReadII w1 vals bs ∧ Ext w1 wr) (fun v _ => all.length - (intOf v).toNat)
  case atStart =>
    refine ⟨0, List.replicate f (.slice none 0 0), List.replicate f 0, List.replicate f [], Nat.zero_le _, rfl, Lib.hid (by rw [bestK_zero]), Lib.hid (by rw [bestK_zero]), Lib.hid ?_, Lib.hid ?_, ReadII.nils w1 f, e2⟩
    · rw [List.replicate_append_replicate, show f + (all.length - (f + 0)) = all.length by omega]; exact H1.out
    · rw [List.map_replicate, List.replicate_append_replicate, show f + (all.length - (f + 0)) = all.length by omega]; exact H2.out
  case round =>
    clear e2 H1 H2
    obtain ⟨i, vals, ar, bs, hi, rfl, HAR, HBS, HB1, HB2, hR, hE⟩ := hrel
    by_cases hlt : i < c.gates.length
    · have hfi := HALT.out i hlt
      have okL := HOK.out (f + i) hfi
      obtain ⟨M, hM, hMne, hM8, hMok⟩ := okL.gate (by rw [hf]; omega)
      obtain ⟨pa, pc, pF, r1, nP, hpc, _⟩ := HGC.out (f + i) hfi
      have hsuc := bestK_succ all f i hfi
      have hlen := bestK_len all f i (by omega)
      have hlv := bestK_ok all f i (by omega)
      rw [← HAR.out] at hlen hlv
      rw [← HBS.out] at hlen
      have hpr : bestK all f i = (bs, ar) := by rw [HAR.out, HBS.out]
      rw [hpr] at hsuc
      unfold bestStep at hsuc
      dsimp only at hsuc
      obtain ⟨L, hL⟩ : ∃ L, L = all.getD (f + i) [] := ⟨_, rfl⟩
      rw [← hL] at hM okL nP r1 hpc hsuc
      have hdl : L.dropLast = M := by rw [hM]; simp
      rw [hdl] at hsuc
      have hLl : L.length = M.length + 1 := by rw [hM]; simp
      have hget : ∀ j, j < M.length → L.getD j [] = M.getD j [] := by
        intro j hj
        rw [hM, List.getD_eq_getElem?_getD, List.getElem?_append_left hj, List.getD_eq_getElem?_getD]
      obtain ⟨hal', hbl'⟩ : ar.length = f + i ∧ bs.length = f + i := ⟨hlen.2, hlen.1⟩
      have hmem : ∀ j, j < M.length → (M.getD j []).length ≤ 3 ∧ ∀ z ∈ M.getD j [], 0 ≤ z ∧ z < ar.length := by
        intro j hj
        have := hMok _ (getN_mem (d := []) hj)
        refine ⟨this.len, fun z hz => ?_⟩
        have := this.lo z hz
        have := (hMok _ (getN_mem (d := []) hj)).hi z hz
        omega
      have hM1 : 1 ≤ M.length := by
        rcases Nat.eq_zero_or_pos M.length with h | h
        · exact absurd (List.eq_nil_of_length_eq_zero h) hMne
        · exact h
      obtain ⟨gL, rfl, hgL, hg⟩ := NstI.get nP (by omega)
      have hat : ∀ j, j < M.length → ∃ aj cj, w1.cell? ⟨gL, j, none⟩ = some (.slice aj (M.getD j []).length cj) ∧ IntsAt w1 aj (M.getD j []) := by
        intro j hj
        obtain ⟨aj, cj, h1, h2⟩ := hg j (by omega)
        rw [hget j hj] at h1 h2
        exact ⟨aj, cj, h1, h2⟩
      have hvl : vals.length = f + i := by rw [hR.1]; omega
      have HAT := Lib.hid hat
      have HMEM := Lib.hid hmem
      have HSUC := Lib.hid hsuc
      have HLV := Lib.hid hlv
      have HALL := Lib.hid hal'
      have HVL := Lib.hid hvl
      have hsz := hE.size
      have r2 := (ecell hE).1 gA (f + i) hgA
      rw [r1] at r2
      have HLL := Lib.hid hLl
      have hLl1 : 1 ≤ L.length := by omega
      have hLl2 : L.length ≤ 9 := by omega
      have hLM : (L.length : Int) - 1 = M.length := by omega
      have hmc : M.length ≤ pc := by omega
      obtain ⟨w3, rfl⟩ : ∃ x : World, x = wr := ⟨_, rfl⟩
      clear hM okL r1 hpr hL hdl hLl hget hmem hsuc hlv hMne hal' hbl' hlen hat hMok hg hvl
      have hcast : ((f + i : Nat) : Int).toNat = f + i := by omega
      have hcl : ((f + i : Nat) : Int) < (all.length : Int) := by omega
      obtain ⟨n, hn⟩ : ∃ n, n = f + i := ⟨_, rfl⟩
      rw [← hn] at r2 hcast hcl HVL HALL HB1 HB2 hfi
      rw [← hn]
      have HN := Lib.hid hn
      have hn100 : n ≤ 100 := by omega
      clear hn
      go_wp2_with fail
      go_quiet (fail)
      have eq3 := Ext.drewN w3 nq
      have E3 := hE.trans eq3
      have HB1a := HB1.out.drewN nq
      have HB2a := HB2.out.drewN nq
      have hrep : 0 < all.length - n := by omega
      rw [rep_succ _ _ hrep] at HB1a
      have H1 := Lib.hid HB1a
      have H2 := Lib.hid HB2a
      clear r2 HB1 HB2 HB1a HB2a
      go_wp2_with fail
      go_loopw [8, 44] (fun u8 u44 wr => ∃ (j : Nat) (lt : Int) (bv : Value) (y : List Int), j ≤ M.length ∧ u44 = .int .i64 j ∧ u8 = .int .i64 lt ∧ Hid (y = bestOf ar (M.take j)) ∧ Hid (lt = if j = 0 then -1 else maxA ar y) ∧ (∃ a cc, bv = .slice a y.length cc ∧ IntsAt w1 a y) ∧ y.length ≤ 3 ∧ Hid (Blk wr w1.heap.size 23 (vals ++ bv :: List.replicate (all.length - n - 1) (.slice none 0 0))) ∧ Hid (Blk wr (w1.heap.size + 1) 3 (ar.map (Value.int .i64) ++ List.replicate (all.length - n) (.int .i64 0))) ∧ Ext w1 wr) (fun _ v _ => M.length - (intOf v).toNat)
      case atStart => exact ⟨0, -1, .slice none 0 0, [], Nat.zero_le _, rfl, rfl, Lib.hid rfl, Lib.hid rfl, ⟨none, 0, rfl, .inl rfl⟩, by simp, H1, H2, E3⟩
      case round =>
        clear H1 H2 E3 eq3
        obtain ⟨j, lt, bv, y, hj, rfl, rfl, HY, HLT, ⟨ya, yc, rfl, hyI⟩, hy3, H1, H2, hE5⟩ := hrel
        have hgL5 : gL < wr.heap.size := by have := hE5.size; omega
        have x1 := H1.out.cell (i := n) (get_mid _ _ _ HVL.out.symm)
        have x1f := H1.out.frozen n
        have x1l := H1.out.lt
        by_cases hlt2 : j < M.length
        · obtain ⟨aj, cj, x1j, iJ⟩ := HAT.out j hlt2
          obtain ⟨xl, xz⟩ := HMEM.out j hlt2
          have x2j := (ecell hE5).1 gL j hgL
          rw [x1j] at x2j
          have hsn : bestOf ar (M.take (j + 1)) = if j = 0 then M.getD j [] else pickB ar y (M.getD j []) := by
            by_cases h0 : j = 0
            · subst h0
              rw [if_pos rfl]
              cases hM : M with
              | nil => rw [hM] at hM1; simp at hM1
              | cons x xs => rfl
            · rw [if_neg h0, HY.out, take_snocD M j [] hlt2]
              exact bestOf_snoc ar _ _ (by intro e; have := congrArg List.length e; rw [List.length_take] at this; simp only [List.length_nil] at this; omega)
          obtain ⟨x, hx⟩ : ∃ x, x = M.getD j [] := ⟨_, rfl⟩
          rw [← hx] at x1j x2j iJ xl xz hsn
          have HX := Lib.hid hx
          have HSN := Lib.hid hsn
          have HXZ := Lib.hid xz
          have iJ5 := iJ.ext hE5
          have hta := maxA_ok HLV.out (by omega) x
          have hty := maxA_ok HLV.out (by omega) y
          have HAI := Lib.hid (fun q (hq : q < ar.length) => H2.out.cell (i := q) (get_pre ar (List.replicate (all.length - n) (.int .i64 0)) q hq))
          have HMX := Lib.hid (fun q => maxA_ok HLV.out (by omega) (x.take q))
          have HGT := Lib.hid (fun q => HLV.out.get (by omega) q)
          have hal5 : ar.length ≤ all.length := by have := HALL.out; omega
          obtain ⟨w5, rfl⟩ : ∃ z : World, z = wr := ⟨_, rfl⟩
          clear x1j hx hsn xz
          go_wp2_with fail
          go_loop [11, 50] (fun u11 u50 => ∃ (q : Nat) (T : Int), q ≤ x.length ∧ u50 = .int .i64 q ∧ u11 = .int .i64 T ∧ Hid (T = maxA ar (x.take q))) (fun _ v => x.length - (intOf v).toNat)
          case atStart => exact ⟨0, 0, Nat.zero_le _, rfl, rfl, Lib.hid rfl⟩
          case round =>
            obtain ⟨q, T, hq, rfl, rfl, HT⟩ := hrel
            have hT := HMX.out q
            rw [← HT.out] at hT
            obtain ⟨hT1, hT2⟩ := hT
            by_cases hlt3 : q < x.length
            · have hz := HXZ.out (x.getD q 0) (getN_mem hlt3)
              obtain ⟨b2, o2, rfl, hb2, hc2⟩ := iJ5.get (by omega)
              have q2 := hc2 q hlt3
              have hs := maxA_snoc ar (x.take q) (x.getD q 0)
              rw [← take_snocD x q 0 hlt3, ← HT.out] at hs
              obtain ⟨z, hzz⟩ : ∃ z, z = x.getD q 0 := ⟨_, rfl⟩
              rw [← hzz] at hz q2 hs
              obtain ⟨hz1, hz2⟩ := hz
              have q1 := HAI.out z.toNat (by omega)
              have hg := HGT.out z.toNat
              obtain ⟨t, ht⟩ : ∃ t, t = ar.getD z.toNat 0 := ⟨_, rfl⟩
              rw [← ht] at q1 hg hs
              obtain ⟨hg1, hg2⟩ := hg
              have HS := Lib.hid hs
              have hzl : z < (all.length : Int) := by omega
              clear hc2 hzz ht hs
              by_cases hmx : T < t
              · go_wp2_with fail
                go_round
                case rel => exact ⟨q + 1, t, by omega, by go_num, by first | rfl | (congr 1; omega), Lib.hid (by rw [HS.out]; omega)⟩
                case measure => simp [intOf]; omega
              · go_wp2_with fail
                go_round
                case rel => exact ⟨q + 1, T, by omega, by go_num, by first | rfl | (congr 1; omega), Lib.hid (by rw [HS.out]; omega)⟩
                case measure => simp [intOf]; omega
            · have hqx : q = x.length := by omega
              have e : T = maxA ar x := by rw [HT.out, hqx, List.take_length]
              have HTT := Lib.hid e
              clear e HT hqx
              by_cases h0 : j = 0
              · have hl : lt = -1 := by rw [HLT.out, if_pos h0]
                subst hl
                go_wp2_with fail
                go_roundw
                case rel => exact ⟨j + 1, T, .slice aj x.length cj, x, by omega, by go_num, by first | rfl | (congr 1; omega), Lib.hid (by rw [HSN.out]; exact (by rw [if_pos h0])), Lib.hid (by rw [if_neg (by omega)]; exact HTT.out), ⟨aj, cj, rfl, iJ⟩, xl, Lib.hid (by have := H1.out.set n (.slice aj x.length cj); rw [set_mid _ _ _ _ HVL.out.symm] at this; exact this), Lib.hid (H2.out.setOther (by simp) _), Ext.setNew hE5 (Nat.le_refl _) _⟩
                case measure => simp [intOf]; omega
              · have hlt0 : lt = maxA ar y := by rw [HLT.out, if_neg h0]
                have hl0 : 0 ≤ lt := by omega
                have d0 : decide (lt < 0) = false := by simp; omega
                have HL0 := Lib.hid hlt0
                by_cases c1 : T < lt
                · have d1 : decide (T < lt) = true := by simp [c1]
                  clear hlt0
                  have hlt0 := HL0.out
                  go_wp2_with fail
                  go_roundw
                  case rel => exact ⟨j + 1, T, .slice aj x.length cj, x, by omega, by go_num, by first | rfl | (congr 1; omega), Lib.hid (by rw [HSN.out]; exact (by rw [if_neg h0]; unfold pickB betterB; rw [← HTT.out, ← hlt0]; simp; omega)), Lib.hid (by rw [if_neg (by omega)]; exact HTT.out), ⟨aj, cj, rfl, iJ⟩, xl, Lib.hid (by have := H1.out.set n (.slice aj x.length cj); rw [set_mid _ _ _ _ HVL.out.symm] at this; exact this), Lib.hid (H2.out.setOther (by simp) _), Ext.setNew hE5 (Nat.le_refl _) _⟩
                  case measure => simp [intOf]; omega
                · have d1 : decide (T < lt) = false := by simp [c1]
                  by_cases c2 : T = lt
                  · have d2 : (T == lt) = true := by simp [c2]
                    by_cases c3 : x.length < y.length
                    · have d3 : decide ((x.length : Int) < (y.length : Int)) = true := by simp; omega
                      go_wp2_with fail
                      go_roundw
                      case rel => exact ⟨j + 1, T, .slice aj x.length cj, x, by omega, by go_num, by first | rfl | (congr 1; omega), Lib.hid (by rw [HSN.out]; exact (by rw [if_neg h0]; unfold pickB betterB; rw [← HTT.out, ← hlt0]; simp; omega)), Lib.hid (by rw [if_neg (by omega)]; exact HTT.out), ⟨aj, cj, rfl, iJ⟩, xl, Lib.hid (by have := H1.out.set n (.slice aj x.length cj); rw [set_mid _ _ _ _ HVL.out.symm] at this; exact this), Lib.hid (H2.out.setOther (by simp) _), Ext.setNew hE5 (Nat.le_refl _) _⟩
                      case measure => simp [intOf]; omega
                    · have d3 : decide ((x.length : Int) < (y.length : Int)) = false := by simp; omega
                      go_wp2_with fail
                      go_roundw
                      case rel => exact ⟨j + 1, lt, .slice ya y.length yc, y, by omega, by go_num, by first | rfl | rw [hlt0], Lib.hid (by rw [HSN.out, if_neg h0]; unfold pickB betterB; rw [← HTT.out, ← hlt0]; simp; omega), Lib.hid (by rw [if_neg (by omega)]; exact hlt0), ⟨ya, yc, rfl, hyI⟩, hy3, H1, H2, hE5⟩
                      case measure => simp [intOf]; omega
                  · have d2 : (T == lt) = false := by simp [c2]
                    go_wp2_with fail
                    go_roundw
                    case rel => exact ⟨j + 1, lt, .slice ya y.length yc, y, by omega, by go_num, by first | rfl | rw [hlt0], Lib.hid (by rw [HSN.out, if_neg h0]; unfold pickB betterB; rw [← HTT.out, ← hlt0]; simp; omega), Lib.hid (by rw [if_neg (by omega)]; exact hlt0), ⟨ya, yc, rfl, hyI⟩, hy3, H1, H2, hE5⟩
                    case measure => simp [intOf]; omega
        · have hjM : j = M.length := by omega
          have hy := HY.out
          rw [hjM, List.take_length] at hy
          have hlt0 : lt = maxA ar y := by rw [HLT.out, if_neg (by omega)]
          have hsuc := HSUC.out
          rw [← hy] at hsuc
          have hmx := maxA_ok HLV.out (by omega) y
          rw [← hlt0] at hmx hsuc
          obtain ⟨hmx1, hmx2⟩ := hmx
          have HSU := Lib.hid hsuc
          have hrep2 : 0 < all.length - n := by omega
          have h2 := H2.out
          rw [rep_succ _ _ hrep2] at h2
          have z1 := h2.cell (i := n) (get_mid _ _ _ (by rw [List.length_map]; exact HALL.out.symm))
          have zf := h2.frozen n
          have zl := h2.lt
          have HH2 := Lib.hid h2
          clear hy hlt0 hsuc h2 hjM HY HLT
          go_wp2_with fail
          go_roundw
          case rel =>
            refine ⟨i + 1, vals ++ [.slice ya y.length yc], ar ++ [1 + lt], bs ++ [y], by omega, ?_, Lib.hid (by rw [HSU.out]), Lib.hid (by rw [HSU.out]), Lib.hid ?_, Lib.hid ?_, hR.snoc hyI, Ext.setNew hE5 (by simp) _⟩
            · have := HN.out; congr 1; omega
            · have e : all.length - (f + (i + 1)) = all.length - n - 1 := by have := HN.out; omega
              rw [e, List.append_assoc]
              exact H1.out.setOther (by simp) _
            · have e : all.length - (f + (i + 1)) = all.length - n - 1 := by have := HN.out; omega
              have h3 := HH2.out.set n (.int .i64 (1 + lt))
              rw [set_mid _ _ _ _ (by rw [List.length_map]; exact HALL.out.symm)] at h3
              rw [e, List.map_append, List.append_assoc]
              have e4 : lt + 1 = 1 + lt := by omega
              first | exact h3 | (rw [e4]; exact h3)
          case measure => simp [intOf]; omega
    · have hig : i = c.gates.length := by omega
      subst hig
      rw [← HU.out] at HAR HBS
      have hlen := bestK_len all f c.gates.length (by have := HAL.out; omega)
      rw [← HU.out, ← HAL.out] at hlen
      obtain ⟨hl1, hl2⟩ := hlen
      have e1 := HAR.out
      have e2 := HBS.out
      subst e1 e2
      have hz : all.length - (f + c.gates.length) = 0 := by have := HAL.out; omega
      have h1 := HB1.out
      have h2 := HB2.out
      rw [hz, List.replicate_zero, List.append_nil] at h1 h2
      have o1 := h1.owns (n := all.length) (size := 1) (base := w.heap.size) (by rw [hR.1, hl1, Nat.mul_one]) ls1 (by unfold maxLen; omega)
      have o2 := h2.owns (n := all.length) (size := 1) (base := w.heap.size) (by rw [List.length_map, hl2, Nat.mul_one]) (by omega) (by unfold maxLen; omega)
      have O1 : wr.ownsRow w.heap.size 23 1 (.slice (some ⟨w1.heap.size, 0, none⟩) all.length all.length) U.1.length vals := by rw [hl1]; exact o1
      have O2 : OwnInts wr w.heap.size 3 (.slice (some ⟨w1.heap.size + 1, 0, none⟩) all.length all.length) U.2 := by unfold OwnInts; rw [hl2]; exact o2
      have HO1 := Lib.hid O1
      have HO2 := Lib.hid O2
      have hnlt : ¬ ((f + c.gates.length : Nat) : Int) < (all.length : Int) := by have := HAL.out; omega
      clear hl1 hl2 hz h1 h2 o1 o2 O1 O2 HAR HBS HB1 HB2
      go_wp2_with fail
      refine bodyPost_ret (v := .tuple #[_, _]) (by simp [results, Try.results74, go_sem]; exact ⟨rfl, rfl⟩) rfl ?_
      exact ⟨_, _, vals, rfl, HO1.out, HO2.out, hR.ext hE, hE1.trans hE⟩
end Go.Proofs.Ytpomcoegpjehgaa
