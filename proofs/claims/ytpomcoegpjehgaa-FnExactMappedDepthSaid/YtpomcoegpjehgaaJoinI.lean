/- Contract: the program's unions of two lists of cuts. -/
import Derived.Test.YtpomcoegpjehgaaSlcI
import Derived.Test.YtpomcoegpjehgaaHasS
namespace Go.Proofs.Ytpomcoegpjehgaa
open Go.RowKit
set_option maxRecDepth 100000
set_option linter.unusedVariables false
set_option linter.unusedSimpArgs false
theorem joinClo_c (D : Nat) (a ac : Option Addr) (ca cc : Nat) (z cut : List Int) (w : World) (hz : IntsAt w a z) (hD : Blk w D 23 [.slice ac cut.length cc]) (hc : IntsAt w ac cut) (lz : z.length ≤ 1000) (lc : cut.length ≤ 1000) :
    Calls Try.prog 103 #[.slice a z.length ca, .pointer (some ⟨D, 0, none⟩)] w fun e w' => e = .returned (.bool (decide (z = cut))) ∧ Ext w w' := by
  have f0 := hD.cell (i := 0) rfl
  have fl := hD.lt
  go_enter Try.func103, Try.ntmps103
  go_wp2_with fail
  refine (equalI_c a ac ca cc z cut _ hz hc lz lc).mono ?_
  rintro e w1 ⟨rfl, hE1⟩
  go_wp2
  go_ret
  exact ⟨rfl, hE1⟩
theorem idxJoin_c (D : Nat) (oa ac : Option Addr) (oc cc : Nat) (out : List (List Int)) (F : List Nat) (cut : List Int) (w : World) (ho : NstI w (.slice oa out.length oc) out F) (hD : Blk w D 23 [.slice ac cut.length cc]) (hc : IntsAt w ac cut) (lo : out.length ≤ 1000) (lc : cut.length ≤ 1000) (le : ∀ x ∈ out, x.length ≤ 1000) :
    Calls Try.prog 117 #[.slice oa out.length oc, .func (.func 103) #[] #[.pointer (some ⟨D, 0, none⟩)]] w fun e w' => (∃ i : Int, e = .returned (.int .i64 i) ∧ -1 ≤ i ∧ i ≤ 1000 ∧ decide (0 ≤ i) = decide (cut ∈ out)) ∧ Ext w w' := by
  have LE := Lib.hid le
  clear le
  go_enter Try.func117, Try.ntmps117
  go_wp2_with fail
  go_loopw [8] (fun u wr => ∃ k : Nat, k ≤ out.length ∧ u = .int .i64 k ∧ Hid (∀ j, j < k → out.getD j [] ≠ cut) ∧ Ext w wr) (fun i _ => out.length - (intOf i).toNat)
  case atStart => exact ⟨0, Nat.zero_le _, rfl, Lib.hid (fun j hj => absurd hj (Nat.not_lt_zero j)), Ext.refl _⟩
  case round =>
    obtain ⟨k, hk, rfl, hP, hE⟩ := hrel
    by_cases hlt : k < out.length
    · obtain ⟨g, rfl, hgl, hg⟩ := NstI.get (Nst.ext goodInts ho hE) (by omega)
      obtain ⟨aj, cj, q, hA⟩ := hg k hlt
      have ly := LE.out _ (getN_mem (d := []) hlt)
      obtain ⟨y, hyy⟩ : ∃ y, y = out.getD k [] := ⟨_, rfl⟩
      rw [← hyy] at q hA ly
      have HY := Lib.hid hyy
      clear hg hyy
      by_cases hyc : y = cut
      · have HYC := Lib.hid hyc
        have hd : decide (y = cut) = true := by simp [hyc]
        clear hyc
        go_wp2_with fail
        refine (joinClo_c D aj ac cj cc y cut _ hA (hD.ext hE) (hc.ext hE) ly lc).mono ?_
        rw [hd]
        rintro e w1 ⟨rfl, hE1⟩
        go_wp2_with fail
        go_ret
        refine ⟨⟨k, rfl, by omega, by omega, ?_⟩, hE.trans hE1⟩
        rw [decide_eq_true (by omega), decide_eq_true]
        rw [← HYC.out, HY.out]; exact getN_mem hlt
      · have HYC := Lib.hid hyc
        have hd : decide (y = cut) = false := by simp [hyc]
        clear hyc
        go_wp2_with fail
        refine (joinClo_c D aj ac cj cc y cut _ hA (hD.ext hE) (hc.ext hE) ly lc).mono ?_
        rw [hd]
        rintro e w1 ⟨rfl, hE1⟩
        go_wp2_with fail
        go_roundw
        case rel =>
          refine ⟨k + 1, by omega, by go_num, Lib.hid (fun j hj => ?_), hE.trans hE1⟩
          rcases Nat.lt_or_ge j k with h | h
          · exact hP.out j h
          · have : j = k := by omega
            subst this
            rw [← HY.out]; exact HYC.out
        case measure => simp [intOf]; omega
    · go_wp2
      go_ret
      refine ⟨⟨-1, rfl, by omega, by omega, ?_⟩, hE⟩
      rw [decide_eq_false (by omega), decide_eq_false]
      intro hm
      obtain ⟨j, hj, e⟩ := mem_getN (d := []) hm
      exact hP.out j (by omega) e
theorem hasJoin_c (D : Nat) (oa ac : Option Addr) (oc cc : Nat) (out : List (List Int)) (F : List Nat) (cut : List Int) (w : World) (ho : NstI w (.slice oa out.length oc) out F) (hD : Blk w D 23 [.slice ac cut.length cc]) (hc : IntsAt w ac cut) (lo : out.length ≤ 1000) (lc : cut.length ≤ 1000) (le : ∀ x ∈ out, x.length ≤ 1000) :
    Calls Try.prog 102 #[.slice oa out.length oc, .func (.func 103) #[] #[.pointer (some ⟨D, 0, none⟩)]] w fun e w' => e = .returned (.bool (decide (cut ∈ out))) ∧ Ext w w' := by
  go_enter Try.func102, Try.ntmps102
  go_wp2_with fail
  refine (idxJoin_c D oa ac oc cc out F cut _ ho hD hc lo lc le).mono ?_
  rintro e w1 ⟨⟨i, rfl, hi0, hi1, hi⟩, hE1⟩
  have HI := Lib.hid hi
  clear hi
  go_wp2
  go_ret
  exact ⟨by rw [← HI.out]; rfl, hE1⟩
theorem intss_two {w : World} {B : Nat} {a1 a2 : Option Addr} {c1 c2 : Nat} {x y : List Int} {t : TypeId} (b : Blk w B t [.slice a1 x.length c1, .slice a2 y.length c2]) (h1 : IntsAt w a1 x) (h2 : IntsAt w a2 y) : IntssAt w B [x, y] := by
  intro j hj
  match j, hj with
  | 0, _ => exact ⟨a1, c1, b.cell (i := 0) rfl, h1⟩
  | 1, _ => exact ⟨a2, c2, b.cell (i := 1) rfl, h2⟩
set_option maxHeartbeats 4000000 in
theorem joinCuts_c (pa qa : Option Addr) (pc qc : Nat) (P Q : List (List Int)) (Fp Fq : List Nat) (v : Int) (w : World) (hP : NstI w (.slice pa P.length pc) P Fp) (hQ : NstI w (.slice qa Q.length qc) Q Fq) (lp : P.length ≤ 9) (lq : Q.length ≤ 9) (oP : ∀ x ∈ P, CutOk v x) (oQ : ∀ x ∈ Q, CutOk v x) :
    Calls Try.prog 65 #[.slice pa P.length pc, .slice qa Q.length qc] w (GiveII w (joinV P Q)) := by
  have HA := Lib.hid oP
  have HB := Lib.hid oQ
  have HU := Lib.hid (joinV_take' P Q)
  obtain ⟨U, hU⟩ : ∃ U, U = joinV P Q := ⟨_, rfl⟩
  rw [← hU] at HU ⊢
  clear oP oQ hU
  go_enter Try.func65, Try.ntmps65
  go_wp2_with fail
  go_loopw [5, 13] (fun u7 u10 wr => ∃ (a : Nat) (L : List (List Int)) (F7 : List Nat), a ≤ P.length ∧ u10 = .int .i64 a ∧ NstI wr u7 L F7 ∧ Hid (∀ g ∈ F7, w.heap.size ≤ g) ∧ Hid (L = (P.take a).foldl (fun o x => joinRow x Q o) []) ∧ L.length ≤ 8 ∧ Hid (∀ z ∈ L, CutOk v z) ∧ Ext w wr) (fun _ v _ => P.length - (intOf v).toNat)
  case atStart => exact ⟨0, [], [], Nat.zero_le _, rfl, Nst.nil, Lib.hid (fun q hq => by simp at hq), Lib.hid rfl, by simp, Lib.hid (fun z hz => by simp at hz), Ext.refl _⟩
  case round =>
    obtain ⟨a, L, F7, ha, rfl, nL, HF7, HL, hL8, HLo, hE4⟩ := hrel
    by_cases hlt2 : a < P.length
    · obtain ⟨g1, rfl, hg1w, hg1⟩ := NstI.get hP (by omega)
      obtain ⟨a1, d1, x1w, hA1⟩ := hg1 a hlt2
      have x1 := (ecell hE4).1 g1 a hg1w
      rw [x1w] at x1
      have hg1l : g1 < wr.heap.size := Nat.lt_of_lt_of_le hg1w hE4.size
      clear x1w hg1w
      have okx := HA.out _ (getN_mem (d := []) hlt2)
      have hs := foldl_snocD' (fun o x => joinRow x Q o) P a [] [] hlt2
      rw [← HL.out] at hs
      obtain ⟨x, hxx⟩ : ∃ x, x = P.getD a [] := ⟨_, rfl⟩
      rw [← hxx] at x1 hA1 okx hs
      have lx := okx.len
      have OX := Lib.hid okx
      have HS0 := Lib.hid hs
      obtain ⟨w5, rfl⟩ : ∃ x : World, x = wr := ⟨_, rfl⟩
      clear hg1 hxx okx hs
      go_wp2_with fail
      go_loopw [5, 19] (fun u7 u11 wr => ∃ (b : Nat) (L2 : List (List Int)) (F8 : List Nat), b ≤ Q.length ∧ u11 = .int .i64 b ∧ NstI wr u7 L2 F8 ∧ Hid (∀ g ∈ F8, w.heap.size ≤ g) ∧ Hid (L2 = (Q.take b).foldl (fun o y => joinStep o (mrg x y)) L) ∧ L2.length ≤ 8 ∧ Hid (∀ z ∈ L2, CutOk v z) ∧ Ext w wr) (fun _ v _ => Q.length - (intOf v).toNat)
      case atStart => exact ⟨0, L, F7, Nat.zero_le _, rfl, nL, HF7, Lib.hid rfl, hL8, HLo, hE4⟩
      case round =>
        obtain ⟨b, L2, F8, hb, rfl, nL2, HF8, HL2, hL28, HLo2, hE5⟩ := hrel
        obtain ⟨la, lc, rfl, hlc, _⟩ := nL2.sl
        obtain ⟨w6, rfl⟩ : ∃ x : World, x = wr := ⟨_, rfl⟩
        by_cases hlt3 : b < Q.length
        · obtain ⟨g2, rfl, hg2l, hg2⟩ := NstI.get (Nst.ext goodInts hQ hE5) (by omega)
          obtain ⟨a2, d2, x2, hA2⟩ := hg2 b hlt3
          have oky := HB.out _ (getN_mem (d := []) hlt3)
          have hs := foldl_snocD' (fun o y => joinStep o (mrg x y)) Q b [] L hlt3
          rw [← HL2.out] at hs
          obtain ⟨yv, hyy⟩ : ∃ x, x = Q.getD b [] := ⟨_, rfl⟩
          rw [← hyy] at x2 hA2 oky hs
          have ly := oky.len
          have OKS := Lib.hid (joinStep_ok HLo2.out OX.out oky)
          have hml := mrg_len x yv
          have HCM := Lib.hid (compact_mrg OX.out.asc oky.asc)
          obtain ⟨cut, hcut⟩ : ∃ z, z = mrg x yv := ⟨_, rfl⟩
          have HS := Lib.hid hs
          rw [← hcut] at HS OKS hml HCM
          have HCUT := Lib.hid hcut
          obtain ⟨hml1, hml2⟩ := hml
          have hsz6 := hE5.size
          have hA1' := hA1.ext hE5
          have bb := Blk.at w6 [.slice a1 x.length d1, .slice a2 yv.length d2] 23 rfl
          have e6 : Ext w6 (w6.alloc (.cells #[.slice a1 x.length d1, .slice a2 yv.length d2] 23)) := (Ext.refl _).alloc _
          have hcc := concat_c w6.heap.size 2 [x, yv] _ (intss_two bb (hA1'.ext e6) (hA2.ext e6)) bb.lt (by simp) (by simp; omega)
          have hfl : [x, yv].flatten = x ++ yv := by simp
          rw [hfl] at hcc
          have hsl : (x ++ yv).length ≤ 6 := by simp; omega
          obtain ⟨s, hs7⟩ : ∃ s, s = x ++ yv := ⟨_, rfl⟩
          rw [← hs7] at hcc hsl HCM
          have HS7 := Lib.hid hs7
          clear hg2 hyy oky hs hcut hfl hs7
          go_wp2_with fail
          refine hcc.mono ?_
          rintro e w7 ⟨v7, rfl, hO7, hE7⟩
          have e67 := e6.trans hE7
          have ls7 := e67.size
          have hO7 : OwnInts w7 w6.heap.size 3 v7 s := ownsRow_base hO7 (by simp)
          obtain ⟨a7, c7, rfl, _⟩ := hO7.opened
          have bx := Blk.at w7 [.slice a7 s.length c7] 23 rfl
          have hO8 := hO7.ext ((Ext.refl w7).alloc (.cells #[.slice a7 s.length c7] 23))
          have HB7 := Lib.hid (own_lo hO7)
          have e7a : Ext w6 (w7.alloc (.cells #[.slice a7 s.length c7] 23)) := e67.alloc _
          clear bb e6 hE7 hcc hO7
          go_wp2_with fail
          refine (sort_c w6.heap.size (.slice a7 s.length c7) s _ hO8 (by omega)).mono ?_
          rintro e w8 ⟨rfl, hO9, g8⟩
          have bx8 := bx.gr g8 (by intro e; have := (HB7.out _ e).2; omega)
          have x8 := bx8.cell (i := 0) rfl
          have xl8 := bx8.lt
          have e8 := ext_grown e7a g8 (fun q hq => (HB7.out q hq).1)
          clear bx hO8 g8
          go_wp2_with fail
          refine (compact_c w6.heap.size (.slice a7 s.length c7) (sortV s) _ hO9 (by rw [sortV_length]; omega)).mono ?_
          rw [HCM.out]
          rintro e w9 ⟨v9, rfl, hv9, hO10, g9⟩
          have bx9 := bx8.gr g9 (by intro e; have := (HB7.out _ e).2; omega)
          have x9 := bx9.cell (i := 0) rfl
          have xf9 := bx9.frozen 0
          have xl9 := bx9.lt
          have e9 := ext_grown e8 g9 (fun q hq => (HB7.out q hq).1)
          obtain ⟨a9, c9, rfl, _⟩ := hO10.opened
          have eA : Ext w6 (w9.setCell ⟨w7.heap.size, 0, none⟩ (.slice a9 cut.length c9)) := Ext.setNew e9 ls7 _
          have bxA : Blk (w9.setCell ⟨w7.heap.size, 0, none⟩ (.slice a9 cut.length c9)) w7.heap.size 23 [.slice a9 cut.length c9] := bx9.set 0 _
          have hOA : OwnInts (w9.setCell ⟨w7.heap.size, 0, none⟩ (.slice a9 cut.length c9)) w6.heap.size 3 (.slice a9 cut.length c9) cut := ownsRow_set hO10 (by rw [hv9]; intro e; have := (HB7.out _ e).2; simp at this) _
          obtain ⟨wA, hwA⟩ : ∃ x, x = w9.setCell ⟨w7.heap.size, 0, none⟩ (.slice a9 cut.length c9) := ⟨_, rfl⟩
          rw [← hwA] at eA bxA hOA
          have HWA := Lib.hid hwA
          have nLA := Nst.ext goodInts nL2 eA
          have HLE : Hid (∀ z ∈ L2, z.length ≤ 1000) := Lib.hid (fun z hz => by have := (HLo2.out z hz).len; omega)
          have lsA := eA.size
          have hIA : IntsAt wA a9 cut := by obtain ⟨a', c', e, h, _⟩ := hOA.opened; cases e; exact h
          have HOA := Lib.hid hOA
          have hcall := hasJoin_c w7.heap.size la a9 lc c9 L2 F8 cut wA nLA bxA hIA (by omega) (by omega) HLE.out
          have xA := bxA.cell (i := 0) rfl
          have xlA := bxA.lt
          clear hv9 hO10 bx8 x8 hO9 g9 e9 e8 e7a bx9 hwA
          by_cases c1 : 3 < cut.length
          · have d1 : decide ((3 : Int) < (cut.length : Int)) = true := by simp; omega
            rw [joinStep_no1' c1] at HS OKS
            go_wp2_with fail
            rw [← HWA.out]
            go_roundw
            case rel => exact ⟨b + 1, L2, F8, by omega, by go_num, nLA, HF8, Lib.hid HS.out.symm, hL28, HLo2, hE5.trans eA⟩
            case measure => simp [intOf]; omega
          · have d1 : decide ((3 : Int) < (cut.length : Int)) = false := by simp; omega
            by_cases c2 : L2.length = 8
            · have d2 : ((L2.length : Int) == 8) = true := by rw [c2]; rfl
              rw [joinStep_no2' c2] at HS OKS
              clear c2
              go_wp2_with fail
              rw [← HWA.out]
              go_roundw
              case rel => exact ⟨b + 1, L2, F8, by omega, by go_num, nLA, HF8, Lib.hid HS.out.symm, hL28, HLo2, hE5.trans eA⟩
              case measure => simp [intOf]; omega
            · have d2 : ((L2.length : Int) == 8) = false := by simp; omega
              by_cases c3 : cut ∈ L2
              · rw [joinStep_no3' c3] at HS OKS
                rw [decide_eq_true c3] at hcall
                clear c3
                go_wp2_with fail
                rw [← HWA.out]
                refine hcall.mono ?_
                rintro e wB ⟨rfl, hE9⟩
                go_wp2_with fail
                go_roundw
                case rel => exact ⟨b + 1, L2, F8, by omega, by go_num, Nst.ext goodInts nLA hE9, HF8, Lib.hid HS.out.symm, hL28, HLo2, (hE5.trans eA).trans hE9⟩
                case measure => simp [intOf]; omega
              · rw [joinStep_yes' c1 c2 c3] at HS OKS
                rw [decide_eq_false c3] at hcall
                clear c3
                go_wp2_with fail
                rw [← HWA.out]
                refine hcall.mono ?_
                rintro e wB ⟨rfl, hE9⟩
                have hOB := HOA.out.ext hE9
                have xB := (bxA.ext hE9).cell (i := 0) rfl
                have xlB := (bxA.ext hE9).lt
                obtain ⟨cells, G, h1, h2, rfl, h4⟩ := nL2
                have eB := eA.trans hE9
                have hob := fun k hk => HF8.out k (List.mem_append_left _ (mem_fp.2 hk))
                have hszB := hE9.size
                obtain ⟨hp1, hp2⟩ := PInts.of hOB
                have HP1 := Lib.hid hp1
                have HP2 := Lib.hid hp2
                clear hp1 hp2 hOB x9 xf9 xl9 xA
                go_wp2_with (at_builtin; refine wpList_app tyII (ownsRow_ext h1 (eB.alloc _)) (rowNew wB [.slice a9 cut.length c9] _ rfl) rfl (by simp [Value.oneCell']) (by omega) (Nat.zero_le _) rfl rfl rfl rfl ?_; intro v9 w9 o9 g9 m9; obtain ⟨aa, ac, rfl, _⟩ := ownsRow_row o9)
                have SN := nst_snoc goodInts h1 h2 h4 (eB.alloc _) (goodInts.ext HP1.out ((Ext.refl _).alloc _)) (fun q hq => HP2.out q hq) g9 m9 rfl o9
                go_roundw
                case rel => exact ⟨b + 1, L2 ++ [cut], _, by omega, by go_num, SN.1, Lib.hid (SN.2 _ HF8.out (by omega)), Lib.hid HS.out.symm, by simp; omega, OKS, ext_grown ((hE5.trans eB).alloc _) g9 hob⟩
                case measure => simp [intOf]; omega
        · have hbq : b = Q.length := by omega
          subst hbq
          rw [joinRow_take', ← HL2.out] at HS0
          go_wp2_with fail
          go_roundw
          case rel => exact ⟨a + 1, L2, F8, by omega, by go_num, nL2, HF8, Lib.hid HS0.out.symm, hL28, HLo2, hE5⟩
          case measure => simp [intOf]; omega
    · have hap : a = P.length := by omega
      subst hap
      rw [← HU.out] at HL
      have HLU := HL.out
      subst HLU
      go_wp2_with fail
      go_ret
      exact ⟨_, _, rfl, nL, HF7.out, hE4⟩
end Go.Proofs.Ytpomcoegpjehgaa
