/- Contracts: the program's TestSet, with the closure that it hands to slices.ContainsFunc. -/
import Derived.Test.YtkdiniaddnhkdaaTest
import Derived.Outline
namespace Go.Proofs.Ytkdiniaddnhkdaa
open Go.RowKit
set_option maxRecDepth 100000
set_option linter.unusedVariables false
set_option linter.unusedSimpArgs false
def CB (c : Circ) (p : Where3) : List Value := [.int .i64 c.inputs, .slice p.an c.next.length p.cn, .slice p.ag c.gates.length p.cg, .slice p.ao c.outs.length p.co]
theorem testClo_c (b F : Nat) (c : Circ) (p : Where3) (s : Int) (v : Bool) (x : Int) (w : World) (hb : CircBox w b c p) (hc : CircAt w c p) (hF : Blk w F 50 [.int .i64 s, .bool v]) (V : c.Valid) (hs : s < c.vars) (h0 : 0 ≤ x) (h1 : x ≤ 100000) :
    Calls Try.prog 78 #[.int .i64 x, .pointer (some ⟨b, 0, none⟩), .pointer (some ⟨F, 0, none⟩)] w fun e w' => e = .returned (.bool (detV c s v x.toNat)) ∧ Ext w w' := by
  obtain ⟨n, rfl⟩ := Int.eq_ofNat_of_zero_le h0
  have f0 := hF.cell (i := 0) rfl
  have f1 := hF.cell (i := 1) rfl
  have fl := hF.lt
  go_enter Try.func78, Try.ntmps78
  go_wp2_with fail
  refine (detects_c b c p n s v (by omega) _ hb hc V hs).mono ?_
  rintro e w1 ⟨rfl, hE1⟩
  go_wp2
  go_ret
  exact ⟨rfl, hE1⟩
theorem idxFunc_c (b F : Nat) (c : Circ) (p : Where3) (s : Int) (v : Bool) (a : Option Addr) (cap : Nat) (S : List Int) (w : World) (hb : CircBox w b c p) (hc : CircAt w c p) (hF : Blk w F 50 [.int .i64 s, .bool v]) (V : c.Valid) (hs : s < c.vars)
    (hS : IntsAt w a S) (hl : S.length ≤ 1000) (hx : ∀ x ∈ S, 0 ≤ x ∧ x ≤ 100000) :
    Calls Try.prog 118 #[.slice a S.length cap, .func (.func 78) #[] #[.pointer (some ⟨b, 0, none⟩), .pointer (some ⟨F, 0, none⟩)]] w fun e w' => (∃ i : Int, e = .returned (.int .i64 i) ∧ -1 ≤ i ∧ i ≤ 1000 ∧ decide (0 ≤ i) = seenV c (s, v) S) ∧ Ext w w' := by
  have HX := Lib.hid hx
  clear hx
  go_enter Try.func118, Try.ntmps118
  go_wp2_with fail
  go_loopw [8] (fun u wr => ∃ k : Nat, k ≤ S.length ∧ u = .int .i64 k ∧ Hid (∀ j, j < k → detV c s v (S.getD j 0).toNat = false) ∧ Ext w wr) (fun i _ => S.length - (intOf i).toNat)
  case atStart => exact ⟨0, Nat.zero_le _, rfl, Lib.hid (fun j hj => absurd hj (Nat.not_lt_zero j)), Ext.refl _⟩
  case round =>
    obtain ⟨k, hk, rfl, hP, hE⟩ := hrel
    by_cases hlt : k < S.length
    · obtain ⟨b1, o1, rfl, hb1, hcc⟩ := (hS.ext hE).get (by omega)
      have q1 := hcc k hlt
      have hm : S.getD k 0 ∈ S := by rw [List.getD_eq_getElem?_getD, List.getElem?_eq_getElem hlt]; exact List.getElem_mem hlt
      obtain ⟨x0, x1⟩ := HX.out _ hm
      obtain ⟨x, hxx⟩ : ∃ x, x = S.getD k 0 := ⟨_, rfl⟩
      rw [← hxx] at q1 x0 x1 hm
      have HXX := Lib.hid hxx
      have HM := Lib.hid hm
      clear hcc hxx hm
      go_wp2_with fail
      refine (testClo_c b F c p s v x _ (hb.ext hE) (hc.ext hE) (hF.ext hE) V hs x0 x1).mono ?_
      rintro e w1 ⟨rfl, hE1⟩
      cases hd : detV c s v x.toNat
      · go_wp2_with fail
        go_roundw
        case rel =>
          refine ⟨k + 1, by omega, by go_num, Lib.hid (fun j hj => ?_), hE.trans hE1⟩
          rcases Nat.lt_or_ge j k with h | h
          · exact hP.out j h
          · have : j = k := by omega
            subst this
            rw [← HXX.out]; exact hd
        case measure => simp [intOf]; omega
      · go_wp2
        go_ret
        refine ⟨⟨k, rfl, by omega, by omega, ?_⟩, hE.trans hE1⟩
        rw [decide_eq_true (by omega)]
        exact (List.any_eq_true.2 ⟨x, HM.out, hd⟩).symm
    · go_wp2
      go_ret
      refine ⟨⟨-1, rfl, by omega, by omega, ?_⟩, hE⟩
      rw [decide_eq_false (by omega)]
      unfold seenV
      symm
      rw [List.any_eq_false]
      intro x hx
      obtain ⟨j, hj, rfl⟩ := List.mem_iff_getElem.1 hx
      have := hP.out j (by omega)
      rw [List.getD_eq_getElem?_getD, List.getElem?_eq_getElem hj] at this
      simpa using this
theorem hasFunc_c (b F : Nat) (c : Circ) (p : Where3) (s : Int) (v : Bool) (a : Option Addr) (cap : Nat) (S : List Int) (w : World) (hb : CircBox w b c p) (hc : CircAt w c p) (hF : Blk w F 50 [.int .i64 s, .bool v]) (V : c.Valid) (hs : s < c.vars)
    (hS : IntsAt w a S) (hl : S.length ≤ 1000) (hx : ∀ x ∈ S, 0 ≤ x ∧ x ≤ 100000) :
    Calls Try.prog 77 #[.slice a S.length cap, .func (.func 78) #[] #[.pointer (some ⟨b, 0, none⟩), .pointer (some ⟨F, 0, none⟩)]] w fun e w' => e = .returned (.bool (seenV c (s, v) S)) ∧ Ext w w' := by
  go_enter Try.func77, Try.ntmps77
  go_wp2_with fail
  refine (idxFunc_c b F c p s v a cap S _ hb hc hF V hs hS hl hx).mono ?_
  rintro e w1 ⟨⟨i, rfl, hi0, hi1, hi⟩, hE1⟩
  have HI := Lib.hid hi
  clear hi
  go_wp2
  go_ret
  exact ⟨by rw [← HI.out]; rfl, hE1⟩
def GiveI (w : World) (xs : List Int) (e : Ending) (w' : World) : Prop := ∃ v, e = .returned v ∧ OwnInts w' w.heap.size 3 v xs ∧ Ext w w'
theorem GiveI.opened {w w' : World} {xs : List Int} {e : Ending} (h : GiveI w xs e w') : ∃ a c, e = .returned (.slice a xs.length c) ∧ IntsAt w' a xs ∧ Ext w w' := by
  obtain ⟨v, h1, h2, h3⟩ := h
  obtain ⟨a, c, rfl, h4, _⟩ := h2.opened
  exact ⟨a, c, h1, h4, h3⟩
theorem OwnInts.app {w' : World} {base : Nat} {v' : Value} {xs ys : List Int} {n m : Nat} (hn : n = xs.length) (hm : m = ys.length) (h : w'.ownsRow base 3 1 v' (n + m) (xs.map (Value.int .i64) ++ ys.map (Value.int .i64))) : OwnInts w' base 3 v' (xs ++ ys) := by
  subst hn hm
  unfold OwnInts
  rw [List.length_append, List.map_append]; exact h
theorem OwnInts.nil0 {w : World} {base : Nat} : OwnInts w base 3 (.slice none 0 0) [] := ownsRow_nil
theorem OwnInts.lo {w : World} {b : Nat} {v : Value} {xs : List Int} (h : OwnInts w b 3 v xs) : ∀ k, v.ownBlock = some k → b ≤ k ∧ k < w.heap.size := fun k hk => World.ownsRow.lt h k hk
theorem OwnInts.base_le {w : World} {b b2 : Nat} {v : Value} {xs : List Int} (h : OwnInts w b 3 v xs) (hb : b2 ≤ b) : OwnInts w b2 3 v xs := by
  refine ⟨h.1, ?_⟩
  rcases h.2 with h | ⟨g, cap, cur, h1, h2, h3⟩
  · exact .inl h
  · exact .inr ⟨g, cap, cur, h1, Nat.le_trans hb h2, h3⟩
set_option maxHeartbeats 2000000 in
theorem implTestSet_c (c : Circ) (p : Where3) (w : World) (hc : CircAt w c p) :
    Calls Try.prog 22 #[.agg #[.int .i64 c.inputs, .slice p.an c.next.length p.cn, .slice p.ag c.gates.length p.cg, .slice p.ao c.outs.length p.co]] w (GiveI w (tsV c)) := by
  have hsm := faultsV_small c
  have hfv : ∀ k, k < (faultsV c).length → c.Valid ∧ ((faultsV c).getD k (0, false)).1 < c.vars ∧ (faultsV c).length ≤ 1000 := by
    intro k hk
    unfold faultsV at hk ⊢
    cases hv : validB c
    · rw [hv] at hk; simp at hk
    · rw [hv] at hk
      simp only [if_true] at hk ⊢
      have V := validB_iff.1 hv
      have hvl := vars_le V
      exact ⟨V, (fault_in V k hk).2, by rw [faultsN_length]; omega⟩
  have hok : ∀ k, k ≤ (faultsV c).length → TsOk c ((faultsV c).take k) (((faultsV c).take k).foldl (tsStep c) []) := fun k hk => ts_take c _ k hk
  have hsn : ∀ k, k < (faultsV c).length → ((faultsV c).take (k + 1)).foldl (tsStep c) [] = tsStep c (((faultsV c).take k).foldl (tsStep c) []) ((faultsV c).getD k (0, false)) := fun k hk => ts_snoc c _ k hk
  have HFV := Lib.hid hfv
  have HOK := Lib.hid hok
  have HSN := Lib.hid hsn
  have EU : Hid (tsV c = (faultsV c).foldl (tsStep c) []) := Lib.hid rfl
  obtain ⟨fs, hfs⟩ : ∃ fs, fs = faultsV c := ⟨_, rfl⟩
  rw [← hfs] at hsm HFV EU HOK HSN
  have HFS := Lib.hid hfs
  obtain ⟨U, hU⟩ : ∃ U, U = tsV c := ⟨_, rfl⟩
  rw [← hU] at EU ⊢
  clear hfv hfs hU hok hsn
  have y := CircBox.made w c p 42
  go_enter Try.func22, Try.ntmps22
  go_wp2_with fail
  refine (implFaults_c c p _ (hc.ext (by (repeat (first | with_reducible assumption | with_reducible exact Ext.refl _ | with_reducible refine Ext.drew' ?_ | with_reducible refine Ext.drewN' ?_ _ | with_reducible refine Ext.alloc ?_ _ | (with_reducible refine Ext.setNew ?_ (by first | exact Nat.le_refl _ | (simp; done) | (simp; omega) | omega) _)))))).mono ?_
  rw [← HFS.out]
  rintro e w1 ⟨v1, rfl, hO1, hE1⟩
  have E1 := Ext.trans (a := w) (by (repeat (first | with_reducible assumption | with_reducible exact Ext.refl _ | with_reducible refine Ext.drew' ?_ | with_reducible refine Ext.drewN' ?_ _ | with_reducible refine Ext.alloc ?_ _ | (with_reducible refine Ext.setNew ?_ (by first | exact Nat.le_refl _ | (simp; done) | (simp; omega) | omega) _)))) hE1
  replace y := y.ext hE1
  obtain ⟨a1, c1, rfl, hA1⟩ := hO1.opened
  go_wp2_with fail
  go_loopw [3, 10] (fun u3 u10 wr => ∃ k : Nat, k ≤ fs.length ∧ u10 = .int .i64 k ∧ OwnInts wr w1.heap.size 3 u3 ((fs.take k).foldl (tsStep c) []) ∧ Ext w1 wr) (fun _ i _ => fs.length - (intOf i).toNat)
  case atStart => exact ⟨0, Nat.zero_le _, rfl, OwnInts.nil0, Ext.refl _⟩
  case round =>
    obtain ⟨k, hk, rfl, hO, hE⟩ := hrel
    by_cases hlt : k < fs.length
    · obtain ⟨V, hsv, hf1⟩ := HFV.out k hlt
      have hs := HSN.out k hlt
      have ok := HOK.out k hk
      obtain ⟨b1, o1, rfl, hb1, hcc⟩ := FaultsAt.get (RowAt.ext hA1 hE) (by omega)
      obtain ⟨q1, q2⟩ := hcc k hlt
      have hy := y.ext hE
      obtain ⟨s, hs1⟩ : ∃ s, s = (fs.getD k (0, false)).1 := ⟨_, rfl⟩
      obtain ⟨v, hv1⟩ : ∃ v, v = (fs.getD k (0, false)).2 := ⟨_, rfl⟩
      have hpair : fs.getD k (0, false) = (s, v) := by rw [hs1, hv1]
      rw [hpair] at hs
      rw [← hs1] at q1 hsv
      rw [← hv1] at q2
      obtain ⟨S, hS⟩ : ∃ S, S = (fs.take k).foldl (tsStep c) [] := ⟨_, rfl⟩
      rw [← hS] at hO hs ok
      have hal := assigns_le V
      have hSl : S.length ≤ k := by have := ok.len; rw [List.length_take] at this; omega
      have hrng : ∀ x ∈ S, 0 ≤ x ∧ x ≤ 100000 := fun x hx => by have := ok.rng x hx; omega
      have hst : tsStep c S (s, v) = if seenV c (s, v) S then S else if 0 ≤ fst_ c (s, v) then S ++ [fst_ c (s, v)] else S := rfl
      rw [hst] at hs
      obtain ⟨D, hD⟩ : ∃ D, D = fst_ c (s, v) := ⟨_, rfl⟩
      have hDl := fst_lt c (s, v)
      rw [← hD] at hs hDl
      have HDD : Hid (D = firstD (detV c s v) (assigns c)) := Lib.hid hD
      have HS := Lib.hid hs
      have HRNG := Lib.hid hrng
      have hOb := fun k hk => (hO.lo k hk).1
      have f5 := Blk.at wr [.int .i64 s, .bool v] 50 rfl
      have Ef : Ext wr (wr.alloc (.cells #[.int .i64 s, .bool v] 50)) := (Ext.refl wr).alloc _
      obtain ⟨sa, sc, rfl, hSA, _⟩ := hO.opened
      obtain ⟨w2, rfl⟩ : ∃ x : World, x = wr := ⟨_, rfl⟩
      clear hs hs1 hv1 hpair hS hcc hD hst ok hrng
      go_wp2_with fail
      refine (hasFunc_c w.heap.size w2.heap.size c p s v sa sc S _ (hy.ext Ef) ((hc.ext (E1.trans hE)).ext Ef) f5 V hsv (hSA.ext Ef) (by omega) HRNG.out).mono ?_
      rintro e w3 ⟨rfl, hE3⟩
      have F3 := Ef.trans hE3
      have f6 := f5.ext hE3
      have f60 := f6.cell (i := 0) rfl
      have f61 := f6.cell (i := 1) rfl
      have fl6 := f6.lt
      have hy := hy.ext F3
      have hO3 := hO.ext F3
      have sz := hE.size
      have sz2 := F3.size
      cases hse : seenV c (s, v) S
      · go_wp2_with fail
        refine (findTest_c w.heap.size c p s v _ hy (hc.ext ((E1.trans hE).trans F3)) V hsv).mono ?_
        rw [← HDD.out]
        rintro e w4 ⟨rfl, hE4⟩
        have F4 := F3.trans hE4
        have hO4 := hO3.ext hE4
        have sz4 := hE4.size
        by_cases hneg : 0 ≤ D
        · go_wp2_with (at_builtin; refine wpList_app tyInts (ownsRow_ext hO4 (by (repeat (first | with_reducible assumption | with_reducible exact Ext.refl _ | with_reducible refine Ext.drew' ?_ | with_reducible refine Ext.drewN' ?_ _ | with_reducible refine Ext.alloc ?_ _ | (with_reducible refine Ext.setNew ?_ (by first | exact Nat.le_refl _ | (simp; done) | (simp; omega) | omega) _))))) (RowAt.new _ _ _) rfl (by simp [Value.oneCell']) (by omega) (by simp; omega) rfl rfl rfl rfl ?_; intro v3 w5 o3 g3 m3)
          go_roundw
          case rel =>
            have F5 := hE.trans F4
            refine ⟨k + 1, by omega, by go_num, ?_, ext_grown (w1 := World.alloc _ _) (by (repeat (first | with_reducible assumption | with_reducible exact Ext.refl _ | with_reducible refine Ext.drew' ?_ | with_reducible refine Ext.drewN' ?_ _ | with_reducible refine Ext.alloc ?_ _ | (with_reducible refine Ext.setNew ?_ (by first | exact Nat.le_refl _ | (simp; done) | (simp; omega) | omega) _)))) g3 (by intro k hk; have := hOb _ hk; omega)⟩
            rw [HS.out, hse, if_neg (by simp), if_pos hneg]
            exact OwnInts.app rfl rfl o3
          case measure => simp [intOf]; omega
        · go_wp2
          go_roundw
          case rel =>
            refine ⟨k + 1, by omega, by go_num, ?_, hE.trans F4⟩
            rw [HS.out, hse, if_neg (by simp), if_neg (by omega)]
            exact hO4
          case measure => simp [intOf]; omega
      · go_wp2
        go_roundw
        case rel =>
          refine ⟨k + 1, by omega, by go_num, ?_, hE.trans F3⟩
          rw [HS.out, hse, if_pos rfl]
          exact hO3
        case measure => simp [intOf]; omega
    · have hk2 : k = fs.length := by omega
      subst hk2
      rw [List.take_length, ← EU.out] at hO
      go_wp2
      go_ret
      exact ⟨_, rfl, hO.base_le E1.size, E1.trans hE⟩
end Go.Proofs.Ytkdiniaddnhkdaa
