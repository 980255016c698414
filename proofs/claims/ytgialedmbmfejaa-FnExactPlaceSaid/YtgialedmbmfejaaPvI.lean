/- Contract: which placements are valid, the program's. -/
import Derived.Test.YtgialedmbmfejaaBSnk
import Derived.Test.YtgialedmbmfejaaBLut
import Derived.Test.YtgialedmbmfejaaBCel
namespace Go.Proofs.Ytgialedmbmfejaa
open Go.RowKit Go.Maps
set_option maxRecDepth 100000
set_option linter.unusedVariables false
set_option linter.unusedSimpArgs false
/-- Every tile is one of the fabric's, and no tile is used twice. -/
def PlOk (ps : List Int) : Prop := (∀ x ∈ ps, 0 ≤ x ∧ x < 25) ∧ ps.Nodup
open Classical in
noncomputable def pvalV (c : Circ) (ps : List Int) : Bool := validB c && decide (ps.length = (cellsV c).length ∧ PlOk ps)
theorem pval_inv {c : Circ} (h : validB c = false) (ps : List Int) : pvalV c ps = false := by unfold pvalV; rw [h]; rfl
theorem pval_len {c : Circ} {ps : List Int} (h : ps.length ≠ (cellsV c).length) : pvalV c ps = false := by
  unfold pvalV
  rw [@decide_eq_false _ (_) (fun h2 => h h2.1), Bool.and_false]
theorem pval_no {c : Circ} {ps : List Int} (h : ¬ PlOk ps) : pvalV c ps = false := by
  unfold pvalV
  rw [@decide_eq_false _ (_) (fun h2 => h h2.2), Bool.and_false]
theorem pval_yes {c : Circ} {ps : List Int} (h0 : validB c = true) (h1 : ps.length = (cellsV c).length) (h : PlOk ps) : pvalV c ps = true := by
  unfold pvalV
  rw [h0, @decide_eq_true _ (_) ⟨h1, h⟩]; rfl
theorem pval_iff {c : Circ} {ps : List Int} : pvalV c ps = true ↔ c.Valid ∧ ps.length = (cellsV c).length ∧ PlOk ps := by
  unfold pvalV
  rw [Bool.and_eq_true, validB_iff, @decide_eq_true_iff _ (_)]
theorem plOk_take_succ {ps : List Int} {k : Nat} (hk : k < ps.length) : PlOk (ps.take (k + 1)) ↔ PlOk (ps.take k) ∧ (0 ≤ ps.getD k 0 ∧ ps.getD k 0 < 25) ∧ ps.getD k 0 ∉ ps.take k := by
  unfold PlOk
  rw [take_snocD ps k 0 hk]
  constructor
  · rintro ⟨h1, h2⟩
    have h3 := List.nodup_append.1 h2
    exact ⟨⟨fun x hx => h1 x (List.mem_append_left _ hx), h3.1⟩, h1 _ (by simp), fun hm => h3.2.2 _ hm _ (by simp) rfl⟩
  · rintro ⟨⟨h1, h2⟩, h3, h4⟩
    refine ⟨fun x hx => ?_, List.nodup_append.2 ⟨h2, by simp, fun a ha b hb => ?_⟩⟩
    · rcases List.mem_append.1 hx with h | h
      · exact h1 x h
      · simp at h; rw [h]; exact h3
    · rw [List.mem_singleton] at hb
      subst hb
      exact fun e => h4 (e ▸ ha)
theorem plOk_take {ps : List Int} (h : PlOk ps) (k : Nat) : PlOk (ps.take k) := ⟨fun x hx => h.1 x (List.mem_of_mem_take hx), h.2.sublist (List.take_sublist _ _)⟩
theorem plOk_no {ps : List Int} {k : Nat} (hk : k < ps.length) (h : ¬ ((0 ≤ ps.getD k 0 ∧ ps.getD k 0 < 25) ∧ ps.getD k 0 ∉ ps.take k)) : ¬ PlOk ps := fun h2 => h ((plOk_take_succ hk).1 (plOk_take h2 (k + 1))).2
/-- 'm[x]' -/
theorem MapB.look1 {w : World} {mb n : Nat} {D : DataW Unit} (h : MapB w mb n D) {x : Int} (h1 : -9000000000000000000 ≤ x) (h2 : x ≤ 9000000000000000000) : ∃ c, (Instr.lookup 101 (.map (some mb)) (.int .i64 x) false).run Try.prog w = .ok (.bool c) w ∧ D.atKey (iKey x) (.lit (.bool false)) = .lit (.bool c) := by
  obtain ⟨v, ps, hr, hv⟩ := h.lookup iLaw biMapTy (biZero w) (biElem_of false) (iKeyOf x h1 h2)
  obtain ⟨c, rfl, e⟩ := biElem_inv hv
  simp at e
  exact ⟨c, hr, e.1⟩
/-- The map says which tiles are used. -/
def UseI (w : World) (mb n : Nat) (S : List Int) : Prop := ∃ D, MapB w mb n D ∧ ∀ v : Nat, v < 25 → D.atKey (iKey v) (.lit (.bool false)) = .lit (.bool (S.contains (v : Int)))
theorem UseI.ext {w w' : World} {mb n : Nat} {S : List Int} (h : UseI w mb n S) (e : Ext w w') : UseI w' mb n S := by obtain ⟨D, h, r⟩ := h; exact ⟨D, h.ext e, r⟩
theorem UseI.made (w : World) {B : Nat} (h : w.heap.size = B) : UseI (w.alloc (.map #[] 0)) B 0 [] := ⟨_, MapB.made w h, fun v hv => by simp [DataW.atKey]⟩
theorem UseI.put {w w1 : World} {mb n : Nat} {S : List Int} {D : DataW Unit} (h1 : MapB w mb n D) (h2 : ∀ v : Nat, v < 25 → D.atKey (iKey v) (.lit (.bool false)) = .lit (.bool (S.contains (v : Int)))) {x : Nat} (hx : x < 25) (h4 : MapB w1 mb (n + 1) (D.put (iKey x) (.lit (.bool true)))) : UseI w1 mb (n + 1) (S ++ [(x : Int)]) := by
  refine ⟨_, h4, fun v hv => ?_⟩
  by_cases e : v = x
  · subst e
    rw [atKey_put_same h1.isMap (iKey_is (by omega) (by omega)) _ _]
    have : (S ++ [(v : Int)]).contains (v : Int) = true := by simp
    rw [this]
  · rw [atKey_put_other (iKey_ne (by omega)), h2 v hv]
    have : (S ++ [(x : Int)]).contains (v : Int) = S.contains (v : Int) := by
      rw [Bool.eq_iff_iff, List.contains_iff_mem, List.contains_iff_mem, List.mem_append, List.mem_singleton]
      constructor
      · rintro (h | h)
        · exact h
        · omega
      · exact .inl
    rw [this]
set_option maxHeartbeats 4000000 in
theorem implPlacementValid_c (c : Circ) (p : Where3) (a : Option Addr) (cap : Nat) (ps : List Int) (w : World) (hc : CircAt w c p) (hp : IntsAt w a ps) (hl : ps.length ≤ 1048576) :
    Calls Try.prog 19 #[.agg #[.int .i64 c.inputs, .slice p.an c.next.length p.cn, .slice p.ag c.gates.length p.cg, .slice p.ao c.outs.length p.co], .slice a ps.length cap] w fun e w' => e = .returned (.bool (pvalV c ps)) ∧ Ext w w' := by
  have E0 : Ext w (w.alloc (.cells #[.int .i64 c.inputs, .slice p.an c.next.length p.cn, .slice p.ag c.gates.length p.cg, .slice p.ao c.outs.length p.co] 26)) := (Ext.refl w).alloc _
  have y := CircBox.made w c p 26
  obtain ⟨hn17, _⟩ := cells_sm c
  have HP1 := Lib.hid (pval_inv (c := c))
  have HP2 := Lib.hid (pval_len (c := c) (ps := ps))
  have HP3 := Lib.hid (pval_no (c := c) (ps := ps))
  have HP4 := Lib.hid (pval_yes (c := c) (ps := ps))
  obtain ⟨cs, hcs⟩ : ∃ cs, cs = cellsV c := ⟨_, rfl⟩
  rw [← hcs] at hn17 HP2 HP4
  have HCS := Lib.hid hcs
  obtain ⟨D, hD⟩ : ∃ D, D = pvalV c ps := ⟨_, rfl⟩
  rw [← hD] at HP2 HP3 HP4 ⊢
  have HD := Lib.hid hD
  clear hD hcs
  (obtain ⟨lb, b0, b1, b2, b3⟩ := (id y))
  go_enter Try.func19, Try.ntmps19
  go_wp2_with fail
  refine (implCircuitValid_c c p _ (hc.ext E0)).mono ?_
  rintro e w1 ⟨rfl, hE1⟩
  clear b0 b1 b2 b3 lb
  cases hv : validB c
  · have hd : D = false := by rw [HD.out]; exact HP1.out hv ps
    subst hd
    clear HP1 HP2 HP3 HP4
    go_wp2
    go_ret
    exact ⟨rfl, E0.trans hE1⟩
  · have y1 := y.ext hE1
    have E1 := E0.trans hE1
    have HV := Lib.hid hv
    clear hv y HP1
    (obtain ⟨lb, b0, b1, b2, b3⟩ := (id y1))
    go_wp2_with fail
    refine (implCells_c c p _ (hc.ext E1)).mono ?_
    rw [← HCS.out]
    rintro e w2 ⟨v, F, rfl, hN, _, hE2⟩
    obtain ⟨ca, cc, rfl, _⟩ := hN.sl
    have E2 := E1.trans hE2
    clear b0 b1 b2 b3 lb y1 hN HCS
    by_cases hlen : ps.length = cs.length
    · have hne : ((ps.length : Int) != (cs.length : Int)) = false := by rw [hlen]; exact bne_self_eq_false _
      have HLN := Lib.hid hlen
      have hl17 : ps.length ≤ 17 := by omega
      have hmm := @run_makeMap Try.prog
      have M0 := UseI.made w2 rfl
      clear hlen HP2
      go_wp2_with fail
      clear hmm
      go_loopw [22] (fun u22 wr => ∃ k : Nat, k ≤ ps.length ∧ u22 = .int .i64 k ∧ Hid (PlOk (ps.take k)) ∧ UseI wr w2.heap.size k (ps.take k) ∧ w.grownBy wr (some w2.heap.size)) (fun v _ => ps.length - (intOf v).toNat)
      case atStart => exact ⟨0, Nat.zero_le _, rfl, Lib.hid ⟨by simp, by simp⟩, M0, Gr.ext (Ext.trans E2 (by (repeat (first | with_reducible assumption | with_reducible exact Ext.refl _ | with_reducible refine Ext.drew' ?_ | with_reducible refine Ext.drewN' ?_ _ | with_reducible refine Ext.alloc ?_ _ | (with_reducible refine Ext.setNew ?_ (by first | exact Nat.le_refl _ | (simp; done) | (simp; omega) | omega) _))))) _⟩
      case round =>
        clear M0
        obtain ⟨k, hk, rfl, HPO, hU, hG⟩ := hrel
        obtain ⟨w3, rfl⟩ : ∃ z : World, z = wr := ⟨_, rfl⟩
        have E3 : Ext w w3 := gr_behind (w0 := w) hG (Ext.refl _) E2.size
        by_cases hlt : k < ps.length
        · obtain ⟨b2, o2, rfl, hb2, hc2⟩ := (hp.ext E3).get (by omega)
          have q2 := hc2 k hlt
          have hts := plOk_take_succ hlt
          have hno := plOk_no hlt
          have htk := take_snocD ps k 0 hlt
          obtain ⟨z, hz⟩ : ∃ z, z = ps.getD k 0 := ⟨_, rfl⟩
          rw [← hz] at q2 hts hno htk
          have HTS := Lib.hid hts
          have HNO := Lib.hid hno
          have HTK := Lib.hid htk
          clear hc2 hz hts hno htk
          by_cases h1 : z < 0
          · have hd : D = false := HP3.out (HNO.out (by omega))
            subst hd
            clear HP3 HP4
            go_wp2
            go_ret
            exact ⟨rfl, E3⟩
          · by_cases h2 : 25 ≤ z
            · have hd : D = false := HP3.out (HNO.out (by omega))
              have hdec : decide (25 ≤ z) = true := by simp [h2]
              subst hd
              clear HP3 HP4
              go_wp2
              go_ret
              exact ⟨rfl, E3⟩
            · obtain ⟨u, rfl⟩ : ∃ u : Nat, z = u := ⟨z.toNat, by omega⟩
              have hu : u < 25 := by omega
              obtain ⟨DD, k1, k2⟩ := hU
              obtain ⟨cv, hlk, hat⟩ := k1.look1 (x := (u : Int)) (by omega) (by omega)
              have hcv := k2 u hu
              rw [hat] at hcv
              simp at hcv
              cases cv
              · have hnm : (u : Int) ∉ ps.take k := by simpa using hcv
                have hpo : PlOk (ps.take (k + 1)) := HTS.out.2 ⟨HPO.out, by omega, hnm⟩
                have HPO2 := Lib.hid hpo
                have hng1 : ¬ (25 : Int) ≤ (u : Int) := h2
                have k1' := k1
                have KP := Lib.hid (fun w9 h => UseI.put (w1 := w9) k1 k2 hu h)
                clear hcv hnm hpo k2 hat HNO HTS
                go_wp2_with (at_mapUpdate; refine wpList_mapUpdate_own _ rfl _ _ _ 101 rfl 3 4 iLaw biMapTy _ w2.heap.size k DD rfl k1 (by unfold maxLen; omega) _ _ (iKey u) rfl rfl (iKeyOf _ (by omega) (by omega)) _ _ (biElem_of true) ?_; intro w9 hown9 g9)
                go_roundw
                case rel => exact ⟨k + 1, by omega, by go_num, HPO2, by rw [HTK.out]; exact KP.out w9 hown9, Gr.trans hG g9⟩
                case measure => simp [intOf]; omega
              · have hm : (u : Int) ∈ ps.take k := by simpa using hcv
                have hd : D = false := HP3.out (HNO.out (fun h => h.2 hm))
                subst hd
                clear HP3 HP4 hcv hm k1 k2 hat HNO HTS
                go_wp2
                go_ret
                exact ⟨rfl, E3⟩
        · have hk2 : k = ps.length := by omega
          rw [hk2, List.take_length] at HPO
          have hd : D = true := HP4.out HV.out HLN.out HPO.out
          subst hd
          clear HP3 HP4
          go_wp2
          go_ret
          exact ⟨rfl, E3⟩
    · have hd : D = false := HP2.out hlen
      have hne : ((ps.length : Int) != (cs.length : Int)) = true := by simp; omega
      subst hd
      clear HP2 HP3 HP4
      go_wp2
      go_ret
      exact ⟨rfl, E2⟩
end Go.Proofs.Ytgialedmbmfejaa
