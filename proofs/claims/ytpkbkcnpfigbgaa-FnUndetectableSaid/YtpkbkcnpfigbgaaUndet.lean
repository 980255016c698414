/- Contracts of Undetectable. -/
import Derived.Test.YtpkbkcnpfigbgaaFaults
import Derived.Test.YtpkbkcnpfigbgaaFind
import Derived.Test.YtpkbkcnpfigbgaaFindS
namespace Go.Proofs.Ytpkbkcnpfigbgaa
open Go.RowKit
set_option maxRecDepth 100000
set_option linter.unusedVariables false
set_option linter.unusedSimpArgs false
def noTest (c : Circ) (f : Int × Bool) : Bool := decide (firstD (detV c f.1 f.2) (assigns c) < 0)
noncomputable def undetV (c : Circ) : List (Int × Bool) := (faultsV c).filter (noTest c)
theorem faultsN_get : ∀ n k, k < n * 2 → (faultsN n).getD k (0, false) = ((((k / 2 : Nat) : Int) + 1), k % 2 == 1) := by
  intro n
  induction n with
  | zero => intro k h; omega
  | succ n ih =>
    intro k h
    rw [faultsN_succ]
    have hl := faultsN_length n
    rcases Nat.lt_or_ge k (n * 2) with hk | hk
    · rw [getD_append_left _ _ _ _ (by omega)]; exact ih k hk
    · rw [List.getD_eq_getElem?_getD, List.getElem?_append_right (by omega), hl]
      rcases Nat.eq_or_lt_of_le hk with he | he
      · subst he
        have e1 : n * 2 / 2 = n := by omega
        have e2 : n * 2 % 2 = 0 := by omega
        simp [e1, e2]
      · have e0 : k = n * 2 + 1 := by omega
        subst e0
        have e1 : (n * 2 + 1) / 2 = n := by omega
        have e2 : (n * 2 + 1) % 2 = 1 := by omega
        have e3 : n * 2 + 1 - n * 2 = 1 := by omega
        simp [e1, e2, e3]
theorem filter_snoc {α : Type} (p : α → Bool) (xs : List α) (k : Nat) (d : α) (h : k < xs.length) : (xs.take (k + 1)).filter p = (xs.take k).filter p ++ (if p (xs.getD k d) then [xs.getD k d] else []) := by
  rw [take_snocG xs k d h, List.filter_append]
  congr 1
  cases hp : p (xs.getD k d)
  · simp only [List.filter_cons, hp, List.filter_nil] <;> rfl
  · simp only [List.filter_cons, hp, List.filter_nil] <;> rfl
theorem fault_in {c : Circ} (V : c.Valid) (k : Nat) (h : k < (faultsN (c.vars - 1).toNat).length) : 1 ≤ ((faultsN (c.vars - 1).toNat).getD k (0, false)).1 ∧ ((faultsN (c.vars - 1).toNat).getD k (0, false)).1 < c.vars := by
  rw [faultsN_length] at h
  rw [faultsN_get _ _ h]
  have := vars_le V
  constructor <;> simp <;> omega
def UndetRel (w1 : World) (c : Circ) (p : Where3) (b : Nat) (fs : List (Int × Bool)) (u3 u9 : Value) (wr : World) : Prop :=
  ∃ k : Nat, k ≤ fs.length ∧ u9 = .int .i64 k ∧ OwnF wr w1.heap.size u3 ((fs.take k).filter (noTest c)) ∧ Ext w1 wr
set_option maxHeartbeats 2000000 in
theorem implUndetectable_c (c : Circ) (p : Where3) (w : World) (hc : CircAt w c p) :
    Calls Try.prog 20 #[.agg #[.int .i64 c.inputs, .slice p.an c.next.length p.cn, .slice p.ag c.gates.length p.cg, .slice p.ao c.outs.length p.co]] w (GiveF w (undetV c)) := by
  have hsm := faultsV_small c
  have hfv : ∀ k, k < (faultsV c).length → c.Valid ∧ ((faultsV c).getD k (0, false)).1 < c.vars := by
    intro k hk
    unfold faultsV at hk ⊢
    cases hv : validB c
    · rw [hv] at hk; simp at hk
    · rw [hv] at hk
      simp only [if_true] at hk ⊢
      exact ⟨validB_iff.1 hv, (fault_in (validB_iff.1 hv) k hk).2⟩
  have HFV := Lib.hid hfv
  have EU : Hid (undetV c = (faultsV c).filter (noTest c)) := Lib.hid rfl
  obtain ⟨fs, hfs⟩ : ∃ fs, fs = faultsV c := ⟨_, rfl⟩
  rw [← hfs] at hsm HFV EU
  have HFS := Lib.hid hfs
  obtain ⟨U, hU⟩ : ∃ U, U = undetV c := ⟨_, rfl⟩
  rw [← hU] at EU ⊢
  clear hfv hfs hU
  have y := CircBox.made w c p 42
  go_enter Try.func20, Try.ntmps20
  go_wp2_with fail
  refine (implFaults_c c p _ (hc.ext (by (repeat (first | with_reducible assumption | with_reducible exact Ext.refl _ | with_reducible refine Ext.drew' ?_ | with_reducible refine Ext.drewN' ?_ _ | with_reducible refine Ext.alloc ?_ _ | (with_reducible refine Ext.setNew ?_ (by first | exact Nat.le_refl _ | (simp; done) | (simp; omega) | omega) _)))))).mono ?_
  rw [← HFS.out]
  rintro e w1 ⟨v1, rfl, hO1, hE1⟩
  have E1 := Ext.trans (a := w) (by (repeat (first | with_reducible assumption | with_reducible exact Ext.refl _ | with_reducible refine Ext.drew' ?_ | with_reducible refine Ext.drewN' ?_ _ | with_reducible refine Ext.alloc ?_ _ | (with_reducible refine Ext.setNew ?_ (by first | exact Nat.le_refl _ | (simp; done) | (simp; omega) | omega) _)))) hE1
  replace y := y.ext hE1
  obtain ⟨a1, c1, rfl, hA1⟩ := hO1.opened
  go_wp2_with fail
  go_loopw [3, 9] (UndetRel w1 c p w.heap.size fs) (fun _ i _ => fs.length - (intOf i).toNat)
  case atStart => exact ⟨0, Nat.zero_le _, rfl, OwnF.nil, Ext.refl _⟩
  case round =>
    obtain ⟨k, hk, rfl, hO, hE⟩ := hrel
    by_cases hlt : k < fs.length
    · obtain ⟨V, hsv⟩ := HFV.out k hlt
      have hs := filter_snoc (noTest c) fs k (0, false) hlt
      obtain ⟨b1, o1, rfl, hb1, hcc⟩ := FaultsAt.get (RowAt.ext hA1 hE) (by omega)
      obtain ⟨q1, q2⟩ := hcc k hlt
      have hy := y.ext hE
      have hlen : ((fs.take k).filter (noTest c)).length ≤ k := Nat.le_trans (List.length_filter_le _ _) (by rw [List.length_take]; omega)
      obtain ⟨s, hs1⟩ : ∃ s, s = (fs.getD k (0, false)).1 := ⟨_, rfl⟩
      obtain ⟨v, hv1⟩ : ∃ v, v = (fs.getD k (0, false)).2 := ⟨_, rfl⟩
      have hpair : fs.getD k (0, false) = (s, v) := by rw [hs1, hv1]
      rw [hpair] at hs
      rw [← hs1] at q1 hsv
      rw [← hv1] at q2
      obtain ⟨xs, hxs⟩ : ∃ xs, xs = (fs.take k).filter (noTest c) := ⟨_, rfl⟩
      rw [← hxs] at hO hs hlen
      have HS := Lib.hid hs
      obtain ⟨D, hD⟩ : ∃ D, D = firstD (detV c s v) (assigns c) := ⟨_, rfl⟩
      have HDD := Lib.hid hD
      have hnt : noTest c (s, v) = decide (D < 0) := by unfold noTest; rw [hD]
      have HNT := Lib.hid hnt
      have hOb := fun k hk => (hO.lt' k hk).1
      have f5 := Blk.at wr [.int .i64 s, .bool v] 48 rfl
      clear hs hs1 hv1 hpair hxs hcc hD hnt
      go_wp2_with fail
      refine (findTest_c w.heap.size c p s v _ (hy.ext (by (repeat (first | with_reducible assumption | with_reducible exact Ext.refl _ | with_reducible refine Ext.drew' ?_ | with_reducible refine Ext.drewN' ?_ _ | with_reducible refine Ext.alloc ?_ _ | (with_reducible refine Ext.setNew ?_ (by first | exact Nat.le_refl _ | (simp; done) | (simp; omega) | omega) _))))) ((hc.ext (E1.trans hE)).ext (by (repeat (first | with_reducible assumption | with_reducible exact Ext.refl _ | with_reducible refine Ext.drew' ?_ | with_reducible refine Ext.drewN' ?_ _ | with_reducible refine Ext.alloc ?_ _ | (with_reducible refine Ext.setNew ?_ (by first | exact Nat.le_refl _ | (simp; done) | (simp; omega) | omega) _))))) V hsv).mono ?_
      rw [← HDD.out]
      rintro e w2 ⟨rfl, hE2⟩
      have F2 := Ext.trans (a := wr) (by (repeat (first | with_reducible assumption | with_reducible exact Ext.refl _ | with_reducible refine Ext.drew' ?_ | with_reducible refine Ext.drewN' ?_ _ | with_reducible refine Ext.alloc ?_ _ | (with_reducible refine Ext.setNew ?_ (by first | exact Nat.le_refl _ | (simp; done) | (simp; omega) | omega) _)))) hE2
      have f6 := f5.ext hE2
      have f60 := f6.cell (i := 0) rfl
      have f61 := f6.cell (i := 1) rfl
      have hO2 := hO.ext F2
      have sz := hE.size
      have sz2 := F2.size
      by_cases hneg : D < 0
      · go_wp2_with (at_builtin; refine wpList_app tyFaults (ownsRow_ext hO2 (by (repeat (first | with_reducible assumption | with_reducible exact Ext.refl _ | with_reducible refine Ext.drew' ?_ | with_reducible refine Ext.drewN' ?_ _ | with_reducible refine Ext.alloc ?_ _ | (with_reducible refine Ext.setNew ?_ (by first | exact Nat.le_refl _ | (simp; done) | (simp; omega) | omega) _))))) (RowAt.new _ _ _) rfl (by simp [Value.oneCell']) (by omega) (by simp; omega) rfl rfl rfl rfl ?_; intro v3 w3 o3 g3 m3)
        go_roundw
        case rel =>
          have F3 := hE.trans F2
          refine ⟨k + 1, by omega, by go_num, ?_, ext_grown (w1 := World.alloc _ _) (by (repeat (first | with_reducible assumption | with_reducible exact Ext.refl _ | with_reducible refine Ext.drew' ?_ | with_reducible refine Ext.drewN' ?_ _ | with_reducible refine Ext.alloc ?_ _ | (with_reducible refine Ext.setNew ?_ (by first | exact Nat.le_refl _ | (simp; done) | (simp; omega) | omega) _)))) g3 (by intro k hk; have := hOb _ hk; omega)⟩
          rw [HS.out, HNT.out, if_pos (by simp; omega)]
          exact OwnF.app rfl rfl o3
        case measure => simp [intOf]; omega
      · go_wp2
        go_roundw
        case rel =>
          refine ⟨k + 1, by omega, by go_num, ?_, hE.trans F2⟩
          rw [HS.out, HNT.out, if_neg (by simp; omega), List.append_nil]
          exact hO2
        case measure => simp [intOf]; omega
    · have hk2 : k = fs.length := by omega
      subst hk2
      rw [List.take_length, ← EU.out] at hO
      go_wp2
      go_ret
      exact ⟨_, rfl, hO.le E1.size, E1.trans hE⟩
theorem own_ne' {v u : Value} (h : ∀ k, v.ownBlock = some k → u.ownBlock = some k → False) : v.ownBlock = none ∨ v.ownBlock ≠ u.ownBlock := by
  cases hb : v.ownBlock with
  | none => exact .inl rfl
  | some k => exact .inr (fun hh => h k hb hh.symm)
set_option maxHeartbeats 2000000 in
theorem specUndetectable_c (c : Circ) (p : Where3) (w : World) (hc : CircAt w c p) :
    Calls Try.prog 21 #[.agg #[.int .i64 c.inputs, .slice p.an c.next.length p.cn, .slice p.ag c.gates.length p.cg, .slice p.ao c.outs.length p.co]] w (GiveF w (undetV c)) := by
  have y := (CircBox.made w c p 42).ext ((Ext.refl _).alloc (.cells #[] 48))
  have B0 := Blk.at (w.alloc (.cells #[.int .i64 c.inputs, .slice p.an c.next.length p.cn, .slice p.ag c.gates.length p.cg, .slice p.ao c.outs.length p.co] 42)) [] 48 (B := w.heap.size + 1) (by simp)
  have O0 : OwnF ((w.alloc (.cells #[.int .i64 c.inputs, .slice p.an c.next.length p.cn, .slice p.ag c.gates.length p.cg, .slice p.ao c.outs.length p.co] 42)).alloc (.cells #[] 48)) (w.heap.size + 1) (.slice (some ⟨w.heap.size + 1, 0, none⟩) 0 0) [] := B0.owns (n := 0) (size := 2) rfl (Nat.le_refl _) (by decide)
  obtain ⟨U, hU⟩ : ∃ U, U = undetV c := ⟨_, rfl⟩
  rw [← hU]
  have HU := Lib.hid hU
  clear hU
  cases hv : validB c
  · have HV := Lib.hid hv
    clear hv
    go_enter Try.func21, Try.ntmps21
    go_wp2_with fail
    refine (specCircuitValid_c c p _ (hc.ext (by (repeat (first | with_reducible assumption | with_reducible exact Ext.refl _ | with_reducible refine Ext.drew' ?_ | with_reducible refine Ext.drewN' ?_ _ | with_reducible refine Ext.alloc ?_ _ | (with_reducible refine Ext.setNew ?_ (by first | exact Nat.le_refl _ | (simp; done) | (simp; omega) | omega) _)))))).mono ?_
    rw [HV.out]
    rintro e w1 ⟨rfl, hE1⟩
    have E1 := Ext.trans (a := w) (by (repeat (first | with_reducible assumption | with_reducible exact Ext.refl _ | with_reducible refine Ext.drew' ?_ | with_reducible refine Ext.drewN' ?_ _ | with_reducible refine Ext.alloc ?_ _ | (with_reducible refine Ext.setNew ?_ (by first | exact Nat.le_refl _ | (simp; done) | (simp; omega) | omega) _)))) hE1
    go_wp2
    go_ret
    refine ⟨_, rfl, ?_, E1⟩
    have : U = [] := by rw [HU.out]; unfold undetV faultsV; rw [HV.out]; rfl
    rw [this]
    exact (O0.ext hE1).le (by omega)
  have V := validB_iff.1 hv
  have HV := Lib.hid hv
  clear hv
  have hvl := vars_le V
  have hfi := fun k hk => fault_in V k hk
  have hfl := faultsN_length (c.vars - 1).toNat
  obtain ⟨fs, hfs⟩ : ∃ fs, fs = faultsN (c.vars - 1).toNat := ⟨_, rfl⟩
  have hU2 : U = fs.filter (noTest c) := by rw [HU.out, hfs]; unfold undetV faultsV; rw [HV.out]; rfl
  rw [← hfs] at hfi hfl
  have HFS := Lib.hid hfs
  have HFI := Lib.hid hfi
  have EU := Lib.hid hU2
  have hsm : fs.length ≤ 1000 := by omega
  clear hfs hfi hU2 hfl
  go_enter Try.func21, Try.ntmps21
  go_wp2_with fail
  refine (specCircuitValid_c c p _ (hc.ext (by (repeat (first | with_reducible assumption | with_reducible exact Ext.refl _ | with_reducible refine Ext.drew' ?_ | with_reducible refine Ext.drewN' ?_ _ | with_reducible refine Ext.alloc ?_ _ | (with_reducible refine Ext.setNew ?_ (by first | exact Nat.le_refl _ | (simp; done) | (simp; omega) | omega) _)))))).mono ?_
  rw [HV.out]
  rintro e w1 ⟨rfl, hE1⟩
  have E1 := Ext.trans (a := w) (by (repeat (first | with_reducible assumption | with_reducible exact Ext.refl _ | with_reducible refine Ext.drew' ?_ | with_reducible refine Ext.drewN' ?_ _ | with_reducible refine Ext.alloc ?_ _ | (with_reducible refine Ext.setNew ?_ (by first | exact Nat.le_refl _ | (simp; done) | (simp; omega) | omega) _)))) hE1
  replace y := y.ext hE1
  replace O0 := O0.ext hE1
  (obtain ⟨la, a0, a1, a2, a3⟩ := (id y))
  go_wp2_with fail
  refine (l12Faults_c c p _ (hc.ext E1) V).mono ?_
  rw [← HFS.out]
  rintro e w2 ⟨v2, rfl, hO2, hE2⟩
  have E2 := E1.trans hE2
  replace y := y.ext hE2
  replace O0 := O0.ext hE2
  obtain ⟨a2', c2, rfl, hA2⟩ := hO2.opened
  have hOb2 := fun k hk => hO2.lt' k hk
  have s1 := E1.size
  have s1b := hE1.size
  simp at s1b
  clear a0 a1 a2 a3 la
  go_wp2_with fail
  go_loopw [3, 5] (fun u3 u5 wr => ∃ k : Nat, k ≤ fs.length ∧ u5 = .int .i64 k ∧ OwnF wr (w.heap.size + 1) u3 ((fs.take k).filter (noTest c)) ∧ (∀ q, u3.ownBlock = some q → q < w1.heap.size ∨ w2.heap.size ≤ q) ∧ OwnF wr w1.heap.size (.slice a2' fs.length c2) fs ∧ CircBox wr w.heap.size c p ∧ Ext w wr ∧ w2.heap.size ≤ wr.heap.size) (fun _ i _ => fs.length - (intOf i).toNat)
  case atStart => exact ⟨0, Nat.zero_le _, rfl, O0, fun q hq => .inl (by simp [Value.ownBlock] at hq; omega), hO2, y, E2, Nat.le_refl _⟩
  case round =>
    obtain ⟨k, hk, rfl, hO, hOq, hR, hy, hE, hsz⟩ := hrel
    (obtain ⟨la, a0, a1, a2, a3⟩ := (id hy))
    have szE := hE.size
    by_cases hlt : k < fs.length
    · obtain ⟨h1s, hsv⟩ := HFI.out k hlt
      have hs := filter_snoc (noTest c) fs k (0, false) hlt
      obtain ⟨a4, c4, e4, hA⟩ := hR.opened
      have e4a : a2' = a4 := by cases e4; rfl
      rw [← e4a] at hA
      obtain ⟨b1, o1, hba, hb1, hcc⟩ := FaultsAt.get hA (by omega)
      subst hba
      clear e4 e4a
      obtain ⟨q1, q2⟩ := hcc k hlt
      have hlen : ((fs.take k).filter (noTest c)).length ≤ k := Nat.le_trans (List.length_filter_le _ _) (by rw [List.length_take]; omega)
      obtain ⟨s, hs1⟩ : ∃ s, s = (fs.getD k (0, false)).1 := ⟨_, rfl⟩
      obtain ⟨v, hv1⟩ : ∃ v, v = (fs.getD k (0, false)).2 := ⟨_, rfl⟩
      have hpair : fs.getD k (0, false) = (s, v) := by rw [hs1, hv1]
      rw [hpair] at hs
      rw [← hs1] at q1 h1s hsv
      rw [← hv1] at q2
      obtain ⟨xs, hxs⟩ : ∃ xs, xs = (fs.take k).filter (noTest c) := ⟨_, rfl⟩
      rw [← hxs] at hO hs hlen
      have HS := Lib.hid hs
      obtain ⟨D, hD⟩ : ∃ D, D = firstD (detV c s v) (assigns c) := ⟨_, rfl⟩
      have HDD := Lib.hid hD
      have hnt : noTest c (s, v) = decide (D < 0) := by unfold noTest; rw [hD]
      have HNT := Lib.hid hnt
      have hOb := fun k hk => (hO.lt' k hk).1
      clear hs hs1 hv1 hpair hxs hcc hD hnt
      go_wp2_with fail
      go_region_held3 ((fun w' => (∀ b o, b < wr.heap.size → w'.cell? ⟨b, o, none⟩ = wr.cell? ⟨b, o, none⟩) ∧ Ext wr w')) ((first | assumption | (with_reducible exact held_mk (Ext.drew wr)) | (with_reducible exact held_mk (((Ext.refl wr).alloc _).drew')) | (with_reducible exact held_mk ((Ext.drew wr).alloc _)))) (first | (go_simp; go_at_call 70; refine (l12Find_c c p s v _ (hc.ext (hE.trans (Ext.drew _))) V h1s hsv).mono ?_; rw [← HDD.out]; rintro e w3 ⟨rfl, hE3⟩; have hK3 := held_mk ((Ext.drew wr).trans hE3)))
      have F3 := held_ext hK3
      have hO3 := hO.ext F3
      have hR3 := hR.ext F3
      have sz3 := F3.size
      have p1 := (ecell F3).1 b1 (o1 + k * 2) hb1
      have p2 := (ecell F3).1 b1 (o1 + k * 2 + 1) hb1
      rw [q1] at p1
      rw [q2] at p2
      clear a0 a1 a2 a3 la
      by_cases hneg : D < 0
      · go_wp2_with (at_builtin; refine wpList_app tyFaults (ownsRow_ext hO3 (by (repeat (first | with_reducible assumption | with_reducible exact Ext.refl _ | with_reducible refine Ext.drew' ?_ | with_reducible refine Ext.drewN' ?_ _ | with_reducible refine Ext.alloc ?_ _ | (with_reducible refine Ext.setNew ?_ (by first | exact Nat.le_refl _ | (simp; done) | (simp; omega) | omega) _))))) (RowAt.new _ _ _) rfl (by simp [Value.oneCell']) (by omega) (by simp; omega) rfl rfl rfl rfl ?_; intro v3 w4 o3 g3 m3)
        go_roundw
        case rel =>
          have F4 := hE.trans F3
          have h3q := fun (q : Nat) (hq : (u3 : Value).ownBlock = some q) => hOq q hq
          refine ⟨k + 1, by omega, by go_num, ?_, ?_, ?_, ?_, ext_grown (w1 := World.alloc _ _) (by (repeat (first | with_reducible assumption | with_reducible exact Ext.refl _ | with_reducible refine Ext.drew' ?_ | with_reducible refine Ext.drewN' ?_ _ | with_reducible refine Ext.alloc ?_ _ | (with_reducible refine Ext.setNew ?_ (by first | exact Nat.le_refl _ | (simp; done) | (simp; omega) | omega) _)))) g3 (by intro k hk; have := hOb _ hk; omega), by have := g3.size; simp at this; omega⟩
          · rw [HS.out, HNT.out, if_pos (by simp; omega)]
            exact OwnF.app rfl rfl o3
          · intro q hq
            rcases m3 with h | ⟨k', h, hk'⟩
            · exact hOq q (h.symm.trans hq)
            · have : k' = q := Option.some.inj (h.symm.trans hq)
              simp at hk'
              exact .inr (by omega)
          · exact ownsRow_gr (ownsRow_ext hR3 (by (repeat (first | with_reducible assumption | with_reducible exact Ext.refl _ | with_reducible refine Ext.drew' ?_ | with_reducible refine Ext.drewN' ?_ _ | with_reducible refine Ext.alloc ?_ _ | (with_reducible refine Ext.setNew ?_ (by first | exact Nat.le_refl _ | (simp; done) | (simp; omega) | omega) _))))) g3 (own_ne' (fun q h1 h2 => by have q1 := hOb2 q h1; have q2 := hOq q h2; omega))
          · exact ((hy.ext F3).ext (by (repeat (first | with_reducible assumption | with_reducible exact Ext.refl _ | with_reducible refine Ext.drew' ?_ | with_reducible refine Ext.drewN' ?_ _ | with_reducible refine Ext.alloc ?_ _ | (with_reducible refine Ext.setNew ?_ (by first | exact Nat.le_refl _ | (simp; done) | (simp; omega) | omega) _))))).grn g3 (by intro h; have := hOb _ h; omega)
        case measure => simp [intOf]; omega
      · go_wp2
        go_roundw
        case rel =>
          refine ⟨k + 1, by omega, by go_num, ?_, hOq, hR3, hy.ext F3, hE.trans F3, by omega⟩
          rw [HS.out, HNT.out, if_neg (by simp; omega), List.append_nil]
          exact hO3
        case measure => simp [intOf]; omega
    · have hk2 : k = fs.length := by omega
      subst hk2
      rw [List.take_length, ← EU.out] at hO
      go_wp2
      go_ret
      exact ⟨_, rfl, hO.le (by omega), hE⟩
end Go.Proofs.Ytpkbkcnpfigbgaa
