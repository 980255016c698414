/- The law FnOptimize: optimization preserves behaviour. -/
import Derived.Test.YtpfhlodlefcomaaOptC
import Derived.Test.YtpfhlodlefcomaaOptM
import Derived.Test.YtpfhlodlefcomaaRows
import Derived.Test.YtpfhlodlefcomaaLib
import Derived.ProofKit
import Derived.OpenShut
import Derived.ShutString
import Derived.ChangeOld
import Derived.Below
import Derived.Test.YtpfhlodlefcomaaDraw3
import Derived.Test.YtpfhlodlefcomaaSpec1
import Derived.Test.YtpfhlodlefcomaaOwn
import Derived.Test.YtpfhlodlefcomaaBits
import Derived.Test.YtpfhlodlefcomaaDiff
import Derived.Test.YtpfhlodlefcomaaOptE
import Derived.Test.YtpfhlodlefcomaaStep
import Derived.Test.YtpfhlodlefcomaaOwnB
import Derived.Test.YtpfhlodlefcomaaCBuild
import Derived.Test.YtpfhlodlefcomaaDrawB
import Derived.Test.YtpfhlodlefcomaaRegion
import Derived.Outline
namespace Go.Proofs.Ytpfhlodlefcomaa
open Go.ChangeShapes Go.WideShapes Go.ChangeAt Go.RowKit
theorem own : ownKnob Try.prog.godebug = none := by kernel_rfl
theorem laidOut : laidOutB Try.prog = true := by kernel_rfl
/-- A slice of integers that came in: nil, or a row of cells. -/
def IsRow (k : IntKind) (w : World) (a : Option Addr) (len cap : Nat) (zs : List Int) : Prop :=
  (a = none ∧ len = 0 ∧ cap = 0 ∧ zs = []) ∨
  ∃ x, a = some x ∧ len ≤ cap ∧ cap ≤ maxLen ∧ zs.length = cap ∧ (∀ i, i < zs.length → w.cell? (x.add i) = some (.int k (zs.getD i 0))) ∧ ∀ n ∈ zs, (Lit.int k n).wf = true
theorem cell_in {w : World} {b o : Nat} {k : Option Nat} {v : Value} (h : w.cell? ⟨b, o, k⟩ = some v) : b < w.heap.size ∧ k = none := by
  unfold World.cell? at h
  split at h
  · next c _ _ hq =>
    cases k with
    | none => exact ⟨(Array.getElem?_eq_some_iff.1 hq).1, rfl⟩
    | some k => simp at h
  · cases h
theorem add_plain (b o j : Nat) : (⟨b, o, none⟩ : Addr).add j = ⟨b, o + j, none⟩ := by
  unfold Addr.add
  split
  · next h => subst h; rfl
  · rfl
end Go.Proofs.Ytpfhlodlefcomaa

namespace Go.Proofs.Ytpfhlodlefcomaa
open Go.ChangeShapes Go.WideShapes Go.ChangeAt Go.RowKit
set_option maxRecDepth 100000
set_option linter.unusedVariables false
set_option linter.unusedSimpArgs false
theorem bytes_of_row {w : World} {a : Option Addr} {len cap : Nat} {zs : List Int} (h : IsRow .u8 w a len cap zs) :
    ∃ bs : List Int, bs.length = len ∧ BytesAt w a bs ∧ len ≤ cap ∧ cap ≤ maxLen := by
  rcases h with ⟨rfl, rfl, rfl, rfl⟩ | ⟨x, rfl, hl, hm, hz, hcell, hwz⟩
  · exact ⟨[], rfl, .inl rfl, Nat.le_refl _, by decide⟩
  · refine ⟨zs.take len, by simp; omega, ?_, hl, hm⟩
    by_cases h0 : len = 0
    · subst h0
      left; simp
    obtain ⟨b, o, k⟩ := x
    have c0 := hcell 0 (by omega)
    obtain ⟨hlt, hk⟩ : b < w.heap.size ∧ k = none := cell_in c0
    subst hk
    refine .inr ⟨b, o, rfl, hlt, fun j hj => ?_⟩
    have hj' : j < len ∧ j < zs.length := by simp at hj; omega
    have e : (zs.take len).getD j 0 = zs.getD j 0 := by simp [List.getD_eq_getElem?_getD, hj'.1]
    rw [e]
    have wf := hwz (zs.getD j 0) (by rw [List.getD_eq_getElem?_getD, List.getElem?_eq_getElem hj'.2]; exact List.getElem_mem _)
    refine ⟨by simpa only [add_plain] using hcell j hj'.2, ?_⟩
    generalize zs.getD j 0 = x at wf
    simp [Lit.wf, IntKind.wrap, IntKind.bits, IntKind.signed, IntKind.min, IntKind.max] at wf
    omega
theorem alive_c (w : World) : Calls Try.prog 15 #[] w fun e w' => e = .returned (.bool true) ∧ Ext w w' := by
  have hC : CircAt w ⟨0, [], [], []⟩ ⟨none, 0, none, 0, none, 0⟩ := ⟨.inl rfl, .inl rfl, .inl rfl, by simp, by simp, by simp⟩
  have hv : validB ⟨0, [], [], []⟩ = true := validB_true ⟨by decide, by decide, by decide, by decide, by decide, fun i hi => by simp at hi, fun i hi => by simp at hi⟩
  go_enter Try.func15, Try.ntmps15
  go_wp2_with fail
  refine (implCircuitValid_c _ _ _ hC).mono ?_
  rintro e w' ⟨rfl, E⟩
  rw [hv]
  go_wp2
  go_ret
  exact ⟨rfl, E⟩
end Go.Proofs.Ytpfhlodlefcomaa

namespace Go.Proofs.Ytpfhlodlefcomaa
open Go.RowKit
set_option maxRecDepth 100000
set_option linter.unusedVariables false
set_option linter.unusedSimpArgs false
theorem sameInts_c (a b : Option Addr) (c d : Nat) (xs : List Int) (w : World) (hx : IntsAt w a xs) (hy : IntsAt w b xs) (hl : xs.length ≤ 1048576) :
    Calls Try.prog 54 #[.slice a xs.length c, .slice b xs.length d] w fun e w' => e = .returned (.bool true) ∧ Ext w w' := by
  go_enter Try.func54, Try.ntmps54
  go_wp2_with fail
  go_loopw [5] (fun i wr => ∃ k : Nat, k ≤ xs.length ∧ i = .int .i64 k ∧ Ext w wr) (fun i _ => xs.length - (intOf i).toNat)
  case atStart => exact ⟨0, Nat.zero_le _, rfl, Ext.refl w⟩
  case round =>
    obtain ⟨k, hk, rfl, hE⟩ := hrel
    by_cases hlt : k < xs.length
    · obtain ⟨b1, o1, rfl, hb1, hc1⟩ := (hx.ext hE).get (by omega)
      obtain ⟨b2, o2, rfl, hb2, hc2⟩ := (hy.ext hE).get (by omega)
      have q1 := hc1 k hlt
      have q2 := hc2 k hlt
      obtain ⟨x, hxx⟩ : ∃ x, x = xs.getD k 0 := ⟨_, rfl⟩
      rw [← hxx] at q1 q2
      clear hc1 hc2 hxx
      go_wp2
      go_quiet (fail)
      go_wp2
      go_roundw
      case rel => exact ⟨k + 1, by omega, by go_num, by (repeat (first | assumption | (with_reducible refine Ext.drew' ?_) | exact Ext.refl _ | exact Ext.drew _ | exact Ext.drewN _ _ | (refine Ext.alloc ?_ _) | (refine Ext.drewN' ?_ _) | (refine Ext.setNew ?_ (by first | exact Nat.le_refl _ | (simp; done) | (simp; omega) | omega) _)))⟩
      case measure => simp [intOf]; omega
    · go_wp2
      go_ret
      exact ⟨rfl, hE⟩
set_option maxHeartbeats 1000000 in
theorem sameCircuit_c (c : Circ) (p q : Where3) (w : World) (hc : CircAt w c p) (hd : CircAt w c q) :
    Calls Try.prog 25 #[.agg #[.int .i64 c.inputs, .slice p.an c.next.length p.cn, .slice p.ag c.gates.length p.cg, .slice p.ao c.outs.length p.co], .agg #[.int .i64 c.inputs, .slice q.an c.next.length q.cn, .slice q.ag c.gates.length q.cg, .slice q.ao c.outs.length q.co]] w fun e w' => e = .returned (.bool true) ∧ Ext w w' := by
  have y := (CircBox.made w c p 26).ext ((Ext.refl _).alloc (.cells #[.int .i64 c.inputs, .slice q.an c.next.length q.cn, .slice q.ag c.gates.length q.cg, .slice q.ao c.outs.length q.co] 26))
  have z := CircBox.at (w.alloc (.cells #[.int .i64 c.inputs, .slice p.an c.next.length p.cn, .slice p.ag c.gates.length p.cg, .slice p.ao c.outs.length p.co] 26)) c q 26 (B := w.heap.size + 1) (by simp)
  have E0 : Ext w ((w.alloc (.cells #[.int .i64 c.inputs, .slice p.an c.next.length p.cn, .slice p.ag c.gates.length p.cg, .slice p.ao c.outs.length p.co] 26)).alloc (.cells #[.int .i64 c.inputs, .slice q.an c.next.length q.cn, .slice q.ag c.gates.length q.cg, .slice q.ao c.outs.length q.co] 26)) := ((Ext.refl w).alloc _).alloc _
  have ln := hc.ln
  have lg := hc.lg
  have lo := hc.lo
  go_enter Try.func25, Try.ntmps25
  go_wp2_with fail
  refine (sameInts_c p.an q.an p.cn q.cn c.next _ (hc.nx.ext E0) (hd.nx.ext E0) ln).mono ?_
  rintro e w1 ⟨rfl, hE1⟩
  have y1 := y.ext hE1
  have z1 := z.ext hE1
  have E1 := E0.trans hE1
  clear y z E0 hE1
  (obtain ⟨lb, b0, b1, b2, b3⟩ := (id y1))
  obtain ⟨lz, z0, z1', z2, z3⟩ := (id z1)
  go_wp2_with fail
  refine (sameInts_c p.ao q.ao p.co q.co c.outs _ (hc.ou.ext E1) (hd.ou.ext E1) lo).mono ?_
  rintro e w2 ⟨rfl, hE2⟩
  have y2 := y1.ext hE2
  have zz2 := z1.ext hE2
  have E2 := E1.trans hE2
  clear y1 z1 E1 hE2 b0 b1 b2 b3 lb lz z0 z1' z2 z3
  go_wp2_with fail
  go_loopw [5] (fun i wr => ∃ k : Nat, k ≤ c.gates.length ∧ i = .int .i64 k ∧ Ext w2 wr) (fun i _ => c.gates.length - (intOf i).toNat)
  case atStart => exact ⟨0, Nat.zero_le _, rfl, Ext.refl _⟩
  case round =>
    obtain ⟨k, hk, rfl, hE⟩ := hrel
    have y3 := y2.ext hE
    (obtain ⟨lb, b0, b1, b2, b3⟩ := (id y3))
    obtain ⟨lz, z0, z1', z2, z3⟩ := zz2.ext hE
    by_cases hlt : k < c.gates.length
    · obtain ⟨b8, o8, hag, hb8, hg1, hg2⟩ := ((hc.ext E2).ext hE).gs.get (by omega)
      obtain ⟨b9, o9, hbg, hb9, hh1, hh2⟩ := ((hd.ext E2).ext hE).gs.get (by omega)
      have q1 := hg1 k hlt
      have q2 := hg2 k hlt
      have q3 := hh1 k hlt
      have q4 := hh2 k hlt
      obtain ⟨gx, hgx⟩ : ∃ x, x = (c.gates.getD k (0, 0)).1 := ⟨_, rfl⟩
      obtain ⟨gy, hgy⟩ : ∃ x, x = (c.gates.getD k (0, 0)).2 := ⟨_, rfl⟩
      rw [← hgx] at q1 q3
      rw [← hgy] at q2 q4
      rw [hag] at b2
      rw [hbg] at z2
      have HAG := Lib.hid hag
      have HBG := Lib.hid hbg
      obtain ⟨w3, rfl⟩ : ∃ x : World, x = wr := ⟨_, rfl⟩
      clear hg1 hg2 hh1 hh2 hgx hgy hag hbg
      go_wp2_with fail
      go_quiet (fail)
      go_wp2
      go_roundw
      case rel => exact ⟨k + 1, by omega, by go_num, by (repeat (first | with_reducible assumption | with_reducible exact Ext.refl _ | with_reducible refine Ext.drew' ?_ | with_reducible refine Ext.drewN' ?_ _ | with_reducible refine Ext.alloc ?_ _ | (with_reducible refine Ext.setNew ?_ (by first | exact Nat.le_refl _ | (simp; done) | (simp; omega) | omega) _)))⟩
      case measure => simp [intOf]; omega
    · go_wp2
      go_ret
      exact ⟨rfl, E2.trans hE⟩
end Go.Proofs.Ytpfhlodlefcomaa

namespace Go.Proofs.Ytpfhlodlefcomaa
set_option linter.unusedVariables false
set_option linter.unusedSimpArgs false
noncomputable def eqB (a b : Circ) : Bool := sameI a b && !(cexV a b).1
theorem cexV_found {a b : Circ} : (cexV a b).1 = true ↔ sameI a b = true ∧ 0 ≤ firstD (diffV a b) (assigns a) := by
  unfold cexV
  by_cases h : sameI a b = true ∧ 0 ≤ firstD (diffV a b) (assigns a)
  · rw [if_pos h]; exact ⟨fun _ => h, fun _ => rfl⟩
  · rw [if_neg h]; exact ⟨(fun e => by cases e), fun e => absurd e h⟩
theorem eqB_iff {a b : Circ} : eqB a b = true ↔ sameI a b = true ∧ ∀ x, x < assigns a → resV a (-1) false x = resV b (-1) false x := by
  unfold eqB
  rw [Bool.and_eq_true]
  constructor
  · rintro ⟨h1, h2⟩
    refine ⟨h1, fun x hx => ?_⟩
    have h3 : ¬ (cexV a b).1 = true := by simpa using h2
    rw [cexV_found] at h3
    have h4 : firstD (diffV a b) (assigns a) < 0 := by
      rcases Int.lt_or_le (firstD (diffV a b) (assigns a)) 0 with h | h
      · exact h
      · exact absurd ⟨h1, h⟩ h3
    have h5 := firstD_before (diffV a b) (assigns a) x hx (.inl h4)
    unfold diffV at h5
    simpa using h5
  · rintro ⟨h1, h2⟩
    refine ⟨h1, ?_⟩
    have h3 : firstD (diffV a b) (assigns a) = -1 := firstD_none _ _ (fun y hy => by unfold diffV; simp [h2 y hy])
    have h4 : ¬ (cexV a b).1 = true := by rw [cexV_found, h3]; rintro ⟨_, h⟩; omega
    simpa using h4
theorem sameI_assigns {a b : Circ} (h : sameI a b = true) : assigns a = assigns b := by
  obtain ⟨_, _, h1, h2, _⟩ := sameI_iff.1 h
  unfold assigns; rw [h1, h2]
theorem sameI_comm (c d : Circ) : sameI d c = sameI c d := by
  rw [Bool.eq_iff_iff, sameI_iff, sameI_iff]
  constructor <;> (rintro ⟨a, b, h1, h2, h3⟩; exact ⟨b, a, h1.symm, h2.symm, h3.symm⟩)
theorem sameI_refl (c : Circ) : sameI c c = validB c := by
  rw [Bool.eq_iff_iff, sameI_iff, validB_iff]
  exact ⟨fun h => h.1, fun h => ⟨h, h, rfl, rfl, rfl⟩⟩
theorem eqB_comm (a b : Circ) : eqB b a = eqB a b := by
  rw [Bool.eq_iff_iff, eqB_iff, eqB_iff]
  constructor
  · rintro ⟨h1, h2⟩
    exact ⟨by rw [sameI_comm]; exact h1, fun x hx => (h2 x (by rw [sameI_assigns h1]; exact hx)).symm⟩
  · rintro ⟨h1, h2⟩
    exact ⟨by rw [sameI_comm]; exact h1, fun x hx => (h2 x (by rw [sameI_assigns h1]; exact hx)).symm⟩
theorem eqB_refl (a : Circ) : eqB a a = validB a := by
  rw [Bool.eq_iff_iff, eqB_iff, sameI_refl]
  exact ⟨fun h => h.1, fun h => ⟨h, fun _ _ => rfl⟩⟩
theorem eqB_valid {a b : Circ} (h : eqB a b = true) : a.Valid ∧ b.Valid := by
  obtain ⟨h1, _⟩ := eqB_iff.1 h
  obtain ⟨h2, h3, _⟩ := sameI_iff.1 h1
  exact ⟨h2, h3⟩
theorem evOk_bitsE {c : Circ} (V : c.Valid) (x : Nat) : EvOk c (stB c x) (inB c x) :=
  ⟨V, by unfold stB; rw [bitsN_length], by unfold inB; rw [bitsN_length]; exact Int.toNat_of_nonneg V.i0⟩
theorem resV_step {c : Circ} (V : c.Valid) (x : Nat) : resV c (-1) false x = (stepV c (stB c x) (inB c x)).2 ++ (stepV c (stB c x) (inB c x)).1 := by
  rw [stepV_ok (evOk_bitsE V x)]
  unfold resV litsV valsOf
  rw [List.map_append]
theorem optV_face {c : Circ} (V : c.Valid) : (optV c).inputs = c.inputs ∧ (optV c).next.length = c.next.length ∧ (optV c).outs.length = c.outs.length := by
  have ok := evOk_bitsE V 0
  obtain ⟨ok2, hs⟩ := step_opt ok
  have h1 := ok2.li
  have h2 := ok2.ls
  rw [ok.li] at h1
  rw [ok.ls] at h2
  rw [stepV_ok ok, stepV_ok ok2] at hs
  have h3 := congrArg (fun p : List Bool × List Bool => p.1.length) hs
  simp [litsV] at h3
  exact ⟨h1.symm, h2.symm, h3⟩
theorem sameI_opt {c : Circ} (V : c.Valid) : sameI c (optV c) = true := by
  obtain ⟨h1, h2, h3⟩ := optV_face V
  exact sameI_iff.2 ⟨V, optV_valid V, h1.symm, h2.symm, h3.symm⟩
theorem resV_opt {c : Circ} (V : c.Valid) (x : Nat) : resV (optV c) (-1) false x = resV c (-1) false x := by
  obtain ⟨h1, h2, _⟩ := optV_face V
  have e1 : inB (optV c) x = inB c x := by unfold inB; rw [h1]
  have e2 : stB (optV c) x = stB c x := by unfold stB; rw [h1, h2]
  rw [resV_step V, resV_step (optV_valid V), e1, e2, (step_opt (evOk_bitsE V x)).2]
theorem eqB_opt {a : Circ} (V : a.Valid) : eqB a (optV a) = true := eqB_iff.2 ⟨sameI_opt V, fun x _ => (resV_opt V x).symm⟩
theorem eqB_opt2 {a b : Circ} (V : a.Valid) (W : b.Valid) : eqB (optV a) (optV b) = eqB a b := by
  obtain ⟨a1, a2, a3⟩ := optV_face V
  obtain ⟨b1, b2, b3⟩ := optV_face W
  have hs : sameI (optV a) (optV b) = sameI a b := by
    rw [Bool.eq_iff_iff, sameI_iff, sameI_iff, a1, a2, a3, b1, b2, b3]
    exact ⟨fun h => ⟨V, W, h.2.2⟩, fun h => ⟨optV_valid V, optV_valid W, h.2.2⟩⟩
  have ha : assigns (optV a) = assigns a := (sameI_assigns (sameI_opt V)).symm
  rw [Bool.eq_iff_iff, eqB_iff, eqB_iff, hs, ha]
  constructor
  · rintro ⟨h1, h2⟩
    exact ⟨h1, fun x hx => by rw [← resV_opt V, ← resV_opt W]; exact h2 x hx⟩
  · rintro ⟨h1, h2⟩
    exact ⟨h1, fun x hx => by rw [resV_opt V, resV_opt W]; exact h2 x hx⟩
/-- Where the interfaces are alike, two circuits differ at an assignment if their steps do. -/
theorem diffV_step {c d : Circ} (h : sameI c d = true) (k : Nat) :
    diffV c d k = (!((stepV c (stB c k) (inB c k)).1 == (stepV d (stB c k) (inB c k)).1) || !((stepV c (stB c k) (inB c k)).2 == (stepV d (stB c k) (inB c k)).2)) := by
  obtain ⟨V, W, h1, h2, h3⟩ := sameI_iff.1 h
  have e1 : inB d k = inB c k := by unfold inB; rw [h1]
  have e2 : stB d k = stB c k := by unfold stB; rw [h1, h2]
  have okc := evOk_bitsE V k
  have okd := evOk_bitsE W k
  unfold diffV
  rw [resV_step V, resV_step W]
  rw [e1, e2] at okd ⊢
  rw [stepV_ok okc, stepV_ok okd]
  have hl : (litsV (valsOf (inB c k) (stB c k) c.gates) c.next).length = (litsV (valsOf (inB c k) (stB c k) d.gates) d.next).length := by simp [litsV, h2]
  generalize litsV (valsOf (inB c k) (stB c k) c.gates) c.next = A at *
  generalize litsV (valsOf (inB c k) (stB c k) d.gates) d.next = B at *
  generalize litsV (valsOf (inB c k) (stB c k) c.gates) c.outs = C
  generalize litsV (valsOf (inB c k) (stB c k) d.gates) d.outs = D
  rw [Bool.eq_iff_iff]
  simp only [bne_iff_ne, ne_eq, Bool.or_eq_true, Bool.not_eq_true', beq_eq_false_iff_ne]
  constructor
  · intro hne
    by_cases hc : C = D
    · right; intro ha; exact hne (by rw [hc, ha])
    · exact .inl hc
  · intro hor he
    obtain ⟨ha, hc⟩ := List.append_inj he hl
    rcases hor with h' | h'
    · exact h' hc
    · exact h' ha
end Go.Proofs.Ytpfhlodlefcomaa

namespace Go.Proofs.Ytpfhlodlefcomaa
open Go.RowKit
set_option maxRecDepth 100000
set_option linter.unusedVariables false
set_option linter.unusedSimpArgs false
/-- How a slice of slices of truth values reads. -/
def RowsAt (w : World) (a : Option Addr) (xss : List (List Bool)) : Prop :=
  xss = [] ∨ ∃ b o, a = some ⟨b, o, none⟩ ∧ b < w.heap.size ∧ ∀ j, j < xss.length → ∃ aj cj, w.cell? ⟨b, o + j, none⟩ = some (.slice aj (xss.getD j []).length cj) ∧ BoolsAt w aj (xss.getD j [])
section
variable {w w' : World} {a : Option Addr} {xss : List (List Bool)}
theorem RowsAt.get (h : RowsAt w a xss) (hn : 0 < xss.length) : ∃ b o, a = some ⟨b, o, none⟩ ∧ b < w.heap.size ∧ ∀ j, j < xss.length → ∃ aj cj, w.cell? ⟨b, o + j, none⟩ = some (.slice aj (xss.getD j []).length cj) ∧ BoolsAt w aj (xss.getD j []) := by
  rcases h with rfl | h
  · simp at hn
  · exact h
theorem RowsAt.ext (h : RowsAt w a xss) (e : Ext w w') : RowsAt w' a xss := by
  rcases h with rfl | ⟨b, o, ha, hb, hc⟩
  · exact .inl rfl
  · refine .inr ⟨b, o, ha, Nat.lt_of_lt_of_le hb e.size, fun j hj => ?_⟩
    obtain ⟨aj, cj, h1, h2⟩ := hc j hj
    exact ⟨aj, cj, ((ecell e).1 b _ hb).trans h1, h2.ext e⟩
end
theorem tyRows : RowTy Try.prog 33 38 1 24 := RowTy.mk' (z := .slice none 0 0) Try.underlying33 (by kernel_rfl) rfl (by decide) (by decide)
/-- A slice of slices that the call owns: all rows lie apart, and apart from the slice itself. -/
structure OwnR (w : World) (base : Nat) (v : Value) (vals : List Value) (xss : List (List Bool)) : Prop where
  len : vals.length = xss.length
  row : w.ownsRow base 38 1 v xss.length vals
  el : ∀ j, j < xss.length → OwnB w base (vals.getD j (.slice none 0 0)) (xss.getD j [])
  off : ∀ j k, j < xss.length → (vals.getD j (.slice none 0 0)).ownBlock = some k → v.ownBlock ≠ some k
  dis : ∀ i j k, i < j → j < xss.length → (vals.getD i (.slice none 0 0)).ownBlock = some k → (vals.getD j (.slice none 0 0)).ownBlock ≠ some k
section
variable {w w' : World} {base : Nat} {v : Value} {vals : List Value} {xss : List (List Bool)}
theorem OwnR.nil : OwnR w base (.slice none 0 0) [] [] := ⟨rfl, ownsRow_nil, fun j hj => by simp at hj, fun j k hj => by simp at hj, fun i j k _ hj => by simp at hj⟩
theorem OwnR.ext (h : OwnR w base v vals xss) (e : Ext w w') : OwnR w' base v vals xss := { h with row := ownsRow_ext h.row e, el := fun j hj => (h.el j hj).ext e }
theorem OwnR.le {b2 : Nat} (h : OwnR w base v vals xss) (hb : b2 ≤ base) : OwnR w b2 v vals xss := { h with row := ownsRow_base h.row hb, el := fun j hj => (h.el j hj).le hb }
theorem OwnB.lt2 {xs : List Bool} (h : OwnB w base v xs) : ∀ k, v.ownBlock = some k → base ≤ k ∧ k < w.heap.size := h.lt'
theorem OwnR.at_ {a : Option Addr} {n c : Nat} (h : OwnR w base (.slice a n c) vals xss) : RowsAt w a xss := by
  by_cases h0 : xss.length = 0
  · exact .inl (List.eq_nil_of_length_eq_zero h0)
  · have hn : n = xss.length := by
      obtain ⟨a', c', e, _⟩ := ownsRow_row h.row
      cases e; rfl
    subst hn
    obtain ⟨g, rfl, _, hg⟩ := ownsRow_block h.row (by omega)
    refine .inr ⟨g, 0, rfl, hg, fun j hj => ?_⟩
    obtain ⟨aj, cj, hv, hA⟩ := (h.el j hj).opened
    refine ⟨aj, cj, ?_, hA⟩
    rw [Nat.zero_add, ← hv]
    exact ownsRow_cell h.row (by rw [List.getD_eq_getElem?_getD, List.getElem?_eq_getElem (by rw [h.len]; exact hj)]; rfl)
/-- 'out = append(out, row)', the row made since w0. -/
theorem OwnR.snoc {w0 : World} {u v' : Value} {x : List Bool} {n : Nat} (h : OwnR w0 base v vals xss) (e : Ext w0 w) (hu : OwnB w base u x) (hN : ∀ k, u.ownBlock = some k → w0.heap.size ≤ k) (hg : w.grownBy w' v.ownBlock) (hm : RowMoved w v v')
    (hn : n = xss.length + 1) (ho : w'.ownsRow base 38 1 v' n (vals ++ [u])) : OwnR w' base v' (vals ++ [u]) (xss ++ [x]) := by
  subst hn
  have hl := h.len
  have old : ∀ j, j < xss.length → (vals ++ [u]).getD j (.slice none 0 0) = vals.getD j (.slice none 0 0) ∧ (xss ++ [x]).getD j [] = xss.getD j [] :=
    fun j hj => ⟨getD_append_left _ _ _ _ (by omega), getD_append_left _ _ _ _ hj⟩
  have new : (vals ++ [u]).getD xss.length (.slice none 0 0) = u ∧ (xss ++ [x]).getD xss.length [] = x := by
    refine ⟨?_, by simp [List.getD_eq_getElem?_getD]⟩
    rw [← hl]; simp [List.getD_eq_getElem?_getD]
  have vlt : ∀ k, v.ownBlock = some k → k < w0.heap.size := fun k hk => (h.row.lt k hk).2
  have elt : ∀ j, j < xss.length → ∀ k, (vals.getD j (.slice none 0 0)).ownBlock = some k → k < w0.heap.size := fun j hj k hk => ((h.el j hj).lt2 k hk).2
  have ge : ∀ (z : Value), (∀ k, z.ownBlock = some k → v.ownBlock ≠ some k) → z.ownBlock = none ∨ z.ownBlock ≠ v.ownBlock := fun z hz => off_row hz
  have uv : ∀ k, u.ownBlock = some k → v.ownBlock ≠ some k := fun k hk hv => by have := hN k hk; have := vlt k hv; omega
  refine ⟨by simp [hl], by rw [List.length_append]; exact ho, fun j hj => ?_, fun j k hj hk => ?_, fun i j k hij hj hk => ?_⟩
  · rw [List.length_append, List.length_singleton] at hj
    by_cases hlt : j < xss.length
    · rw [(old j hlt).1, (old j hlt).2]
      exact ownsRow_gr ((h.el j hlt).ext e) hg (ge _ (fun k hk => h.off j k hlt hk))
    · have : j = xss.length := by omega
      subst this
      rw [new.1, new.2]
      exact ownsRow_gr hu hg (ge _ uv)
  · rw [List.length_append, List.length_singleton] at hj
    by_cases hlt : j < xss.length
    · rw [(old j hlt).1] at hk
      rcases hm with em | ⟨q, em, hq⟩
      · rw [em]; exact h.off j k hlt hk
      · rw [em]; intro e2; have : q = k := Option.some.inj e2; have := elt j hlt k hk; have := e.size; omega
    · have : j = xss.length := by omega
      subst this
      rw [new.1] at hk
      rcases hm with em | ⟨q, em, hq⟩
      · rw [em]; exact uv k hk
      · rw [em]; intro e2; have : q = k := Option.some.inj e2; have := (hu.lt2 k hk).2; omega
  · rw [List.length_append, List.length_singleton] at hj
    have hi : i < xss.length := by omega
    rw [(old i hi).1] at hk
    by_cases hlt : j < xss.length
    · rw [(old j hlt).1]; exact h.dis i j k hij hlt hk
    · have : j = xss.length := by omega
      subst this
      rw [new.1]
      intro hu2
      have := hN k hu2
      have := elt i hi k hk
      omega
end
def GiveRows (w : World) (xss : List (List Bool)) (e : Ending) (w' : World) : Prop := ∃ v vals, e = .returned v ∧ OwnR w' w.heap.size v vals xss ∧ Ext w w'
/-! ### What Simulate computes -/
noncomputable def stRun (c : Circ) (st : List Bool) (xss : List (List Bool)) : List Bool := xss.foldl (fun st r => (stepV c st r).2) st
noncomputable def runV (c : Circ) : List Bool → List (List Bool) → List (List Bool)
  | _, [] => []
  | st, r :: rs => (stepV c st r).1 :: runV c (stepV c st r).2 rs
theorem runV_snoc (c : Circ) (r : List Bool) : ∀ (rs : List (List Bool)) (st : List Bool), runV c st (rs ++ [r]) = runV c st rs ++ [(stepV c (stRun c st rs) r).1]
  | [], st => rfl
  | x :: rs, st => by
    rw [List.cons_append, runV, runV_snoc c r rs]
    rfl
theorem stRun_snoc (c : Circ) (r : List Bool) (rs : List (List Bool)) (st : List Bool) : stRun c st (rs ++ [r]) = (stepV c (stRun c st rs) r).2 := by
  unfold stRun; rw [List.foldl_append]; rfl
theorem runV_length (c : Circ) : ∀ (rs : List (List Bool)) (st : List Bool), (runV c st rs).length = rs.length
  | [], _ => rfl
  | x :: rs, st => by rw [runV, List.length_cons, List.length_cons, runV_length c rs]
noncomputable def fitB (c : Circ) (xss : List (List Bool)) : Bool := validB c && decide (xss.length ≤ 40) && xss.all (fun r => (r.length : Int) == c.inputs)
structure FitR (c : Circ) (xss : List (List Bool)) : Prop where
  V : c.Valid
  n : xss.length ≤ 40
  r : ∀ j, j < xss.length → ((xss.getD j []).length : Int) = c.inputs
theorem fitB_iff {c : Circ} {xss : List (List Bool)} : fitB c xss = true ↔ FitR c xss := by
  unfold fitB
  simp only [Bool.and_eq_true, decide_eq_true_eq, List.all_eq_true, beq_iff_eq, validB_iff]
  constructor
  · rintro ⟨⟨h1, h2⟩, h3⟩
    exact ⟨h1, h2, fun j hj => h3 _ (by rw [List.getD_eq_getElem?_getD, List.getElem?_eq_getElem hj]; exact List.getElem_mem hj)⟩
  · rintro ⟨h1, h2, h3⟩
    refine ⟨⟨h1, h2⟩, fun r hr => ?_⟩
    obtain ⟨i, hi, rfl⟩ := List.mem_iff_getElem.1 hr
    have := h3 i hi
    rwa [List.getD_eq_getElem?_getD, List.getElem?_eq_getElem hi] at this
def st0 (c : Circ) : List Bool := List.replicate c.next.length false
noncomputable def simV (c : Circ) (xss : List (List Bool)) : List (List Bool) := if fitB c xss then runV c (st0 c) xss else []
theorem stepV_len {c : Circ} {st ins : List Bool} (ok : EvOk c st ins) : (stepV c st ins).1.length = c.outs.length ∧ (stepV c st ins).2.length = c.next.length := by
  rw [stepV_ok ok]; exact ⟨litsV_length _ _, litsV_length _ _⟩
theorem stRun_len {c : Circ} {xss : List (List Bool)} (F : FitR c xss) (k : Nat) (hk : k ≤ xss.length) : (stRun c (st0 c) (xss.take k)).length = c.next.length := by
  induction k with
  | zero => simp [stRun, st0]
  | succ k ih =>
    rw [take_snocG xss k [] (by omega), stRun_snoc]
    exact (stepV_len ⟨F.V, ih (by omega), F.r k (by omega)⟩).2
theorem evOk_run {c : Circ} {xss : List (List Bool)} (F : FitR c xss) (k : Nat) (hk : k < xss.length) : EvOk c (stRun c (st0 c) (xss.take k)) (xss.getD k []) := ⟨F.V, stRun_len F k (by omega), F.r k hk⟩
end Go.Proofs.Ytpfhlodlefcomaa

namespace Go.Proofs.Ytpfhlodlefcomaa
open Go.RowKit
set_option maxRecDepth 100000
set_option linter.unusedVariables false
set_option linter.unusedSimpArgs false
set_option maxHeartbeats 1000000 in
theorem sameRows_c (a b : Option Addr) (c d n : Nat) (xss : List (List Bool)) (hn : xss.length = n) (w : World) (hx : RowsAt w a xss) (hy : RowsAt w b xss) (hl : n ≤ 1048576) (hrl : ∀ j, j < xss.length → (xss.getD j []).length ≤ 1048576) :
    Calls Try.prog 18 #[.slice a n c, .slice b n d] w fun e w' => e = .returned (.bool true) ∧ Ext w w' := by
  subst hn
  have HL := Lib.hid hrl
  clear hrl
  go_enter Try.func18, Try.ntmps18
  go_wp2_with fail
  go_loopw [5] (fun i wr => ∃ k : Nat, k ≤ xss.length ∧ i = .int .i64 k ∧ Ext w wr) (fun i _ => xss.length - (intOf i).toNat)
  case atStart => exact ⟨0, Nat.zero_le _, rfl, Ext.refl w⟩
  case round =>
    obtain ⟨k, hk, rfl, hE⟩ := hrel
    by_cases hlt : k < xss.length
    · obtain ⟨b1, o1, rfl, hb1, hc1⟩ := (hx.ext hE).get (by omega)
      obtain ⟨b2, o2, rfl, hb2, hc2⟩ := (hy.ext hE).get (by omega)
      obtain ⟨a1, d1, q1, hA1⟩ := hc1 k hlt
      obtain ⟨a2, d2, q2, hA2⟩ := hc2 k hlt
      have hrl := HL.out k hlt
      obtain ⟨row, hrow⟩ : ∃ r, r = xss.getD k [] := ⟨_, rfl⟩
      rw [← hrow] at q1 q2 hA1 hA2 hrl
      obtain ⟨w1, rfl⟩ : ∃ x : World, x = wr := ⟨_, rfl⟩
      clear hc1 hc2 hrow
      go_wp2_with fail
      go_region_held3 ((fun w' => (∀ b o, b < w1.heap.size → w'.cell? ⟨b, o, none⟩ = w1.cell? ⟨b, o, none⟩) ∧ Ext w1 w')) ((first | assumption | (with_reducible exact held_mk (Ext.drew w1)) | (with_reducible exact held_mk (((Ext.refl w1).alloc _).drew')) | (with_reducible exact held_mk ((Ext.drew w1).alloc _)))) (first | (go_simp; go_at_call 22; refine (sameBools_c a1 a2 d1 d2 _ _ row row rfl rfl _ (hA1.ext (Ext.drew w1)) (hA2.ext (Ext.drew w1)) hrl hrl).mono ?_; rw [beq_self_eq_true]; rintro e w2 ⟨rfl, hE2⟩; have hK1 := held_mk ((Ext.drew w1).trans hE2)))
      have hE3 := held_ext hK1
      go_wp2
      go_roundw
      case rel => exact ⟨k + 1, by omega, by go_num, hE.trans hE3⟩
      case measure => simp [intOf]; omega
    · go_wp2
      go_ret
      exact ⟨rfl, hE⟩
/-- Rows given back, as they read. -/
theorem GiveRows.opened {w w' : World} {xss : List (List Bool)} {e : Ending} (h : GiveRows w xss e w') : ∃ a c, e = .returned (.slice a xss.length c) ∧ RowsAt w' a xss ∧ Ext w w' := by
  obtain ⟨v, vals, h1, h2, h3⟩ := h
  obtain ⟨a, c, e, _⟩ := ownsRow_row h2.row
  subst e
  exact ⟨a, c, h1, h2.at_, h3⟩
theorem simV_rl {c : Circ} {xss : List (List Bool)} (F : FitR c xss) : ∀ j, j < (simV c xss).length → ((simV c xss).getD j []).length ≤ 1048576 := by
  have h : ∀ (rs : List (List Bool)) (st : List Bool), st.length = c.next.length → (∀ r ∈ rs, (r.length : Int) = c.inputs) → ∀ r ∈ runV c st rs, r.length = c.outs.length := by
    intro rs
    induction rs with
    | nil => intro st _ _ r hr; cases hr
    | cons x rs ih =>
      intro st h1 h2 r hr
      have ok : EvOk c st x := ⟨F.V, h1, h2 x (by simp)⟩
      rw [runV] at hr
      rcases List.mem_cons.1 hr with rfl | hr
      · exact (stepV_len ok).1
      · exact ih _ (stepV_len ok).2 (fun r hr => h2 r (List.mem_cons_of_mem _ hr)) r hr
  intro j hj
  have hf : fitB c xss = true := fitB_iff.2 F
  have e : simV c xss = runV c (st0 c) xss := by unfold simV; rw [hf]; rfl
  rw [e] at hj ⊢
  have hm : (runV c (st0 c) xss).getD j [] ∈ runV c (st0 c) xss := by
    rw [List.getD_eq_getElem?_getD, List.getElem?_eq_getElem hj]; exact List.getElem_mem hj
  have := h xss (st0 c) (by simp [st0]) (fun r hr => by
    obtain ⟨i, hi, rfl⟩ := List.mem_iff_getElem.1 hr
    have := F.r i hi
    rwa [List.getD_eq_getElem?_getD, List.getElem?_eq_getElem hi] at this) _ hm
  have := F.V.lo
  omega
end Go.Proofs.Ytpfhlodlefcomaa

namespace Go.Proofs.Ytpfhlodlefcomaa
set_option linter.unusedVariables false
set_option linter.unusedSimpArgs false
/-- The number with these bits, the lowest first. -/
def numB : List Bool → Nat
  | [] => 0
  | b :: bs => (if b then 1 else 0) + 2 * numB bs
theorem bitsN_cons (x n : Nat) : bitsN x (n + 1) = bitN x 0 :: bitsN (x / 2) n := by
  unfold bitsN
  rw [List.range_succ_eq_map, List.map_cons, List.map_map]
  congr 1
  apply List.map_congr_left
  intro i _
  unfold bitN
  simp only [Function.comp_apply]
  rw [Nat.pow_succ', Nat.div_div_eq_div_mul]
theorem bitsN_num : ∀ (a b : List Bool), bitsN (numB (a ++ b)) a.length = a
  | [], b => rfl
  | x :: a, b => by
    rw [List.length_cons, bitsN_cons, List.cons_append]
    have h0 : bitN (numB (x :: (a ++ b))) 0 = x := by
      unfold bitN numB
      cases x <;> simp <;> omega
    have h1 : numB (x :: (a ++ b)) / 2 = numB (a ++ b) := by
      show ((if x then 1 else 0) + 2 * numB (a ++ b)) / 2 = _
      cases x <;> simp <;> omega
    rw [h0, h1, bitsN_num a b]
theorem numB_div : ∀ (a b : List Bool), numB (a ++ b) / 2 ^ a.length = numB b
  | [], b => by simp
  | x :: a, b => by
    have h1 : numB (x :: (a ++ b)) / 2 = numB (a ++ b) := by
      show ((if x then 1 else 0) + 2 * numB (a ++ b)) / 2 = _
      cases x <;> simp <;> omega
    rw [List.length_cons, List.cons_append, Nat.pow_succ', ← Nat.div_div_eq_div_mul, h1, numB_div a b]
theorem numB_lt : ∀ a : List Bool, numB a < 2 ^ a.length
  | [] => by simp [numB]
  | x :: a => by
    have := numB_lt a
    rw [List.length_cons, Nat.pow_succ']
    show (if x then 1 else 0) + 2 * numB a < _
    cases x <;> simp <;> omega
theorem asg_of {c : Circ} {st ins : List Bool} (ok : EvOk c st ins) : ∃ x, x < assigns c ∧ inB c x = ins ∧ stB c x = st := by
  have l1 : c.inputs.toNat = ins.length := by have := ok.li; omega
  refine ⟨numB (ins ++ st), ?_, ?_, ?_⟩
  · have := numB_lt (ins ++ st)
    unfold assigns
    rw [l1, ← ok.ls, ← List.length_append]; exact this
  · unfold inB; rw [l1]; exact bitsN_num ins st
  · unfold stB
    rw [l1, numB_div, ← ok.ls]
    have := bitsN_num st []
    rwa [List.append_nil] at this
theorem eqB_step {a b : Circ} (h : eqB a b = true) {st ins : List Bool} (ok : EvOk a st ins) : stepV a st ins = stepV b st ins := by
  obtain ⟨h1, h2⟩ := eqB_iff.1 h
  obtain ⟨x, hx, e1, e2⟩ := asg_of ok
  have hd := diffV_step h1 x
  have hf : diffV a b x = false := by unfold diffV; rw [h2 x hx]; simp
  rw [hf, e1, e2] at hd
  have hd2 := hd.symm
  simp only [Bool.or_eq_false_iff, Bool.not_eq_false', beq_iff_eq] at hd2
  exact Prod.ext hd2.1 hd2.2
theorem run_same {a b : Circ} (V : a.Valid) (hs : ∀ st r, EvOk a st r → stepV a st r = stepV b st r) : ∀ (rows : List (List Bool)) (st : List Bool), st.length = a.next.length → (∀ r ∈ rows, (r.length : Int) = a.inputs) → runV a st rows = runV b st rows
  | [], _, _, _ => rfl
  | r :: rs, st, h1, h2 => by
    have ok : EvOk a st r := ⟨V, h1, h2 r (by simp)⟩
    rw [runV, runV, ← hs st r ok]
    rw [run_same V hs rs (stepV a st r).2 (stepV_len ok).2 (fun r hr => h2 r (List.mem_cons_of_mem _ hr))]
theorem sim_same {a b : Circ} (V : a.Valid) (W : b.Valid) (h1 : a.inputs = b.inputs) (h2 : a.next.length = b.next.length) (hs : ∀ st r, EvOk a st r → stepV a st r = stepV b st r) (rows : List (List Bool)) : simV a rows = simV b rows := by
  have hf : fitB a rows = fitB b rows := by
    rw [Bool.eq_iff_iff, fitB_iff, fitB_iff]
    exact ⟨fun h => ⟨W, h.n, fun j hj => by rw [← h1]; exact h.r j hj⟩, fun h => ⟨V, h.n, fun j hj => by rw [h1]; exact h.r j hj⟩⟩
  unfold simV
  rw [← hf]
  cases hv : fitB a rows
  · rfl
  · have F := fitB_iff.1 hv
    have e : st0 b = st0 a := by unfold st0; rw [h2]
    rw [e]
    simp only [if_true]
    refine run_same V hs rows _ (by simp [st0]) (fun r hr => ?_)
    obtain ⟨i, hi, rfl⟩ := List.mem_iff_getElem.1 hr
    have := F.r i hi
    rwa [List.getD_eq_getElem?_getD, List.getElem?_eq_getElem hi] at this
theorem eqB_sim {a b : Circ} (h : eqB a b = true) (rows : List (List Bool)) : simV a rows = simV b rows := by
  obtain ⟨V, W⟩ := eqB_valid h
  obtain ⟨_, _, h1, h2, _⟩ := sameI_iff.1 (eqB_iff.1 h).1
  exact sim_same V W h1 h2 (fun st r ok => eqB_step h ok) rows
theorem opt_sim {c : Circ} (V : c.Valid) (rows : List (List Bool)) : simV (optV c) rows = simV c rows := by
  obtain ⟨h1, h2, _⟩ := optV_face V
  exact (sim_same V (optV_valid V) h1.symm h2.symm (fun st r ok => ((step_opt ok).2).symm) rows).symm
theorem simV_length {c : Circ} {rows : List (List Bool)} (h : fitB c rows = true) : (simV c rows).length = rows.length := by
  unfold simV; rw [h]; exact runV_length _ _ _
end Go.Proofs.Ytpfhlodlefcomaa

namespace Go.Proofs.Ytpfhlodlefcomaa
open Go.RowKit
set_option maxRecDepth 100000
set_option linter.unusedVariables false
set_option linter.unusedSimpArgs false
section
variable {w w' w1 w2 : World} {base rb M : Nat} {bs : List Int} {v : Value} {vals : List Value} {xss : List (List Bool)}
theorem OwnR.drawn (h : OwnR w base v vals xss) (g : w.grownBy w' (some rb)) (hrb : rb < base) : OwnR w' base v vals xss := by
  refine { h with row := ownsRow_gr h.row g ?_, el := fun j hj => (h.el j hj).drawn g hrb }
  cases hb : v.ownBlock with
  | none => exact .inl rfl
  | some q => exact .inr (fun hh => by have := (h.row.lt q hb).1; have : q = rb := Option.some.inj hh; omega)
/-- 'out = append(out, row)', the old blocks below N and the row's own from N on. -/
theorem OwnR.snocN {u v' : Value} {x : List Bool} {n N : Nat} (h : OwnR w base v vals xss) (hlo : ∀ k, v.ownBlock = some k → k < N) (hel : ∀ j k, j < xss.length → (vals.getD j (.slice none 0 0)).ownBlock = some k → k < N) (hu : OwnB w base u x) (hN : ∀ k, u.ownBlock = some k → N ≤ k) (hg : w.grownBy w' v.ownBlock) (hm : RowMoved w v v')
    (hn : n = xss.length + 1) (ho : w'.ownsRow base 38 1 v' n (vals ++ [u])) : OwnR w' base v' (vals ++ [u]) (xss ++ [x]) := by
  subst hn
  have hl := h.len
  have old : ∀ j, j < xss.length → (vals ++ [u]).getD j (.slice none 0 0) = vals.getD j (.slice none 0 0) ∧ (xss ++ [x]).getD j [] = xss.getD j [] :=
    fun j hj => ⟨getD_append_left _ _ _ _ (by omega), getD_append_left _ _ _ _ hj⟩
  have new : (vals ++ [u]).getD xss.length (.slice none 0 0) = u ∧ (xss ++ [x]).getD xss.length [] = x := by
    refine ⟨?_, by simp [List.getD_eq_getElem?_getD]⟩
    rw [← hl]; simp [List.getD_eq_getElem?_getD]
  have ge : ∀ (z : Value), (∀ k, z.ownBlock = some k → v.ownBlock ≠ some k) → z.ownBlock = none ∨ z.ownBlock ≠ v.ownBlock := fun z hz => off_row hz
  have uv : ∀ k, u.ownBlock = some k → v.ownBlock ≠ some k := fun k hk hv => by have := hN k hk; have := hlo k hv; omega
  refine ⟨by simp [hl], by rw [List.length_append]; exact ho, fun j hj => ?_, fun j k hj hk => ?_, fun i j k hij hj hk => ?_⟩
  · rw [List.length_append, List.length_singleton] at hj
    by_cases hlt : j < xss.length
    · rw [(old j hlt).1, (old j hlt).2]
      exact ownsRow_gr (h.el j hlt) hg (ge _ (fun k hk => h.off j k hlt hk))
    · have : j = xss.length := by omega
      subst this
      rw [new.1, new.2]
      exact ownsRow_gr hu hg (ge _ uv)
  · rw [List.length_append, List.length_singleton] at hj
    by_cases hlt : j < xss.length
    · rw [(old j hlt).1] at hk
      rcases hm with em | ⟨q, em, hq⟩
      · rw [em]; exact h.off j k hlt hk
      · rw [em]; intro e2; have : q = k := Option.some.inj e2; have := ((h.el j hlt).lt2 k hk).2; omega
    · have : j = xss.length := by omega
      subst this
      rw [new.1] at hk
      rcases hm with em | ⟨q, em, hq⟩
      · rw [em]; exact uv k hk
      · rw [em]; intro e2; have : q = k := Option.some.inj e2; have := (hu.lt2 k hk).2; omega
  · rw [List.length_append, List.length_singleton] at hj
    have hi : i < xss.length := by omega
    rw [(old i hi).1] at hk
    by_cases hlt : j < xss.length
    · rw [(old j hlt).1]; exact h.dis i j k hij hlt hk
    · have : j = xss.length := by omega
      subst this
      rw [new.1]
      intro hu2
      have := hN k hu2
      have := hel i k hi hk
      omega
/-- Rows while they are drawn: they lie from 'base' on, behind the reader rb. -/
structure RInv (w : World) (base rb : Nat) (bs : List Int) (M n : Nat) (v : Value) (vals : List Value) (xss : List (List Bool)) (wr : World) : Prop where
  own : OwnR wr base v vals xss
  rd : Rdr wr rb bs M
  gr : w.grownBy wr (some rb)
  sm : ∀ r ∈ xss, r.length ≤ n
  lb : base ≤ wr.heap.size
theorem RInv.start (rd : Rdr w rb bs M) (n : Nat) : RInv w w.heap.size rb bs M n (.slice (some ⟨w.heap.size, 0, none⟩) 0 0) [] [] (w.alloc (.cells #[] 38)) :=
  ⟨⟨rfl, (Blk.at w [] 38 rfl).owns (n := 0) (size := 1) rfl (Nat.le_refl _) (by decide), fun j hj => by simp at hj, fun j k hj => by simp at hj, fun i j k _ hj => by simp at hj⟩, rd.ext ((Ext.refl w).alloc _), Gr.alloc (Gr.refl _ _) _, fun r hr => (by cases hr), by simp⟩
theorem RInv.draw {n : Nat} (h : RInv w base rb bs M n v vals xss w1) (hrb : rb < base) {M2 : Nat} (rd : Rdr w2 rb bs M2) (g : w1.grownBy w2 (some rb)) : RInv w base rb bs M2 n v vals xss w2 :=
  ⟨h.own.drawn g hrb, rd, Gr.trans h.gr g, h.sm, Nat.le_trans h.lb g.size⟩
theorem RInv.up {n m : Nat} (h : RInv w base rb bs M n v vals xss w1) (hm : n ≤ m) : RInv w base rb bs M m v vals xss w1 := { h with sm := fun r hr => Nat.le_trans (h.sm r hr) hm }
theorem RInv.mono {n M2 : Nat} (h : RInv w base rb bs M n v vals xss w1) (hm : M ≤ M2) : RInv w base rb bs M2 n v vals xss w1 := { h with rd := h.rd.mono hm }
/-- One row more. -/
theorem RInv.add {n m k : Nat} {u v' : Value} {x : List Bool} (h : RInv w base rb bs M n v vals xss w1) (hrb : rb < base) (hb : w.heap.size ≤ base) (hx : x.length ≤ n) (hu : OwnB w2 w1.heap.size u x) (rd : Rdr w2 rb bs m) (g : w1.grownBy w2 (some rb)) {o : Obj}
    (hg : (w2.alloc o).grownBy w' v.ownBlock) (hm : RowMoved (w2.alloc o) v v') (hn : k = xss.length + 1) (ho : w'.ownsRow base 38 1 v' k (vals ++ [u])) : RInv w base rb bs m n v' (vals ++ [u]) (xss ++ [x]) w' := by
  have vlt : ∀ k, v.ownBlock = some k → base ≤ k ∧ k < w1.heap.size := fun k hk => h.own.row.lt k hk
  have s1 := g.size
  have eA : Ext w2 (w2.alloc o) := (Ext.refl w2).alloc o
  have hO := (h.own.drawn g hrb).ext eA
  refine ⟨OwnR.snocN (N := w1.heap.size) hO (fun k hk => (vlt k hk).2) (fun j k hj hk => ((h.own.el j hj).lt2 k hk).2) ?_ (fun k hk => (hu.lt2 k hk).1) hg hm hn ho, ?_, ?_, ?_, ?_⟩
  · exact (OwnB.le hu h.lb).ext eA
  · exact (rd.ext eA).grn hg (fun k hk => by have := (vlt k hk).1; omega)
  · exact Gr.row (Gr.alloc (Gr.trans h.gr g) o) hg (fun k hk => by have := (vlt k hk).1; omega)
  · intro r hr
    rcases List.mem_append.1 hr with hr | hr
    · exact h.sm r hr
    · rw [List.mem_singleton] at hr; subst hr; exact hx
  · have := h.lb; have := eA.size; have := hg.size; omega
end
def DrawnR (w : World) (rb : Nat) (bs : List Int) (N n : Nat) (e : Ending) (w' : World) : Prop :=
  ∃ v vals xss, e = .returned v ∧ xss.length ≤ 11 ∧ (∀ r ∈ xss, r.length = n) ∧ RInv w w.heap.size rb bs (N + 1 + 11 * n) n v vals xss w'
set_option maxHeartbeats 1000000 in
theorem l20Rows_c (rb : Nat) (bs : List Int) (N n : Nat) (w : World) (hr : Rdr w rb bs N) (hN : N ≤ 100000) (hn : n ≤ 1000) :
    Calls Try.prog 42 #[.pointer (some ⟨rb, 0, none⟩), .int .i64 n] w (DrawnR w rb bs N n) := by
  have hrl := hr.lt
  have R0 := RInv.start hr n
  go_enter Try.func42, Try.ntmps42
  go_wp2_with fail
  refine (pick_c rb bs N 12 _ R0.rd (by omega) (by omega)).mono ?_
  rintro e w1 ⟨kk, rfl, k0, k1, hR1, hG1⟩
  have R1 := R0.draw hrl hR1 hG1
  go_wp2_with fail
  go_loopw [5, 6] (fun u5 u6 wr => ∃ (k : Nat) (vals : List Value) (xss : List (List Bool)), u6 = .int .i64 k ∧ xss.length + k ≤ 11 ∧ Hid (∀ r ∈ xss, r.length = n) ∧ RInv w w.heap.size rb bs (N + 1 + xss.length * n) n u5 vals xss wr) (fun _ i _ => (intOf i).toNat)
  case atStart => exact ⟨kk.toNat, [], [], by rw [Int.toNat_of_nonneg k0], by simp; omega, Lib.hid (fun r hr => by cases hr), by simpa using R1⟩
  case round =>
    obtain ⟨k, vals, xss, rfl, hl, hx, hI⟩ := hrel
    clear R0 R1 hR1 hG1
    by_cases hlt : 0 < k
    · have hmul : xss.length * n ≤ 11 * 1000 := Nat.mul_le_mul (by omega) hn
      go_wp2_with fail
      refine (l20Bools_c rb bs (N + 1 + xss.length * n) n _ hI.rd (by omega) (by omega)).mono ?_
      rintro e w2 hD2
      obtain ⟨a2, c2, xs, rfl, hxl, hO2, hR2, hG2⟩ := hD2.i
      have hlb := hI.lb
      have s2 := hG2.size
      have HXL := Lib.hid hxl
      have hx1 : xs.length ≤ n := by omega
      clear hxl hD2
      have hoA := ((hI.own.drawn hG2 hrl).ext ((Ext.refl w2).alloc (.cells #[.slice a2 xs.length c2] 38))).row
      go_wp2_with (at_builtin; refine wpList_app tyRows hoA (RowAt.new w2 #[.slice a2 xs.length c2] _) rfl (by simp [Value.oneCell']) (by omega) (by simp; omega) rfl rfl rfl rfl ?_; intro v3 w3 o3 g3 m3)
      go_roundw
      case rel =>
        have hI3 := hI.add hrl (Nat.le_refl _) (by omega) hO2 hR2 hG2 g3 m3 rfl (by exact o3)
        refine ⟨k - 1, vals ++ [.slice a2 xs.length c2], xss ++ [xs], by go_num, by simp; omega, Lib.hid (fun r hr => ?_), ?_⟩
        · rcases List.mem_append.1 hr with hr | hr
          · exact hx.out r hr
          · rw [List.mem_singleton] at hr; subst hr; exact HXL.out
        · have e : N + 1 + (xss ++ [xs]).length * n = N + 1 + xss.length * n + n := by simp [Nat.add_mul]; omega
          rw [e]; exact hI3
      case measure => simp [intOf]; omega
    · go_wp2
      go_ret
      have hmul : xss.length * n ≤ 11 * n := Nat.mul_le_mul_right _ (by omega)
      exact ⟨_, vals, xss, rfl, by omega, hx.out, hI.mono (by omega)⟩
theorem l20Rows_i (rb : Nat) (bs : List Int) (N : Nat) (ni : Int) (n : Nat) (hni : ni = n) (w : World) (hr : Rdr w rb bs N) (hN : N ≤ 100000) (hn : n ≤ 1000) :
    Calls Try.prog 42 #[.pointer (some ⟨rb, 0, none⟩), .int .i64 ni] w (DrawnR w rb bs N n) := by
  subst hni; exact l20Rows_c rb bs N n w hr hN hn
theorem OwnR.set {w : World} {base : Nat} {v : Value} {vals : List Value} {xss : List (List Bool)} (h : OwnR w base v vals xss) {B : Nat} (hB : B < base) (i : Nat) (u : Value) : OwnR (w.setCell ⟨B, i, none⟩ u) base v vals xss :=
  { h with row := ownsRow_set h.row (p := ⟨B, i, none⟩) (fun e => by have := (h.row.lt _ e).1; simp at this; omega) u, el := fun j hj => (h.el j hj).setOther (p := ⟨B, i, none⟩) (fun e => by have := ((h.el j hj).lt2 _ e).1; simp at this; omega) u }
/-- What a draw of a circuit with rows hands back. -/
def DrawnCR (w : World) (n : Int) (m : Nat) (e : Ending) (w' : World) : Prop :=
  ∃ c p ra rc xss, e = .returned (.tuple #[.agg #[.int .i64 c.inputs, .slice p.an c.next.length p.cn, .slice p.ag c.gates.length p.cg, .slice p.ao c.outs.length p.co], .slice ra (List.length xss) rc]) ∧ CircAt w' c p ∧ RowsAt w' ra xss ∧ DrawnC c n ∧ xss.length ≤ m ∧ (∀ r ∈ xss, r.length ≤ 8) ∧ (n ≤ 0 → FitR c xss) ∧ xss.length ≤ rc ∧ rc ≤ maxLen ∧ Ext w w'
theorem draw_run_fin {w W0 w1 w2 wX w8 : World} {rb M nn m base : Nat} {n : Int} {bs : List Int} {d : Circ} {p : Where3} {ra : Option Addr} {rc L : Nat} {vals : List Value} {xss : List (List Bool)} {v0 v1 v2 v3 : Value}
    (hC : CircAt w2 d p) (hF : FromB w1.heap.size p) (hd : DrawnC d n) (E0 : Ext w W0) (E2 : Ext W0 w2) (hrb : W0.heap.size ≤ rb) (rb1 : rb < w1.heap.size) (z0 : W0.heap.size = w.heap.size + 1) (hE1 : Ext W0 w1)
    (G8 : w2.grownBy wX (some rb)) (hI : RInv wX base rb bs M nn (.slice ra L rc) vals xss w8) (hb : w.heap.size < base) (hn8 : nn ≤ 8) (hm : xss.length ≤ m) (hfit : n ≤ 0 → FitR d xss) :
    DrawnCR w n m (.returned (.tuple #[.agg #[.int .i64 d.inputs, .slice p.an d.next.length p.cn, .slice p.ag d.gates.length p.cg, .slice p.ao d.outs.length p.co], .slice ra L rc])) ((((w8.setCell ⟨w.heap.size, 0, none⟩ v0).setCell ⟨w.heap.size, 1, none⟩ v1).setCell ⟨w.heap.size, 2, none⟩ v2).setCell ⟨w.heap.size, 3, none⟩ v3) := by
  have s1 := hE1.size
  have k1 : ∀ x, p.an = some x → w.heap.size ≠ x.block := fun x hx => by have := hF.1 x hx; omega
  have k2 : ∀ x, p.ag = some x → w.heap.size ≠ x.block := fun x hx => by have := hF.2.1 x hx; omega
  have k3 : ∀ x, p.ao = some x → w.heap.size ≠ x.block := fun x hx => by have := hF.2.2 x hx; omega
  have G : w2.grownBy w8 (some rb) := Gr.trans G8 hI.gr
  have hC8 : CircAt w8 d p := hC.drawn hF G rb1
  have EW : Ext w w8 := ext_of_gr (E0.trans E2) G (by omega)
  have hL : L = xss.length ∧ L ≤ rc ∧ rc ≤ maxLen := by
    obtain ⟨a', c', e, _, l1, l2, _⟩ := ownsRow_row hI.own.row
    cases e; exact ⟨rfl, l1, l2⟩
  obtain ⟨hL, hL1, hL2⟩ := hL
  subst hL
  exact ⟨d, p, ra, rc, xss, rfl, (((hC8.set k1 k2 k3 _ _).set k1 k2 k3 _ _).set k1 k2 k3 _ _).set k1 k2 k3 _ _, ((((hI.own.set hb 0 v0).set hb 1 v1).set hb 2 v2).set hb 3 v3).at_, hd, hm, fun r hr => Nat.le_trans (hI.sm r hr) hn8, hfit, hL1, hL2, Ext.setNew (Ext.setNew (Ext.setNew (Ext.setNew EW (by simp) _) (by simp) _) (by simp) _) (by simp) _⟩
set_option maxHeartbeats 2000000 in
theorem DrawRun_c (a : Option Addr) (c : Nat) (bs : List Int) (w : World) (hB : BytesAt w a bs) (hl : bs.length ≤ 1048576) (hc : bs.length ≤ c) (hcm : c ≤ maxLen) :
    Calls Try.prog 35 #[.slice a bs.length c] w (DrawnCR w 0 11) := by
  go_enter Try.func35, Try.ntmps35
  go_wp2_with fail
  have b0 := Blk.at w [.int .i64 0, .slice none 0 0, .slice none 0 0, .slice none 0 0] 26 rfl
  have E0 : Ext w (w.alloc (.cells #[.int .i64 0, .slice none 0 0, .slice none 0 0, .slice none 0 0] 26)) := (Ext.refl w).alloc _
  have hB0 := hB.ext E0
  have z0 : (w.alloc (.cells #[.int .i64 0, .slice none 0 0, .slice none 0 0, .slice none 0 0] 26)).heap.size = w.heap.size + 1 := by simp
  generalize w.alloc (.cells #[.int .i64 0, .slice none 0 0, .slice none 0 0, .slice none 0 0] 26) = W0 at *
  refine (open_c a c bs _ hB0 hl hc hcm).mono ?_
  rintro e w1 ⟨rb, bs', rfl, hR1, hrb, hE1⟩
  go_wp2_with fail
  refine (l20Circuit_c rb bs' 0 0 _ hR1 (by omega) (by omega) (by omega)).mono ?_
  rintro e w2 hD
  obtain ⟨d, p, rfl, hC, hd, hF, hR2, hG2, hcap⟩ := drawn_open hD
  have rb1 := hR1.lt
  have E2 : Ext W0 w2 := ext_of_gr hE1 hG2 (by omega)
  have b2 := b0.ext E2
  have y2 := CircBox.made w2 d p 26
  have V := hd.ok (by omega)
  have i0 := V.i0
  have i4 := V.i4
  have s2 := hG2.size
  have eX : Ext w2 (w2.alloc (.cells #[.int .i64 d.inputs, .slice p.an d.next.length p.cn, .slice p.ag d.gates.length p.cg, .slice p.ao d.outs.length p.co] 26)) := (Ext.refl w2).alloc _
  have hRd := hR2.ext eX
  have b2' := b2.ext eX
  go_wp2_with fail
  generalize hw3 : w2.alloc (.cells #[.int .i64 d.inputs, .slice p.an d.next.length p.cn, .slice p.ag d.gates.length p.cg, .slice p.ao d.outs.length p.co] 26) = w3 at *
  have s3 : w3.heap.size = w2.heap.size + 1 := by rw [← hw3]; simp
  have S3 := Lib.hid s3
  have s3a : w2.heap.size < w3.heap.size := by omega
  have hni : d.inputs = ((d.inputs.toNat : Nat) : Int) := by omega
  have HNI := Lib.hid hni
  have HV := Lib.hid V
  clear hw3 s3 hni V
  (obtain ⟨lq, q0, q1, q2, q3⟩ := (id y2))
  go_region_law (first | (go_simp; go_at_call 42; refine (l20Rows_i rb bs' (0 + 200) _ d.inputs.toNat HNI.out _ (hRd.ext (Ext.drew _)) (by omega) (by omega)).mono ?_; rintro e w4 ⟨v4, vals, xss, rfl, hxl, hxr, hI⟩; obtain ⟨ra, rc, rfl, _⟩ := ownsRow_row hI.own.row; have HXR := Lib.hid hxr; clear hxr; have G4 : w3.grownBy w4 (some rb) := Gr.trans (Gr.ext (Ext.drew w3) _) hI.gr; have y4 : CircBox w4 _ _ _ := y2.grn G4 (by simp; omega); obtain ⟨lr, r0, r1, r2, r3⟩ := (id y4); have b4 : Blk w4 _ _ _ := b2'.gr G4 (by simp; omega); have b40 := b4.cell (i := 0) rfl; have b41 := b4.cell (i := 1) rfl; have b42 := b4.cell (i := 2) rfl; have b43 := b4.cell (i := 3) rfl; have b4f := (fun i => b4.frozen i)))
  all_goals
    have rC := (((b4.set 0 (.int .i64 d.inputs)).set 1 (.slice p.an d.next.length p.cn)).set 2 (.slice p.ag d.gates.length p.cg)).set 3 (.slice p.ao d.outs.length p.co)
    have rc0 := rC.cell (i := 0) rfl
    have rc1 := rC.cell (i := 1) rfl
    have rc2 := rC.cell (i := 2) rfl
    have rc3 := rC.cell (i := 3) rfl
    go_wp2
    refine bodyPost_ret (v := .tuple #[.agg #[.int .i64 d.inputs, .slice p.an d.next.length p.cn, .slice p.ag d.gates.length p.cg, .slice p.ao d.outs.length p.co], .slice ra xss.length rc]) (by simp [results, Try.results35, go_sem, rc0, rc1, rc2, rc3]) rfl ?_
    have hfit : (0 : Int) ≤ 0 → FitR d xss := fun _ => ⟨HV.out, by omega, fun j hj => by
      have hm : xss.getD j [] ∈ xss := by rw [List.getD_eq_getElem?_getD, List.getElem?_eq_getElem hj]; exact List.getElem_mem hj
      rw [HXR.out _ hm]; exact HNI.out.symm⟩
    exact draw_run_fin hC hF hd E0 E2 hrb rb1 z0 hE1 (Gr.ext (eX.trans (Ext.drew w3)) _) hI (by have := hE1.size; simp; omega) (by omega) hxl hfit
end Go.Proofs.Ytpfhlodlefcomaa

namespace Go.Proofs.Ytpfhlodlefcomaa
open Go.RowKit
set_option maxRecDepth 100000
set_option linter.unusedVariables false
set_option linter.unusedSimpArgs false
theorem rowsFit_c (b : Nat) (c : Circ) (p : Where3) (a : Option Addr) (cap : Nat) (xss : List (List Bool)) (w : World) (hb : CircBox w b c p) (hc : CircAt w c p) (hr : RowsAt w a xss) (hl : xss.length ≤ 1048576) (hlr : ∀ j, j < xss.length → (xss.getD j []).length ≤ 1048576) :
    Calls Try.prog 45 #[.pointer (some ⟨b, 0, none⟩), .slice a xss.length cap] w fun e w' => e = .returned (.bool (fitB c xss)) ∧ Ext w w' := by
  obtain ⟨R, hR⟩ : ∃ R, R = fitB c xss := ⟨_, rfl⟩
  rw [← hR]
  have HR := Lib.hid hR
  have HL := Lib.hid hlr
  clear hR hlr
  (obtain ⟨lb, b0, b1, b2, b3⟩ := (id hb))
  go_enter Try.func45, Try.ntmps45
  go_wp2_with fail
  refine (implCircuitValid_c c p _ hc).mono ?_
  rintro e w1 ⟨rfl, hE1⟩
  cases hv : validB c
  · have hRR : R = false := by rw [HR.out]; unfold fitB; rw [hv]; rfl
    subst hRR
    clear hv
    go_wp2
    go_ret
    exact ⟨rfl, hE1⟩
  · by_cases h40 : 40 < xss.length
    · have hRR : R = false := by rw [HR.out]; unfold fitB; rw [hv, show decide (xss.length ≤ 40) = false by simp; omega]; rfl
      subst hRR
      have hd : decide ((40 : Int) < (xss.length : Int)) = true := by simp; omega
      clear hv
      go_wp2
      go_ret
      exact ⟨rfl, hE1⟩
    · have hd : decide ((40 : Int) < (xss.length : Int)) = false := by simp; omega
      have HV := Lib.hid hv
      clear hv
      go_wp2_with fail
      go_loopw [19] (fun i wr => ∃ k : Nat, k ≤ xss.length ∧ i = .int .i64 k ∧ Hid (∀ j, j < k → ((xss.getD j []).length : Int) = c.inputs) ∧ Ext w wr) (fun i _ => xss.length - (intOf i).toNat)
      case atStart => exact ⟨0, Nat.zero_le _, rfl, Lib.hid (fun j hj => by omega), hE1⟩
      case round =>
        obtain ⟨k, hk, rfl, hp, hE⟩ := hrel
        have y := hb.ext hE
        clear lb b0 b1 b2 b3
        (obtain ⟨lb, b0, b1, b2, b3⟩ := (id y))
        by_cases hlt : k < xss.length
        · obtain ⟨gb, go, rfl, hgb, hg⟩ := (hr.ext hE).get (by omega)
          obtain ⟨aj, cj, q, hA⟩ := hg k hlt
          obtain ⟨n, hn⟩ : ∃ n, n = (xss.getD k []).length := ⟨_, rfl⟩
          have hn1 := HL.out k hlt
          rw [← hn] at q hn1
          have HN := Lib.hid hn
          clear hg hA hn
          by_cases he : (n : Int) = c.inputs
          · have hne : ((n : Int) != c.inputs) = false := by simp [he]
            have HE := Lib.hid he
            clear he
            go_wp2
            go_roundw
            case rel =>
              refine ⟨k + 1, by omega, by go_num, Lib.hid (fun j hj => ?_), hE⟩
              rcases Nat.lt_or_ge j k with h | h
              · exact hp.out j h
              · have : j = k := by omega
                subst this
                rw [← HN.out]; exact HE.out
            case measure => simp [intOf]; omega
          · have hne : ((n : Int) != c.inputs) = true := by simp [he]
            have hRR : R = false := by
              rw [HR.out]
              cases hf : fitB c xss
              · rfl
              · have := (fitB_iff.1 hf).r k hlt
                rw [← HN.out] at this
                exact absurd this he
            subst hRR
            clear he
            go_wp2
            go_ret
            exact ⟨rfl, hE⟩
        · have hk2 : k = xss.length := by omega
          have hRR : R = true := by
            rw [HR.out, fitB_iff]
            exact ⟨validB_iff.1 HV.out, by omega, fun j hj => hp.out j (by omega)⟩
          subst hRR
          subst hk2
          go_wp2
          go_ret
          exact ⟨rfl, hE⟩
set_option maxHeartbeats 4000000 in
theorem implSimulate_c (c : Circ) (p : Where3) (a : Option Addr) (cap : Nat) (xss : List (List Bool)) (w : World) (hc : CircAt w c p) (hr : RowsAt w a xss) (hl : xss.length ≤ 1048576) (hlr : ∀ j, j < xss.length → (xss.getD j []).length ≤ 1048576) :
    Calls Try.prog 17 #[.agg #[.int .i64 c.inputs, .slice p.an c.next.length p.cn, .slice p.ag c.gates.length p.cg, .slice p.ao c.outs.length p.co], .slice a xss.length cap] w (GiveRows w (simV c xss)) := by
  have made := CircBox.made w c p 26
  have E0 : Ext w (w.alloc (.cells #[.int .i64 c.inputs, .slice p.an c.next.length p.cn, .slice p.ag c.gates.length p.cg, .slice p.ao c.outs.length p.co] 26)) := (Ext.refl w).alloc _
  have HO := Lib.hid (show simV c xss = (if fitB c xss then runV c (st0 c) xss else []) from rfl)
  have HL := Lib.hid hlr
  go_enter Try.func17, Try.ntmps17
  go_wp2_with fail
  refine (rowsFit_c w.heap.size c p a cap xss _ made (hc.ext E0) (hr.ext E0) hl hlr).mono ?_
  rintro e w1 ⟨rfl, hE1⟩
  have y1 := made.ext hE1
  have E1 := E0.trans hE1
  clear hlr made E0 hE1
  cases hf : fitB c xss
  · rw [hf] at HO
    clear hf
    go_wp2
    go_ret
    rw [HO.out]
    exact ⟨_, [], rfl, OwnR.nil, E1⟩
  · rw [hf] at HO
    have F := fitB_iff.1 hf
    have HF := Lib.hid F
    have ln := F.V.ln
    have hn40 := F.n
    clear hf F
    (obtain ⟨lb, b0, b1, b2, b3⟩ := (id y1))
    have hm := run_zeros' (P := Try.prog) 38 4 (.bool false) [.bool false] 1 Try.underlying38 boolInfo' rfl (by decide) (by decide) c.next.length (by omega) w1
    have hz : zeros [Value.bool false] c.next.length = (st0 c).map Value.bool := by unfold st0; rw [zeros_one, List.map_replicate]
    have L0 : Blk (w1.alloc (.cells (zeros [Value.bool false] c.next.length).toArray 4)) w1.heap.size 4 ((st0 c).map Value.bool) := by
      have := Blk.at w1 (zeros [Value.bool false] c.next.length) 4 rfl
      rw [hz] at this ⊢; exact this
    have hs0 : (st0 c).length = c.next.length := by simp [st0]
    have S0 : OwnB (w1.alloc (.cells (zeros [Value.bool false] c.next.length).toArray 4)) w1.heap.size (.slice (some ⟨w1.heap.size, 0, none⟩) c.next.length c.next.length) (st0 c) := by
      unfold OwnB
      rw [hs0]
      exact L0.owns (n := c.next.length) (size := 1) (base := w1.heap.size) (by rw [List.length_map, hs0]; simp) (Nat.le_refl _) (by unfold maxLen; omega)
    have E2 := (Ext.refl w1).alloc (.cells (zeros [Value.bool false] c.next.length).toArray 4)
    have y2 := y1.ext E2
    clear L0 hz hs0
    go_wp2_with fail
    clear lb b0 b1 b2 b3
    go_loopw [5, 6, 19] (fun u5 u6 u19 wr => ∃ (k : Nat) (vals : List Value), k ≤ xss.length ∧ u19 = .int .i64 k ∧ OwnB wr w1.heap.size u5 (stRun c (st0 c) (xss.take k)) ∧ Hid (∀ q, u5.ownBlock = some q → u6.ownBlock ≠ some q) ∧ OwnR wr w1.heap.size u6 vals (runV c (st0 c) (xss.take k)) ∧ Ext w1 wr) (fun _ _ i _ => xss.length - (intOf i).toNat)
    case atStart => exact ⟨0, [], Nat.zero_le _, rfl, S0, Lib.hid (by simp [Value.ownBlock]), OwnR.nil, E2⟩
    case round =>
      clear S0 E2 y2 hm
      obtain ⟨k, vals, hk, rfl, hS, hSO, hO, hE⟩ := hrel
      have hrl := runV_length c (xss.take k) (st0 c)
      rw [List.length_take, Nat.min_eq_left hk] at hrl
      by_cases hlt : k < xss.length
      · obtain ⟨gb, go, rfl, hgb, hg⟩ := (hr.ext (E1.trans hE)).get (by omega)
        obtain ⟨aj, cj, q, hA⟩ := hg k hlt
        have hrl2 := HL.out k hlt
        have ok := evOk_run HF.out k hlt
        have hr1 := runV_snoc c (xss.getD k []) (xss.take k) (st0 c)
        have hs1 := stRun_snoc c (xss.getD k []) (xss.take k) (st0 c)
        rw [← take_snocG xss k [] hlt] at hr1 hs1
        obtain ⟨st, hst⟩ : ∃ st, st = stRun c (st0 c) (xss.take k) := ⟨_, rfl⟩
        obtain ⟨row, hrow⟩ : ∃ r, r = xss.getD k [] := ⟨_, rfl⟩
        obtain ⟨outs, hou⟩ : ∃ r, r = runV c (st0 c) (xss.take k) := ⟨_, rfl⟩
        rw [← hst] at hS ok hr1 hs1
        rw [← hrow] at q hA ok hr1 hs1 hrl2
        rw [← hou] at hO hr1 hrl
        have hsl := ok.ls
        obtain ⟨sa, sc, rfl, hSA⟩ := hS.opened
        have y := y1.ext hE
        (obtain ⟨lb, b0, b1, b2, b3⟩ := (id y))
        have hor := hO.row
        rw [hrl] at hor
        obtain ⟨oa, oc, rfl, _⟩ := ownsRow_row hor
        have HRL := Lib.hid hrl
        have HR1 := Lib.hid hr1
        have HS1 := Lib.hid hs1
        have hstl : st.length ≤ 1048576 := by omega
        have HSL := Lib.hid hsl
        have hcall := implStep_c c p sa aj sc cj st row wr (hc.ext (E1.trans hE)) hSA hA hstl hrl2
        clear hg hst hrow hou hr1 hs1 hrl hsl ok hS
        go_wp2_with fail
        refine hcall.mono ?_
        rintro e w2 ⟨v1, v2, rfl, hrep, hE2⟩
        obtain ⟨a1, c1, n1, a2, c2, n2, rfl, rfl⟩ := hrep.sl
        obtain ⟨⟨m, r1, r2, r3, r4, r5, r6⟩, _, _⟩ := hrep
        have bk := Blk.at w2 [.slice a1 n1 c1, .slice a2 n2 c2] 40 rfl
        have eA : Ext w2 ((w2.alloc (.cells #[.slice a1 n1 c1, .slice a2 n2 c2] 40)).alloc (.cells #[.slice a1 n1 c1] 38)) := ((Ext.refl w2).alloc _).alloc _
        have hrA : RowAt ((w2.alloc (.cells #[.slice a1 n1 c1, .slice a2 n2 c2] 40)).alloc (.cells #[.slice a1 n1 c1] 38)) (some ⟨w2.heap.size + 1, 0, none⟩) [.slice a1 n1 c1] := by
          have := RowAt.new (w2.alloc (.cells #[.slice a1 n1 c1, .slice a2 n2 c2] 40)) #[.slice a1 n1 c1] 38
          simpa using this
        have hoA := ownsRow_ext hor (hE2.trans eA)
        have hsA : w1.heap.size ≤ ((w2.alloc (.cells #[.slice a1 n1 c1, .slice a2 n2 c2] 40)).alloc (.cells #[.slice a1 n1 c1] 38)).heap.size := by have := hE.size; have := hE2.size; simp; omega
        have hnA : k + 1 ≤ 1073741824 := by omega
        have bkA := bk.ext ((Ext.refl _).alloc (.cells #[.slice a1 n1 c1] 38))
        have hol := hor.lt
        have HOL := Lib.hid hol
        have HSZ := Lib.hid hE2.size
        have HO := Lib.hid hO
        clear hol bk hcall b0 b1 b2 b3 lb y hO
        go_wp2_with (at_builtin; refine wpList_app tyRows hoA hrA rfl (by simp [Value.oneCell']) hnA hsA rfl rfl rfl rfl ?_; intro v9 w9 o9 g9 m9; obtain ⟨a9, c9, rfl, _⟩ := ownsRow_row o9; have bk9 := bkA.gr g9 (by intro e; have := (HOL.out _ e).2; have := HSZ.out; omega); have z0 := bk9.cell (i := 0) rfl; have z1 := bk9.cell (i := 1) rfl)
        go_roundw
        case rel =>
          have hO9 := HO.out.snoc (u := .slice a1 n1 c1) (x := (stepV c st row).1) (hE2.trans eA) (OwnB.le (r1.ext eA) (by have := hE.size; omega)) (fun q hq => (r1.lt2 q hq).1) g9 m9 (by rw [HRL.out]) (by exact o9)
          have hv2 : OwnB w9 w1.heap.size (.slice a2 n2 c2) (stepV c st row).2 := OwnB.le (ownsRow_gr (r3.ext eA) g9 (off_row (fun q hq e => by have := (r3.lt2 q hq).1; have := (HOL.out q e).2; omega))) (by have := hE.size; omega)
          refine ⟨k + 1, vals ++ [.slice a1 n1 c1], by omega, by go_num, ?_, Lib.hid (fun q hq e => ?_), ?_, ?_⟩
          · rw [HS1.out]; exact hv2
          · have h3 := (r3.lt2 q hq)
            rcases m9 with em | ⟨x, em, hx⟩
            · rw [em] at e; have := (HOL.out q e).2; omega
            · rw [em] at e; have : x = q := Option.some.inj e; have := eA.size; omega
          · rw [HR1.out]; exact hO9
          · exact ext_grown ((hE.trans hE2).trans eA) g9 (fun q hq => (HOL.out q hq).1)
        case measure => simp [intOf]; omega
      · have hk2 : k = xss.length := by omega
        subst hk2
        rw [List.take_length] at hO
        simp only [if_true] at HO
        go_wp2
        go_ret
        rw [HO.out]
        exact ⟨_, vals, rfl, hO.le E1.size, E1.trans hE⟩
end Go.Proofs.Ytpfhlodlefcomaa

namespace Go.Proofs.Ytpfhlodlefcomaa
open Go.ChangeShapes Go.WideShapes Go.ChangeAt Go.RowKit
set_option maxRecDepth 100000
set_option linter.unusedVariables false
set_option linter.unusedSimpArgs false
theorem lawBits_j (xi ni : Int) (x n : Nat) (h1 : xi = x) (h2 : ni = n) (hx : x ≤ 100000000) (hn : n ≤ 30) (w : World) :
    Calls Try.prog 31 #[.int .i64 xi, .int .i64 ni] w (GiveB w (bitsN x n)) := by
  subst h1 h2; exact lawBits_c x n hx hn w
/-- What 'p := impl.Step(..)' leaves. -/
def CutStep (w : World) (x : List Bool × List Bool) (v : Value) (wx : World) : Prop := ∃ D a1 c1 a2 c2, v = .pointer (some ⟨D, 0, none⟩) ∧ Blk wx D 40 [.slice a1 x.1.length c1, .slice a2 x.2.length c2] ∧ BoolsAt wx a1 x.1 ∧ BoolsAt wx a2 x.2 ∧ Ext w wx
theorem cut_behind {w0 w4 : World} {b N : Nat} {a1 a2 : Option Addr} {n1 c1 n2 c2 : Nat} {x : List Bool × List Bool} (h : RepStep w4 b N (.slice a1 n1 c1) (.slice a2 n2 c2) x) (E : Ext w0 w4) :
    CutStep w0 x (.pointer (some ⟨w4.heap.size, 0, none⟩)) (w4.alloc (.cells #[.slice a1 n1 c1, .slice a2 n2 c2] 40)) := by
  obtain ⟨_, _, _, _, e1, h1, e2, h2⟩ := h.opened
  cases e1; cases e2
  have eB : Ext w4 (w4.alloc (.cells #[.slice a1 x.1.length c1, .slice a2 x.2.length c2] 40)) := (Ext.refl w4).alloc _
  exact ⟨_, _, _, _, _, rfl, Blk.at w4 _ _ rfl, h1.ext eB, h2.ext eB, E.trans eB⟩
theorem cut_before {w0 w4 : World} {b N D : Nat} {a1 a2 : Option Addr} {n1 c1 n2 c2 : Nat} {x : List Bool × List Bool} (h : RepStep w4 b N (.slice a1 n1 c1) (.slice a2 n2 c2) x) (hD : D < b) (bk : Blk w4 D 40 [.slice none 0 0, .slice none 0 0]) (E : Ext w0 w4) (h0 : w0.heap.size ≤ D) :
    CutStep w0 x (.pointer (some ⟨D, 0, none⟩)) ((w4.setCell ⟨D, 0, none⟩ (.slice a1 n1 c1)).setCell ⟨D, 1, none⟩ (.slice a2 n2 c2)) := by
  have h' := (h.set (p := ⟨D, 0, none⟩) hD (.slice a1 n1 c1)).set (p := ⟨D, 1, none⟩) hD (.slice a2 n2 c2)
  obtain ⟨_, _, _, _, e1, h1, e2, h2⟩ := h'.opened
  cases e1; cases e2
  exact ⟨_, _, _, _, _, rfl, (bk.set 0 _).set 1 _, h1, h2, Ext.setNew (p := ⟨D, 1, none⟩) (Ext.setNew (p := ⟨D, 0, none⟩) E h0 _) h0 _⟩
set_option maxHeartbeats 8000000 in
theorem fnOptimize_walk (a0 : Option Addr) (len0 cap0 : Nat) (z0 : List Int) (w : World) (w0 : IsRow .u8 w a0 len0 cap0 z0) :
    Calls Try.prog 9 #[.slice a0 len0 cap0] w fun e w' => e = .returned (.bool true) ∧ Below w.heap.size w w' := by
  obtain ⟨bs, rfl, hB, hlc, hcm⟩ := bytes_of_row w0
  by_cases hl : bs.length ≤ 1048576
  · go_enter Try.func9, Try.ntmps9
    go_wp2_with fail
    refine (DrawRun_c a0 cap0 bs _ hB hl hlc hcm).mono ?_
    rintro e w1 ⟨c, p, ra, rc, xss, rfl, hC, hRW, hd, hxl, hx8, hfit, _, _, hE⟩
    have V := hd.ok (by omega)
    have FIT := hfit (by omega)
    clear hd hfit
    go_wp2_with fail
    (have y := CircBox.made w1 c p 26; have Ey : Ext w1 (w1.alloc (.cells #[.int .i64 c.inputs, .slice p.an c.next.length p.cn, .slice p.ag c.gates.length p.cg, .slice p.ao c.outs.length p.co] 26)) := (Ext.refl w1).alloc _; have hC := hC.ext Ey)
    have hRW := hRW.ext Ey
    generalize w1.alloc (.cells #[.int .i64 c.inputs, .slice p.an c.next.length p.cn, .slice p.ag c.gates.length p.cg, .slice p.ao c.outs.length p.co] 26) = W1 at *
    have E1 := Ext.trans hE Ey
    clear hE Ey
    refine (implOptimize_c c p _ hC).mono ?_
    rintro e w2 ⟨nv, gv, ov, rfl, o2, hE2⟩
    obtain ⟨l1, l2, l3⟩ := optV_lens c
    have W := optV_valid V
    have hsi := sameI_opt V
    have hstep := fun (st ins : List Bool) (ok : EvOk c st ins) => (step_opt ok).2
    have hsim := opt_sim V xss
    have hsml := simV_length (fitB_iff.2 FIT)
    have hsrl := simV_rl FIT
    have hcs := implCircuitValid_c c p
    obtain ⟨d, hd2⟩ : ∃ d, d = optV c := ⟨_, rfl⟩
    rw [← hd2] at o2 l1 l2 l3 W hsi hstep hsim ⊢
    have HD := Lib.hid hd2
    have HV := Lib.hid V
    have HW := Lib.hid W
    have HSI := Lib.hid hsi
    have HST := Lib.hid hstep
    have i0 := V.i0
    have i4 := V.i4
    have ln := V.ln
    have al := assigns_le V
    have hw := shl_wrap V
    have hw6 : IntKind.i64.wrap (c.inputs + (c.next.length : Int)) = c.inputs + (c.next.length : Int) := IntWalk.i64_in _ (by omega)
    have hw7 : 0 ≤ c.inputs + (c.next.length : Int) ∧ c.inputs + (c.next.length : Int) ≤ 64 := by omega
    obtain ⟨hw70, hw71⟩ := hw7
    have HAX := Lib.hid (show ∀ k, k < assigns c → EvOk c (stB c k) (inB c k) from fun k _ => evOk_bitsE V k)
    have HR8 : Hid (∀ j, j < xss.length → (xss.getD j []).length ≤ 1048576) := Lib.hid (fun j hj => by
      have : xss.getD j [] ∈ xss := by rw [List.getD_eq_getElem?_getD, List.getElem?_eq_getElem hj]; exact List.getElem_mem hj
      have := hx8 _ this
      omega)
    have HC0 := fun (w : World) (h1 : CircAt w c p) (h2 : RowsAt w ra xss) => (implSimulate_c c p ra rc xss w h1 h2 (by omega) HR8.out).mono (fun e w' h => h.opened)
    have HD0 := fun (q : Where3) (w : World) (h1 : CircAt w d q) (h2 : RowsAt w ra xss) => (implSimulate_c d q ra rc xss w h1 h2 (by omega) HR8.out).mono (fun e w' h => h.opened)
    rw [hsim] at HD0
    obtain ⟨SV, hSV⟩ : ∃ S, S = simV c xss := ⟨_, rfl⟩
    rw [← hSV] at HC0 HD0 hsml hsrl
    rw [hsml] at HC0 HD0
    have HC1 := Lib.hid HC0
    have HD1' := Lib.hid HD0
    have HSRL := Lib.hid hsrl
    have HSML := Lib.hid hsml
    have xl2 : xss.length ≤ 1048576 := by omega
    clear hsi hstep hsim hsml hsrl hcs hd2 HC0 HD0 hSV hx8 FIT V W
    obtain ⟨q, rfl, rfl, rfl, hCd, _⟩ := o2.opened (by omega) (by omega) (by omega)
    have hC := hC.ext hE2
    have hRW := hRW.ext hE2
    have y := y.ext hE2
    have E2 := E1.trans hE2
    clear o2 hE2 E1
    go_wp2_with fail
    have Ez : Ext w2 (w2.alloc (.cells #[.int .i64 d.inputs, .slice q.an d.next.length q.cn, .slice q.ag d.gates.length q.cg, .slice q.ao d.outs.length q.co] 26)) := (Ext.refl w2).alloc _
    have z := CircBox.made w2 d q 26
    have hC := hC.ext Ez
    have hRW := hRW.ext Ez
    have hCd := hCd.ext Ez
    have y := y.ext Ez
    have E3 := E2.trans Ez
    generalize w2.alloc (.cells #[.int .i64 d.inputs, .slice q.an d.next.length q.cn, .slice q.ag d.gates.length q.cg, .slice q.ao d.outs.length q.co] 26) = W3 at *
    clear E2 Ez
    (obtain ⟨ly, y0, y1, y2, y3⟩ := (id y))
    (obtain ⟨lz, z0, z1, z2, z3⟩ := (id z))
    go_region_held3 ((fun w' => (∀ b o, b < W3.heap.size → w'.cell? ⟨b, o, none⟩ = W3.cell? ⟨b, o, none⟩) ∧ Ext W3 w')) ((first | assumption | (with_reducible exact held_mk (Ext.drew W3)) | (with_reducible exact held_mk (((Ext.refl W3).alloc _).drew')) | (with_reducible exact held_mk ((Ext.drew W3).alloc _)))) (first
      | (go_simp; go_at_call 12; have hguard := hK3; refine (implSame_c c d p q _ (hC.ext (held_ext hK3)) (hCd.ext (held_ext hK3))).mono ?_; rw [HSI.out]; rintro e w7 ⟨rfl, hE7⟩; have hK4 := held_mk ((held_ext hK3).trans hE7))
      | (go_simp; go_at_call 14; have hguard := hK2; refine (implCircuitValid_c d q _ (hCd.ext (held_ext hK2))).mono ?_; rw [validB_true HW.out]; rintro e w6 ⟨rfl, hE6⟩; have hK3 := held_mk ((held_ext hK2).trans hE6))
      | (go_simp; go_at_call 25; have hguard := hK1; refine (sameCircuit_c d q r _ (hCd.ext (held_ext hK1)) hR).mono ?_; rintro e w5 ⟨rfl, hE5⟩; have hK2 := held_mk ((held_ext hK1).trans hE5))
      | (go_simp; go_at_call 26; refine (specOptimize_c c p _ (hC.ext (Ext.drew W3))).mono ?_; rw [← HD.out]; rintro e w4 ⟨nv4, gv4, ov4, rfl, o4, hE4⟩; obtain ⟨r, rfl, rfl, rfl, hR, _⟩ := o4.opened (by omega) (by omega) (by omega); have hK1 := held_mk ((Ext.drew W3).trans hE4)))
    have E5 := held_ext hK4
    have hC := hC.ext E5
    have hRW := hRW.ext E5
    have hCd := hCd.ext E5
    have y := y.ext E5
    have z := z.ext E5
    have E6 := E3.trans E5
    clear hK1 hK2 hK3 hK4 hE4 hE5 hE6 hE7 o4 hR E3 E5 y0 y1 y2 y3 ly z0 z1 z2 z3 lz
    (obtain ⟨ly, y0, y1, y2, y3⟩ := (id y))
    obtain ⟨T, hT⟩ : ∃ T, T = assigns c := ⟨_, rfl⟩
    rw [← hT] at al hw HAX
    have HT := Lib.hid hT
    clear hT
    go_wp2_with fail
    go_loopw [7] (fun u wr => ∃ k : Nat, k ≤ T ∧ u = .int .i64 k ∧ CircBox wr w1.heap.size c p ∧ CircBox wr w2.heap.size d q ∧ Ext w7 wr) (fun i _ => T - (intOf i).toNat)
    case atStart => exact ⟨0, Nat.zero_le _, rfl, y, z, Ext.refl _⟩
    case round =>
      obtain ⟨k, hk, rfl, hy, hz, hE⟩ := hrel
      clear y0 y1 y2 y3 ly
      obtain ⟨ly, y0, y1, y2, y3⟩ := (id hy)
      by_cases hlt : k < T
      · have hd1 := bits_div k c.inputs.toNat
        have HD1 := Lib.hid hd1
        have hle : k / 2 ^ c.inputs.toNat ≤ 100000000 := Nat.le_trans (Nat.div_le_self _ _) (by omega)
        have EI : Hid (inB c k = bitsN k c.inputs.toNat) := Lib.hid rfl
        have ET : Hid (stB c k = bitsN (k / 2 ^ c.inputs.toNat) c.next.length) := Lib.hid rfl
        have hok := HAX.out k hlt
        have hst := HST.out _ _ hok
        have hsl := stepV_len hok
        have li1 : (inB c k).length ≤ 4 := (sb_small c k HV.out).2
        have ls1 : (stB c k).length ≤ 3 := (sb_small c k HV.out).1
        generalize inB c k = I at *
        generalize stB c k = S at *
        obtain ⟨X, hX⟩ : ∃ X, X = stepV c S I := ⟨_, rfl⟩
        rw [← hX] at hst hsl
        have lo := HV.out.lo
        obtain ⟨sl1, sl2⟩ : X.1.length ≤ 1048576 ∧ X.2.length ≤ 1048576 := by omega
        have HX := Lib.hid hX
        have HX2 := Lib.hid hst.symm
        obtain ⟨w8, rfl⟩ : ∃ x : World, x = wr := ⟨_, rfl⟩
        clear hd1 hok hst hX hsl lo
        go_wp2_with fail
        go_upto_region 11 with fail
        go_cut [8] (CutStep w8 X)
        case first =>
          (refine wp_regionT ((fun w' => (∀ b o, b < w8.heap.size → w'.cell? ⟨b, o, none⟩ = w8.cell? ⟨b, o, none⟩) ∧ Ext w8 w')) 15 (by kernel_rfl) ?_; have hS0 := held_mk (Ext.drew w8))
          ((refine wpAnyT_take 0 (v := ?_) rfl (by kernel_rfl) (fun _ _ _ h => h) (Or.inl ⟨by kernel_rfl, ?_⟩) (by assumption) ?_; rotate_left; (intro wS hSw; (try dsimp only at hSw); go_simp; (try with_reducible rfl)); (try simp only [Act.put, List.setIfInBounds_toArray, List.set_cons_zero, List.set_cons_succ])); (refine wpAnyT_take 1 (v := ?_) rfl (by kernel_rfl) (fun _ _ _ h => h) (Or.inl ⟨by kernel_rfl, ?_⟩) (by assumption) ?_; rotate_left; (intro wS hSw; (try dsimp only at hSw); go_simp; (try with_reducible rfl)); (try simp only [Act.put, List.setIfInBounds_toArray, List.set_cons_zero, List.set_cons_succ])); (refine wpAnyT_take 2 (v := ?_) rfl (by kernel_rfl) (fun _ _ _ h => h) (Or.inl ⟨by kernel_rfl, ?_⟩) (by assumption) ?_; rotate_left; (intro wS hSw; (try dsimp only at hSw); go_simp; (try with_reducible rfl)); (try simp only [Act.put, List.setIfInBounds_toArray, List.set_cons_zero, List.set_cons_succ])); (refine wpAnyT_take 3 (v := ?_) rfl (by kernel_rfl) (fun _ _ _ h => h) (Or.inl ⟨by kernel_rfl, ?_⟩) (by assumption) ?_; rotate_left; (intro wS hSw; (try dsimp only at hSw); go_simp; (try with_reducible rfl)); (try simp only [Act.put, List.setIfInBounds_toArray, List.set_cons_zero, List.set_cons_succ])); (refine wpAnyT_take 4 (v := ?_) rfl (by kernel_rfl) (fun _ _ _ h => h) (Or.inl ⟨by kernel_rfl, ?_⟩) (by assumption) ?_; rotate_left; (intro wS hSw; (try dsimp only at hSw); go_simp; (try with_reducible rfl)); (try simp only [Act.put, List.setIfInBounds_toArray, List.set_cons_zero, List.set_cons_succ])); (refine wpAnyT_take 5 (v := ?_) rfl (by kernel_rfl) (fun _ _ _ h => h) (Or.inl ⟨by kernel_rfl, ?_⟩) (by assumption) ?_; rotate_left; (intro wS hSw; (try dsimp only at hSw); go_simp; (try with_reducible rfl)); (try simp only [Act.put, List.setIfInBounds_toArray, List.set_cons_zero, List.set_cons_succ])); (refine wpAnyT_take 6 (v := ?_) rfl (by kernel_rfl) (fun _ _ _ h => h) (Or.inl ⟨by kernel_rfl, ?_⟩) (by assumption) ?_; rotate_left; (intro wS hSw; (try dsimp only at hSw); go_simp; (try with_reducible rfl)); (try simp only [Act.put, List.setIfInBounds_toArray, List.set_cons_zero, List.set_cons_succ])); (refine wpAnyT_take 7 (v := ?_) rfl (by kernel_rfl) (fun _ _ _ h => h) (Or.inl ⟨by kernel_rfl, ?_⟩) (by assumption) ?_; rotate_left; (intro wS hSw; (try dsimp only at hSw); go_simp; (try with_reducible rfl)); (try simp only [Act.put, List.setIfInBounds_toArray, List.set_cons_zero, List.set_cons_succ])); (refine wpAnyT_take 9 (v := ?_) rfl (by kernel_rfl) (fun _ _ _ h => h) (Or.inl ⟨by kernel_rfl, ?_⟩) (by assumption) ?_; rotate_left; (intro wS hSw; (try dsimp only at hSw); go_simp; (try with_reducible rfl)); (try simp only [Act.put, List.setIfInBounds_toArray, List.set_cons_zero, List.set_cons_succ])); (refine wpAnyT_take 10 (v := ?_) rfl (by kernel_rfl) (fun _ _ _ h => h) (Or.inl ⟨by kernel_rfl, ?_⟩) (by assumption) ?_; rotate_left; (intro wS hSw; (try dsimp only at hSw); go_simp; (try with_reducible rfl)); (try simp only [Act.put, List.setIfInBounds_toArray, List.set_cons_zero, List.set_cons_succ])); (refine wpAnyT_take 11 (v := ?_) rfl (by kernel_rfl) (fun _ _ _ h => h) (Or.inl ⟨by kernel_rfl, ?_⟩) (by assumption) ?_; rotate_left; (intro wS hSw; (try dsimp only at hSw); go_simp; (try with_reducible rfl)); (try simp only [Act.put, List.setIfInBounds_toArray, List.set_cons_zero, List.set_cons_succ])))
          (refine wpAnyT_do2 8 14 (by kernel_rfl) rfl rfl (fun K hK => ?_) (fun K hK => ?_))
          · skip
            go_simp
            refine (lawBits_j _ _ (k / 2 ^ c.inputs.toNat) c.next.length HD1.out rfl hle (by omega) _).mono ?_
            rw [← ET.out]
            rintro e w51 ⟨v51, rfl, hO51, hE51⟩
            obtain ⟨rS, cS, rfl, hBS⟩ := hO51.opened
            have hX51 := (Ext.drew w8).trans hE51
            have hS51 := held_mk hX51
            (refine hK _ _ hS51 ?_; clear hK K; (try simp only [Act.put, List.setIfInBounds_toArray, List.set_cons_zero, List.set_cons_succ]))
            (refine wpAnyT_do2 12 14 (by kernel_rfl) rfl rfl (fun K hK => ?_) (fun K hK => ?_))
            · skip
              go_simp
              refine (lawBits_j _ _ k c.inputs.toNat rfl (by omega) (by omega) (by omega) _).mono ?_
              rw [← EI.out]
              rintro e w52 ⟨v52, rfl, hO52, hE52⟩
              obtain ⟨rI, cI, rfl, hBI⟩ := hO52.opened
              have hX52 := (hX51).trans hE52
              have hBS := hBS.ext hE52
              have hS52 := held_mk hX52
              (refine hK _ _ hS52 ?_; clear hK K; (try simp only [Act.put, List.setIfInBounds_toArray, List.set_cons_zero, List.set_cons_succ]))
              (refine wpAnyT_do2 13 14 (by kernel_rfl) rfl rfl (fun K hK => ?_) (fun K hK => ?_))
              · skip
                go_simp
                refine (implStep_c c p _ _ _ _ S I _ ((hC.ext hE).ext (hX52)) hBS hBI (by omega) (by omega)).mono ?_
                rw [← HX.out]
                rintro e w53 ⟨v1, v2, rfl, hR, hE53⟩
                obtain ⟨a1, c1, n1, a2, c2, n2, rfl, rfl⟩ := hR.sl
                have hX53 := (hX52).trans hE53
                have hS53 := held_mk hX53
                (refine hK _ _ hS53 ?_; clear hK K; (try simp only [Act.put, List.setIfInBounds_toArray, List.set_cons_zero, List.set_cons_succ]))
                (refine wpAnyT_doB 14 (by kernel_rfl) rfl (fun K hK => ?_))
                refine Bx.mk ?_
                go_simp
                have hX54 := (hX53).alloc (.cells #[.slice none 0 0, .slice none 0 0] 40)
                have bk54 := Blk.at w53 [.slice none 0 0, .slice none 0 0] 40 rfl
                have z0 := bk54.cell (i := 0) rfl
                have z1 := bk54.cell (i := 1) rfl
                have zf := fun i => bk54.frozen i
                have hS54 := held_mk hX54
                (refine hK _ _ hS54 ?_; clear hK K; (try simp only [Act.put, List.setIfInBounds_toArray, List.set_cons_zero, List.set_cons_succ]))
                (refine wpAnyT_lastB 15 (by kernel_rfl) rfl (by decide) (by kernel_rfl) (fun K hK => ?_))
                refine Bx.mk ?_
                go_simp
                (refine hK _ _ ?_; clear hK K; (try simp only [Act.put, List.setIfInBounds_toArray, List.set_cons_zero, List.set_cons_succ]))
                go_wp2_with fail
                go_meet
                exact cut_behind hR hX53
              · skip
                go_simp
                have hX55 := (hX52).alloc (.cells #[.slice none 0 0, .slice none 0 0] 40)
                have bk55 := Blk.at w52 [.slice none 0 0, .slice none 0 0] 40 rfl
                have hBS := hBS.ext ((Ext.refl w52).alloc (.cells #[.slice none 0 0, .slice none 0 0] 40))
                have hBI := hBI.ext ((Ext.refl w52).alloc (.cells #[.slice none 0 0, .slice none 0 0] 40))
                have hS55 := held_mk hX55
                (refine hK _ _ hS55 ?_; clear hK K; (try simp only [Act.put, List.setIfInBounds_toArray, List.set_cons_zero, List.set_cons_succ]))
                (refine wpAnyT_doB 13 (by kernel_rfl) rfl (fun K hK => ?_))
                refine Bx.mk ?_
                go_simp
                refine (implStep_c c p _ _ _ _ S I _ ((hC.ext hE).ext (hX55)) hBS hBI (by omega) (by omega)).mono ?_
                rw [← HX.out]
                rintro e w56 ⟨v1, v2, rfl, hR, hE56⟩
                obtain ⟨a1, c1, n1, a2, c2, n2, rfl, rfl⟩ := hR.sl
                have hX56 := (hX55).trans hE56
                have bk56 := bk55.ext hE56
                have z0 := bk56.cell (i := 0) rfl
                have z1 := bk56.cell (i := 1) rfl
                have zf := fun i => bk56.frozen i
                have hS56 := held_mk hX56
                (refine hK _ _ hS56 ?_; clear hK K; (try simp only [Act.put, List.setIfInBounds_toArray, List.set_cons_zero, List.set_cons_succ]))
                (refine wpAnyT_lastB 15 (by kernel_rfl) rfl (by decide) (by kernel_rfl) (fun K hK => ?_))
                refine Bx.mk ?_
                go_simp
                (refine hK _ _ ?_; clear hK K; (try simp only [Act.put, List.setIfInBounds_toArray, List.set_cons_zero, List.set_cons_succ]))
                go_wp2_with fail
                go_meet
                exact cut_before hR (by simp) bk56 hX56 ((hX52).size)
            · skip
              go_simp
              have hX57 := (hX51).alloc (.cells #[.slice none 0 0, .slice none 0 0] 40)
              have bk57 := Blk.at w51 [.slice none 0 0, .slice none 0 0] 40 rfl
              have hBS := hBS.ext ((Ext.refl w51).alloc (.cells #[.slice none 0 0, .slice none 0 0] 40))
              have hS57 := held_mk hX57
              (refine hK _ _ hS57 ?_; clear hK K; (try simp only [Act.put, List.setIfInBounds_toArray, List.set_cons_zero, List.set_cons_succ]))
              (refine wpAnyT_doB 12 (by kernel_rfl) rfl (fun K hK => ?_))
              refine Bx.mk ?_
              go_simp
              refine (lawBits_j _ _ k c.inputs.toNat rfl (by omega) (by omega) (by omega) _).mono ?_
              rw [← EI.out]
              rintro e w58 ⟨v58, rfl, hO58, hE58⟩
              obtain ⟨rI, cI, rfl, hBI⟩ := hO58.opened
              have hX58 := (hX57).trans hE58
              have bk58 := bk57.ext hE58
              have hBS := hBS.ext hE58
              have hS58 := held_mk hX58
              (refine hK _ _ hS58 ?_; clear hK K; (try simp only [Act.put, List.setIfInBounds_toArray, List.set_cons_zero, List.set_cons_succ]))
              have hlt5 := bk58.lt
              (refine wpAnyT_doB 13 (by kernel_rfl) rfl (fun K hK => ?_))
              refine Bx.mk ?_
              go_simp
              refine (implStep_c c p _ _ _ _ S I _ ((hC.ext hE).ext (hX58)) hBS hBI (by omega) (by omega)).mono ?_
              rw [← HX.out]
              rintro e w59 ⟨v1, v2, rfl, hR, hE59⟩
              obtain ⟨a1, c1, n1, a2, c2, n2, rfl, rfl⟩ := hR.sl
              have hX59 := (hX58).trans hE59
              have bk59 := bk58.ext hE59
              have z0 := bk59.cell (i := 0) rfl
              have z1 := bk59.cell (i := 1) rfl
              have zf := fun i => bk59.frozen i
              have hS59 := held_mk hX59
              (refine hK _ _ hS59 ?_; clear hK K; (try simp only [Act.put, List.setIfInBounds_toArray, List.set_cons_zero, List.set_cons_succ]))
              (refine wpAnyT_lastB 15 (by kernel_rfl) rfl (by decide) (by kernel_rfl) (fun K hK => ?_))
              refine Bx.mk ?_
              go_simp
              (refine hK _ _ ?_; clear hK K; (try simp only [Act.put, List.setIfInBounds_toArray, List.set_cons_zero, List.set_cons_succ]))
              go_wp2_with fail
              go_meet
              exact cut_before hR hlt5 bk59 hX59 ((hX51).size)
          · skip
            go_simp
            have hX60 : Ext w8 (w8.alloc (.cells #[.slice none 0 0, .slice none 0 0] 40)).drew := ((Ext.refl w8).alloc _).drew'
            have bk60 := (Blk.at w8 [.slice none 0 0, .slice none 0 0] 40 rfl).ext (Ext.drew _)
            have hS60 := held_mk hX60
            (refine hK _ _ hS60 ?_; clear hK K; (try simp only [Act.put, List.setIfInBounds_toArray, List.set_cons_zero, List.set_cons_succ]))
            (refine wpAnyT_doB 8 (by kernel_rfl) rfl (fun K hK => ?_))
            refine Bx.mk ?_
            go_simp
            refine (lawBits_j _ _ (k / 2 ^ c.inputs.toNat) c.next.length HD1.out rfl hle (by omega) _).mono ?_
            rw [← ET.out]
            rintro e w61 ⟨v61, rfl, hO61, hE61⟩
            obtain ⟨rS, cS, rfl, hBS⟩ := hO61.opened
            have hX61 := (hX60).trans hE61
            have bk61 := bk60.ext hE61
            have hS61 := held_mk hX61
            (refine hK _ _ hS61 ?_; clear hK K; (try simp only [Act.put, List.setIfInBounds_toArray, List.set_cons_zero, List.set_cons_succ]))
            (refine wpAnyT_doB 12 (by kernel_rfl) rfl (fun K hK => ?_))
            refine Bx.mk ?_
            go_simp
            refine (lawBits_j _ _ k c.inputs.toNat rfl (by omega) (by omega) (by omega) _).mono ?_
            rw [← EI.out]
            rintro e w62 ⟨v62, rfl, hO62, hE62⟩
            obtain ⟨rI, cI, rfl, hBI⟩ := hO62.opened
            have hX62 := (hX61).trans hE62
            have bk62 := bk61.ext hE62
            have hBS := hBS.ext hE62
            have hS62 := held_mk hX62
            (refine hK _ _ hS62 ?_; clear hK K; (try simp only [Act.put, List.setIfInBounds_toArray, List.set_cons_zero, List.set_cons_succ]))
            have hlt5 := bk62.lt
            (refine wpAnyT_doB 13 (by kernel_rfl) rfl (fun K hK => ?_))
            refine Bx.mk ?_
            go_simp
            refine (implStep_c c p _ _ _ _ S I _ ((hC.ext hE).ext (hX62)) hBS hBI (by omega) (by omega)).mono ?_
            rw [← HX.out]
            rintro e w63 ⟨v1, v2, rfl, hR, hE63⟩
            obtain ⟨a1, c1, n1, a2, c2, n2, rfl, rfl⟩ := hR.sl
            have hX63 := (hX62).trans hE63
            have bk63 := bk62.ext hE63
            have z0 := bk63.cell (i := 0) rfl
            have z1 := bk63.cell (i := 1) rfl
            have zf := fun i => bk63.frozen i
            have hS63 := held_mk hX63
            (refine hK _ _ hS63 ?_; clear hK K; (try simp only [Act.put, List.setIfInBounds_toArray, List.set_cons_zero, List.set_cons_succ]))
            (refine wpAnyT_lastB 15 (by kernel_rfl) rfl (by decide) (by kernel_rfl) (fun K hK => ?_))
            refine Bx.mk ?_
            go_simp
            (refine hK _ _ ?_; clear hK K; (try simp only [Act.put, List.setIfInBounds_toArray, List.set_cons_zero, List.set_cons_succ]))
            go_wp2_with fail
            go_meet
            exact cut_before hR hlt5 bk63 hX63 (Nat.le_refl _)
        obtain ⟨D1, a1, c1, a2, c2, rfl, bk1, hA1, hA2, hE9⟩ := hcut
        have hy := hy.ext hE9
        have hz := hz.ext hE9
        have hE := hE.trans hE9
        obtain ⟨w9, rfl⟩ : ∃ x : World, x = wc := ⟨_, rfl⟩
        clear y0 y1 y2 y3 ly hE9
        obtain ⟨ly, y0, y1, y2, y3⟩ := (id hy)
        obtain ⟨lz, z0, z1, z2, z3⟩ := (id hz)
        go_upto_region 12 with fail
        go_cut [9] (CutStep w9 X)
        case first =>
          (refine wp_regionT ((fun w' => (∀ b o, b < w9.heap.size → w'.cell? ⟨b, o, none⟩ = w9.cell? ⟨b, o, none⟩) ∧ Ext w9 w')) 15 (by kernel_rfl) ?_; have hS0 := held_mk (Ext.drew w9))
          ((refine wpAnyT_take 0 (v := ?_) rfl (by kernel_rfl) (fun _ _ _ h => h) (Or.inl ⟨by kernel_rfl, ?_⟩) (by assumption) ?_; rotate_left; (intro wS hSw; (try dsimp only at hSw); go_simp; (try with_reducible rfl)); (try simp only [Act.put, List.setIfInBounds_toArray, List.set_cons_zero, List.set_cons_succ])); (refine wpAnyT_take 1 (v := ?_) rfl (by kernel_rfl) (fun _ _ _ h => h) (Or.inl ⟨by kernel_rfl, ?_⟩) (by assumption) ?_; rotate_left; (intro wS hSw; (try dsimp only at hSw); go_simp; (try with_reducible rfl)); (try simp only [Act.put, List.setIfInBounds_toArray, List.set_cons_zero, List.set_cons_succ])); (refine wpAnyT_take 2 (v := ?_) rfl (by kernel_rfl) (fun _ _ _ h => h) (Or.inl ⟨by kernel_rfl, ?_⟩) (by assumption) ?_; rotate_left; (intro wS hSw; (try dsimp only at hSw); go_simp; (try with_reducible rfl)); (try simp only [Act.put, List.setIfInBounds_toArray, List.set_cons_zero, List.set_cons_succ])); (refine wpAnyT_take 3 (v := ?_) rfl (by kernel_rfl) (fun _ _ _ h => h) (Or.inl ⟨by kernel_rfl, ?_⟩) (by assumption) ?_; rotate_left; (intro wS hSw; (try dsimp only at hSw); go_simp; (try with_reducible rfl)); (try simp only [Act.put, List.setIfInBounds_toArray, List.set_cons_zero, List.set_cons_succ])); (refine wpAnyT_take 4 (v := ?_) rfl (by kernel_rfl) (fun _ _ _ h => h) (Or.inl ⟨by kernel_rfl, ?_⟩) (by assumption) ?_; rotate_left; (intro wS hSw; (try dsimp only at hSw); go_simp; (try with_reducible rfl)); (try simp only [Act.put, List.setIfInBounds_toArray, List.set_cons_zero, List.set_cons_succ])); (refine wpAnyT_take 5 (v := ?_) rfl (by kernel_rfl) (fun _ _ _ h => h) (Or.inl ⟨by kernel_rfl, ?_⟩) (by assumption) ?_; rotate_left; (intro wS hSw; (try dsimp only at hSw); go_simp; (try with_reducible rfl)); (try simp only [Act.put, List.setIfInBounds_toArray, List.set_cons_zero, List.set_cons_succ])); (refine wpAnyT_take 6 (v := ?_) rfl (by kernel_rfl) (fun _ _ _ h => h) (Or.inl ⟨by kernel_rfl, ?_⟩) (by assumption) ?_; rotate_left; (intro wS hSw; (try dsimp only at hSw); go_simp; (try with_reducible rfl)); (try simp only [Act.put, List.setIfInBounds_toArray, List.set_cons_zero, List.set_cons_succ])); (refine wpAnyT_take 7 (v := ?_) rfl (by kernel_rfl) (fun _ _ _ h => h) (Or.inl ⟨by kernel_rfl, ?_⟩) (by assumption) ?_; rotate_left; (intro wS hSw; (try dsimp only at hSw); go_simp; (try with_reducible rfl)); (try simp only [Act.put, List.setIfInBounds_toArray, List.set_cons_zero, List.set_cons_succ])); (refine wpAnyT_take 9 (v := ?_) rfl (by kernel_rfl) (fun _ _ _ h => h) (Or.inl ⟨by kernel_rfl, ?_⟩) (by assumption) ?_; rotate_left; (intro wS hSw; (try dsimp only at hSw); go_simp; (try with_reducible rfl)); (try simp only [Act.put, List.setIfInBounds_toArray, List.set_cons_zero, List.set_cons_succ])); (refine wpAnyT_take 10 (v := ?_) rfl (by kernel_rfl) (fun _ _ _ h => h) (Or.inl ⟨by kernel_rfl, ?_⟩) (by assumption) ?_; rotate_left; (intro wS hSw; (try dsimp only at hSw); go_simp; (try with_reducible rfl)); (try simp only [Act.put, List.setIfInBounds_toArray, List.set_cons_zero, List.set_cons_succ])); (refine wpAnyT_take 11 (v := ?_) rfl (by kernel_rfl) (fun _ _ _ h => h) (Or.inl ⟨by kernel_rfl, ?_⟩) (by assumption) ?_; rotate_left; (intro wS hSw; (try dsimp only at hSw); go_simp; (try with_reducible rfl)); (try simp only [Act.put, List.setIfInBounds_toArray, List.set_cons_zero, List.set_cons_succ])))
          (refine wpAnyT_do2 8 14 (by kernel_rfl) rfl rfl (fun K hK => ?_) (fun K hK => ?_))
          · skip
            go_simp
            refine (lawBits_j _ _ (k / 2 ^ c.inputs.toNat) c.next.length HD1.out rfl hle (by omega) _).mono ?_
            rw [← ET.out]
            rintro e w51 ⟨v51, rfl, hO51, hE51⟩
            obtain ⟨rS, cS, rfl, hBS⟩ := hO51.opened
            have hX51 := (Ext.drew w9).trans hE51
            have hS51 := held_mk hX51
            (refine hK _ _ hS51 ?_; clear hK K; (try simp only [Act.put, List.setIfInBounds_toArray, List.set_cons_zero, List.set_cons_succ]))
            (refine wpAnyT_do2 12 14 (by kernel_rfl) rfl rfl (fun K hK => ?_) (fun K hK => ?_))
            · skip
              go_simp
              refine (lawBits_j _ _ k c.inputs.toNat rfl (by omega) (by omega) (by omega) _).mono ?_
              rw [← EI.out]
              rintro e w52 ⟨v52, rfl, hO52, hE52⟩
              obtain ⟨rI, cI, rfl, hBI⟩ := hO52.opened
              have hX52 := (hX51).trans hE52
              have hBS := hBS.ext hE52
              have hS52 := held_mk hX52
              (refine hK _ _ hS52 ?_; clear hK K; (try simp only [Act.put, List.setIfInBounds_toArray, List.set_cons_zero, List.set_cons_succ]))
              (refine wpAnyT_do2 13 14 (by kernel_rfl) rfl rfl (fun K hK => ?_) (fun K hK => ?_))
              · skip
                go_simp
                refine (implStep_c d q _ _ _ _ S I _ ((hCd.ext hE).ext (hX52)) hBS hBI (by omega) (by omega)).mono ?_
                rw [← HX2.out]
                rintro e w53 ⟨v1, v2, rfl, hR, hE53⟩
                obtain ⟨a1, c1, n1, a2, c2, n2, rfl, rfl⟩ := hR.sl
                have hX53 := (hX52).trans hE53
                have hS53 := held_mk hX53
                (refine hK _ _ hS53 ?_; clear hK K; (try simp only [Act.put, List.setIfInBounds_toArray, List.set_cons_zero, List.set_cons_succ]))
                (refine wpAnyT_doB 14 (by kernel_rfl) rfl (fun K hK => ?_))
                refine Bx.mk ?_
                go_simp
                have hX54 := (hX53).alloc (.cells #[.slice none 0 0, .slice none 0 0] 40)
                have bk54 := Blk.at w53 [.slice none 0 0, .slice none 0 0] 40 rfl
                have z0 := bk54.cell (i := 0) rfl
                have z1 := bk54.cell (i := 1) rfl
                have zf := fun i => bk54.frozen i
                have hS54 := held_mk hX54
                (refine hK _ _ hS54 ?_; clear hK K; (try simp only [Act.put, List.setIfInBounds_toArray, List.set_cons_zero, List.set_cons_succ]))
                (refine wpAnyT_lastB 15 (by kernel_rfl) rfl (by decide) (by kernel_rfl) (fun K hK => ?_))
                refine Bx.mk ?_
                go_simp
                (refine hK _ _ ?_; clear hK K; (try simp only [Act.put, List.setIfInBounds_toArray, List.set_cons_zero, List.set_cons_succ]))
                go_wp2_with fail
                go_meet
                exact cut_behind hR hX53
              · skip
                go_simp
                have hX55 := (hX52).alloc (.cells #[.slice none 0 0, .slice none 0 0] 40)
                have bk55 := Blk.at w52 [.slice none 0 0, .slice none 0 0] 40 rfl
                have hBS := hBS.ext ((Ext.refl w52).alloc (.cells #[.slice none 0 0, .slice none 0 0] 40))
                have hBI := hBI.ext ((Ext.refl w52).alloc (.cells #[.slice none 0 0, .slice none 0 0] 40))
                have hS55 := held_mk hX55
                (refine hK _ _ hS55 ?_; clear hK K; (try simp only [Act.put, List.setIfInBounds_toArray, List.set_cons_zero, List.set_cons_succ]))
                (refine wpAnyT_doB 13 (by kernel_rfl) rfl (fun K hK => ?_))
                refine Bx.mk ?_
                go_simp
                refine (implStep_c d q _ _ _ _ S I _ ((hCd.ext hE).ext (hX55)) hBS hBI (by omega) (by omega)).mono ?_
                rw [← HX2.out]
                rintro e w56 ⟨v1, v2, rfl, hR, hE56⟩
                obtain ⟨a1, c1, n1, a2, c2, n2, rfl, rfl⟩ := hR.sl
                have hX56 := (hX55).trans hE56
                have bk56 := bk55.ext hE56
                have z0 := bk56.cell (i := 0) rfl
                have z1 := bk56.cell (i := 1) rfl
                have zf := fun i => bk56.frozen i
                have hS56 := held_mk hX56
                (refine hK _ _ hS56 ?_; clear hK K; (try simp only [Act.put, List.setIfInBounds_toArray, List.set_cons_zero, List.set_cons_succ]))
                (refine wpAnyT_lastB 15 (by kernel_rfl) rfl (by decide) (by kernel_rfl) (fun K hK => ?_))
                refine Bx.mk ?_
                go_simp
                (refine hK _ _ ?_; clear hK K; (try simp only [Act.put, List.setIfInBounds_toArray, List.set_cons_zero, List.set_cons_succ]))
                go_wp2_with fail
                go_meet
                exact cut_before hR (by simp) bk56 hX56 ((hX52).size)
            · skip
              go_simp
              have hX57 := (hX51).alloc (.cells #[.slice none 0 0, .slice none 0 0] 40)
              have bk57 := Blk.at w51 [.slice none 0 0, .slice none 0 0] 40 rfl
              have hBS := hBS.ext ((Ext.refl w51).alloc (.cells #[.slice none 0 0, .slice none 0 0] 40))
              have hS57 := held_mk hX57
              (refine hK _ _ hS57 ?_; clear hK K; (try simp only [Act.put, List.setIfInBounds_toArray, List.set_cons_zero, List.set_cons_succ]))
              (refine wpAnyT_doB 12 (by kernel_rfl) rfl (fun K hK => ?_))
              refine Bx.mk ?_
              go_simp
              refine (lawBits_j _ _ k c.inputs.toNat rfl (by omega) (by omega) (by omega) _).mono ?_
              rw [← EI.out]
              rintro e w58 ⟨v58, rfl, hO58, hE58⟩
              obtain ⟨rI, cI, rfl, hBI⟩ := hO58.opened
              have hX58 := (hX57).trans hE58
              have bk58 := bk57.ext hE58
              have hBS := hBS.ext hE58
              have hS58 := held_mk hX58
              (refine hK _ _ hS58 ?_; clear hK K; (try simp only [Act.put, List.setIfInBounds_toArray, List.set_cons_zero, List.set_cons_succ]))
              have hlt5 := bk58.lt
              (refine wpAnyT_doB 13 (by kernel_rfl) rfl (fun K hK => ?_))
              refine Bx.mk ?_
              go_simp
              refine (implStep_c d q _ _ _ _ S I _ ((hCd.ext hE).ext (hX58)) hBS hBI (by omega) (by omega)).mono ?_
              rw [← HX2.out]
              rintro e w59 ⟨v1, v2, rfl, hR, hE59⟩
              obtain ⟨a1, c1, n1, a2, c2, n2, rfl, rfl⟩ := hR.sl
              have hX59 := (hX58).trans hE59
              have bk59 := bk58.ext hE59
              have z0 := bk59.cell (i := 0) rfl
              have z1 := bk59.cell (i := 1) rfl
              have zf := fun i => bk59.frozen i
              have hS59 := held_mk hX59
              (refine hK _ _ hS59 ?_; clear hK K; (try simp only [Act.put, List.setIfInBounds_toArray, List.set_cons_zero, List.set_cons_succ]))
              (refine wpAnyT_lastB 15 (by kernel_rfl) rfl (by decide) (by kernel_rfl) (fun K hK => ?_))
              refine Bx.mk ?_
              go_simp
              (refine hK _ _ ?_; clear hK K; (try simp only [Act.put, List.setIfInBounds_toArray, List.set_cons_zero, List.set_cons_succ]))
              go_wp2_with fail
              go_meet
              exact cut_before hR hlt5 bk59 hX59 ((hX51).size)
          · skip
            go_simp
            have hX60 : Ext w9 (w9.alloc (.cells #[.slice none 0 0, .slice none 0 0] 40)).drew := ((Ext.refl w9).alloc _).drew'
            have bk60 := (Blk.at w9 [.slice none 0 0, .slice none 0 0] 40 rfl).ext (Ext.drew _)
            have hS60 := held_mk hX60
            (refine hK _ _ hS60 ?_; clear hK K; (try simp only [Act.put, List.setIfInBounds_toArray, List.set_cons_zero, List.set_cons_succ]))
            (refine wpAnyT_doB 8 (by kernel_rfl) rfl (fun K hK => ?_))
            refine Bx.mk ?_
            go_simp
            refine (lawBits_j _ _ (k / 2 ^ c.inputs.toNat) c.next.length HD1.out rfl hle (by omega) _).mono ?_
            rw [← ET.out]
            rintro e w61 ⟨v61, rfl, hO61, hE61⟩
            obtain ⟨rS, cS, rfl, hBS⟩ := hO61.opened
            have hX61 := (hX60).trans hE61
            have bk61 := bk60.ext hE61
            have hS61 := held_mk hX61
            (refine hK _ _ hS61 ?_; clear hK K; (try simp only [Act.put, List.setIfInBounds_toArray, List.set_cons_zero, List.set_cons_succ]))
            (refine wpAnyT_doB 12 (by kernel_rfl) rfl (fun K hK => ?_))
            refine Bx.mk ?_
            go_simp
            refine (lawBits_j _ _ k c.inputs.toNat rfl (by omega) (by omega) (by omega) _).mono ?_
            rw [← EI.out]
            rintro e w62 ⟨v62, rfl, hO62, hE62⟩
            obtain ⟨rI, cI, rfl, hBI⟩ := hO62.opened
            have hX62 := (hX61).trans hE62
            have bk62 := bk61.ext hE62
            have hBS := hBS.ext hE62
            have hS62 := held_mk hX62
            (refine hK _ _ hS62 ?_; clear hK K; (try simp only [Act.put, List.setIfInBounds_toArray, List.set_cons_zero, List.set_cons_succ]))
            have hlt5 := bk62.lt
            (refine wpAnyT_doB 13 (by kernel_rfl) rfl (fun K hK => ?_))
            refine Bx.mk ?_
            go_simp
            refine (implStep_c d q _ _ _ _ S I _ ((hCd.ext hE).ext (hX62)) hBS hBI (by omega) (by omega)).mono ?_
            rw [← HX2.out]
            rintro e w63 ⟨v1, v2, rfl, hR, hE63⟩
            obtain ⟨a1, c1, n1, a2, c2, n2, rfl, rfl⟩ := hR.sl
            have hX63 := (hX62).trans hE63
            have bk63 := bk62.ext hE63
            have z0 := bk63.cell (i := 0) rfl
            have z1 := bk63.cell (i := 1) rfl
            have zf := fun i => bk63.frozen i
            have hS63 := held_mk hX63
            (refine hK _ _ hS63 ?_; clear hK K; (try simp only [Act.put, List.setIfInBounds_toArray, List.set_cons_zero, List.set_cons_succ]))
            (refine wpAnyT_lastB 15 (by kernel_rfl) rfl (by decide) (by kernel_rfl) (fun K hK => ?_))
            refine Bx.mk ?_
            go_simp
            (refine hK _ _ ?_; clear hK K; (try simp only [Act.put, List.setIfInBounds_toArray, List.set_cons_zero, List.set_cons_succ]))
            go_wp2_with fail
            go_meet
            exact cut_before hR hlt5 bk63 hX63 (Nat.le_refl _)
        obtain ⟨D2, b1, d1, b2, d2, rfl, bk2, hB1, hB2, hE10⟩ := hcut
        have hy := hy.ext hE10
        have hz := hz.ext hE10
        have hE := hE.trans hE10
        have bk1 := bk1.ext hE10
        have hA1 := hA1.ext hE10
        have hA2 := hA2.ext hE10
        obtain ⟨w10, rfl⟩ : ∃ x : World, x = wc := ⟨_, rfl⟩
        clear y0 y1 y2 y3 ly z0 z1 z2 z3 lz hE10
        have p0 := bk1.cell (i := 0) rfl
        have p1 := bk1.cell (i := 1) rfl
        have q0 := bk2.cell (i := 0) rfl
        have q1 := bk2.cell (i := 1) rfl
        go_wp2_with fail
        refine (sameBools_c _ _ _ _ _ _ X.1 X.1 rfl rfl _ hA1 hB1 sl1 sl1).mono ?_
        rw [beq_self_eq_true]
        rintro e w11 ⟨rfl, hE11⟩
        have bk1 := bk1.ext hE11
        have bk2 := bk2.ext hE11
        clear p0 p1 q0 q1
        have p0 := bk1.cell (i := 0) rfl
        have p1 := bk1.cell (i := 1) rfl
        have q0 := bk2.cell (i := 0) rfl
        have q1 := bk2.cell (i := 1) rfl
        go_wp2_with fail
        refine (sameBools_c _ _ _ _ _ _ X.2 X.2 rfl rfl _ (hA2.ext hE11) (hB2.ext hE11) sl2 sl2).mono ?_
        rw [beq_self_eq_true]
        rintro e w12 ⟨rfl, hE12⟩
        have E12 := hE11.trans hE12
        go_wp2_with fail
        go_roundw
        case rel => exact ⟨k + 1, by omega, by go_num, hy.ext E12, hz.ext E12, hE.trans E12⟩
        case measure => simp [intOf]; omega
      · clear y0 y1 y2 y3 ly
        obtain ⟨ly, y0, y1, y2, y3⟩ := (id hy)
        obtain ⟨lz, z0, z1, z2, z3⟩ := (id hz)
        have hC5 := hC.ext hE
        have hD5 := hCd.ext hE
        have hRA := hRW.ext hE
        obtain ⟨w8, rfl⟩ : ∃ x : World, x = wr := ⟨_, rfl⟩
        go_wp2_with fail
        go_region_held3 ((fun w' => (∀ b o, b < w8.heap.size → w'.cell? ⟨b, o, none⟩ = w8.cell? ⟨b, o, none⟩) ∧ Ext w8 w')) ((first | assumption | (with_reducible exact held_mk (Ext.drew w8)) | (with_reducible exact held_mk (((Ext.refl w8).alloc _).drew')) | (with_reducible exact held_mk ((Ext.drew w8).alloc _)))) (first
          | (go_simp; go_at_call 17; have hguard := hK3; refine (HC1.out _ (hC5.ext (held_ext hK3)) (hRA.ext (held_ext hK3))).mono ?_; rintro e w13 ⟨r13, c13, rfl, hR13, hE13⟩; have hK4 := held_mk ((held_ext hK3).trans hE13))
          | (go_simp; go_at_call 18; have hguard := hK2; refine (sameRows_c r10 r11 c10 c11 _ SV HSML.out _ (hR10.ext hE11) hR11 (by omega) HSRL.out).mono ?_; rintro e w12 ⟨rfl, hE12⟩; have hK3 := held_mk ((held_ext hK2).trans hE12))
          | (go_simp; go_at_call 17; have hguard := hK1; refine (HD1'.out _ _ (hD5.ext (held_ext hK1)) (hRA.ext (held_ext hK1))).mono ?_; rintro e w11 ⟨r11, c11, rfl, hR11, hE11⟩; have hK2 := held_mk ((held_ext hK1).trans hE11))
          | (go_simp; go_at_call 17; refine (HC1.out _ (hC5.ext (Ext.drew w8)) (hRA.ext (Ext.drew w8))).mono ?_; rintro e w10 ⟨r10, c10, rfl, hR10, hE10⟩; have hK1 := held_mk ((Ext.drew w8).trans hE10)))
        go_wp2
        go_ret
        exact ⟨rfl, (E6.trans hE).trans (held_ext hK4)⟩
  · go_enter Try.func9, Try.ntmps9
    go_wp2
    go_ret
    exact ⟨rfl, Below.refl _ _⟩
theorem fnOptimize_lifted (os : Os) (started : os.Started) (H : Type) (enc : TypeId × Value → H) :
    ReturnsInHanded {} Try.checked os 9 .any (Rows.fnOptimizeSpec.pre6 enc Try.prog Try.f9 Rows.fnOptimizeRow.domain false) (Rows.fnOptimizeSpec.post enc Try.prog Try.f9 false true false false) := by
  refine returnsInHanded_of_change (C := Try.checked) own started (by kernel_rfl) Try.func9
    (ChangeSpec.witness6 (enc := enc) (C := Try.checked) false ⟨#[], #[.slice none 0 0], []⟩ 8 (by kernel_rfl) (by kernel_rfl) (by kernel_rfl) (by kernel_rfl)) ?_
  intro W base args ds gs before hval0 hW hcnd _
  have hval : ∀ (j : Nat) t v, Try.f9.params[j]? = some t → args[j]? = some v → Value.okWide Try.prog W .any base t v := hval0
  have hW' := hW
  obtain ⟨p, q, hA0, hV, rfl, hfz, hnd⟩ := hW
  have hA : DataW.TrodAll enc Try.prog W 0 (fun _ => true) true Try.f9.params.toList args.toList ds p := hA0
  rw [Try.params9] at hA hval
  obtain ⟨v0, vs0, d0, ds0, p0, q0, hargs, rfl, rfl, h0, r0⟩ := trodAll_cons hA
  obtain ⟨rfl, rfl, rfl⟩ := trodAll_nil r0
  obtain rfl : args = #[v0] := by cases args; simp_all
  obtain ⟨rfl, rfl⟩ := trodVars_none hV
  obtain ⟨a0, len0, cap0, rfl⟩ := okWide_slice Try.underlying22 (hval 0 22 v0 rfl rfl)
  have k0 := h0
  have lt0 : ∀ x ∈ p0, x.block < W.heap.size := by obtain ⟨m, hm⟩ := k0; exact DataW.trod_lt m _ _ _ hm
  obtain ⟨z0, w0⟩ : ∃ zs, IsRow .u8 W a0 len0 cap0 zs := by
    obtain ⟨fuel, hf⟩ := h0
    rcases open_ints Try.underlying22 Try.underlying5 (by kernel_rfl) hf with ⟨hcs, _⟩ | ⟨x, l, c, zs, hcs, _, hl, hm, hz, _, hcell, hwz⟩
    · simp [Value.cells] at hcs
      obtain ⟨rfl, rfl, rfl⟩ := hcs
      exact ⟨[], .inl ⟨rfl, rfl, rfl, rfl⟩⟩
    · simp [Value.cells] at hcs
      obtain ⟨rfl, rfl, rfl⟩ := hcs
      exact ⟨zs, .inr ⟨_, rfl, hl, hm, by simpa using hz, hcell, hwz⟩⟩
  clear hA0 hval0
  refine (fnOptimize_walk a0 len0 cap0 z0 W w0).mono fun e W' ⟨he, bel⟩ => ?_
  subst he
  exact ⟨_, rfl, _, _, _, [], _, [], hW', trodAll_mk1 (shut_bool Try.underlying4 _), (trodAll_cons_mk (Below.trod laidOut (by kernel_rfl) (of_decide_eq_true (by kernel_rfl)) k0 bel lt0) trodAll_mk0), rfl, bel.frame _, fun h => by cases h⟩
theorem fnOptimize_over : Rows.fnOptimizeRow.holds Try.pinned (OpenSpec.ofChange Rows.fnOptimizeSpec) :=
  OpenClaim.holds_of_wide 9 Try.f9 rfl rfl rfl rfl rfl rfl rfl ⟨rfl, rfl, rfl, rfl, rfl⟩ rfl rfl rfl rfl rfl (by kernel_rfl) Try.func9 (by kernel_rfl)
    (of_decide_eq_true (by kernel_rfl)) (by unfold Func.isWrapper; first | (rw [if_pos (by decide +kernel)]; kernel_rfl) | (rw [if_neg (by decide +kernel)]; exact ⟨rfl, rfl⟩))
    (fun os started H enc _ => fnOptimize_lifted os started H enc)
theorem fnOptimize_holds : Rows.FnOptimizeSaid := fnOptimize_over
end Go.Proofs.Ytpfhlodlefcomaa
