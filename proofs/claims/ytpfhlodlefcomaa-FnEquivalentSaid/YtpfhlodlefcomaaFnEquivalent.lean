/- The law FnEquivalent: equivalence is reflexive and symmetric, and agrees with optimization. -/
import Derived.Test.YtpfhlodlefcomaaDiffS
import Derived.Test.YtpfhlodlefcomaaOptM
import Derived.Test.YtpfhlodlefcomaaRows
import Derived.Test.YtpfhlodlefcomaaLib
import Derived.ProofKit
import Derived.OpenShut
import Derived.ShutString
import Derived.ChangeOld
import Derived.Below
import Derived.Test.YtpfhlodlefcomaaDraw3
import Derived.Test.YtpfhlodlefcomaaSpec1
import Derived.Test.YtpfhlodlefcomaaPair
import Derived.Test.YtpfhlodlefcomaaDiff
import Derived.Test.YtpfhlodlefcomaaOptE
namespace Go.Proofs.Ytpfhlodlefcomaa
open Go.ChangeShapes Go.WideShapes Go.ChangeAt Go.RowKit
theorem own : ownKnob Try.prog.godebug = none := by kernel_rfl
theorem laidOut : laidOutB Try.prog = true := by kernel_rfl
/-- A slice of integers that came in: nil, or a row of cells. -/
def IsRow (k : IntKind) (w : World) (a : Option Addr) (len cap : Nat) (zs : List Int) : Prop :=
  (a = none ∧ len = 0 ∧ cap = 0 ∧ zs = []) ∨
  ∃ x, a = some x ∧ len ≤ cap ∧ cap ≤ maxLen ∧ zs.length = cap ∧ (∀ i, i < zs.length → w.cell? (x.add i) = some (.int k (zs.getD i 0))) ∧ ∀ n ∈ zs, (Lit.int k n).wf = true
theorem cell_in {w : World} {b o : Nat} {k : Option Nat} {v : Value} (h : w.cell? ⟨b, o, k⟩ = some v) : b < w.heap.size ∧ k = none := by
  unfold World.cell? at h
  split at h
  · next c _ _ hq =>
    cases k with
    | none => exact ⟨(Array.getElem?_eq_some_iff.1 hq).1, rfl⟩
    | some k => simp at h
  · cases h
theorem add_plain (b o j : Nat) : (⟨b, o, none⟩ : Addr).add j = ⟨b, o + j, none⟩ := by
  unfold Addr.add
  split
  · next h => subst h; rfl
  · rfl
end Go.Proofs.Ytpfhlodlefcomaa

namespace Go.Proofs.Ytpfhlodlefcomaa
open Go.ChangeShapes Go.WideShapes Go.ChangeAt Go.RowKit
set_option maxRecDepth 100000
set_option linter.unusedVariables false
set_option linter.unusedSimpArgs false
theorem bytes_of_row {w : World} {a : Option Addr} {len cap : Nat} {zs : List Int} (h : IsRow .u8 w a len cap zs) :
    ∃ bs : List Int, bs.length = len ∧ BytesAt w a bs ∧ len ≤ cap ∧ cap ≤ maxLen := by
  rcases h with ⟨rfl, rfl, rfl, rfl⟩ | ⟨x, rfl, hl, hm, hz, hcell, hwz⟩
  · exact ⟨[], rfl, .inl rfl, Nat.le_refl _, by decide⟩
  · refine ⟨zs.take len, by simp; omega, ?_, hl, hm⟩
    by_cases h0 : len = 0
    · subst h0
      left; simp
    obtain ⟨b, o, k⟩ := x
    have c0 := hcell 0 (by omega)
    obtain ⟨hlt, hk⟩ : b < w.heap.size ∧ k = none := cell_in c0
    subst hk
    refine .inr ⟨b, o, rfl, hlt, fun j hj => ?_⟩
    have hj' : j < len ∧ j < zs.length := by simp at hj; omega
    have e : (zs.take len).getD j 0 = zs.getD j 0 := by simp [List.getD_eq_getElem?_getD, hj'.1]
    rw [e]
    have wf := hwz (zs.getD j 0) (by rw [List.getD_eq_getElem?_getD, List.getElem?_eq_getElem hj'.2]; exact List.getElem_mem _)
    refine ⟨by simpa only [add_plain] using hcell j hj'.2, ?_⟩
    generalize zs.getD j 0 = x at wf
    simp [Lit.wf, IntKind.wrap, IntKind.bits, IntKind.signed, IntKind.min, IntKind.max] at wf
    omega
theorem alive_c (w : World) : Calls Try.prog 15 #[] w fun e w' => e = .returned (.bool true) ∧ Ext w w' := by
  have hC : CircAt w ⟨0, [], [], []⟩ ⟨none, 0, none, 0, none, 0⟩ := ⟨.inl rfl, .inl rfl, .inl rfl, by simp, by simp, by simp⟩
  have hv : validB ⟨0, [], [], []⟩ = true := validB_true ⟨by decide, by decide, by decide, by decide, by decide, fun i hi => by simp at hi, fun i hi => by simp at hi⟩
  go_enter Try.func15, Try.ntmps15
  go_wp2_with fail
  refine (implCircuitValid_c _ _ _ hC).mono ?_
  rintro e w' ⟨rfl, E⟩
  rw [hv]
  go_wp2
  go_ret
  exact ⟨rfl, E⟩
end Go.Proofs.Ytpfhlodlefcomaa

namespace Go.Proofs.Ytpfhlodlefcomaa
open Go.RowKit
set_option maxRecDepth 100000
set_option linter.unusedVariables false
set_option linter.unusedSimpArgs false
def DrawnP (w : World) (e : Ending) (w' : World) : Prop :=
  ∃ c d p q, e = .returned (.tuple #[.agg #[.int .i64 c.inputs, .slice p.an c.next.length p.cn, .slice p.ag c.gates.length p.cg, .slice p.ao c.outs.length p.co], .agg #[.int .i64 d.inputs, .slice q.an d.next.length q.cn, .slice q.ag d.gates.length q.cg, .slice q.ao d.outs.length q.co]]) ∧
    CircAt w' c p ∧ CircAt w' d q ∧ Ext w w' ∧ DrawnC c 16 ∧ Small d
theorem set4_ext {w W : World} {D : Nat} {a0 a1 a2 a3 : Value} (h : Ext w W) (hD : w.heap.size ≤ D) : Ext w ((((W.setCell ⟨D, 0, none⟩ a0).setCell ⟨D, 1, none⟩ a1).setCell ⟨D, 2, none⟩ a2).setCell ⟨D, 3, none⟩ a3) :=
  Ext.setNew (p := ⟨D, 3, none⟩) (Ext.setNew (p := ⟨D, 2, none⟩) (Ext.setNew (p := ⟨D, 1, none⟩) (Ext.setNew (p := ⟨D, 0, none⟩) h hD _) hD _) hD _) hD _
theorem drawnP_fin {w w2 : World} {rb : Nat} {c d : Circ} {p q : Where3} {a0 a1 a2 a3 b0 b1 b2 b3 : Value}
    (h : PKeep w rb c d p q ((((((((w2.setCell ⟨w.heap.size, 0, none⟩ a0).setCell ⟨w.heap.size, 1, none⟩ a1).setCell ⟨w.heap.size, 2, none⟩ a2).setCell ⟨w.heap.size, 3, none⟩ a3).setCell ⟨w.heap.size + 1, 0, none⟩ b0).setCell ⟨w.heap.size + 1, 1, none⟩ b1).setCell ⟨w.heap.size + 1, 2, none⟩ b2).setCell ⟨w.heap.size + 1, 3, none⟩ b3)) (E : Ext w w2) (hd : DrawnC c 16) (hs : Small d) :
    DrawnP w (.returned (.tuple #[.agg #[.int .i64 c.inputs, .slice p.an c.next.length p.cn, .slice p.ag c.gates.length p.cg, .slice p.ao c.outs.length p.co], .agg #[.int .i64 d.inputs, .slice q.an d.next.length q.cn, .slice q.ag d.gates.length q.cg, .slice q.ao d.outs.length q.co]]))
      ((((((((w2.setCell ⟨w.heap.size, 0, none⟩ a0).setCell ⟨w.heap.size, 1, none⟩ a1).setCell ⟨w.heap.size, 2, none⟩ a2).setCell ⟨w.heap.size, 3, none⟩ a3).setCell ⟨w.heap.size + 1, 0, none⟩ b0).setCell ⟨w.heap.size + 1, 1, none⟩ b1).setCell ⟨w.heap.size + 1, 2, none⟩ b2).setCell ⟨w.heap.size + 1, 3, none⟩ b3) :=
  ⟨c, d, p, q, rfl, h.hc, h.hd, set4_ext (set4_ext E (Nat.le_refl _)) (Nat.le_succ _), hd, hs⟩
set_option maxHeartbeats 1000000 in
theorem DrawSameInterface_c (a : Option Addr) (cap : Nat) (bs : List Int) (w : World) (hB : BytesAt w a bs) (hl : bs.length ≤ 1048576) (hc : bs.length ≤ cap) (hcm : cap ≤ maxLen) :
    Calls Try.prog 11 #[.slice a bs.length cap] w (DrawnP w) := by
  have b2 := (Blk.at w [.int .i64 0, .slice none 0 0, .slice none 0 0, .slice none 0 0] 26 rfl).ext ((Ext.refl _).alloc (.cells #[.int .i64 0, .slice none 0 0, .slice none 0 0, .slice none 0 0] 26))
  have b3 := Blk.at (w.alloc (.cells #[.int .i64 0, .slice none 0 0, .slice none 0 0, .slice none 0 0] 26)) [.int .i64 0, .slice none 0 0, .slice none 0 0, .slice none 0 0] 26 (B := w.heap.size + 1) (by simp)
  have E0 : Ext w ((w.alloc (.cells #[.int .i64 0, .slice none 0 0, .slice none 0 0, .slice none 0 0] 26)).alloc (.cells #[.int .i64 0, .slice none 0 0, .slice none 0 0, .slice none 0 0] 26)) := ((Ext.refl w).alloc _).alloc _
  have z0 : ((w.alloc (.cells #[.int .i64 0, .slice none 0 0, .slice none 0 0, .slice none 0 0] 26)).alloc (.cells #[.int .i64 0, .slice none 0 0, .slice none 0 0, .slice none 0 0] 26)).heap.size = w.heap.size + 2 := by simp
  go_enter Try.func11, Try.ntmps11
  go_wp2_with fail
  generalize (w.alloc (.cells #[.int .i64 0, .slice none 0 0, .slice none 0 0, .slice none 0 0] 26)).alloc (.cells #[.int .i64 0, .slice none 0 0, .slice none 0 0, .slice none 0 0] 26) = W0 at *
  refine (open_c a cap bs _ (hB.ext E0) hl hc hcm).mono ?_
  rintro e w1 ⟨rb, bs', rfl, hR1, hrb, hE1⟩
  have s1 := hE1.size
  go_wp2_with fail
  refine (l20Pair_c rb bs' _ hR1).mono ?_
  rintro e w2 ⟨c, d, p, q, rfl, hC, hD, fp, fq, hG, hd, hsm⟩
  have E2 : Ext W0 w2 := ext_of_gr hE1 hG hrb
  have E := E0.trans E2
  have Z2 := b2.ext E2
  have Z3 := b3.ext E2
  have PK : PKeep w rb c d p q w2 := ⟨hC, hD, fp.le (by omega), fq.le (by omega), Gr.ext E _⟩
  (have u0 := Z2.cell (i := 0) rfl; have u1 := Z2.cell (i := 1) rfl; have u2 := Z2.cell (i := 2) rfl; have u3 := Z2.cell (i := 3) rfl; have uf := (fun i => Z2.frozen i))
  (have v0 := Z3.cell (i := 0) rfl; have v1 := Z3.cell (i := 1) rfl; have v2 := Z3.cell (i := 2) rfl; have v3 := Z3.cell (i := 3) rfl; have vf := (fun i => Z3.frozen i))
  go_wp2
  (have rA := ((((((((Z2.set 0 (.int .i64 c.inputs)).set 1 (.slice p.an c.next.length p.cn)).set 2 (.slice p.ag c.gates.length p.cg)).set 3 (.slice p.ao c.outs.length p.co)).setOther (p := ⟨w.heap.size + 1, 0, none⟩) (by simp) (.int .i64 d.inputs)).setOther (p := ⟨w.heap.size + 1, 1, none⟩) (by simp) (.slice q.an d.next.length q.cn)).setOther (p := ⟨w.heap.size + 1, 2, none⟩) (by simp) (.slice q.ag d.gates.length q.cg)).setOther (p := ⟨w.heap.size + 1, 3, none⟩) (by simp) (.slice q.ao d.outs.length q.co)); have rB := (((((((Z3.setOther (p := ⟨w.heap.size, 0, none⟩) (by simp) (.int .i64 c.inputs)).setOther (p := ⟨w.heap.size, 1, none⟩) (by simp) (.slice p.an c.next.length p.cn)).setOther (p := ⟨w.heap.size, 2, none⟩) (by simp) (.slice p.ag c.gates.length p.cg)).setOther (p := ⟨w.heap.size, 3, none⟩) (by simp) (.slice p.ao c.outs.length p.co)).set 0 (.int .i64 d.inputs)).set 1 (.slice q.an d.next.length q.cn)).set 2 (.slice q.ag d.gates.length q.cg)).set 3 (.slice q.ao d.outs.length q.co); have PF := ((((((((PK.set (b := w.heap.size) (by omega) (by omega) 0 (.int .i64 c.inputs)).set (b := w.heap.size) (by omega) (by omega) 1 (.slice p.an c.next.length p.cn)).set (b := w.heap.size) (by omega) (by omega) 2 (.slice p.ag c.gates.length p.cg)).set (b := w.heap.size) (by omega) (by omega) 3 (.slice p.ao c.outs.length p.co)).set (b := w.heap.size + 1) (by omega) (by omega) 0 (.int .i64 d.inputs)).set (b := w.heap.size + 1) (by omega) (by omega) 1 (.slice q.an d.next.length q.cn)).set (b := w.heap.size + 1) (by omega) (by omega) 2 (.slice q.ag d.gates.length q.cg)).set (b := w.heap.size + 1) (by omega) (by omega) 3 (.slice q.ao d.outs.length q.co)); (have r0 := rA.cell (i := 0) rfl; have r1 := rA.cell (i := 1) rfl; have r2 := rA.cell (i := 2) rfl; have r3 := rA.cell (i := 3) rfl; have rf := (fun i => rA.frozen i)); (have s0 := rB.cell (i := 0) rfl; have s1 := rB.cell (i := 1) rfl; have s2 := rB.cell (i := 2) rfl; have s3 := rB.cell (i := 3) rfl; have sf := (fun i => rB.frozen i)); refine bodyPost_ret (v := .tuple #[.agg #[.int .i64 c.inputs, .slice p.an c.next.length p.cn, .slice p.ag c.gates.length p.cg, .slice p.ao c.outs.length p.co], .agg #[.int .i64 d.inputs, .slice q.an d.next.length q.cn, .slice q.ag d.gates.length q.cg, .slice q.ao d.outs.length q.co]]) (by simp [results, Try.results11, go_sem, r0, r1, r2, r3, s0, s1, s2, s3]) rfl ?_; exact drawnP_fin PF E hd hsm)
set_option maxHeartbeats 1000000 in
theorem DrawFindDifference_c (a : Option Addr) (cap : Nat) (bs : List Int) (w : World) (hB : BytesAt w a bs) (hl : bs.length ≤ 1048576) (hc : bs.length ≤ cap) (hcm : cap ≤ maxLen) :
    Calls Try.prog 28 #[.slice a bs.length cap] w (DrawnP w) := by
  have b2 := (Blk.at w [.int .i64 0, .slice none 0 0, .slice none 0 0, .slice none 0 0] 26 rfl).ext ((Ext.refl _).alloc (.cells #[.int .i64 0, .slice none 0 0, .slice none 0 0, .slice none 0 0] 26))
  have b3 := Blk.at (w.alloc (.cells #[.int .i64 0, .slice none 0 0, .slice none 0 0, .slice none 0 0] 26)) [.int .i64 0, .slice none 0 0, .slice none 0 0, .slice none 0 0] 26 (B := w.heap.size + 1) (by simp)
  have E0 : Ext w ((w.alloc (.cells #[.int .i64 0, .slice none 0 0, .slice none 0 0, .slice none 0 0] 26)).alloc (.cells #[.int .i64 0, .slice none 0 0, .slice none 0 0, .slice none 0 0] 26)) := ((Ext.refl w).alloc _).alloc _
  have z0 : ((w.alloc (.cells #[.int .i64 0, .slice none 0 0, .slice none 0 0, .slice none 0 0] 26)).alloc (.cells #[.int .i64 0, .slice none 0 0, .slice none 0 0, .slice none 0 0] 26)).heap.size = w.heap.size + 2 := by simp
  go_enter Try.func28, Try.ntmps28
  go_wp2_with fail
  generalize (w.alloc (.cells #[.int .i64 0, .slice none 0 0, .slice none 0 0, .slice none 0 0] 26)).alloc (.cells #[.int .i64 0, .slice none 0 0, .slice none 0 0, .slice none 0 0] 26) = W0 at *
  refine (open_c a cap bs _ (hB.ext E0) hl hc hcm).mono ?_
  rintro e w1 ⟨rb, bs', rfl, hR1, hrb, hE1⟩
  have s1 := hE1.size
  go_wp2_with fail
  refine (l20Pair_c rb bs' _ hR1).mono ?_
  rintro e w2 ⟨c, d, p, q, rfl, hC, hD, fp, fq, hG, hd, hsm⟩
  have E2 : Ext W0 w2 := ext_of_gr hE1 hG hrb
  have E := E0.trans E2
  have Z2 := b2.ext E2
  have Z3 := b3.ext E2
  have PK : PKeep w rb c d p q w2 := ⟨hC, hD, fp.le (by omega), fq.le (by omega), Gr.ext E _⟩
  (have u0 := Z2.cell (i := 0) rfl; have u1 := Z2.cell (i := 1) rfl; have u2 := Z2.cell (i := 2) rfl; have u3 := Z2.cell (i := 3) rfl; have uf := (fun i => Z2.frozen i))
  (have v0 := Z3.cell (i := 0) rfl; have v1 := Z3.cell (i := 1) rfl; have v2 := Z3.cell (i := 2) rfl; have v3 := Z3.cell (i := 3) rfl; have vf := (fun i => Z3.frozen i))
  go_wp2
  (have rA := ((((((((Z2.set 0 (.int .i64 c.inputs)).set 1 (.slice p.an c.next.length p.cn)).set 2 (.slice p.ag c.gates.length p.cg)).set 3 (.slice p.ao c.outs.length p.co)).setOther (p := ⟨w.heap.size + 1, 0, none⟩) (by simp) (.int .i64 d.inputs)).setOther (p := ⟨w.heap.size + 1, 1, none⟩) (by simp) (.slice q.an d.next.length q.cn)).setOther (p := ⟨w.heap.size + 1, 2, none⟩) (by simp) (.slice q.ag d.gates.length q.cg)).setOther (p := ⟨w.heap.size + 1, 3, none⟩) (by simp) (.slice q.ao d.outs.length q.co)); have rB := (((((((Z3.setOther (p := ⟨w.heap.size, 0, none⟩) (by simp) (.int .i64 c.inputs)).setOther (p := ⟨w.heap.size, 1, none⟩) (by simp) (.slice p.an c.next.length p.cn)).setOther (p := ⟨w.heap.size, 2, none⟩) (by simp) (.slice p.ag c.gates.length p.cg)).setOther (p := ⟨w.heap.size, 3, none⟩) (by simp) (.slice p.ao c.outs.length p.co)).set 0 (.int .i64 d.inputs)).set 1 (.slice q.an d.next.length q.cn)).set 2 (.slice q.ag d.gates.length q.cg)).set 3 (.slice q.ao d.outs.length q.co); have PF := ((((((((PK.set (b := w.heap.size) (by omega) (by omega) 0 (.int .i64 c.inputs)).set (b := w.heap.size) (by omega) (by omega) 1 (.slice p.an c.next.length p.cn)).set (b := w.heap.size) (by omega) (by omega) 2 (.slice p.ag c.gates.length p.cg)).set (b := w.heap.size) (by omega) (by omega) 3 (.slice p.ao c.outs.length p.co)).set (b := w.heap.size + 1) (by omega) (by omega) 0 (.int .i64 d.inputs)).set (b := w.heap.size + 1) (by omega) (by omega) 1 (.slice q.an d.next.length q.cn)).set (b := w.heap.size + 1) (by omega) (by omega) 2 (.slice q.ag d.gates.length q.cg)).set (b := w.heap.size + 1) (by omega) (by omega) 3 (.slice q.ao d.outs.length q.co)); (have r0 := rA.cell (i := 0) rfl; have r1 := rA.cell (i := 1) rfl; have r2 := rA.cell (i := 2) rfl; have r3 := rA.cell (i := 3) rfl; have rf := (fun i => rA.frozen i)); (have s0 := rB.cell (i := 0) rfl; have s1 := rB.cell (i := 1) rfl; have s2 := rB.cell (i := 2) rfl; have s3 := rB.cell (i := 3) rfl; have sf := (fun i => rB.frozen i)); refine bodyPost_ret (v := .tuple #[.agg #[.int .i64 c.inputs, .slice p.an c.next.length p.cn, .slice p.ag c.gates.length p.cg, .slice p.ao c.outs.length p.co], .agg #[.int .i64 d.inputs, .slice q.an d.next.length q.cn, .slice q.ag d.gates.length q.cg, .slice q.ao d.outs.length q.co]]) (by simp [results, Try.results28, go_sem, r0, r1, r2, r3, s0, s1, s2, s3]) rfl ?_; exact drawnP_fin PF E hd hsm)
set_option maxHeartbeats 1000000 in
theorem DrawEquivalent_c (a : Option Addr) (cap : Nat) (bs : List Int) (w : World) (hB : BytesAt w a bs) (hl : bs.length ≤ 1048576) (hc : bs.length ≤ cap) (hcm : cap ≤ maxLen) :
    Calls Try.prog 32 #[.slice a bs.length cap] w (DrawnP w) := by
  have b2 := (Blk.at w [.int .i64 0, .slice none 0 0, .slice none 0 0, .slice none 0 0] 26 rfl).ext ((Ext.refl _).alloc (.cells #[.int .i64 0, .slice none 0 0, .slice none 0 0, .slice none 0 0] 26))
  have b3 := Blk.at (w.alloc (.cells #[.int .i64 0, .slice none 0 0, .slice none 0 0, .slice none 0 0] 26)) [.int .i64 0, .slice none 0 0, .slice none 0 0, .slice none 0 0] 26 (B := w.heap.size + 1) (by simp)
  have E0 : Ext w ((w.alloc (.cells #[.int .i64 0, .slice none 0 0, .slice none 0 0, .slice none 0 0] 26)).alloc (.cells #[.int .i64 0, .slice none 0 0, .slice none 0 0, .slice none 0 0] 26)) := ((Ext.refl w).alloc _).alloc _
  have z0 : ((w.alloc (.cells #[.int .i64 0, .slice none 0 0, .slice none 0 0, .slice none 0 0] 26)).alloc (.cells #[.int .i64 0, .slice none 0 0, .slice none 0 0, .slice none 0 0] 26)).heap.size = w.heap.size + 2 := by simp
  go_enter Try.func32, Try.ntmps32
  go_wp2_with fail
  generalize (w.alloc (.cells #[.int .i64 0, .slice none 0 0, .slice none 0 0, .slice none 0 0] 26)).alloc (.cells #[.int .i64 0, .slice none 0 0, .slice none 0 0, .slice none 0 0] 26) = W0 at *
  refine (open_c a cap bs _ (hB.ext E0) hl hc hcm).mono ?_
  rintro e w1 ⟨rb, bs', rfl, hR1, hrb, hE1⟩
  have s1 := hE1.size
  go_wp2_with fail
  refine (l20Pair_c rb bs' _ hR1).mono ?_
  rintro e w2 ⟨c, d, p, q, rfl, hC, hD, fp, fq, hG, hd, hsm⟩
  have E2 : Ext W0 w2 := ext_of_gr hE1 hG hrb
  have E := E0.trans E2
  have Z2 := b2.ext E2
  have Z3 := b3.ext E2
  have PK : PKeep w rb c d p q w2 := ⟨hC, hD, fp.le (by omega), fq.le (by omega), Gr.ext E _⟩
  (have u0 := Z2.cell (i := 0) rfl; have u1 := Z2.cell (i := 1) rfl; have u2 := Z2.cell (i := 2) rfl; have u3 := Z2.cell (i := 3) rfl; have uf := (fun i => Z2.frozen i))
  (have v0 := Z3.cell (i := 0) rfl; have v1 := Z3.cell (i := 1) rfl; have v2 := Z3.cell (i := 2) rfl; have v3 := Z3.cell (i := 3) rfl; have vf := (fun i => Z3.frozen i))
  go_wp2
  (have rA := ((((((((Z2.set 0 (.int .i64 c.inputs)).set 1 (.slice p.an c.next.length p.cn)).set 2 (.slice p.ag c.gates.length p.cg)).set 3 (.slice p.ao c.outs.length p.co)).setOther (p := ⟨w.heap.size + 1, 0, none⟩) (by simp) (.int .i64 d.inputs)).setOther (p := ⟨w.heap.size + 1, 1, none⟩) (by simp) (.slice q.an d.next.length q.cn)).setOther (p := ⟨w.heap.size + 1, 2, none⟩) (by simp) (.slice q.ag d.gates.length q.cg)).setOther (p := ⟨w.heap.size + 1, 3, none⟩) (by simp) (.slice q.ao d.outs.length q.co)); have rB := (((((((Z3.setOther (p := ⟨w.heap.size, 0, none⟩) (by simp) (.int .i64 c.inputs)).setOther (p := ⟨w.heap.size, 1, none⟩) (by simp) (.slice p.an c.next.length p.cn)).setOther (p := ⟨w.heap.size, 2, none⟩) (by simp) (.slice p.ag c.gates.length p.cg)).setOther (p := ⟨w.heap.size, 3, none⟩) (by simp) (.slice p.ao c.outs.length p.co)).set 0 (.int .i64 d.inputs)).set 1 (.slice q.an d.next.length q.cn)).set 2 (.slice q.ag d.gates.length q.cg)).set 3 (.slice q.ao d.outs.length q.co); have PF := ((((((((PK.set (b := w.heap.size) (by omega) (by omega) 0 (.int .i64 c.inputs)).set (b := w.heap.size) (by omega) (by omega) 1 (.slice p.an c.next.length p.cn)).set (b := w.heap.size) (by omega) (by omega) 2 (.slice p.ag c.gates.length p.cg)).set (b := w.heap.size) (by omega) (by omega) 3 (.slice p.ao c.outs.length p.co)).set (b := w.heap.size + 1) (by omega) (by omega) 0 (.int .i64 d.inputs)).set (b := w.heap.size + 1) (by omega) (by omega) 1 (.slice q.an d.next.length q.cn)).set (b := w.heap.size + 1) (by omega) (by omega) 2 (.slice q.ag d.gates.length q.cg)).set (b := w.heap.size + 1) (by omega) (by omega) 3 (.slice q.ao d.outs.length q.co)); (have r0 := rA.cell (i := 0) rfl; have r1 := rA.cell (i := 1) rfl; have r2 := rA.cell (i := 2) rfl; have r3 := rA.cell (i := 3) rfl; have rf := (fun i => rA.frozen i)); (have s0 := rB.cell (i := 0) rfl; have s1 := rB.cell (i := 1) rfl; have s2 := rB.cell (i := 2) rfl; have s3 := rB.cell (i := 3) rfl; have sf := (fun i => rB.frozen i)); refine bodyPost_ret (v := .tuple #[.agg #[.int .i64 c.inputs, .slice p.an c.next.length p.cn, .slice p.ag c.gates.length p.cg, .slice p.ao c.outs.length p.co], .agg #[.int .i64 d.inputs, .slice q.an d.next.length q.cn, .slice q.ag d.gates.length q.cg, .slice q.ao d.outs.length q.co]]) (by simp [results, Try.results32, go_sem, r0, r1, r2, r3, s0, s1, s2, s3]) rfl ?_; exact drawnP_fin PF E hd hsm)
end Go.Proofs.Ytpfhlodlefcomaa

namespace Go.Proofs.Ytpfhlodlefcomaa
set_option linter.unusedVariables false
set_option linter.unusedSimpArgs false
noncomputable def eqB (a b : Circ) : Bool := sameI a b && !(cexV a b).1
theorem cexV_found {a b : Circ} : (cexV a b).1 = true ↔ sameI a b = true ∧ 0 ≤ firstD (diffV a b) (assigns a) := by
  unfold cexV
  by_cases h : sameI a b = true ∧ 0 ≤ firstD (diffV a b) (assigns a)
  · rw [if_pos h]; exact ⟨fun _ => h, fun _ => rfl⟩
  · rw [if_neg h]; exact ⟨(fun e => by cases e), fun e => absurd e h⟩
theorem eqB_iff {a b : Circ} : eqB a b = true ↔ sameI a b = true ∧ ∀ x, x < assigns a → resV a (-1) false x = resV b (-1) false x := by
  unfold eqB
  rw [Bool.and_eq_true]
  constructor
  · rintro ⟨h1, h2⟩
    refine ⟨h1, fun x hx => ?_⟩
    have h3 : ¬ (cexV a b).1 = true := by simpa using h2
    rw [cexV_found] at h3
    have h4 : firstD (diffV a b) (assigns a) < 0 := by
      rcases Int.lt_or_le (firstD (diffV a b) (assigns a)) 0 with h | h
      · exact h
      · exact absurd ⟨h1, h⟩ h3
    have h5 := firstD_before (diffV a b) (assigns a) x hx (.inl h4)
    unfold diffV at h5
    simpa using h5
  · rintro ⟨h1, h2⟩
    refine ⟨h1, ?_⟩
    have h3 : firstD (diffV a b) (assigns a) = -1 := firstD_none _ _ (fun y hy => by unfold diffV; simp [h2 y hy])
    have h4 : ¬ (cexV a b).1 = true := by rw [cexV_found, h3]; rintro ⟨_, h⟩; omega
    simpa using h4
theorem sameI_assigns {a b : Circ} (h : sameI a b = true) : assigns a = assigns b := by
  obtain ⟨_, _, h1, h2, _⟩ := sameI_iff.1 h
  unfold assigns; rw [h1, h2]
theorem sameI_comm (c d : Circ) : sameI d c = sameI c d := by
  rw [Bool.eq_iff_iff, sameI_iff, sameI_iff]
  constructor <;> (rintro ⟨a, b, h1, h2, h3⟩; exact ⟨b, a, h1.symm, h2.symm, h3.symm⟩)
theorem sameI_refl (c : Circ) : sameI c c = validB c := by
  rw [Bool.eq_iff_iff, sameI_iff, validB_iff]
  exact ⟨fun h => h.1, fun h => ⟨h, h, rfl, rfl, rfl⟩⟩
theorem eqB_comm (a b : Circ) : eqB b a = eqB a b := by
  rw [Bool.eq_iff_iff, eqB_iff, eqB_iff]
  constructor
  · rintro ⟨h1, h2⟩
    exact ⟨by rw [sameI_comm]; exact h1, fun x hx => (h2 x (by rw [sameI_assigns h1]; exact hx)).symm⟩
  · rintro ⟨h1, h2⟩
    exact ⟨by rw [sameI_comm]; exact h1, fun x hx => (h2 x (by rw [sameI_assigns h1]; exact hx)).symm⟩
theorem eqB_refl (a : Circ) : eqB a a = validB a := by
  rw [Bool.eq_iff_iff, eqB_iff, sameI_refl]
  exact ⟨fun h => h.1, fun h => ⟨h, fun _ _ => rfl⟩⟩
theorem eqB_valid {a b : Circ} (h : eqB a b = true) : a.Valid ∧ b.Valid := by
  obtain ⟨h1, _⟩ := eqB_iff.1 h
  obtain ⟨h2, h3, _⟩ := sameI_iff.1 h1
  exact ⟨h2, h3⟩
theorem evOk_bitsE {c : Circ} (V : c.Valid) (x : Nat) : EvOk c (stB c x) (inB c x) :=
  ⟨V, by unfold stB; rw [bitsN_length], by unfold inB; rw [bitsN_length]; exact Int.toNat_of_nonneg V.i0⟩
theorem resV_step {c : Circ} (V : c.Valid) (x : Nat) : resV c (-1) false x = (stepV c (stB c x) (inB c x)).2 ++ (stepV c (stB c x) (inB c x)).1 := by
  rw [stepV_ok (evOk_bitsE V x)]
  unfold resV litsV valsOf
  rw [List.map_append]
theorem optV_face {c : Circ} (V : c.Valid) : (optV c).inputs = c.inputs ∧ (optV c).next.length = c.next.length ∧ (optV c).outs.length = c.outs.length := by
  have ok := evOk_bitsE V 0
  obtain ⟨ok2, hs⟩ := step_opt ok
  have h1 := ok2.li
  have h2 := ok2.ls
  rw [ok.li] at h1
  rw [ok.ls] at h2
  rw [stepV_ok ok, stepV_ok ok2] at hs
  have h3 := congrArg (fun p : List Bool × List Bool => p.1.length) hs
  simp [litsV] at h3
  exact ⟨h1.symm, h2.symm, h3⟩
theorem sameI_opt {c : Circ} (V : c.Valid) : sameI c (optV c) = true := by
  obtain ⟨h1, h2, h3⟩ := optV_face V
  exact sameI_iff.2 ⟨V, optV_valid V, h1.symm, h2.symm, h3.symm⟩
theorem resV_opt {c : Circ} (V : c.Valid) (x : Nat) : resV (optV c) (-1) false x = resV c (-1) false x := by
  obtain ⟨h1, h2, _⟩ := optV_face V
  have e1 : inB (optV c) x = inB c x := by unfold inB; rw [h1]
  have e2 : stB (optV c) x = stB c x := by unfold stB; rw [h1, h2]
  rw [resV_step V, resV_step (optV_valid V), e1, e2, (step_opt (evOk_bitsE V x)).2]
theorem eqB_opt {a : Circ} (V : a.Valid) : eqB a (optV a) = true := eqB_iff.2 ⟨sameI_opt V, fun x _ => (resV_opt V x).symm⟩
theorem eqB_opt2 {a b : Circ} (V : a.Valid) (W : b.Valid) : eqB (optV a) (optV b) = eqB a b := by
  obtain ⟨a1, a2, a3⟩ := optV_face V
  obtain ⟨b1, b2, b3⟩ := optV_face W
  have hs : sameI (optV a) (optV b) = sameI a b := by
    rw [Bool.eq_iff_iff, sameI_iff, sameI_iff, a1, a2, a3, b1, b2, b3]
    exact ⟨fun h => ⟨V, W, h.2.2⟩, fun h => ⟨optV_valid V, optV_valid W, h.2.2⟩⟩
  have ha : assigns (optV a) = assigns a := (sameI_assigns (sameI_opt V)).symm
  rw [Bool.eq_iff_iff, eqB_iff, eqB_iff, hs, ha]
  constructor
  · rintro ⟨h1, h2⟩
    exact ⟨h1, fun x hx => by rw [← resV_opt V, ← resV_opt W]; exact h2 x hx⟩
  · rintro ⟨h1, h2⟩
    exact ⟨h1, fun x hx => by rw [resV_opt V, resV_opt W]; exact h2 x hx⟩
end Go.Proofs.Ytpfhlodlefcomaa

namespace Go.Proofs.Ytpfhlodlefcomaa
open Go.ChangeShapes Go.WideShapes Go.ChangeAt Go.RowKit
set_option maxRecDepth 100000
set_option linter.unusedVariables false
set_option linter.unusedSimpArgs false
set_option maxHeartbeats 4000000 in
theorem fnEquivalent_walk (a0 : Option Addr) (len0 cap0 : Nat) (z0 : List Int) (w : World) (w0 : IsRow .u8 w a0 len0 cap0 z0) :
    Calls Try.prog 10 #[.slice a0 len0 cap0] w fun e w' => e = .returned (.bool true) ∧ Below w.heap.size w w' := by
  obtain ⟨bs, rfl, hB, hlc, hcm⟩ := bytes_of_row w0
  by_cases hl : bs.length ≤ 1048576
  · go_enter Try.func10, Try.ntmps10
    go_wp2_with fail
    refine (DrawEquivalent_c a0 cap0 bs _ hB hl hlc hcm).mono ?_
    rintro e w1 ⟨c, d, p, q, rfl, hC, hD, E1, _, _⟩
    go_wp2_with fail
    have Ex : Ext w1 ((w1.alloc (.cells #[.int .i64 c.inputs, .slice p.an c.next.length p.cn, .slice p.ag c.gates.length p.cg, .slice p.ao c.outs.length p.co] 26)).alloc (.cells #[.int .i64 d.inputs, .slice q.an d.next.length q.cn, .slice q.ag d.gates.length q.cg, .slice q.ao d.outs.length q.co] 26)) := ((Ext.refl w1).alloc _).alloc _
    have y := (CircBox.made w1 c p 26).ext ((Ext.refl _).alloc (.cells #[.int .i64 d.inputs, .slice q.an d.next.length q.cn, .slice q.ag d.gates.length q.cg, .slice q.ao d.outs.length q.co] 26))
    have z := CircBox.at (w1.alloc (.cells #[.int .i64 c.inputs, .slice p.an c.next.length p.cn, .slice p.ag c.gates.length p.cg, .slice p.ao c.outs.length p.co] 26)) d q 26 (B := w1.heap.size + 1) (by simp)
    have hC := hC.ext Ex
    have hD := hD.ext Ex
    have E2 := E1.trans Ex
    generalize (w1.alloc (.cells #[.int .i64 c.inputs, .slice p.an c.next.length p.cn, .slice p.ag c.gates.length p.cg, .slice p.ao c.outs.length p.co] 26)).alloc (.cells #[.int .i64 d.inputs, .slice q.an d.next.length q.cn, .slice q.ag d.gates.length q.cg, .slice q.ao d.outs.length q.co] 26) = W2 at *
    clear Ex E1
    have H0 : Hid (∀ w : World, CircAt w c p → CircAt w d q → Calls Try.prog 33 #[.agg #[.int .i64 c.inputs, .slice p.an c.next.length p.cn, .slice p.ag c.gates.length p.cg, .slice p.ao c.outs.length p.co], .agg #[.int .i64 d.inputs, .slice q.an d.next.length q.cn, .slice q.ag d.gates.length q.cg, .slice q.ao d.outs.length q.co]] w fun e w' => e = .returned (.bool (eqB c d)) ∧ Ext w w') := Lib.hid (fun w h1 h2 => implEquivalent_c c d p q w h1 h2)
    have H1 : Hid (∀ w : World, CircAt w c p → CircAt w d q → Calls Try.prog 34 #[.agg #[.int .i64 c.inputs, .slice p.an c.next.length p.cn, .slice p.ag c.gates.length p.cg, .slice p.ao c.outs.length p.co], .agg #[.int .i64 d.inputs, .slice q.an d.next.length q.cn, .slice q.ag d.gates.length q.cg, .slice q.ao d.outs.length q.co]] w fun e w' => e = .returned (.bool (eqB c d)) ∧ Ext w w') := Lib.hid (fun w h1 h2 => specEquivalent_c c d p q w h1 h2)
    have H2 : Hid (∀ w : World, CircAt w d q → CircAt w c p → Calls Try.prog 33 #[.agg #[.int .i64 d.inputs, .slice q.an d.next.length q.cn, .slice q.ag d.gates.length q.cg, .slice q.ao d.outs.length q.co], .agg #[.int .i64 c.inputs, .slice p.an c.next.length p.cn, .slice p.ag c.gates.length p.cg, .slice p.ao c.outs.length p.co]] w fun e w' => e = .returned (.bool (eqB c d)) ∧ Ext w w') := Lib.hid (fun w h1 h2 => by rw [← eqB_comm c d]; exact implEquivalent_c d c q p w h1 h2)
    have H3 : Hid (∀ w : World, CircAt w c p → CircAt w c p → Calls Try.prog 33 #[.agg #[.int .i64 c.inputs, .slice p.an c.next.length p.cn, .slice p.ag c.gates.length p.cg, .slice p.ao c.outs.length p.co], .agg #[.int .i64 c.inputs, .slice p.an c.next.length p.cn, .slice p.ag c.gates.length p.cg, .slice p.ao c.outs.length p.co]] w fun e w' => e = .returned (.bool (validB c)) ∧ Ext w w') := Lib.hid (fun w h1 h2 => by rw [← eqB_refl c]; exact implEquivalent_c c c p p w h1 h2)
    have H4 := Lib.hid (implCircuitValid_c c p)
    have H5 := Lib.hid (specCircuitValid_c c p)
    have H6 := Lib.hid (specCircuitValid_c d q)
    have H7 := Lib.hid (implOptimize_c c p)
    have H8 := Lib.hid (implOptimize_c d q)
    have H9 : Hid (c.Valid → ∀ r : Where3, ∀ w : World, CircAt w c p → CircAt w (optV c) r → Calls Try.prog 33 #[.agg #[.int .i64 c.inputs, .slice p.an c.next.length p.cn, .slice p.ag c.gates.length p.cg, .slice p.ao c.outs.length p.co], .agg #[.int .i64 (optV c).inputs, .slice r.an (optV c).next.length r.cn, .slice r.ag (optV c).gates.length r.cg, .slice r.ao (optV c).outs.length r.co]] w fun e w' => e = .returned (.bool (true)) ∧ Ext w w') := Lib.hid (fun V r w h1 h2 => by rw [← eqB_opt V]; exact implEquivalent_c c (optV c) p r w h1 h2)
    have H10 : Hid (c.Valid → d.Valid → ∀ r t : Where3, ∀ w : World, CircAt w (optV c) r → CircAt w (optV d) t → Calls Try.prog 33 #[.agg #[.int .i64 (optV c).inputs, .slice r.an (optV c).next.length r.cn, .slice r.ag (optV c).gates.length r.cg, .slice r.ao (optV c).outs.length r.co], .agg #[.int .i64 (optV d).inputs, .slice t.an (optV d).next.length t.cn, .slice t.ag (optV d).gates.length t.cg, .slice t.ao (optV d).outs.length t.co]] w fun e w' => e = .returned (.bool (eqB c d)) ∧ Ext w w') := Lib.hid (fun V W r t w h1 h2 => by rw [← eqB_opt2 V W]; exact implEquivalent_c (optV c) (optV d) r t w h1 h2)
    obtain ⟨lc1, lc2, lc3⟩ := optV_lens c
    obtain ⟨ld1, ld2, ld3⟩ := optV_lens d
    have hcase : (validB c = false ∧ eqB c d = false) ∨ (validB c = true ∧ validB d = false ∧ eqB c d = false) ∨ (validB c = true ∧ validB d = true ∧ eqB c d = false) ∨ (validB c = true ∧ validB d = true ∧ eqB c d = true) := by
      cases hs : eqB c d
      · cases validB c <;> cases validB d <;> simp
      · obtain ⟨V, W⟩ := eqB_valid hs
        rw [validB_true V, validB_true W]; simp
    generalize optV c = oc at *
    generalize optV d = od at *
    refine (H0.out _ hC hD).mono ?_
    rintro e w3 ⟨rfl, hE3⟩
    have hC := hC.ext hE3
    have hD := hD.ext hE3
    have y := y.ext hE3
    have z := z.ext hE3
    have E3 := E2.trans hE3
    clear E2 hE3
    obtain ⟨ly, y0, y1, y2, y3⟩ := (id y)
    obtain ⟨lz, z0, z1, z2, z3⟩ := (id z)
    rcases hcase with ⟨hv, hs⟩ | ⟨hv, hu, hs⟩ | ⟨hv, hu, hs⟩ | ⟨hv, hu, hs⟩
    · skip
      clear H9 H10
      rw [hv] at H3 H4 H5
      rw [hs] at H1 H2 ⊢
      try clear hu
      clear hv hs
      go_wp2_with fail
      (refine wp_regionT ((fun w' => (∀ b o, b < w3.heap.size → w'.cell? ⟨b, o, none⟩ = w3.cell? ⟨b, o, none⟩) ∧ Ext w3 w')) 19 (by kernel_rfl) ?_; have hS0 := held_mk (Ext.drew w3))
      ((refine wpAnyT_take 0 (v := ?_) rfl (by kernel_rfl) (fun _ _ _ h => h) (Or.inl ⟨by kernel_rfl, ?_⟩) (by assumption) ?_; rotate_left; (intro wS hSw; (try dsimp only at hSw); go_simp; (try with_reducible rfl)); (try simp only [Act.put, List.setIfInBounds_toArray, List.set_cons_zero, List.set_cons_succ])); (refine wpAnyT_take 1 (v := ?_) rfl (by kernel_rfl) (fun _ _ _ h => h) (Or.inl ⟨by kernel_rfl, ?_⟩) (by assumption) ?_; rotate_left; (intro wS hSw; (try dsimp only at hSw); go_simp; (try with_reducible rfl)); (try simp only [Act.put, List.setIfInBounds_toArray, List.set_cons_zero, List.set_cons_succ])); (refine wpAnyT_take 2 (v := ?_) rfl (by kernel_rfl) (fun _ _ _ h => h) (Or.inl ⟨by kernel_rfl, ?_⟩) (by assumption) ?_; rotate_left; (intro wS hSw; (try dsimp only at hSw); go_simp; (try with_reducible rfl)); (try simp only [Act.put, List.setIfInBounds_toArray, List.set_cons_zero, List.set_cons_succ])))
      (refine wpAnyT_do 3 (by kernel_rfl) rfl (fun K hK => ?_))
      go_simp
      refine (H1.out _ (hC.ext (Ext.drew _)) (hD.ext (Ext.drew _))).mono ?_
      rintro e w4 ⟨rfl, hE4⟩
      have hK4 := held_mk ((Ext.drew w3).trans hE4)
      (refine hK _ _ hK4 ?_; clear hK K; (try simp only [Act.put, List.setIfInBounds_toArray, List.set_cons_zero, List.set_cons_succ]))
      ((refine wpAnyT_take 4 (v := ?_) rfl (by kernel_rfl) (fun _ _ _ h => h) (Or.inl ⟨by kernel_rfl, ?_⟩) (by assumption) ?_; rotate_left; (intro wS hSw; (try dsimp only at hSw); go_simp; (try with_reducible rfl)); (try simp only [Act.put, List.setIfInBounds_toArray, List.set_cons_zero, List.set_cons_succ])); (refine wpAnyT_take 5 (v := ?_) rfl (by kernel_rfl) (fun _ _ _ h => h) (Or.inl ⟨by kernel_rfl, ?_⟩) (by assumption) ?_; rotate_left; (intro wS hSw; (try dsimp only at hSw); go_simp; (try with_reducible rfl)); (try simp only [Act.put, List.setIfInBounds_toArray, List.set_cons_zero, List.set_cons_succ])); (refine wpAnyT_take 6 (v := ?_) rfl (by kernel_rfl) (fun _ _ _ h => h) (Or.inl ⟨by kernel_rfl, ?_⟩) (by assumption) ?_; rotate_left; (intro wS hSw; (try dsimp only at hSw); go_simp; (try with_reducible rfl)); (try simp only [Act.put, List.setIfInBounds_toArray, List.set_cons_zero, List.set_cons_succ])); (refine wpAnyT_take 7 (v := ?_) rfl (by kernel_rfl) (fun _ _ _ h => h) (Or.inl ⟨by kernel_rfl, ?_⟩) (by assumption) ?_; rotate_left; (intro wS hSw; (try dsimp only at hSw); go_simp; (try with_reducible rfl)); (try simp only [Act.put, List.setIfInBounds_toArray, List.set_cons_zero, List.set_cons_succ])); (refine wpAnyT_take 8 (v := ?_) rfl (by kernel_rfl) (fun _ _ _ h => h) (Or.inl ⟨by kernel_rfl, ?_⟩) (by assumption) ?_; rotate_left; (intro wS hSw; (try dsimp only at hSw); go_simp; (try with_reducible rfl)); (try simp only [Act.put, List.setIfInBounds_toArray, List.set_cons_zero, List.set_cons_succ])))
      (refine wpAnyT_do 9 (by kernel_rfl) rfl (fun K hK => ?_))
      go_simp
      refine (H2.out _ (hD.ext (held_ext hK4)) (hC.ext (held_ext hK4))).mono ?_
      rintro e w5 ⟨rfl, hE5⟩
      have hK5 := held_mk ((held_ext hK4).trans hE5)
      (refine hK _ _ hK5 ?_; clear hK K; (try simp only [Act.put, List.setIfInBounds_toArray, List.set_cons_zero, List.set_cons_succ]))
      ((refine wpAnyT_take 10 (v := ?_) rfl (by kernel_rfl) (fun _ _ _ h => h) (Or.inl ⟨by kernel_rfl, ?_⟩) (by assumption) ?_; rotate_left; (intro wS hSw; (try dsimp only at hSw); go_simp; (try with_reducible rfl)); (try simp only [Act.put, List.setIfInBounds_toArray, List.set_cons_zero, List.set_cons_succ])); (refine wpAnyT_take 11 (v := ?_) rfl (by kernel_rfl) (fun _ _ _ h => h) (Or.inl ⟨by kernel_rfl, ?_⟩) (by assumption) ?_; rotate_left; (intro wS hSw; (try dsimp only at hSw); go_simp; (try with_reducible rfl)); (try simp only [Act.put, List.setIfInBounds_toArray, List.set_cons_zero, List.set_cons_succ])); (refine wpAnyT_take 12 (v := ?_) rfl (by kernel_rfl) (fun _ _ _ h => h) (Or.inl ⟨by kernel_rfl, ?_⟩) (by assumption) ?_; rotate_left; (intro wS hSw; (try dsimp only at hSw); go_simp; (try with_reducible rfl)); (try simp only [Act.put, List.setIfInBounds_toArray, List.set_cons_zero, List.set_cons_succ])); (refine wpAnyT_take 13 (v := ?_) rfl (by kernel_rfl) (fun _ _ _ h => h) (Or.inl ⟨by kernel_rfl, ?_⟩) (by assumption) ?_; rotate_left; (intro wS hSw; (try dsimp only at hSw); go_simp; (try with_reducible rfl)); (try simp only [Act.put, List.setIfInBounds_toArray, List.set_cons_zero, List.set_cons_succ])); (refine wpAnyT_take 14 (v := ?_) rfl (by kernel_rfl) (fun _ _ _ h => h) (Or.inl ⟨by kernel_rfl, ?_⟩) (by assumption) ?_; rotate_left; (intro wS hSw; (try dsimp only at hSw); go_simp; (try with_reducible rfl)); (try simp only [Act.put, List.setIfInBounds_toArray, List.set_cons_zero, List.set_cons_succ])); (refine wpAnyT_take 16 (v := ?_) rfl (by kernel_rfl) (fun _ _ _ h => h) (Or.inl ⟨by kernel_rfl, ?_⟩) (by assumption) ?_; rotate_left; (intro wS hSw; (try dsimp only at hSw); go_simp; (try with_reducible rfl)); (try simp only [Act.put, List.setIfInBounds_toArray, List.set_cons_zero, List.set_cons_succ])))
      (refine wpAnyT_do 15 (by kernel_rfl) rfl (fun K hK => ?_))
      go_simp
      refine (H3.out _ (hC.ext (held_ext hK5)) (hC.ext (held_ext hK5))).mono ?_
      rintro e w6 ⟨rfl, hE6⟩
      have hK6 := held_mk ((held_ext hK5).trans hE6)
      (refine hK _ _ hK6 ?_; clear hK K; (try simp only [Act.put, List.setIfInBounds_toArray, List.set_cons_zero, List.set_cons_succ]))
      (refine wpAnyT_do 17 (by kernel_rfl) rfl (fun K hK => ?_))
      go_simp
      refine (H4.out _ (hC.ext (held_ext hK6))).mono ?_
      rintro e w7 ⟨rfl, hE7⟩
      have hK7 := held_mk ((held_ext hK6).trans hE7)
      (refine hK _ _ hK7 ?_; clear hK K; (try simp only [Act.put, List.setIfInBounds_toArray, List.set_cons_zero, List.set_cons_succ]))
      ((refine wpAnyT_take 18 (v := ?_) rfl (by kernel_rfl) (fun _ _ _ h => h) (Or.inl ⟨by kernel_rfl, ?_⟩) (by assumption) ?_; rotate_left; (intro wS hSw; (try dsimp only at hSw); go_simp; (try with_reducible rfl)); (try simp only [Act.put, List.setIfInBounds_toArray, List.set_cons_zero, List.set_cons_succ])))
      (refine wpAnyT_last 19 (by kernel_rfl) rfl (by decide) (by kernel_rfl) (fun K hK => ?_))
      go_simp
      (refine hK _ _ ?_; clear hK K; (try simp only [Act.put, List.setIfInBounds_toArray, List.set_cons_zero, List.set_cons_succ]))
      have E7 := E3.trans (held_ext hK7)
      have y7 := y.ext (held_ext hK7)
      have z7 := z.ext (held_ext hK7)
      have hC7 := hC.ext (held_ext hK7)
      have hD7 := hD.ext (held_ext hK7)
      clear hK4 hK5 hK6 hK7 y0 y1 y2 y3 z0 z1 z2 z3 ly lz hE4 hE5 hE6 hE7 hC hD y z
      obtain ⟨ly, y0, y1, y2, y3⟩ := (id y7)
      obtain ⟨lz, z0, z1, z2, z3⟩ := (id z7)
      go_wp2_with fail
      refine (H5.out _ hC7).mono ?_
      rintro e w8 ⟨rfl, hE8⟩
      have E8 := E7.trans hE8
      go_wp2_with fail
      refine (alive_c _).mono ?_
      rintro e w9 ⟨rfl, hE9⟩
      go_wp2
      go_ret
      exact ⟨rfl, E8.trans hE9⟩
    · skip
      clear H9 H10
      rw [hu] at H6
      rw [hv] at H3 H4 H5
      rw [hs] at H1 H2 ⊢
      try clear hu
      clear hv hs
      go_wp2_with fail
      (refine wp_regionT ((fun w' => (∀ b o, b < w3.heap.size → w'.cell? ⟨b, o, none⟩ = w3.cell? ⟨b, o, none⟩) ∧ Ext w3 w')) 19 (by kernel_rfl) ?_; have hS0 := held_mk (Ext.drew w3))
      ((refine wpAnyT_take 0 (v := ?_) rfl (by kernel_rfl) (fun _ _ _ h => h) (Or.inl ⟨by kernel_rfl, ?_⟩) (by assumption) ?_; rotate_left; (intro wS hSw; (try dsimp only at hSw); go_simp; (try with_reducible rfl)); (try simp only [Act.put, List.setIfInBounds_toArray, List.set_cons_zero, List.set_cons_succ])); (refine wpAnyT_take 1 (v := ?_) rfl (by kernel_rfl) (fun _ _ _ h => h) (Or.inl ⟨by kernel_rfl, ?_⟩) (by assumption) ?_; rotate_left; (intro wS hSw; (try dsimp only at hSw); go_simp; (try with_reducible rfl)); (try simp only [Act.put, List.setIfInBounds_toArray, List.set_cons_zero, List.set_cons_succ])); (refine wpAnyT_take 2 (v := ?_) rfl (by kernel_rfl) (fun _ _ _ h => h) (Or.inl ⟨by kernel_rfl, ?_⟩) (by assumption) ?_; rotate_left; (intro wS hSw; (try dsimp only at hSw); go_simp; (try with_reducible rfl)); (try simp only [Act.put, List.setIfInBounds_toArray, List.set_cons_zero, List.set_cons_succ])))
      (refine wpAnyT_do 3 (by kernel_rfl) rfl (fun K hK => ?_))
      go_simp
      refine (H1.out _ (hC.ext (Ext.drew _)) (hD.ext (Ext.drew _))).mono ?_
      rintro e w4 ⟨rfl, hE4⟩
      have hK4 := held_mk ((Ext.drew w3).trans hE4)
      (refine hK _ _ hK4 ?_; clear hK K; (try simp only [Act.put, List.setIfInBounds_toArray, List.set_cons_zero, List.set_cons_succ]))
      ((refine wpAnyT_take 4 (v := ?_) rfl (by kernel_rfl) (fun _ _ _ h => h) (Or.inl ⟨by kernel_rfl, ?_⟩) (by assumption) ?_; rotate_left; (intro wS hSw; (try dsimp only at hSw); go_simp; (try with_reducible rfl)); (try simp only [Act.put, List.setIfInBounds_toArray, List.set_cons_zero, List.set_cons_succ])); (refine wpAnyT_take 5 (v := ?_) rfl (by kernel_rfl) (fun _ _ _ h => h) (Or.inl ⟨by kernel_rfl, ?_⟩) (by assumption) ?_; rotate_left; (intro wS hSw; (try dsimp only at hSw); go_simp; (try with_reducible rfl)); (try simp only [Act.put, List.setIfInBounds_toArray, List.set_cons_zero, List.set_cons_succ])); (refine wpAnyT_take 6 (v := ?_) rfl (by kernel_rfl) (fun _ _ _ h => h) (Or.inl ⟨by kernel_rfl, ?_⟩) (by assumption) ?_; rotate_left; (intro wS hSw; (try dsimp only at hSw); go_simp; (try with_reducible rfl)); (try simp only [Act.put, List.setIfInBounds_toArray, List.set_cons_zero, List.set_cons_succ])); (refine wpAnyT_take 7 (v := ?_) rfl (by kernel_rfl) (fun _ _ _ h => h) (Or.inl ⟨by kernel_rfl, ?_⟩) (by assumption) ?_; rotate_left; (intro wS hSw; (try dsimp only at hSw); go_simp; (try with_reducible rfl)); (try simp only [Act.put, List.setIfInBounds_toArray, List.set_cons_zero, List.set_cons_succ])); (refine wpAnyT_take 8 (v := ?_) rfl (by kernel_rfl) (fun _ _ _ h => h) (Or.inl ⟨by kernel_rfl, ?_⟩) (by assumption) ?_; rotate_left; (intro wS hSw; (try dsimp only at hSw); go_simp; (try with_reducible rfl)); (try simp only [Act.put, List.setIfInBounds_toArray, List.set_cons_zero, List.set_cons_succ])))
      (refine wpAnyT_do 9 (by kernel_rfl) rfl (fun K hK => ?_))
      go_simp
      refine (H2.out _ (hD.ext (held_ext hK4)) (hC.ext (held_ext hK4))).mono ?_
      rintro e w5 ⟨rfl, hE5⟩
      have hK5 := held_mk ((held_ext hK4).trans hE5)
      (refine hK _ _ hK5 ?_; clear hK K; (try simp only [Act.put, List.setIfInBounds_toArray, List.set_cons_zero, List.set_cons_succ]))
      ((refine wpAnyT_take 10 (v := ?_) rfl (by kernel_rfl) (fun _ _ _ h => h) (Or.inl ⟨by kernel_rfl, ?_⟩) (by assumption) ?_; rotate_left; (intro wS hSw; (try dsimp only at hSw); go_simp; (try with_reducible rfl)); (try simp only [Act.put, List.setIfInBounds_toArray, List.set_cons_zero, List.set_cons_succ])); (refine wpAnyT_take 11 (v := ?_) rfl (by kernel_rfl) (fun _ _ _ h => h) (Or.inl ⟨by kernel_rfl, ?_⟩) (by assumption) ?_; rotate_left; (intro wS hSw; (try dsimp only at hSw); go_simp; (try with_reducible rfl)); (try simp only [Act.put, List.setIfInBounds_toArray, List.set_cons_zero, List.set_cons_succ])); (refine wpAnyT_take 12 (v := ?_) rfl (by kernel_rfl) (fun _ _ _ h => h) (Or.inl ⟨by kernel_rfl, ?_⟩) (by assumption) ?_; rotate_left; (intro wS hSw; (try dsimp only at hSw); go_simp; (try with_reducible rfl)); (try simp only [Act.put, List.setIfInBounds_toArray, List.set_cons_zero, List.set_cons_succ])); (refine wpAnyT_take 13 (v := ?_) rfl (by kernel_rfl) (fun _ _ _ h => h) (Or.inl ⟨by kernel_rfl, ?_⟩) (by assumption) ?_; rotate_left; (intro wS hSw; (try dsimp only at hSw); go_simp; (try with_reducible rfl)); (try simp only [Act.put, List.setIfInBounds_toArray, List.set_cons_zero, List.set_cons_succ])); (refine wpAnyT_take 14 (v := ?_) rfl (by kernel_rfl) (fun _ _ _ h => h) (Or.inl ⟨by kernel_rfl, ?_⟩) (by assumption) ?_; rotate_left; (intro wS hSw; (try dsimp only at hSw); go_simp; (try with_reducible rfl)); (try simp only [Act.put, List.setIfInBounds_toArray, List.set_cons_zero, List.set_cons_succ])); (refine wpAnyT_take 16 (v := ?_) rfl (by kernel_rfl) (fun _ _ _ h => h) (Or.inl ⟨by kernel_rfl, ?_⟩) (by assumption) ?_; rotate_left; (intro wS hSw; (try dsimp only at hSw); go_simp; (try with_reducible rfl)); (try simp only [Act.put, List.setIfInBounds_toArray, List.set_cons_zero, List.set_cons_succ])))
      (refine wpAnyT_do 15 (by kernel_rfl) rfl (fun K hK => ?_))
      go_simp
      refine (H3.out _ (hC.ext (held_ext hK5)) (hC.ext (held_ext hK5))).mono ?_
      rintro e w6 ⟨rfl, hE6⟩
      have hK6 := held_mk ((held_ext hK5).trans hE6)
      (refine hK _ _ hK6 ?_; clear hK K; (try simp only [Act.put, List.setIfInBounds_toArray, List.set_cons_zero, List.set_cons_succ]))
      (refine wpAnyT_do 17 (by kernel_rfl) rfl (fun K hK => ?_))
      go_simp
      refine (H4.out _ (hC.ext (held_ext hK6))).mono ?_
      rintro e w7 ⟨rfl, hE7⟩
      have hK7 := held_mk ((held_ext hK6).trans hE7)
      (refine hK _ _ hK7 ?_; clear hK K; (try simp only [Act.put, List.setIfInBounds_toArray, List.set_cons_zero, List.set_cons_succ]))
      ((refine wpAnyT_take 18 (v := ?_) rfl (by kernel_rfl) (fun _ _ _ h => h) (Or.inl ⟨by kernel_rfl, ?_⟩) (by assumption) ?_; rotate_left; (intro wS hSw; (try dsimp only at hSw); go_simp; (try with_reducible rfl)); (try simp only [Act.put, List.setIfInBounds_toArray, List.set_cons_zero, List.set_cons_succ])))
      (refine wpAnyT_last 19 (by kernel_rfl) rfl (by decide) (by kernel_rfl) (fun K hK => ?_))
      go_simp
      (refine hK _ _ ?_; clear hK K; (try simp only [Act.put, List.setIfInBounds_toArray, List.set_cons_zero, List.set_cons_succ]))
      have E7 := E3.trans (held_ext hK7)
      have y7 := y.ext (held_ext hK7)
      have z7 := z.ext (held_ext hK7)
      have hC7 := hC.ext (held_ext hK7)
      have hD7 := hD.ext (held_ext hK7)
      clear hK4 hK5 hK6 hK7 y0 y1 y2 y3 z0 z1 z2 z3 ly lz hE4 hE5 hE6 hE7 hC hD y z
      obtain ⟨ly, y0, y1, y2, y3⟩ := (id y7)
      obtain ⟨lz, z0, z1, z2, z3⟩ := (id z7)
      go_wp2_with fail
      refine (H5.out _ hC7).mono ?_
      rintro e w8 ⟨rfl, hE8⟩
      have E8 := E7.trans hE8
      have hC8 := hC7.ext hE8
      have hD8 := hD7.ext hE8
      have y8 := y7.ext hE8
      have z8 := z7.ext hE8
      clear y0 y1 y2 y3 z0 z1 z2 z3 ly lz hC7 hD7 y7 z7
      obtain ⟨ly, y0, y1, y2, y3⟩ := (id y8)
      obtain ⟨lz, z0, z1, z2, z3⟩ := (id z8)
      go_wp2_with fail
      refine (H6.out _ hD8).mono ?_
      rintro e w9 ⟨rfl, hE9⟩
      have E9 := E8.trans hE9
      go_wp2_with fail
      refine (alive_c _).mono ?_
      rintro e w10 ⟨rfl, hE10⟩
      go_wp2
      go_ret
      exact ⟨rfl, E9.trans hE10⟩
    · skip
      have V := validB_iff.1 hv
      have W := validB_iff.1 hu
      have H9 := Lib.hid (H9.out V)
      have H10 := Lib.hid (H10.out V W)
      clear V W
      rw [hu] at H6
      rw [hv] at H3 H4 H5
      rw [hs] at H1 H2 ⊢
      rw [hs] at H10
      try clear hu
      clear hv hs
      go_wp2_with fail
      (refine wp_regionT ((fun w' => (∀ b o, b < w3.heap.size → w'.cell? ⟨b, o, none⟩ = w3.cell? ⟨b, o, none⟩) ∧ Ext w3 w')) 19 (by kernel_rfl) ?_; have hS0 := held_mk (Ext.drew w3))
      ((refine wpAnyT_take 0 (v := ?_) rfl (by kernel_rfl) (fun _ _ _ h => h) (Or.inl ⟨by kernel_rfl, ?_⟩) (by assumption) ?_; rotate_left; (intro wS hSw; (try dsimp only at hSw); go_simp; (try with_reducible rfl)); (try simp only [Act.put, List.setIfInBounds_toArray, List.set_cons_zero, List.set_cons_succ])); (refine wpAnyT_take 1 (v := ?_) rfl (by kernel_rfl) (fun _ _ _ h => h) (Or.inl ⟨by kernel_rfl, ?_⟩) (by assumption) ?_; rotate_left; (intro wS hSw; (try dsimp only at hSw); go_simp; (try with_reducible rfl)); (try simp only [Act.put, List.setIfInBounds_toArray, List.set_cons_zero, List.set_cons_succ])); (refine wpAnyT_take 2 (v := ?_) rfl (by kernel_rfl) (fun _ _ _ h => h) (Or.inl ⟨by kernel_rfl, ?_⟩) (by assumption) ?_; rotate_left; (intro wS hSw; (try dsimp only at hSw); go_simp; (try with_reducible rfl)); (try simp only [Act.put, List.setIfInBounds_toArray, List.set_cons_zero, List.set_cons_succ])))
      (refine wpAnyT_do 3 (by kernel_rfl) rfl (fun K hK => ?_))
      go_simp
      refine (H1.out _ (hC.ext (Ext.drew _)) (hD.ext (Ext.drew _))).mono ?_
      rintro e w4 ⟨rfl, hE4⟩
      have hK4 := held_mk ((Ext.drew w3).trans hE4)
      (refine hK _ _ hK4 ?_; clear hK K; (try simp only [Act.put, List.setIfInBounds_toArray, List.set_cons_zero, List.set_cons_succ]))
      ((refine wpAnyT_take 4 (v := ?_) rfl (by kernel_rfl) (fun _ _ _ h => h) (Or.inl ⟨by kernel_rfl, ?_⟩) (by assumption) ?_; rotate_left; (intro wS hSw; (try dsimp only at hSw); go_simp; (try with_reducible rfl)); (try simp only [Act.put, List.setIfInBounds_toArray, List.set_cons_zero, List.set_cons_succ])); (refine wpAnyT_take 5 (v := ?_) rfl (by kernel_rfl) (fun _ _ _ h => h) (Or.inl ⟨by kernel_rfl, ?_⟩) (by assumption) ?_; rotate_left; (intro wS hSw; (try dsimp only at hSw); go_simp; (try with_reducible rfl)); (try simp only [Act.put, List.setIfInBounds_toArray, List.set_cons_zero, List.set_cons_succ])); (refine wpAnyT_take 6 (v := ?_) rfl (by kernel_rfl) (fun _ _ _ h => h) (Or.inl ⟨by kernel_rfl, ?_⟩) (by assumption) ?_; rotate_left; (intro wS hSw; (try dsimp only at hSw); go_simp; (try with_reducible rfl)); (try simp only [Act.put, List.setIfInBounds_toArray, List.set_cons_zero, List.set_cons_succ])); (refine wpAnyT_take 7 (v := ?_) rfl (by kernel_rfl) (fun _ _ _ h => h) (Or.inl ⟨by kernel_rfl, ?_⟩) (by assumption) ?_; rotate_left; (intro wS hSw; (try dsimp only at hSw); go_simp; (try with_reducible rfl)); (try simp only [Act.put, List.setIfInBounds_toArray, List.set_cons_zero, List.set_cons_succ])); (refine wpAnyT_take 8 (v := ?_) rfl (by kernel_rfl) (fun _ _ _ h => h) (Or.inl ⟨by kernel_rfl, ?_⟩) (by assumption) ?_; rotate_left; (intro wS hSw; (try dsimp only at hSw); go_simp; (try with_reducible rfl)); (try simp only [Act.put, List.setIfInBounds_toArray, List.set_cons_zero, List.set_cons_succ])))
      (refine wpAnyT_do 9 (by kernel_rfl) rfl (fun K hK => ?_))
      go_simp
      refine (H2.out _ (hD.ext (held_ext hK4)) (hC.ext (held_ext hK4))).mono ?_
      rintro e w5 ⟨rfl, hE5⟩
      have hK5 := held_mk ((held_ext hK4).trans hE5)
      (refine hK _ _ hK5 ?_; clear hK K; (try simp only [Act.put, List.setIfInBounds_toArray, List.set_cons_zero, List.set_cons_succ]))
      ((refine wpAnyT_take 10 (v := ?_) rfl (by kernel_rfl) (fun _ _ _ h => h) (Or.inl ⟨by kernel_rfl, ?_⟩) (by assumption) ?_; rotate_left; (intro wS hSw; (try dsimp only at hSw); go_simp; (try with_reducible rfl)); (try simp only [Act.put, List.setIfInBounds_toArray, List.set_cons_zero, List.set_cons_succ])); (refine wpAnyT_take 11 (v := ?_) rfl (by kernel_rfl) (fun _ _ _ h => h) (Or.inl ⟨by kernel_rfl, ?_⟩) (by assumption) ?_; rotate_left; (intro wS hSw; (try dsimp only at hSw); go_simp; (try with_reducible rfl)); (try simp only [Act.put, List.setIfInBounds_toArray, List.set_cons_zero, List.set_cons_succ])); (refine wpAnyT_take 12 (v := ?_) rfl (by kernel_rfl) (fun _ _ _ h => h) (Or.inl ⟨by kernel_rfl, ?_⟩) (by assumption) ?_; rotate_left; (intro wS hSw; (try dsimp only at hSw); go_simp; (try with_reducible rfl)); (try simp only [Act.put, List.setIfInBounds_toArray, List.set_cons_zero, List.set_cons_succ])); (refine wpAnyT_take 13 (v := ?_) rfl (by kernel_rfl) (fun _ _ _ h => h) (Or.inl ⟨by kernel_rfl, ?_⟩) (by assumption) ?_; rotate_left; (intro wS hSw; (try dsimp only at hSw); go_simp; (try with_reducible rfl)); (try simp only [Act.put, List.setIfInBounds_toArray, List.set_cons_zero, List.set_cons_succ])); (refine wpAnyT_take 14 (v := ?_) rfl (by kernel_rfl) (fun _ _ _ h => h) (Or.inl ⟨by kernel_rfl, ?_⟩) (by assumption) ?_; rotate_left; (intro wS hSw; (try dsimp only at hSw); go_simp; (try with_reducible rfl)); (try simp only [Act.put, List.setIfInBounds_toArray, List.set_cons_zero, List.set_cons_succ])); (refine wpAnyT_take 16 (v := ?_) rfl (by kernel_rfl) (fun _ _ _ h => h) (Or.inl ⟨by kernel_rfl, ?_⟩) (by assumption) ?_; rotate_left; (intro wS hSw; (try dsimp only at hSw); go_simp; (try with_reducible rfl)); (try simp only [Act.put, List.setIfInBounds_toArray, List.set_cons_zero, List.set_cons_succ])))
      (refine wpAnyT_do 15 (by kernel_rfl) rfl (fun K hK => ?_))
      go_simp
      refine (H3.out _ (hC.ext (held_ext hK5)) (hC.ext (held_ext hK5))).mono ?_
      rintro e w6 ⟨rfl, hE6⟩
      have hK6 := held_mk ((held_ext hK5).trans hE6)
      (refine hK _ _ hK6 ?_; clear hK K; (try simp only [Act.put, List.setIfInBounds_toArray, List.set_cons_zero, List.set_cons_succ]))
      (refine wpAnyT_do 17 (by kernel_rfl) rfl (fun K hK => ?_))
      go_simp
      refine (H4.out _ (hC.ext (held_ext hK6))).mono ?_
      rintro e w7 ⟨rfl, hE7⟩
      have hK7 := held_mk ((held_ext hK6).trans hE7)
      (refine hK _ _ hK7 ?_; clear hK K; (try simp only [Act.put, List.setIfInBounds_toArray, List.set_cons_zero, List.set_cons_succ]))
      ((refine wpAnyT_take 18 (v := ?_) rfl (by kernel_rfl) (fun _ _ _ h => h) (Or.inl ⟨by kernel_rfl, ?_⟩) (by assumption) ?_; rotate_left; (intro wS hSw; (try dsimp only at hSw); go_simp; (try with_reducible rfl)); (try simp only [Act.put, List.setIfInBounds_toArray, List.set_cons_zero, List.set_cons_succ])))
      (refine wpAnyT_last 19 (by kernel_rfl) rfl (by decide) (by kernel_rfl) (fun K hK => ?_))
      go_simp
      (refine hK _ _ ?_; clear hK K; (try simp only [Act.put, List.setIfInBounds_toArray, List.set_cons_zero, List.set_cons_succ]))
      have E7 := E3.trans (held_ext hK7)
      have y7 := y.ext (held_ext hK7)
      have z7 := z.ext (held_ext hK7)
      have hC7 := hC.ext (held_ext hK7)
      have hD7 := hD.ext (held_ext hK7)
      clear hK4 hK5 hK6 hK7 y0 y1 y2 y3 z0 z1 z2 z3 ly lz hE4 hE5 hE6 hE7 hC hD y z
      obtain ⟨ly, y0, y1, y2, y3⟩ := (id y7)
      obtain ⟨lz, z0, z1, z2, z3⟩ := (id z7)
      go_wp2_with fail
      refine (H5.out _ hC7).mono ?_
      rintro e w8 ⟨rfl, hE8⟩
      have E8 := E7.trans hE8
      have hC8 := hC7.ext hE8
      have hD8 := hD7.ext hE8
      have y8 := y7.ext hE8
      have z8 := z7.ext hE8
      clear y0 y1 y2 y3 z0 z1 z2 z3 ly lz hC7 hD7 y7 z7
      obtain ⟨ly, y0, y1, y2, y3⟩ := (id y8)
      obtain ⟨lz, z0, z1, z2, z3⟩ := (id z8)
      go_wp2_with fail
      refine (H6.out _ hD8).mono ?_
      rintro e w9 ⟨rfl, hE9⟩
      have E9 := E8.trans hE9
      have hC9 := hC8.ext hE9
      have hD9 := hD8.ext hE9
      have y9 := y8.ext hE9
      have z9 := z8.ext hE9
      clear y0 y1 y2 y3 z0 z1 z2 z3 ly lz hC8 hD8 y8 z8
      obtain ⟨ly, y0, y1, y2, y3⟩ := (id y9)
      obtain ⟨lz, z0, z1, z2, z3⟩ := (id z9)
      go_wp2_with fail
      (refine wp_regionT ((fun w' => (∀ b o, b < w9.heap.size → w'.cell? ⟨b, o, none⟩ = w9.cell? ⟨b, o, none⟩) ∧ Ext w9 w')) 13 (by kernel_rfl) ?_; have hS0 := held_mk (Ext.drew w9))
      ((refine wpAnyT_take 0 (v := ?_) rfl (by kernel_rfl) (fun _ _ _ h => h) (Or.inl ⟨by kernel_rfl, ?_⟩) (by assumption) ?_; rotate_left; (intro wS hSw; (try dsimp only at hSw); go_simp; (try with_reducible rfl)); (try simp only [Act.put, List.setIfInBounds_toArray, List.set_cons_zero, List.set_cons_succ])); (refine wpAnyT_take 1 (v := ?_) rfl (by kernel_rfl) (fun _ _ _ h => h) (Or.inl ⟨by kernel_rfl, ?_⟩) (by assumption) ?_; rotate_left; (intro wS hSw; (try dsimp only at hSw); go_simp; (try with_reducible rfl)); (try simp only [Act.put, List.setIfInBounds_toArray, List.set_cons_zero, List.set_cons_succ])))
      (refine wpAnyT_do 2 (by kernel_rfl) rfl (fun K hK => ?_))
      go_simp
      refine (H7.out _ (hC9.ext (Ext.drew _))).mono ?_
      rintro e w10 ⟨nv1, gv1, ov1, rfl, o10, hE10⟩
      obtain ⟨r, rfl, rfl, rfl, hR, _⟩ := o10.opened (by omega) (by omega) (by omega)
      have hK10 := held_mk ((Ext.drew w9).trans hE10)
      (refine hK _ _ hK10 ?_; clear hK K; (try simp only [Act.put, List.setIfInBounds_toArray, List.set_cons_zero, List.set_cons_succ]))
      (refine wpAnyT_do 3 (by kernel_rfl) rfl (fun K hK => ?_))
      go_simp
      refine (H9.out r _ (hC9.ext (held_ext hK10)) hR).mono ?_
      rintro e w11 ⟨rfl, hE11⟩
      have hK11 := held_mk ((held_ext hK10).trans hE11)
      (refine hK _ _ hK11 ?_; clear hK K; (try simp only [Act.put, List.setIfInBounds_toArray, List.set_cons_zero, List.set_cons_succ]))
      ((refine wpAnyT_take 4 (v := ?_) rfl (by kernel_rfl) (fun _ _ _ h => h) (Or.inl ⟨by kernel_rfl, ?_⟩) (by assumption) ?_; rotate_left; (intro wS hSw; (try dsimp only at hSw); go_simp; (try with_reducible rfl)); (try simp only [Act.put, List.setIfInBounds_toArray, List.set_cons_zero, List.set_cons_succ])); (refine wpAnyT_take 5 (v := ?_) rfl (by kernel_rfl) (fun _ _ _ h => h) (Or.inl ⟨by kernel_rfl, ?_⟩) (by assumption) ?_; rotate_left; (intro wS hSw; (try dsimp only at hSw); go_simp; (try with_reducible rfl)); (try simp only [Act.put, List.setIfInBounds_toArray, List.set_cons_zero, List.set_cons_succ])); (refine wpAnyT_take 7 (v := ?_) rfl (by kernel_rfl) (fun _ _ _ h => h) (Or.inl ⟨by kernel_rfl, ?_⟩) (by assumption) ?_; rotate_left; (intro wS hSw; (try dsimp only at hSw); go_simp; (try with_reducible rfl)); (try simp only [Act.put, List.setIfInBounds_toArray, List.set_cons_zero, List.set_cons_succ])); (refine wpAnyT_take 10 (v := ?_) rfl (by kernel_rfl) (fun _ _ _ h => h) (Or.inl ⟨by kernel_rfl, ?_⟩) (by assumption) ?_; rotate_left; (intro wS hSw; (try dsimp only at hSw); go_simp; (try with_reducible rfl)); (try simp only [Act.put, List.setIfInBounds_toArray, List.set_cons_zero, List.set_cons_succ])))
      (refine wpAnyT_do 6 (by kernel_rfl) rfl (fun K hK => ?_))
      go_simp
      refine (H7.out _ (hC9.ext (held_ext hK11))).mono ?_
      rintro e w12 ⟨nv2, gv2, ov2, rfl, o12, hE12⟩
      obtain ⟨r2, rfl, rfl, rfl, hR2, _⟩ := o12.opened (by omega) (by omega) (by omega)
      have hK12 := held_mk ((held_ext hK11).trans hE12)
      (refine hK _ _ hK12 ?_; clear hK K; (try simp only [Act.put, List.setIfInBounds_toArray, List.set_cons_zero, List.set_cons_succ]))
      (refine wpAnyT_do 8 (by kernel_rfl) rfl (fun K hK => ?_))
      go_simp
      refine (H8.out _ (hD9.ext (held_ext hK12))).mono ?_
      rintro e w13 ⟨nv3, gv3, ov3, rfl, o13, hE13⟩
      obtain ⟨r3, rfl, rfl, rfl, hR3, _⟩ := o13.opened (by omega) (by omega) (by omega)
      have hK13 := held_mk ((held_ext hK12).trans hE13)
      (refine hK _ _ hK13 ?_; clear hK K; (try simp only [Act.put, List.setIfInBounds_toArray, List.set_cons_zero, List.set_cons_succ]))
      (refine wpAnyT_do 9 (by kernel_rfl) rfl (fun K hK => ?_))
      go_simp
      refine (H10.out r2 r3 _ (hR2.ext hE13) hR3).mono ?_
      rintro e w14 ⟨rfl, hE14⟩
      have hK14 := held_mk ((held_ext hK13).trans hE14)
      (refine hK _ _ hK14 ?_; clear hK K; (try simp only [Act.put, List.setIfInBounds_toArray, List.set_cons_zero, List.set_cons_succ]))
      ((refine wpAnyT_take 11 (v := ?_) rfl (by kernel_rfl) (fun _ _ _ h => h) (Or.inl ⟨by kernel_rfl, ?_⟩) (by assumption) ?_; rotate_left; (intro wS hSw; (try dsimp only at hSw); go_simp; (try with_reducible rfl)); (try simp only [Act.put, List.setIfInBounds_toArray, List.set_cons_zero, List.set_cons_succ])); (refine wpAnyT_take 12 (v := ?_) rfl (by kernel_rfl) (fun _ _ _ h => h) (Or.inl ⟨by kernel_rfl, ?_⟩) (by assumption) ?_; rotate_left; (intro wS hSw; (try dsimp only at hSw); go_simp; (try with_reducible rfl)); (try simp only [Act.put, List.setIfInBounds_toArray, List.set_cons_zero, List.set_cons_succ])))
      (refine wpAnyT_last 13 (by kernel_rfl) rfl (by decide) (by kernel_rfl) (fun K hK => ?_))
      go_simp
      (refine hK _ _ ?_; clear hK K; (try simp only [Act.put, List.setIfInBounds_toArray, List.set_cons_zero, List.set_cons_succ]))
      go_wp2
      go_ret
      exact ⟨by first | rfl | simp, E9.trans (held_ext hK14)⟩
    · skip
      have V := validB_iff.1 hv
      have W := validB_iff.1 hu
      have H9 := Lib.hid (H9.out V)
      have H10 := Lib.hid (H10.out V W)
      clear V W
      rw [hu] at H6
      rw [hv] at H3 H4 H5
      rw [hs] at H1 H2 ⊢
      rw [hs] at H10
      try clear hu
      clear hv hs
      go_wp2_with fail
      (refine wp_regionT ((fun w' => (∀ b o, b < w3.heap.size → w'.cell? ⟨b, o, none⟩ = w3.cell? ⟨b, o, none⟩) ∧ Ext w3 w')) 19 (by kernel_rfl) ?_; have hS0 := held_mk (Ext.drew w3))
      ((refine wpAnyT_take 0 (v := ?_) rfl (by kernel_rfl) (fun _ _ _ h => h) (Or.inl ⟨by kernel_rfl, ?_⟩) (by assumption) ?_; rotate_left; (intro wS hSw; (try dsimp only at hSw); go_simp; (try with_reducible rfl)); (try simp only [Act.put, List.setIfInBounds_toArray, List.set_cons_zero, List.set_cons_succ])); (refine wpAnyT_take 1 (v := ?_) rfl (by kernel_rfl) (fun _ _ _ h => h) (Or.inl ⟨by kernel_rfl, ?_⟩) (by assumption) ?_; rotate_left; (intro wS hSw; (try dsimp only at hSw); go_simp; (try with_reducible rfl)); (try simp only [Act.put, List.setIfInBounds_toArray, List.set_cons_zero, List.set_cons_succ])); (refine wpAnyT_take 2 (v := ?_) rfl (by kernel_rfl) (fun _ _ _ h => h) (Or.inl ⟨by kernel_rfl, ?_⟩) (by assumption) ?_; rotate_left; (intro wS hSw; (try dsimp only at hSw); go_simp; (try with_reducible rfl)); (try simp only [Act.put, List.setIfInBounds_toArray, List.set_cons_zero, List.set_cons_succ])))
      (refine wpAnyT_do 3 (by kernel_rfl) rfl (fun K hK => ?_))
      go_simp
      refine (H1.out _ (hC.ext (Ext.drew _)) (hD.ext (Ext.drew _))).mono ?_
      rintro e w4 ⟨rfl, hE4⟩
      have hK4 := held_mk ((Ext.drew w3).trans hE4)
      (refine hK _ _ hK4 ?_; clear hK K; (try simp only [Act.put, List.setIfInBounds_toArray, List.set_cons_zero, List.set_cons_succ]))
      ((refine wpAnyT_take 4 (v := ?_) rfl (by kernel_rfl) (fun _ _ _ h => h) (Or.inl ⟨by kernel_rfl, ?_⟩) (by assumption) ?_; rotate_left; (intro wS hSw; (try dsimp only at hSw); go_simp; (try with_reducible rfl)); (try simp only [Act.put, List.setIfInBounds_toArray, List.set_cons_zero, List.set_cons_succ])); (refine wpAnyT_take 5 (v := ?_) rfl (by kernel_rfl) (fun _ _ _ h => h) (Or.inl ⟨by kernel_rfl, ?_⟩) (by assumption) ?_; rotate_left; (intro wS hSw; (try dsimp only at hSw); go_simp; (try with_reducible rfl)); (try simp only [Act.put, List.setIfInBounds_toArray, List.set_cons_zero, List.set_cons_succ])); (refine wpAnyT_take 6 (v := ?_) rfl (by kernel_rfl) (fun _ _ _ h => h) (Or.inl ⟨by kernel_rfl, ?_⟩) (by assumption) ?_; rotate_left; (intro wS hSw; (try dsimp only at hSw); go_simp; (try with_reducible rfl)); (try simp only [Act.put, List.setIfInBounds_toArray, List.set_cons_zero, List.set_cons_succ])); (refine wpAnyT_take 7 (v := ?_) rfl (by kernel_rfl) (fun _ _ _ h => h) (Or.inl ⟨by kernel_rfl, ?_⟩) (by assumption) ?_; rotate_left; (intro wS hSw; (try dsimp only at hSw); go_simp; (try with_reducible rfl)); (try simp only [Act.put, List.setIfInBounds_toArray, List.set_cons_zero, List.set_cons_succ])); (refine wpAnyT_take 8 (v := ?_) rfl (by kernel_rfl) (fun _ _ _ h => h) (Or.inl ⟨by kernel_rfl, ?_⟩) (by assumption) ?_; rotate_left; (intro wS hSw; (try dsimp only at hSw); go_simp; (try with_reducible rfl)); (try simp only [Act.put, List.setIfInBounds_toArray, List.set_cons_zero, List.set_cons_succ])))
      (refine wpAnyT_do 9 (by kernel_rfl) rfl (fun K hK => ?_))
      go_simp
      refine (H2.out _ (hD.ext (held_ext hK4)) (hC.ext (held_ext hK4))).mono ?_
      rintro e w5 ⟨rfl, hE5⟩
      have hK5 := held_mk ((held_ext hK4).trans hE5)
      (refine hK _ _ hK5 ?_; clear hK K; (try simp only [Act.put, List.setIfInBounds_toArray, List.set_cons_zero, List.set_cons_succ]))
      ((refine wpAnyT_take 10 (v := ?_) rfl (by kernel_rfl) (fun _ _ _ h => h) (Or.inl ⟨by kernel_rfl, ?_⟩) (by assumption) ?_; rotate_left; (intro wS hSw; (try dsimp only at hSw); go_simp; (try with_reducible rfl)); (try simp only [Act.put, List.setIfInBounds_toArray, List.set_cons_zero, List.set_cons_succ])); (refine wpAnyT_take 11 (v := ?_) rfl (by kernel_rfl) (fun _ _ _ h => h) (Or.inl ⟨by kernel_rfl, ?_⟩) (by assumption) ?_; rotate_left; (intro wS hSw; (try dsimp only at hSw); go_simp; (try with_reducible rfl)); (try simp only [Act.put, List.setIfInBounds_toArray, List.set_cons_zero, List.set_cons_succ])); (refine wpAnyT_take 12 (v := ?_) rfl (by kernel_rfl) (fun _ _ _ h => h) (Or.inl ⟨by kernel_rfl, ?_⟩) (by assumption) ?_; rotate_left; (intro wS hSw; (try dsimp only at hSw); go_simp; (try with_reducible rfl)); (try simp only [Act.put, List.setIfInBounds_toArray, List.set_cons_zero, List.set_cons_succ])); (refine wpAnyT_take 13 (v := ?_) rfl (by kernel_rfl) (fun _ _ _ h => h) (Or.inl ⟨by kernel_rfl, ?_⟩) (by assumption) ?_; rotate_left; (intro wS hSw; (try dsimp only at hSw); go_simp; (try with_reducible rfl)); (try simp only [Act.put, List.setIfInBounds_toArray, List.set_cons_zero, List.set_cons_succ])); (refine wpAnyT_take 14 (v := ?_) rfl (by kernel_rfl) (fun _ _ _ h => h) (Or.inl ⟨by kernel_rfl, ?_⟩) (by assumption) ?_; rotate_left; (intro wS hSw; (try dsimp only at hSw); go_simp; (try with_reducible rfl)); (try simp only [Act.put, List.setIfInBounds_toArray, List.set_cons_zero, List.set_cons_succ])); (refine wpAnyT_take 16 (v := ?_) rfl (by kernel_rfl) (fun _ _ _ h => h) (Or.inl ⟨by kernel_rfl, ?_⟩) (by assumption) ?_; rotate_left; (intro wS hSw; (try dsimp only at hSw); go_simp; (try with_reducible rfl)); (try simp only [Act.put, List.setIfInBounds_toArray, List.set_cons_zero, List.set_cons_succ])))
      (refine wpAnyT_do 15 (by kernel_rfl) rfl (fun K hK => ?_))
      go_simp
      refine (H3.out _ (hC.ext (held_ext hK5)) (hC.ext (held_ext hK5))).mono ?_
      rintro e w6 ⟨rfl, hE6⟩
      have hK6 := held_mk ((held_ext hK5).trans hE6)
      (refine hK _ _ hK6 ?_; clear hK K; (try simp only [Act.put, List.setIfInBounds_toArray, List.set_cons_zero, List.set_cons_succ]))
      (refine wpAnyT_do 17 (by kernel_rfl) rfl (fun K hK => ?_))
      go_simp
      refine (H4.out _ (hC.ext (held_ext hK6))).mono ?_
      rintro e w7 ⟨rfl, hE7⟩
      have hK7 := held_mk ((held_ext hK6).trans hE7)
      (refine hK _ _ hK7 ?_; clear hK K; (try simp only [Act.put, List.setIfInBounds_toArray, List.set_cons_zero, List.set_cons_succ]))
      ((refine wpAnyT_take 18 (v := ?_) rfl (by kernel_rfl) (fun _ _ _ h => h) (Or.inl ⟨by kernel_rfl, ?_⟩) (by assumption) ?_; rotate_left; (intro wS hSw; (try dsimp only at hSw); go_simp; (try with_reducible rfl)); (try simp only [Act.put, List.setIfInBounds_toArray, List.set_cons_zero, List.set_cons_succ])))
      (refine wpAnyT_last 19 (by kernel_rfl) rfl (by decide) (by kernel_rfl) (fun K hK => ?_))
      go_simp
      (refine hK _ _ ?_; clear hK K; (try simp only [Act.put, List.setIfInBounds_toArray, List.set_cons_zero, List.set_cons_succ]))
      have E7 := E3.trans (held_ext hK7)
      have y7 := y.ext (held_ext hK7)
      have z7 := z.ext (held_ext hK7)
      have hC7 := hC.ext (held_ext hK7)
      have hD7 := hD.ext (held_ext hK7)
      clear hK4 hK5 hK6 hK7 y0 y1 y2 y3 z0 z1 z2 z3 ly lz hE4 hE5 hE6 hE7 hC hD y z
      obtain ⟨ly, y0, y1, y2, y3⟩ := (id y7)
      obtain ⟨lz, z0, z1, z2, z3⟩ := (id z7)
      go_wp2_with fail
      refine (H5.out _ hC7).mono ?_
      rintro e w8 ⟨rfl, hE8⟩
      have E8 := E7.trans hE8
      have hC8 := hC7.ext hE8
      have hD8 := hD7.ext hE8
      have y8 := y7.ext hE8
      have z8 := z7.ext hE8
      clear y0 y1 y2 y3 z0 z1 z2 z3 ly lz hC7 hD7 y7 z7
      obtain ⟨ly, y0, y1, y2, y3⟩ := (id y8)
      obtain ⟨lz, z0, z1, z2, z3⟩ := (id z8)
      go_wp2_with fail
      refine (H6.out _ hD8).mono ?_
      rintro e w9 ⟨rfl, hE9⟩
      have E9 := E8.trans hE9
      have hC9 := hC8.ext hE9
      have hD9 := hD8.ext hE9
      have y9 := y8.ext hE9
      have z9 := z8.ext hE9
      clear y0 y1 y2 y3 z0 z1 z2 z3 ly lz hC8 hD8 y8 z8
      obtain ⟨ly, y0, y1, y2, y3⟩ := (id y9)
      obtain ⟨lz, z0, z1, z2, z3⟩ := (id z9)
      go_wp2_with fail
      (refine wp_regionT ((fun w' => (∀ b o, b < w9.heap.size → w'.cell? ⟨b, o, none⟩ = w9.cell? ⟨b, o, none⟩) ∧ Ext w9 w')) 13 (by kernel_rfl) ?_; have hS0 := held_mk (Ext.drew w9))
      ((refine wpAnyT_take 0 (v := ?_) rfl (by kernel_rfl) (fun _ _ _ h => h) (Or.inl ⟨by kernel_rfl, ?_⟩) (by assumption) ?_; rotate_left; (intro wS hSw; (try dsimp only at hSw); go_simp; (try with_reducible rfl)); (try simp only [Act.put, List.setIfInBounds_toArray, List.set_cons_zero, List.set_cons_succ])); (refine wpAnyT_take 1 (v := ?_) rfl (by kernel_rfl) (fun _ _ _ h => h) (Or.inl ⟨by kernel_rfl, ?_⟩) (by assumption) ?_; rotate_left; (intro wS hSw; (try dsimp only at hSw); go_simp; (try with_reducible rfl)); (try simp only [Act.put, List.setIfInBounds_toArray, List.set_cons_zero, List.set_cons_succ])))
      (refine wpAnyT_do 2 (by kernel_rfl) rfl (fun K hK => ?_))
      go_simp
      refine (H7.out _ (hC9.ext (Ext.drew _))).mono ?_
      rintro e w10 ⟨nv1, gv1, ov1, rfl, o10, hE10⟩
      obtain ⟨r, rfl, rfl, rfl, hR, _⟩ := o10.opened (by omega) (by omega) (by omega)
      have hK10 := held_mk ((Ext.drew w9).trans hE10)
      (refine hK _ _ hK10 ?_; clear hK K; (try simp only [Act.put, List.setIfInBounds_toArray, List.set_cons_zero, List.set_cons_succ]))
      (refine wpAnyT_do 3 (by kernel_rfl) rfl (fun K hK => ?_))
      go_simp
      refine (H9.out r _ (hC9.ext (held_ext hK10)) hR).mono ?_
      rintro e w11 ⟨rfl, hE11⟩
      have hK11 := held_mk ((held_ext hK10).trans hE11)
      (refine hK _ _ hK11 ?_; clear hK K; (try simp only [Act.put, List.setIfInBounds_toArray, List.set_cons_zero, List.set_cons_succ]))
      ((refine wpAnyT_take 4 (v := ?_) rfl (by kernel_rfl) (fun _ _ _ h => h) (Or.inl ⟨by kernel_rfl, ?_⟩) (by assumption) ?_; rotate_left; (intro wS hSw; (try dsimp only at hSw); go_simp; (try with_reducible rfl)); (try simp only [Act.put, List.setIfInBounds_toArray, List.set_cons_zero, List.set_cons_succ])); (refine wpAnyT_take 5 (v := ?_) rfl (by kernel_rfl) (fun _ _ _ h => h) (Or.inl ⟨by kernel_rfl, ?_⟩) (by assumption) ?_; rotate_left; (intro wS hSw; (try dsimp only at hSw); go_simp; (try with_reducible rfl)); (try simp only [Act.put, List.setIfInBounds_toArray, List.set_cons_zero, List.set_cons_succ])); (refine wpAnyT_take 7 (v := ?_) rfl (by kernel_rfl) (fun _ _ _ h => h) (Or.inl ⟨by kernel_rfl, ?_⟩) (by assumption) ?_; rotate_left; (intro wS hSw; (try dsimp only at hSw); go_simp; (try with_reducible rfl)); (try simp only [Act.put, List.setIfInBounds_toArray, List.set_cons_zero, List.set_cons_succ])); (refine wpAnyT_take 10 (v := ?_) rfl (by kernel_rfl) (fun _ _ _ h => h) (Or.inl ⟨by kernel_rfl, ?_⟩) (by assumption) ?_; rotate_left; (intro wS hSw; (try dsimp only at hSw); go_simp; (try with_reducible rfl)); (try simp only [Act.put, List.setIfInBounds_toArray, List.set_cons_zero, List.set_cons_succ])))
      (refine wpAnyT_do 6 (by kernel_rfl) rfl (fun K hK => ?_))
      go_simp
      refine (H7.out _ (hC9.ext (held_ext hK11))).mono ?_
      rintro e w12 ⟨nv2, gv2, ov2, rfl, o12, hE12⟩
      obtain ⟨r2, rfl, rfl, rfl, hR2, _⟩ := o12.opened (by omega) (by omega) (by omega)
      have hK12 := held_mk ((held_ext hK11).trans hE12)
      (refine hK _ _ hK12 ?_; clear hK K; (try simp only [Act.put, List.setIfInBounds_toArray, List.set_cons_zero, List.set_cons_succ]))
      (refine wpAnyT_do 8 (by kernel_rfl) rfl (fun K hK => ?_))
      go_simp
      refine (H8.out _ (hD9.ext (held_ext hK12))).mono ?_
      rintro e w13 ⟨nv3, gv3, ov3, rfl, o13, hE13⟩
      obtain ⟨r3, rfl, rfl, rfl, hR3, _⟩ := o13.opened (by omega) (by omega) (by omega)
      have hK13 := held_mk ((held_ext hK12).trans hE13)
      (refine hK _ _ hK13 ?_; clear hK K; (try simp only [Act.put, List.setIfInBounds_toArray, List.set_cons_zero, List.set_cons_succ]))
      (refine wpAnyT_do 9 (by kernel_rfl) rfl (fun K hK => ?_))
      go_simp
      refine (H10.out r2 r3 _ (hR2.ext hE13) hR3).mono ?_
      rintro e w14 ⟨rfl, hE14⟩
      have hK14 := held_mk ((held_ext hK13).trans hE14)
      (refine hK _ _ hK14 ?_; clear hK K; (try simp only [Act.put, List.setIfInBounds_toArray, List.set_cons_zero, List.set_cons_succ]))
      ((refine wpAnyT_take 11 (v := ?_) rfl (by kernel_rfl) (fun _ _ _ h => h) (Or.inl ⟨by kernel_rfl, ?_⟩) (by assumption) ?_; rotate_left; (intro wS hSw; (try dsimp only at hSw); go_simp; (try with_reducible rfl)); (try simp only [Act.put, List.setIfInBounds_toArray, List.set_cons_zero, List.set_cons_succ])); (refine wpAnyT_take 12 (v := ?_) rfl (by kernel_rfl) (fun _ _ _ h => h) (Or.inl ⟨by kernel_rfl, ?_⟩) (by assumption) ?_; rotate_left; (intro wS hSw; (try dsimp only at hSw); go_simp; (try with_reducible rfl)); (try simp only [Act.put, List.setIfInBounds_toArray, List.set_cons_zero, List.set_cons_succ])))
      (refine wpAnyT_last 13 (by kernel_rfl) rfl (by decide) (by kernel_rfl) (fun K hK => ?_))
      go_simp
      (refine hK _ _ ?_; clear hK K; (try simp only [Act.put, List.setIfInBounds_toArray, List.set_cons_zero, List.set_cons_succ]))
      go_wp2
      go_ret
      exact ⟨by first | rfl | simp, E9.trans (held_ext hK14)⟩
  · go_enter Try.func10, Try.ntmps10
    go_wp2
    go_ret
    exact ⟨rfl, Below.refl _ _⟩
theorem fnEquivalent_lifted (os : Os) (started : os.Started) (H : Type) (enc : TypeId × Value → H) :
    ReturnsInHanded {} Try.checked os 10 .any (Rows.fnEquivalentSpec.pre6 enc Try.prog Try.f10 Rows.fnEquivalentRow.domain false) (Rows.fnEquivalentSpec.post enc Try.prog Try.f10 false true false false) := by
  refine returnsInHanded_of_change (C := Try.checked) own started (by kernel_rfl) Try.func10
    (ChangeSpec.witness6 (enc := enc) (C := Try.checked) false ⟨#[], #[.slice none 0 0], []⟩ 8 (by kernel_rfl) (by kernel_rfl) (by kernel_rfl) (by kernel_rfl)) ?_
  intro W base args ds gs before hval0 hW hcnd _
  have hval : ∀ (j : Nat) t v, Try.f10.params[j]? = some t → args[j]? = some v → Value.okWide Try.prog W .any base t v := hval0
  have hW' := hW
  obtain ⟨p, q, hA0, hV, rfl, hfz, hnd⟩ := hW
  have hA : DataW.TrodAll enc Try.prog W 0 (fun _ => true) true Try.f10.params.toList args.toList ds p := hA0
  rw [Try.params10] at hA hval
  obtain ⟨v0, vs0, d0, ds0, p0, q0, hargs, rfl, rfl, h0, r0⟩ := trodAll_cons hA
  obtain ⟨rfl, rfl, rfl⟩ := trodAll_nil r0
  obtain rfl : args = #[v0] := by cases args; simp_all
  obtain ⟨rfl, rfl⟩ := trodVars_none hV
  obtain ⟨a0, len0, cap0, rfl⟩ := okWide_slice Try.underlying22 (hval 0 22 v0 rfl rfl)
  have k0 := h0
  have lt0 : ∀ x ∈ p0, x.block < W.heap.size := by obtain ⟨m, hm⟩ := k0; exact DataW.trod_lt m _ _ _ hm
  obtain ⟨z0, w0⟩ : ∃ zs, IsRow .u8 W a0 len0 cap0 zs := by
    obtain ⟨fuel, hf⟩ := h0
    rcases open_ints Try.underlying22 Try.underlying5 (by kernel_rfl) hf with ⟨hcs, _⟩ | ⟨x, l, c, zs, hcs, _, hl, hm, hz, _, hcell, hwz⟩
    · simp [Value.cells] at hcs
      obtain ⟨rfl, rfl, rfl⟩ := hcs
      exact ⟨[], .inl ⟨rfl, rfl, rfl, rfl⟩⟩
    · simp [Value.cells] at hcs
      obtain ⟨rfl, rfl, rfl⟩ := hcs
      exact ⟨zs, .inr ⟨_, rfl, hl, hm, by simpa using hz, hcell, hwz⟩⟩
  clear hA0 hval0
  refine (fnEquivalent_walk a0 len0 cap0 z0 W w0).mono fun e W' ⟨he, bel⟩ => ?_
  subst he
  exact ⟨_, rfl, _, _, _, [], _, [], hW', trodAll_mk1 (shut_bool Try.underlying4 _), (trodAll_cons_mk (Below.trod laidOut (by kernel_rfl) (of_decide_eq_true (by kernel_rfl)) k0 bel lt0) trodAll_mk0), rfl, bel.frame _, fun h => by cases h⟩
theorem fnEquivalent_over : Rows.fnEquivalentRow.holds Try.pinned (OpenSpec.ofChange Rows.fnEquivalentSpec) :=
  OpenClaim.holds_of_wide 10 Try.f10 rfl rfl rfl rfl rfl rfl rfl ⟨rfl, rfl, rfl, rfl, rfl⟩ rfl rfl rfl rfl rfl (by kernel_rfl) Try.func10 (by kernel_rfl)
    (of_decide_eq_true (by kernel_rfl)) (by unfold Func.isWrapper; first | (rw [if_pos (by decide +kernel)]; kernel_rfl) | (rw [if_neg (by decide +kernel)]; exact ⟨rfl, rfl⟩))
    (fun os started H enc _ => fnEquivalent_lifted os started H enc)
theorem fnEquivalent_holds : Rows.FnEquivalentSaid := fnEquivalent_over
end Go.Proofs.Ytpfhlodlefcomaa
