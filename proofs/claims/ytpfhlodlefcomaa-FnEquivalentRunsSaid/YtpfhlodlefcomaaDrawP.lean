/- The drawing of two circuits from a code. -/
import Derived.Test.YtpfhlodlefcomaaPair
namespace Go.Proofs.Ytpfhlodlefcomaa
open Go.RowKit
set_option maxRecDepth 100000
set_option linter.unusedVariables false
set_option linter.unusedSimpArgs false
def DrawnP (w : World) (e : Ending) (w' : World) : Prop :=
  ∃ c d p q, e = .returned (.tuple #[.agg #[.int .i64 c.inputs, .slice p.an c.next.length p.cn, .slice p.ag c.gates.length p.cg, .slice p.ao c.outs.length p.co], .agg #[.int .i64 d.inputs, .slice q.an d.next.length q.cn, .slice q.ag d.gates.length q.cg, .slice q.ao d.outs.length q.co]]) ∧
    CircAt w' c p ∧ CircAt w' d q ∧ Ext w w' ∧ DrawnC c 16 ∧ Small d
theorem set4_ext {w W : World} {D : Nat} {a0 a1 a2 a3 : Value} (h : Ext w W) (hD : w.heap.size ≤ D) : Ext w ((((W.setCell ⟨D, 0, none⟩ a0).setCell ⟨D, 1, none⟩ a1).setCell ⟨D, 2, none⟩ a2).setCell ⟨D, 3, none⟩ a3) :=
  Ext.setNew (p := ⟨D, 3, none⟩) (Ext.setNew (p := ⟨D, 2, none⟩) (Ext.setNew (p := ⟨D, 1, none⟩) (Ext.setNew (p := ⟨D, 0, none⟩) h hD _) hD _) hD _) hD _
theorem drawnP_fin {w w2 : World} {rb : Nat} {c d : Circ} {p q : Where3} {a0 a1 a2 a3 b0 b1 b2 b3 : Value}
    (h : PKeep w rb c d p q ((((((((w2.setCell ⟨w.heap.size, 0, none⟩ a0).setCell ⟨w.heap.size, 1, none⟩ a1).setCell ⟨w.heap.size, 2, none⟩ a2).setCell ⟨w.heap.size, 3, none⟩ a3).setCell ⟨w.heap.size + 1, 0, none⟩ b0).setCell ⟨w.heap.size + 1, 1, none⟩ b1).setCell ⟨w.heap.size + 1, 2, none⟩ b2).setCell ⟨w.heap.size + 1, 3, none⟩ b3)) (E : Ext w w2) (hd : DrawnC c 16) (hs : Small d) :
    DrawnP w (.returned (.tuple #[.agg #[.int .i64 c.inputs, .slice p.an c.next.length p.cn, .slice p.ag c.gates.length p.cg, .slice p.ao c.outs.length p.co], .agg #[.int .i64 d.inputs, .slice q.an d.next.length q.cn, .slice q.ag d.gates.length q.cg, .slice q.ao d.outs.length q.co]]))
      ((((((((w2.setCell ⟨w.heap.size, 0, none⟩ a0).setCell ⟨w.heap.size, 1, none⟩ a1).setCell ⟨w.heap.size, 2, none⟩ a2).setCell ⟨w.heap.size, 3, none⟩ a3).setCell ⟨w.heap.size + 1, 0, none⟩ b0).setCell ⟨w.heap.size + 1, 1, none⟩ b1).setCell ⟨w.heap.size + 1, 2, none⟩ b2).setCell ⟨w.heap.size + 1, 3, none⟩ b3) :=
  ⟨c, d, p, q, rfl, h.hc, h.hd, set4_ext (set4_ext E (Nat.le_refl _)) (Nat.le_succ _), hd, hs⟩
set_option maxHeartbeats 1000000 in
theorem DrawSameInterface_c (a : Option Addr) (cap : Nat) (bs : List Int) (w : World) (hB : BytesAt w a bs) (hl : bs.length ≤ 1048576) (hc : bs.length ≤ cap) (hcm : cap ≤ maxLen) :
    Calls Try.prog 11 #[.slice a bs.length cap] w (DrawnP w) := by
  have b2 := (Blk.at w [.int .i64 0, .slice none 0 0, .slice none 0 0, .slice none 0 0] 26 rfl).ext ((Ext.refl _).alloc (.cells #[.int .i64 0, .slice none 0 0, .slice none 0 0, .slice none 0 0] 26))
  have b3 := Blk.at (w.alloc (.cells #[.int .i64 0, .slice none 0 0, .slice none 0 0, .slice none 0 0] 26)) [.int .i64 0, .slice none 0 0, .slice none 0 0, .slice none 0 0] 26 (B := w.heap.size + 1) (by simp)
  have E0 : Ext w ((w.alloc (.cells #[.int .i64 0, .slice none 0 0, .slice none 0 0, .slice none 0 0] 26)).alloc (.cells #[.int .i64 0, .slice none 0 0, .slice none 0 0, .slice none 0 0] 26)) := ((Ext.refl w).alloc _).alloc _
  have z0 : ((w.alloc (.cells #[.int .i64 0, .slice none 0 0, .slice none 0 0, .slice none 0 0] 26)).alloc (.cells #[.int .i64 0, .slice none 0 0, .slice none 0 0, .slice none 0 0] 26)).heap.size = w.heap.size + 2 := by simp
  go_enter Try.func11, Try.ntmps11
  go_wp2_with fail
  generalize (w.alloc (.cells #[.int .i64 0, .slice none 0 0, .slice none 0 0, .slice none 0 0] 26)).alloc (.cells #[.int .i64 0, .slice none 0 0, .slice none 0 0, .slice none 0 0] 26) = W0 at *
  refine (open_c a cap bs _ (hB.ext E0) hl hc hcm).mono ?_
  rintro e w1 ⟨rb, bs', rfl, hR1, hrb, hE1⟩
  have s1 := hE1.size
  go_wp2_with fail
  refine (l20Pair_c rb bs' _ hR1).mono ?_
  rintro e w2 ⟨c, d, p, q, rfl, hC, hD, fp, fq, hG, hd, hsm⟩
  have E2 : Ext W0 w2 := ext_of_gr hE1 hG hrb
  have E := E0.trans E2
  have Z2 := b2.ext E2
  have Z3 := b3.ext E2
  have PK : PKeep w rb c d p q w2 := ⟨hC, hD, fp.le (by omega), fq.le (by omega), Gr.ext E _⟩
  (have u0 := Z2.cell (i := 0) rfl; have u1 := Z2.cell (i := 1) rfl; have u2 := Z2.cell (i := 2) rfl; have u3 := Z2.cell (i := 3) rfl; have uf := (fun i => Z2.frozen i))
  (have v0 := Z3.cell (i := 0) rfl; have v1 := Z3.cell (i := 1) rfl; have v2 := Z3.cell (i := 2) rfl; have v3 := Z3.cell (i := 3) rfl; have vf := (fun i => Z3.frozen i))
  go_wp2
  (have rA := ((((((((Z2.set 0 (.int .i64 c.inputs)).set 1 (.slice p.an c.next.length p.cn)).set 2 (.slice p.ag c.gates.length p.cg)).set 3 (.slice p.ao c.outs.length p.co)).setOther (p := ⟨w.heap.size + 1, 0, none⟩) (by simp) (.int .i64 d.inputs)).setOther (p := ⟨w.heap.size + 1, 1, none⟩) (by simp) (.slice q.an d.next.length q.cn)).setOther (p := ⟨w.heap.size + 1, 2, none⟩) (by simp) (.slice q.ag d.gates.length q.cg)).setOther (p := ⟨w.heap.size + 1, 3, none⟩) (by simp) (.slice q.ao d.outs.length q.co)); have rB := (((((((Z3.setOther (p := ⟨w.heap.size, 0, none⟩) (by simp) (.int .i64 c.inputs)).setOther (p := ⟨w.heap.size, 1, none⟩) (by simp) (.slice p.an c.next.length p.cn)).setOther (p := ⟨w.heap.size, 2, none⟩) (by simp) (.slice p.ag c.gates.length p.cg)).setOther (p := ⟨w.heap.size, 3, none⟩) (by simp) (.slice p.ao c.outs.length p.co)).set 0 (.int .i64 d.inputs)).set 1 (.slice q.an d.next.length q.cn)).set 2 (.slice q.ag d.gates.length q.cg)).set 3 (.slice q.ao d.outs.length q.co); have PF := ((((((((PK.set (b := w.heap.size) (by omega) (by omega) 0 (.int .i64 c.inputs)).set (b := w.heap.size) (by omega) (by omega) 1 (.slice p.an c.next.length p.cn)).set (b := w.heap.size) (by omega) (by omega) 2 (.slice p.ag c.gates.length p.cg)).set (b := w.heap.size) (by omega) (by omega) 3 (.slice p.ao c.outs.length p.co)).set (b := w.heap.size + 1) (by omega) (by omega) 0 (.int .i64 d.inputs)).set (b := w.heap.size + 1) (by omega) (by omega) 1 (.slice q.an d.next.length q.cn)).set (b := w.heap.size + 1) (by omega) (by omega) 2 (.slice q.ag d.gates.length q.cg)).set (b := w.heap.size + 1) (by omega) (by omega) 3 (.slice q.ao d.outs.length q.co)); (have r0 := rA.cell (i := 0) rfl; have r1 := rA.cell (i := 1) rfl; have r2 := rA.cell (i := 2) rfl; have r3 := rA.cell (i := 3) rfl; have rf := (fun i => rA.frozen i)); (have s0 := rB.cell (i := 0) rfl; have s1 := rB.cell (i := 1) rfl; have s2 := rB.cell (i := 2) rfl; have s3 := rB.cell (i := 3) rfl; have sf := (fun i => rB.frozen i)); refine bodyPost_ret (v := .tuple #[.agg #[.int .i64 c.inputs, .slice p.an c.next.length p.cn, .slice p.ag c.gates.length p.cg, .slice p.ao c.outs.length p.co], .agg #[.int .i64 d.inputs, .slice q.an d.next.length q.cn, .slice q.ag d.gates.length q.cg, .slice q.ao d.outs.length q.co]]) (by simp [results, Try.results11, go_sem, r0, r1, r2, r3, s0, s1, s2, s3]) rfl ?_; exact drawnP_fin PF E hd hsm)
set_option maxHeartbeats 1000000 in
theorem DrawFindDifference_c (a : Option Addr) (cap : Nat) (bs : List Int) (w : World) (hB : BytesAt w a bs) (hl : bs.length ≤ 1048576) (hc : bs.length ≤ cap) (hcm : cap ≤ maxLen) :
    Calls Try.prog 28 #[.slice a bs.length cap] w (DrawnP w) := by
  have b2 := (Blk.at w [.int .i64 0, .slice none 0 0, .slice none 0 0, .slice none 0 0] 26 rfl).ext ((Ext.refl _).alloc (.cells #[.int .i64 0, .slice none 0 0, .slice none 0 0, .slice none 0 0] 26))
  have b3 := Blk.at (w.alloc (.cells #[.int .i64 0, .slice none 0 0, .slice none 0 0, .slice none 0 0] 26)) [.int .i64 0, .slice none 0 0, .slice none 0 0, .slice none 0 0] 26 (B := w.heap.size + 1) (by simp)
  have E0 : Ext w ((w.alloc (.cells #[.int .i64 0, .slice none 0 0, .slice none 0 0, .slice none 0 0] 26)).alloc (.cells #[.int .i64 0, .slice none 0 0, .slice none 0 0, .slice none 0 0] 26)) := ((Ext.refl w).alloc _).alloc _
  have z0 : ((w.alloc (.cells #[.int .i64 0, .slice none 0 0, .slice none 0 0, .slice none 0 0] 26)).alloc (.cells #[.int .i64 0, .slice none 0 0, .slice none 0 0, .slice none 0 0] 26)).heap.size = w.heap.size + 2 := by simp
  go_enter Try.func28, Try.ntmps28
  go_wp2_with fail
  generalize (w.alloc (.cells #[.int .i64 0, .slice none 0 0, .slice none 0 0, .slice none 0 0] 26)).alloc (.cells #[.int .i64 0, .slice none 0 0, .slice none 0 0, .slice none 0 0] 26) = W0 at *
  refine (open_c a cap bs _ (hB.ext E0) hl hc hcm).mono ?_
  rintro e w1 ⟨rb, bs', rfl, hR1, hrb, hE1⟩
  have s1 := hE1.size
  go_wp2_with fail
  refine (l20Pair_c rb bs' _ hR1).mono ?_
  rintro e w2 ⟨c, d, p, q, rfl, hC, hD, fp, fq, hG, hd, hsm⟩
  have E2 : Ext W0 w2 := ext_of_gr hE1 hG hrb
  have E := E0.trans E2
  have Z2 := b2.ext E2
  have Z3 := b3.ext E2
  have PK : PKeep w rb c d p q w2 := ⟨hC, hD, fp.le (by omega), fq.le (by omega), Gr.ext E _⟩
  (have u0 := Z2.cell (i := 0) rfl; have u1 := Z2.cell (i := 1) rfl; have u2 := Z2.cell (i := 2) rfl; have u3 := Z2.cell (i := 3) rfl; have uf := (fun i => Z2.frozen i))
  (have v0 := Z3.cell (i := 0) rfl; have v1 := Z3.cell (i := 1) rfl; have v2 := Z3.cell (i := 2) rfl; have v3 := Z3.cell (i := 3) rfl; have vf := (fun i => Z3.frozen i))
  go_wp2
  (have rA := ((((((((Z2.set 0 (.int .i64 c.inputs)).set 1 (.slice p.an c.next.length p.cn)).set 2 (.slice p.ag c.gates.length p.cg)).set 3 (.slice p.ao c.outs.length p.co)).setOther (p := ⟨w.heap.size + 1, 0, none⟩) (by simp) (.int .i64 d.inputs)).setOther (p := ⟨w.heap.size + 1, 1, none⟩) (by simp) (.slice q.an d.next.length q.cn)).setOther (p := ⟨w.heap.size + 1, 2, none⟩) (by simp) (.slice q.ag d.gates.length q.cg)).setOther (p := ⟨w.heap.size + 1, 3, none⟩) (by simp) (.slice q.ao d.outs.length q.co)); have rB := (((((((Z3.setOther (p := ⟨w.heap.size, 0, none⟩) (by simp) (.int .i64 c.inputs)).setOther (p := ⟨w.heap.size, 1, none⟩) (by simp) (.slice p.an c.next.length p.cn)).setOther (p := ⟨w.heap.size, 2, none⟩) (by simp) (.slice p.ag c.gates.length p.cg)).setOther (p := ⟨w.heap.size, 3, none⟩) (by simp) (.slice p.ao c.outs.length p.co)).set 0 (.int .i64 d.inputs)).set 1 (.slice q.an d.next.length q.cn)).set 2 (.slice q.ag d.gates.length q.cg)).set 3 (.slice q.ao d.outs.length q.co); have PF := ((((((((PK.set (b := w.heap.size) (by omega) (by omega) 0 (.int .i64 c.inputs)).set (b := w.heap.size) (by omega) (by omega) 1 (.slice p.an c.next.length p.cn)).set (b := w.heap.size) (by omega) (by omega) 2 (.slice p.ag c.gates.length p.cg)).set (b := w.heap.size) (by omega) (by omega) 3 (.slice p.ao c.outs.length p.co)).set (b := w.heap.size + 1) (by omega) (by omega) 0 (.int .i64 d.inputs)).set (b := w.heap.size + 1) (by omega) (by omega) 1 (.slice q.an d.next.length q.cn)).set (b := w.heap.size + 1) (by omega) (by omega) 2 (.slice q.ag d.gates.length q.cg)).set (b := w.heap.size + 1) (by omega) (by omega) 3 (.slice q.ao d.outs.length q.co)); (have r0 := rA.cell (i := 0) rfl; have r1 := rA.cell (i := 1) rfl; have r2 := rA.cell (i := 2) rfl; have r3 := rA.cell (i := 3) rfl; have rf := (fun i => rA.frozen i)); (have s0 := rB.cell (i := 0) rfl; have s1 := rB.cell (i := 1) rfl; have s2 := rB.cell (i := 2) rfl; have s3 := rB.cell (i := 3) rfl; have sf := (fun i => rB.frozen i)); refine bodyPost_ret (v := .tuple #[.agg #[.int .i64 c.inputs, .slice p.an c.next.length p.cn, .slice p.ag c.gates.length p.cg, .slice p.ao c.outs.length p.co], .agg #[.int .i64 d.inputs, .slice q.an d.next.length q.cn, .slice q.ag d.gates.length q.cg, .slice q.ao d.outs.length q.co]]) (by simp [results, Try.results28, go_sem, r0, r1, r2, r3, s0, s1, s2, s3]) rfl ?_; exact drawnP_fin PF E hd hsm)
set_option maxHeartbeats 1000000 in
theorem DrawEquivalent_c (a : Option Addr) (cap : Nat) (bs : List Int) (w : World) (hB : BytesAt w a bs) (hl : bs.length ≤ 1048576) (hc : bs.length ≤ cap) (hcm : cap ≤ maxLen) :
    Calls Try.prog 32 #[.slice a bs.length cap] w (DrawnP w) := by
  have b2 := (Blk.at w [.int .i64 0, .slice none 0 0, .slice none 0 0, .slice none 0 0] 26 rfl).ext ((Ext.refl _).alloc (.cells #[.int .i64 0, .slice none 0 0, .slice none 0 0, .slice none 0 0] 26))
  have b3 := Blk.at (w.alloc (.cells #[.int .i64 0, .slice none 0 0, .slice none 0 0, .slice none 0 0] 26)) [.int .i64 0, .slice none 0 0, .slice none 0 0, .slice none 0 0] 26 (B := w.heap.size + 1) (by simp)
  have E0 : Ext w ((w.alloc (.cells #[.int .i64 0, .slice none 0 0, .slice none 0 0, .slice none 0 0] 26)).alloc (.cells #[.int .i64 0, .slice none 0 0, .slice none 0 0, .slice none 0 0] 26)) := ((Ext.refl w).alloc _).alloc _
  have z0 : ((w.alloc (.cells #[.int .i64 0, .slice none 0 0, .slice none 0 0, .slice none 0 0] 26)).alloc (.cells #[.int .i64 0, .slice none 0 0, .slice none 0 0, .slice none 0 0] 26)).heap.size = w.heap.size + 2 := by simp
  go_enter Try.func32, Try.ntmps32
  go_wp2_with fail
  generalize (w.alloc (.cells #[.int .i64 0, .slice none 0 0, .slice none 0 0, .slice none 0 0] 26)).alloc (.cells #[.int .i64 0, .slice none 0 0, .slice none 0 0, .slice none 0 0] 26) = W0 at *
  refine (open_c a cap bs _ (hB.ext E0) hl hc hcm).mono ?_
  rintro e w1 ⟨rb, bs', rfl, hR1, hrb, hE1⟩
  have s1 := hE1.size
  go_wp2_with fail
  refine (l20Pair_c rb bs' _ hR1).mono ?_
  rintro e w2 ⟨c, d, p, q, rfl, hC, hD, fp, fq, hG, hd, hsm⟩
  have E2 : Ext W0 w2 := ext_of_gr hE1 hG hrb
  have E := E0.trans E2
  have Z2 := b2.ext E2
  have Z3 := b3.ext E2
  have PK : PKeep w rb c d p q w2 := ⟨hC, hD, fp.le (by omega), fq.le (by omega), Gr.ext E _⟩
  (have u0 := Z2.cell (i := 0) rfl; have u1 := Z2.cell (i := 1) rfl; have u2 := Z2.cell (i := 2) rfl; have u3 := Z2.cell (i := 3) rfl; have uf := (fun i => Z2.frozen i))
  (have v0 := Z3.cell (i := 0) rfl; have v1 := Z3.cell (i := 1) rfl; have v2 := Z3.cell (i := 2) rfl; have v3 := Z3.cell (i := 3) rfl; have vf := (fun i => Z3.frozen i))
  go_wp2
  (have rA := ((((((((Z2.set 0 (.int .i64 c.inputs)).set 1 (.slice p.an c.next.length p.cn)).set 2 (.slice p.ag c.gates.length p.cg)).set 3 (.slice p.ao c.outs.length p.co)).setOther (p := ⟨w.heap.size + 1, 0, none⟩) (by simp) (.int .i64 d.inputs)).setOther (p := ⟨w.heap.size + 1, 1, none⟩) (by simp) (.slice q.an d.next.length q.cn)).setOther (p := ⟨w.heap.size + 1, 2, none⟩) (by simp) (.slice q.ag d.gates.length q.cg)).setOther (p := ⟨w.heap.size + 1, 3, none⟩) (by simp) (.slice q.ao d.outs.length q.co)); have rB := (((((((Z3.setOther (p := ⟨w.heap.size, 0, none⟩) (by simp) (.int .i64 c.inputs)).setOther (p := ⟨w.heap.size, 1, none⟩) (by simp) (.slice p.an c.next.length p.cn)).setOther (p := ⟨w.heap.size, 2, none⟩) (by simp) (.slice p.ag c.gates.length p.cg)).setOther (p := ⟨w.heap.size, 3, none⟩) (by simp) (.slice p.ao c.outs.length p.co)).set 0 (.int .i64 d.inputs)).set 1 (.slice q.an d.next.length q.cn)).set 2 (.slice q.ag d.gates.length q.cg)).set 3 (.slice q.ao d.outs.length q.co); have PF := ((((((((PK.set (b := w.heap.size) (by omega) (by omega) 0 (.int .i64 c.inputs)).set (b := w.heap.size) (by omega) (by omega) 1 (.slice p.an c.next.length p.cn)).set (b := w.heap.size) (by omega) (by omega) 2 (.slice p.ag c.gates.length p.cg)).set (b := w.heap.size) (by omega) (by omega) 3 (.slice p.ao c.outs.length p.co)).set (b := w.heap.size + 1) (by omega) (by omega) 0 (.int .i64 d.inputs)).set (b := w.heap.size + 1) (by omega) (by omega) 1 (.slice q.an d.next.length q.cn)).set (b := w.heap.size + 1) (by omega) (by omega) 2 (.slice q.ag d.gates.length q.cg)).set (b := w.heap.size + 1) (by omega) (by omega) 3 (.slice q.ao d.outs.length q.co)); (have r0 := rA.cell (i := 0) rfl; have r1 := rA.cell (i := 1) rfl; have r2 := rA.cell (i := 2) rfl; have r3 := rA.cell (i := 3) rfl; have rf := (fun i => rA.frozen i)); (have s0 := rB.cell (i := 0) rfl; have s1 := rB.cell (i := 1) rfl; have s2 := rB.cell (i := 2) rfl; have s3 := rB.cell (i := 3) rfl; have sf := (fun i => rB.frozen i)); refine bodyPost_ret (v := .tuple #[.agg #[.int .i64 c.inputs, .slice p.an c.next.length p.cn, .slice p.ag c.gates.length p.cg, .slice p.ao c.outs.length p.co], .agg #[.int .i64 d.inputs, .slice q.an d.next.length q.cn, .slice q.ag d.gates.length q.cg, .slice q.ao d.outs.length q.co]]) (by simp [results, Try.results32, go_sem, r0, r1, r2, r3, s0, s1, s2, s3]) rfl ?_; exact drawnP_fin PF E hd hsm)
end Go.Proofs.Ytpfhlodlefcomaa
