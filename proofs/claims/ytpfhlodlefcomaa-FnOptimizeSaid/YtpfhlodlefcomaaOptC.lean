/- spec.Optimize. -/
import Derived.Test.YtpfhlodlefcomaaOptBShare
import Derived.Test.YtpfhlodlefcomaaOptBPlain
namespace Go.Proofs.Ytpfhlodlefcomaa
open Go.RowKit
set_option maxRecDepth 100000
set_option linter.unusedVariables false
set_option linter.unusedSimpArgs false
/-- A value that stands where a circuit is handed back. -/
theorem GiveC.mono {w0 w : World} {c : Circ} {e : Ending} {w' : World} (h : GiveC w c e w') (hE : Ext w0 w) : GiveC w0 c e w' := by
  obtain ⟨nv, gv, ov, rfl, ho, he⟩ := h
  exact ⟨nv, gv, ov, rfl, ho.le hE.size, hE.trans he⟩
set_option maxHeartbeats 4000000 in
theorem specOptimize_c (c : Circ) (p : Where3) (w : World) (hc : CircAt w c p) :
    Calls Try.prog 26 #[.agg #[.int .i64 c.inputs, .slice p.an c.next.length p.cn, .slice p.ag c.gates.length p.cg, .slice p.ao c.outs.length p.co]] w (GiveC w (optV c)) := by
  have made := CircBox.made w c p 26
  have y0 := made.ext ((Ext.refl _).alloc (.cells #[.int .i64 0, .slice none 0 0, .slice none 0 0, .slice none 0 0] 26))
  have r0 := Blk.at (w.alloc (.cells #[.int .i64 c.inputs, .slice p.an c.next.length p.cn, .slice p.ag c.gates.length p.cg, .slice p.ao c.outs.length p.co] 26)) [.int .i64 0, .slice none 0 0, .slice none 0 0, .slice none 0 0] 26 (B := w.heap.size + 1) (by simp)
  have E0 : Ext w ((w.alloc (.cells #[.int .i64 c.inputs, .slice p.an c.next.length p.cn, .slice p.ag c.gates.length p.cg, .slice p.ao c.outs.length p.co] 26)).alloc (.cells #[.int .i64 0, .slice none 0 0, .slice none 0 0, .slice none 0 0] 26)) := ((Ext.refl w).alloc _).alloc _
  have z0 : ((w.alloc (.cells #[.int .i64 c.inputs, .slice p.an c.next.length p.cn, .slice p.ag c.gates.length p.cg, .slice p.ao c.outs.length p.co] 26)).alloc (.cells #[.int .i64 0, .slice none 0 0, .slice none 0 0, .slice none 0 0] 26)).heap.size = w.heap.size + 2 := by simp
  clear made
  go_enter Try.func26, Try.ntmps26
  go_wp2_with fail
  generalize ((w.alloc (.cells #[.int .i64 c.inputs, .slice p.an c.next.length p.cn, .slice p.ag c.gates.length p.cg, .slice p.ao c.outs.length p.co] 26)).alloc (.cells #[.int .i64 0, .slice none 0 0, .slice none 0 0, .slice none 0 0] 26)) = W0 at *
  have hc0 := hc.ext E0
  refine (specCircuitValid_c c p _ hc0).mono ?_
  rintro e w1 ⟨rfl, hE1⟩
  have y1 := y0.ext hE1
  have r1 := r0.ext hE1
  have E1 := E0.trans hE1
  have s1 := hE1.size
  have HO := Lib.hid (show optV c = (if validB c then buildV false (buildV true c) else ⟨0, [], [], []⟩) from rfl)
  (obtain ⟨lb, b0, b1, b2, b3⟩ := (id y1))
  cases hv : validB c
  · rw [hv] at HO
    (have e0 := r1.cell (i := 0) rfl; have e1 := r1.cell (i := 1) rfl; have e2 := r1.cell (i := 2) rfl; have e3 := r1.cell (i := 3) rfl; have ef := (fun i => r1.frozen i))
    go_wp2
    refine bodyPost_ret (v := .agg #[.int .i64 0, .slice none 0 0, .slice none 0 0, .slice none 0 0]) (by simp [results, Try.results26, go_sem, e0, e1, e2, e3]) rfl ?_
    rw [HO.out]
    exact ⟨_, _, _, rfl, OwnC.nil, Ext.setNew (p := ⟨w.heap.size + 1, 3, none⟩) (Ext.setNew (p := ⟨w.heap.size + 1, 2, none⟩) (Ext.setNew (p := ⟨w.heap.size + 1, 1, none⟩) (Ext.setNew (p := ⟨w.heap.size + 1, 0, none⟩) E1 (Nat.le_succ _) _) (Nat.le_succ _) _) (Nat.le_succ _) _) (Nat.le_succ _) _⟩
  · rw [hv] at HO
    have V := validB_iff.1 hv
    have V2 := buildV_valid V true
    have V3 := buildV_valid V2 false
    go_wp2_with fail
    refine (l3BuildShare_c c p _ (hc0.ext hE1) V).mono ?_
    rintro e w2 ⟨nv, gv, ov, rfl, o2, hE2⟩
    obtain ⟨p2, rfl, rfl, rfl, hc2, f1, f2, f3, _⟩ := o2.opened (by have := V2.ln; omega) (by have := V2.lg; omega) (by have := V2.lo; omega)
    go_wp2_with fail
    have i2 : (buildV true c).inputs = c.inputs := rfl
    rw [← i2]
    refine (l3BuildPlain_c (buildV true c) p2 _ hc2 V2).mono ?_
    rintro e w3 ⟨nv, gv, ov, rfl, o3, hE3⟩
    have E3 := (E1.trans hE2).trans hE3
    have s2 := hE2.size
    have s3 := hE3.size
    have r3 := (r1.ext hE2).ext hE3
    (have e0 := r3.cell (i := 0) rfl; have e1 := r3.cell (i := 1) rfl; have e2 := r3.cell (i := 2) rfl; have e3 := r3.cell (i := 3) rfl; have ef := (fun i => r3.frozen i))
    simp only [if_true] at HO
    rw [← HO.out]
    rw [← HO.out] at o3 V3
    generalize optV c = d at *
    obtain ⟨p3, rfl, rfl, rfl, hc3, f1, f2, f3, _⟩ := o3.opened (by have := V3.ln; omega) (by have := V3.lg; omega) (by have := V3.lo; omega)
    clear hc2 hc3 V3 HO i2 o2 hE1 hE2 hE3 r1 r3 y1 b0 b1 b2 b3 lb
    go_wp2
    refine bodyPost_ret (v := .agg #[.int .i64 d.inputs, .slice p3.an d.next.length p3.cn, .slice p3.ag d.gates.length p3.cg, .slice p3.ao d.outs.length p3.co]) (by simp [results, Try.results26, go_sem, e0, e1, e2, e3]) rfl ?_
    exact ⟨_, _, _, rfl, ((((o3.set (by omega) 0 _).set (by omega) 1 _).set (by omega) 2 _).set (by omega) 3 _).le (by omega), Ext.setNew (p := ⟨w.heap.size + 1, 3, none⟩) (Ext.setNew (p := ⟨w.heap.size + 1, 2, none⟩) (Ext.setNew (p := ⟨w.heap.size + 1, 1, none⟩) (Ext.setNew (p := ⟨w.heap.size + 1, 0, none⟩) E3 (Nat.le_succ _) _) (Nat.le_succ _) _) (Nat.le_succ _) _) (Nat.le_succ _) _⟩
end Go.Proofs.Ytpfhlodlefcomaa
