/- The drawing of the arguments of FindTest and Detects. -/
import Derived.Test.YtlkfhcigpkfhnaaDrawF
namespace Go.Proofs.Ytlkfhcigpkfhnaa
open Go.RowKit
set_option maxRecDepth 100000
set_option linter.unusedVariables false
set_option linter.unusedSimpArgs false
def DrawnCF (w : World) (e : Ending) (w' : World) : Prop :=
  ∃ c p x b, e = .returned (.tuple #[.agg #[.int .i64 c.inputs, .slice p.an c.next.length p.cn, .slice p.ag c.gates.length p.cg, .slice p.ao c.outs.length p.co], .agg #[.int .i64 x, .bool b]]) ∧ CircAt w' c p ∧ -1 ≤ x ∧ x ≤ 100 ∧ Ext w w'
set_option maxHeartbeats 4000000 in
theorem DrawFindTest_c (a : Option Addr) (c : Nat) (bs : List Int) (w : World) (hB : BytesAt w a bs) (hl : bs.length ≤ 1048576) (hc : bs.length ≤ c) (hcm : c ≤ maxLen) :
    Calls Try.prog 50 #[.slice a bs.length c] w (DrawnCF w) := by
  have b0 := (Blk.at w [.int .i64 0, .slice none 0 0, .slice none 0 0, .slice none 0 0] 26 rfl).alloc (.cells #[.int .i64 0, .bool false] 59)
  have f0 := Blk.at (w.alloc (.cells #[.int .i64 0, .slice none 0 0, .slice none 0 0, .slice none 0 0] 26)) [.int .i64 0, .bool false] 59 (B := w.heap.size + 1) (by simp)
  have E0 : Ext w ((w.alloc (.cells #[.int .i64 0, .slice none 0 0, .slice none 0 0, .slice none 0 0] 26)).alloc (.cells #[.int .i64 0, .bool false] 59)) := ((Ext.refl w).alloc _).alloc _
  have hB0 := hB.ext E0
  have z0 : ((w.alloc (.cells #[.int .i64 0, .slice none 0 0, .slice none 0 0, .slice none 0 0] 26)).alloc (.cells #[.int .i64 0, .bool false] 59)).heap.size = w.heap.size + 2 := by simp
  go_enter Try.func50, Try.ntmps50
  go_wp2_with fail
  refine (open_c a c bs _ hB0 hl hc hcm).mono ?_
  rintro e w1 ⟨rb, bs', rfl, hR1, hrb, hE1⟩
  rw [z0] at hrb
  go_wp2_with fail
  refine (l20Circuit_c rb bs' 0 16 _ hR1 (by omega) (by omega) (by omega)).mono ?_
  rintro e w2 hD
  obtain ⟨d, p, rfl, hC, hd, hF, hR2, hG2, hcap⟩ := drawn_open hD
  have rb1 := hR1.lt
  have E2 := ext_of_gr hE1 hG2 (by rw [z0]; omega)
  have b2 := b0.ext E2
  have f2 := f0.ext E2
  have y2 := CircBox.made w2 d p 26
  have hRd := hR2.ext ((Ext.refl w2).alloc (.cells #[.int .i64 d.inputs, .slice p.an d.next.length p.cn, .slice p.ag d.gates.length p.cg, .slice p.ao d.outs.length p.co] 26))
  have b2' := b2.alloc (.cells #[.int .i64 d.inputs, .slice p.an d.next.length p.cn, .slice p.ag d.gates.length p.cg, .slice p.ao d.outs.length p.co] 26)
  have f2' := f2.alloc (.cells #[.int .i64 d.inputs, .slice p.an d.next.length p.cn, .slice p.ag d.gates.length p.cg, .slice p.ao d.outs.length p.co] 26)
  have hC2 := hC.ext ((Ext.refl w2).alloc (.cells #[.int .i64 d.inputs, .slice p.an d.next.length p.cn, .slice p.ag d.gates.length p.cg, .slice p.ao d.outs.length p.co] 26))
  have s2 := hG2.size
  have bl := b2.lt
  have fl := f2.lt
  go_wp2_with fail
  obtain ⟨w3, hw3⟩ : ∃ w3, w3 = w2.alloc (.cells #[.int .i64 d.inputs, .slice p.an d.next.length p.cn, .slice p.ag d.gates.length p.cg, .slice p.ao d.outs.length p.co] 26) := ⟨_, rfl⟩
  rw [← hw3] at y2 hRd b2' f2' hC2 ⊢
  have X3 : Ext w2 w3 := by rw [hw3]; exact (Ext.refl _).alloc _
  have s3 : w3.heap.size = w2.heap.size + 1 := by rw [hw3]; simp
  have S3 := Lib.hid s3
  have s3a : w2.heap.size < w3.heap.size := by omega
  clear hw3 s3
  (obtain ⟨lq, q0, q1, q2, q3⟩ := (id y2))
  go_region_law (first | (go_simp; go_at_call 84; refine (l20Fault_c rb bs' (0 + 200) d p _ (hRd.ext (Ext.drew _)) (by omega) hd).mono ?_; rintro e w4 ⟨x, b, rfl, hx1, hx2, hR4, hG4⟩; have G4 : w3.grownBy w4 (some rb) := Gr.trans (Gr.ext (Ext.drew w3) _) hG4; have y4 : CircBox w4 _ _ _ := y2.grn G4 (by simp; omega); have b4 : Blk w4 _ _ _ := b2'.gr G4 (by simp; omega); have f4 : Blk w4 _ _ _ := f2'.gr G4 (by simp; omega); obtain ⟨lr, r0, r1, r2, r3⟩ := (id y4); have b40 := b4.cell (i := 0) rfl; have b41 := b4.cell (i := 1) rfl; have b42 := b4.cell (i := 2) rfl; have b43 := b4.cell (i := 3) rfl; have b4f := (fun i => b4.frozen i); have f40 := f4.cell (i := 0) rfl; have f41 := f4.cell (i := 1) rfl; have f4f := (fun i => f4.frozen i)))
  all_goals
    have rC := ((((((b4.set 0 (.int .i64 d.inputs)).set 1 (.slice p.an d.next.length p.cn)).set 2 (.slice p.ag d.gates.length p.cg)).set 3 (.slice p.ao d.outs.length p.co))).setOther (p := ⟨w.heap.size + 1, 0, none⟩) (by simp) (.int .i64 x)).setOther (p := ⟨w.heap.size + 1, 1, none⟩) (by simp) (.bool b)
    have rT := (((((f4.setOther (p := ⟨w.heap.size, 0, none⟩) (by simp) (.int .i64 d.inputs)).setOther (p := ⟨w.heap.size, 1, none⟩) (by simp) (.slice p.an d.next.length p.cn)).setOther (p := ⟨w.heap.size, 2, none⟩) (by simp) (.slice p.ag d.gates.length p.cg)).setOther (p := ⟨w.heap.size, 3, none⟩) (by simp) (.slice p.ao d.outs.length p.co)).set 0 (.int .i64 x)).set 1 (.bool b)
    have rc0 := rC.cell (i := 0) rfl
    have rc1 := rC.cell (i := 1) rfl
    have rc2 := rC.cell (i := 2) rfl
    have rc3 := rC.cell (i := 3) rfl
    have rt0 := rT.cell (i := 0) rfl
    have rt1 := rT.cell (i := 1) rfl
    have sz1 := hE1.size
    rw [z0] at sz1
    have hC4 : CircAt w4 d p := hC2.drawn hF G4 rb1
    have k1 : ∀ x, p.an = some x → w.heap.size + 1 < x.block := fun x hx => by have := hF.1 x hx; omega
    have k2 : ∀ x, p.ag = some x → w.heap.size + 1 < x.block := fun x hx => by have := hF.2.1 x hx; omega
    have k3 : ∀ x, p.ao = some x → w.heap.size + 1 < x.block := fun x hx => by have := hF.2.2 x hx; omega
    have HC : Hid (∀ W v0 v1 v2 v3 v4 v5, CircAt W d p → CircAt ((((((W.setCell ⟨w.heap.size, 0, none⟩ v0).setCell ⟨w.heap.size, 1, none⟩ v1).setCell ⟨w.heap.size, 2, none⟩ v2).setCell ⟨w.heap.size, 3, none⟩ v3).setCell ⟨w.heap.size + 1, 0, none⟩ v4).setCell ⟨w.heap.size + 1, 1, none⟩ v5) d p) := Lib.hid (fun W v0 v1 v2 v3 v4 v5 h => by
      have f1 : ∀ x, p.an = some x → w.heap.size ≠ x.block := fun x hx => by have := k1 x hx; omega
      have f2 : ∀ x, p.ag = some x → w.heap.size ≠ x.block := fun x hx => by have := k2 x hx; omega
      have f3 : ∀ x, p.ao = some x → w.heap.size ≠ x.block := fun x hx => by have := k3 x hx; omega
      have h1 : ∀ x, p.an = some x → w.heap.size + 1 ≠ x.block := fun x hx => by have := k1 x hx; omega
      have h2 : ∀ x, p.ag = some x → w.heap.size + 1 ≠ x.block := fun x hx => by have := k2 x hx; omega
      have h3 : ∀ x, p.ao = some x → w.heap.size + 1 ≠ x.block := fun x hx => by have := k3 x hx; omega
      exact (((((h.set f1 f2 f3 _ _).set f1 f2 f3 _ _).set f1 f2 f3 _ _).set f1 f2 f3 _ _).set h1 h2 h3 _ _).set h1 h2 h3 _ _)
    have EW : Ext w w4 := ext_of_gr ((E0.trans E2).trans X3) G4 (by omega)
    go_wp2
    refine bodyPost_ret (v := .tuple #[.agg #[.int .i64 d.inputs, .slice p.an d.next.length p.cn, .slice p.ag d.gates.length p.cg, .slice p.ao d.outs.length p.co], .agg #[.int .i64 x, .bool b]]) (by simp [results, Try.results50, go_sem, rc0, rc1, rc2, rc3, rt0, rt1]) rfl ?_
    exact ⟨d, p, x, b, rfl, HC.out _ _ _ _ _ _ _ hC4, hx1, hx2, Ext.setNew (Ext.setNew (Ext.setNew (Ext.setNew (Ext.setNew (Ext.setNew EW (by first | omega | (simp; done) | (simp; omega)) _) (by first | omega | (simp; done) | (simp; omega)) _) (by first | omega | (simp; done) | (simp; omega)) _) (by first | omega | (simp; done) | (simp; omega)) _) (by first | omega | (simp; done) | (simp; omega)) _) (by first | omega | (simp; done) | (simp; omega)) _⟩
def DrawnCFX (w : World) (e : Ending) (w' : World) : Prop :=
  ∃ c p x b n, e = .returned (.tuple #[.agg #[.int .i64 c.inputs, .slice p.an c.next.length p.cn, .slice p.ag c.gates.length p.cg, .slice p.ao c.outs.length p.co], .agg #[.int .i64 x, .bool b], .int .i64 n]) ∧ CircAt w' c p ∧ -1 ≤ x ∧ x ≤ 100 ∧ -1 ≤ n ∧ n ≤ 200 ∧ Ext w w'
set_option maxHeartbeats 4000000 in
theorem DrawDetects_c (a : Option Addr) (c : Nat) (bs : List Int) (w : World) (hB : BytesAt w a bs) (hl : bs.length ≤ 1048576) (hc : bs.length ≤ c) (hcm : c ≤ maxLen) :
    Calls Try.prog 42 #[.slice a bs.length c] w (DrawnCFX w) := by
  have b0 := (Blk.at w [.int .i64 0, .slice none 0 0, .slice none 0 0, .slice none 0 0] 26 rfl).alloc (.cells #[.int .i64 0, .bool false] 59)
  have f0 := Blk.at (w.alloc (.cells #[.int .i64 0, .slice none 0 0, .slice none 0 0, .slice none 0 0] 26)) [.int .i64 0, .bool false] 59 (B := w.heap.size + 1) (by simp)
  have E0 : Ext w ((w.alloc (.cells #[.int .i64 0, .slice none 0 0, .slice none 0 0, .slice none 0 0] 26)).alloc (.cells #[.int .i64 0, .bool false] 59)) := ((Ext.refl w).alloc _).alloc _
  have hB0 := hB.ext E0
  have z0 : ((w.alloc (.cells #[.int .i64 0, .slice none 0 0, .slice none 0 0, .slice none 0 0] 26)).alloc (.cells #[.int .i64 0, .bool false] 59)).heap.size = w.heap.size + 2 := by simp
  go_enter Try.func42, Try.ntmps42
  go_wp2_with fail
  refine (open_c a c bs _ hB0 hl hc hcm).mono ?_
  rintro e w1 ⟨rb, bs', rfl, hR1, hrb, hE1⟩
  rw [z0] at hrb
  go_wp2_with fail
  refine (l20Circuit_c rb bs' 0 16 _ hR1 (by omega) (by omega) (by omega)).mono ?_
  rintro e w2 hD
  obtain ⟨d, p, rfl, hC, hd, hF, hR2, hG2, hcap⟩ := drawn_open hD
  have rb1 := hR1.lt
  have E2 := ext_of_gr hE1 hG2 (by rw [z0]; omega)
  have b2 := b0.ext E2
  have f2 := f0.ext E2
  have y2 := CircBox.made w2 d p 26
  have hRd := hR2.ext ((Ext.refl w2).alloc (.cells #[.int .i64 d.inputs, .slice p.an d.next.length p.cn, .slice p.ag d.gates.length p.cg, .slice p.ao d.outs.length p.co] 26))
  have b2' := b2.alloc (.cells #[.int .i64 d.inputs, .slice p.an d.next.length p.cn, .slice p.ag d.gates.length p.cg, .slice p.ao d.outs.length p.co] 26)
  have f2' := f2.alloc (.cells #[.int .i64 d.inputs, .slice p.an d.next.length p.cn, .slice p.ag d.gates.length p.cg, .slice p.ao d.outs.length p.co] 26)
  have hC2 := hC.ext ((Ext.refl w2).alloc (.cells #[.int .i64 d.inputs, .slice p.an d.next.length p.cn, .slice p.ag d.gates.length p.cg, .slice p.ao d.outs.length p.co] 26))
  have s2 := hG2.size
  have bl := b2.lt
  have fl := f2.lt
  go_wp2_with fail
  obtain ⟨w3, hw3⟩ : ∃ w3, w3 = w2.alloc (.cells #[.int .i64 d.inputs, .slice p.an d.next.length p.cn, .slice p.ag d.gates.length p.cg, .slice p.ao d.outs.length p.co] 26) := ⟨_, rfl⟩
  rw [← hw3] at y2 hRd b2' f2' hC2 ⊢
  have X3 : Ext w2 w3 := by rw [hw3]; exact (Ext.refl _).alloc _
  have s3 : w3.heap.size = w2.heap.size + 1 := by rw [hw3]; simp
  have S3 := Lib.hid s3
  have s3a : w2.heap.size < w3.heap.size := by omega
  clear hw3 s3
  (obtain ⟨lq, q0, q1, q2, q3⟩ := (id y2))
  go_region_law (first | (go_simp; go_at_call 85; refine (pick_c rb bs' _ 130 _ hR4 (by omega) (by omega)).mono ?_; rintro e w5 ⟨kn, rfl, kn0, kn1, hR5, hG5⟩; have kn2 : kn ≤ 200 := (by rcases kn1 with h | h <;> omega); have hw5 : IntKind.i64.wrap (kn - 1) = kn - 1 := IntWalk.i64_in _ (by omega); have G5 : w3.grownBy w5 (some rb) := Gr.trans G4 hG5; clear b40 b41 b42 b43 b4f f40 f41 f4f lr r0 r1 r2 r3 kn1; have y5 : CircBox w5 _ _ _ := y2.grn G5 (by simp; omega); have b5 : Blk w5 _ _ _ := b2'.gr G5 (by simp; omega); have f5 : Blk w5 _ _ _ := f2'.gr G5 (by simp; omega); obtain ⟨lr, r0, r1, r2, r3⟩ := (id y5); have b40 := b5.cell (i := 0) rfl; have b41 := b5.cell (i := 1) rfl; have b42 := b5.cell (i := 2) rfl; have b43 := b5.cell (i := 3) rfl; have b4f := (fun i => b5.frozen i); have f40 := f5.cell (i := 0) rfl; have f41 := f5.cell (i := 1) rfl; have f4f := (fun i => f5.frozen i)) | (go_simp; go_at_call 84; refine (l20Fault_c rb bs' (0 + 200) d p _ (hRd.ext (Ext.drew _)) (by omega) hd).mono ?_; rintro e w4 ⟨x, b, rfl, hx1, hx2, hR4, hG4⟩; have G4 : w3.grownBy w4 (some rb) := Gr.trans (Gr.ext (Ext.drew w3) _) hG4; have y4 : CircBox w4 _ _ _ := y2.grn G4 (by simp; omega); have b4 : Blk w4 _ _ _ := b2'.gr G4 (by simp; omega); have f4 : Blk w4 _ _ _ := f2'.gr G4 (by simp; omega); obtain ⟨lr, r0, r1, r2, r3⟩ := (id y4); have b40 := b4.cell (i := 0) rfl; have b41 := b4.cell (i := 1) rfl; have b42 := b4.cell (i := 2) rfl; have b43 := b4.cell (i := 3) rfl; have b4f := (fun i => b4.frozen i); have f40 := f4.cell (i := 0) rfl; have f41 := f4.cell (i := 1) rfl; have f4f := (fun i => f4.frozen i)))
  all_goals
    have hC4d := trivial
    have rC := ((((((b5.set 0 (.int .i64 d.inputs)).set 1 (.slice p.an d.next.length p.cn)).set 2 (.slice p.ag d.gates.length p.cg)).set 3 (.slice p.ao d.outs.length p.co))).setOther (p := ⟨w.heap.size + 1, 0, none⟩) (by simp) (.int .i64 x)).setOther (p := ⟨w.heap.size + 1, 1, none⟩) (by simp) (.bool b)
    have rT := (((((f5.setOther (p := ⟨w.heap.size, 0, none⟩) (by simp) (.int .i64 d.inputs)).setOther (p := ⟨w.heap.size, 1, none⟩) (by simp) (.slice p.an d.next.length p.cn)).setOther (p := ⟨w.heap.size, 2, none⟩) (by simp) (.slice p.ag d.gates.length p.cg)).setOther (p := ⟨w.heap.size, 3, none⟩) (by simp) (.slice p.ao d.outs.length p.co)).set 0 (.int .i64 x)).set 1 (.bool b)
    have rc0 := rC.cell (i := 0) rfl
    have rc1 := rC.cell (i := 1) rfl
    have rc2 := rC.cell (i := 2) rfl
    have rc3 := rC.cell (i := 3) rfl
    have rt0 := rT.cell (i := 0) rfl
    have rt1 := rT.cell (i := 1) rfl
    have sz1 := hE1.size
    rw [z0] at sz1
    have hC4 : CircAt w5 d p := hC2.drawn hF G5 rb1
    have k1 : ∀ x, p.an = some x → w.heap.size + 1 < x.block := fun x hx => by have := hF.1 x hx; omega
    have k2 : ∀ x, p.ag = some x → w.heap.size + 1 < x.block := fun x hx => by have := hF.2.1 x hx; omega
    have k3 : ∀ x, p.ao = some x → w.heap.size + 1 < x.block := fun x hx => by have := hF.2.2 x hx; omega
    have HC : Hid (∀ W v0 v1 v2 v3 v4 v5, CircAt W d p → CircAt ((((((W.setCell ⟨w.heap.size, 0, none⟩ v0).setCell ⟨w.heap.size, 1, none⟩ v1).setCell ⟨w.heap.size, 2, none⟩ v2).setCell ⟨w.heap.size, 3, none⟩ v3).setCell ⟨w.heap.size + 1, 0, none⟩ v4).setCell ⟨w.heap.size + 1, 1, none⟩ v5) d p) := Lib.hid (fun W v0 v1 v2 v3 v4 v5 h => by
      have f1 : ∀ x, p.an = some x → w.heap.size ≠ x.block := fun x hx => by have := k1 x hx; omega
      have f2 : ∀ x, p.ag = some x → w.heap.size ≠ x.block := fun x hx => by have := k2 x hx; omega
      have f3 : ∀ x, p.ao = some x → w.heap.size ≠ x.block := fun x hx => by have := k3 x hx; omega
      have h1 : ∀ x, p.an = some x → w.heap.size + 1 ≠ x.block := fun x hx => by have := k1 x hx; omega
      have h2 : ∀ x, p.ag = some x → w.heap.size + 1 ≠ x.block := fun x hx => by have := k2 x hx; omega
      have h3 : ∀ x, p.ao = some x → w.heap.size + 1 ≠ x.block := fun x hx => by have := k3 x hx; omega
      exact (((((h.set f1 f2 f3 _ _).set f1 f2 f3 _ _).set f1 f2 f3 _ _).set f1 f2 f3 _ _).set h1 h2 h3 _ _).set h1 h2 h3 _ _)
    have EW : Ext w w5 := ext_of_gr ((E0.trans E2).trans X3) G5 (by omega)
    go_wp2
    refine bodyPost_ret (v := .tuple #[.agg #[.int .i64 d.inputs, .slice p.an d.next.length p.cn, .slice p.ag d.gates.length p.cg, .slice p.ao d.outs.length p.co], .agg #[.int .i64 x, .bool b], .int .i64 (kn - 1)]) (by simp [results, Try.results42, go_sem, rc0, rc1, rc2, rc3, rt0, rt1]) rfl ?_
    exact ⟨d, p, x, b, _, rfl, HC.out _ _ _ _ _ _ _ hC4, hx1, hx2, by omega, by omega, Ext.setNew (Ext.setNew (Ext.setNew (Ext.setNew (Ext.setNew (Ext.setNew EW (by first | omega | (simp; done) | (simp; omega)) _) (by first | omega | (simp; done) | (simp; omega)) _) (by first | omega | (simp; done) | (simp; omega)) _) (by first | omega | (simp; done) | (simp; omega)) _) (by first | omega | (simp; done) | (simp; omega)) _) (by first | omega | (simp; done) | (simp; omega)) _⟩
end Go.Proofs.Ytlkfhcigpkfhnaa
