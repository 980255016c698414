/- The drawing of a circuit and a placement. -/
import Derived.Test.YtgialedmbmfejaaDrawPl
import Derived.Deep.RegionLaw
namespace Go.Proofs.Ytgialedmbmfejaa
open Go.RowKit
set_option maxRecDepth 100000
set_option linter.unusedVariables false
set_option linter.unusedSimpArgs false
def DrawnCP (w : World) (e : Ending) (w' : World) : Prop :=
  ∃ c p a cap xs, e = .returned (.tuple #[.agg #[.int .i64 c.inputs, .slice p.an c.next.length p.cn, .slice p.ag c.gates.length p.cg, .slice p.ao c.outs.length p.co], .slice a xs.length cap]) ∧ CircAt w' c p ∧ IntsAt w' a xs ∧ xs.length ≤ 18 ∧ xs.length ≤ cap ∧ cap ≤ maxLen ∧ Ext w w'
set_option maxHeartbeats 4000000 in
theorem DrawWireLength_c (a : Option Addr) (c : Nat) (bs : List Int) (w : World) (hB : BytesAt w a bs) (hl : bs.length ≤ 1048576) (hc : bs.length ≤ c) (hcm : c ≤ maxLen) :
    Calls Try.prog 53 #[.slice a bs.length c] w (DrawnCP w) := by
  have b0 := Blk.at w [.int .i64 0, .slice none 0 0, .slice none 0 0, .slice none 0 0] 26 rfl
  have E0 : Ext w (w.alloc (.cells #[.int .i64 0, .slice none 0 0, .slice none 0 0, .slice none 0 0] 26)) := (Ext.refl w).alloc _
  have hB0 := hB.ext E0
  have z0 : (w.alloc (.cells #[.int .i64 0, .slice none 0 0, .slice none 0 0, .slice none 0 0] 26)).heap.size = w.heap.size + 1 := by simp
  go_enter Try.func53, Try.ntmps53
  go_wp2_with fail
  refine (open_c a c bs _ hB0 hl hc hcm).mono ?_
  rintro e w1 ⟨rb, bs', rfl, hR1, hrb, hE1⟩
  rw [z0] at hrb
  go_wp2_with fail
  refine (l20Circuit_c rb bs' 0 16 _ hR1 (by omega) (by omega) (by omega)).mono ?_
  rintro e w2 hD
  obtain ⟨d, p, rfl, hC, hd, hF, hR2, hG2, hcap⟩ := drawn_open hD
  have rb1 := hR1.lt
  have sz1 := hE1.size
  rw [z0] at sz1
  have E2 := ext_of_gr hE1 hG2 (by rw [z0]; omega)
  have b2 := b0.ext E2
  have y2 := CircBox.made w2 d p 26
  have X23 := (Ext.refl w2).alloc (.cells #[.int .i64 d.inputs, .slice p.an d.next.length p.cn, .slice p.ag d.gates.length p.cg, .slice p.ao d.outs.length p.co] 26)
  have hRd := hR2.ext X23
  have b2' := b2.ext X23
  have hC2 := hC.ext X23
  have s2 := hG2.size
  have bl := b2.lt
  go_wp2_with fail
  obtain ⟨w3, hw3⟩ : ∃ w3, w3 = w2.alloc (.cells #[.int .i64 d.inputs, .slice p.an d.next.length p.cn, .slice p.ag d.gates.length p.cg, .slice p.ao d.outs.length p.co] 26) := ⟨_, rfl⟩
  rw [← hw3] at y2 hRd b2' hC2 X23 ⊢
  have s3 : w3.heap.size = w2.heap.size + 1 := by rw [hw3]; simp
  have S3 := Lib.hid s3
  have s3a : w2.heap.size < w3.heap.size := by omega
  have HCD := Lib.hid hC2
  clear hw3 s3 hC2
  (obtain ⟨lq, q0, q1, q2, q3⟩ := (id y2))
  go_region_law (first | (go_simp; go_at_call 99; refine (l20Place_c rb bs' (0 + 200) d p 9 _ (hRd.ext (Ext.drew _)) (by omega) (HCD.out.ext (Ext.drew _)) (by omega) (by omega)).mono ?_; rintro e w4 ⟨v, xs, rfl, hO, hx, hR4, hG4⟩; obtain ⟨va, vc, rfl, hrow, hvc, hvm, _⟩ := ownsRow_row hO; have G4 : w3.grownBy w4 (some rb) := Gr.trans (Gr.ext (Ext.drew w3) _) hG4; have y4 : CircBox w4 _ _ _ := y2.grn G4 (by simp; omega); have b4 : Blk w4 _ _ _ := b2'.gr G4 (by simp; omega); obtain ⟨lr, r0, r1, r2, r3⟩ := (id y4); have b40 := b4.cell (i := 0) rfl; have b41 := b4.cell (i := 1) rfl; have b42 := b4.cell (i := 2) rfl; have b43 := b4.cell (i := 3) rfl; have b4f := (fun i => b4.frozen i)))
  all_goals
    have rC := (((b4.set 0 (.int .i64 d.inputs)).set 1 (.slice p.an d.next.length p.cn)).set 2 (.slice p.ag d.gates.length p.cg)).set 3 (.slice p.ao d.outs.length p.co)
    have rc0 := rC.cell (i := 0) rfl
    have rc1 := rC.cell (i := 1) rfl
    have rc2 := rC.cell (i := 2) rfl
    have rc3 := rC.cell (i := 3) rfl
    have hC4 : CircAt w4 d p := HCD.out.drawnG hF G4 rb1
    have f1 : ∀ x, p.an = some x → w.heap.size ≠ x.block := fun x hx => by have := hF.1 x hx; omega
    have f2 : ∀ x, p.ag = some x → w.heap.size ≠ x.block := fun x hx => by have := hF.2.1 x hx; omega
    have f3 : ∀ x, p.ao = some x → w.heap.size ≠ x.block := fun x hx => by have := hF.2.2 x hx; omega
    have f4 : ∀ x, va = some x → w.heap.size ≠ x.block := fun x hx => by
      obtain ⟨g, cap, cur, h1, h2, _⟩ := hO.2.resolve_left (fun h => by have := h.1; rw [hx] at this; cases this)
      rw [hx] at h1
      cases h1
      have : w3.heap.size ≤ g := h2
      show w.heap.size ≠ g
      omega
    have HC := Lib.hid ((((hC4.set f1 f2 f3 0 (.int .i64 d.inputs)).set f1 f2 f3 1 (.slice p.an d.next.length p.cn)).set f1 f2 f3 2 (.slice p.ag d.gates.length p.cg)).set f1 f2 f3 3 (.slice p.ao d.outs.length p.co))
    have HI := Lib.hid (((((intsAt_of_row hrow).set f4 0 (.int .i64 d.inputs)).set f4 1 (.slice p.an d.next.length p.cn)).set f4 2 (.slice p.ag d.gates.length p.cg)).set f4 3 (.slice p.ao d.outs.length p.co))
    have EW : Ext w w4 := ext_of_gr ((E0.trans E2).trans X23) G4 (by omega)
    clear f1 f2 f3 f4 hC4 rC hO hrow
    go_wp2
    refine bodyPost_ret (v := .tuple #[.agg #[.int .i64 d.inputs, .slice p.an d.next.length p.cn, .slice p.ag d.gates.length p.cg, .slice p.ao d.outs.length p.co], .slice va xs.length vc]) (by simp [results, Try.results53, go_sem, rc0, rc1, rc2, rc3]) rfl ?_
    exact ⟨d, p, va, vc, xs, rfl, HC.out, HI.out, hx, hvc, hvm, Ext.setNew (Ext.setNew (Ext.setNew (Ext.setNew EW (by first | omega | (simp; done) | (simp; omega)) _) (by first | omega | (simp; done) | (simp; omega)) _) (by first | omega | (simp; done) | (simp; omega)) _) (by first | omega | (simp; done) | (simp; omega)) _⟩
end Go.Proofs.Ytgialedmbmfejaa
