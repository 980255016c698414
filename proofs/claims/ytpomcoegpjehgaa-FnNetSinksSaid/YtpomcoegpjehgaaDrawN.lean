/- The drawing of a circuit and a net; the laws' search in a list. -/
import Derived.Test.YtpomcoegpjehgaaDraw3
import Derived.Test.YtpomcoegpjehgaaBlk
import Derived.Test.YtpomcoegpjehgaaDraw1
import Derived.Test.YtpomcoegpjehgaaCircG
namespace Go.Proofs.Ytpomcoegpjehgaa
open Go.RowKit
set_option maxRecDepth 100000
set_option linter.unusedVariables false
set_option linter.unusedSimpArgs false
def DrawnCI (w : World) (e : Ending) (w' : World) : Prop :=
  ∃ c p n, e = .returned (.tuple #[.agg #[.int .i64 c.inputs, .slice p.an c.next.length p.cn, .slice p.ag c.gates.length p.cg, .slice p.ao c.outs.length p.co], .int .i64 n]) ∧ CircAt w' c p ∧ -1 ≤ n ∧ n ≤ 30 ∧ Ext w w'
set_option maxHeartbeats 4000000 in
theorem DrawNetSinks_c (a : Option Addr) (c : Nat) (bs : List Int) (w : World) (hB : BytesAt w a bs) (hl : bs.length ≤ 1048576) (hc : bs.length ≤ c) (hcm : c ≤ maxLen) :
    Calls Try.prog 43 #[.slice a bs.length c] w (DrawnCI w) := by
  have b0 := Blk.at w [.int .i64 0, .slice none 0 0, .slice none 0 0, .slice none 0 0] 26 rfl
  have E0 : Ext w (w.alloc (.cells #[.int .i64 0, .slice none 0 0, .slice none 0 0, .slice none 0 0] 26)) := (Ext.refl w).alloc _
  have hB0 := hB.ext E0
  have z0 : (w.alloc (.cells #[.int .i64 0, .slice none 0 0, .slice none 0 0, .slice none 0 0] 26)).heap.size = w.heap.size + 1 := by simp
  go_enter Try.func43, Try.ntmps43
  go_wp2_with fail
  refine (open_c a c bs _ hB0 hl hc hcm).mono ?_
  rintro e w1 ⟨rb, bs', rfl, hR1, hrb, hE1⟩
  rw [z0] at hrb
  go_wp2_with fail
  refine (l20Circuit_c rb bs' 0 9 _ hR1 (by omega) (by omega) (by omega)).mono ?_
  rintro e w2 hD
  obtain ⟨d, p, rfl, hC, hd, hF, hR2, hG2, hcap⟩ := drawn_open hD
  have rb1 := hR1.lt
  have sz1 := hE1.size
  rw [z0] at sz1
  have E2 := ext_of_gr hE1 hG2 (by rw [z0]; omega)
  have b2 := b0.ext E2
  have s2 := hG2.size
  go_wp2_with fail
  refine (pick_c rb bs' _ 24 _ hR2 (by omega) (by omega)).mono ?_
  rintro e w3 ⟨kn, rfl, kn0, kn1, hR3, hG3⟩
  have kn2 : kn ≤ 23 := by rcases kn1 with h | h <;> omega
  have hw5 : IntKind.i64.wrap (kn - 1) = kn - 1 := IntWalk.i64_in _ (by omega)
  have C3 : CircAt w3 d p := hC.drawnG hF hG3 rb1
  have b3 : Blk w3 _ _ _ := b2.gr hG3 (by simp; omega)
  have b3f := fun i => b3.frozen i
  have bl := b3.lt
  have b30 := b3.cell (i := 0) rfl
  have b31 := b3.cell (i := 1) rfl
  have b32 := b3.cell (i := 2) rfl
  have b33 := b3.cell (i := 3) rfl
  have rC := (((b3.set 0 (.int .i64 d.inputs)).set 1 (.slice p.an d.next.length p.cn)).set 2 (.slice p.ag d.gates.length p.cg)).set 3 (.slice p.ao d.outs.length p.co)
  have rc0 := rC.cell (i := 0) rfl
  have rc1 := rC.cell (i := 1) rfl
  have rc2 := rC.cell (i := 2) rfl
  have rc3 := rC.cell (i := 3) rfl
  have f1 : ∀ x, p.an = some x → w.heap.size ≠ x.block := fun x hx => by have := hF.1 x hx; omega
  have f2 : ∀ x, p.ag = some x → w.heap.size ≠ x.block := fun x hx => by have := hF.2.1 x hx; omega
  have f3 : ∀ x, p.ao = some x → w.heap.size ≠ x.block := fun x hx => by have := hF.2.2 x hx; omega
  have HC := Lib.hid ((((C3.set f1 f2 f3 0 (.int .i64 d.inputs)).set f1 f2 f3 1 (.slice p.an d.next.length p.cn)).set f1 f2 f3 2 (.slice p.ag d.gates.length p.cg)).set f1 f2 f3 3 (.slice p.ao d.outs.length p.co))
  have EW : Ext w w3 := ext_of_gr (E0.trans E2) hG3 (by omega)
  clear f1 f2 f3 C3 kn1 rC
  go_wp2
  refine bodyPost_ret (v := .tuple #[.agg #[.int .i64 d.inputs, .slice p.an d.next.length p.cn, .slice p.ag d.gates.length p.cg, .slice p.ao d.outs.length p.co], .int .i64 (kn - 1)]) (by simp [results, Try.results43, go_sem, rc0, rc1, rc2, rc3]) rfl ?_
  exact ⟨d, p, _, rfl, HC.out, by omega, by omega, Ext.setNew (Ext.setNew (Ext.setNew (Ext.setNew EW (by first | omega | (simp; done) | (simp; omega)) _) (by first | omega | (simp; done) | (simp; omega)) _) (by first | omega | (simp; done) | (simp; omega)) _) (by first | omega | (simp; done) | (simp; omega)) _⟩
end Go.Proofs.Ytpomcoegpjehgaa
