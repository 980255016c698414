/- The laws over drawn circuits: the code as the drawing reads it; the library's sign of life. -/
import Derived.Test.YtgialedmbmfejaaFrame
import Derived.Test.YtgialedmbmfejaaDraw3
import Derived.Test.YtgialedmbmfejaaSpec1
namespace Go.Proofs.Ytgialedmbmfejaa
open Go.ChangeShapes Go.WideShapes Go.ChangeAt Go.RowKit
set_option maxRecDepth 100000
set_option linter.unusedVariables false
set_option linter.unusedSimpArgs false
theorem bytes_of_row {w : World} {a : Option Addr} {len cap : Nat} {zs : List Int} (h : IsRow .u8 w a len cap zs) :
  ∃ bs : List Int, bs.length = len ∧ BytesAt w a bs ∧ len ≤ cap ∧ cap ≤ maxLen := by
 rcases h with ⟨rfl, rfl, rfl, rfl⟩ | ⟨x, rfl, hl, hm, hz, hcell, hwz⟩
 ·exact ⟨[], rfl, .inl rfl, Nat.le_refl _, by decide⟩
 ·refine ⟨zs.take len, by simp; omega, ?_, hl, hm⟩
  by_cases h0 : len = 0
  ·subst h0
   left; simp
  obtain ⟨b, o, k⟩ := x
  have c0 := hcell 0 (by omega)
  obtain ⟨hlt, hk⟩ : b < w.heap.size ∧ k = none := cell_in c0
  subst hk
  refine .inr ⟨b, o, rfl, hlt, fun j hj => ?_⟩
  have hj' : j < len ∧ j < zs.length := by simp at hj; omega
  have e : (zs.take len).getD j 0 = zs.getD j 0 := by simp [List.getD_eq_getElem?_getD, hj'.1]
  rw [e]
  have wf := hwz (zs.getD j 0) (by rw [List.getD_eq_getElem?_getD, List.getElem?_eq_getElem hj'.2]; exact List.getElem_mem _)
  refine ⟨by simpa only [add_plain] using hcell j hj'.2, ?_⟩
  generalize zs.getD j 0 = x at wf
  simp [Lit.wf, IntKind.wrap, IntKind.bits, IntKind.signed, IntKind.min, IntKind.max] at wf
  omega
theorem alive_c (w : World) : Calls Try.prog 18 #[] w fun e w' => e = .returned (.bool true) ∧ Ext w w' := by
 have hC : CircAt w ⟨0, [], [], []⟩ ⟨none, 0, none, 0, none, 0⟩ := ⟨.inl rfl, .inl rfl, .inl rfl, by simp, by simp, by simp⟩
 have hv : validB ⟨0, [], [], []⟩ = true := validB_true ⟨by decide, by decide, by decide, by decide, by decide, fun i hi => by simp at hi, fun i hi => by simp at hi⟩
 go_enter Try.func18, Try.ntmps18
 go_wp2_with fail
 refine (implCircuitValid_c _ _ _ hC).mono ?_
 rintro e w' ⟨rfl, E⟩
 rw [hv]
 go_wp2
 go_ret
 exact ⟨rfl, E⟩
end Go.Proofs.Ytgialedmbmfejaa
