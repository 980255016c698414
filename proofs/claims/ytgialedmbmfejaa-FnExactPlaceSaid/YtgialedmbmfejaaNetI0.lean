/- Rows of the program's nets: each owns two slices. (NOT BUILT YET.) -/
import Derived.Test.YtgialedmbmfejaaWl0
import Derived.Test.YtgialedmbmfejaaNest
import Derived.Test.YtgialedmbmfejaaBCel
namespace Go.Proofs.Ytgialedmbmfejaa
open Go.RowKit
set_option maxRecDepth 100000
set_option linter.unusedVariables false
set_option linter.unusedSimpArgs false
def PNet : OwnP NetT := fun w cs n F => ∃ v1 v2, cs = [.int .i64 n.net, .int .i64 n.cell, .int .i64 n.tile, v1, v2] ∧ OwnInts w 0 3 v1 n.sinks ∧ OwnInts w 0 3 v2 n.pads ∧ F = fp v1 ++ fp v2
theorem goodNet : GoodP PNet 5 where
  len := by rintro w cs x F ⟨v1, v2, rfl, _⟩; rfl
  lt := by
    rintro w cs x F ⟨v1, v2, rfl, h1, h2, rfl⟩ g hg
    rcases List.mem_append.1 hg with h | h
    · exact (fp_lt h1 g h).2
    · exact (fp_lt h2 g h).2
  keep := by
    rintro w w' cs x F ⟨v1, v2, rfl, h1, h2, rfl⟩ hk
    exact ⟨v1, v2, rfl, ownsRow_keep h1 (fun g hg => hk g (List.mem_append_left _ (mem_fp.2 hg))), ownsRow_keep h2 (fun g hg => hk g (List.mem_append_right _ (mem_fp.2 hg))), rfl⟩
  one := by
    rintro w cs x F ⟨v1, v2, rfl, h1, h2, rfl⟩ u hu
    obtain ⟨a, c, rfl, _⟩ := own_sl h1
    obtain ⟨a2, c2, rfl, _⟩ := own_sl h2
    simp at hu
    rcases hu with rfl | rfl | rfl | rfl | rfl <;> rfl
abbrev NstN (w : World) (v : Value) (xs : List NetT) (F : List Nat) : Prop := Nst PNet 91 5 w v xs F
theorem tyNets : RowTy Try.prog 87 91 5 72 := RowTy.mk' (z := .agg #[.int .i64 0, .int .i64 0, .int .i64 0, .slice none 0 0, .slice none 0 0]) Try.underlying87 (by kernel_rfl) rfl (by decide) (by decide)
end Go.Proofs.Ytgialedmbmfejaa
