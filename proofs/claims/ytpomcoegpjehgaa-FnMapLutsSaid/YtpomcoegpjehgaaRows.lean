/-
  No cell of these rows narrows 'for every input' (looked for: loops, veiled, ifaces, maps, wideKeys, modest, calm, conditions, laid).
  DERIVED. THE GIVEN ROWS OF THIS SEAT. 12 by the template 'for every input the law returns true; each argument reads behind the call as it read before'; 0 by the template 'total and deterministic' (their statements: YtpomcoegpjehgaaTotals.lean).
  GIVEN WITH THE SEED: the statements are not yours to turn. If you find one false, say at which input.
  Laid BY PROGRAM, IN A SANDBOX (cutbox-rows.mjs): the forced cells as the released guide's own fill.sh prints them over the translation a082ad03d3a493c6… (all of the seat's roots in one cut). By AI agents, Wed Nov 11 2026. No macro, syntax, notation, axiom, sorry.
-/
import Derived.Test.YtpomcoegpjehgaaChecked
import GoSem.Claim
import GoSem.ClaimJoined
import GoSem.ClaimMapViews
import Derived.JoinedTies
import Derived.KernelRfl
namespace Go.Proofs.Ytpomcoegpjehgaa
/- THE CELL 'sum', in the pinned program and in every row, IS THE sha256 OF THE DUMP (.gsa) THAT YtpomcoegpjehgaaProg.lean LOADS. Nothing in Lean hashes anything: it is a label: what it is worth is what the hold of that sum in a sandbox is worth. -/
noncomputable def Try.pinned : Pinned := { name := "ytpomcoegpjehgaa", sum := "a082ad03d3a493c6e77144ee8e708b42de7b2c41eacf11def95e4110a805dfff", checked := Try.checked }
namespace Rows
def none {H : Type} : Left H := { results := [], args := [] }

/-- 'laws.FnCuts': WHATEVER THE INPUT: true; the input reads as it did. -/
def fnCutsSpec : ChangeSpec := { name := "fnCuts", fn := fun _ => fun
  | [d] => { results := [.lit (.bool true)], args := [d] }
  | _ => none }
def fnCutsRow : OpenClaim := { program := "ytpomcoegpjehgaa", sum := "a082ad03d3a493c6e77144ee8e708b42de7b2c41eacf11def95e4110a805dfff", func := "loop.example/fpgatoolchain/laws.FnCuts", spec := "fnCuts", unfollowed := true, recurses := true, apart := false }
def FnCutsSaid : Prop := fnCutsRow.holds Try.pinned (OpenSpec.ofChange fnCutsSpec)

/-- ITS FALSE NEIGHBOUR: 'it returns false'. Refute it at one input. -/
def fnCutsWrong : ChangeSpec := { name := "fnCuts", fn := fun _ => fun
  | [d] => { results := [.lit (.bool false)], args := [d] }
  | _ => none }
def FnCutsWrongFalsely : Prop := fnCutsRow.holds Try.pinned (OpenSpec.ofChange fnCutsWrong)

/-- 'laws.FnExactMappedDepth': WHATEVER THE INPUT: true; the input reads as it did. -/
def fnExactMappedDepthSpec : ChangeSpec := { name := "fnExactMappedDepth", fn := fun _ => fun
  | [d] => { results := [.lit (.bool true)], args := [d] }
  | _ => none }
def fnExactMappedDepthRow : OpenClaim := { program := "ytpomcoegpjehgaa", sum := "a082ad03d3a493c6e77144ee8e708b42de7b2c41eacf11def95e4110a805dfff", func := "loop.example/fpgatoolchain/laws.FnExactMappedDepth", spec := "fnExactMappedDepth", unfollowed := true, recurses := true, apart := false }
def FnExactMappedDepthSaid : Prop := fnExactMappedDepthRow.holds Try.pinned (OpenSpec.ofChange fnExactMappedDepthSpec)

/-- ITS FALSE NEIGHBOUR: 'it returns false'. Refute it at one input. -/
def fnExactMappedDepthWrong : ChangeSpec := { name := "fnExactMappedDepth", fn := fun _ => fun
  | [d] => { results := [.lit (.bool false)], args := [d] }
  | _ => none }
def FnExactMappedDepthWrongFalsely : Prop := fnExactMappedDepthRow.holds Try.pinned (OpenSpec.ofChange fnExactMappedDepthWrong)

/-- 'laws.FnExactCuts': WHATEVER THE INPUT: true; the input reads as it did. -/
def fnExactCutsSpec : ChangeSpec := { name := "fnExactCuts", fn := fun _ => fun
  | [d] => { results := [.lit (.bool true)], args := [d] }
  | _ => none }
def fnExactCutsRow : OpenClaim := { program := "ytpomcoegpjehgaa", sum := "a082ad03d3a493c6e77144ee8e708b42de7b2c41eacf11def95e4110a805dfff", func := "loop.example/fpgatoolchain/laws.FnExactCuts", spec := "fnExactCuts", unfollowed := true, recurses := true, apart := false }
def FnExactCutsSaid : Prop := fnExactCutsRow.holds Try.pinned (OpenSpec.ofChange fnExactCutsSpec)

/-- ITS FALSE NEIGHBOUR: 'it returns false'. Refute it at one input. -/
def fnExactCutsWrong : ChangeSpec := { name := "fnExactCuts", fn := fun _ => fun
  | [d] => { results := [.lit (.bool false)], args := [d] }
  | _ => none }
def FnExactCutsWrongFalsely : Prop := fnExactCutsRow.holds Try.pinned (OpenSpec.ofChange fnExactCutsWrong)

/-- 'laws.FnMappedDepth': WHATEVER THE INPUT: true; the input reads as it did. -/
def fnMappedDepthSpec : ChangeSpec := { name := "fnMappedDepth", fn := fun _ => fun
  | [d] => { results := [.lit (.bool true)], args := [d] }
  | _ => none }
def fnMappedDepthRow : OpenClaim := { program := "ytpomcoegpjehgaa", sum := "a082ad03d3a493c6e77144ee8e708b42de7b2c41eacf11def95e4110a805dfff", func := "loop.example/fpgatoolchain/laws.FnMappedDepth", spec := "fnMappedDepth", unfollowed := true, recurses := true, apart := false }
def FnMappedDepthSaid : Prop := fnMappedDepthRow.holds Try.pinned (OpenSpec.ofChange fnMappedDepthSpec)

/-- ITS FALSE NEIGHBOUR: 'it returns false'. Refute it at one input. -/
def fnMappedDepthWrong : ChangeSpec := { name := "fnMappedDepth", fn := fun _ => fun
  | [d] => { results := [.lit (.bool false)], args := [d] }
  | _ => none }
def FnMappedDepthWrongFalsely : Prop := fnMappedDepthRow.holds Try.pinned (OpenSpec.ofChange fnMappedDepthWrong)

/-- 'laws.FnMapLuts': WHATEVER THE INPUT: true; the input reads as it did. -/
def fnMapLutsSpec : ChangeSpec := { name := "fnMapLuts", fn := fun _ => fun
  | [d] => { results := [.lit (.bool true)], args := [d] }
  | _ => none }
def fnMapLutsRow : OpenClaim := { program := "ytpomcoegpjehgaa", sum := "a082ad03d3a493c6e77144ee8e708b42de7b2c41eacf11def95e4110a805dfff", func := "loop.example/fpgatoolchain/laws.FnMapLuts", spec := "fnMapLuts", unfollowed := true, recurses := true, apart := false }
def FnMapLutsSaid : Prop := fnMapLutsRow.holds Try.pinned (OpenSpec.ofChange fnMapLutsSpec)

/-- ITS FALSE NEIGHBOUR: 'it returns false'. Refute it at one input. -/
def fnMapLutsWrong : ChangeSpec := { name := "fnMapLuts", fn := fun _ => fun
  | [d] => { results := [.lit (.bool false)], args := [d] }
  | _ => none }
def FnMapLutsWrongFalsely : Prop := fnMapLutsRow.holds Try.pinned (OpenSpec.ofChange fnMapLutsWrong)

/-- 'laws.FnPlacementValid': WHATEVER THE INPUT: true; the input reads as it did. -/
def fnPlacementValidSpec : ChangeSpec := { name := "fnPlacementValid", fn := fun _ => fun
  | [d] => { results := [.lit (.bool true)], args := [d] }
  | _ => none }
def fnPlacementValidRow : OpenClaim := { program := "ytpomcoegpjehgaa", sum := "a082ad03d3a493c6e77144ee8e708b42de7b2c41eacf11def95e4110a805dfff", func := "loop.example/fpgatoolchain/laws.FnPlacementValid", spec := "fnPlacementValid", unfollowed := true, recurses := true, apart := false }
def FnPlacementValidSaid : Prop := fnPlacementValidRow.holds Try.pinned (OpenSpec.ofChange fnPlacementValidSpec)

/-- ITS FALSE NEIGHBOUR: 'it returns false'. Refute it at one input. -/
def fnPlacementValidWrong : ChangeSpec := { name := "fnPlacementValid", fn := fun _ => fun
  | [d] => { results := [.lit (.bool false)], args := [d] }
  | _ => none }
def FnPlacementValidWrongFalsely : Prop := fnPlacementValidRow.holds Try.pinned (OpenSpec.ofChange fnPlacementValidWrong)

/-- 'laws.FnNetSinks': WHATEVER THE INPUT: true; the input reads as it did. -/
def fnNetSinksSpec : ChangeSpec := { name := "fnNetSinks", fn := fun _ => fun
  | [d] => { results := [.lit (.bool true)], args := [d] }
  | _ => none }
def fnNetSinksRow : OpenClaim := { program := "ytpomcoegpjehgaa", sum := "a082ad03d3a493c6e77144ee8e708b42de7b2c41eacf11def95e4110a805dfff", func := "loop.example/fpgatoolchain/laws.FnNetSinks", spec := "fnNetSinks", unfollowed := true, recurses := true, apart := false }
def FnNetSinksSaid : Prop := fnNetSinksRow.holds Try.pinned (OpenSpec.ofChange fnNetSinksSpec)

/-- ITS FALSE NEIGHBOUR: 'it returns false'. Refute it at one input. -/
def fnNetSinksWrong : ChangeSpec := { name := "fnNetSinks", fn := fun _ => fun
  | [d] => { results := [.lit (.bool false)], args := [d] }
  | _ => none }
def FnNetSinksWrongFalsely : Prop := fnNetSinksRow.holds Try.pinned (OpenSpec.ofChange fnNetSinksWrong)

/-- 'laws.FnExactPlacementValid': WHATEVER THE INPUT: true; the input reads as it did. -/
def fnExactPlacementValidSpec : ChangeSpec := { name := "fnExactPlacementValid", fn := fun _ => fun
  | [d1, d2] => { results := [.lit (.bool true)], args := [d1, d2] }
  | _ => none }
def fnExactPlacementValidRow : OpenClaim := { program := "ytpomcoegpjehgaa", sum := "a082ad03d3a493c6e77144ee8e708b42de7b2c41eacf11def95e4110a805dfff", func := "loop.example/fpgatoolchain/laws.FnExactPlacementValid", spec := "fnExactPlacementValid", unfollowed := true, recurses := true, apart := false }
def FnExactPlacementValidSaid : Prop := fnExactPlacementValidRow.holds Try.pinned (OpenSpec.ofChange fnExactPlacementValidSpec)

/-- ITS FALSE NEIGHBOUR: 'it returns false'. Refute it at one input. -/
def fnExactPlacementValidWrong : ChangeSpec := { name := "fnExactPlacementValid", fn := fun _ => fun
  | [d1, d2] => { results := [.lit (.bool false)], args := [d1, d2] }
  | _ => none }
def FnExactPlacementValidWrongFalsely : Prop := fnExactPlacementValidRow.holds Try.pinned (OpenSpec.ofChange fnExactPlacementValidWrong)

/-- 'laws.FnCells': WHATEVER THE INPUT: true; the input reads as it did. -/
def fnCellsSpec : ChangeSpec := { name := "fnCells", fn := fun _ => fun
  | [d] => { results := [.lit (.bool true)], args := [d] }
  | _ => none }
def fnCellsRow : OpenClaim := { program := "ytpomcoegpjehgaa", sum := "a082ad03d3a493c6e77144ee8e708b42de7b2c41eacf11def95e4110a805dfff", func := "loop.example/fpgatoolchain/laws.FnCells", spec := "fnCells", unfollowed := true, recurses := true, apart := false }
def FnCellsSaid : Prop := fnCellsRow.holds Try.pinned (OpenSpec.ofChange fnCellsSpec)

/-- ITS FALSE NEIGHBOUR: 'it returns false'. Refute it at one input. -/
def fnCellsWrong : ChangeSpec := { name := "fnCells", fn := fun _ => fun
  | [d] => { results := [.lit (.bool false)], args := [d] }
  | _ => none }
def FnCellsWrongFalsely : Prop := fnCellsRow.holds Try.pinned (OpenSpec.ofChange fnCellsWrong)

/-- 'laws.FnExactMapLuts': WHATEVER THE INPUT: true; the input reads as it did. -/
def fnExactMapLutsSpec : ChangeSpec := { name := "fnExactMapLuts", fn := fun _ => fun
  | [d] => { results := [.lit (.bool true)], args := [d] }
  | _ => none }
def fnExactMapLutsRow : OpenClaim := { program := "ytpomcoegpjehgaa", sum := "a082ad03d3a493c6e77144ee8e708b42de7b2c41eacf11def95e4110a805dfff", func := "loop.example/fpgatoolchain/laws.FnExactMapLuts", spec := "fnExactMapLuts", unfollowed := true, recurses := true, apart := false }
def FnExactMapLutsSaid : Prop := fnExactMapLutsRow.holds Try.pinned (OpenSpec.ofChange fnExactMapLutsSpec)

/-- ITS FALSE NEIGHBOUR: 'it returns false'. Refute it at one input. -/
def fnExactMapLutsWrong : ChangeSpec := { name := "fnExactMapLuts", fn := fun _ => fun
  | [d] => { results := [.lit (.bool false)], args := [d] }
  | _ => none }
def FnExactMapLutsWrongFalsely : Prop := fnExactMapLutsRow.holds Try.pinned (OpenSpec.ofChange fnExactMapLutsWrong)

/-- 'laws.FnExactNetSinks': WHATEVER THE INPUT: true; the input reads as it did. -/
def fnExactNetSinksSpec : ChangeSpec := { name := "fnExactNetSinks", fn := fun _ => fun
  | [d1, d2] => { results := [.lit (.bool true)], args := [d1, d2] }
  | _ => none }
def fnExactNetSinksRow : OpenClaim := { program := "ytpomcoegpjehgaa", sum := "a082ad03d3a493c6e77144ee8e708b42de7b2c41eacf11def95e4110a805dfff", func := "loop.example/fpgatoolchain/laws.FnExactNetSinks", spec := "fnExactNetSinks", unfollowed := true, recurses := true, apart := false }
def FnExactNetSinksSaid : Prop := fnExactNetSinksRow.holds Try.pinned (OpenSpec.ofChange fnExactNetSinksSpec)

/-- ITS FALSE NEIGHBOUR: 'it returns false'. Refute it at one input. -/
def fnExactNetSinksWrong : ChangeSpec := { name := "fnExactNetSinks", fn := fun _ => fun
  | [d1, d2] => { results := [.lit (.bool false)], args := [d1, d2] }
  | _ => none }
def FnExactNetSinksWrongFalsely : Prop := fnExactNetSinksRow.holds Try.pinned (OpenSpec.ofChange fnExactNetSinksWrong)

/-- 'laws.FnExactCells': WHATEVER THE INPUT: true; the input reads as it did. -/
def fnExactCellsSpec : ChangeSpec := { name := "fnExactCells", fn := fun _ => fun
  | [d] => { results := [.lit (.bool true)], args := [d] }
  | _ => none }
def fnExactCellsRow : OpenClaim := { program := "ytpomcoegpjehgaa", sum := "a082ad03d3a493c6e77144ee8e708b42de7b2c41eacf11def95e4110a805dfff", func := "loop.example/fpgatoolchain/laws.FnExactCells", spec := "fnExactCells", unfollowed := true, recurses := true, apart := false }
def FnExactCellsSaid : Prop := fnExactCellsRow.holds Try.pinned (OpenSpec.ofChange fnExactCellsSpec)

/-- ITS FALSE NEIGHBOUR: 'it returns false'. Refute it at one input. -/
def fnExactCellsWrong : ChangeSpec := { name := "fnExactCells", fn := fun _ => fun
  | [d] => { results := [.lit (.bool false)], args := [d] }
  | _ => none }
def FnExactCellsWrongFalsely : Prop := fnExactCellsRow.holds Try.pinned (OpenSpec.ofChange fnExactCellsWrong)

/- THE SECOND FORM. 'bulk': how many values and letters a reading holds, each counted each time it is reached (what is shared counts as often as it is met; a slice's spare places count too). A statement '..UptoSaid' is the law's where the arguments, and the package variables that the reading takes, are together of bulk at most 1048576: NARROWER than '..Said'. Prove '..Said' where nothing that the law and all that it calls make is longer than what came in: it says more and counts as full. Else prove '..UptoSaid'. A law counts once. -/
mutual
def uptoBulk {H : Type} : DataW H → Nat
  | .lit (.string bytes) => bytes.length + 1
  | .lit _ => 1
  | .nil => 1
  | .ptr d => uptoBulk d + 1
  | .slice elems spare => uptoBulkAll elems + uptoBulkAll spare + 1
  | .agg parts => uptoBulkAll parts + 1
  | .iface _ d => uptoBulk d + 1
  | .map entries => uptoBulkEntries entries + 1
  | .held _ => 1
def uptoBulkAll {H : Type} : List (DataW H) → Nat
  | [] => 0
  | d :: r => uptoBulk d + uptoBulkAll r
def uptoBulkEntries {H : Type} : List (Lit × DataW H) → Nat
  | [] => 0
  | x :: r => uptoBulkEntry x + uptoBulkEntries r
def uptoBulkEntry {H : Type} : Lit × DataW H → Nat
  | (.string bytes, d) => bytes.length + uptoBulk d + 1
  | (_, d) => uptoBulk d + 1
 end
def uptoSmall : (H : Type) → List (DataW H) → Bool := fun _ ds => decide (uptoBulkAll ds ≤ 1048576)
def OpenSpec.upto (s : _root_.Go.ChangeSpec) : _root_.Go.OpenSpec := { _root_.Go.OpenSpec.ofChange s with cond := some uptoSmall }

/-- 'laws.FnCuts', WHERE WHAT IT READS IS OF BULK AT MOST 1048576: true; the input reads as it did. -/
def fnCutsUptoRow : OpenClaim := { program := "ytpomcoegpjehgaa", sum := "a082ad03d3a493c6e77144ee8e708b42de7b2c41eacf11def95e4110a805dfff", func := "loop.example/fpgatoolchain/laws.FnCuts", spec := "fnCuts", unfollowed := true, recurses := true, apart := false, narrowed := true }
def FnCutsUptoSaid : Prop := fnCutsUptoRow.holds Try.pinned (OpenSpec.upto fnCutsSpec)

/-- 'laws.FnExactMappedDepth', WHERE WHAT IT READS IS OF BULK AT MOST 1048576: true; the input reads as it did. -/
def fnExactMappedDepthUptoRow : OpenClaim := { program := "ytpomcoegpjehgaa", sum := "a082ad03d3a493c6e77144ee8e708b42de7b2c41eacf11def95e4110a805dfff", func := "loop.example/fpgatoolchain/laws.FnExactMappedDepth", spec := "fnExactMappedDepth", unfollowed := true, recurses := true, apart := false, narrowed := true }
def FnExactMappedDepthUptoSaid : Prop := fnExactMappedDepthUptoRow.holds Try.pinned (OpenSpec.upto fnExactMappedDepthSpec)

/-- 'laws.FnExactCuts', WHERE WHAT IT READS IS OF BULK AT MOST 1048576: true; the input reads as it did. -/
def fnExactCutsUptoRow : OpenClaim := { program := "ytpomcoegpjehgaa", sum := "a082ad03d3a493c6e77144ee8e708b42de7b2c41eacf11def95e4110a805dfff", func := "loop.example/fpgatoolchain/laws.FnExactCuts", spec := "fnExactCuts", unfollowed := true, recurses := true, apart := false, narrowed := true }
def FnExactCutsUptoSaid : Prop := fnExactCutsUptoRow.holds Try.pinned (OpenSpec.upto fnExactCutsSpec)

/-- 'laws.FnMappedDepth', WHERE WHAT IT READS IS OF BULK AT MOST 1048576: true; the input reads as it did. -/
def fnMappedDepthUptoRow : OpenClaim := { program := "ytpomcoegpjehgaa", sum := "a082ad03d3a493c6e77144ee8e708b42de7b2c41eacf11def95e4110a805dfff", func := "loop.example/fpgatoolchain/laws.FnMappedDepth", spec := "fnMappedDepth", unfollowed := true, recurses := true, apart := false, narrowed := true }
def FnMappedDepthUptoSaid : Prop := fnMappedDepthUptoRow.holds Try.pinned (OpenSpec.upto fnMappedDepthSpec)

/-- 'laws.FnMapLuts', WHERE WHAT IT READS IS OF BULK AT MOST 1048576: true; the input reads as it did. -/
def fnMapLutsUptoRow : OpenClaim := { program := "ytpomcoegpjehgaa", sum := "a082ad03d3a493c6e77144ee8e708b42de7b2c41eacf11def95e4110a805dfff", func := "loop.example/fpgatoolchain/laws.FnMapLuts", spec := "fnMapLuts", unfollowed := true, recurses := true, apart := false, narrowed := true }
def FnMapLutsUptoSaid : Prop := fnMapLutsUptoRow.holds Try.pinned (OpenSpec.upto fnMapLutsSpec)

/-- 'laws.FnPlacementValid', WHERE WHAT IT READS IS OF BULK AT MOST 1048576: true; the input reads as it did. -/
def fnPlacementValidUptoRow : OpenClaim := { program := "ytpomcoegpjehgaa", sum := "a082ad03d3a493c6e77144ee8e708b42de7b2c41eacf11def95e4110a805dfff", func := "loop.example/fpgatoolchain/laws.FnPlacementValid", spec := "fnPlacementValid", unfollowed := true, recurses := true, apart := false, narrowed := true }
def FnPlacementValidUptoSaid : Prop := fnPlacementValidUptoRow.holds Try.pinned (OpenSpec.upto fnPlacementValidSpec)

/-- 'laws.FnNetSinks', WHERE WHAT IT READS IS OF BULK AT MOST 1048576: true; the input reads as it did. -/
def fnNetSinksUptoRow : OpenClaim := { program := "ytpomcoegpjehgaa", sum := "a082ad03d3a493c6e77144ee8e708b42de7b2c41eacf11def95e4110a805dfff", func := "loop.example/fpgatoolchain/laws.FnNetSinks", spec := "fnNetSinks", unfollowed := true, recurses := true, apart := false, narrowed := true }
def FnNetSinksUptoSaid : Prop := fnNetSinksUptoRow.holds Try.pinned (OpenSpec.upto fnNetSinksSpec)

/-- 'laws.FnExactPlacementValid', WHERE WHAT IT READS IS OF BULK AT MOST 1048576: true; the input reads as it did. -/
def fnExactPlacementValidUptoRow : OpenClaim := { program := "ytpomcoegpjehgaa", sum := "a082ad03d3a493c6e77144ee8e708b42de7b2c41eacf11def95e4110a805dfff", func := "loop.example/fpgatoolchain/laws.FnExactPlacementValid", spec := "fnExactPlacementValid", unfollowed := true, recurses := true, apart := false, narrowed := true }
def FnExactPlacementValidUptoSaid : Prop := fnExactPlacementValidUptoRow.holds Try.pinned (OpenSpec.upto fnExactPlacementValidSpec)

/-- 'laws.FnCells', WHERE WHAT IT READS IS OF BULK AT MOST 1048576: true; the input reads as it did. -/
def fnCellsUptoRow : OpenClaim := { program := "ytpomcoegpjehgaa", sum := "a082ad03d3a493c6e77144ee8e708b42de7b2c41eacf11def95e4110a805dfff", func := "loop.example/fpgatoolchain/laws.FnCells", spec := "fnCells", unfollowed := true, recurses := true, apart := false, narrowed := true }
def FnCellsUptoSaid : Prop := fnCellsUptoRow.holds Try.pinned (OpenSpec.upto fnCellsSpec)

/-- 'laws.FnExactMapLuts', WHERE WHAT IT READS IS OF BULK AT MOST 1048576: true; the input reads as it did. -/
def fnExactMapLutsUptoRow : OpenClaim := { program := "ytpomcoegpjehgaa", sum := "a082ad03d3a493c6e77144ee8e708b42de7b2c41eacf11def95e4110a805dfff", func := "loop.example/fpgatoolchain/laws.FnExactMapLuts", spec := "fnExactMapLuts", unfollowed := true, recurses := true, apart := false, narrowed := true }
def FnExactMapLutsUptoSaid : Prop := fnExactMapLutsUptoRow.holds Try.pinned (OpenSpec.upto fnExactMapLutsSpec)

/-- 'laws.FnExactNetSinks', WHERE WHAT IT READS IS OF BULK AT MOST 1048576: true; the input reads as it did. -/
def fnExactNetSinksUptoRow : OpenClaim := { program := "ytpomcoegpjehgaa", sum := "a082ad03d3a493c6e77144ee8e708b42de7b2c41eacf11def95e4110a805dfff", func := "loop.example/fpgatoolchain/laws.FnExactNetSinks", spec := "fnExactNetSinks", unfollowed := true, recurses := true, apart := false, narrowed := true }
def FnExactNetSinksUptoSaid : Prop := fnExactNetSinksUptoRow.holds Try.pinned (OpenSpec.upto fnExactNetSinksSpec)

/-- 'laws.FnExactCells', WHERE WHAT IT READS IS OF BULK AT MOST 1048576: true; the input reads as it did. -/
def fnExactCellsUptoRow : OpenClaim := { program := "ytpomcoegpjehgaa", sum := "a082ad03d3a493c6e77144ee8e708b42de7b2c41eacf11def95e4110a805dfff", func := "loop.example/fpgatoolchain/laws.FnExactCells", spec := "fnExactCells", unfollowed := true, recurses := true, apart := false, narrowed := true }
def FnExactCellsUptoSaid : Prop := fnExactCellsUptoRow.holds Try.pinned (OpenSpec.upto fnExactCellsSpec)

end Rows
end Go.Proofs.Ytpomcoegpjehgaa
