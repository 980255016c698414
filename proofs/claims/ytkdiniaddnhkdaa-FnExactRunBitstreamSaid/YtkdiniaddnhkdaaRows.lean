/-
  No cell of these rows narrows 'for every input' (looked for: loops, veiled, ifaces, maps, wideKeys, modest, calm, conditions, laid).
  DERIVED. THE GIVEN ROWS OF THIS SEAT. 9 by the template 'for every input the law returns true; each argument reads behind the call as it read before'; 0 by the template 'total and deterministic' (their statements: YtkdiniaddnhkdaaTotals.lean).
  GIVEN WITH THE SEED: the statements are not yours to turn. If you find one false, say at which input.
  Laid BY PROGRAM, IN A SANDBOX (cutbox-rows.mjs): the forced cells as the released guide's own fill.sh prints them over the translation 75d131ebdb7ea60e… (all of the seat's roots in one cut). By AI agents, Wed Nov 11 2026. No macro, syntax, notation, axiom, sorry.
-/
import Derived.Test.YtkdiniaddnhkdaaChecked
import GoSem.Claim
import GoSem.ClaimJoined
import GoSem.ClaimMapViews
import Derived.JoinedTies
import Derived.KernelRfl
namespace Go.Proofs.Ytkdiniaddnhkdaa
/- THE CELL 'sum', in the pinned program and in every row, IS THE sha256 OF THE DUMP (.gsa) THAT YtkdiniaddnhkdaaProg.lean LOADS. Nothing in Lean hashes anything: it is a label: what it is worth is what the hold of that sum in a sandbox is worth. -/
noncomputable def Try.pinned : Pinned := { name := "ytkdiniaddnhkdaa", sum := "75d131ebdb7ea60e4bcfc17e199f1324afee05f9de8732f9fd4527d582ade690", checked := Try.checked }
namespace Rows
def none {H : Type} : Left H := { results := [], args := [] }

/-- 'laws.FnExactEmptyConfig': WHATEVER THE INPUT: true; the input reads as it did. -/
def fnExactEmptyConfigSpec : ChangeSpec := { name := "fnExactEmptyConfig", fn := fun _ => fun
  | [] => { results := [.lit (.bool true)], args := [] }
  | _ => none }
def fnExactEmptyConfigRow : OpenClaim := { program := "ytkdiniaddnhkdaa", sum := "75d131ebdb7ea60e4bcfc17e199f1324afee05f9de8732f9fd4527d582ade690", func := "loop.example/fpgatoolchain/laws.FnExactEmptyConfig", spec := "fnExactEmptyConfig", plainKeys := false, apart := false }
def FnExactEmptyConfigSaid : Prop := fnExactEmptyConfigRow.holds Try.pinned (OpenSpec.ofChange fnExactEmptyConfigSpec)

/-- ITS FALSE NEIGHBOUR: 'it returns false'. Refute it at one input. -/
def fnExactEmptyConfigWrong : ChangeSpec := { name := "fnExactEmptyConfig", fn := fun _ => fun
  | [] => { results := [.lit (.bool false)], args := [] }
  | _ => none }
def FnExactEmptyConfigWrongFalsely : Prop := fnExactEmptyConfigRow.holds Try.pinned (OpenSpec.ofChange fnExactEmptyConfigWrong)

/-- 'laws.FnExactConfigValid': WHATEVER THE INPUT: true; the input reads as it did. -/
def fnExactConfigValidSpec : ChangeSpec := { name := "fnExactConfigValid", fn := fun _ => fun
  | [d] => { results := [.lit (.bool true)], args := [d] }
  | _ => none }
def fnExactConfigValidRow : OpenClaim := { program := "ytkdiniaddnhkdaa", sum := "75d131ebdb7ea60e4bcfc17e199f1324afee05f9de8732f9fd4527d582ade690", func := "loop.example/fpgatoolchain/laws.FnExactConfigValid", spec := "fnExactConfigValid", plainKeys := false, apart := false }
def FnExactConfigValidSaid : Prop := fnExactConfigValidRow.holds Try.pinned (OpenSpec.ofChange fnExactConfigValidSpec)

/-- ITS FALSE NEIGHBOUR: 'it returns false'. Refute it at one input. -/
def fnExactConfigValidWrong : ChangeSpec := { name := "fnExactConfigValid", fn := fun _ => fun
  | [d] => { results := [.lit (.bool false)], args := [d] }
  | _ => none }
def FnExactConfigValidWrongFalsely : Prop := fnExactConfigValidRow.holds Try.pinned (OpenSpec.ofChange fnExactConfigValidWrong)

/-- 'laws.FnTestSet': WHATEVER THE INPUT: true; the input reads as it did. -/
def fnTestSetSpec : ChangeSpec := { name := "fnTestSet", fn := fun _ => fun
  | [d] => { results := [.lit (.bool true)], args := [d] }
  | _ => none }
def fnTestSetRow : OpenClaim := { program := "ytkdiniaddnhkdaa", sum := "75d131ebdb7ea60e4bcfc17e199f1324afee05f9de8732f9fd4527d582ade690", func := "loop.example/fpgatoolchain/laws.FnTestSet", spec := "fnTestSet", unfollowed := true, recurses := true, plainKeys := false, apart := false }
def FnTestSetSaid : Prop := fnTestSetRow.holds Try.pinned (OpenSpec.ofChange fnTestSetSpec)

/-- ITS FALSE NEIGHBOUR: 'it returns false'. Refute it at one input. -/
def fnTestSetWrong : ChangeSpec := { name := "fnTestSet", fn := fun _ => fun
  | [d] => { results := [.lit (.bool false)], args := [d] }
  | _ => none }
def FnTestSetWrongFalsely : Prop := fnTestSetRow.holds Try.pinned (OpenSpec.ofChange fnTestSetWrong)

/-- 'laws.FnExactConfigAcyclic': WHATEVER THE INPUT: true; the input reads as it did. -/
def fnExactConfigAcyclicSpec : ChangeSpec := { name := "fnExactConfigAcyclic", fn := fun _ => fun
  | [d] => { results := [.lit (.bool true)], args := [d] }
  | _ => none }
def fnExactConfigAcyclicRow : OpenClaim := { program := "ytkdiniaddnhkdaa", sum := "75d131ebdb7ea60e4bcfc17e199f1324afee05f9de8732f9fd4527d582ade690", func := "loop.example/fpgatoolchain/laws.FnExactConfigAcyclic", spec := "fnExactConfigAcyclic", recurses := true, plainKeys := false, apart := false }
def FnExactConfigAcyclicSaid : Prop := fnExactConfigAcyclicRow.holds Try.pinned (OpenSpec.ofChange fnExactConfigAcyclicSpec)

/-- ITS FALSE NEIGHBOUR: 'it returns false'. Refute it at one input. -/
def fnExactConfigAcyclicWrong : ChangeSpec := { name := "fnExactConfigAcyclic", fn := fun _ => fun
  | [d] => { results := [.lit (.bool false)], args := [d] }
  | _ => none }
def FnExactConfigAcyclicWrongFalsely : Prop := fnExactConfigAcyclicRow.holds Try.pinned (OpenSpec.ofChange fnExactConfigAcyclicWrong)

/-- 'laws.FnExactEncodeConfig': WHATEVER THE INPUT: true; the input reads as it did. -/
def fnExactEncodeConfigSpec : ChangeSpec := { name := "fnExactEncodeConfig", fn := fun _ => fun
  | [d] => { results := [.lit (.bool true)], args := [d] }
  | _ => none }
def fnExactEncodeConfigRow : OpenClaim := { program := "ytkdiniaddnhkdaa", sum := "75d131ebdb7ea60e4bcfc17e199f1324afee05f9de8732f9fd4527d582ade690", func := "loop.example/fpgatoolchain/laws.FnExactEncodeConfig", spec := "fnExactEncodeConfig", plainKeys := false, apart := false }
def FnExactEncodeConfigSaid : Prop := fnExactEncodeConfigRow.holds Try.pinned (OpenSpec.ofChange fnExactEncodeConfigSpec)

/-- ITS FALSE NEIGHBOUR: 'it returns false'. Refute it at one input. -/
def fnExactEncodeConfigWrong : ChangeSpec := { name := "fnExactEncodeConfig", fn := fun _ => fun
  | [d] => { results := [.lit (.bool false)], args := [d] }
  | _ => none }
def FnExactEncodeConfigWrongFalsely : Prop := fnExactEncodeConfigRow.holds Try.pinned (OpenSpec.ofChange fnExactEncodeConfigWrong)

/-- 'laws.FnExactDecodeConfig': WHATEVER THE INPUT: true; the input reads as it did. -/
def fnExactDecodeConfigSpec : ChangeSpec := { name := "fnExactDecodeConfig", fn := fun _ => fun
  | [d] => { results := [.lit (.bool true)], args := [d] }
  | _ => none }
def fnExactDecodeConfigRow : OpenClaim := { program := "ytkdiniaddnhkdaa", sum := "75d131ebdb7ea60e4bcfc17e199f1324afee05f9de8732f9fd4527d582ade690", func := "loop.example/fpgatoolchain/laws.FnExactDecodeConfig", spec := "fnExactDecodeConfig", plainKeys := false, apart := false }
def FnExactDecodeConfigSaid : Prop := fnExactDecodeConfigRow.holds Try.pinned (OpenSpec.ofChange fnExactDecodeConfigSpec)

/-- ITS FALSE NEIGHBOUR: 'it returns false'. Refute it at one input. -/
def fnExactDecodeConfigWrong : ChangeSpec := { name := "fnExactDecodeConfig", fn := fun _ => fun
  | [d] => { results := [.lit (.bool false)], args := [d] }
  | _ => none }
def FnExactDecodeConfigWrongFalsely : Prop := fnExactDecodeConfigRow.holds Try.pinned (OpenSpec.ofChange fnExactDecodeConfigWrong)

/-- 'laws.FnExactStepFabric': WHATEVER THE INPUT: true; the input reads as it did. -/
def fnExactStepFabricSpec : ChangeSpec := { name := "fnExactStepFabric", fn := fun _ => fun
  | [d1, d2, d3] => { results := [.lit (.bool true)], args := [d1, d2, d3] }
  | _ => none }
def fnExactStepFabricRow : OpenClaim := { program := "ytkdiniaddnhkdaa", sum := "75d131ebdb7ea60e4bcfc17e199f1324afee05f9de8732f9fd4527d582ade690", func := "loop.example/fpgatoolchain/laws.FnExactStepFabric", spec := "fnExactStepFabric", recurses := true, plainKeys := false, apart := false }
def FnExactStepFabricSaid : Prop := fnExactStepFabricRow.holds Try.pinned (OpenSpec.ofChange fnExactStepFabricSpec)

/-- ITS FALSE NEIGHBOUR: 'it returns false'. Refute it at one input. -/
def fnExactStepFabricWrong : ChangeSpec := { name := "fnExactStepFabric", fn := fun _ => fun
  | [d1, d2, d3] => { results := [.lit (.bool false)], args := [d1, d2, d3] }
  | _ => none }
def FnExactStepFabricWrongFalsely : Prop := fnExactStepFabricRow.holds Try.pinned (OpenSpec.ofChange fnExactStepFabricWrong)

/-- 'laws.FnExactRunBitstream': WHATEVER THE INPUT: true; the input reads as it did. -/
def fnExactRunBitstreamSpec : ChangeSpec := { name := "fnExactRunBitstream", fn := fun _ => fun
  | [d1, d2] => { results := [.lit (.bool true)], args := [d1, d2] }
  | _ => none }
def fnExactRunBitstreamRow : OpenClaim := { program := "ytkdiniaddnhkdaa", sum := "75d131ebdb7ea60e4bcfc17e199f1324afee05f9de8732f9fd4527d582ade690", func := "loop.example/fpgatoolchain/laws.FnExactRunBitstream", spec := "fnExactRunBitstream", recurses := true, plainKeys := false, apart := false }
def FnExactRunBitstreamSaid : Prop := fnExactRunBitstreamRow.holds Try.pinned (OpenSpec.ofChange fnExactRunBitstreamSpec)

/-- ITS FALSE NEIGHBOUR: 'it returns false'. Refute it at one input. -/
def fnExactRunBitstreamWrong : ChangeSpec := { name := "fnExactRunBitstream", fn := fun _ => fun
  | [d1, d2] => { results := [.lit (.bool false)], args := [d1, d2] }
  | _ => none }
def FnExactRunBitstreamWrongFalsely : Prop := fnExactRunBitstreamRow.holds Try.pinned (OpenSpec.ofChange fnExactRunBitstreamWrong)

/-- 'laws.FnExactRunFabric': WHATEVER THE INPUT: true; the input reads as it did. -/
def fnExactRunFabricSpec : ChangeSpec := { name := "fnExactRunFabric", fn := fun _ => fun
  | [d1, d2] => { results := [.lit (.bool true)], args := [d1, d2] }
  | _ => none }
def fnExactRunFabricRow : OpenClaim := { program := "ytkdiniaddnhkdaa", sum := "75d131ebdb7ea60e4bcfc17e199f1324afee05f9de8732f9fd4527d582ade690", func := "loop.example/fpgatoolchain/laws.FnExactRunFabric", spec := "fnExactRunFabric", recurses := true, plainKeys := false, apart := false }
def FnExactRunFabricSaid : Prop := fnExactRunFabricRow.holds Try.pinned (OpenSpec.ofChange fnExactRunFabricSpec)

/-- ITS FALSE NEIGHBOUR: 'it returns false'. Refute it at one input. -/
def fnExactRunFabricWrong : ChangeSpec := { name := "fnExactRunFabric", fn := fun _ => fun
  | [d1, d2] => { results := [.lit (.bool false)], args := [d1, d2] }
  | _ => none }
def FnExactRunFabricWrongFalsely : Prop := fnExactRunFabricRow.holds Try.pinned (OpenSpec.ofChange fnExactRunFabricWrong)

/- THE SECOND FORM. 'bulk': how many values and letters a reading holds, each counted each time it is reached (what is shared counts as often as it is met; a slice's spare places count too). A statement '..UptoSaid' is the law's where the arguments, and the package variables that the reading takes, are together of bulk at most 1048576: NARROWER than '..Said'. Prove '..Said' where nothing that the law and all that it calls make is longer than what came in: it says more and counts as full. Else prove '..UptoSaid'. A law counts once. -/
mutual
def uptoBulk {H : Type} : DataW H → Nat
  | .lit (.string bytes) => bytes.length + 1
  | .lit _ => 1
  | .nil => 1
  | .ptr d => uptoBulk d + 1
  | .slice elems spare => uptoBulkAll elems + uptoBulkAll spare + 1
  | .agg parts => uptoBulkAll parts + 1
  | .iface _ d => uptoBulk d + 1
  | .map entries => uptoBulkEntries entries + 1
  | .held _ => 1
def uptoBulkAll {H : Type} : List (DataW H) → Nat
  | [] => 0
  | d :: r => uptoBulk d + uptoBulkAll r
def uptoBulkEntries {H : Type} : List (Lit × DataW H) → Nat
  | [] => 0
  | x :: r => uptoBulkEntry x + uptoBulkEntries r
def uptoBulkEntry {H : Type} : Lit × DataW H → Nat
  | (.string bytes, d) => bytes.length + uptoBulk d + 1
  | (_, d) => uptoBulk d + 1
 end
def uptoSmall : (H : Type) → List (DataW H) → Bool := fun _ ds => decide (uptoBulkAll ds ≤ 1048576)
def OpenSpec.upto (s : _root_.Go.ChangeSpec) : _root_.Go.OpenSpec := { _root_.Go.OpenSpec.ofChange s with cond := some uptoSmall }

/-- 'laws.FnExactEmptyConfig', WHERE WHAT IT READS IS OF BULK AT MOST 1048576: true; the input reads as it did. -/
def fnExactEmptyConfigUptoRow : OpenClaim := { program := "ytkdiniaddnhkdaa", sum := "75d131ebdb7ea60e4bcfc17e199f1324afee05f9de8732f9fd4527d582ade690", func := "loop.example/fpgatoolchain/laws.FnExactEmptyConfig", spec := "fnExactEmptyConfig", plainKeys := false, apart := false, narrowed := true }
def FnExactEmptyConfigUptoSaid : Prop := fnExactEmptyConfigUptoRow.holds Try.pinned (OpenSpec.upto fnExactEmptyConfigSpec)

/-- 'laws.FnExactConfigValid', WHERE WHAT IT READS IS OF BULK AT MOST 1048576: true; the input reads as it did. -/
def fnExactConfigValidUptoRow : OpenClaim := { program := "ytkdiniaddnhkdaa", sum := "75d131ebdb7ea60e4bcfc17e199f1324afee05f9de8732f9fd4527d582ade690", func := "loop.example/fpgatoolchain/laws.FnExactConfigValid", spec := "fnExactConfigValid", plainKeys := false, apart := false, narrowed := true }
def FnExactConfigValidUptoSaid : Prop := fnExactConfigValidUptoRow.holds Try.pinned (OpenSpec.upto fnExactConfigValidSpec)

/-- 'laws.FnTestSet', WHERE WHAT IT READS IS OF BULK AT MOST 1048576: true; the input reads as it did. -/
def fnTestSetUptoRow : OpenClaim := { program := "ytkdiniaddnhkdaa", sum := "75d131ebdb7ea60e4bcfc17e199f1324afee05f9de8732f9fd4527d582ade690", func := "loop.example/fpgatoolchain/laws.FnTestSet", spec := "fnTestSet", unfollowed := true, recurses := true, plainKeys := false, apart := false, narrowed := true }
def FnTestSetUptoSaid : Prop := fnTestSetUptoRow.holds Try.pinned (OpenSpec.upto fnTestSetSpec)

/-- 'laws.FnExactConfigAcyclic', WHERE WHAT IT READS IS OF BULK AT MOST 1048576: true; the input reads as it did. -/
def fnExactConfigAcyclicUptoRow : OpenClaim := { program := "ytkdiniaddnhkdaa", sum := "75d131ebdb7ea60e4bcfc17e199f1324afee05f9de8732f9fd4527d582ade690", func := "loop.example/fpgatoolchain/laws.FnExactConfigAcyclic", spec := "fnExactConfigAcyclic", recurses := true, plainKeys := false, apart := false, narrowed := true }
def FnExactConfigAcyclicUptoSaid : Prop := fnExactConfigAcyclicUptoRow.holds Try.pinned (OpenSpec.upto fnExactConfigAcyclicSpec)

/-- 'laws.FnExactEncodeConfig', WHERE WHAT IT READS IS OF BULK AT MOST 1048576: true; the input reads as it did. -/
def fnExactEncodeConfigUptoRow : OpenClaim := { program := "ytkdiniaddnhkdaa", sum := "75d131ebdb7ea60e4bcfc17e199f1324afee05f9de8732f9fd4527d582ade690", func := "loop.example/fpgatoolchain/laws.FnExactEncodeConfig", spec := "fnExactEncodeConfig", plainKeys := false, apart := false, narrowed := true }
def FnExactEncodeConfigUptoSaid : Prop := fnExactEncodeConfigUptoRow.holds Try.pinned (OpenSpec.upto fnExactEncodeConfigSpec)

/-- 'laws.FnExactDecodeConfig', WHERE WHAT IT READS IS OF BULK AT MOST 1048576: true; the input reads as it did. -/
def fnExactDecodeConfigUptoRow : OpenClaim := { program := "ytkdiniaddnhkdaa", sum := "75d131ebdb7ea60e4bcfc17e199f1324afee05f9de8732f9fd4527d582ade690", func := "loop.example/fpgatoolchain/laws.FnExactDecodeConfig", spec := "fnExactDecodeConfig", plainKeys := false, apart := false, narrowed := true }
def FnExactDecodeConfigUptoSaid : Prop := fnExactDecodeConfigUptoRow.holds Try.pinned (OpenSpec.upto fnExactDecodeConfigSpec)

/-- 'laws.FnExactStepFabric', WHERE WHAT IT READS IS OF BULK AT MOST 1048576: true; the input reads as it did. -/
def fnExactStepFabricUptoRow : OpenClaim := { program := "ytkdiniaddnhkdaa", sum := "75d131ebdb7ea60e4bcfc17e199f1324afee05f9de8732f9fd4527d582ade690", func := "loop.example/fpgatoolchain/laws.FnExactStepFabric", spec := "fnExactStepFabric", recurses := true, plainKeys := false, apart := false, narrowed := true }
def FnExactStepFabricUptoSaid : Prop := fnExactStepFabricUptoRow.holds Try.pinned (OpenSpec.upto fnExactStepFabricSpec)

/-- 'laws.FnExactRunBitstream', WHERE WHAT IT READS IS OF BULK AT MOST 1048576: true; the input reads as it did. -/
def fnExactRunBitstreamUptoRow : OpenClaim := { program := "ytkdiniaddnhkdaa", sum := "75d131ebdb7ea60e4bcfc17e199f1324afee05f9de8732f9fd4527d582ade690", func := "loop.example/fpgatoolchain/laws.FnExactRunBitstream", spec := "fnExactRunBitstream", recurses := true, plainKeys := false, apart := false, narrowed := true }
def FnExactRunBitstreamUptoSaid : Prop := fnExactRunBitstreamUptoRow.holds Try.pinned (OpenSpec.upto fnExactRunBitstreamSpec)

/-- 'laws.FnExactRunFabric', WHERE WHAT IT READS IS OF BULK AT MOST 1048576: true; the input reads as it did. -/
def fnExactRunFabricUptoRow : OpenClaim := { program := "ytkdiniaddnhkdaa", sum := "75d131ebdb7ea60e4bcfc17e199f1324afee05f9de8732f9fd4527d582ade690", func := "loop.example/fpgatoolchain/laws.FnExactRunFabric", spec := "fnExactRunFabric", recurses := true, plainKeys := false, apart := false, narrowed := true }
def FnExactRunFabricUptoSaid : Prop := fnExactRunFabricUptoRow.holds Try.pinned (OpenSpec.upto fnExactRunFabricSpec)

end Rows
end Go.Proofs.Ytkdiniaddnhkdaa
