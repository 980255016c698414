/-
  No cell of these rows narrows 'for every input' (looked for: loops, veiled, ifaces, maps, wideKeys, modest, calm, conditions, laid).
  DERIVED. THE GIVEN ROWS OF THIS SEAT. 7 by the template 'for every input the law returns true; each argument reads behind the call as it read before'; 0 by the template 'total and deterministic' (their statements: YtpkbkcnpfigbgaaTotals.lean).
  GIVEN WITH THE SEED: the statements are not yours to turn. If you find one false, say at which input.
  Laid BY PROGRAM, IN A SANDBOX (cutbox-rows.mjs): the forced cells as the released guide's own fill.sh prints them over the translation 17e75339b1626c25… (all of the seat's roots in one cut). By AI agents, Wed Nov 11 2026. No macro, syntax, notation, axiom, sorry.
-/
import Derived.Test.YtpkbkcnpfigbgaaChecked
import GoSem.Claim
import GoSem.ClaimJoined
import GoSem.ClaimMapViews
import Derived.JoinedTies
import Derived.KernelRfl
namespace Go.Proofs.Ytpkbkcnpfigbgaa
/- THE CELL 'sum', in the pinned program and in every row, IS THE sha256 OF THE DUMP (.gsa) THAT YtpkbkcnpfigbgaaProg.lean LOADS. Nothing in Lean hashes anything: it is a label: what it is worth is what the hold of that sum in a sandbox is worth. -/
noncomputable def Try.pinned : Pinned := { name := "ytpkbkcnpfigbgaa", sum := "17e75339b1626c25d5ecb3105c237e06e094172e21ba08333a932c10c8793681", checked := Try.checked }
namespace Rows
def none {H : Type} : Left H := { results := [], args := [] }

/-- 'laws.FnExactEmptyConfig': WHATEVER THE INPUT: true; the input reads as it did. -/
def fnExactEmptyConfigSpec : ChangeSpec := { name := "fnExactEmptyConfig", fn := fun _ => fun
  | [] => { results := [.lit (.bool true)], args := [] }
  | _ => none }
def fnExactEmptyConfigRow : OpenClaim := { program := "ytpkbkcnpfigbgaa", sum := "17e75339b1626c25d5ecb3105c237e06e094172e21ba08333a932c10c8793681", func := "loop.example/fpgatoolchain/laws.FnExactEmptyConfig", spec := "fnExactEmptyConfig", plainKeys := false, apart := false }
def FnExactEmptyConfigSaid : Prop := fnExactEmptyConfigRow.holds Try.pinned (OpenSpec.ofChange fnExactEmptyConfigSpec)

/-- ITS FALSE NEIGHBOUR: 'it returns false'. Refute it at one input. -/
def fnExactEmptyConfigWrong : ChangeSpec := { name := "fnExactEmptyConfig", fn := fun _ => fun
  | [] => { results := [.lit (.bool false)], args := [] }
  | _ => none }
def FnExactEmptyConfigWrongFalsely : Prop := fnExactEmptyConfigRow.holds Try.pinned (OpenSpec.ofChange fnExactEmptyConfigWrong)

/-- 'laws.FnExactConfigValid': WHATEVER THE INPUT: true; the input reads as it did. -/
def fnExactConfigValidSpec : ChangeSpec := { name := "fnExactConfigValid", fn := fun _ => fun
  | [d] => { results := [.lit (.bool true)], args := [d] }
  | _ => none }
def fnExactConfigValidRow : OpenClaim := { program := "ytpkbkcnpfigbgaa", sum := "17e75339b1626c25d5ecb3105c237e06e094172e21ba08333a932c10c8793681", func := "loop.example/fpgatoolchain/laws.FnExactConfigValid", spec := "fnExactConfigValid", plainKeys := false, apart := false }
def FnExactConfigValidSaid : Prop := fnExactConfigValidRow.holds Try.pinned (OpenSpec.ofChange fnExactConfigValidSpec)

/-- ITS FALSE NEIGHBOUR: 'it returns false'. Refute it at one input. -/
def fnExactConfigValidWrong : ChangeSpec := { name := "fnExactConfigValid", fn := fun _ => fun
  | [d] => { results := [.lit (.bool false)], args := [d] }
  | _ => none }
def FnExactConfigValidWrongFalsely : Prop := fnExactConfigValidRow.holds Try.pinned (OpenSpec.ofChange fnExactConfigValidWrong)

/-- 'laws.FnUndetectable': WHATEVER THE INPUT: true; the input reads as it did. -/
def fnUndetectableSpec : ChangeSpec := { name := "fnUndetectable", fn := fun _ => fun
  | [d] => { results := [.lit (.bool true)], args := [d] }
  | _ => none }
def fnUndetectableRow : OpenClaim := { program := "ytpkbkcnpfigbgaa", sum := "17e75339b1626c25d5ecb3105c237e06e094172e21ba08333a932c10c8793681", func := "loop.example/fpgatoolchain/laws.FnUndetectable", spec := "fnUndetectable", plainKeys := false, apart := false }
def FnUndetectableSaid : Prop := fnUndetectableRow.holds Try.pinned (OpenSpec.ofChange fnUndetectableSpec)

/-- ITS FALSE NEIGHBOUR: 'it returns false'. Refute it at one input. -/
def fnUndetectableWrong : ChangeSpec := { name := "fnUndetectable", fn := fun _ => fun
  | [d] => { results := [.lit (.bool false)], args := [d] }
  | _ => none }
def FnUndetectableWrongFalsely : Prop := fnUndetectableRow.holds Try.pinned (OpenSpec.ofChange fnUndetectableWrong)

/-- 'laws.FnTestSet': WHATEVER THE INPUT: true; the input reads as it did. -/
def fnTestSetSpec : ChangeSpec := { name := "fnTestSet", fn := fun _ => fun
  | [d] => { results := [.lit (.bool true)], args := [d] }
  | _ => none }
def fnTestSetRow : OpenClaim := { program := "ytpkbkcnpfigbgaa", sum := "17e75339b1626c25d5ecb3105c237e06e094172e21ba08333a932c10c8793681", func := "loop.example/fpgatoolchain/laws.FnTestSet", spec := "fnTestSet", unfollowed := true, recurses := true, plainKeys := false, apart := false }
def FnTestSetSaid : Prop := fnTestSetRow.holds Try.pinned (OpenSpec.ofChange fnTestSetSpec)

/-- ITS FALSE NEIGHBOUR: 'it returns false'. Refute it at one input. -/
def fnTestSetWrong : ChangeSpec := { name := "fnTestSet", fn := fun _ => fun
  | [d] => { results := [.lit (.bool false)], args := [d] }
  | _ => none }
def FnTestSetWrongFalsely : Prop := fnTestSetRow.holds Try.pinned (OpenSpec.ofChange fnTestSetWrong)

/-- 'laws.FnExactFindDifference': WHATEVER THE INPUT: true; the input reads as it did. -/
def fnExactFindDifferenceSpec : ChangeSpec := { name := "fnExactFindDifference", fn := fun _ => fun
  | [d1, d2] => { results := [.lit (.bool true)], args := [d1, d2] }
  | _ => none }
def fnExactFindDifferenceRow : OpenClaim := { program := "ytpkbkcnpfigbgaa", sum := "17e75339b1626c25d5ecb3105c237e06e094172e21ba08333a932c10c8793681", func := "loop.example/fpgatoolchain/laws.FnExactFindDifference", spec := "fnExactFindDifference", plainKeys := false, apart := false }
def FnExactFindDifferenceSaid : Prop := fnExactFindDifferenceRow.holds Try.pinned (OpenSpec.ofChange fnExactFindDifferenceSpec)

/-- ITS FALSE NEIGHBOUR: 'it returns false'. Refute it at one input. -/
def fnExactFindDifferenceWrong : ChangeSpec := { name := "fnExactFindDifference", fn := fun _ => fun
  | [d1, d2] => { results := [.lit (.bool false)], args := [d1, d2] }
  | _ => none }
def FnExactFindDifferenceWrongFalsely : Prop := fnExactFindDifferenceRow.holds Try.pinned (OpenSpec.ofChange fnExactFindDifferenceWrong)

/-- 'laws.FnExactSimulate': WHATEVER THE INPUT: true; the input reads as it did. -/
def fnExactSimulateSpec : ChangeSpec := { name := "fnExactSimulate", fn := fun _ => fun
  | [d1, d2] => { results := [.lit (.bool true)], args := [d1, d2] }
  | _ => none }
def fnExactSimulateRow : OpenClaim := { program := "ytpkbkcnpfigbgaa", sum := "17e75339b1626c25d5ecb3105c237e06e094172e21ba08333a932c10c8793681", func := "loop.example/fpgatoolchain/laws.FnExactSimulate", spec := "fnExactSimulate", plainKeys := false, apart := false }
def FnExactSimulateSaid : Prop := fnExactSimulateRow.holds Try.pinned (OpenSpec.ofChange fnExactSimulateSpec)

/-- ITS FALSE NEIGHBOUR: 'it returns false'. Refute it at one input. -/
def fnExactSimulateWrong : ChangeSpec := { name := "fnExactSimulate", fn := fun _ => fun
  | [d1, d2] => { results := [.lit (.bool false)], args := [d1, d2] }
  | _ => none }
def FnExactSimulateWrongFalsely : Prop := fnExactSimulateRow.holds Try.pinned (OpenSpec.ofChange fnExactSimulateWrong)

/-- 'laws.FnExactOptimize': WHATEVER THE INPUT: true; the input reads as it did. -/
def fnExactOptimizeSpec : ChangeSpec := { name := "fnExactOptimize", fn := fun _ => fun
  | [d] => { results := [.lit (.bool true)], args := [d] }
  | _ => none }
def fnExactOptimizeRow : OpenClaim := { program := "ytpkbkcnpfigbgaa", sum := "17e75339b1626c25d5ecb3105c237e06e094172e21ba08333a932c10c8793681", func := "loop.example/fpgatoolchain/laws.FnExactOptimize", spec := "fnExactOptimize", unfollowed := true, recurses := true, plainKeys := false, apart := false }
def FnExactOptimizeSaid : Prop := fnExactOptimizeRow.holds Try.pinned (OpenSpec.ofChange fnExactOptimizeSpec)

/-- ITS FALSE NEIGHBOUR: 'it returns false'. Refute it at one input. -/
def fnExactOptimizeWrong : ChangeSpec := { name := "fnExactOptimize", fn := fun _ => fun
  | [d] => { results := [.lit (.bool false)], args := [d] }
  | _ => none }
def FnExactOptimizeWrongFalsely : Prop := fnExactOptimizeRow.holds Try.pinned (OpenSpec.ofChange fnExactOptimizeWrong)

/- THE SECOND FORM. 'bulk': how many values and letters a reading holds, each counted each time it is reached (what is shared counts as often as it is met; a slice's spare places count too). A statement '..UptoSaid' is the law's where the arguments, and the package variables that the reading takes, are together of bulk at most 1048576: NARROWER than '..Said'. Prove '..Said' where nothing that the law and all that it calls make is longer than what came in: it says more and counts as full. Else prove '..UptoSaid'. A law counts once. -/
mutual
def uptoBulk {H : Type} : DataW H → Nat
  | .lit (.string bytes) => bytes.length + 1
  | .lit _ => 1
  | .nil => 1
  | .ptr d => uptoBulk d + 1
  | .slice elems spare => uptoBulkAll elems + uptoBulkAll spare + 1
  | .agg parts => uptoBulkAll parts + 1
  | .iface _ d => uptoBulk d + 1
  | .map entries => uptoBulkEntries entries + 1
  | .held _ => 1
def uptoBulkAll {H : Type} : List (DataW H) → Nat
  | [] => 0
  | d :: r => uptoBulk d + uptoBulkAll r
def uptoBulkEntries {H : Type} : List (Lit × DataW H) → Nat
  | [] => 0
  | x :: r => uptoBulkEntry x + uptoBulkEntries r
def uptoBulkEntry {H : Type} : Lit × DataW H → Nat
  | (.string bytes, d) => bytes.length + uptoBulk d + 1
  | (_, d) => uptoBulk d + 1
 end
def uptoSmall : (H : Type) → List (DataW H) → Bool := fun _ ds => decide (uptoBulkAll ds ≤ 1048576)
def OpenSpec.upto (s : _root_.Go.ChangeSpec) : _root_.Go.OpenSpec := { _root_.Go.OpenSpec.ofChange s with cond := some uptoSmall }

/-- 'laws.FnExactEmptyConfig', WHERE WHAT IT READS IS OF BULK AT MOST 1048576: true; the input reads as it did. -/
def fnExactEmptyConfigUptoRow : OpenClaim := { program := "ytpkbkcnpfigbgaa", sum := "17e75339b1626c25d5ecb3105c237e06e094172e21ba08333a932c10c8793681", func := "loop.example/fpgatoolchain/laws.FnExactEmptyConfig", spec := "fnExactEmptyConfig", plainKeys := false, apart := false, narrowed := true }
def FnExactEmptyConfigUptoSaid : Prop := fnExactEmptyConfigUptoRow.holds Try.pinned (OpenSpec.upto fnExactEmptyConfigSpec)

/-- 'laws.FnExactConfigValid', WHERE WHAT IT READS IS OF BULK AT MOST 1048576: true; the input reads as it did. -/
def fnExactConfigValidUptoRow : OpenClaim := { program := "ytpkbkcnpfigbgaa", sum := "17e75339b1626c25d5ecb3105c237e06e094172e21ba08333a932c10c8793681", func := "loop.example/fpgatoolchain/laws.FnExactConfigValid", spec := "fnExactConfigValid", plainKeys := false, apart := false, narrowed := true }
def FnExactConfigValidUptoSaid : Prop := fnExactConfigValidUptoRow.holds Try.pinned (OpenSpec.upto fnExactConfigValidSpec)

/-- 'laws.FnUndetectable', WHERE WHAT IT READS IS OF BULK AT MOST 1048576: true; the input reads as it did. -/
def fnUndetectableUptoRow : OpenClaim := { program := "ytpkbkcnpfigbgaa", sum := "17e75339b1626c25d5ecb3105c237e06e094172e21ba08333a932c10c8793681", func := "loop.example/fpgatoolchain/laws.FnUndetectable", spec := "fnUndetectable", plainKeys := false, apart := false, narrowed := true }
def FnUndetectableUptoSaid : Prop := fnUndetectableUptoRow.holds Try.pinned (OpenSpec.upto fnUndetectableSpec)

/-- 'laws.FnTestSet', WHERE WHAT IT READS IS OF BULK AT MOST 1048576: true; the input reads as it did. -/
def fnTestSetUptoRow : OpenClaim := { program := "ytpkbkcnpfigbgaa", sum := "17e75339b1626c25d5ecb3105c237e06e094172e21ba08333a932c10c8793681", func := "loop.example/fpgatoolchain/laws.FnTestSet", spec := "fnTestSet", unfollowed := true, recurses := true, plainKeys := false, apart := false, narrowed := true }
def FnTestSetUptoSaid : Prop := fnTestSetUptoRow.holds Try.pinned (OpenSpec.upto fnTestSetSpec)

/-- 'laws.FnExactFindDifference', WHERE WHAT IT READS IS OF BULK AT MOST 1048576: true; the input reads as it did. -/
def fnExactFindDifferenceUptoRow : OpenClaim := { program := "ytpkbkcnpfigbgaa", sum := "17e75339b1626c25d5ecb3105c237e06e094172e21ba08333a932c10c8793681", func := "loop.example/fpgatoolchain/laws.FnExactFindDifference", spec := "fnExactFindDifference", plainKeys := false, apart := false, narrowed := true }
def FnExactFindDifferenceUptoSaid : Prop := fnExactFindDifferenceUptoRow.holds Try.pinned (OpenSpec.upto fnExactFindDifferenceSpec)

/-- 'laws.FnExactSimulate', WHERE WHAT IT READS IS OF BULK AT MOST 1048576: true; the input reads as it did. -/
def fnExactSimulateUptoRow : OpenClaim := { program := "ytpkbkcnpfigbgaa", sum := "17e75339b1626c25d5ecb3105c237e06e094172e21ba08333a932c10c8793681", func := "loop.example/fpgatoolchain/laws.FnExactSimulate", spec := "fnExactSimulate", plainKeys := false, apart := false, narrowed := true }
def FnExactSimulateUptoSaid : Prop := fnExactSimulateUptoRow.holds Try.pinned (OpenSpec.upto fnExactSimulateSpec)

/-- 'laws.FnExactOptimize', WHERE WHAT IT READS IS OF BULK AT MOST 1048576: true; the input reads as it did. -/
def fnExactOptimizeUptoRow : OpenClaim := { program := "ytpkbkcnpfigbgaa", sum := "17e75339b1626c25d5ecb3105c237e06e094172e21ba08333a932c10c8793681", func := "loop.example/fpgatoolchain/laws.FnExactOptimize", spec := "fnExactOptimize", unfollowed := true, recurses := true, plainKeys := false, apart := false, narrowed := true }
def FnExactOptimizeUptoSaid : Prop := fnExactOptimizeUptoRow.holds Try.pinned (OpenSpec.upto fnExactOptimizeSpec)

end Rows
end Go.Proofs.Ytpkbkcnpfigbgaa
