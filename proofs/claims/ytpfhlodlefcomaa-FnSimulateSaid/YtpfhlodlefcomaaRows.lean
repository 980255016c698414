/-
  No cell of these rows narrows 'for every input' (looked for: loops, veiled, ifaces, maps, wideKeys, modest, calm, conditions, laid).
  DERIVED. THE GIVEN ROWS OF THIS SEAT. 8 by the template 'for every input the law returns true; each argument reads behind the call as it read before'; 0 by the template 'total and deterministic' (their statements: YtpfhlodlefcomaaTotals.lean).
  GIVEN WITH THE SEED: the statements are not yours to turn. If you find one false, say at which input.
  Laid BY PROGRAM, IN A SANDBOX (cutbox-rows.mjs): the forced cells as the released guide's own fill.sh prints them over the translation 3197928582ff6f11… (all of the seat's roots in one cut). By AI agents, Wed Nov 11 2026. No macro, syntax, notation, axiom, sorry.
-/
import Derived.Test.YtpfhlodlefcomaaChecked
import GoSem.Claim
import GoSem.ClaimJoined
import GoSem.ClaimMapViews
import Derived.JoinedTies
import Derived.KernelRfl
namespace Go.Proofs.Ytpfhlodlefcomaa
/- THE CELL 'sum', in the pinned program and in every row, IS THE sha256 OF THE DUMP (.gsa) THAT YtpfhlodlefcomaaProg.lean LOADS. Nothing in Lean hashes anything: it is a label: what it is worth is what the hold of that sum in a sandbox is worth. -/
noncomputable def Try.pinned : Pinned := { name := "ytpfhlodlefcomaa", sum := "3197928582ff6f1128b38d09d2744dfa745aad5816efaaa7db56624bdce88bfb", checked := Try.checked }
namespace Rows
def none {H : Type} : Left H := { results := [], args := [] }

/-- 'laws.FnSameInterface': WHATEVER THE INPUT: true; the input reads as it did. -/
def fnSameInterfaceSpec : ChangeSpec := { name := "fnSameInterface", fn := fun _ => fun
  | [d] => { results := [.lit (.bool true)], args := [d] }
  | _ => none }
def fnSameInterfaceRow : OpenClaim := { program := "ytpfhlodlefcomaa", sum := "3197928582ff6f1128b38d09d2744dfa745aad5816efaaa7db56624bdce88bfb", func := "loop.example/fpgatoolchain/laws.FnSameInterface", spec := "fnSameInterface", plainKeys := false, apart := false }
def FnSameInterfaceSaid : Prop := fnSameInterfaceRow.holds Try.pinned (OpenSpec.ofChange fnSameInterfaceSpec)

/-- ITS FALSE NEIGHBOUR: 'it returns false'. Refute it at one input. -/
def fnSameInterfaceWrong : ChangeSpec := { name := "fnSameInterface", fn := fun _ => fun
  | [d] => { results := [.lit (.bool false)], args := [d] }
  | _ => none }
def FnSameInterfaceWrongFalsely : Prop := fnSameInterfaceRow.holds Try.pinned (OpenSpec.ofChange fnSameInterfaceWrong)

/-- 'laws.FnSimulate': WHATEVER THE INPUT: true; the input reads as it did. -/
def fnSimulateSpec : ChangeSpec := { name := "fnSimulate", fn := fun _ => fun
  | [d] => { results := [.lit (.bool true)], args := [d] }
  | _ => none }
def fnSimulateRow : OpenClaim := { program := "ytpfhlodlefcomaa", sum := "3197928582ff6f1128b38d09d2744dfa745aad5816efaaa7db56624bdce88bfb", func := "loop.example/fpgatoolchain/laws.FnSimulate", spec := "fnSimulate", plainKeys := false, apart := false }
def FnSimulateSaid : Prop := fnSimulateRow.holds Try.pinned (OpenSpec.ofChange fnSimulateSpec)

/-- ITS FALSE NEIGHBOUR: 'it returns false'. Refute it at one input. -/
def fnSimulateWrong : ChangeSpec := { name := "fnSimulate", fn := fun _ => fun
  | [d] => { results := [.lit (.bool false)], args := [d] }
  | _ => none }
def FnSimulateWrongFalsely : Prop := fnSimulateRow.holds Try.pinned (OpenSpec.ofChange fnSimulateWrong)

/-- 'laws.FnOptimizeForm': WHATEVER THE INPUT: true; the input reads as it did. -/
def fnOptimizeFormSpec : ChangeSpec := { name := "fnOptimizeForm", fn := fun _ => fun
  | [d] => { results := [.lit (.bool true)], args := [d] }
  | _ => none }
def fnOptimizeFormRow : OpenClaim := { program := "ytpfhlodlefcomaa", sum := "3197928582ff6f1128b38d09d2744dfa745aad5816efaaa7db56624bdce88bfb", func := "loop.example/fpgatoolchain/laws.FnOptimizeForm", spec := "fnOptimizeForm", unfollowed := true, recurses := true, plainKeys := false, apart := false }
def FnOptimizeFormSaid : Prop := fnOptimizeFormRow.holds Try.pinned (OpenSpec.ofChange fnOptimizeFormSpec)

/-- ITS FALSE NEIGHBOUR: 'it returns false'. Refute it at one input. -/
def fnOptimizeFormWrong : ChangeSpec := { name := "fnOptimizeForm", fn := fun _ => fun
  | [d] => { results := [.lit (.bool false)], args := [d] }
  | _ => none }
def FnOptimizeFormWrongFalsely : Prop := fnOptimizeFormRow.holds Try.pinned (OpenSpec.ofChange fnOptimizeFormWrong)

/-- 'laws.FnOptimizeSmall': WHATEVER THE INPUT: true; the input reads as it did. -/
def fnOptimizeSmallSpec : ChangeSpec := { name := "fnOptimizeSmall", fn := fun _ => fun
  | [d] => { results := [.lit (.bool true)], args := [d] }
  | _ => none }
def fnOptimizeSmallRow : OpenClaim := { program := "ytpfhlodlefcomaa", sum := "3197928582ff6f1128b38d09d2744dfa745aad5816efaaa7db56624bdce88bfb", func := "loop.example/fpgatoolchain/laws.FnOptimizeSmall", spec := "fnOptimizeSmall", unfollowed := true, recurses := true, plainKeys := false, apart := false }
def FnOptimizeSmallSaid : Prop := fnOptimizeSmallRow.holds Try.pinned (OpenSpec.ofChange fnOptimizeSmallSpec)

/-- ITS FALSE NEIGHBOUR: 'it returns false'. Refute it at one input. -/
def fnOptimizeSmallWrong : ChangeSpec := { name := "fnOptimizeSmall", fn := fun _ => fun
  | [d] => { results := [.lit (.bool false)], args := [d] }
  | _ => none }
def FnOptimizeSmallWrongFalsely : Prop := fnOptimizeSmallRow.holds Try.pinned (OpenSpec.ofChange fnOptimizeSmallWrong)

/-- 'laws.FnFindDifference': WHATEVER THE INPUT: true; the input reads as it did. -/
def fnFindDifferenceSpec : ChangeSpec := { name := "fnFindDifference", fn := fun _ => fun
  | [d] => { results := [.lit (.bool true)], args := [d] }
  | _ => none }
def fnFindDifferenceRow : OpenClaim := { program := "ytpfhlodlefcomaa", sum := "3197928582ff6f1128b38d09d2744dfa745aad5816efaaa7db56624bdce88bfb", func := "loop.example/fpgatoolchain/laws.FnFindDifference", spec := "fnFindDifference", plainKeys := false, apart := false }
def FnFindDifferenceSaid : Prop := fnFindDifferenceRow.holds Try.pinned (OpenSpec.ofChange fnFindDifferenceSpec)

/-- ITS FALSE NEIGHBOUR: 'it returns false'. Refute it at one input. -/
def fnFindDifferenceWrong : ChangeSpec := { name := "fnFindDifference", fn := fun _ => fun
  | [d] => { results := [.lit (.bool false)], args := [d] }
  | _ => none }
def FnFindDifferenceWrongFalsely : Prop := fnFindDifferenceRow.holds Try.pinned (OpenSpec.ofChange fnFindDifferenceWrong)

/-- 'laws.FnEquivalentRuns': WHATEVER THE INPUT: true; the input reads as it did. -/
def fnEquivalentRunsSpec : ChangeSpec := { name := "fnEquivalentRuns", fn := fun _ => fun
  | [d1, d2] => { results := [.lit (.bool true)], args := [d1, d2] }
  | _ => none }
def fnEquivalentRunsRow : OpenClaim := { program := "ytpfhlodlefcomaa", sum := "3197928582ff6f1128b38d09d2744dfa745aad5816efaaa7db56624bdce88bfb", func := "loop.example/fpgatoolchain/laws.FnEquivalentRuns", spec := "fnEquivalentRuns", plainKeys := false, apart := false }
def FnEquivalentRunsSaid : Prop := fnEquivalentRunsRow.holds Try.pinned (OpenSpec.ofChange fnEquivalentRunsSpec)

/-- ITS FALSE NEIGHBOUR: 'it returns false'. Refute it at one input. -/
def fnEquivalentRunsWrong : ChangeSpec := { name := "fnEquivalentRuns", fn := fun _ => fun
  | [d1, d2] => { results := [.lit (.bool false)], args := [d1, d2] }
  | _ => none }
def FnEquivalentRunsWrongFalsely : Prop := fnEquivalentRunsRow.holds Try.pinned (OpenSpec.ofChange fnEquivalentRunsWrong)

/-- 'laws.FnOptimize': WHATEVER THE INPUT: true; the input reads as it did. -/
def fnOptimizeSpec : ChangeSpec := { name := "fnOptimize", fn := fun _ => fun
  | [d] => { results := [.lit (.bool true)], args := [d] }
  | _ => none }
def fnOptimizeRow : OpenClaim := { program := "ytpfhlodlefcomaa", sum := "3197928582ff6f1128b38d09d2744dfa745aad5816efaaa7db56624bdce88bfb", func := "loop.example/fpgatoolchain/laws.FnOptimize", spec := "fnOptimize", unfollowed := true, recurses := true, plainKeys := false, apart := false }
def FnOptimizeSaid : Prop := fnOptimizeRow.holds Try.pinned (OpenSpec.ofChange fnOptimizeSpec)

/-- ITS FALSE NEIGHBOUR: 'it returns false'. Refute it at one input. -/
def fnOptimizeWrong : ChangeSpec := { name := "fnOptimize", fn := fun _ => fun
  | [d] => { results := [.lit (.bool false)], args := [d] }
  | _ => none }
def FnOptimizeWrongFalsely : Prop := fnOptimizeRow.holds Try.pinned (OpenSpec.ofChange fnOptimizeWrong)

/-- 'laws.FnEquivalent': WHATEVER THE INPUT: true; the input reads as it did. -/
def fnEquivalentSpec : ChangeSpec := { name := "fnEquivalent", fn := fun _ => fun
  | [d] => { results := [.lit (.bool true)], args := [d] }
  | _ => none }
def fnEquivalentRow : OpenClaim := { program := "ytpfhlodlefcomaa", sum := "3197928582ff6f1128b38d09d2744dfa745aad5816efaaa7db56624bdce88bfb", func := "loop.example/fpgatoolchain/laws.FnEquivalent", spec := "fnEquivalent", unfollowed := true, recurses := true, plainKeys := false, apart := false }
def FnEquivalentSaid : Prop := fnEquivalentRow.holds Try.pinned (OpenSpec.ofChange fnEquivalentSpec)

/-- ITS FALSE NEIGHBOUR: 'it returns false'. Refute it at one input. -/
def fnEquivalentWrong : ChangeSpec := { name := "fnEquivalent", fn := fun _ => fun
  | [d] => { results := [.lit (.bool false)], args := [d] }
  | _ => none }
def FnEquivalentWrongFalsely : Prop := fnEquivalentRow.holds Try.pinned (OpenSpec.ofChange fnEquivalentWrong)

/- THE SECOND FORM. 'bulk': how many values and letters a reading holds, each counted each time it is reached (what is shared counts as often as it is met; a slice's spare places count too). A statement '..UptoSaid' is the law's where the arguments, and the package variables that the reading takes, are together of bulk at most 1048576: NARROWER than '..Said'. Prove '..Said' where nothing that the law and all that it calls make is longer than what came in: it says more and counts as full. Else prove '..UptoSaid'. A law counts once. -/
mutual
def uptoBulk {H : Type} : DataW H → Nat
  | .lit (.string bytes) => bytes.length + 1
  | .lit _ => 1
  | .nil => 1
  | .ptr d => uptoBulk d + 1
  | .slice elems spare => uptoBulkAll elems + uptoBulkAll spare + 1
  | .agg parts => uptoBulkAll parts + 1
  | .iface _ d => uptoBulk d + 1
  | .map entries => uptoBulkEntries entries + 1
  | .held _ => 1
def uptoBulkAll {H : Type} : List (DataW H) → Nat
  | [] => 0
  | d :: r => uptoBulk d + uptoBulkAll r
def uptoBulkEntries {H : Type} : List (Lit × DataW H) → Nat
  | [] => 0
  | x :: r => uptoBulkEntry x + uptoBulkEntries r
def uptoBulkEntry {H : Type} : Lit × DataW H → Nat
  | (.string bytes, d) => bytes.length + uptoBulk d + 1
  | (_, d) => uptoBulk d + 1
 end
def uptoSmall : (H : Type) → List (DataW H) → Bool := fun _ ds => decide (uptoBulkAll ds ≤ 1048576)
def OpenSpec.upto (s : _root_.Go.ChangeSpec) : _root_.Go.OpenSpec := { _root_.Go.OpenSpec.ofChange s with cond := some uptoSmall }

/-- 'laws.FnSameInterface', WHERE WHAT IT READS IS OF BULK AT MOST 1048576: true; the input reads as it did. -/
def fnSameInterfaceUptoRow : OpenClaim := { program := "ytpfhlodlefcomaa", sum := "3197928582ff6f1128b38d09d2744dfa745aad5816efaaa7db56624bdce88bfb", func := "loop.example/fpgatoolchain/laws.FnSameInterface", spec := "fnSameInterface", plainKeys := false, apart := false, narrowed := true }
def FnSameInterfaceUptoSaid : Prop := fnSameInterfaceUptoRow.holds Try.pinned (OpenSpec.upto fnSameInterfaceSpec)

/-- 'laws.FnSimulate', WHERE WHAT IT READS IS OF BULK AT MOST 1048576: true; the input reads as it did. -/
def fnSimulateUptoRow : OpenClaim := { program := "ytpfhlodlefcomaa", sum := "3197928582ff6f1128b38d09d2744dfa745aad5816efaaa7db56624bdce88bfb", func := "loop.example/fpgatoolchain/laws.FnSimulate", spec := "fnSimulate", plainKeys := false, apart := false, narrowed := true }
def FnSimulateUptoSaid : Prop := fnSimulateUptoRow.holds Try.pinned (OpenSpec.upto fnSimulateSpec)

/-- 'laws.FnOptimizeForm', WHERE WHAT IT READS IS OF BULK AT MOST 1048576: true; the input reads as it did. -/
def fnOptimizeFormUptoRow : OpenClaim := { program := "ytpfhlodlefcomaa", sum := "3197928582ff6f1128b38d09d2744dfa745aad5816efaaa7db56624bdce88bfb", func := "loop.example/fpgatoolchain/laws.FnOptimizeForm", spec := "fnOptimizeForm", unfollowed := true, recurses := true, plainKeys := false, apart := false, narrowed := true }
def FnOptimizeFormUptoSaid : Prop := fnOptimizeFormUptoRow.holds Try.pinned (OpenSpec.upto fnOptimizeFormSpec)

/-- 'laws.FnOptimizeSmall', WHERE WHAT IT READS IS OF BULK AT MOST 1048576: true; the input reads as it did. -/
def fnOptimizeSmallUptoRow : OpenClaim := { program := "ytpfhlodlefcomaa", sum := "3197928582ff6f1128b38d09d2744dfa745aad5816efaaa7db56624bdce88bfb", func := "loop.example/fpgatoolchain/laws.FnOptimizeSmall", spec := "fnOptimizeSmall", unfollowed := true, recurses := true, plainKeys := false, apart := false, narrowed := true }
def FnOptimizeSmallUptoSaid : Prop := fnOptimizeSmallUptoRow.holds Try.pinned (OpenSpec.upto fnOptimizeSmallSpec)

/-- 'laws.FnFindDifference', WHERE WHAT IT READS IS OF BULK AT MOST 1048576: true; the input reads as it did. -/
def fnFindDifferenceUptoRow : OpenClaim := { program := "ytpfhlodlefcomaa", sum := "3197928582ff6f1128b38d09d2744dfa745aad5816efaaa7db56624bdce88bfb", func := "loop.example/fpgatoolchain/laws.FnFindDifference", spec := "fnFindDifference", plainKeys := false, apart := false, narrowed := true }
def FnFindDifferenceUptoSaid : Prop := fnFindDifferenceUptoRow.holds Try.pinned (OpenSpec.upto fnFindDifferenceSpec)

/-- 'laws.FnEquivalentRuns', WHERE WHAT IT READS IS OF BULK AT MOST 1048576: true; the input reads as it did. -/
def fnEquivalentRunsUptoRow : OpenClaim := { program := "ytpfhlodlefcomaa", sum := "3197928582ff6f1128b38d09d2744dfa745aad5816efaaa7db56624bdce88bfb", func := "loop.example/fpgatoolchain/laws.FnEquivalentRuns", spec := "fnEquivalentRuns", plainKeys := false, apart := false, narrowed := true }
def FnEquivalentRunsUptoSaid : Prop := fnEquivalentRunsUptoRow.holds Try.pinned (OpenSpec.upto fnEquivalentRunsSpec)

/-- 'laws.FnOptimize', WHERE WHAT IT READS IS OF BULK AT MOST 1048576: true; the input reads as it did. -/
def fnOptimizeUptoRow : OpenClaim := { program := "ytpfhlodlefcomaa", sum := "3197928582ff6f1128b38d09d2744dfa745aad5816efaaa7db56624bdce88bfb", func := "loop.example/fpgatoolchain/laws.FnOptimize", spec := "fnOptimize", unfollowed := true, recurses := true, plainKeys := false, apart := false, narrowed := true }
def FnOptimizeUptoSaid : Prop := fnOptimizeUptoRow.holds Try.pinned (OpenSpec.upto fnOptimizeSpec)

/-- 'laws.FnEquivalent', WHERE WHAT IT READS IS OF BULK AT MOST 1048576: true; the input reads as it did. -/
def fnEquivalentUptoRow : OpenClaim := { program := "ytpfhlodlefcomaa", sum := "3197928582ff6f1128b38d09d2744dfa745aad5816efaaa7db56624bdce88bfb", func := "loop.example/fpgatoolchain/laws.FnEquivalent", spec := "fnEquivalent", unfollowed := true, recurses := true, plainKeys := false, apart := false, narrowed := true }
def FnEquivalentUptoSaid : Prop := fnEquivalentUptoRow.holds Try.pinned (OpenSpec.upto fnEquivalentSpec)

end Rows
end Go.Proofs.Ytpfhlodlefcomaa
