/-
  No cell of these rows narrows 'for every input' (looked for: loops, veiled, ifaces, maps, wideKeys, modest, calm, conditions, laid).
  DERIVED. THE GIVEN ROWS OF THIS SEAT. 6 by the template 'for every input the law returns true; each argument reads behind the call as it read before'; 0 by the template 'total and deterministic' (their statements: YtkgimkdokdffoaaTotals.lean).
  GIVEN WITH THE SEED: the statements are not yours to turn. If you find one false, say at which input.
  Laid BY PROGRAM, IN A SANDBOX (cutbox-rows.mjs): the forced cells as the released guide's own fill.sh prints them over the translation cba47b47b7a2e3ef… (all of the seat's roots in one cut). By AI agents, Wed Nov 11 2026. No macro, syntax, notation, axiom, sorry.
-/
import Derived.Test.YtkgimkdokdffoaaChecked
import GoSem.Claim
import GoSem.ClaimJoined
import GoSem.ClaimMapViews
import Derived.JoinedTies
import Derived.KernelRfl
namespace Go.Proofs.Ytkgimkdokdffoaa
/- THE CELL 'sum', in the pinned program and in every row, IS THE sha256 OF THE DUMP (.gsa) THAT YtkgimkdokdffoaaProg.lean LOADS. Nothing in Lean hashes anything: it is a label: what it is worth is what the hold of that sum in a sandbox is worth. -/
noncomputable def Try.pinned : Pinned := { name := "ytkgimkdokdffoaa", sum := "cba47b47b7a2e3ef15a0230e9f993de8be90f0fd83566d70ad7a603ac45205c7", checked := Try.checked }
namespace Rows
def none {H : Type} : Left H := { results := [], args := [] }

/-- 'laws.FnExactConstants': WHATEVER THE INPUT: true; the input reads as it did. -/
def fnExactConstantsSpec : ChangeSpec := { name := "fnExactConstants", fn := fun _ => fun
  | [] => { results := [.lit (.bool true)], args := [] }
  | _ => none }
def fnExactConstantsRow : OpenClaim := { program := "ytkgimkdokdffoaa", sum := "cba47b47b7a2e3ef15a0230e9f993de8be90f0fd83566d70ad7a603ac45205c7", func := "loop.example/fpgatoolchain/laws.FnExactConstants", spec := "fnExactConstants", apart := false }
def FnExactConstantsSaid : Prop := fnExactConstantsRow.holds Try.pinned (OpenSpec.ofChange fnExactConstantsSpec)

/-- ITS FALSE NEIGHBOUR: 'it returns false'. Refute it at one input. -/
def fnExactConstantsWrong : ChangeSpec := { name := "fnExactConstants", fn := fun _ => fun
  | [] => { results := [.lit (.bool false)], args := [] }
  | _ => none }
def FnExactConstantsWrongFalsely : Prop := fnExactConstantsRow.holds Try.pinned (OpenSpec.ofChange fnExactConstantsWrong)

/-- 'laws.FnExactFabricReset': WHATEVER THE INPUT: true; the input reads as it did. -/
def fnExactFabricResetSpec : ChangeSpec := { name := "fnExactFabricReset", fn := fun _ => fun
  | [] => { results := [.lit (.bool true)], args := [] }
  | _ => none }
def fnExactFabricResetRow : OpenClaim := { program := "ytkgimkdokdffoaa", sum := "cba47b47b7a2e3ef15a0230e9f993de8be90f0fd83566d70ad7a603ac45205c7", func := "loop.example/fpgatoolchain/laws.FnExactFabricReset", spec := "fnExactFabricReset", apart := false }
def FnExactFabricResetSaid : Prop := fnExactFabricResetRow.holds Try.pinned (OpenSpec.ofChange fnExactFabricResetSpec)

/-- ITS FALSE NEIGHBOUR: 'it returns false'. Refute it at one input. -/
def fnExactFabricResetWrong : ChangeSpec := { name := "fnExactFabricReset", fn := fun _ => fun
  | [] => { results := [.lit (.bool false)], args := [] }
  | _ => none }
def FnExactFabricResetWrongFalsely : Prop := fnExactFabricResetRow.holds Try.pinned (OpenSpec.ofChange fnExactFabricResetWrong)

/-- 'laws.FnCircuitValid': WHATEVER THE INPUT: true; the input reads as it did. -/
def fnCircuitValidSpec : ChangeSpec := { name := "fnCircuitValid", fn := fun _ => fun
  | [d] => { results := [.lit (.bool true)], args := [d] }
  | _ => none }
def fnCircuitValidRow : OpenClaim := { program := "ytkgimkdokdffoaa", sum := "cba47b47b7a2e3ef15a0230e9f993de8be90f0fd83566d70ad7a603ac45205c7", func := "loop.example/fpgatoolchain/laws.FnCircuitValid", spec := "fnCircuitValid", apart := false }
def FnCircuitValidSaid : Prop := fnCircuitValidRow.holds Try.pinned (OpenSpec.ofChange fnCircuitValidSpec)

/-- ITS FALSE NEIGHBOUR: 'it returns false'. Refute it at one input. -/
def fnCircuitValidWrong : ChangeSpec := { name := "fnCircuitValid", fn := fun _ => fun
  | [d] => { results := [.lit (.bool false)], args := [d] }
  | _ => none }
def FnCircuitValidWrongFalsely : Prop := fnCircuitValidRow.holds Try.pinned (OpenSpec.ofChange fnCircuitValidWrong)

/-- 'laws.FnVarCount': WHATEVER THE INPUT: true; the input reads as it did. -/
def fnVarCountSpec : ChangeSpec := { name := "fnVarCount", fn := fun _ => fun
  | [d] => { results := [.lit (.bool true)], args := [d] }
  | _ => none }
def fnVarCountRow : OpenClaim := { program := "ytkgimkdokdffoaa", sum := "cba47b47b7a2e3ef15a0230e9f993de8be90f0fd83566d70ad7a603ac45205c7", func := "loop.example/fpgatoolchain/laws.FnVarCount", spec := "fnVarCount", apart := false }
def FnVarCountSaid : Prop := fnVarCountRow.holds Try.pinned (OpenSpec.ofChange fnVarCountSpec)

/-- ITS FALSE NEIGHBOUR: 'it returns false'. Refute it at one input. -/
def fnVarCountWrong : ChangeSpec := { name := "fnVarCount", fn := fun _ => fun
  | [d] => { results := [.lit (.bool false)], args := [d] }
  | _ => none }
def FnVarCountWrongFalsely : Prop := fnVarCountRow.holds Try.pinned (OpenSpec.ofChange fnVarCountWrong)

/-- 'laws.FnExactCircuitValid': WHATEVER THE INPUT: true; the input reads as it did. -/
def fnExactCircuitValidSpec : ChangeSpec := { name := "fnExactCircuitValid", fn := fun _ => fun
  | [d] => { results := [.lit (.bool true)], args := [d] }
  | _ => none }
def fnExactCircuitValidRow : OpenClaim := { program := "ytkgimkdokdffoaa", sum := "cba47b47b7a2e3ef15a0230e9f993de8be90f0fd83566d70ad7a603ac45205c7", func := "loop.example/fpgatoolchain/laws.FnExactCircuitValid", spec := "fnExactCircuitValid", apart := false }
def FnExactCircuitValidSaid : Prop := fnExactCircuitValidRow.holds Try.pinned (OpenSpec.ofChange fnExactCircuitValidSpec)

/-- ITS FALSE NEIGHBOUR: 'it returns false'. Refute it at one input. -/
def fnExactCircuitValidWrong : ChangeSpec := { name := "fnExactCircuitValid", fn := fun _ => fun
  | [d] => { results := [.lit (.bool false)], args := [d] }
  | _ => none }
def FnExactCircuitValidWrongFalsely : Prop := fnExactCircuitValidRow.holds Try.pinned (OpenSpec.ofChange fnExactCircuitValidWrong)

/-- 'laws.FnDepth': WHATEVER THE INPUT: true; the input reads as it did. -/
def fnDepthSpec : ChangeSpec := { name := "fnDepth", fn := fun _ => fun
  | [d] => { results := [.lit (.bool true)], args := [d] }
  | _ => none }
def fnDepthRow : OpenClaim := { program := "ytkgimkdokdffoaa", sum := "cba47b47b7a2e3ef15a0230e9f993de8be90f0fd83566d70ad7a603ac45205c7", func := "loop.example/fpgatoolchain/laws.FnDepth", spec := "fnDepth", apart := false }
def FnDepthSaid : Prop := fnDepthRow.holds Try.pinned (OpenSpec.ofChange fnDepthSpec)

/-- ITS FALSE NEIGHBOUR: 'it returns false'. Refute it at one input. -/
def fnDepthWrong : ChangeSpec := { name := "fnDepth", fn := fun _ => fun
  | [d] => { results := [.lit (.bool false)], args := [d] }
  | _ => none }
def FnDepthWrongFalsely : Prop := fnDepthRow.holds Try.pinned (OpenSpec.ofChange fnDepthWrong)

/- THE SECOND FORM. 'bulk': how many values and letters a reading holds, each counted each time it is reached (what is shared counts as often as it is met; a slice's spare places count too). A statement '..UptoSaid' is the law's where the arguments, and the package variables that the reading takes, are together of bulk at most 1048576: NARROWER than '..Said'. Prove '..Said' where nothing that the law and all that it calls make is longer than what came in: it says more and counts as full. Else prove '..UptoSaid'. A law counts once. -/
mutual
def uptoBulk {H : Type} : DataW H → Nat
  | .lit (.string bytes) => bytes.length + 1
  | .lit _ => 1
  | .nil => 1
  | .ptr d => uptoBulk d + 1
  | .slice elems spare => uptoBulkAll elems + uptoBulkAll spare + 1
  | .agg parts => uptoBulkAll parts + 1
  | .iface _ d => uptoBulk d + 1
  | .map entries => uptoBulkEntries entries + 1
  | .held _ => 1
def uptoBulkAll {H : Type} : List (DataW H) → Nat
  | [] => 0
  | d :: r => uptoBulk d + uptoBulkAll r
def uptoBulkEntries {H : Type} : List (Lit × DataW H) → Nat
  | [] => 0
  | x :: r => uptoBulkEntry x + uptoBulkEntries r
def uptoBulkEntry {H : Type} : Lit × DataW H → Nat
  | (.string bytes, d) => bytes.length + uptoBulk d + 1
  | (_, d) => uptoBulk d + 1
 end
def uptoSmall : (H : Type) → List (DataW H) → Bool := fun _ ds => decide (uptoBulkAll ds ≤ 1048576)
def OpenSpec.upto (s : _root_.Go.ChangeSpec) : _root_.Go.OpenSpec := { _root_.Go.OpenSpec.ofChange s with cond := some uptoSmall }

/-- 'laws.FnExactConstants', WHERE WHAT IT READS IS OF BULK AT MOST 1048576: true; the input reads as it did. -/
def fnExactConstantsUptoRow : OpenClaim := { program := "ytkgimkdokdffoaa", sum := "cba47b47b7a2e3ef15a0230e9f993de8be90f0fd83566d70ad7a603ac45205c7", func := "loop.example/fpgatoolchain/laws.FnExactConstants", spec := "fnExactConstants", apart := false, narrowed := true }
def FnExactConstantsUptoSaid : Prop := fnExactConstantsUptoRow.holds Try.pinned (OpenSpec.upto fnExactConstantsSpec)

/-- 'laws.FnExactFabricReset', WHERE WHAT IT READS IS OF BULK AT MOST 1048576: true; the input reads as it did. -/
def fnExactFabricResetUptoRow : OpenClaim := { program := "ytkgimkdokdffoaa", sum := "cba47b47b7a2e3ef15a0230e9f993de8be90f0fd83566d70ad7a603ac45205c7", func := "loop.example/fpgatoolchain/laws.FnExactFabricReset", spec := "fnExactFabricReset", apart := false, narrowed := true }
def FnExactFabricResetUptoSaid : Prop := fnExactFabricResetUptoRow.holds Try.pinned (OpenSpec.upto fnExactFabricResetSpec)

/-- 'laws.FnCircuitValid', WHERE WHAT IT READS IS OF BULK AT MOST 1048576: true; the input reads as it did. -/
def fnCircuitValidUptoRow : OpenClaim := { program := "ytkgimkdokdffoaa", sum := "cba47b47b7a2e3ef15a0230e9f993de8be90f0fd83566d70ad7a603ac45205c7", func := "loop.example/fpgatoolchain/laws.FnCircuitValid", spec := "fnCircuitValid", apart := false, narrowed := true }
def FnCircuitValidUptoSaid : Prop := fnCircuitValidUptoRow.holds Try.pinned (OpenSpec.upto fnCircuitValidSpec)

/-- 'laws.FnVarCount', WHERE WHAT IT READS IS OF BULK AT MOST 1048576: true; the input reads as it did. -/
def fnVarCountUptoRow : OpenClaim := { program := "ytkgimkdokdffoaa", sum := "cba47b47b7a2e3ef15a0230e9f993de8be90f0fd83566d70ad7a603ac45205c7", func := "loop.example/fpgatoolchain/laws.FnVarCount", spec := "fnVarCount", apart := false, narrowed := true }
def FnVarCountUptoSaid : Prop := fnVarCountUptoRow.holds Try.pinned (OpenSpec.upto fnVarCountSpec)

/-- 'laws.FnExactCircuitValid', WHERE WHAT IT READS IS OF BULK AT MOST 1048576: true; the input reads as it did. -/
def fnExactCircuitValidUptoRow : OpenClaim := { program := "ytkgimkdokdffoaa", sum := "cba47b47b7a2e3ef15a0230e9f993de8be90f0fd83566d70ad7a603ac45205c7", func := "loop.example/fpgatoolchain/laws.FnExactCircuitValid", spec := "fnExactCircuitValid", apart := false, narrowed := true }
def FnExactCircuitValidUptoSaid : Prop := fnExactCircuitValidUptoRow.holds Try.pinned (OpenSpec.upto fnExactCircuitValidSpec)

/-- 'laws.FnDepth', WHERE WHAT IT READS IS OF BULK AT MOST 1048576: true; the input reads as it did. -/
def fnDepthUptoRow : OpenClaim := { program := "ytkgimkdokdffoaa", sum := "cba47b47b7a2e3ef15a0230e9f993de8be90f0fd83566d70ad7a603ac45205c7", func := "loop.example/fpgatoolchain/laws.FnDepth", spec := "fnDepth", apart := false, narrowed := true }
def FnDepthUptoSaid : Prop := fnDepthUptoRow.holds Try.pinned (OpenSpec.upto fnDepthSpec)

end Rows
end Go.Proofs.Ytkgimkdokdffoaa
