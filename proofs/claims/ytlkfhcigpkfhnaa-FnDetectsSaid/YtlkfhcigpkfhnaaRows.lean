/-
  No cell of these rows narrows 'for every input' (looked for: loops, veiled, ifaces, maps, wideKeys, modest, calm, conditions, laid).
  DERIVED. THE GIVEN ROWS OF THIS SEAT. 12 by the template 'for every input the law returns true; each argument reads behind the call as it read before'; 0 by the template 'total and deterministic' (their statements: YtlkfhcigpkfhnaaTotals.lean).
  GIVEN WITH THE SEED: the statements are not yours to turn. If you find one false, say at which input.
  Laid BY PROGRAM, IN A SANDBOX (cutbox-rows.mjs): the forced cells as the released guide's own fill.sh prints them over the translation bcdd9cdb7cb0358c… (all of the seat's roots in one cut). By AI agents, Wed Nov 11 2026. No macro, syntax, notation, axiom, sorry.
-/
import Derived.Test.YtlkfhcigpkfhnaaChecked
import GoSem.Claim
import GoSem.ClaimJoined
import GoSem.ClaimMapViews
import Derived.JoinedTies
import Derived.KernelRfl
namespace Go.Proofs.Ytlkfhcigpkfhnaa
/- THE CELL 'sum', in the pinned program and in every row, IS THE sha256 OF THE DUMP (.gsa) THAT YtlkfhcigpkfhnaaProg.lean LOADS. Nothing in Lean hashes anything: it is a label: what it is worth is what the hold of that sum in a sandbox is worth. -/
noncomputable def Try.pinned : Pinned := { name := "ytlkfhcigpkfhnaa", sum := "bcdd9cdb7cb0358c6f2c571c3c98a0f1de5ab59a10bf4416530e295320eef250", checked := Try.checked }
namespace Rows
def none {H : Type} : Left H := { results := [], args := [] }

/-- 'laws.FnEvalVars': WHATEVER THE INPUT: true; the input reads as it did. -/
def fnEvalVarsSpec : ChangeSpec := { name := "fnEvalVars", fn := fun _ => fun
  | [d] => { results := [.lit (.bool true)], args := [d] }
  | _ => none }
def fnEvalVarsRow : OpenClaim := { program := "ytlkfhcigpkfhnaa", sum := "bcdd9cdb7cb0358c6f2c571c3c98a0f1de5ab59a10bf4416530e295320eef250", func := "loop.example/fpgatoolchain/laws.FnEvalVars", spec := "fnEvalVars", apart := false }
def FnEvalVarsSaid : Prop := fnEvalVarsRow.holds Try.pinned (OpenSpec.ofChange fnEvalVarsSpec)

/-- ITS FALSE NEIGHBOUR: 'it returns false'. Refute it at one input. -/
def fnEvalVarsWrong : ChangeSpec := { name := "fnEvalVars", fn := fun _ => fun
  | [d] => { results := [.lit (.bool false)], args := [d] }
  | _ => none }
def FnEvalVarsWrongFalsely : Prop := fnEvalVarsRow.holds Try.pinned (OpenSpec.ofChange fnEvalVarsWrong)

/-- 'laws.FnStep': WHATEVER THE INPUT: true; the input reads as it did. -/
def fnStepSpec : ChangeSpec := { name := "fnStep", fn := fun _ => fun
  | [d] => { results := [.lit (.bool true)], args := [d] }
  | _ => none }
def fnStepRow : OpenClaim := { program := "ytlkfhcigpkfhnaa", sum := "bcdd9cdb7cb0358c6f2c571c3c98a0f1de5ab59a10bf4416530e295320eef250", func := "loop.example/fpgatoolchain/laws.FnStep", spec := "fnStep", apart := false }
def FnStepSaid : Prop := fnStepRow.holds Try.pinned (OpenSpec.ofChange fnStepSpec)

/-- ITS FALSE NEIGHBOUR: 'it returns false'. Refute it at one input. -/
def fnStepWrong : ChangeSpec := { name := "fnStep", fn := fun _ => fun
  | [d] => { results := [.lit (.bool false)], args := [d] }
  | _ => none }
def FnStepWrongFalsely : Prop := fnStepRow.holds Try.pinned (OpenSpec.ofChange fnStepWrong)

/-- 'laws.FnSameInterface': WHATEVER THE INPUT: true; the input reads as it did. -/
def fnSameInterfaceSpec : ChangeSpec := { name := "fnSameInterface", fn := fun _ => fun
  | [d] => { results := [.lit (.bool true)], args := [d] }
  | _ => none }
def fnSameInterfaceRow : OpenClaim := { program := "ytlkfhcigpkfhnaa", sum := "bcdd9cdb7cb0358c6f2c571c3c98a0f1de5ab59a10bf4416530e295320eef250", func := "loop.example/fpgatoolchain/laws.FnSameInterface", spec := "fnSameInterface", apart := false }
def FnSameInterfaceSaid : Prop := fnSameInterfaceRow.holds Try.pinned (OpenSpec.ofChange fnSameInterfaceSpec)

/-- ITS FALSE NEIGHBOUR: 'it returns false'. Refute it at one input. -/
def fnSameInterfaceWrong : ChangeSpec := { name := "fnSameInterface", fn := fun _ => fun
  | [d] => { results := [.lit (.bool false)], args := [d] }
  | _ => none }
def FnSameInterfaceWrongFalsely : Prop := fnSameInterfaceRow.holds Try.pinned (OpenSpec.ofChange fnSameInterfaceWrong)

/-- 'laws.FnExactFaults': WHATEVER THE INPUT: true; the input reads as it did. -/
def fnExactFaultsSpec : ChangeSpec := { name := "fnExactFaults", fn := fun _ => fun
  | [d] => { results := [.lit (.bool true)], args := [d] }
  | _ => none }
def fnExactFaultsRow : OpenClaim := { program := "ytlkfhcigpkfhnaa", sum := "bcdd9cdb7cb0358c6f2c571c3c98a0f1de5ab59a10bf4416530e295320eef250", func := "loop.example/fpgatoolchain/laws.FnExactFaults", spec := "fnExactFaults", apart := false }
def FnExactFaultsSaid : Prop := fnExactFaultsRow.holds Try.pinned (OpenSpec.ofChange fnExactFaultsSpec)

/-- ITS FALSE NEIGHBOUR: 'it returns false'. Refute it at one input. -/
def fnExactFaultsWrong : ChangeSpec := { name := "fnExactFaults", fn := fun _ => fun
  | [d] => { results := [.lit (.bool false)], args := [d] }
  | _ => none }
def FnExactFaultsWrongFalsely : Prop := fnExactFaultsRow.holds Try.pinned (OpenSpec.ofChange fnExactFaultsWrong)

/-- 'laws.FnExactEvalVars': WHATEVER THE INPUT: true; the input reads as it did. -/
def fnExactEvalVarsSpec : ChangeSpec := { name := "fnExactEvalVars", fn := fun _ => fun
  | [d1, d2, d3] => { results := [.lit (.bool true)], args := [d1, d2, d3] }
  | _ => none }
def fnExactEvalVarsRow : OpenClaim := { program := "ytlkfhcigpkfhnaa", sum := "bcdd9cdb7cb0358c6f2c571c3c98a0f1de5ab59a10bf4416530e295320eef250", func := "loop.example/fpgatoolchain/laws.FnExactEvalVars", spec := "fnExactEvalVars", apart := false }
def FnExactEvalVarsSaid : Prop := fnExactEvalVarsRow.holds Try.pinned (OpenSpec.ofChange fnExactEvalVarsSpec)

/-- ITS FALSE NEIGHBOUR: 'it returns false'. Refute it at one input. -/
def fnExactEvalVarsWrong : ChangeSpec := { name := "fnExactEvalVars", fn := fun _ => fun
  | [d1, d2, d3] => { results := [.lit (.bool false)], args := [d1, d2, d3] }
  | _ => none }
def FnExactEvalVarsWrongFalsely : Prop := fnExactEvalVarsRow.holds Try.pinned (OpenSpec.ofChange fnExactEvalVarsWrong)

/-- 'laws.FnDetects': WHATEVER THE INPUT: true; the input reads as it did. -/
def fnDetectsSpec : ChangeSpec := { name := "fnDetects", fn := fun _ => fun
  | [d] => { results := [.lit (.bool true)], args := [d] }
  | _ => none }
def fnDetectsRow : OpenClaim := { program := "ytlkfhcigpkfhnaa", sum := "bcdd9cdb7cb0358c6f2c571c3c98a0f1de5ab59a10bf4416530e295320eef250", func := "loop.example/fpgatoolchain/laws.FnDetects", spec := "fnDetects", apart := false }
def FnDetectsSaid : Prop := fnDetectsRow.holds Try.pinned (OpenSpec.ofChange fnDetectsSpec)

/-- ITS FALSE NEIGHBOUR: 'it returns false'. Refute it at one input. -/
def fnDetectsWrong : ChangeSpec := { name := "fnDetects", fn := fun _ => fun
  | [d] => { results := [.lit (.bool false)], args := [d] }
  | _ => none }
def FnDetectsWrongFalsely : Prop := fnDetectsRow.holds Try.pinned (OpenSpec.ofChange fnDetectsWrong)

/-- 'laws.FnSimulate': WHATEVER THE INPUT: true; the input reads as it did. -/
def fnSimulateSpec : ChangeSpec := { name := "fnSimulate", fn := fun _ => fun
  | [d] => { results := [.lit (.bool true)], args := [d] }
  | _ => none }
def fnSimulateRow : OpenClaim := { program := "ytlkfhcigpkfhnaa", sum := "bcdd9cdb7cb0358c6f2c571c3c98a0f1de5ab59a10bf4416530e295320eef250", func := "loop.example/fpgatoolchain/laws.FnSimulate", spec := "fnSimulate", apart := false }
def FnSimulateSaid : Prop := fnSimulateRow.holds Try.pinned (OpenSpec.ofChange fnSimulateSpec)

/-- ITS FALSE NEIGHBOUR: 'it returns false'. Refute it at one input. -/
def fnSimulateWrong : ChangeSpec := { name := "fnSimulate", fn := fun _ => fun
  | [d] => { results := [.lit (.bool false)], args := [d] }
  | _ => none }
def FnSimulateWrongFalsely : Prop := fnSimulateRow.holds Try.pinned (OpenSpec.ofChange fnSimulateWrong)

/-- 'laws.FnFindTest': WHATEVER THE INPUT: true; the input reads as it did. -/
def fnFindTestSpec : ChangeSpec := { name := "fnFindTest", fn := fun _ => fun
  | [d] => { results := [.lit (.bool true)], args := [d] }
  | _ => none }
def fnFindTestRow : OpenClaim := { program := "ytlkfhcigpkfhnaa", sum := "bcdd9cdb7cb0358c6f2c571c3c98a0f1de5ab59a10bf4416530e295320eef250", func := "loop.example/fpgatoolchain/laws.FnFindTest", spec := "fnFindTest", apart := false }
def FnFindTestSaid : Prop := fnFindTestRow.holds Try.pinned (OpenSpec.ofChange fnFindTestSpec)

/-- ITS FALSE NEIGHBOUR: 'it returns false'. Refute it at one input. -/
def fnFindTestWrong : ChangeSpec := { name := "fnFindTest", fn := fun _ => fun
  | [d] => { results := [.lit (.bool false)], args := [d] }
  | _ => none }
def FnFindTestWrongFalsely : Prop := fnFindTestRow.holds Try.pinned (OpenSpec.ofChange fnFindTestWrong)

/-- 'laws.FnExactDetects': WHATEVER THE INPUT: true; the input reads as it did. -/
def fnExactDetectsSpec : ChangeSpec := { name := "fnExactDetects", fn := fun _ => fun
  | [d1, d2, d3] => { results := [.lit (.bool true)], args := [d1, d2, d3] }
  | _ => none }
def fnExactDetectsRow : OpenClaim := { program := "ytlkfhcigpkfhnaa", sum := "bcdd9cdb7cb0358c6f2c571c3c98a0f1de5ab59a10bf4416530e295320eef250", func := "loop.example/fpgatoolchain/laws.FnExactDetects", spec := "fnExactDetects", apart := false }
def FnExactDetectsSaid : Prop := fnExactDetectsRow.holds Try.pinned (OpenSpec.ofChange fnExactDetectsSpec)

/-- ITS FALSE NEIGHBOUR: 'it returns false'. Refute it at one input. -/
def fnExactDetectsWrong : ChangeSpec := { name := "fnExactDetects", fn := fun _ => fun
  | [d1, d2, d3] => { results := [.lit (.bool false)], args := [d1, d2, d3] }
  | _ => none }
def FnExactDetectsWrongFalsely : Prop := fnExactDetectsRow.holds Try.pinned (OpenSpec.ofChange fnExactDetectsWrong)

/-- 'laws.FnExactEquivalent': WHATEVER THE INPUT: true; the input reads as it did. -/
def fnExactEquivalentSpec : ChangeSpec := { name := "fnExactEquivalent", fn := fun _ => fun
  | [d1, d2] => { results := [.lit (.bool true)], args := [d1, d2] }
  | _ => none }
def fnExactEquivalentRow : OpenClaim := { program := "ytlkfhcigpkfhnaa", sum := "bcdd9cdb7cb0358c6f2c571c3c98a0f1de5ab59a10bf4416530e295320eef250", func := "loop.example/fpgatoolchain/laws.FnExactEquivalent", spec := "fnExactEquivalent", apart := false }
def FnExactEquivalentSaid : Prop := fnExactEquivalentRow.holds Try.pinned (OpenSpec.ofChange fnExactEquivalentSpec)

/-- ITS FALSE NEIGHBOUR: 'it returns false'. Refute it at one input. -/
def fnExactEquivalentWrong : ChangeSpec := { name := "fnExactEquivalent", fn := fun _ => fun
  | [d1, d2] => { results := [.lit (.bool false)], args := [d1, d2] }
  | _ => none }
def FnExactEquivalentWrongFalsely : Prop := fnExactEquivalentRow.holds Try.pinned (OpenSpec.ofChange fnExactEquivalentWrong)

/-- 'laws.FnExactStep': WHATEVER THE INPUT: true; the input reads as it did. -/
def fnExactStepSpec : ChangeSpec := { name := "fnExactStep", fn := fun _ => fun
  | [d1, d2, d3] => { results := [.lit (.bool true)], args := [d1, d2, d3] }
  | _ => none }
def fnExactStepRow : OpenClaim := { program := "ytlkfhcigpkfhnaa", sum := "bcdd9cdb7cb0358c6f2c571c3c98a0f1de5ab59a10bf4416530e295320eef250", func := "loop.example/fpgatoolchain/laws.FnExactStep", spec := "fnExactStep", apart := false }
def FnExactStepSaid : Prop := fnExactStepRow.holds Try.pinned (OpenSpec.ofChange fnExactStepSpec)

/-- ITS FALSE NEIGHBOUR: 'it returns false'. Refute it at one input. -/
def fnExactStepWrong : ChangeSpec := { name := "fnExactStep", fn := fun _ => fun
  | [d1, d2, d3] => { results := [.lit (.bool false)], args := [d1, d2, d3] }
  | _ => none }
def FnExactStepWrongFalsely : Prop := fnExactStepRow.holds Try.pinned (OpenSpec.ofChange fnExactStepWrong)

/-- 'laws.FnExactFindTest': WHATEVER THE INPUT: true; the input reads as it did. -/
def fnExactFindTestSpec : ChangeSpec := { name := "fnExactFindTest", fn := fun _ => fun
  | [d1, d2] => { results := [.lit (.bool true)], args := [d1, d2] }
  | _ => none }
def fnExactFindTestRow : OpenClaim := { program := "ytlkfhcigpkfhnaa", sum := "bcdd9cdb7cb0358c6f2c571c3c98a0f1de5ab59a10bf4416530e295320eef250", func := "loop.example/fpgatoolchain/laws.FnExactFindTest", spec := "fnExactFindTest", apart := false }
def FnExactFindTestSaid : Prop := fnExactFindTestRow.holds Try.pinned (OpenSpec.ofChange fnExactFindTestSpec)

/-- ITS FALSE NEIGHBOUR: 'it returns false'. Refute it at one input. -/
def fnExactFindTestWrong : ChangeSpec := { name := "fnExactFindTest", fn := fun _ => fun
  | [d1, d2] => { results := [.lit (.bool false)], args := [d1, d2] }
  | _ => none }
def FnExactFindTestWrongFalsely : Prop := fnExactFindTestRow.holds Try.pinned (OpenSpec.ofChange fnExactFindTestWrong)

/- THE SECOND FORM. 'bulk': how many values and letters a reading holds, each counted each time it is reached (what is shared counts as often as it is met; a slice's spare places count too). A statement '..UptoSaid' is the law's where the arguments, and the package variables that the reading takes, are together of bulk at most 1048576: NARROWER than '..Said'. Prove '..Said' where nothing that the law and all that it calls make is longer than what came in: it says more and counts as full. Else prove '..UptoSaid'. A law counts once. -/
mutual
def uptoBulk {H : Type} : DataW H → Nat
  | .lit (.string bytes) => bytes.length + 1
  | .lit _ => 1
  | .nil => 1
  | .ptr d => uptoBulk d + 1
  | .slice elems spare => uptoBulkAll elems + uptoBulkAll spare + 1
  | .agg parts => uptoBulkAll parts + 1
  | .iface _ d => uptoBulk d + 1
  | .map entries => uptoBulkEntries entries + 1
  | .held _ => 1
def uptoBulkAll {H : Type} : List (DataW H) → Nat
  | [] => 0
  | d :: r => uptoBulk d + uptoBulkAll r
def uptoBulkEntries {H : Type} : List (Lit × DataW H) → Nat
  | [] => 0
  | x :: r => uptoBulkEntry x + uptoBulkEntries r
def uptoBulkEntry {H : Type} : Lit × DataW H → Nat
  | (.string bytes, d) => bytes.length + uptoBulk d + 1
  | (_, d) => uptoBulk d + 1
 end
def uptoSmall : (H : Type) → List (DataW H) → Bool := fun _ ds => decide (uptoBulkAll ds ≤ 1048576)
def OpenSpec.upto (s : _root_.Go.ChangeSpec) : _root_.Go.OpenSpec := { _root_.Go.OpenSpec.ofChange s with cond := some uptoSmall }

/-- 'laws.FnEvalVars', WHERE WHAT IT READS IS OF BULK AT MOST 1048576: true; the input reads as it did. -/
def fnEvalVarsUptoRow : OpenClaim := { program := "ytlkfhcigpkfhnaa", sum := "bcdd9cdb7cb0358c6f2c571c3c98a0f1de5ab59a10bf4416530e295320eef250", func := "loop.example/fpgatoolchain/laws.FnEvalVars", spec := "fnEvalVars", apart := false, narrowed := true }
def FnEvalVarsUptoSaid : Prop := fnEvalVarsUptoRow.holds Try.pinned (OpenSpec.upto fnEvalVarsSpec)

/-- 'laws.FnStep', WHERE WHAT IT READS IS OF BULK AT MOST 1048576: true; the input reads as it did. -/
def fnStepUptoRow : OpenClaim := { program := "ytlkfhcigpkfhnaa", sum := "bcdd9cdb7cb0358c6f2c571c3c98a0f1de5ab59a10bf4416530e295320eef250", func := "loop.example/fpgatoolchain/laws.FnStep", spec := "fnStep", apart := false, narrowed := true }
def FnStepUptoSaid : Prop := fnStepUptoRow.holds Try.pinned (OpenSpec.upto fnStepSpec)

/-- 'laws.FnSameInterface', WHERE WHAT IT READS IS OF BULK AT MOST 1048576: true; the input reads as it did. -/
def fnSameInterfaceUptoRow : OpenClaim := { program := "ytlkfhcigpkfhnaa", sum := "bcdd9cdb7cb0358c6f2c571c3c98a0f1de5ab59a10bf4416530e295320eef250", func := "loop.example/fpgatoolchain/laws.FnSameInterface", spec := "fnSameInterface", apart := false, narrowed := true }
def FnSameInterfaceUptoSaid : Prop := fnSameInterfaceUptoRow.holds Try.pinned (OpenSpec.upto fnSameInterfaceSpec)

/-- 'laws.FnExactFaults', WHERE WHAT IT READS IS OF BULK AT MOST 1048576: true; the input reads as it did. -/
def fnExactFaultsUptoRow : OpenClaim := { program := "ytlkfhcigpkfhnaa", sum := "bcdd9cdb7cb0358c6f2c571c3c98a0f1de5ab59a10bf4416530e295320eef250", func := "loop.example/fpgatoolchain/laws.FnExactFaults", spec := "fnExactFaults", apart := false, narrowed := true }
def FnExactFaultsUptoSaid : Prop := fnExactFaultsUptoRow.holds Try.pinned (OpenSpec.upto fnExactFaultsSpec)

/-- 'laws.FnExactEvalVars', WHERE WHAT IT READS IS OF BULK AT MOST 1048576: true; the input reads as it did. -/
def fnExactEvalVarsUptoRow : OpenClaim := { program := "ytlkfhcigpkfhnaa", sum := "bcdd9cdb7cb0358c6f2c571c3c98a0f1de5ab59a10bf4416530e295320eef250", func := "loop.example/fpgatoolchain/laws.FnExactEvalVars", spec := "fnExactEvalVars", apart := false, narrowed := true }
def FnExactEvalVarsUptoSaid : Prop := fnExactEvalVarsUptoRow.holds Try.pinned (OpenSpec.upto fnExactEvalVarsSpec)

/-- 'laws.FnDetects', WHERE WHAT IT READS IS OF BULK AT MOST 1048576: true; the input reads as it did. -/
def fnDetectsUptoRow : OpenClaim := { program := "ytlkfhcigpkfhnaa", sum := "bcdd9cdb7cb0358c6f2c571c3c98a0f1de5ab59a10bf4416530e295320eef250", func := "loop.example/fpgatoolchain/laws.FnDetects", spec := "fnDetects", apart := false, narrowed := true }
def FnDetectsUptoSaid : Prop := fnDetectsUptoRow.holds Try.pinned (OpenSpec.upto fnDetectsSpec)

/-- 'laws.FnSimulate', WHERE WHAT IT READS IS OF BULK AT MOST 1048576: true; the input reads as it did. -/
def fnSimulateUptoRow : OpenClaim := { program := "ytlkfhcigpkfhnaa", sum := "bcdd9cdb7cb0358c6f2c571c3c98a0f1de5ab59a10bf4416530e295320eef250", func := "loop.example/fpgatoolchain/laws.FnSimulate", spec := "fnSimulate", apart := false, narrowed := true }
def FnSimulateUptoSaid : Prop := fnSimulateUptoRow.holds Try.pinned (OpenSpec.upto fnSimulateSpec)

/-- 'laws.FnFindTest', WHERE WHAT IT READS IS OF BULK AT MOST 1048576: true; the input reads as it did. -/
def fnFindTestUptoRow : OpenClaim := { program := "ytlkfhcigpkfhnaa", sum := "bcdd9cdb7cb0358c6f2c571c3c98a0f1de5ab59a10bf4416530e295320eef250", func := "loop.example/fpgatoolchain/laws.FnFindTest", spec := "fnFindTest", apart := false, narrowed := true }
def FnFindTestUptoSaid : Prop := fnFindTestUptoRow.holds Try.pinned (OpenSpec.upto fnFindTestSpec)

/-- 'laws.FnExactDetects', WHERE WHAT IT READS IS OF BULK AT MOST 1048576: true; the input reads as it did. -/
def fnExactDetectsUptoRow : OpenClaim := { program := "ytlkfhcigpkfhnaa", sum := "bcdd9cdb7cb0358c6f2c571c3c98a0f1de5ab59a10bf4416530e295320eef250", func := "loop.example/fpgatoolchain/laws.FnExactDetects", spec := "fnExactDetects", apart := false, narrowed := true }
def FnExactDetectsUptoSaid : Prop := fnExactDetectsUptoRow.holds Try.pinned (OpenSpec.upto fnExactDetectsSpec)

/-- 'laws.FnExactEquivalent', WHERE WHAT IT READS IS OF BULK AT MOST 1048576: true; the input reads as it did. -/
def fnExactEquivalentUptoRow : OpenClaim := { program := "ytlkfhcigpkfhnaa", sum := "bcdd9cdb7cb0358c6f2c571c3c98a0f1de5ab59a10bf4416530e295320eef250", func := "loop.example/fpgatoolchain/laws.FnExactEquivalent", spec := "fnExactEquivalent", apart := false, narrowed := true }
def FnExactEquivalentUptoSaid : Prop := fnExactEquivalentUptoRow.holds Try.pinned (OpenSpec.upto fnExactEquivalentSpec)

/-- 'laws.FnExactStep', WHERE WHAT IT READS IS OF BULK AT MOST 1048576: true; the input reads as it did. -/
def fnExactStepUptoRow : OpenClaim := { program := "ytlkfhcigpkfhnaa", sum := "bcdd9cdb7cb0358c6f2c571c3c98a0f1de5ab59a10bf4416530e295320eef250", func := "loop.example/fpgatoolchain/laws.FnExactStep", spec := "fnExactStep", apart := false, narrowed := true }
def FnExactStepUptoSaid : Prop := fnExactStepUptoRow.holds Try.pinned (OpenSpec.upto fnExactStepSpec)

/-- 'laws.FnExactFindTest', WHERE WHAT IT READS IS OF BULK AT MOST 1048576: true; the input reads as it did. -/
def fnExactFindTestUptoRow : OpenClaim := { program := "ytlkfhcigpkfhnaa", sum := "bcdd9cdb7cb0358c6f2c571c3c98a0f1de5ab59a10bf4416530e295320eef250", func := "loop.example/fpgatoolchain/laws.FnExactFindTest", spec := "fnExactFindTest", apart := false, narrowed := true }
def FnExactFindTestUptoSaid : Prop := fnExactFindTestUptoRow.holds Try.pinned (OpenSpec.upto fnExactFindTestSpec)

end Rows
end Go.Proofs.Ytlkfhcigpkfhnaa
