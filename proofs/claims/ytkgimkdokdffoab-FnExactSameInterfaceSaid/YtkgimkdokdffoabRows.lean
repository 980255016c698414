/-
  No cell of these rows narrows 'for every input' (looked for: loops, veiled, ifaces, maps, wideKeys, modest, calm, conditions, laid).
  DERIVED. THE GIVEN ROWS OF THIS SEAT. 6 by the template 'for every input the law returns true; each argument reads behind the call as it read before'; 0 by the template 'total and deterministic' (their statements: YtkgimkdokdffoabTotals.lean).
  GIVEN WITH THE SEED: the statements are not yours to turn. If you find one false, say at which input.
  Laid BY PROGRAM, IN A SANDBOX (cutbox-rows.mjs): the forced cells as the released guide's own fill.sh prints them over the translation 8d2edd513df89971… (all of the seat's roots in one cut). By AI agents, Wed Nov 11 2026. No macro, syntax, notation, axiom, sorry.
-/
import Derived.Test.YtkgimkdokdffoabChecked
import GoSem.Claim
import GoSem.ClaimJoined
import GoSem.ClaimMapViews
import Derived.JoinedTies
import Derived.KernelRfl
namespace Go.Proofs.Ytkgimkdokdffoab
/- THE CELL 'sum', in the pinned program and in every row, IS THE sha256 OF THE DUMP (.gsa) THAT YtkgimkdokdffoabProg.lean LOADS. Nothing in Lean hashes anything: it is a label: what it is worth is what the hold of that sum in a sandbox is worth. -/
noncomputable def Try.pinned : Pinned := { name := "ytkgimkdokdffoab", sum := "8d2edd513df8997190be349fea306078fe22db7697412dfeb5502839500eda18", checked := Try.checked }
namespace Rows
def none {H : Type} : Left H := { results := [], args := [] }

/-- 'laws.FnExactSameInterface': WHATEVER THE INPUT: true; the input reads as it did. -/
def fnExactSameInterfaceSpec : ChangeSpec := { name := "fnExactSameInterface", fn := fun _ => fun
  | [d1, d2] => { results := [.lit (.bool true)], args := [d1, d2] }
  | _ => none }
def fnExactSameInterfaceRow : OpenClaim := { program := "ytkgimkdokdffoab", sum := "8d2edd513df8997190be349fea306078fe22db7697412dfeb5502839500eda18", func := "loop.example/fpgatoolchain/laws.FnExactSameInterface", spec := "fnExactSameInterface", apart := false }
def FnExactSameInterfaceSaid : Prop := fnExactSameInterfaceRow.holds Try.pinned (OpenSpec.ofChange fnExactSameInterfaceSpec)

/-- ITS FALSE NEIGHBOUR: 'it returns false'. Refute it at one input. -/
def fnExactSameInterfaceWrong : ChangeSpec := { name := "fnExactSameInterface", fn := fun _ => fun
  | [d1, d2] => { results := [.lit (.bool false)], args := [d1, d2] }
  | _ => none }
def FnExactSameInterfaceWrongFalsely : Prop := fnExactSameInterfaceRow.holds Try.pinned (OpenSpec.ofChange fnExactSameInterfaceWrong)

/-- 'laws.FnPlace': WHATEVER THE INPUT: true; the input reads as it did. -/
def fnPlaceSpec : ChangeSpec := { name := "fnPlace", fn := fun _ => fun
  | [d] => { results := [.lit (.bool true)], args := [d] }
  | _ => none }
def fnPlaceRow : OpenClaim := { program := "ytkgimkdokdffoab", sum := "8d2edd513df8997190be349fea306078fe22db7697412dfeb5502839500eda18", func := "loop.example/fpgatoolchain/laws.FnPlace", spec := "fnPlace", unfollowed := true, recurses := true, apart := false }
def FnPlaceSaid : Prop := fnPlaceRow.holds Try.pinned (OpenSpec.ofChange fnPlaceSpec)

/-- ITS FALSE NEIGHBOUR: 'it returns false'. Refute it at one input. -/
def fnPlaceWrong : ChangeSpec := { name := "fnPlace", fn := fun _ => fun
  | [d] => { results := [.lit (.bool false)], args := [d] }
  | _ => none }
def FnPlaceWrongFalsely : Prop := fnPlaceRow.holds Try.pinned (OpenSpec.ofChange fnPlaceWrong)

/-- 'laws.FnExactVarCount': WHATEVER THE INPUT: true; the input reads as it did. -/
def fnExactVarCountSpec : ChangeSpec := { name := "fnExactVarCount", fn := fun _ => fun
  | [d] => { results := [.lit (.bool true)], args := [d] }
  | _ => none }
def fnExactVarCountRow : OpenClaim := { program := "ytkgimkdokdffoab", sum := "8d2edd513df8997190be349fea306078fe22db7697412dfeb5502839500eda18", func := "loop.example/fpgatoolchain/laws.FnExactVarCount", spec := "fnExactVarCount", apart := false }
def FnExactVarCountSaid : Prop := fnExactVarCountRow.holds Try.pinned (OpenSpec.ofChange fnExactVarCountSpec)

/-- ITS FALSE NEIGHBOUR: 'it returns false'. Refute it at one input. -/
def fnExactVarCountWrong : ChangeSpec := { name := "fnExactVarCount", fn := fun _ => fun
  | [d] => { results := [.lit (.bool false)], args := [d] }
  | _ => none }
def FnExactVarCountWrongFalsely : Prop := fnExactVarCountRow.holds Try.pinned (OpenSpec.ofChange fnExactVarCountWrong)

/-- 'laws.FnExactEmptyConfig': WHATEVER THE INPUT: true; the input reads as it did. -/
def fnExactEmptyConfigSpec : ChangeSpec := { name := "fnExactEmptyConfig", fn := fun _ => fun
  | [] => { results := [.lit (.bool true)], args := [] }
  | _ => none }
def fnExactEmptyConfigRow : OpenClaim := { program := "ytkgimkdokdffoab", sum := "8d2edd513df8997190be349fea306078fe22db7697412dfeb5502839500eda18", func := "loop.example/fpgatoolchain/laws.FnExactEmptyConfig", spec := "fnExactEmptyConfig", apart := false }
def FnExactEmptyConfigSaid : Prop := fnExactEmptyConfigRow.holds Try.pinned (OpenSpec.ofChange fnExactEmptyConfigSpec)

/-- ITS FALSE NEIGHBOUR: 'it returns false'. Refute it at one input. -/
def fnExactEmptyConfigWrong : ChangeSpec := { name := "fnExactEmptyConfig", fn := fun _ => fun
  | [] => { results := [.lit (.bool false)], args := [] }
  | _ => none }
def FnExactEmptyConfigWrongFalsely : Prop := fnExactEmptyConfigRow.holds Try.pinned (OpenSpec.ofChange fnExactEmptyConfigWrong)

/-- 'laws.FnEvalVars': WHATEVER THE INPUT: true; the input reads as it did. -/
def fnEvalVarsSpec : ChangeSpec := { name := "fnEvalVars", fn := fun _ => fun
  | [d] => { results := [.lit (.bool true)], args := [d] }
  | _ => none }
def fnEvalVarsRow : OpenClaim := { program := "ytkgimkdokdffoab", sum := "8d2edd513df8997190be349fea306078fe22db7697412dfeb5502839500eda18", func := "loop.example/fpgatoolchain/laws.FnEvalVars", spec := "fnEvalVars", apart := false }
def FnEvalVarsSaid : Prop := fnEvalVarsRow.holds Try.pinned (OpenSpec.ofChange fnEvalVarsSpec)

/-- ITS FALSE NEIGHBOUR: 'it returns false'. Refute it at one input. -/
def fnEvalVarsWrong : ChangeSpec := { name := "fnEvalVars", fn := fun _ => fun
  | [d] => { results := [.lit (.bool false)], args := [d] }
  | _ => none }
def FnEvalVarsWrongFalsely : Prop := fnEvalVarsRow.holds Try.pinned (OpenSpec.ofChange fnEvalVarsWrong)

/-- 'laws.FnExactDepth': WHATEVER THE INPUT: true; the input reads as it did. -/
def fnExactDepthSpec : ChangeSpec := { name := "fnExactDepth", fn := fun _ => fun
  | [d] => { results := [.lit (.bool true)], args := [d] }
  | _ => none }
def fnExactDepthRow : OpenClaim := { program := "ytkgimkdokdffoab", sum := "8d2edd513df8997190be349fea306078fe22db7697412dfeb5502839500eda18", func := "loop.example/fpgatoolchain/laws.FnExactDepth", spec := "fnExactDepth", apart := false }
def FnExactDepthSaid : Prop := fnExactDepthRow.holds Try.pinned (OpenSpec.ofChange fnExactDepthSpec)

/-- ITS FALSE NEIGHBOUR: 'it returns false'. Refute it at one input. -/
def fnExactDepthWrong : ChangeSpec := { name := "fnExactDepth", fn := fun _ => fun
  | [d] => { results := [.lit (.bool false)], args := [d] }
  | _ => none }
def FnExactDepthWrongFalsely : Prop := fnExactDepthRow.holds Try.pinned (OpenSpec.ofChange fnExactDepthWrong)

/- THE SECOND FORM. 'bulk': how many values and letters a reading holds, each counted each time it is reached (what is shared counts as often as it is met; a slice's spare places count too). A statement '..UptoSaid' is the law's where the arguments, and the package variables that the reading takes, are together of bulk at most 1048576: NARROWER than '..Said'. Prove '..Said' where nothing that the law and all that it calls make is longer than what came in: it says more and counts as full. Else prove '..UptoSaid'. A law counts once. -/
mutual
def uptoBulk {H : Type} : DataW H → Nat
  | .lit (.string bytes) => bytes.length + 1
  | .lit _ => 1
  | .nil => 1
  | .ptr d => uptoBulk d + 1
  | .slice elems spare => uptoBulkAll elems + uptoBulkAll spare + 1
  | .agg parts => uptoBulkAll parts + 1
  | .iface _ d => uptoBulk d + 1
  | .map entries => uptoBulkEntries entries + 1
  | .held _ => 1
def uptoBulkAll {H : Type} : List (DataW H) → Nat
  | [] => 0
  | d :: r => uptoBulk d + uptoBulkAll r
def uptoBulkEntries {H : Type} : List (Lit × DataW H) → Nat
  | [] => 0
  | x :: r => uptoBulkEntry x + uptoBulkEntries r
def uptoBulkEntry {H : Type} : Lit × DataW H → Nat
  | (.string bytes, d) => bytes.length + uptoBulk d + 1
  | (_, d) => uptoBulk d + 1
 end
def uptoSmall : (H : Type) → List (DataW H) → Bool := fun _ ds => decide (uptoBulkAll ds ≤ 1048576)
def OpenSpec.upto (s : _root_.Go.ChangeSpec) : _root_.Go.OpenSpec := { _root_.Go.OpenSpec.ofChange s with cond := some uptoSmall }

/-- 'laws.FnExactSameInterface', WHERE WHAT IT READS IS OF BULK AT MOST 1048576: true; the input reads as it did. -/
def fnExactSameInterfaceUptoRow : OpenClaim := { program := "ytkgimkdokdffoab", sum := "8d2edd513df8997190be349fea306078fe22db7697412dfeb5502839500eda18", func := "loop.example/fpgatoolchain/laws.FnExactSameInterface", spec := "fnExactSameInterface", apart := false, narrowed := true }
def FnExactSameInterfaceUptoSaid : Prop := fnExactSameInterfaceUptoRow.holds Try.pinned (OpenSpec.upto fnExactSameInterfaceSpec)

/-- 'laws.FnPlace', WHERE WHAT IT READS IS OF BULK AT MOST 1048576: true; the input reads as it did. -/
def fnPlaceUptoRow : OpenClaim := { program := "ytkgimkdokdffoab", sum := "8d2edd513df8997190be349fea306078fe22db7697412dfeb5502839500eda18", func := "loop.example/fpgatoolchain/laws.FnPlace", spec := "fnPlace", unfollowed := true, recurses := true, apart := false, narrowed := true }
def FnPlaceUptoSaid : Prop := fnPlaceUptoRow.holds Try.pinned (OpenSpec.upto fnPlaceSpec)

/-- 'laws.FnExactVarCount', WHERE WHAT IT READS IS OF BULK AT MOST 1048576: true; the input reads as it did. -/
def fnExactVarCountUptoRow : OpenClaim := { program := "ytkgimkdokdffoab", sum := "8d2edd513df8997190be349fea306078fe22db7697412dfeb5502839500eda18", func := "loop.example/fpgatoolchain/laws.FnExactVarCount", spec := "fnExactVarCount", apart := false, narrowed := true }
def FnExactVarCountUptoSaid : Prop := fnExactVarCountUptoRow.holds Try.pinned (OpenSpec.upto fnExactVarCountSpec)

/-- 'laws.FnExactEmptyConfig', WHERE WHAT IT READS IS OF BULK AT MOST 1048576: true; the input reads as it did. -/
def fnExactEmptyConfigUptoRow : OpenClaim := { program := "ytkgimkdokdffoab", sum := "8d2edd513df8997190be349fea306078fe22db7697412dfeb5502839500eda18", func := "loop.example/fpgatoolchain/laws.FnExactEmptyConfig", spec := "fnExactEmptyConfig", apart := false, narrowed := true }
def FnExactEmptyConfigUptoSaid : Prop := fnExactEmptyConfigUptoRow.holds Try.pinned (OpenSpec.upto fnExactEmptyConfigSpec)

/-- 'laws.FnEvalVars', WHERE WHAT IT READS IS OF BULK AT MOST 1048576: true; the input reads as it did. -/
def fnEvalVarsUptoRow : OpenClaim := { program := "ytkgimkdokdffoab", sum := "8d2edd513df8997190be349fea306078fe22db7697412dfeb5502839500eda18", func := "loop.example/fpgatoolchain/laws.FnEvalVars", spec := "fnEvalVars", apart := false, narrowed := true }
def FnEvalVarsUptoSaid : Prop := fnEvalVarsUptoRow.holds Try.pinned (OpenSpec.upto fnEvalVarsSpec)

/-- 'laws.FnExactDepth', WHERE WHAT IT READS IS OF BULK AT MOST 1048576: true; the input reads as it did. -/
def fnExactDepthUptoRow : OpenClaim := { program := "ytkgimkdokdffoab", sum := "8d2edd513df8997190be349fea306078fe22db7697412dfeb5502839500eda18", func := "loop.example/fpgatoolchain/laws.FnExactDepth", spec := "fnExactDepth", apart := false, narrowed := true }
def FnExactDepthUptoSaid : Prop := fnExactDepthUptoRow.holds Try.pinned (OpenSpec.upto fnExactDepthSpec)

end Rows
end Go.Proofs.Ytkgimkdokdffoab
