/-
  No cell of these rows narrows 'for every input' (looked for: loops, veiled, ifaces, maps, wideKeys, modest, calm, conditions, laid).
  DERIVED. THE GIVEN ROWS OF THIS SEAT. 10 by the template 'for every input the law returns true; each argument reads behind the call as it read before'; 0 by the template 'total and deterministic' (their statements: YtgialedmbmfejaaTotals.lean).
  GIVEN WITH THE SEED: the statements are not yours to turn. If you find one false, say at which input.
  Laid BY PROGRAM, IN A SANDBOX (cutbox-rows.mjs): the forced cells as the released guide's own fill.sh prints them over the translation 6f69d93bae8deb7b… (all of the seat's roots in one cut). By AI agents, Wed Nov 11 2026. No macro, syntax, notation, axiom, sorry.
-/
import Derived.Test.YtgialedmbmfejaaChecked
import GoSem.Claim
import GoSem.ClaimJoined
import GoSem.ClaimMapViews
import Derived.JoinedTies
import Derived.KernelRfl
namespace Go.Proofs.Ytgialedmbmfejaa
/- THE CELL 'sum', in the pinned program and in every row, IS THE sha256 OF THE DUMP (.gsa) THAT YtgialedmbmfejaaProg.lean LOADS. Nothing in Lean hashes anything: it is a label: what it is worth is what the hold of that sum in a sandbox is worth. -/
noncomputable def Try.pinned : Pinned := { name := "ytgialedmbmfejaa", sum := "6f69d93bae8deb7b444fc2c24bcc125649287e8235c98909ec8d46f512f02699", checked := Try.checked }
namespace Rows
def none {H : Type} : Left H := { results := [], args := [] }

/-- 'laws.FnPlace': WHATEVER THE INPUT: true; the input reads as it did. -/
def fnPlaceSpec : ChangeSpec := { name := "fnPlace", fn := fun _ => fun
  | [d] => { results := [.lit (.bool true)], args := [d] }
  | _ => none }
def fnPlaceRow : OpenClaim := { program := "ytgialedmbmfejaa", sum := "6f69d93bae8deb7b444fc2c24bcc125649287e8235c98909ec8d46f512f02699", func := "loop.example/fpgatoolchain/laws.FnPlace", spec := "fnPlace", unfollowed := true, recurses := true, plainKeys := false, apart := false }
def FnPlaceSaid : Prop := fnPlaceRow.holds Try.pinned (OpenSpec.ofChange fnPlaceSpec)

/-- ITS FALSE NEIGHBOUR: 'it returns false'. Refute it at one input. -/
def fnPlaceWrong : ChangeSpec := { name := "fnPlace", fn := fun _ => fun
  | [d] => { results := [.lit (.bool false)], args := [d] }
  | _ => none }
def FnPlaceWrongFalsely : Prop := fnPlaceRow.holds Try.pinned (OpenSpec.ofChange fnPlaceWrong)

/-- 'laws.FnExactPlace': WHATEVER THE INPUT: true; the input reads as it did. -/
def fnExactPlaceSpec : ChangeSpec := { name := "fnExactPlace", fn := fun _ => fun
  | [d] => { results := [.lit (.bool true)], args := [d] }
  | _ => none }
def fnExactPlaceRow : OpenClaim := { program := "ytgialedmbmfejaa", sum := "6f69d93bae8deb7b444fc2c24bcc125649287e8235c98909ec8d46f512f02699", func := "loop.example/fpgatoolchain/laws.FnExactPlace", spec := "fnExactPlace", unfollowed := true, recurses := true, plainKeys := false, apart := false }
def FnExactPlaceSaid : Prop := fnExactPlaceRow.holds Try.pinned (OpenSpec.ofChange fnExactPlaceSpec)

/-- ITS FALSE NEIGHBOUR: 'it returns false'. Refute it at one input. -/
def fnExactPlaceWrong : ChangeSpec := { name := "fnExactPlace", fn := fun _ => fun
  | [d] => { results := [.lit (.bool false)], args := [d] }
  | _ => none }
def FnExactPlaceWrongFalsely : Prop := fnExactPlaceRow.holds Try.pinned (OpenSpec.ofChange fnExactPlaceWrong)

/-- 'laws.FnRunBitstream': WHATEVER THE INPUT: true; the input reads as it did. -/
def fnRunBitstreamSpec : ChangeSpec := { name := "fnRunBitstream", fn := fun _ => fun
  | [d] => { results := [.lit (.bool true)], args := [d] }
  | _ => none }
def fnRunBitstreamRow : OpenClaim := { program := "ytgialedmbmfejaa", sum := "6f69d93bae8deb7b444fc2c24bcc125649287e8235c98909ec8d46f512f02699", func := "loop.example/fpgatoolchain/laws.FnRunBitstream", spec := "fnRunBitstream", recurses := true, plainKeys := false, apart := false }
def FnRunBitstreamSaid : Prop := fnRunBitstreamRow.holds Try.pinned (OpenSpec.ofChange fnRunBitstreamSpec)

/-- ITS FALSE NEIGHBOUR: 'it returns false'. Refute it at one input. -/
def fnRunBitstreamWrong : ChangeSpec := { name := "fnRunBitstream", fn := fun _ => fun
  | [d] => { results := [.lit (.bool false)], args := [d] }
  | _ => none }
def FnRunBitstreamWrongFalsely : Prop := fnRunBitstreamRow.holds Try.pinned (OpenSpec.ofChange fnRunBitstreamWrong)

/-- 'laws.FnConfigValid': WHATEVER THE INPUT: true; the input reads as it did. -/
def fnConfigValidSpec : ChangeSpec := { name := "fnConfigValid", fn := fun _ => fun
  | [d] => { results := [.lit (.bool true)], args := [d] }
  | _ => none }
def fnConfigValidRow : OpenClaim := { program := "ytgialedmbmfejaa", sum := "6f69d93bae8deb7b444fc2c24bcc125649287e8235c98909ec8d46f512f02699", func := "loop.example/fpgatoolchain/laws.FnConfigValid", spec := "fnConfigValid", recurses := true, plainKeys := false, apart := false }
def FnConfigValidSaid : Prop := fnConfigValidRow.holds Try.pinned (OpenSpec.ofChange fnConfigValidSpec)

/-- ITS FALSE NEIGHBOUR: 'it returns false'. Refute it at one input. -/
def fnConfigValidWrong : ChangeSpec := { name := "fnConfigValid", fn := fun _ => fun
  | [d] => { results := [.lit (.bool false)], args := [d] }
  | _ => none }
def FnConfigValidWrongFalsely : Prop := fnConfigValidRow.holds Try.pinned (OpenSpec.ofChange fnConfigValidWrong)

/-- 'laws.FnEncodeByte': WHATEVER THE INPUT: true; the input reads as it did. -/
def fnEncodeByteSpec : ChangeSpec := { name := "fnEncodeByte", fn := fun _ => fun
  | [d] => { results := [.lit (.bool true)], args := [d] }
  | _ => none }
def fnEncodeByteRow : OpenClaim := { program := "ytgialedmbmfejaa", sum := "6f69d93bae8deb7b444fc2c24bcc125649287e8235c98909ec8d46f512f02699", func := "loop.example/fpgatoolchain/laws.FnEncodeByte", spec := "fnEncodeByte", recurses := true, plainKeys := false, apart := false }
def FnEncodeByteSaid : Prop := fnEncodeByteRow.holds Try.pinned (OpenSpec.ofChange fnEncodeByteSpec)

/-- ITS FALSE NEIGHBOUR: 'it returns false'. Refute it at one input. -/
def fnEncodeByteWrong : ChangeSpec := { name := "fnEncodeByte", fn := fun _ => fun
  | [d] => { results := [.lit (.bool false)], args := [d] }
  | _ => none }
def FnEncodeByteWrongFalsely : Prop := fnEncodeByteRow.holds Try.pinned (OpenSpec.ofChange fnEncodeByteWrong)

/-- 'laws.FnEncode': WHATEVER THE INPUT: true; the input reads as it did. -/
def fnEncodeSpec : ChangeSpec := { name := "fnEncode", fn := fun _ => fun
  | [d1, d2] => { results := [.lit (.bool true)], args := [d1, d2] }
  | _ => none }
def fnEncodeRow : OpenClaim := { program := "ytgialedmbmfejaa", sum := "6f69d93bae8deb7b444fc2c24bcc125649287e8235c98909ec8d46f512f02699", func := "loop.example/fpgatoolchain/laws.FnEncode", spec := "fnEncode", recurses := true, plainKeys := false, apart := false }
def FnEncodeSaid : Prop := fnEncodeRow.holds Try.pinned (OpenSpec.ofChange fnEncodeSpec)

/-- ITS FALSE NEIGHBOUR: 'it returns false'. Refute it at one input. -/
def fnEncodeWrong : ChangeSpec := { name := "fnEncode", fn := fun _ => fun
  | [d1, d2] => { results := [.lit (.bool false)], args := [d1, d2] }
  | _ => none }
def FnEncodeWrongFalsely : Prop := fnEncodeRow.holds Try.pinned (OpenSpec.ofChange fnEncodeWrong)

/-- 'laws.FnStepFabric': WHATEVER THE INPUT: true; the input reads as it did. -/
def fnStepFabricSpec : ChangeSpec := { name := "fnStepFabric", fn := fun _ => fun
  | [d] => { results := [.lit (.bool true)], args := [d] }
  | _ => none }
def fnStepFabricRow : OpenClaim := { program := "ytgialedmbmfejaa", sum := "6f69d93bae8deb7b444fc2c24bcc125649287e8235c98909ec8d46f512f02699", func := "loop.example/fpgatoolchain/laws.FnStepFabric", spec := "fnStepFabric", recurses := true, plainKeys := false, apart := false }
def FnStepFabricSaid : Prop := fnStepFabricRow.holds Try.pinned (OpenSpec.ofChange fnStepFabricSpec)

/-- ITS FALSE NEIGHBOUR: 'it returns false'. Refute it at one input. -/
def fnStepFabricWrong : ChangeSpec := { name := "fnStepFabric", fn := fun _ => fun
  | [d] => { results := [.lit (.bool false)], args := [d] }
  | _ => none }
def FnStepFabricWrongFalsely : Prop := fnStepFabricRow.holds Try.pinned (OpenSpec.ofChange fnStepFabricWrong)

/-- 'laws.FnRunFabric': WHATEVER THE INPUT: true; the input reads as it did. -/
def fnRunFabricSpec : ChangeSpec := { name := "fnRunFabric", fn := fun _ => fun
  | [d] => { results := [.lit (.bool true)], args := [d] }
  | _ => none }
def fnRunFabricRow : OpenClaim := { program := "ytgialedmbmfejaa", sum := "6f69d93bae8deb7b444fc2c24bcc125649287e8235c98909ec8d46f512f02699", func := "loop.example/fpgatoolchain/laws.FnRunFabric", spec := "fnRunFabric", recurses := true, plainKeys := false, apart := false }
def FnRunFabricSaid : Prop := fnRunFabricRow.holds Try.pinned (OpenSpec.ofChange fnRunFabricSpec)

/-- ITS FALSE NEIGHBOUR: 'it returns false'. Refute it at one input. -/
def fnRunFabricWrong : ChangeSpec := { name := "fnRunFabric", fn := fun _ => fun
  | [d] => { results := [.lit (.bool false)], args := [d] }
  | _ => none }
def FnRunFabricWrongFalsely : Prop := fnRunFabricRow.holds Try.pinned (OpenSpec.ofChange fnRunFabricWrong)

/-- 'laws.FnWireLength': WHATEVER THE INPUT: true; the input reads as it did. -/
def fnWireLengthSpec : ChangeSpec := { name := "fnWireLength", fn := fun _ => fun
  | [d] => { results := [.lit (.bool true)], args := [d] }
  | _ => none }
def fnWireLengthRow : OpenClaim := { program := "ytgialedmbmfejaa", sum := "6f69d93bae8deb7b444fc2c24bcc125649287e8235c98909ec8d46f512f02699", func := "loop.example/fpgatoolchain/laws.FnWireLength", spec := "fnWireLength", unfollowed := true, recurses := true, plainKeys := false, apart := false }
def FnWireLengthSaid : Prop := fnWireLengthRow.holds Try.pinned (OpenSpec.ofChange fnWireLengthSpec)

/-- ITS FALSE NEIGHBOUR: 'it returns false'. Refute it at one input. -/
def fnWireLengthWrong : ChangeSpec := { name := "fnWireLength", fn := fun _ => fun
  | [d] => { results := [.lit (.bool false)], args := [d] }
  | _ => none }
def FnWireLengthWrongFalsely : Prop := fnWireLengthRow.holds Try.pinned (OpenSpec.ofChange fnWireLengthWrong)

/-- 'laws.FnExactWireLength': WHATEVER THE INPUT: true; the input reads as it did. -/
def fnExactWireLengthSpec : ChangeSpec := { name := "fnExactWireLength", fn := fun _ => fun
  | [d1, d2] => { results := [.lit (.bool true)], args := [d1, d2] }
  | _ => none }
def fnExactWireLengthRow : OpenClaim := { program := "ytgialedmbmfejaa", sum := "6f69d93bae8deb7b444fc2c24bcc125649287e8235c98909ec8d46f512f02699", func := "loop.example/fpgatoolchain/laws.FnExactWireLength", spec := "fnExactWireLength", unfollowed := true, recurses := true, plainKeys := false, apart := false }
def FnExactWireLengthSaid : Prop := fnExactWireLengthRow.holds Try.pinned (OpenSpec.ofChange fnExactWireLengthSpec)

/-- ITS FALSE NEIGHBOUR: 'it returns false'. Refute it at one input. -/
def fnExactWireLengthWrong : ChangeSpec := { name := "fnExactWireLength", fn := fun _ => fun
  | [d1, d2] => { results := [.lit (.bool false)], args := [d1, d2] }
  | _ => none }
def FnExactWireLengthWrongFalsely : Prop := fnExactWireLengthRow.holds Try.pinned (OpenSpec.ofChange fnExactWireLengthWrong)

/- THE SECOND FORM. 'bulk': how many values and letters a reading holds, each counted each time it is reached (what is shared counts as often as it is met; a slice's spare places count too). A statement '..UptoSaid' is the law's where the arguments, and the package variables that the reading takes, are together of bulk at most 1048576: NARROWER than '..Said'. Prove '..Said' where nothing that the law and all that it calls make is longer than what came in: it says more and counts as full. Else prove '..UptoSaid'. A law counts once. -/
mutual
def uptoBulk {H : Type} : DataW H → Nat
  | .lit (.string bytes) => bytes.length + 1
  | .lit _ => 1
  | .nil => 1
  | .ptr d => uptoBulk d + 1
  | .slice elems spare => uptoBulkAll elems + uptoBulkAll spare + 1
  | .agg parts => uptoBulkAll parts + 1
  | .iface _ d => uptoBulk d + 1
  | .map entries => uptoBulkEntries entries + 1
  | .held _ => 1
def uptoBulkAll {H : Type} : List (DataW H) → Nat
  | [] => 0
  | d :: r => uptoBulk d + uptoBulkAll r
def uptoBulkEntries {H : Type} : List (Lit × DataW H) → Nat
  | [] => 0
  | x :: r => uptoBulkEntry x + uptoBulkEntries r
def uptoBulkEntry {H : Type} : Lit × DataW H → Nat
  | (.string bytes, d) => bytes.length + uptoBulk d + 1
  | (_, d) => uptoBulk d + 1
 end
def uptoSmall : (H : Type) → List (DataW H) → Bool := fun _ ds => decide (uptoBulkAll ds ≤ 1048576)
def OpenSpec.upto (s : _root_.Go.ChangeSpec) : _root_.Go.OpenSpec := { _root_.Go.OpenSpec.ofChange s with cond := some uptoSmall }

/-- 'laws.FnPlace', WHERE WHAT IT READS IS OF BULK AT MOST 1048576: true; the input reads as it did. -/
def fnPlaceUptoRow : OpenClaim := { program := "ytgialedmbmfejaa", sum := "6f69d93bae8deb7b444fc2c24bcc125649287e8235c98909ec8d46f512f02699", func := "loop.example/fpgatoolchain/laws.FnPlace", spec := "fnPlace", unfollowed := true, recurses := true, plainKeys := false, apart := false, narrowed := true }
def FnPlaceUptoSaid : Prop := fnPlaceUptoRow.holds Try.pinned (OpenSpec.upto fnPlaceSpec)

/-- 'laws.FnExactPlace', WHERE WHAT IT READS IS OF BULK AT MOST 1048576: true; the input reads as it did. -/
def fnExactPlaceUptoRow : OpenClaim := { program := "ytgialedmbmfejaa", sum := "6f69d93bae8deb7b444fc2c24bcc125649287e8235c98909ec8d46f512f02699", func := "loop.example/fpgatoolchain/laws.FnExactPlace", spec := "fnExactPlace", unfollowed := true, recurses := true, plainKeys := false, apart := false, narrowed := true }
def FnExactPlaceUptoSaid : Prop := fnExactPlaceUptoRow.holds Try.pinned (OpenSpec.upto fnExactPlaceSpec)

/-- 'laws.FnRunBitstream', WHERE WHAT IT READS IS OF BULK AT MOST 1048576: true; the input reads as it did. -/
def fnRunBitstreamUptoRow : OpenClaim := { program := "ytgialedmbmfejaa", sum := "6f69d93bae8deb7b444fc2c24bcc125649287e8235c98909ec8d46f512f02699", func := "loop.example/fpgatoolchain/laws.FnRunBitstream", spec := "fnRunBitstream", recurses := true, plainKeys := false, apart := false, narrowed := true }
def FnRunBitstreamUptoSaid : Prop := fnRunBitstreamUptoRow.holds Try.pinned (OpenSpec.upto fnRunBitstreamSpec)

/-- 'laws.FnConfigValid', WHERE WHAT IT READS IS OF BULK AT MOST 1048576: true; the input reads as it did. -/
def fnConfigValidUptoRow : OpenClaim := { program := "ytgialedmbmfejaa", sum := "6f69d93bae8deb7b444fc2c24bcc125649287e8235c98909ec8d46f512f02699", func := "loop.example/fpgatoolchain/laws.FnConfigValid", spec := "fnConfigValid", recurses := true, plainKeys := false, apart := false, narrowed := true }
def FnConfigValidUptoSaid : Prop := fnConfigValidUptoRow.holds Try.pinned (OpenSpec.upto fnConfigValidSpec)

/-- 'laws.FnEncodeByte', WHERE WHAT IT READS IS OF BULK AT MOST 1048576: true; the input reads as it did. -/
def fnEncodeByteUptoRow : OpenClaim := { program := "ytgialedmbmfejaa", sum := "6f69d93bae8deb7b444fc2c24bcc125649287e8235c98909ec8d46f512f02699", func := "loop.example/fpgatoolchain/laws.FnEncodeByte", spec := "fnEncodeByte", recurses := true, plainKeys := false, apart := false, narrowed := true }
def FnEncodeByteUptoSaid : Prop := fnEncodeByteUptoRow.holds Try.pinned (OpenSpec.upto fnEncodeByteSpec)

/-- 'laws.FnEncode', WHERE WHAT IT READS IS OF BULK AT MOST 1048576: true; the input reads as it did. -/
def fnEncodeUptoRow : OpenClaim := { program := "ytgialedmbmfejaa", sum := "6f69d93bae8deb7b444fc2c24bcc125649287e8235c98909ec8d46f512f02699", func := "loop.example/fpgatoolchain/laws.FnEncode", spec := "fnEncode", recurses := true, plainKeys := false, apart := false, narrowed := true }
def FnEncodeUptoSaid : Prop := fnEncodeUptoRow.holds Try.pinned (OpenSpec.upto fnEncodeSpec)

/-- 'laws.FnStepFabric', WHERE WHAT IT READS IS OF BULK AT MOST 1048576: true; the input reads as it did. -/
def fnStepFabricUptoRow : OpenClaim := { program := "ytgialedmbmfejaa", sum := "6f69d93bae8deb7b444fc2c24bcc125649287e8235c98909ec8d46f512f02699", func := "loop.example/fpgatoolchain/laws.FnStepFabric", spec := "fnStepFabric", recurses := true, plainKeys := false, apart := false, narrowed := true }
def FnStepFabricUptoSaid : Prop := fnStepFabricUptoRow.holds Try.pinned (OpenSpec.upto fnStepFabricSpec)

/-- 'laws.FnRunFabric', WHERE WHAT IT READS IS OF BULK AT MOST 1048576: true; the input reads as it did. -/
def fnRunFabricUptoRow : OpenClaim := { program := "ytgialedmbmfejaa", sum := "6f69d93bae8deb7b444fc2c24bcc125649287e8235c98909ec8d46f512f02699", func := "loop.example/fpgatoolchain/laws.FnRunFabric", spec := "fnRunFabric", recurses := true, plainKeys := false, apart := false, narrowed := true }
def FnRunFabricUptoSaid : Prop := fnRunFabricUptoRow.holds Try.pinned (OpenSpec.upto fnRunFabricSpec)

/-- 'laws.FnWireLength', WHERE WHAT IT READS IS OF BULK AT MOST 1048576: true; the input reads as it did. -/
def fnWireLengthUptoRow : OpenClaim := { program := "ytgialedmbmfejaa", sum := "6f69d93bae8deb7b444fc2c24bcc125649287e8235c98909ec8d46f512f02699", func := "loop.example/fpgatoolchain/laws.FnWireLength", spec := "fnWireLength", unfollowed := true, recurses := true, plainKeys := false, apart := false, narrowed := true }
def FnWireLengthUptoSaid : Prop := fnWireLengthUptoRow.holds Try.pinned (OpenSpec.upto fnWireLengthSpec)

/-- 'laws.FnExactWireLength', WHERE WHAT IT READS IS OF BULK AT MOST 1048576: true; the input reads as it did. -/
def fnExactWireLengthUptoRow : OpenClaim := { program := "ytgialedmbmfejaa", sum := "6f69d93bae8deb7b444fc2c24bcc125649287e8235c98909ec8d46f512f02699", func := "loop.example/fpgatoolchain/laws.FnExactWireLength", spec := "fnExactWireLength", unfollowed := true, recurses := true, plainKeys := false, apart := false, narrowed := true }
def FnExactWireLengthUptoSaid : Prop := fnExactWireLengthUptoRow.holds Try.pinned (OpenSpec.upto fnExactWireLengthSpec)

end Rows
end Go.Proofs.Ytgialedmbmfejaa
