/- Contracts: whether an assignment detects a fault, the reference's way. -/
import Derived.Test.YtpfhlodlefcomaaDetS
import Derived.Test.YtpfhlodlefcomaaRegion
namespace Go.Proofs.Ytpfhlodlefcomaa
open Go.RowKit
set_option maxRecDepth 100000
set_option linter.unusedVariables false
set_option linter.unusedSimpArgs false
theorem l4Bits_i (xi ni : Int) (x n : Nat) (h1 : xi = x) (h2 : ni = n) (hx : x ≤ 100000000) (hn : n ≤ 30) (w : World) :
    Calls Try.prog 62 #[.int .i64 xi, .int .i64 ni] w (GiveB w (bitsN x n)) := by
  subst h1 h2; exact l4Bits_c x n hx hn w
end Go.Proofs.Ytpfhlodlefcomaa
