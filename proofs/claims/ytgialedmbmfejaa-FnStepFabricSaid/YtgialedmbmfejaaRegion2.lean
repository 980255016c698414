/- A statement whose order is open: an operation that comes up alone, behind all that the loads rest on. -/
import Derived.Test.YtgialedmbmfejaaRegion
namespace Go.Proofs.Ytgialedmbmfejaa
section
variable {P : Program} {ops : Array Oper} {Q : Exit → Act → World → Prop} {md : Region.Mode} {S : World → Prop} {n : Nat}
/-- Number i alone may come up, and nothing rests on what it leaves unchanged. -/
theorem wpAnyT_doN (i : Nat) {o : Oper} {fuel : Nat} {listed : Array Bool} {a : Act} {w : World} (hr : Region.ready md ops listed = [i]) (ho : ops[i]? = some o) (hin : n ≤ i)
  (h : ∀ K' : Act → World → Prop, (∀ a w, wpAnyT P md ops Q S n fuel (listed.setIfInBounds i true) a w → K' a w) → if Region.wanted o (yielded ops a.tmps) = true then Oper.wp P o a w K' Q else K' (a.put o.dst undef) w) :
  wpAnyT P md ops Q S n (fuel + 1) listed a w := by
 refine ⟨fun h0 => (by rw [hr] at h0; cases h0), fun j hj => ?_⟩
 rw [hr] at hj
 obtain rfl : j = i := by simpa using hj
 exact wpOp_step ho fun K' hK => h K' fun a w hT => hK a w ⟨fun hlt => absurd hlt (by omega), hT⟩
theorem wpAnyT_doNB (i : Nat) {o : Oper} {fuel : Nat} {listed : Array Bool} {a : Act} {w : World} (hr : Region.ready md ops listed = [i]) (ho : ops[i]? = some o) (hin : n ≤ i)
  (h : ∀ K' : Act → World → Prop, (∀ a w, wpAnyT P md ops Q S n fuel (listed.setIfInBounds i true) a w → K' a w) → Bx (if Region.wanted o (yielded ops a.tmps) = true then Oper.wp P o a w K' Q else K' (a.put o.dst undef) w)) :
  wpAnyT P md ops Q S n (fuel + 1) listed a w := wpAnyT_doN i hr ho hin (fun K' hK => (h K' hK).out)
end
end Go.Proofs.Ytgialedmbmfejaa
