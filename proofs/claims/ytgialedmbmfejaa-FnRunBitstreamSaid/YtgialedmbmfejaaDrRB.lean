/- The drawing of the arguments of RunBitstream. -/
import Derived.Test.YtgialedmbmfejaaDrD
import Derived.Test.YtgialedmbmfejaaBFa
namespace Go.Proofs.Ytgialedmbmfejaa
open Go.RowKit
set_option maxRecDepth 100000
set_option linter.unusedVariables false
set_option linter.unusedSimpArgs false
def DrawnYR (w : World) (e : Ending) (w' : World) : Prop := ∃ a c bs ra rc xss, e = .returned (.tuple #[.slice a (List.length bs) c, .slice ra (List.length xss) rc]) ∧ BytAt w' a bs ∧ AllB bs ∧ bs.length ≤ 333 ∧ bs.length ≤ c ∧ c ≤ maxLen ∧ RowsAt w' ra xss ∧ xss.length ≤ 11 ∧ (∀ r ∈ xss, r.length = 4) ∧ Ext w w'
set_option maxHeartbeats 2000000 in
theorem DrawRunBitstream_c (a : Option Addr) (c : Nat) (bs : List Int) (w : World) (hB : BytesAt w a bs) (hl : bs.length ≤ 1048576) (hc : bs.length ≤ c) (hcm : c ≤ maxLen) :
  Calls Try.prog 28 #[.slice a bs.length c] w (DrawnYR w) := by
 go_enter Try.func28, Try.ntmps28
 go_wp2_with fail
 refine (DrawDecodeConfig_c a c bs _ hB hl hc hcm).mono ?_
 rintro e w1 ⟨ya, yc, ys, rfl, hY, hYA, hyl, hyc, hycm, hE1⟩
 go_wp2_with fail
 refine (open_c a c bs _ (hB.ext hE1) hl hc hcm).mono ?_
 rintro e w2 ⟨rb, bs', rfl, hR2, hrb, hE2⟩
 have hrl := hR2.lt
 go_wp2_with fail
 refine (l20Rows_i rb bs' 0 4 4 rfl _ hR2 (by omega) (by omega)).mono ?_
 rintro e w3 ⟨v, vals, xss, rfl, hxl, hxr, hI⟩
 obtain ⟨ra, rc, rfl, _⟩ := ownsRow_row hI.own.row
 have E3 : Ext w1 w3 := ext_of_gr hE2 hI.gr hrb
 have HXR := Lib.hid hxr
 clear hxr hE2
 go_wp2_with fail
 refine bodyPost_ret (v := .tuple #[.slice ya ys.length yc, .slice ra xss.length rc]) (by simp [results, Try.results28, go_sem]) rfl ?_
 exact ⟨_, _, ys, _, _, xss, rfl, hY.ext E3, hYA, hyl, hyc, hycm, hI.own.at_, hxl, HXR.out, hE1.trans E3⟩
end Go.Proofs.Ytgialedmbmfejaa
