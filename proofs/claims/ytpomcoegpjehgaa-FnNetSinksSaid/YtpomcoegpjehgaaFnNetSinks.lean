/- The law FnNetSinks: the sinks of a net are the cells that have it among their inputs, in ascending order. No condition. -/
import Derived.Test.YtpomcoegpjehgaaBytes
import Derived.Test.YtpomcoegpjehgaaDrawN
import Derived.Test.YtpomcoegpjehgaaLawH
import Derived.Test.YtpomcoegpjehgaaBSnk
import Derived.Test.YtpomcoegpjehgaaSameC
import Derived.Test.YtpomcoegpjehgaaArr0
namespace Go.Proofs.Ytpomcoegpjehgaa
open Go.ChangeShapes Go.WideShapes Go.ChangeAt Go.RowKit
set_option maxRecDepth 100000
set_option linter.unusedVariables false
set_option linter.unusedSimpArgs false
theorem sinkL_mem (cs : List CellT) (net : Int) (k i : Nat) (hi : i < k) : (sinkL cs net k).contains (i : Int) = (cs.getD i cell0).ins.contains net := by
  rw [Bool.eq_iff_iff, List.contains_iff_mem]
  unfold sinkL
  rw [List.mem_map]
  constructor
  · rintro ⟨j, hj, e⟩
    have : j = i := by omega
    subst this
    exact (List.mem_filter.1 hj).2
  · intro h
    exact ⟨i, List.mem_filter.2 ⟨List.mem_range.2 hi, h⟩, rfl⟩
theorem sinkL_asc (cs : List CellT) (net : Int) (k : Nat) : Asc (sinkL cs net k) := by
  unfold sinkL Asc
  refine List.Pairwise.map _ (fun a b h => by omega) ((List.pairwise_lt_range (n := k)).filter _)
theorem cells_range {c : Circ} {x : CellT} (hx : x ∈ cellsV c) : ∀ z ∈ x.ins, 0 < z ∧ z < varCount c := by
  unfold cellsV at hx
  cases hv : validB c
  · rw [hv] at hx; simp at hx
  · rw [hv] at hx
    simp only [if_true] at hx
    have V := validB_iff.1 hv
    have hvc : varCount c = c.vars := by simp [varCount, validB_true V]
    rw [hvc]
    rcases List.mem_append.1 hx with h | h
    · obtain ⟨i, hi, rfl⟩ := List.mem_map.1 h
      have hr := root_ok V (xs := c.next) (fun x hx => List.mem_append_left _ hx) i (by simpa using hi)
      unfold latchCell
      split
      · intro z hz
        have hz2 : z = c.next.getD i 0 / 2 := List.mem_singleton.1 hz
        rw [hz2]; omega
      · intro z hz; simp at hz
    · obtain ⟨y, hy, rfl⟩ := List.mem_map.1 h
      have K := lutList V
      intro z hz
      have h1 := K.leaf y hy z hz
      obtain ⟨k, hk, e1, _⟩ := K.el y hy
      have hf : 1 ≤ c.first := by have := V.i0; unfold Circ.first; omega
      have hvv : c.vars = c.first + c.gates.length := rfl
      omega
theorem sinks_none {c : Circ} {net : Int} (h : ¬ (0 < net ∧ net < varCount c)) : sinksV c net = [] := by
  unfold sinksV sinkL
  rw [List.map_eq_nil_iff, List.filter_eq_nil_iff]
  intro i hi hc
  have hm := getN_mem (d := cell0) (List.mem_range.1 hi)
  have : net ∈ ((cellsV c).getD i cell0).ins := by simpa using hc
  exact h (cells_range hm net this)
set_option maxHeartbeats 8000000 in
theorem fnNetSinks_walk (a0 : Option Addr) (len0 cap0 : Nat) (z0 : List Int) (w : World) (w0 : IsRow .u8 w a0 len0 cap0 z0) :
    Calls Try.prog 9 #[.slice a0 len0 cap0] w fun e w' => e = .returned (.bool true) ∧ Below w.heap.size w w' := by
  obtain ⟨bs, rfl, hB, hlc, hcm⟩ := bytes_of_row w0
  by_cases hl : bs.length ≤ 1048576
  · go_enter Try.func9, Try.ntmps9
    go_wp2_with fail
    refine (DrawNetSinks_c a0 cap0 bs _ hB hl hlc hcm).mono ?_
    rintro e w1 ⟨c, p, net, rfl, hC, hn0, hn1, hE⟩
    go_wp2_with fail
    (have y := CircBox.made w1 c p 26; have Ey : Ext w1 (w1.alloc (.cells #[.int .i64 c.inputs, .slice p.an c.next.length p.cn, .slice p.ag c.gates.length p.cg, .slice p.ao c.outs.length p.co] 26)) := (Ext.refl w1).alloc _; have hC := hC.ext Ey)
    generalize w1.alloc (.cells #[.int .i64 c.inputs, .slice p.an c.next.length p.cn, .slice p.ag c.gates.length p.cg, .slice p.ao c.outs.length p.co] 26) = W1 at *
    have E1 := Ext.trans hE Ey
    clear hE Ey
    have T1 := Lib.hid (implNetSinks_c c p net)
    have T2 := Lib.hid (specNetSinks_c c p net)
    have T3 := Lib.hid (implCells_c c p)
    have T4 := Lib.hid (implVarCount_c c p)
    obtain ⟨hc17, hc3⟩ := cells_sm c
    have hsl := sinkL_le (cellsV c) net (cellsV c).length
    have hmem : ∀ i, i < (cellsV c).length → (sinksV c net).contains (i : Int) = ((cellsV c).getD i cell0).ins.contains net := fun i hi => sinkL_mem _ net _ i hi
    have hasc : Asc (sinksV c net) := sinkL_asc _ _ _
    have hnone := sinks_none (c := c) (net := net)
    have hsv : (sinksV c net).length ≤ 17 := by unfold sinksV; omega
    obtain ⟨S, hS⟩ : ∃ S, S = sinksV c net := ⟨_, rfl⟩
    obtain ⟨cs, hcs⟩ : ∃ cs, cs = cellsV c := ⟨_, rfl⟩
    obtain ⟨M, hM⟩ : ∃ M, M = varCount c := ⟨_, rfl⟩
    rw [← hS] at T1 T2 hmem hasc hnone hsv
    rw [← hcs] at T3 hc17 hc3 hmem
    rw [← hM] at T4 hnone
    have HMEM := Lib.hid hmem
    have HASC := Lib.hid hasc
    have HNO := Lib.hid hnone
    have HC3 := Lib.hid hc3
    clear hsl hmem hasc hnone hc3 hS hcs hM
    refine (T1.out _ hC).mono ?_
    rintro e w2 ⟨v2, rfl, hO2, hE2⟩
    obtain ⟨sa, sc, rfl, hSA, _⟩ := hO2.opened
    have hC := hC.ext hE2
    have y := y.ext hE2
    have E2 := E1.trans hE2
    clear hO2 hE2 E1 T1
    (obtain ⟨ly, y0, y1, y2, y3⟩ := (id y))
    go_wp2_with fail
    refine (T2.out _ hC).mono ?_
    rintro e w3 ⟨v3, rfl, hO3, hE3⟩
    obtain ⟨ra, rc, rfl, hRA, _⟩ := hO3.opened
    have hC := hC.ext hE3
    have hSA := hSA.ext hE3
    have y := y.ext hE3
    have E3 := E2.trans hE3
    clear hO3 hE3 E2 T2 y0 y1 y2 y3 ly
    go_wp2_with fail
    refine (sameInts_c _ _ _ _ S _ hSA hRA (by omega)).mono ?_
    rintro e w4 ⟨rfl, hE4⟩
    have hC := hC.ext hE4
    have hSA := hSA.ext hE4
    have y := y.ext hE4
    have E4 := E3.trans hE4
    clear hE4 E3 hRA
    (obtain ⟨ly, y0, y1, y2, y3⟩ := (id y))
    go_wp2_with fail
    refine (T3.out _ hC).mono ?_
    rintro e w5 ⟨v5, F5, rfl, hN, _, hE5⟩
    obtain ⟨ca, cc, rfl, _⟩ := hN.sl
    have hC := hC.ext hE5
    have hSA := hSA.ext hE5
    have y := y.ext hE5
    have E5 := E4.trans hE5
    have HN := Lib.hid hN
    clear hE5 E4 T3 y0 y1 y2 y3 ly hN
    go_wp2_with fail
    go_loopw [7] (fun u wr => ∃ k : Nat, k ≤ cs.length ∧ u = .int .i64 k ∧ Ext w5 wr) (fun u _ => cs.length - (intOf u).toNat)
    case atStart => exact ⟨0, Nat.zero_le _, rfl, Ext.refl _⟩
    case round =>
      obtain ⟨k, hk, rfl, hE⟩ := hrel
      obtain ⟨w6, rfl⟩ : ∃ z : World, z = wr := ⟨_, rfl⟩
      by_cases hlt : k < cs.length
      · obtain ⟨g, rfl, hg, _, hcells⟩ := Nst.getN goodCell (HN.out.ext goodCell hE) (by omega)
        obtain ⟨ds, F1, ⟨v, rfl, o1, rfl⟩, q, _⟩ := hcells k cell0 hlt
        have r1 := q 1 _ (by omega) rfl
        have hmk := HMEM.out k hlt
        have hl3 := HC3.out _ (getN_mem (d := cell0) hlt)
        obtain ⟨x, hx⟩ : ∃ x, x = cs.getD k cell0 := ⟨_, rfl⟩
        rw [← hx] at o1 hmk hl3
        obtain ⟨va, vc, rfl, hI, _⟩ := o1.opened
        have HMK := Lib.hid hmk
        obtain ⟨B, hB2⟩ : ∃ B, B = x.ins.contains net := ⟨_, rfl⟩
        rw [← hB2] at HMK
        have HB := Lib.hid hB2
        have hSk := hSA.ext hE
        clear hx q hcells o1 hmk hB2
        go_wp2_with fail
        refine (lawContains_c va vc x.ins net _ hI (by omega)).mono ?_
        rw [← HB.out]
        rintro e w7 ⟨rfl, hE7⟩
        have hSk := hSk.ext hE7
        go_wp2_with fail
        refine (lawContains_c sa sc S k _ hSk (by omega)).mono ?_
        rw [HMK.out]
        rintro e w8 ⟨rfl, hE8⟩
        have hbb : (B != B) = false := by cases B <;> rfl
        go_wp2_with fail
        go_roundw
        case rel => exact ⟨k + 1, by omega, by go_num, (hE.trans hE7).trans hE8⟩
        case measure => simp [intOf]; omega
      · go_wp2_with fail
        go_loopw [8] (fun u wr => ∃ k : Nat, 1 ≤ k ∧ (k ≤ S.length ∨ k = 1) ∧ u = .int .i64 k ∧ Ext w6 wr) (fun u _ => S.length - (intOf u).toNat)
        case atStart => exact ⟨1, Nat.le_refl _, .inr rfl, rfl, Ext.refl _⟩
        case round =>
          obtain ⟨k, hk1, hk2, rfl, hE6⟩ := hrel
          obtain ⟨w7, rfl⟩ : ∃ z : World, z = wr := ⟨_, rfl⟩
          by_cases hlt2 : k < S.length
          · obtain ⟨b5, o5, rfl, hb5, hc5⟩ := ((hSA.ext hE).ext hE6).get (by omega)
            obtain ⟨j, rfl⟩ : ∃ j, k = j + 1 := ⟨k - 1, by omega⟩
            have q1 := hc5 j (by omega)
            have q2 := hc5 (j + 1) hlt2
            have hij := List.pairwise_iff_getElem.1 HASC.out j (j + 1) (by omega) hlt2 (by omega)
            have e1 : S.getD j 0 = S[j] := by rw [List.getD_eq_getElem?_getD, List.getElem?_eq_getElem (by omega)]; rfl
            have e2 : S.getD (j + 1) 0 = S[j + 1] := by rw [List.getD_eq_getElem?_getD, List.getElem?_eq_getElem hlt2]; rfl
            rw [e1] at q1
            rw [e2] at q2
            obtain ⟨s, hs⟩ : ∃ s, s = S[j] := ⟨_, rfl⟩
            obtain ⟨t, ht⟩ : ∃ t, t = S[j + 1] := ⟨_, rfl⟩
            rw [← hs] at q1 hij
            rw [← ht] at q2 hij
            have hwj : IntKind.i64.wrap (((j + 1 : Nat) : Int) - 1) = (j : Int) := by rw [IntWalk.i64_in _ (by omega)]; omega
            have hj1 : (((j + 1 : Nat) : Int) - 1) = (j : Int) := by omega
            have hge : decide (t ≤ s) = false := by simp; omega
            clear hc5 hs ht e1 e2
            go_wp2_with fail
            go_quiet (fail)
            go_wp2
            go_roundw
            case rel => exact ⟨j + 1 + 1, by omega, .inl (by omega), by go_num, hE6.trans (by (repeat (first | with_reducible assumption | with_reducible exact Ext.refl _ | with_reducible refine Ext.drew' ?_ | with_reducible refine Ext.drewN' ?_ _ | with_reducible refine Ext.alloc ?_ _ | (with_reducible refine Ext.setNew ?_ (by first | exact Nat.le_refl _ | (simp; done) | (simp; omega) | omega) _))))⟩
            case measure => simp [intOf]; omega
          · have hy := y.ext (hE.trans hE6)
            have hC7 := hC.ext (hE.trans hE6)
            have E7 := (E5.trans hE).trans hE6
            (obtain ⟨ly, y0, y1, y2, y3⟩ := (id hy))
            by_cases hpos : 0 < net
            · have hp1 : decide (0 < net) = true := by simp [hpos]
              clear hk1 hk2
              go_wp2_with fail
              refine (T4.out _ hC7).mono ?_
              rintro e w8 ⟨rfl, hE8⟩
              by_cases hlm : net < M
              · have hp2 : decide (net < M) = true := by simp [hlm]
                go_wp2_with fail
                refine (alive_c _).mono ?_
                rintro e w9 ⟨rfl, hE9⟩
                go_wp2_with fail
                go_ret
                exact ⟨rfl, (E7.trans hE8).trans hE9⟩
              · have hp2 : decide (net < M) = false := by simp; omega
                have hz := HNO.out (by omega)
                have hz2 : ((S.length : Int) == 0) = true := by rw [hz]; rfl
                clear hz
                go_wp2_with fail
                refine (alive_c _).mono ?_
                rintro e w9 ⟨rfl, hE9⟩
                go_wp2_with fail
                go_ret
                exact ⟨rfl, (E7.trans hE8).trans hE9⟩
            · have hp1 : decide (0 < net) = false := by simp; omega
              have hz := HNO.out (by omega)
              have hz2 : ((S.length : Int) == 0) = true := by rw [hz]; rfl
              clear hz hk1 hk2
              go_wp2_with fail
              refine (alive_c _).mono ?_
              rintro e w9 ⟨rfl, hE9⟩
              go_wp2_with fail
              go_ret
              exact ⟨rfl, E7.trans hE9⟩
  · go_enter Try.func9, Try.ntmps9
    go_wp2
    go_ret
    exact ⟨rfl, Ext.refl _⟩
theorem fnNetSinks_lifted (os : Os) (started : os.Started) (H : Type) (enc : TypeId × Value → H) :
    ReturnsInHanded {} Try.checked os 9 .any (Rows.fnNetSinksSpec.pre6 enc Try.prog Try.f9 Rows.fnNetSinksRow.domain false) (Rows.fnNetSinksSpec.post enc Try.prog Try.f9 false true false false) := by
  refine returnsInHanded_of_change (C := Try.checked) own started (by kernel_rfl) Try.func9
    (ChangeSpec.witness6 (enc := enc) (C := Try.checked) false ⟨#[], #[.slice none 0 0], []⟩ 8 (by kernel_rfl) (by kernel_rfl) (by kernel_rfl) (by kernel_rfl)) ?_
  intro W base args ds gs before hval0 hW hcnd _
  have hval : ∀ (j : Nat) t v, Try.f9.params[j]? = some t → args[j]? = some v → Value.okWide Try.prog W .any base t v := hval0
  have hW' := hW
  obtain ⟨p, q, hA0, hV, rfl, hfz, hnd⟩ := hW
  have hA : DataW.TrodAll enc Try.prog W 0 (fun _ => true) true Try.f9.params.toList args.toList ds p := hA0
  rw [Try.params9] at hA hval
  obtain ⟨v0, vs0, d0, ds0, p0, q0, hargs, rfl, rfl, h0, r0⟩ := trodAll_cons hA
  obtain ⟨rfl, rfl, rfl⟩ := trodAll_nil r0
  obtain rfl : args = #[v0] := by cases args; simp_all
  obtain ⟨rfl, rfl⟩ := trodVars_none hV
  obtain ⟨a0, len0, cap0, rfl⟩ := okWide_slice Try.underlying22 (hval 0 22 v0 rfl rfl)
  have k0 := h0
  have lt0 : ∀ x ∈ p0, x.block < W.heap.size := by obtain ⟨m, hm⟩ := k0; exact DataW.trod_lt m _ _ _ hm
  obtain ⟨z0, w0⟩ : ∃ zs, IsRow .u8 W a0 len0 cap0 zs := by
    obtain ⟨fuel, hf⟩ := h0
    rcases open_ints Try.underlying22 Try.underlying5 (by kernel_rfl) hf with ⟨hcs, _⟩ | ⟨x, l, c, zs, hcs, _, hl, hm, hz, _, hcell, hwz⟩
    · simp [Value.cells] at hcs
      obtain ⟨rfl, rfl, rfl⟩ := hcs
      exact ⟨[], .inl ⟨rfl, rfl, rfl, rfl⟩⟩
    · simp [Value.cells] at hcs
      obtain ⟨rfl, rfl, rfl⟩ := hcs
      exact ⟨zs, .inr ⟨_, rfl, hl, hm, by simpa using hz, hcell, hwz⟩⟩
  clear hA0 hval0
  refine (fnNetSinks_walk a0 len0 cap0 z0 W w0).mono fun e W' ⟨he, bel⟩ => ?_
  subst he
  exact ⟨_, rfl, _, _, _, [], _, [], hW', trodAll_mk1 (shut_bool Try.underlying4 _), (trodAll_cons_mk (Below.trod laidOut (by kernel_rfl) (of_decide_eq_true (by kernel_rfl)) k0 bel lt0) trodAll_mk0), rfl, bel.frame _, fun h => by cases h⟩
theorem fnNetSinks_over : Rows.fnNetSinksRow.holds Try.pinned (OpenSpec.ofChange Rows.fnNetSinksSpec) :=
  OpenClaim.holds_of_wide 9 Try.f9 rfl rfl rfl rfl rfl rfl rfl ⟨rfl, rfl, rfl, rfl, rfl⟩ rfl rfl rfl rfl rfl (by kernel_rfl) Try.func9 (by kernel_rfl)
    (of_decide_eq_true (by kernel_rfl)) (by unfold Func.isWrapper; first | (rw [if_pos (by decide +kernel)]; kernel_rfl) | (rw [if_neg (by decide +kernel)]; exact ⟨rfl, rfl⟩))
    (fun os started H enc _ => fnNetSinks_lifted os started H enc)
theorem fnNetSinks_holds : Rows.FnNetSinksSaid := fnNetSinks_over
end Go.Proofs.Ytpomcoegpjehgaa
