/- Contracts: the mapped depth, the program's and the reference's. -/
import Derived.Test.YtpomcoegpjehgaaBestI
import Derived.Test.YtpomcoegpjehgaaDepth
namespace Go.Proofs.Ytpomcoegpjehgaa
open Go.RowKit
set_option maxRecDepth 100000
set_option linter.unusedVariables false
set_option linter.unusedSimpArgs false
theorem bestN_len {c : Circ} (V : c.Valid) : ((bestN c).2.length : Int) = c.vars ∧ (bestN c).1.length = (bestN c).2.length ∧ LvOk (bestN c).2 c.gates.length := by
  have hi0 := V.i0
  have hf : 1 ≤ c.first := by unfold Circ.first; omega
  have hl := cutsN_length c hf
  have h1 := bestK_len (cutsN c) c.first.toNat c.gates.length (by unfold Circ.vars at hl; omega)
  have h2 := bestK_ok (cutsN c) c.first.toNat c.gates.length (by unfold Circ.vars at hl; omega)
  unfold bestN
  refine ⟨?_, by rw [h1.1, h1.2], h2⟩
  rw [h1.2]; unfold Circ.vars; omega
/-- Every root is a literal of a variable. -/
theorem root_ok {c : Circ} (V : c.Valid) {xs : List Int} (h : ∀ x ∈ xs, x ∈ c.next ++ c.outs) : ∀ i, i < xs.length → 0 ≤ xs.getD i 0 ∧ xs.getD i 0 < 2 * c.vars := by
  intro i hi
  obtain ⟨j, hj, he⟩ := List.mem_iff_getElem.1 (h _ (getN_mem (d := 0) hi))
  have := litB_ok (V.rs j hj)
  rw [List.getD_eq_getElem?_getD, List.getElem?_eq_getElem hj, Option.getD_some, he] at this
  exact this
set_option maxHeartbeats 2000000 in
theorem implMappedDepth_c (c : Circ) (p : Where3) (w : World) (hc : CircAt w c p) :
    Calls Try.prog 25 #[.agg #[.int .i64 c.inputs, .slice p.an c.next.length p.cn, .slice p.ag c.gates.length p.cg, .slice p.ao c.outs.length p.co]] w fun e w' => e = .returned (.int .i64 (mdepthV c)) ∧ Ext w w' := by
  have E0 : Ext w (w.alloc (.cells #[.int .i64 c.inputs, .slice p.an c.next.length p.cn, .slice p.ag c.gates.length p.cg, .slice p.ao c.outs.length p.co] 26)) := (Ext.refl w).alloc _
  have y := CircBox.made w c p 26
  obtain ⟨D, hD⟩ : ∃ D, D = mdepthV c := ⟨_, rfl⟩
  rw [← hD]
  have HD := Lib.hid hD
  clear hD
  go_enter Try.func25, Try.ntmps25
  go_wp2_with fail
  refine (implCircuitValid_c c p _ (hc.ext E0)).mono ?_
  rintro e w1 ⟨rfl, hE1⟩
  cases hv : validB c
  · have hd : D = -1 := by rw [HD.out]; unfold mdepthV; rw [hv]; rfl
    subst hd
    go_wp2
    go_ret
    exact ⟨rfl, E0.trans hE1⟩
  · have V := validB_iff.1 hv
    have hd : D = topOf (bestN c).2 (c.next ++ c.outs) := by rw [HD.out]; unfold mdepthV; rw [hv]; rfl
    obtain ⟨hl1, _, hok⟩ := bestN_len V
    have y1 := y.ext hE1
    have E1 := E0.trans hE1
    have ln := V.ln
    have lg := V.lg
    have lo := V.lo
    have hvl : c.vars ≤ 100 := by have := V.i4; unfold Circ.vars Circ.first; omega
    go_wp2_with fail
    refine (bestCuts_c w.heap.size c p _ y1 (hc.ext E1) V).mono ?_
    rintro e w2 ⟨bv, av, vals, rfl, _, hA, _, hE2⟩
    obtain ⟨ar, har⟩ : ∃ ar, ar = (bestN c).2 := ⟨_, rfl⟩
    rw [← har] at hA hl1 hok hd
    clear har
    have y2 := y1.ext hE2
    have E2 := E1.trans hE2
    obtain ⟨aa, ac, rfl, hAI, _⟩ := hA.opened
    have HOK := Lib.hid hok
    have HL1 := Lib.hid hl1
    have HDD := Lib.hid hd
    have hll : ar.length ≤ 100 := by omega
    clear hd hok hl1 hv HD
    go_wp2_with fail
    refine (roots_c w.heap.size c p _ y2 (hc.ext E2)).mono ?_
    rintro e w3 ⟨rv, xs, rfl, HX, hO, hE3⟩
    obtain ⟨ra, rc, rfl, hRI, _⟩ := hO.opened
    have hxi := root_ok V (xs := xs) (by rw [HX.out]; exact fun x hx => hx)
    have HXI := Lib.hid hxi
    have hxl : xs.length ≤ 6 := by rw [HX.out]; simp; omega
    have hI4 := hAI.ext hE3
    have E3 := E2.trans hE3
    clear hxi V
    go_wp2_with fail
    go_loop [5, 17] (fun u4 u6 => ∃ k : Nat, k ≤ xs.length ∧ u6 = .int .i64 k ∧ u4 = .int .i64 (topOf ar (xs.take k))) (fun _ u6 => xs.length - (intOf u6).toNat)
    case atStart => exact ⟨0, Nat.zero_le _, rfl, by simp [topOf]⟩
    case round =>
      obtain ⟨k, hk, rfl, rfl⟩ := hrel
      by_cases hlt : k < xs.length
      · obtain ⟨b5, o5, rfl, hb5, hc5⟩ := hRI.get (by omega)
        have q1 := hc5 k hlt
        obtain ⟨i1, i2⟩ := HXI.out k hlt
        rw [← HL1.out] at i2
        obtain ⟨b6, o6, rfl, hb6, hc6⟩ := hI4.get (by omega)
        have hs := topOf_snoc ar (xs.take k) (xs.getD k 0)
        rw [← take_snocD xs k 0 hlt] at hs
        obtain ⟨x, hx⟩ : ∃ x, x = xs.getD k 0 := ⟨_, rfl⟩
        rw [← hx] at q1 i1 i2 hs
        have q2 := hc6 (x / 2).toNat (by omega)
        have m1 := HOK.out.get (by omega) (x / 2).toNat
        have m2 := topOf_nonneg ar (xs.take k)
        have m3 := topOf_le HOK.out (by omega) (xs.take k)
        have hta : IntKind.i64.wrap (x.tdiv 2) = x / 2 := by rw [Int.tdiv_eq_ediv_of_nonneg i1]; exact IntWalk.i64_in _ (by omega)
        have k1 : 0 ≤ x / 2 := by omega
        have k2 : x / 2 < ar.length := by omega
        obtain ⟨ev, hev⟩ : ∃ z, z = ar.getD (x / 2).toNat 0 := ⟨_, rfl⟩
        rw [← hev] at q2 m1 hs
        obtain ⟨T, hT⟩ : ∃ T, T = topOf ar (xs.take k) := ⟨_, rfl⟩
        rw [← hT] at m2 m3 hs ⊢
        obtain ⟨m1a, m1b⟩ := m1
        have HS := Lib.hid hs
        clear hc5 hc6 hx hev hT hs
        by_cases hmx : T < ev
        all_goals
          go_wp2_with fail
          go_round
          case rel =>
            refine ⟨k + 1, by omega, by go_num, ?_⟩
            first | (rw [HS.out]; done) | (rw [HS.out]; congr 1; omega)
          case measure => simp [intOf]; omega
      · have hk2 : k = xs.length := by omega
        subst hk2
        have hd2 : topOf ar xs = D := by rw [HDD.out, HX.out]
        rw [List.take_length, hd2]
        go_wp2_with fail
        go_ret
        exact ⟨rfl, E3⟩
set_option maxHeartbeats 2000000 in
theorem specMappedDepth_c (c : Circ) (p : Where3) (w : World) (hc : CircAt w c p) :
    Calls Try.prog 23 #[.agg #[.int .i64 c.inputs, .slice p.an c.next.length p.cn, .slice p.ag c.gates.length p.cg, .slice p.ao c.outs.length p.co]] w fun e w' => e = .returned (.int .i64 (mdepthV c)) ∧ Ext w w' := by
  have E0 : Ext w (w.alloc (.cells #[.int .i64 c.inputs, .slice p.an c.next.length p.cn, .slice p.ag c.gates.length p.cg, .slice p.ao c.outs.length p.co] 26)) := (Ext.refl w).alloc _
  have y := CircBox.made w c p 26
  obtain ⟨D, hD⟩ : ∃ D, D = mdepthV c := ⟨_, rfl⟩
  rw [← hD]
  have HD := Lib.hid hD
  clear hD
  (obtain ⟨lb, b0, b1, b2, b3⟩ := (id y))
  go_enter Try.func23, Try.ntmps23
  go_wp2_with fail
  refine (specCircuitValid_c c p _ (hc.ext E0)).mono ?_
  rintro e w1 ⟨rfl, hE1⟩
  clear b0 b1 b2 b3 lb
  cases hv : validB c
  · have hd : D = -1 := by rw [HD.out]; unfold mdepthV; rw [hv]; rfl
    subst hd
    go_wp2
    go_ret
    exact ⟨rfl, E0.trans hE1⟩
  · have V := validB_iff.1 hv
    have hd : D = topOf (bestN c).2 (c.outs ++ c.next) := by rw [HD.out, topOf_comm]; unfold mdepthV; rw [hv]; rfl
    obtain ⟨hl1, _, hok⟩ := bestN_len V
    have y1 := y.ext hE1
    have E1 := E0.trans hE1
    have ln := V.ln
    have lg := V.lg
    have lo := V.lo
    have hvl : c.vars ≤ 100 := by have := V.i4; unfold Circ.vars Circ.first; omega
    obtain ⟨ar, har⟩ : ∃ ar, ar = (bestN c).2 := ⟨_, rfl⟩
    rw [← har] at hl1 hok hd
    have HAR := Lib.hid har
    have HV := Lib.hid V
    clear hv HD har V
    (obtain ⟨lb, b0, b1, b2, b3⟩ := (id y1))
    go_wp2_with fail
    go_region_held3 ((fun w' => (∀ b o, b < w1.heap.size → w'.cell? ⟨b, o, none⟩ = w1.cell? ⟨b, o, none⟩) ∧ Ext w1 w')) ((first | assumption | (with_reducible exact held_mk (Ext.drew w1)) | (with_reducible exact held_mk (((Ext.refl w1).alloc _).drew')) | (with_reducible exact held_mk ((Ext.drew w1).alloc _)))) (first
      | (go_simp; go_at_call 72; have hguard := hK1; obtain ⟨va, vc, rfl, _, _⟩ := hN2.sl; refine (l5Best_c c p _ _ (cutsN c) F2 _ (hc.ext (E1.trans (held_ext hK1))) HV.out hN2 rfl).mono ?_; rw [← HAR.out]; rintro e w3 ⟨bv, av, vals, rfl, _, hA, _, hE3⟩; have hK2 := held_mk ((held_ext hK1).trans hE3))
      | (go_simp; go_at_call 66; refine (l5Cuts_c c p _ (hc.ext (E1.trans (Ext.drew _))) HV.out).mono ?_; rintro e w2 ⟨v2, F2, rfl, hN2, _, hE2⟩; have hK1 := held_mk ((Ext.drew w1).trans hE2)))
    have hE3 := held_ext hK2
    obtain ⟨aa, ac, rfl, hI, _⟩ := hA.opened
    have hE2' := hE3
    have E2 := E1.trans hE3
    have Y2 := y1.ext hE3
    obtain ⟨lz2, y0, y1', y2, y3⟩ := (id Y2)
    have hnx : RowAt w3 p.an (c.next.map (Value.int .i64)) := (hc.ext E2).nx.row
    have hou : RowAt w3 p.ao (c.outs.map (Value.int .i64)) := (hc.ext E2).ou.row
    have hll : ar.length ≤ 100 := by omega
    have HOK := Lib.hid hok
    have HL1 := Lib.hid hl1
    have HDD := Lib.hid hd
    clear hK1 hK2 hE2 hE3 b0 b1 b2 b3 lb y1 hA hok hl1 hd
    have EA : Ext w3 ((w3.alloc (.cells #[] 3)).drew) := ((Ext.refl w3).alloc _).drew'
    have OA : World.ownsRow ((w3.alloc (.cells #[] 3)).drew) w3.heap.size 3 1 (.slice (some ⟨w3.heap.size, 0, none⟩) 0 0) 0 [] := ownsRow_ext (ownsRow_made w3 w3.heap.size 3 [] (Nat.le_refl _) (by decide)) (Ext.drew _)
    have YA := Y2.ext EA
    have hnA := hnx.ext EA
    have hoA := hou.ext EA
    go_wp2_with fail
    go_region_law (first | (refine step_app tyInts OA hoA (by simp) (oneCell_ints _) (by omega) (by simp) rfl rfl rfl rfl ?_; intro v3 w4 o3 g3 m3; simp only [Nat.zero_add, List.nil_append] at o3; obtain ⟨a3, c3, rfl, _, _, _, ob3⟩ := ownsRow_row o3; have E3 := ext_grown EA g3 (by intro k hk; simp [Value.ownBlock] at hk; omega); obtain ⟨_, p0, p1, p2, p3⟩ := Y2.ext E3; have hn3 := hnx.ext E3) | (refine step_app tyInts o3 hn3 (by simp) (oneCell_ints _) (by omega) (by have := E3.size; omega) rfl rfl rfl rfl ?_; intro v4 w5 o4 g4 m4))
    all_goals (
      rw [← List.map_append] at o4
      have hxl : (c.outs ++ c.next).length = c.outs.length + c.next.length := by simp
      have hxi := root_ok HV.out (xs := c.outs ++ c.next) (fun x hx => by simp only [List.mem_append] at hx ⊢; exact hx.symm)
      obtain ⟨xs, hxs⟩ : ∃ xs, xs = c.outs ++ c.next := ⟨_, rfl⟩
      rw [← hxs] at o4 hxl hxi
      have HXX := Lib.hid hxs
      obtain ⟨a4, c4, rfl, r4, _, _, b4⟩ := ownsRow_row o4
      have hX := intsAt_of_row r4
      have E4 : Ext w3 w5 := ext_grown E3 g4 (by intro k hk; have := (o3.lt _ hk).1; omega)
      have hI4 := hI.ext E4
      have HXI := Lib.hid hxi
      clear hxi o4 g4 m4 g3 m3 o3 r4 p0 p1 p2 p3 y0 y1' y2 y3 OA YA hnA hoA EA hn3 hnx hou hxs
      go_wp2_with fail
      go_loop [5, 7] (fun u4 u6 => ∃ k : Nat, k ≤ xs.length ∧ u6 = .int .i64 k ∧ u4 = .int .i64 (topOf ar (xs.take k))) (fun _ u6 => xs.length - (intOf u6).toNat)
      case atStart => exact ⟨0, Nat.zero_le _, rfl, by simp [topOf]⟩
      case round =>
        obtain ⟨k, hk, rfl, rfl⟩ := hrel
        by_cases hlt : k < xs.length
        · obtain ⟨b5, o5, rfl, hb5, hc5⟩ := hX.get (by omega)
          have q1 := hc5 k hlt
          obtain ⟨i1, i2⟩ := HXI.out k hlt
          rw [← HL1.out] at i2
          obtain ⟨b6, o6, rfl, hb6, hc6⟩ := hI4.get (by omega)
          have hs := topOf_snoc ar (xs.take k) (xs.getD k 0)
          rw [← take_snocD xs k 0 hlt] at hs
          obtain ⟨x, hx⟩ : ∃ x, x = xs.getD k 0 := ⟨_, rfl⟩
          rw [← hx] at q1 i1 i2 hs
          have q2 := hc6 (x / 2).toNat (by omega)
          have m1 := HOK.out.get (by omega) (x / 2).toNat
          have m2 := topOf_nonneg ar (xs.take k)
          have m3 := topOf_le HOK.out (by omega) (xs.take k)
          have hta : IntKind.i64.wrap (x.tdiv 2) = x / 2 := by rw [Int.tdiv_eq_ediv_of_nonneg i1]; exact IntWalk.i64_in _ (by omega)
          have k1 : 0 ≤ x / 2 := by omega
          have k2 : x / 2 < ar.length := by omega
          obtain ⟨ev, hev⟩ : ∃ z, z = ar.getD (x / 2).toNat 0 := ⟨_, rfl⟩
          rw [← hev] at q2 m1 hs
          obtain ⟨T, hT⟩ : ∃ T, T = topOf ar (xs.take k) := ⟨_, rfl⟩
          rw [← hT] at m2 m3 hs ⊢
          obtain ⟨m1a, m1b⟩ := m1
          have HS := Lib.hid hs
          clear hc5 hc6 hx hev hT hs
          by_cases hmx : T < ev
          all_goals
            go_wp2_with fail
            go_round
            case rel =>
              refine ⟨k + 1, by omega, by go_num, ?_⟩
              first | (rw [HS.out]; done) | (rw [HS.out]; congr 1; omega)
            case measure => simp [intOf]; omega
        · have hk2 : k = xs.length := by omega
          subst hk2
          have hd2 : topOf ar xs = D := by rw [HDD.out, HXX.out]
          rw [List.take_length, hd2]
          go_wp2_with fail
          go_ret
          exact ⟨rfl, E2.trans E4⟩)
end Go.Proofs.Ytpomcoegpjehgaa
