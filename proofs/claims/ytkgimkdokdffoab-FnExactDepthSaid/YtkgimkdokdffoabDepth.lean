/- Contracts: the depth of a circuit, the program's and the reference's. -/
import Derived.Test.YtkgimkdokdffoabLev
import Derived.Deep.OwnRows
import Derived.Laws.OwnMore
namespace Go.Proofs.Ytkgimkdokdffoab
open Go.RowKit
set_option maxRecDepth 100000
set_option linter.unusedVariables false
set_option linter.unusedSimpArgs false
theorem ownsRow_made (w : World) (base : Nat) (e : TypeId) (xs : List Value) (hb : base ≤ w.heap.size) (hm : xs.length ≤ maxLen) : (w.alloc (.cells xs.toArray e)).ownsRow base e 1 (.slice (some ⟨w.heap.size, 0, none⟩) xs.length xs.length) xs.length xs :=
  ⟨by simp, .inr ⟨_, xs.length, xs.toArray, rfl, hb, heap_alloc_new w _, Nat.le_refl _, hm, by simp, by simp⟩⟩
theorem ownInts_zeros (w : World) (base : Nat) (e : TypeId) (n : Nat) (hb : base ≤ w.heap.size) (hm : n ≤ maxLen) : OwnInts (w.alloc (.cells (madeCells #[.int .i64 0] n) e)) base e (.slice (some ⟨w.heap.size, 0, none⟩) n n) (List.replicate n 0) := by
  have e1 : madeCells #[Value.int .i64 0] n = ((List.replicate n (0 : Int)).map (Value.int .i64)).toArray := by
    apply Array.toList_inj.1
    rw [toList_madeCells_one]
    simp
  have := ownsRow_made w base e ((List.replicate n (0 : Int)).map (Value.int .i64)) hb (by simpa using hm)
  unfold OwnInts
  rw [e1]
  simpa using this
theorem litB_iff {l n : Int} : litB l n = true ↔ 0 ≤ l ∧ l < 2 * n := by simp [litB]
theorem take_snocP {α : Type} (xs : List α) (k : Nat) (d : α) (h : k < xs.length) : xs.take (k + 1) = xs.take k ++ [xs.getD k d] := by
  rw [List.take_add_one, List.getElem?_eq_getElem h, List.getD_eq_getElem?_getD, List.getElem?_eq_getElem h]; rfl
theorem CircBox.gr {w w' : World} {b : Nat} {c : Circ} {p : Where3} {r : Option Nat} (h : CircBox w b c p) (g : w.grownBy w' r) (hne : r ≠ some b) : CircBox w' b c p := by
  have hb := g.block b h.lt (fun e => hne e.symm)
  exact ⟨Nat.lt_of_lt_of_le h.lt g.size, (World.cell?_of_block (a := ⟨b, 0, none⟩) hb).trans h.h0, (World.cell?_of_block (a := ⟨b, 1, none⟩) hb).trans h.h1, (World.cell?_of_block (a := ⟨b, 2, none⟩) hb).trans h.h2, (World.cell?_of_block (a := ⟨b, 3, none⟩) hb).trans h.h3⟩
theorem ownsRow_mono {w : World} {B base : Nat} {e : TypeId} {size : Nat} {v : Value} {n : Nat} {xs : List Value} (h : w.ownsRow base e size v n xs) (hb : B ≤ base) : w.ownsRow B e size v n xs := by
  refine ⟨h.1, ?_⟩
  rcases h.2 with h | ⟨g, cap, cur, h1, h2, h3⟩
  · exact .inl h
  · exact .inr ⟨g, cap, cur, h1, Nat.le_trans hb h2, h3⟩
theorem intInfo : (Try.prog.info? 3).map (fun i => (i.zero, i.size, i.bytes)) = some (some (.int .i64 0), 1, 8) := by kernel_rfl
def LevRel (w : World) (c : Circ) (p : Where3) (F : Nat) (u3 u4 : Value) (wr : World) : Prop :=
  ∃ k : Nat, k ≤ c.gates.length ∧ u4 = .int .i64 k ∧ OwnInts wr (w.heap.size + 1) 3 u3 (lvls F (c.gates.take k)) ∧ CircBox wr w.heap.size c p ∧ Ext w wr
set_option maxHeartbeats 1000000 in
theorem l1Levels_c (c : Circ) (p : Where3) (w : World) (hc : CircAt w c p) (V : c.Valid) :
    Calls Try.prog 66 #[.agg #[.int .i64 c.inputs, .slice p.an c.next.length p.cn, .slice p.ag c.gates.length p.cg, .slice p.ao c.outs.length p.co]] w fun e w' => ∃ v, e = .returned v ∧ OwnInts w' w.heap.size 3 v (lvls c.first.toNat c.gates) ∧ Ext w w' := by
  have hi := V.i0
  have hi4 := V.i4
  have ln := V.ln
  have lg := V.lg
  have lo := V.lo
  obtain ⟨F, hF, hF1, hF2⟩ : ∃ F : Nat, c.first = F ∧ 1 ≤ F ∧ F ≤ 8 := ⟨c.first.toNat, by unfold Circ.first; omega, by unfold Circ.first; omega, by unfold Circ.first; omega⟩
  have eF : c.first.toNat = F := by rw [hF]; rfl
  rw [eF]
  obtain ⟨an, cn, ag, cg, ao, co⟩ := p
  have y := CircBox.made w c ⟨an, cn, ag, cg, ao, co⟩ 30
  have E0 : Ext w (w.alloc (.cells #[.int .i64 c.inputs, .slice an c.next.length cn, .slice ag c.gates.length cg, .slice ao c.outs.length co] 30)) := (Ext.refl w).alloc _
  go_enter Try.func66, Try.ntmps66
  go_wp2_with fail
  refine (l1First_c c ⟨an, cn, ag, cg, ao, co⟩ _ (by omega) (by omega) (by omega)).mono ?_
  rintro e w1 ⟨rfl, hE1⟩
  rw [hF]
  have Y := y.ext hE1
  have z := Y
  obtain ⟨lz, z0, z1, z2, z3⟩ := z
  dsimp only at z0 z1 z2 z3
  have hm := run_make_row' (P := Try.prog) 22 3 (.int .i64 0) 8 Try.underlying22 intInfo rfl .i64 .i64 F (by omega) (by omega) w1
  have O0 := ownInts_zeros w1 (w.heap.size + 1) 3 F (by have := E0.size; have := hE1.size; simp at *; omega) (by simp only [maxLen]; omega)
  have E2 : Ext w (w1.alloc (.cells (madeCells #[.int .i64 0] F) 3)) := (E0.trans hE1).alloc _
  have Y2 := Y.ext ((Ext.refl w1).alloc (.cells (madeCells #[.int .i64 0] F) 3))
  go_wp2_with fail
  go_loopw [3, 4] (LevRel w c ⟨an, cn, ag, cg, ao, co⟩ F) (fun _ i _ => c.gates.length - (intOf i).toNat)
  case atStart => exact ⟨0, Nat.zero_le _, rfl, O0, Y2, E2⟩
  case round =>
    obtain ⟨k, hk, rfl, hO, hbox, hE⟩ := hrel
    have hbox2 := hbox
    obtain ⟨lb, b0, b1, b2, b3⟩ := hbox
    dsimp only at b0 b1 b2 b3
    by_cases hlt : k < c.gates.length
    · obtain ⟨b, o, hag, hb, hg1, hg2⟩ := (hc.ext hE).gs.get (by omega)
      dsimp only at hag
      subst hag
      have q1 := hg1 k hlt
      have q2 := hg2 k hlt
      have hv := V.gs k hlt
      rw [hF] at hv
      have hst := lvls_snoc F (c.gates.take k) (c.gates.getD k (0, 0))
      rw [← take_snocP c.gates k (0, 0) hlt] at hst
      obtain ⟨ga, hga⟩ : ∃ x, x = (c.gates.getD k (0, 0)).1 := ⟨_, rfl⟩
      obtain ⟨gb, hgb⟩ : ∃ x, x = (c.gates.getD k (0, 0)).2 := ⟨_, rfl⟩
      unfold lvStep at hst
      rw [← hga] at q1 hv hst
      rw [← hgb] at q2 hv hst
      clear hg1 hg2 hga hgb
      obtain ⟨va1, va2⟩ := litB_iff.1 hv.1
      obtain ⟨vb1, vb2⟩ := litB_iff.1 hv.2
      have hlen : (lvls F (c.gates.take k)).length = F + k := by rw [lvls_length, List.length_take]; omega
      have hok := lvls_ok F (c.gates.take k)
      obtain ⟨xs, hxs⟩ : ∃ xs, xs = lvls F (c.gates.take k) := ⟨_, rfl⟩
      rw [← hxs] at hO hst hlen hok
      obtain ⟨la, lc, rfl, hI, hbl⟩ := hO.opened
      have O5 := hO.ext ((Ext.refl wr).alloc (.cells #[.int .i64 ga, .int .i64 gb] 57))
      unfold OwnInts at O5
      obtain ⟨b2, o2, rfl, hb2, hcl⟩ := hI.get (by omega)
      rw [hlen] at O5
      have r1 := hcl (ga / 2).toNat (by omega)
      have r2 := hcl (gb / 2).toNat (by omega)
      have m1 := (hok.get (by omega) (ga / 2).toNat)
      have m2 := (hok.get (by omega) (gb / 2).toNat)
      obtain ⟨ea, hx⟩ : ∃ x, x = xs.getD (ga / 2).toNat 0 := ⟨_, rfl⟩
      obtain ⟨eb, hy⟩ : ∃ x, x = xs.getD (gb / 2).toNat 0 := ⟨_, rfl⟩
      rw [← hx] at r1 m1 hst
      rw [← hy] at r2 m2 hst
      have HST := Lib.hid hst
      have hl2 : (c.gates.take k).length = k := by rw [List.length_take]; omega
      rw [hl2] at m1 m2
      clear hst hcl hx hy hv hok hxs hl2 Y Y2 y hm O0 E2 z0 z1 z2 z3
      have hE5 : Ext w (wr.alloc (.cells #[.int .i64 ga, .int .i64 gb] 57)) := hE.alloc _
      go_wp2_with fail
      have hwa : IntKind.i64.wrap (1 + if ea < eb then eb else ea) = 1 + max ea eb := by
        have e : (if ea < eb then eb else ea) = max ea eb := by split <;> omega
        rw [e]; exact IntWalk.i64_in _ (by omega)
      have hta : IntKind.i64.wrap (ga.tdiv 2) = ga / 2 := by rw [Int.tdiv_eq_ediv_of_nonneg va1]; exact IntWalk.i64_in _ (by omega)
      have htb : IntKind.i64.wrap (gb.tdiv 2) = gb / 2 := by rw [Int.tdiv_eq_ediv_of_nonneg vb1]; exact IntWalk.i64_in _ (by omega)
      have ia : 0 ≤ ga / 2 ∧ ga / 2 < (F : Int) + (k : Int) := by omega
      have ib : 0 ≤ gb / 2 ∧ gb / 2 < (F : Int) + (k : Int) := by omega
      have E7 : Ext (wr.alloc (.cells #[.int .i64 ga, .int .i64 gb] 57)) (((wr.alloc (.cells #[.int .i64 ga, .int .i64 gb] 57)).alloc (.cells #[.int .i64 (1 + max ea eb)] 3)).drew) := ((Ext.refl _).alloc _).drew'
      have O6 := ownsRow_ext O5 E7
      have RN : RowAt (((wr.alloc (.cells #[.int .i64 ga, .int .i64 gb] 57)).alloc (.cells #[.int .i64 (1 + max ea eb)] 3)).drew) (some ⟨wr.heap.size + 1, 0, none⟩) [.int .i64 (1 + max ea eb)] := by
        have := (RowAt.new (wr.alloc (.cells #[.int .i64 ga, .int .i64 gb] 57)) #[.int .i64 (1 + max ea eb)] 3).ext (Ext.drew _)
        simpa using this
      go_region_law (refine step_app tyInts O6 RN rfl (oneCell_int1 _) (by omega) (by simp; omega) rfl rfl rfl rfl ?_; intro v' w8 o8 g8 m8)
      all_goals have hOO : OwnInts w8 (w.heap.size + 1) 3 v' (lvls F (c.gates.take (k + 1))) := (by rw [HST.out]; unfold OwnInts; simpa [hlen] using o8)
      all_goals have hBB : CircBox w8 w.heap.size c ⟨an, cn, some ⟨b, o, none⟩, cg, ao, co⟩ := (CircBox.gr (hbox2.ext (((Ext.refl wr).alloc _).trans E7)) g8 (by intro h; have := (O6.lt _ h).1; omega))
      all_goals have hEE : Ext w w8 := ext_grown (hE5.trans E7) g8 (by intro j hj; have := (O6.lt _ hj).1; omega)
      all_goals go_wp2
      all_goals go_roundw
      all_goals first | (exact ⟨k + 1, by omega, by go_num, hOO, hBB, hEE⟩) | (simp [intOf]; omega)
    · have hk2 : k = c.gates.length := by omega
      subst hk2
      rw [List.take_length] at hO
      go_wp2
      go_ret
      exact ⟨_, rfl, ownsRow_mono hO (by omega), hE⟩
def TopRel (w : World) (c : Circ) (xs ls : List Int) (vl vx : Value) (u6 u4 : Value) (wr : World) : Prop :=
  ∃ k : Nat, k ≤ xs.length ∧ u6 = .int .i64 k ∧ u4 = .int .i64 (topOf ls (xs.take k)) ∧ (∃ a c, vl = .slice a ls.length c ∧ IntsAt wr a ls) ∧ (∃ a c, vx = .slice a xs.length c ∧ IntsAt wr a xs) ∧ Ext w wr
set_option maxHeartbeats 1000000 in
theorem specDepth_c (c : Circ) (p : Where3) (w : World) (hc : CircAt w c p) :
    Calls Try.prog 33 #[.agg #[.int .i64 c.inputs, .slice p.an c.next.length p.cn, .slice p.ag c.gates.length p.cg, .slice p.ao c.outs.length p.co]] w fun e w' => e = .returned (.int .i64 (depthOf c)) ∧ Ext w w' := by
  obtain ⟨an, cn, ag, cg, ao, co⟩ := p
  have y := CircBox.made w c ⟨an, cn, ag, cg, ao, co⟩ 30
  have E0 : Ext w (w.alloc (.cells #[.int .i64 c.inputs, .slice an c.next.length cn, .slice ag c.gates.length cg, .slice ao c.outs.length co] 30)) := (Ext.refl w).alloc _
  obtain ⟨D, hD⟩ : ∃ D, D = depthOf c := ⟨_, rfl⟩
  rw [← hD]
  have HD := Lib.hid hD
  clear hD
  go_enter Try.func33, Try.ntmps33
  go_wp2_with fail
  refine (specCircuitValid_c c ⟨an, cn, ag, cg, ao, co⟩ _ (hc.ext E0)).mono ?_
  rintro e w1 ⟨rfl, hE1⟩
  cases hv : validB c
  · have hd : depthOf c = -1 := by simp [depthOf, hv]
    obtain rfl : D = -1 := by rw [HD.out, hd]
    go_wp2
    go_ret
    exact ⟨rfl, E0.trans hE1⟩
  · have hd : depthOf c = topOf (lvls c.first.toNat c.gates) (c.outs ++ c.next) := by simp only [depthOf, hv, if_true]; exact topOf_comm _ _ _
    have V := validB_iff.1 hv
    have ln := V.ln
    have lg := V.lg
    have lo := V.lo
    have Y := y.ext hE1
    have z := Y
    obtain ⟨lz, z0, z1, z2, z3⟩ := z
    dsimp only at z0 z1 z2 z3
    have hE01 := E0.trans hE1
    go_wp2_with fail
    refine (l1Levels_c c ⟨an, cn, ag, cg, ao, co⟩ _ (hc.ext hE01) V).mono ?_
    rintro e w2 ⟨vl, rfl, hO, hE2⟩
    have hok := lvls_ok c.first.toNat c.gates
    have hlen := lvls_length c.first.toNat c.gates
    have hfi : 1 ≤ c.first := by have := V.i0; unfold Circ.first; omega
    have hvv : c.vars = ((c.first.toNat + c.gates.length : Nat) : Int) := by unfold Circ.vars; omega
    obtain ⟨ls, hls⟩ : ∃ ls, ls = lvls c.first.toNat c.gates := ⟨_, rfl⟩
    rw [← hls] at hO hok hlen hd
    clear hls
    obtain ⟨la, lc, rfl, hI, hbl⟩ := hO.opened
    have Y2 := Y.ext hE2
    have z := Y2
    obtain ⟨lz2, y0, y1, y2, y3⟩ := z
    dsimp only at y0 y1 y2 y3
    have E2 := hE01.trans hE2
    have hnx : RowAt w2 an (c.next.map (Value.int .i64)) := (hc.ext E2).nx.row
    have hou : RowAt w2 ao (c.outs.map (Value.int .i64)) := (hc.ext E2).ou.row
    clear z0 z1 z2 z3 y Y hE1 E0 hbl hO
    have EA : Ext w2 ((w2.alloc (.cells #[] 3)).drew) := ((Ext.refl w2).alloc _).drew'
    have OA : World.ownsRow ((w2.alloc (.cells #[] 3)).drew) w2.heap.size 3 1 (.slice (some ⟨w2.heap.size, 0, none⟩) 0 0) 0 [] := ownsRow_ext (ownsRow_made w2 w2.heap.size 3 [] (Nat.le_refl _) (by decide)) (Ext.drew _)
    have YA := Y2.ext EA
    have hnA := hnx.ext EA
    have hoA := hou.ext EA
    go_wp2_with fail
    go_region_law (first | (refine step_app tyInts OA hoA (by simp) (oneCell_ints _) (by omega) (by simp) rfl rfl rfl rfl ?_; intro v3 w3 o3 g3 m3; simp only [Nat.zero_add, List.nil_append] at o3; obtain ⟨a3, c3, rfl, _, _, _, ob3⟩ := ownsRow_row o3; have E3 := ext_grown EA g3 (by intro k hk; simp [Value.ownBlock] at hk; omega); obtain ⟨_, p0, p1, p2, p3⟩ := Y2.ext E3; dsimp only at p0 p1 p2 p3; have hn3 := hnx.ext E3) | (refine step_app tyInts o3 hn3 (by simp) (oneCell_ints _) (by omega) (by have := E3.size; omega) rfl rfl rfl rfl ?_; intro v4 w4 o4 g4 m4))
    all_goals (
      rw [← List.map_append] at o4
      have hxl : (c.outs ++ c.next).length = c.outs.length + c.next.length := by simp
      have hxi : ∀ i, i < (c.outs ++ c.next).length → 0 ≤ (c.outs ++ c.next).getD i 0 ∧ (c.outs ++ c.next).getD i 0 < 2 * (ls.length : Int) := by
        intro i hi
        have hm : (c.outs ++ c.next).getD i 0 ∈ c.next ++ c.outs := by
          rw [List.getD_eq_getElem?_getD, List.getElem?_eq_getElem hi]
          have := List.getElem_mem hi
          simp only [Option.getD_some]
          simp only [List.mem_append] at this ⊢
          exact this.symm
        obtain ⟨j, hj, he⟩ := List.mem_iff_getElem.1 hm
        have := litB_iff.1 (V.rs j hj)
        rw [List.getD_eq_getElem?_getD, List.getElem?_eq_getElem hj, Option.getD_some, he, hvv, ← hlen] at this
        exact this
      obtain ⟨xs, hxs⟩ : ∃ xs, xs = c.outs ++ c.next := ⟨_, rfl⟩
      rw [← hxs] at o4 hxl hxi hd
      clear hxs
      obtain ⟨a4, c4, rfl, r4, _, _, b4⟩ := ownsRow_row o4
      have hX := intsAt_of_row r4
      have E4 : Ext w2 w4 := ext_grown E3 g4 (by intro k hk; have := (o3.lt _ hk).1; omega)
      have hI4 := hI.ext E4
      have hXI := Lib.hid hxi
      have hlb : ls.length ≤ 100 := by have := hvv; have := V.i4; unfold Circ.vars Circ.first at *; omega
      clear hxi o4 g4 m4 g3 m3 o3 r4 p0 p1 p2 p3 y0 y1 y2 y3 OA YA hnA hoA EA hn3 hnx hou
      go_wp2_with fail
      go_loopw [4, 6] (fun u4 u6 wr => ∃ k : Nat, k ≤ xs.length ∧ u6 = .int .i64 k ∧ u4 = .int .i64 (topOf ls (xs.take k)) ∧ w4 = wr) (fun _ u6 _ => xs.length - (intOf u6).toNat)
      case atStart => exact ⟨0, Nat.zero_le _, rfl, by simp [topOf], by first | rfl | trivial⟩
      case round =>
        obtain ⟨k, hk, rfl, rfl, rfl⟩ := hrel
        by_cases hlt : k < xs.length
        · obtain ⟨b5, o5, rfl, hb5, hc5⟩ := hX.get (by omega)
          obtain ⟨b6, o6, rfl, hb6, hc6⟩ := hI4.get (by omega)
          have q1 := hc5 k hlt
          obtain ⟨i1, i2⟩ := hXI.out k hlt
          have hs := topOf_snoc ls (xs.take k) (xs.getD k 0)
          rw [← take_snocP xs k 0 hlt] at hs
          obtain ⟨x, hx⟩ : ∃ x, x = xs.getD k 0 := ⟨_, rfl⟩
          rw [← hx] at q1 i1 i2 hs
          have q2 := hc6 (x / 2).toNat (by omega)
          have m1 := hok.get (by omega) (x / 2).toNat
          have m2 := topOf_nonneg ls (xs.take k)
          have m3 := topOf_le hok (by omega) (xs.take k)
          obtain ⟨ev, hev⟩ : ∃ z, z = ls.getD (x / 2).toNat 0 := ⟨_, rfl⟩
          rw [← hev] at q2 m1 hs
          obtain ⟨T, hT⟩ : ∃ T, T = topOf ls (xs.take k) := ⟨_, rfl⟩
          rw [← hT] at m2 m3 hs ⊢
          have HS := Lib.hid hs
          clear hc5 hc6 hx hev hT hs
          go_wp2
          go_roundw
          case rel =>
            refine ⟨k + 1, by omega, by go_num, ?_, by first | rfl | trivial⟩
            rw [HS.out]
            first | rfl | (congr 1; split <;> omega) | (simp; split <;> omega)
          case measure => simp [intOf]; omega
        · have hk2 : k = xs.length := by omega
          subst hk2
          rw [List.take_length]
          have hd2 : D = topOf ls xs := by rw [HD.out, hd]
          rw [← hd2]
          go_wp2
          go_ret
          exact ⟨rfl, E2.trans E4⟩)
end Go.Proofs.Ytkgimkdokdffoab
