/- Contracts: faults, the reference's way. -/
import Derived.Test.YtkdiniaddnhkdaaDet
namespace Go.Proofs.Ytkdiniaddnhkdaa
open Go.RowKit
set_option maxRecDepth 100000
set_option linter.unusedVariables false
set_option linter.unusedSimpArgs false
theorem base0_pos (s : Int) (b : Bool) (ins st : List Bool) (h : 1 ≤ s) (hl : s < 1 + ins.length + st.length) : base0 s b ins st = (vals0 ins st).set s.toNat b := by unfold base0; rw [if_pos (by omega)]
theorem base0_big (s : Int) (b : Bool) (ins st : List Bool) (h : 1 ≤ s) (hl : ¬ s < 1 + ins.length + st.length) : base0 s b ins st = vals0 ins st := by
  unfold base0
  rw [if_pos (by omega), List.set_eq_of_length_le]
  simp only [vals0, List.length_cons, List.length_append]; omega
theorem sVals_zero (s : Int) (b : Bool) (ins st : List Bool) : sVals s b ins st [] = base0 s b ins st := rfl
def S12Rel (w : World) (c : Circ) (p : Where3) (s : Int) (v : Bool) (ins st : List Bool) (u9 u10 : Value) (wr : World) : Prop :=
  ∃ k : Nat, k ≤ c.gates.length ∧ u10 = .int .i64 k ∧ OwnB wr (w.heap.size + 2) u9 (sVals s v ins st (c.gates.take k)) ∧ CircBox wr w.heap.size c p ∧ Blk wr (w.heap.size + 1) 50 [.int .i64 s, .bool v] ∧ Ext w wr
set_option maxHeartbeats 4000000 in
theorem l12ValuesLt (c : Circ) (p : Where3) (s : Int) (v : Bool) (sa ia : Option Addr) (sc ic : Nat) (st ins : List Bool) (w : World) (hc : CircAt w c p) (V : c.Valid) (hs : BoolsAt w sa st) (hi : BoolsAt w ia ins) (ls : st.length = c.next.length) (li : (ins.length : Int) = c.inputs) (h1s : 1 ≤ s) (hsv : s < c.vars) (hsF : s < 1 + ins.length + st.length) :
    Calls Try.prog 125 #[.agg #[.int .i64 c.inputs, .slice p.an c.next.length p.cn, .slice p.ag c.gates.length p.cg, .slice p.ao c.outs.length p.co], .agg #[.int .i64 s, .bool v], .slice sa st.length sc, .slice ia ins.length ic] w (GiveB w (sVals s v ins st c.gates)) := by
  have hvl := vars_le V
  have hi0 := V.i0
  have hi4 := V.i4
  have ln := V.ln
  have lg := V.lg
  obtain ⟨F, hF⟩ : ∃ F, F = 1 + ins.length + st.length := ⟨_, rfl⟩
  have hff : c.first = (F : Int) := by unfold Circ.first; omega
  have HF := Lib.hid hF
  have HFF := Lib.hid hff
  have hF1 : 1 + ins.length + st.length ≤ F := by omega
  have hF2 : F ≤ 1 + ins.length + st.length := by omega
  have li1 : (ins.length : Int) ≤ 4 := by omega
  have ls1 : st.length ≤ 3 := by omega
  have hs22 : s < 22 := by omega
  have B1 := base0_pos s v ins st h1s hsF
  have BH := Lib.hid B1
  clear B1
  clear hF hff li ls
  have y := (CircBox.made w c p 42).ext (((Ext.refl _).alloc (.cells #[.int .i64 s, .bool v] 50)).alloc (.cells #[.bool false] 4))
  have f := (Blk.at (w.alloc (.cells #[.int .i64 c.inputs, .slice p.an c.next.length p.cn, .slice p.ag c.gates.length p.cg, .slice p.ao c.outs.length p.co] 42)) [.int .i64 s, .bool v] 50 (B := w.heap.size + 1) (by simp)).ext ((Ext.refl _).alloc (.cells #[.bool false] 4))
  have B0 := Blk.at ((w.alloc (.cells #[.int .i64 c.inputs, .slice p.an c.next.length p.cn, .slice p.ag c.gates.length p.cg, .slice p.ao c.outs.length p.co] 42)).alloc (.cells #[.int .i64 s, .bool v] 50)) [.bool false] 4 (B := w.heap.size + 2) (by simp)
  have O0 := B0.owns (n := 1) (size := 1) rfl (Nat.le_refl _) (by decide)
  have E0 : Ext w (((w.alloc (.cells #[.int .i64 c.inputs, .slice p.an c.next.length p.cn, .slice p.ag c.gates.length p.cg, .slice p.ao c.outs.length p.co] 42)).alloc (.cells #[.int .i64 s, .bool v] 50)).alloc (.cells #[.bool false] 4)) := (((Ext.refl w).alloc _).alloc _).alloc _
  have hir := (hi.ext E0).row
  go_enter Try.func125, Try.ntmps125
  go_wp2_with (at_builtin; (first | (refine wpList_app tyBools O0 hir (by simp) (oneCell_bools _) (by omega) (by simp) rfl rfl rfl rfl ?_; intro v1 w1 o1 g1 _; have E1 := ext_grown E0 g1 (by intro k hk; simp [Value.ownBlock] at hk; omega); have y1 := y.grn g1 (by simp [Value.ownBlock]); have f1 := f.gr g1 (by simp [Value.ownBlock])) | (refine wpList_app tyBools o1 (hs.ext E1).row (by simp) (oneCell_bools _) (by omega) (by have := E1.size; have := g1.size; simp at this; omega) rfl rfl rfl rfl ?_; intro v2 w2 o2 g2 _; have E2 := ext_grown E1 g2 (by intro k hk; have := (o1.lt _ hk).1; omega); have y2 := y1.grn g2 (by intro h; have := (o1.lt _ h).1; omega); have f2 := f1.gr g2 (by intro h; have := (o1.lt _ h).1; omega); obtain ⟨a2, c2, rfl, _, hcc, hcm, _⟩ := ownsRow_row o2; obtain ⟨gB, rfl, hgB, hgl⟩ := ownsRow_block o2 (by omega); have f20 := f2.cell (i := 0) rfl; have f21 := f2.cell (i := 1) rfl; (obtain ⟨uu, quu⟩ : ∃ u, w2.cell? ⟨gB, s.toNat, none⟩ = some u := ⟨_, ownsRow_cell o2 (List.getElem?_eq_getElem (by simp; omega))⟩); have fzz := ownsRow_frozen o2 s.toNat)))
  clear O0 B0 y y1 f f1 E0 E1 hir g1 g2 o1
  have S0 : OwnB (w2.setCell ⟨gB, s.toNat, none⟩ (.bool v)) (w.heap.size + 2) (.slice (some ⟨gB, 0, none⟩) (1 + ins.length + st.length) c2) (sVals s v ins st (c.gates.take 0)) := by
    have e : (sVals s v ins st (c.gates.take 0)) = ([false] ++ ins ++ st).set s.toNat v := by rw [List.take_zero, sVals_zero, BH.out]; simp [vals0]
    rw [e]
    have o3 := ownsRow_setAt o2 s.toNat (by simp; omega) (.bool v)
    unfold OwnB
    rw [map_set, List.length_set, List.map_append, List.map_append]
    have el : ([false] ++ ins ++ st).length = 1 + ins.length + st.length := by rw [List.length_append, List.length_append]; rfl
    rw [el]
    exact o3
  have y3 : CircBox (w2.setCell ⟨gB, s.toNat, none⟩ (.bool v)) w.heap.size c p := y2.grn (r := some gB) (gr_setOwn (Gr.refl _ _) _ _) (by simp; omega)
  have f3 : Blk (w2.setCell ⟨gB, s.toNat, none⟩ (.bool v)) (w.heap.size + 1) 50 [.int .i64 s, .bool v] := f2.setOther (by simp; omega) _
  have E3 : Ext w (w2.setCell ⟨gB, s.toNat, none⟩ (.bool v)) := Ext.setNew E2 (by simp; omega) _
  clear o2 y2 f2 E2 f20 f21 quu fzz
  go_loopw [9, 10] (S12Rel w c p s v ins st) (fun _ i _ => c.gates.length - (intOf i).toNat)
  case atStart => exact ⟨0, Nat.zero_le _, rfl, S0, y3, f3, E3⟩
  case round =>
    obtain ⟨k, hk, rfl, hO, hb, hf, hE⟩ := hrel
    clear S0 y3 f3 E3
    obtain ⟨an, cn, ag, cg, ao, co⟩ := p
    (obtain ⟨lb, b0, b1, b2, b3⟩ := (id hb))
    dsimp only at b0 b1 b2 b3
    have f00 := hf.cell (i := 0) rfl
    have f01 := hf.cell (i := 1) rfl
    by_cases hlt : k < c.gates.length
    · obtain ⟨b9, o9, hag, hb9, hg1, hg2⟩ := (hc.ext hE).gs.get (by omega)
      dsimp only at hag
      subst hag
      have q1 := hg1 k hlt
      have q2 := hg2 k hlt
      have hv := V.gs k hlt
      rw [HFF.out] at hv
      obtain ⟨va, vb⟩ := hv
      have va := litB_iff'.1 va
      have vb := litB_iff'.1 vb
      obtain ⟨va1, va2⟩ := va
      obtain ⟨vb1, vb2⟩ := vb
      have hlen := sVals_length s v ins st (c.gates.take k)
      rw [List.length_take, Nat.min_eq_left (by omega), ← HF.out] at hlen
      have hsn := sVals_snoc s v ins st (c.gates.take k) (c.gates.getD k (0, 0))
      rw [← take_snocG c.gates k (0, 0) hlt] at hsn
      unfold sStep at hsn
      obtain ⟨ga, hga⟩ : ∃ x, x = (c.gates.getD k (0, 0)).1 := ⟨_, rfl⟩
      obtain ⟨gb, hgb⟩ : ∃ x, x = (c.gates.getD k (0, 0)).2 := ⟨_, rfl⟩
      rw [← hga] at q1 va1 va2 hsn
      rw [← hgb] at q2 vb1 vb2 hsn
      obtain ⟨xs, hxs⟩ : ∃ xs, xs = sVals s v ins st (c.gates.take k) := ⟨_, rfl⟩
      rw [← hxs] at hO hlen hsn
      have HS := Lib.hid hsn
      have hl1 : xs.length ≤ F + k := by omega
      have hl2 : F + k ≤ xs.length := by omega
      clear hga hgb hxs hg1 hg2 hsn hlen
      have OX := hO
      obtain ⟨a, cc, rfl, hX⟩ := hO.opened
      have hOb := fun k hk => (OX.lt' k hk).1
      cases hva : litV xs ga
      all_goals cases hvb : litV xs gb
      all_goals by_cases hx : (xs.length : Int) = s
      all_goals
        first
        | (have hx1 : (s == (xs.length : Int)) = true := by simp; omega)
        | (have hx1 : (s == (xs.length : Int)) = false := by simp; omega)
        have HX := Lib.hid hx
        clear hx
        go_wp2_with (first | (go_at_call 145; refine (l2Lit_c _ _ xs.length xs rfl _ _ hX (by omega) (by omega) (by omega)).mono ?_; rintro e w6 ⟨rfl, rfl⟩) | (at_builtin; refine wpList_app tyBools (ownsRow_ext OX ((Ext.refl wr).alloc _)) (RowAt.new wr _ _) rfl (by simp [Value.oneCell']) (by omega) (by have := hE.size; simp; omega) rfl rfl rfl rfl ?_; intro v2 w2 o2 g2 m2))
        go_roundw
        case rel =>
          have yb := (hb.ext ((Ext.refl wr).alloc (.cells _ _))).grn g2 (by intro h; have := hOb _ h; omega)
          have fb : Blk w2 _ _ _ := (hf.ext ((Ext.refl wr).alloc (.cells _ _))).gr g2 (by intro h; have := hOb _ h; omega)
          refine ⟨k + 1, by omega, by go_num, ?_, yb, fb, ext_grown (hE.alloc _) g2 (by intro k hk; have := hOb _ hk; omega)⟩
          rw [HS.out, hva, hvb]
          first | rw [if_pos HX.out] | rw [if_neg HX.out]
          exact OwnB.app rfl rfl o2
        case measure => simp [intOf]; omega
    · have hk2 : k = c.gates.length := by omega
      subst hk2
      rw [List.take_length] at hO
      go_wp2
      go_ret
      exact ⟨_, rfl, hO.le (by omega), hE⟩
set_option maxHeartbeats 4000000 in
theorem l12ValuesGe (c : Circ) (p : Where3) (s : Int) (v : Bool) (sa ia : Option Addr) (sc ic : Nat) (st ins : List Bool) (w : World) (hc : CircAt w c p) (V : c.Valid) (hs : BoolsAt w sa st) (hi : BoolsAt w ia ins) (ls : st.length = c.next.length) (li : (ins.length : Int) = c.inputs) (h1s : 1 ≤ s) (hsv : s < c.vars) (hsF : ¬ s < 1 + ins.length + st.length) :
    Calls Try.prog 125 #[.agg #[.int .i64 c.inputs, .slice p.an c.next.length p.cn, .slice p.ag c.gates.length p.cg, .slice p.ao c.outs.length p.co], .agg #[.int .i64 s, .bool v], .slice sa st.length sc, .slice ia ins.length ic] w (GiveB w (sVals s v ins st c.gates)) := by
  have hvl := vars_le V
  have hi0 := V.i0
  have hi4 := V.i4
  have ln := V.ln
  have lg := V.lg
  obtain ⟨F, hF⟩ : ∃ F, F = 1 + ins.length + st.length := ⟨_, rfl⟩
  have hff : c.first = (F : Int) := by unfold Circ.first; omega
  have HF := Lib.hid hF
  have HFF := Lib.hid hff
  have hF1 : 1 + ins.length + st.length ≤ F := by omega
  have hF2 : F ≤ 1 + ins.length + st.length := by omega
  have li1 : (ins.length : Int) ≤ 4 := by omega
  have ls1 : st.length ≤ 3 := by omega
  have hs22 : s < 22 := by omega
  have B1 := base0_big s v ins st h1s hsF
  have BH := Lib.hid B1
  clear B1
  clear hF hff li ls
  have y := (CircBox.made w c p 42).ext (((Ext.refl _).alloc (.cells #[.int .i64 s, .bool v] 50)).alloc (.cells #[.bool false] 4))
  have f := (Blk.at (w.alloc (.cells #[.int .i64 c.inputs, .slice p.an c.next.length p.cn, .slice p.ag c.gates.length p.cg, .slice p.ao c.outs.length p.co] 42)) [.int .i64 s, .bool v] 50 (B := w.heap.size + 1) (by simp)).ext ((Ext.refl _).alloc (.cells #[.bool false] 4))
  have B0 := Blk.at ((w.alloc (.cells #[.int .i64 c.inputs, .slice p.an c.next.length p.cn, .slice p.ag c.gates.length p.cg, .slice p.ao c.outs.length p.co] 42)).alloc (.cells #[.int .i64 s, .bool v] 50)) [.bool false] 4 (B := w.heap.size + 2) (by simp)
  have O0 := B0.owns (n := 1) (size := 1) rfl (Nat.le_refl _) (by decide)
  have E0 : Ext w (((w.alloc (.cells #[.int .i64 c.inputs, .slice p.an c.next.length p.cn, .slice p.ag c.gates.length p.cg, .slice p.ao c.outs.length p.co] 42)).alloc (.cells #[.int .i64 s, .bool v] 50)).alloc (.cells #[.bool false] 4)) := (((Ext.refl w).alloc _).alloc _).alloc _
  have hir := (hi.ext E0).row
  go_enter Try.func125, Try.ntmps125
  go_wp2_with (at_builtin; (first | (refine wpList_app tyBools O0 hir (by simp) (oneCell_bools _) (by omega) (by simp) rfl rfl rfl rfl ?_; intro v1 w1 o1 g1 _; have E1 := ext_grown E0 g1 (by intro k hk; simp [Value.ownBlock] at hk; omega); have y1 := y.grn g1 (by simp [Value.ownBlock]); have f1 := f.gr g1 (by simp [Value.ownBlock])) | (refine wpList_app tyBools o1 (hs.ext E1).row (by simp) (oneCell_bools _) (by omega) (by have := E1.size; have := g1.size; simp at this; omega) rfl rfl rfl rfl ?_; intro v2 w2 o2 g2 _; have E2 := ext_grown E1 g2 (by intro k hk; have := (o1.lt _ hk).1; omega); have y2 := y1.grn g2 (by intro h; have := (o1.lt _ h).1; omega); have f2 := f1.gr g2 (by intro h; have := (o1.lt _ h).1; omega); obtain ⟨a2, c2, rfl, _, hcc, hcm, _⟩ := ownsRow_row o2; obtain ⟨gB, rfl, hgB, hgl⟩ := ownsRow_block o2 (by omega); have f20 := f2.cell (i := 0) rfl; have f21 := f2.cell (i := 1) rfl; skip; have fzz := ownsRow_frozen o2 s.toNat)))
  clear O0 B0 y y1 f f1 E0 E1 hir g1 g2 o1
  have S0 : OwnB w2 (w.heap.size + 2) (.slice (some ⟨gB, 0, none⟩) (1 + ins.length + st.length) c2) (sVals s v ins st (c.gates.take 0)) := by
    have e : (sVals s v ins st (c.gates.take 0)) = [false] ++ ins ++ st := by rw [List.take_zero, sVals_zero, BH.out]; simp [vals0]
    rw [e]
    exact OwnB.app (xs := [false] ++ ins) (n := 1 + ins.length) (by rw [List.length_append]; rfl) rfl (by rw [List.map_append]; exact o2)
  have y3 := y2
  have f3 := f2
  have E3 := E2
  clear o2 y2 f2 E2 f20 f21
  go_loopw [9, 10] (S12Rel w c p s v ins st) (fun _ i _ => c.gates.length - (intOf i).toNat)
  case atStart => exact ⟨0, Nat.zero_le _, rfl, S0, y3, f3, E3⟩
  case round =>
    obtain ⟨k, hk, rfl, hO, hb, hf, hE⟩ := hrel
    clear S0 y3 f3 E3
    obtain ⟨an, cn, ag, cg, ao, co⟩ := p
    (obtain ⟨lb, b0, b1, b2, b3⟩ := (id hb))
    dsimp only at b0 b1 b2 b3
    have f00 := hf.cell (i := 0) rfl
    have f01 := hf.cell (i := 1) rfl
    by_cases hlt : k < c.gates.length
    · obtain ⟨b9, o9, hag, hb9, hg1, hg2⟩ := (hc.ext hE).gs.get (by omega)
      dsimp only at hag
      subst hag
      have q1 := hg1 k hlt
      have q2 := hg2 k hlt
      have hv := V.gs k hlt
      rw [HFF.out] at hv
      obtain ⟨va, vb⟩ := hv
      have va := litB_iff'.1 va
      have vb := litB_iff'.1 vb
      obtain ⟨va1, va2⟩ := va
      obtain ⟨vb1, vb2⟩ := vb
      have hlen := sVals_length s v ins st (c.gates.take k)
      rw [List.length_take, Nat.min_eq_left (by omega), ← HF.out] at hlen
      have hsn := sVals_snoc s v ins st (c.gates.take k) (c.gates.getD k (0, 0))
      rw [← take_snocG c.gates k (0, 0) hlt] at hsn
      unfold sStep at hsn
      obtain ⟨ga, hga⟩ : ∃ x, x = (c.gates.getD k (0, 0)).1 := ⟨_, rfl⟩
      obtain ⟨gb, hgb⟩ : ∃ x, x = (c.gates.getD k (0, 0)).2 := ⟨_, rfl⟩
      rw [← hga] at q1 va1 va2 hsn
      rw [← hgb] at q2 vb1 vb2 hsn
      obtain ⟨xs, hxs⟩ : ∃ xs, xs = sVals s v ins st (c.gates.take k) := ⟨_, rfl⟩
      rw [← hxs] at hO hlen hsn
      have HS := Lib.hid hsn
      have hl1 : xs.length ≤ F + k := by omega
      have hl2 : F + k ≤ xs.length := by omega
      clear hga hgb hxs hg1 hg2 hsn hlen
      have OX := hO
      obtain ⟨a, cc, rfl, hX⟩ := hO.opened
      have hOb := fun k hk => (OX.lt' k hk).1
      cases hva : litV xs ga
      all_goals cases hvb : litV xs gb
      all_goals by_cases hx : (xs.length : Int) = s
      all_goals
        first
        | (have hx1 : (s == (xs.length : Int)) = true := by simp; omega)
        | (have hx1 : (s == (xs.length : Int)) = false := by simp; omega)
        have HX := Lib.hid hx
        clear hx
        go_wp2_with (first | (go_at_call 145; refine (l2Lit_c _ _ xs.length xs rfl _ _ hX (by omega) (by omega) (by omega)).mono ?_; rintro e w6 ⟨rfl, rfl⟩) | (at_builtin; refine wpList_app tyBools (ownsRow_ext OX ((Ext.refl wr).alloc _)) (RowAt.new wr _ _) rfl (by simp [Value.oneCell']) (by omega) (by have := hE.size; simp; omega) rfl rfl rfl rfl ?_; intro v2 w2 o2 g2 m2))
        go_roundw
        case rel =>
          have yb := (hb.ext ((Ext.refl wr).alloc (.cells _ _))).grn g2 (by intro h; have := hOb _ h; omega)
          have fb : Blk w2 _ _ _ := (hf.ext ((Ext.refl wr).alloc (.cells _ _))).gr g2 (by intro h; have := hOb _ h; omega)
          refine ⟨k + 1, by omega, by go_num, ?_, yb, fb, ext_grown (hE.alloc _) g2 (by intro k hk; have := hOb _ hk; omega)⟩
          rw [HS.out, hva, hvb]
          first | rw [if_pos HX.out] | rw [if_neg HX.out]
          exact OwnB.app rfl rfl o2
        case measure => simp [intOf]; omega
    · have hk2 : k = c.gates.length := by omega
      subst hk2
      rw [List.take_length] at hO
      go_wp2
      go_ret
      exact ⟨_, rfl, hO.le (by omega), hE⟩
theorem l12Values_c (c : Circ) (p : Where3) (s : Int) (v : Bool) (sa ia : Option Addr) (sc ic : Nat) (st ins : List Bool) (w : World) (hc : CircAt w c p) (V : c.Valid) (hs : BoolsAt w sa st) (hi : BoolsAt w ia ins) (ls : st.length = c.next.length) (li : (ins.length : Int) = c.inputs) (h1s : 1 ≤ s) (hsv : s < c.vars) :
    Calls Try.prog 125 #[.agg #[.int .i64 c.inputs, .slice p.an c.next.length p.cn, .slice p.ag c.gates.length p.cg, .slice p.ao c.outs.length p.co], .agg #[.int .i64 s, .bool v], .slice sa st.length sc, .slice ia ins.length ic] w (GiveB w (sVals s v ins st c.gates)) := by
  by_cases h : s < 1 + ins.length + st.length
  · exact l12ValuesLt c p s v sa ia sc ic st ins w hc V hs hi ls li h1s hsv h
  · exact l12ValuesGe c p s v sa ia sc ic st ins w hc V hs hi ls li h1s hsv h
end Go.Proofs.Ytkdiniaddnhkdaa
