/- Contracts: the values of a circuit's variables, the reference's way. -/
import Derived.Test.YtkdiniaddnhkdaaEval2
import Derived.Test.YtkdiniaddnhkdaaSpec1
import Derived.Test.YtkdiniaddnhkdaaOwnB
import Derived.Test.YtkdiniaddnhkdaaRes
namespace Go.Proofs.Ytkdiniaddnhkdaa
open Go.RowKit
set_option maxRecDepth 100000
set_option linter.unusedVariables false
set_option linter.unusedSimpArgs false
theorem MadeBools.own {w w' : World} {xs : List Bool} {e : Ending} (h : MadeBools w xs e w') (hl : xs.length ≤ maxLen) : ∃ v, e = .returned v ∧ OwnB w' w.heap.size v xs ∧ Ext w w' := by
  obtain ⟨B, rfl, hB, hI, hE⟩ := h
  exact ⟨_, rfl, hI.owns (by simp) hB hl, hE⟩
theorem l2Lit_c (a : Option Addr) (c n : Nat) (vs : List Bool) (hn : vs.length = n) (l : Int) (w : World) (hv : BoolsAt w a vs) (h0 : 0 ≤ l) (h1 : l < 2 * (n : Int)) (hl : n ≤ 1048576) :
    Calls Try.prog 145 #[.slice a n c, .int .i64 l] w fun e w' => e = .returned (.bool (litV vs l)) ∧ w = w' := by
  subst hn
  obtain ⟨b, o, rfl, hb, hc⟩ := hv.get (by omega)
  have q := hc (l / 2).toNat (by omega)
  have E : Hid (litV vs l = (vs.getD (l / 2).toNat false != (l % 2 == 1))) := Lib.hid rfl
  obtain ⟨x, hx⟩ : ∃ x, x = vs.getD (l / 2).toNat false := ⟨_, rfl⟩
  rw [← hx] at q E
  clear hc hx
  go_enter Try.func145, Try.ntmps145
  go_wp2
  go_ret
  exact ⟨by rw [E.out]; rfl, rfl⟩
def SValRel (w : World) (c : Circ) (p : Where3) (ins st : List Bool) (u7 u8 : Value) (wr : World) : Prop :=
  ∃ k : Nat, k ≤ c.gates.length ∧ u8 = .int .i64 k ∧ OwnB wr (w.heap.size + 1) u7 (sVals (-1) false ins st (c.gates.take k)) ∧ CircBox wr w.heap.size c p ∧ Ext w wr
set_option maxHeartbeats 1000000 in
theorem l2Values_c (c : Circ) (p : Where3) (sa ia : Option Addr) (sc ic : Nat) (st ins : List Bool) (w : World) (hc : CircAt w c p) (V : c.Valid) (hs : BoolsAt w sa st) (hi : BoolsAt w ia ins) (ls : st.length = c.next.length) (li : (ins.length : Int) = c.inputs) :
    Calls Try.prog 124 #[.agg #[.int .i64 c.inputs, .slice p.an c.next.length p.cn, .slice p.ag c.gates.length p.cg, .slice p.ao c.outs.length p.co], .slice sa st.length sc, .slice ia ins.length ic] w fun e w' => ∃ v, e = .returned v ∧ OwnB w' w.heap.size v (valsOf ins st c.gates) ∧ Ext w w' := by
  have hi0 := V.i0
  have hi4 := V.i4
  have ln := V.ln
  have lg := V.lg
  obtain ⟨F, hF⟩ : ∃ F, F = 1 + ins.length + st.length := ⟨_, rfl⟩
  have hff : c.first = (F : Int) := by unfold Circ.first; omega
  have HF := Lib.hid hF
  have HFF := Lib.hid hff
  have hF1 : 1 + ins.length + st.length ≤ F := by omega
  have hF2 : F ≤ 1 + ins.length + st.length := by omega
  have li1 : (ins.length : Int) ≤ 4 := by omega
  have ls1 : st.length ≤ 3 := by omega
  clear hF hff li ls
  have y := (CircBox.made w c p 42).ext ((Ext.refl _).alloc (.cells #[.bool false] 4))
  have B0 := Blk.at (w.alloc (.cells #[.int .i64 c.inputs, .slice p.an c.next.length p.cn, .slice p.ag c.gates.length p.cg, .slice p.ao c.outs.length p.co] 42)) [.bool false] 4 (B := w.heap.size + 1) (by simp)
  have O0 := B0.owns (n := 1) (size := 1) rfl (Nat.le_refl _) (by decide)
  have E0 : Ext w ((w.alloc (.cells #[.int .i64 c.inputs, .slice p.an c.next.length p.cn, .slice p.ag c.gates.length p.cg, .slice p.ao c.outs.length p.co] 42)).alloc (.cells #[.bool false] 4)) := ((Ext.refl w).alloc _).alloc _
  have hir := (hi.ext E0).row
  go_enter Try.func124, Try.ntmps124
  go_wp2_with (at_builtin; (first | (refine wpList_app tyBools O0 hir (by simp) (oneCell_bools _) (by omega) (by simp) rfl rfl rfl rfl ?_; intro v1 w1 o1 g1 _; have E1 := ext_grown E0 g1 (by intro k hk; simp [Value.ownBlock] at hk; omega); have y1 := y.grn g1 (by simp [Value.ownBlock])) | (refine wpList_app tyBools o1 (hs.ext E1).row (by simp) (oneCell_bools _) (by omega) (by have := E1.size; have := g1.size; simp at this; omega) rfl rfl rfl rfl ?_; intro v2 w2 o2 g2 _; have E2 := ext_grown E1 g2 (by intro k hk; have := (o1.lt _ hk).1; omega); have y2 := y1.grn g2 (by intro h; have := (o1.lt _ h).1; omega))))
  have S0 : OwnB w2 (w.heap.size + 1) v2 (sVals (-1) false ins st (c.gates.take 0)) := by
    have e : (sVals (-1) false ins st (c.gates.take 0)) = [false] ++ ins ++ st := by simp [sVals, base0, vals0]
    rw [e]
    exact OwnB.app (xs := [false] ++ ins) (n := 1 + ins.length) (by rw [List.length_append]; rfl) rfl (by rw [List.map_append]; exact o2)
  clear o1 o2 O0 B0 y y1 E0 E1 hir g1 g2
  go_loopw [7, 8] (SValRel w c p ins st) (fun _ i _ => c.gates.length - (intOf i).toNat)
  case atStart => exact ⟨0, Nat.zero_le _, rfl, S0, y2, E2⟩
  case round =>
    obtain ⟨k, hk, rfl, hO, hb, hE⟩ := hrel
    clear S0 y2 E2
    obtain ⟨an, cn, ag, cg, ao, co⟩ := p
    (obtain ⟨lb, b0, b1, b2, b3⟩ := (id hb))
    dsimp only at b0 b1 b2 b3
    by_cases hlt : k < c.gates.length
    · obtain ⟨b9, o9, hag, hb9, hg1, hg2⟩ := (hc.ext hE).gs.get (by omega)
      dsimp only at hag
      subst hag
      have q1 := hg1 k hlt
      have q2 := hg2 k hlt
      have hv := V.gs k hlt
      rw [HFF.out] at hv
      obtain ⟨va, vb⟩ := hv
      have va := litB_iff'.1 va
      have vb := litB_iff'.1 vb
      obtain ⟨va1, va2⟩ := va
      obtain ⟨vb1, vb2⟩ := vb
      have hlen := sVals_length (-1) false ins st (c.gates.take k)
      rw [List.length_take, Nat.min_eq_left (by omega), ← HF.out] at hlen
      have hsn := sVals_snoc (-1) false ins st (c.gates.take k) (c.gates.getD k (0, 0))
      rw [← take_snocG c.gates k (0, 0) hlt] at hsn
      unfold sStep at hsn
      rw [if_neg (by omega)] at hsn
      obtain ⟨ga, hga⟩ : ∃ x, x = (c.gates.getD k (0, 0)).1 := ⟨_, rfl⟩
      obtain ⟨gb, hgb⟩ : ∃ x, x = (c.gates.getD k (0, 0)).2 := ⟨_, rfl⟩
      rw [← hga] at q1 va1 va2 hsn
      rw [← hgb] at q2 vb1 vb2 hsn
      obtain ⟨xs, hxs⟩ : ∃ xs, xs = sVals (-1) false ins st (c.gates.take k) := ⟨_, rfl⟩
      rw [← hxs] at hO hlen hsn
      have HS := Lib.hid hsn
      have HLEN := Lib.hid hlen
      have hl1 : xs.length ≤ F + k := by omega
      have hl2 : F + k ≤ xs.length := by omega
      clear hga hgb hxs hg1 hg2 hsn hlen
      have OX := hO
      obtain ⟨a, cc, rfl, hX⟩ := hO.opened
      have hOb := fun k hk => (OX.lt k hk).1
      cases hva : litV xs ga
      all_goals cases hvb : litV xs gb
      all_goals
        go_wp2_with (first | (go_at_call 145; refine (l2Lit_c _ _ xs.length xs rfl _ _ hX (by omega) (by omega) (by omega)).mono ?_; rintro e w6 ⟨rfl, rfl⟩) | (at_builtin; refine wpList_app tyBools (ownsRow_ext OX ((Ext.refl wr).alloc _)) (RowAt.new wr _ _) rfl (by simp [Value.oneCell']) (by omega) (by have := hE.size; simp; omega) rfl rfl rfl rfl ?_; intro v2 w2 o2 g2 m2))
        go_roundw
        case rel =>
          have yb := (hb.ext ((Ext.refl wr).alloc (.cells _ _))).grn g2 (by intro h; have := hOb _ h; omega)
          refine ⟨k + 1, by omega, by go_num, ?_, yb, ext_grown (hE.alloc _) g2 (by intro k hk; have := hOb _ hk; omega)⟩
          rw [HS.out, hva, hvb]
          exact OwnB.app rfl rfl o2
        case measure => simp [intOf]; omega
    · have hk2 : k = c.gates.length := by omega
      subst hk2
      rw [List.take_length] at hO
      go_wp2
      go_ret
      exact ⟨_, rfl, hO.le (by omega), hE⟩
end Go.Proofs.Ytkdiniaddnhkdaa
