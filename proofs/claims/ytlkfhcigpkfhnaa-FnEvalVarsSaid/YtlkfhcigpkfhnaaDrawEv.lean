/- The drawing of the arguments of EvalVars and Step. (Written by a small program.) -/
import Derived.Test.YtlkfhcigpkfhnaaDrawB
namespace Go.Proofs.Ytlkfhcigpkfhnaa
open Go.RowKit
set_option maxRecDepth 100000
set_option linter.unusedVariables false
set_option linter.unusedSimpArgs false
theorem draw_ev_fin {w W0 w1 w2 w8 : World} {rb : Nat} {d : Circ} {p : Where3} {b1 b2 : Nat} {sa ia : Option Addr} {sc ic n m : Nat} {st ins : List Bool} {v0 v1 v2 v3 : Value} {cs : List Value} {T : TypeId}
    (hC : CircAt w2 d p) (hF : FromB w1.heap.size p) (hd : DrawnC d 12) (hcap : Caps d p) (b0 : Blk W0 w.heap.size T cs) (E0 : Ext w W0) (E2 : Ext W0 w2) (G8 : w2.grownBy w8 (some rb)) (hrb : W0.heap.size ≤ rb) (rb1 : rb < w1.heap.size) (z0 : W0.heap.size = w.heap.size + 1) (hE1 : Ext W0 w1)
    (hb : w.heap.size < b1 ∧ w.heap.size < b2) (hO : OwnB w8 b1 (.slice sa n sc) st) (hP : OwnB w8 b2 (.slice ia m ic) ins) (l1 : st.length ≤ 100) (l2 : ins.length ≤ 100) :
    DrawnEv w (.returned (.tuple #[.agg #[.int .i64 d.inputs, .slice p.an d.next.length p.cn, .slice p.ag d.gates.length p.cg, .slice p.ao d.outs.length p.co], .slice sa n sc, .slice ia m ic])) ((((w8.setCell ⟨w.heap.size, 0, none⟩ v0).setCell ⟨w.heap.size, 1, none⟩ v1).setCell ⟨w.heap.size, 2, none⟩ v2).setCell ⟨w.heap.size, 3, none⟩ v3) := by
  have s1 := hE1.size
  have k1 : ∀ x, p.an = some x → w.heap.size ≠ x.block := fun x hx => by have := hF.1 x hx; omega
  have k2 : ∀ x, p.ag = some x → w.heap.size ≠ x.block := fun x hx => by have := hF.2.1 x hx; omega
  have k3 : ∀ x, p.ao = some x → w.heap.size ≠ x.block := fun x hx => by have := hF.2.2 x hx; omega
  have hC8 : CircAt w8 d p := hC.drawn hF G8 rb1
  have EW : Ext w w8 := ext_of_gr (E0.trans E2) G8 (by omega)
  obtain ⟨a1, c1, e1, r1, _, _, q1⟩ := ownsRow_row hO
  obtain ⟨a2, c2, e2, r2, _, _, q2⟩ := ownsRow_row hP
  obtain ⟨a1', c1', e1', r1'⟩ := hO.opened
  obtain ⟨a2', c2', e2', r2'⟩ := hP.opened
  cases e1; cases e2; cases e1'; cases e2'
  have g1 : ∀ x, sa = some x → w.heap.size ≠ x.block := fun x hx => by have := (q1 x hx).1; omega
  have g2 : ∀ x, ia = some x → w.heap.size ≠ x.block := fun x hx => by have := (q2 x hx).1; omega
  exact ⟨d, p, _, _, _, _, st, ins, rfl, (((hC8.set k1 k2 k3 _ _).set k1 k2 k3 _ _).set k1 k2 k3 _ _).set k1 k2 k3 _ _, hd, (((r1'.set g1 _ _).set g1 _ _).set g1 _ _).set g1 _ _, (((r2'.set g2 _ _).set g2 _ _).set g2 _ _).set g2 _ _, l1, l2, Ext.setNew (Ext.setNew (Ext.setNew (Ext.setNew EW (by simp) _) (by simp) _) (by simp) _) (by simp) _,
    ⟨fun x hx => by have := hF.1 x hx; omega, fun x hx => by have := hF.2.1 x hx; omega, fun x hx => by have := hF.2.2 x hx; omega⟩, fun x hx => by have := (q1 x hx).1; omega, fun x hx => by have := (q2 x hx).1; omega⟩
set_option maxHeartbeats 4000000 in
theorem DrawEvalVars_c (a : Option Addr) (c : Nat) (bs : List Int) (w : World) (hB : BytesAt w a bs) (hl : bs.length ≤ 1048576) (hc : bs.length ≤ c) (hcm : c ≤ maxLen) :
    Calls Try.prog 15 #[.slice a bs.length c] w (DrawnEv w) := by
  go_enter Try.func15, Try.ntmps15
  go_wp2_with fail
  have b0 := Blk.at w [.int .i64 0, .slice none 0 0, .slice none 0 0, .slice none 0 0] 26 rfl
  have E0 : Ext w (w.alloc (.cells #[.int .i64 0, .slice none 0 0, .slice none 0 0, .slice none 0 0] 26)) := (Ext.refl w).alloc _
  have hB0 := hB.ext E0
  have z0 : (w.alloc (.cells #[.int .i64 0, .slice none 0 0, .slice none 0 0, .slice none 0 0] 26)).heap.size = w.heap.size + 1 := by simp
  generalize w.alloc (.cells #[.int .i64 0, .slice none 0 0, .slice none 0 0, .slice none 0 0] 26) = W0 at *
  refine (open_c a c bs _ hB0 hl hc hcm).mono ?_
  rintro e w1 ⟨rb, bs', rfl, hR1, hrb, hE1⟩
  go_wp2_with fail
  refine (l20Circuit_c rb bs' 0 12 _ hR1 (by omega) (by omega) (by omega)).mono ?_
  rintro e w2 hD
  obtain ⟨d, p, rfl, hC, hd, hF, hR2, hG2, hcap⟩ := drawn_open hD
  have rb1 := hR1.lt
  have E2 : Ext W0 w2 := ext_of_gr hE1 hG2 (by omega)
  have b2 := b0.ext E2
  have y2 := CircBox.made w2 d p 26
  have dln := hd.ln
  have di0 := hd.i0
  have di1 := hd.i1
  have s2 := hG2.size
  go_wp2_with fail
  refine (l20Bools_c rb bs' (0 + 200) d.next.length _ (hR2.ext (by (repeat (first | with_reducible assumption | with_reducible exact Ext.refl _ | with_reducible refine Ext.drew' ?_ | with_reducible refine Ext.drewN' ?_ _ | with_reducible refine Ext.alloc ?_ _ | (with_reducible refine Ext.setNew ?_ (by first | exact Nat.le_refl _ | (simp; done) | (simp; omega) | omega) _))))) (by omega) (by omega)).mono ?_
  rintro e w3 hD3
  obtain ⟨a3, c3, st, rfl, hst, hO3, hR3, hG3⟩ := hD3.i
  have G3 : w2.grownBy w3 (some rb) := Gr.trans (Gr.ext (by (repeat (first | with_reducible assumption | with_reducible exact Ext.refl _ | with_reducible refine Ext.drew' ?_ | with_reducible refine Ext.drewN' ?_ _ | with_reducible refine Ext.alloc ?_ _ | (with_reducible refine Ext.setNew ?_ (by first | exact Nat.le_refl _ | (simp; done) | (simp; omega) | omega) _)))) _) hG3
  have y3 : CircBox w3 _ _ _ := y2.grn hG3 (by simp; omega)
  have s3 := hG3.size
  simp at s3
  have HST := Lib.hid hst
  have lst : st.length ≤ 10 := by omega
  clear hst hD hD3
  have d8 : d.inputs < 8 := by omega
  have dn8 : ¬ (8 : Int) < d.inputs := by omega
  (obtain ⟨lq, q0, q1, q2, q3⟩ := (id y3))
  have hcase : ∃ m : Nat, m ≤ 8 ∧ ((0 < d.inputs ∧ d.inputs = (m : Int)) ∨ (d.inputs ≤ 0 ∧ (0 : Int) = (m : Int))) := by
    rcases Int.lt_or_le 0 d.inputs with h | h
    · exact ⟨d.inputs.toNat, by omega, .inl ⟨h, by omega⟩⟩
    · exact ⟨0, by omega, .inr ⟨h, rfl⟩⟩
  obtain ⟨m, hm8, ⟨hpos, hmm⟩ | ⟨hpos, hmm⟩⟩ := hcase
  all_goals
    have HMM := Lib.hid hmm
    clear hmm
    go_wp2_with fail
    refine (l20Bools_i rb bs' (0 + 200 + d.next.length) _ m HMM.out _ hR3 (by omega) (by omega)).mono ?_
    rintro e w4 hD4
    obtain ⟨a4, c4, ins, rfl, hin, hO4, hR4, hG4⟩ := hD4.i
    have lin : ins.length ≤ 8 := by omega
    have G4 : w2.grownBy w4 (some rb) := Gr.trans G3 hG4
    have y4 : CircBox w4 _ _ _ := y3.grn hG4 (by simp; omega)
    have hO3' : OwnB w4 _ _ _ := hO3.drawn hG4 (by simp; omega)
    have hO3a := hO3
    have s4 := hG4.size
    clear q0 q1 q2 q3 lq hD4 hin
    go_wp2_with fail
    refine (odd_c rb bs' _ 9 _ hR4 (by omega) (by omega) (by omega)).mono ?_
    rintro e w5 ⟨k5, rfl, _, hR5, hG5⟩
    have G5 : w2.grownBy w5 (some rb) := Gr.trans G4 hG5
    have y5 : CircBox w5 _ _ _ := y4.grn hG5 (by simp; omega)
    have hO3 : OwnB w5 _ _ _ := hO3'.drawn hG5 (by simp; omega)
    have hO4 : OwnB w5 _ _ _ := hO4.drawn hG5 (by omega)
    have s5 := hG5.size
    cases k5
    · skip
      have G6 := G5
      have hO6 := hO3
      have l6 : st.length ≤ 100 := by omega
      have y6 := y5
      have hR6 := hR5
      have hP6 := hO4
      have NE : ∀ k, (Value.slice a3 st.length c3).ownBlock = some k → (Value.slice a4 ins.length c4).ownBlock = some k → False := by
        intro k h1 h2
        have q1 := hO4.lt' k h2
        have q2 := (hO3a.lt' k h1).2
        omega
      go_wp2_with fail
      have s6 := G6.size
      have p6 := hR6.lt
      refine (odd_c rb bs' _ 9 _ hR6 (by omega) (by omega) (by omega)).mono ?_
      rintro e w7 ⟨k7, rfl, _, hR7, hG7⟩
      have G7 : w2.grownBy w7 (some rb) := Gr.trans G6 hG7
      have y7 : CircBox w7 _ _ _ := y6.grn hG7 (by simp; omega)
      have hO7 : OwnB w7 _ _ _ := hO6.drawn hG7 (by simp; omega)
      have hP7 : OwnB w7 _ _ _ := hP6.drawn hG7 (by omega)
      have s7 := G7.size
      have s7b := hG7.size
      cases k7
      · skip
        have G8 := G7
        have hP8 := hP7
        have l8 : ins.length ≤ 100 := by omega
        have y8 := y7
        have hO8 := hO7
        obtain ⟨lq, q0, q1, q2, q3⟩ := (id y8)
        have b8 := b0.ext (ext_of_gr E2 G8 (by omega))
        have b8l := b8.lt
        have b80 := b8.cell (i := 0) rfl
        have b81 := b8.cell (i := 1) rfl
        have b82 := b8.cell (i := 2) rfl
        have b83 := b8.cell (i := 3) rfl
        have b8f := (fun i => b8.frozen i)
        go_wp2
        have rF := (((b8.set 0 (.int .i64 d.inputs)).set 1 (.slice p.an d.next.length p.cn)).set 2 (.slice p.ag d.gates.length p.cg)).set 3 (.slice p.ao d.outs.length p.co)
        have rf0 := rF.cell (i := 0) rfl
        have rf1 := rF.cell (i := 1) rfl
        have rf2 := rF.cell (i := 2) rfl
        have rf3 := rF.cell (i := 3) rfl
        refine bodyPost_ret (v := .tuple #[.agg #[.int .i64 d.inputs, .slice p.an d.next.length p.cn, .slice p.ag d.gates.length p.cg, .slice p.ao d.outs.length p.co], .slice a3 st.length c3, .slice a4 ins.length c4]) (by simp [results, Try.results15, go_sem, rf0, rf1, rf2, rf3]) rfl ?_
        exact draw_ev_fin hC hF hd hcap b0 E0 E2 G8 hrb rb1 z0 hE1 ⟨by simp; omega, by omega⟩ hO8 hP8 l6 l8
      · skip
        go_wp2_with (at_builtin; refine wpList_app tyBools (ownsRow_ext hP7 ((Ext.refl w7).alloc _)) (RowAt.new w7 _ _) rfl (by simp [Value.oneCell']) (by omega) (by simp; omega) rfl rfl rfl rfl ?_; intro v8 w8 o8 g8 m8; obtain ⟨aT, cT, eT, _⟩ := ownsRow_row o8; subst eT; have G8 : w2.grownBy w8 (some rb) := Gr.row (Gr.alloc G7 _) g8 (fun k hk => by have := (hP7.lt' k hk).1; omega); have y8 : CircBox w8 _ _ _ := (y7.ext ((Ext.refl w7).alloc (.cells _ _))).grn g8 (fun e => by have := (hP7.lt' _ e).1; omega); obtain ⟨lq, q0, q1, q2, q3⟩ := (id y8); have b8 := b0.ext (ext_of_gr E2 G8 (by omega)); have b8l := b8.lt; have b80 := b8.cell (i := 0) rfl; have b81 := b8.cell (i := 1) rfl; have b82 := b8.cell (i := 2) rfl; have b83 := b8.cell (i := 3) rfl; have b8f := (fun i => b8.frozen i))
        have hP8 : OwnB w8 w3.heap.size (.slice aT (ins.length + 1) cT) (ins ++ [false]) := OwnB.app (ys := [false]) rfl rfl o8
        have l8 : (ins ++ [false]).length ≤ 100 := by simp; omega
        have hO8 : OwnB w8 _ _ _ := ownsRow_gr (ownsRow_ext hO7 ((Ext.refl w7).alloc (.cells _ _))) g8 (own_ne NE)
        have rF := (((b8.set 0 (.int .i64 d.inputs)).set 1 (.slice p.an d.next.length p.cn)).set 2 (.slice p.ag d.gates.length p.cg)).set 3 (.slice p.ao d.outs.length p.co)
        have rf0 := rF.cell (i := 0) rfl
        have rf1 := rF.cell (i := 1) rfl
        have rf2 := rF.cell (i := 2) rfl
        have rf3 := rF.cell (i := 3) rfl
        refine bodyPost_ret (v := .tuple #[.agg #[.int .i64 d.inputs, .slice p.an d.next.length p.cn, .slice p.ag d.gates.length p.cg, .slice p.ao d.outs.length p.co], .slice a3 st.length c3, .slice aT (ins.length + 1) cT]) (by simp [results, Try.results15, go_sem, rf0, rf1, rf2, rf3]) rfl ?_
        exact draw_ev_fin hC hF hd hcap b0 E0 E2 G8 hrb rb1 z0 hE1 ⟨by simp; omega, by omega⟩ hO8 hP8 l6 l8
    · skip
      go_wp2_with (at_builtin; refine wpList_app tyBools (ownsRow_ext hO3 ((Ext.refl w5).alloc _)) (RowAt.new w5 _ _) rfl (by simp [Value.oneCell']) (by omega) (by simp; omega) rfl rfl rfl rfl ?_; intro v6 w6 o6 g6 m6; obtain ⟨aS, cS, eS, _⟩ := ownsRow_row o6; subst eS)
      have G6 : w2.grownBy w6 (some rb) := Gr.row (Gr.alloc G5 _) g6 (fun k hk => by have := (hO3.lt' k hk).1; simp at this; omega)
      have hO6 : OwnB w6 (w2.alloc (.cells #[.int .i64 d.inputs, .slice p.an d.next.length p.cn, .slice p.ag d.gates.length p.cg, .slice p.ao d.outs.length p.co] 26)).heap.size (.slice aS (st.length + 1) cS) (st ++ [true]) := OwnB.app (ys := [true]) rfl rfl o6
      have l6 : (st ++ [true]).length ≤ 100 := by simp; omega
      have s6b := g6.size
      simp at s6b
      have y6 : CircBox w6 _ _ _ := (y5.ext ((Ext.refl w5).alloc (.cells _ _))).grn g6 (fun e => by have := (hO3.lt' _ e).1; simp at this; omega)
      have hR6 := (hR5.ext ((Ext.refl w5).alloc (.cells _ _))).grn g6 (fun k hk => by have := (hO3.lt' k hk).1; simp at this; omega)
      have hP6 : OwnB w6 _ _ _ := ownsRow_gr (ownsRow_ext hO4 ((Ext.refl w5).alloc (.cells _ _))) g6 (by
        cases hb : (Value.slice a4 ins.length c4).ownBlock with
        | none => exact .inl rfl
        | some q => exact .inr (fun hh => by have q1 := (hO4.lt' q hb).1; have q2 := (hO3a.lt' q hh.symm).2; omega))
      have NE : ∀ k, (Value.slice aS (st.length + 1) cS).ownBlock = some k → (Value.slice a4 ins.length c4).ownBlock = some k → False := by
        intro k h1 h2
        have q1 := hO4.lt' k h2
        rcases m6 with h | ⟨k', h, hk'⟩
        · have q2 := (hO3a.lt' k (h.symm.trans h1)).2
          omega
        · have : k' = k := Option.some.inj (h.symm.trans h1)
          simp at hk'
          omega
      go_wp2_with fail
      have s6 := G6.size
      have p6 := hR6.lt
      refine (odd_c rb bs' _ 9 _ hR6 (by omega) (by omega) (by omega)).mono ?_
      rintro e w7 ⟨k7, rfl, _, hR7, hG7⟩
      have G7 : w2.grownBy w7 (some rb) := Gr.trans G6 hG7
      have y7 : CircBox w7 _ _ _ := y6.grn hG7 (by simp; omega)
      have hO7 : OwnB w7 _ _ _ := hO6.drawn hG7 (by simp; omega)
      have hP7 : OwnB w7 _ _ _ := hP6.drawn hG7 (by omega)
      have s7 := G7.size
      have s7b := hG7.size
      cases k7
      · skip
        have G8 := G7
        have hP8 := hP7
        have l8 : ins.length ≤ 100 := by omega
        have y8 := y7
        have hO8 := hO7
        obtain ⟨lq, q0, q1, q2, q3⟩ := (id y8)
        have b8 := b0.ext (ext_of_gr E2 G8 (by omega))
        have b8l := b8.lt
        have b80 := b8.cell (i := 0) rfl
        have b81 := b8.cell (i := 1) rfl
        have b82 := b8.cell (i := 2) rfl
        have b83 := b8.cell (i := 3) rfl
        have b8f := (fun i => b8.frozen i)
        go_wp2
        have rF := (((b8.set 0 (.int .i64 d.inputs)).set 1 (.slice p.an d.next.length p.cn)).set 2 (.slice p.ag d.gates.length p.cg)).set 3 (.slice p.ao d.outs.length p.co)
        have rf0 := rF.cell (i := 0) rfl
        have rf1 := rF.cell (i := 1) rfl
        have rf2 := rF.cell (i := 2) rfl
        have rf3 := rF.cell (i := 3) rfl
        refine bodyPost_ret (v := .tuple #[.agg #[.int .i64 d.inputs, .slice p.an d.next.length p.cn, .slice p.ag d.gates.length p.cg, .slice p.ao d.outs.length p.co], .slice aS (st.length + 1) cS, .slice a4 ins.length c4]) (by simp [results, Try.results15, go_sem, rf0, rf1, rf2, rf3]) rfl ?_
        exact draw_ev_fin hC hF hd hcap b0 E0 E2 G8 hrb rb1 z0 hE1 ⟨by simp; omega, by omega⟩ hO8 hP8 l6 l8
      · skip
        go_wp2_with (at_builtin; refine wpList_app tyBools (ownsRow_ext hP7 ((Ext.refl w7).alloc _)) (RowAt.new w7 _ _) rfl (by simp [Value.oneCell']) (by omega) (by simp; omega) rfl rfl rfl rfl ?_; intro v8 w8 o8 g8 m8; obtain ⟨aT, cT, eT, _⟩ := ownsRow_row o8; subst eT; have G8 : w2.grownBy w8 (some rb) := Gr.row (Gr.alloc G7 _) g8 (fun k hk => by have := (hP7.lt' k hk).1; omega); have y8 : CircBox w8 _ _ _ := (y7.ext ((Ext.refl w7).alloc (.cells _ _))).grn g8 (fun e => by have := (hP7.lt' _ e).1; omega); obtain ⟨lq, q0, q1, q2, q3⟩ := (id y8); have b8 := b0.ext (ext_of_gr E2 G8 (by omega)); have b8l := b8.lt; have b80 := b8.cell (i := 0) rfl; have b81 := b8.cell (i := 1) rfl; have b82 := b8.cell (i := 2) rfl; have b83 := b8.cell (i := 3) rfl; have b8f := (fun i => b8.frozen i))
        have hP8 : OwnB w8 w3.heap.size (.slice aT (ins.length + 1) cT) (ins ++ [false]) := OwnB.app (ys := [false]) rfl rfl o8
        have l8 : (ins ++ [false]).length ≤ 100 := by simp; omega
        have hO8 : OwnB w8 _ _ _ := ownsRow_gr (ownsRow_ext hO7 ((Ext.refl w7).alloc (.cells _ _))) g8 (own_ne NE)
        have rF := (((b8.set 0 (.int .i64 d.inputs)).set 1 (.slice p.an d.next.length p.cn)).set 2 (.slice p.ag d.gates.length p.cg)).set 3 (.slice p.ao d.outs.length p.co)
        have rf0 := rF.cell (i := 0) rfl
        have rf1 := rF.cell (i := 1) rfl
        have rf2 := rF.cell (i := 2) rfl
        have rf3 := rF.cell (i := 3) rfl
        refine bodyPost_ret (v := .tuple #[.agg #[.int .i64 d.inputs, .slice p.an d.next.length p.cn, .slice p.ag d.gates.length p.cg, .slice p.ao d.outs.length p.co], .slice aS (st.length + 1) cS, .slice aT (ins.length + 1) cT]) (by simp [results, Try.results15, go_sem, rf0, rf1, rf2, rf3]) rfl ?_
        exact draw_ev_fin hC hF hd hcap b0 E0 E2 G8 hrb rb1 z0 hE1 ⟨by simp; omega, by omega⟩ hO8 hP8 l6 l8
end Go.Proofs.Ytlkfhcigpkfhnaa
