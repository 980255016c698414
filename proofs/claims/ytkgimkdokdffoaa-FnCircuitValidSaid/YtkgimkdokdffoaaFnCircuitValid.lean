/- The law FnCircuitValid: without its last gate a valid circuit stays valid if nothing refers to it; a gate on itself makes a circuit invalid. -/
import Derived.Test.YtkgimkdokdffoaaBytes
namespace Go.Proofs.Ytkgimkdokdffoaa
open Go.ChangeShapes Go.WideShapes Go.ChangeAt Go.RowKit
set_option maxRecDepth 100000
set_option linter.unusedVariables false
set_option linter.unusedSimpArgs false
/-- Does one of the literals refer to the variable? -/
def hit (xs : List Int) (v : Int) : Bool := xs.any fun l => l / 2 == v
theorem hit_nil (v : Int) : hit [] v = false := rfl
theorem hit_append (xs ys : List Int) (v : Int) : hit (xs ++ ys) v = (hit xs v || hit ys v) := by simp [hit]
theorem take_snoc (xs : List Int) (k : Nat) (h : k < xs.length) : xs.take (k + 1) = xs.take k ++ [xs.getD k 0] := by
  rw [List.take_add_one, List.getElem?_eq_getElem h, List.getD_eq_getElem?_getD, List.getElem?_eq_getElem h]; rfl
theorem hit_snoc (xs : List Int) (v : Int) (k : Nat) (h : k < xs.length) : hit (xs.take (k + 1)) v = (hit (xs.take k) v || (xs.getD k 0) / 2 == v) := by
  rw [take_snoc xs k h, hit_append]; simp [hit]
theorem litB_iff {l n : Int} : litB l n = true ↔ 0 ≤ l ∧ l < 2 * n := by simp [litB]
/-- The circuit without its last gate. -/
def Circ.less (c : Circ) : Circ := ⟨c.inputs, c.next, c.gates.take (c.gates.length - 1), c.outs⟩
def Circ.loop (c : Circ) : Circ := ⟨c.inputs, c.next, c.gates.take (c.gates.length - 1) ++ [(2 * (c.inputs + c.next.length + c.gates.length), 0)], c.outs⟩
theorem getD_take {α : Type} (xs : List α) (n i : Nat) (d : α) (h : i < n) : (xs.take n).getD i d = xs.getD i d := by
  simp [List.getD_eq_getElem?_getD, h]
theorem less_valid (c : Circ) (h : c.Valid) (hn : 0 < c.gates.length) : validB c.less = !(hit (c.outs ++ c.next) (c.inputs + c.next.length + c.gates.length)) := by
  have vr : c.less.vars = c.vars - 1 := by simp only [Circ.vars, Circ.first, Circ.less, List.length_take]; omega
  have vr2 : c.vars = c.inputs + c.next.length + c.gates.length + 1 := by simp only [Circ.vars, Circ.first]; omega
  cases hh : hit (c.outs ++ c.next) (c.inputs + c.next.length + c.gates.length)
  · refine validB_true ⟨h.i0, h.i4, h.ln, by have := h.lg; simp [Circ.less]; omega, h.lo, ?_, ?_⟩
    · intro i hi
      simp only [Circ.less, List.length_take] at hi
      have := h.gs i (by omega)
      simp only [Circ.less, getD_take c.gates _ i _ (show i < c.gates.length - 1 by omega)]
      exact this
    · intro i hi
      have h1 := litB_iff.1 (h.rs i hi)
      rw [vr]
      have hm : (c.next ++ c.outs).getD i 0 ∈ c.outs ++ c.next := by
        have hi' : i < (c.next ++ c.outs).length := hi
        rw [List.getD_eq_getElem?_getD, List.getElem?_eq_getElem hi']
        have := List.getElem_mem hi'
        simp only [Option.getD_some]
        simp only [List.mem_append] at this ⊢
        exact this.symm
      have hne : ¬ (c.next ++ c.outs).getD i 0 / 2 = c.inputs + c.next.length + c.gates.length := by
        simp only [hit, List.any_eq_false] at hh
        have := hh _ hm
        simpa using this
      refine litB_iff.2 ?_
      simp only [Circ.less]
      omega
  · refine validB_false fun hv => ?_
    simp only [hit, List.any_eq_true] at hh
    obtain ⟨l, hl, he⟩ := hh
    have he' : l / 2 = c.inputs + c.next.length + c.gates.length := by simpa using he
    have hl2 : l ∈ c.next ++ c.outs := by simp only [List.mem_append] at hl ⊢; exact hl.symm
    obtain ⟨i, hi, rfl⟩ := List.mem_iff_getElem.1 hl2
    have := litB_iff.1 (hv.rs i hi)
    rw [vr] at this
    have e : (c.less.next ++ c.less.outs).getD i 0 = (c.next ++ c.outs)[i] := by simp [Circ.less, List.getD_eq_getElem?_getD, List.getElem?_eq_getElem hi]
    rw [e] at this
    omega
theorem loop_invalid (c : Circ) (h : c.Valid) (hn : 0 < c.gates.length) : validB c.loop = false := by
  refine validB_false fun hv => ?_
  have := (hv.gs (c.gates.length - 1) (by simp [Circ.loop])).1
  have e : c.loop.gates.getD (c.gates.length - 1) (0, 0) = (2 * (c.inputs + c.next.length + c.gates.length), 0) := by
    simp [Circ.loop, List.getD_eq_getElem?_getD]
  rw [e] at this
  have := litB_iff.1 this
  simp only [Circ.loop, Circ.first] at this
  omega
theorem PairsAt.take {w : World} {a : Option Addr} {gs : List (Int × Int)} (h : PairsAt w a gs) (n : Nat) : PairsAt w a (gs.take n) := by
  rcases h with rfl | ⟨b, o, ha, hb, hc, hd⟩
  · left; simp
  · refine .inr ⟨b, o, ha, hb, fun j hj => ?_, fun j hj => ?_⟩
    · have hj' : j < n ∧ j < gs.length := by simp at hj; omega
      rw [getD_take _ _ _ _ hj'.1]; exact hc j hj'.2
    · have hj' : j < n ∧ j < gs.length := by simp at hj; omega
      rw [getD_take _ _ _ _ hj'.1]; exact hd j hj'.2
theorem Circ.Valid.root {c : Circ} (h : c.Valid) {i : Nat} (hi : i < (c.next ++ c.outs).length) : 0 ≤ (c.next ++ c.outs).getD i 0 ∧ (c.next ++ c.outs).getD i 0 ≤ 60 := by
  have := litB_iff.1 (h.rs i hi)
  have := h.i0; have := h.i4; have := h.ln; have := h.lg
  simp only [Circ.vars, Circ.first] at *
  omega
theorem Circ.Valid.out {c : Circ} (h : c.Valid) {i : Nat} (hi : i < c.outs.length) : 0 ≤ c.outs.getD i 0 ∧ c.outs.getD i 0 ≤ 60 := by
  have := h.root (i := c.next.length + i) (by simp; omega)
  have e : (c.next ++ c.outs)[c.next.length + i]? = c.outs[i]? := by rw [List.getElem?_append_right (by omega)]; congr 1; omega
  simpa [List.getD_eq_getElem?_getD, e] using this
theorem Circ.Valid.nxt {c : Circ} (h : c.Valid) {i : Nat} (hi : i < c.next.length) : 0 ≤ c.next.getD i 0 ∧ c.next.getD i 0 ≤ 60 := by
  have := h.root (i := i) (by simp; omega)
  simpa [List.getD_eq_getElem?_getD, List.getElem?_append_left hi] using this
theorem less_c (c : Circ) (p : Where3) (w : World) (hC : CircAt w c p) :
    Calls Try.prog 15 #[.agg #[.int .i64 c.inputs, .slice p.an c.next.length p.cn, .slice p.ag (c.gates.length - 1) p.cg, .slice p.ao c.outs.length p.co]] w fun e w' => e = .returned (.bool (validB c.less)) ∧ Ext w w' := by
  have e : c.less.gates.length = c.gates.length - 1 := by simp only [Circ.less, List.length_take]; omega
  have h := implValid_c c.less p w ⟨hC.nx, hC.gs.take _, hC.ou, hC.ln, by rw [e]; have := hC.lg; omega, hC.lo⟩
  rw [e] at h
  exact h
theorem loop_c (c : Circ) (p : Where3) (w : World) (hC : CircAt w c.loop p) :
    Calls Try.prog 15 #[.agg #[.int .i64 c.inputs, .slice p.an c.next.length p.cn, .slice p.ag (c.gates.length - 1 + 1) p.cg, .slice p.ao c.outs.length p.co]] w fun e w' => e = .returned (.bool (validB c.loop)) ∧ Ext w w' := by
  have e : c.loop.gates.length = c.gates.length - 1 + 1 := by simp only [Circ.loop, List.length_append, List.length_take, List.length_cons, List.length_nil]; omega
  have h := implValid_c c.loop p w hC
  rw [e] at h
  exact h
theorem fnCircuitValid_walk (a0 : Option Addr) (len0 cap0 : Nat) (z0 : List Int) (w : World) (w0 : IsRow .u8 w a0 len0 cap0 z0) :
    Calls Try.prog 5 #[.slice a0 len0 cap0] w fun e w' => e = .returned (.bool true) ∧ Below w.heap.size w w' := by
  obtain ⟨bs, rfl, hB, hlc, hcm⟩ := bytes_of_row w0
  by_cases hl : bs.length ≤ 1048576
  · go_enter Try.func5, Try.ntmps5
    go_wp2_with fail
    refine (DrawCircuitValid_c a0 cap0 bs _ hB hl hlc hcm).mono ?_
    rintro e w1 ⟨c, p, rfl, hC, hd, hE, hcap⟩
    go_wp2_with fail
    (have y := CircBox.made w1 c p 33; have Ey : Ext w1 (w1.alloc (.cells #[.int .i64 c.inputs, .slice p.an c.next.length p.cn, .slice p.ag c.gates.length p.cg, .slice p.ao c.outs.length p.co] 33)) := (Ext.refl w1).alloc _; have hC := hC.ext Ey)
    generalize w1.alloc (.cells #[.int .i64 c.inputs, .slice p.an c.next.length p.cn, .slice p.ag c.gates.length p.cg, .slice p.ao c.outs.length p.co] 33) = W1 at *
    have E1 := Ext.trans hE Ey
    clear hE Ey
    have Y := y
    refine (implValid_c c p _ hC).mono ?_
    rintro e w2 ⟨rfl, hE2⟩
    have hC := hC.ext hE2
    have z := Y.ext hE2
    have Z := z
    (obtain ⟨lz, z0, z1, z2, z3⟩ := z)
    go_wp2_with fail
    refine (specValid_c c p _ hC).mono ?_
    rintro e w3 ⟨rfl, hE3⟩
    have hC := hC.ext hE3
    have x := Z.ext hE3
    have X := x
    have E3 := E1.trans (hE2.trans hE3)
    (obtain ⟨lx, x0, x1, x2, x3⟩ := x)
    cases hv : validB c
    · go_wp2_with fail
      refine (alive_c _).mono ?_
      rintro e w5 ⟨rfl, hE5⟩
      go_wp2
      go_ret
      exact ⟨rfl, E3.trans hE5⟩
    · have V := validB_iff.1 hv
      have hi := V.i0
      have hi4 := V.i4
      have ln := V.ln
      have lg := V.lg
      have lo := V.lo
      clear z0 z1 z2 z3 lz Z Y E1 hE2 hE3
      obtain ⟨an, cn, ag, cg, ao, co⟩ := p
      dsimp only at x0 x1 x2 x3
      have hcg : c.gates.length ≤ cg := hcap.2.1
      by_cases hn : c.gates.length = 0
      · go_wp2
        go_ret
        exact ⟨rfl, E3⟩
      obtain ⟨L, hL⟩ : ∃ L, L = c.inputs + c.next.length + c.gates.length := ⟨_, rfl⟩
      have HL := Lib.hid hL
      have hL0 : 1 ≤ L ∧ L ≤ 21 := by omega
      go_wp2_with fail
      go_loopw [7, 8] (fun u i wr => ∃ k : Nat, k ≤ c.outs.length ∧ i = .int .i64 k ∧ u = .bool (hit (c.outs.take k) (c.inputs + c.next.length + c.gates.length)) ∧ w3 = wr) (fun u i _ => c.outs.length - (intOf i).toNat)
      case atStart => exact ⟨0, Nat.zero_le _, rfl, by simp [hit_nil], rfl⟩
      case round =>
        obtain ⟨k, hk, rfl, rfl, rfl⟩ := hrel
        by_cases hlt : k < c.outs.length
        · obtain ⟨b, o, hao, hb, hc⟩ := hC.ou.get (by omega)
          dsimp only at hao
          subst hao
          have q := hc k hlt
          have hs := hit_snoc c.outs (c.inputs + c.next.length + c.gates.length) k hlt
          obtain ⟨xl, hxl⟩ : ∃ x, x = c.outs.getD k 0 := ⟨_, rfl⟩
          have hb1 := V.out hlt
          rw [← hxl] at q hs hb1
          clear hc hxl
          cases hu : hit (c.outs.take k) (c.inputs + c.next.length + c.gates.length)
          all_goals rw [hu] at hs
          all_goals go_wp2
          all_goals go_roundw
          case rel =>
            refine ⟨k + 1, by omega, by go_num, ?_, by trivial⟩
            rw [hs]
            simp
          case measure => simp [intOf]; omega
          case rel =>
            refine ⟨k + 1, by omega, by go_num, ?_, by trivial⟩
            rw [hs]
            simp
          case measure => simp [intOf]; omega
        · go_wp2_with fail
          have hk2 : k = c.outs.length := by omega
          subst hk2
          simp only [List.take_length]
          go_loopw [7, 9] (fun u i wr => ∃ k : Nat, k ≤ c.next.length ∧ i = .int .i64 k ∧ u = .bool (hit (c.outs ++ c.next.take k) (c.inputs + c.next.length + c.gates.length)) ∧ w3 = wr) (fun u i _ => c.next.length - (intOf i).toNat)
          case atStart => exact ⟨0, Nat.zero_le _, rfl, by simp, rfl⟩
          case round =>
            obtain ⟨k, hk, rfl, rfl, rfl⟩ := hrel
            by_cases hlt : k < c.next.length
            · obtain ⟨b, o, hao, hb, hc⟩ := hC.nx.get (by omega)
              dsimp only at hao
              subst hao
              have q := hc k hlt
              have hs : hit (c.outs ++ c.next.take (k + 1)) (c.inputs + c.next.length + c.gates.length) = (hit (c.outs ++ c.next.take k) (c.inputs + c.next.length + c.gates.length) || (c.next.getD k 0) / 2 == (c.inputs + c.next.length + c.gates.length)) := by
                rw [hit_append, hit_append, hit_snoc _ _ _ hlt, Bool.or_assoc]
              obtain ⟨xl, hxl⟩ : ∃ x, x = c.next.getD k 0 := ⟨_, rfl⟩
              have hb1 := V.nxt hlt
              rw [← hxl] at q hs hb1
              clear hc hxl
              cases hu : hit (c.outs ++ c.next.take k) (c.inputs + c.next.length + c.gates.length)
              all_goals rw [hu] at hs
              all_goals go_wp2
              all_goals go_roundw
              case rel =>
                refine ⟨k + 1, by omega, by go_num, ?_, by trivial⟩
                rw [hs]
                simp
              case measure => simp [intOf]; omega
              case rel =>
                refine ⟨k + 1, by omega, by go_num, ?_, by trivial⟩
                rw [hs]
                simp
              case measure => simp [intOf]; omega
            · have hk2 : k = c.next.length := by omega
              subst hk2
              simp only [List.take_length]
              obtain ⟨U, hU⟩ : ∃ U, U = hit (c.outs ++ c.next) (c.inputs + c.next.length + c.gates.length) := ⟨_, rfl⟩
              rw [← hU]
              have HU := Lib.hid hU
              clear hU
              clear hL
              have E4 : Ext w3 (((w3.alloc (.cells #[.int .i64 c.inputs, .slice an c.next.length cn, .slice ag (c.gates.length - 1) cg, .slice ao c.outs.length co] 33)).alloc (.cells #[.int .i64 c.inputs, .slice an c.next.length cn, .slice ag c.gates.length cg, .slice ao c.outs.length co] 33)).alloc (.cells #[] 37)) := (((Ext.refl w3).alloc _).alloc _).alloc _
              obtain ⟨_, v0, v1, v2, v3⟩ := X.ext E4
              dsimp only at v0 v1 v2 v3
              have hgs := ((hC.ext E4).gs.take (c.gates.length - 1)).row
              dsimp only at hgs
              have O0 : World.ownsRow (((w3.alloc (.cells #[.int .i64 c.inputs, .slice an c.next.length cn, .slice ag (c.gates.length - 1) cg, .slice ao c.outs.length co] 33)).alloc (.cells #[.int .i64 c.inputs, .slice an c.next.length cn, .slice ag c.gates.length cg, .slice ao c.outs.length co] 33)).alloc (.cells #[] 37)) (w3.heap.size + 2) 37 2 (.slice (some ⟨w3.heap.size + 2, 0, none⟩) 0 0) 0 [] :=
                ⟨rfl, .inr ⟨w3.heap.size + 2, 0, #[], rfl, Nat.le_refl _, by simpa using heap_alloc_new ((w3.alloc (.cells #[.int .i64 c.inputs, .slice an c.next.length cn, .slice ag (c.gates.length - 1) cg, .slice ao c.outs.length co] 33)).alloc (.cells #[.int .i64 c.inputs, .slice an c.next.length cn, .slice ag c.gates.length cg, .slice ao c.outs.length co] 33)) (.cells #[] 37), Nat.le_refl _, by decide, rfl, rfl⟩⟩
              have hb10 : (((w3.alloc (.cells #[.int .i64 c.inputs, .slice an c.next.length cn, .slice ag (c.gates.length - 1) cg, .slice ao c.outs.length co] 33)).alloc (.cells #[.int .i64 c.inputs, .slice an c.next.length cn, .slice ag c.gates.length cg, .slice ao c.outs.length co] 33)).alloc (.cells #[] 37)).heap[w3.heap.size]? = some (.cells #[.int .i64 c.inputs, .slice an c.next.length cn, .slice ag (c.gates.length - 1) cg, .slice ao c.outs.length co] 33) :=
                (Below.heap_alloc _ _ _ (by simp; omega)).trans ((Below.heap_alloc _ _ _ (by simp)).trans (heap_alloc_new w3 _))
              have hb11 : (((w3.alloc (.cells #[.int .i64 c.inputs, .slice an c.next.length cn, .slice ag (c.gates.length - 1) cg, .slice ao c.outs.length co] 33)).alloc (.cells #[.int .i64 c.inputs, .slice an c.next.length cn, .slice ag c.gates.length cg, .slice ao c.outs.length co] 33)).alloc (.cells #[] 37)).heap[w3.heap.size + 1]? = some (.cells #[.int .i64 c.inputs, .slice an c.next.length cn, .slice ag c.gates.length cg, .slice ao c.outs.length co] 33) :=
                (Below.heap_alloc _ _ _ (by simp)).trans (by simpa using heap_alloc_new (w3.alloc (.cells #[.int .i64 c.inputs, .slice an c.next.length cn, .slice ag (c.gates.length - 1) cg, .slice ao c.outs.length co] 33)) (.cells #[.int .i64 c.inputs, .slice an c.next.length cn, .slice ag c.gates.length cg, .slice ao c.outs.length co] 33))
              have HC := Lib.hid hC
              clear hC X
              go_wp2_with (at_builtin; first | (refine wpList_app tyGates O0 hgs (by rw [flat_length, List.length_take]; omega) (oneCell_flat _) (by first | omega | (simp; omega)) (by simp) rfl rfl rfl rfl ?_; intro gv w8 o8 g8 m8; simp only [Nat.zero_add, List.nil_append] at o8; obtain ⟨ga, gc, rfl, hr8, _, _, ob8⟩ := ownsRow_row o8; have s8 : w3.heap.size + 3 ≤ w8.heap.size := (by have := g8.size; simp at this; omega); have k10 := (g8.block w3.heap.size (by simp; omega) (by simp [Value.ownBlock])).trans hb10; have k11 := (g8.block (w3.heap.size + 1) (by simp) (by simp [Value.ownBlock])).trans hb11; have E8 := ext_grown E4 g8 (by intro k hk; simp [Value.ownBlock] at hk; omega); clear hb10 hb11 O0 E4 v0 v1 v2 v3 x0 x1 x2 x3) | (refine wpList_app tyGates (ownsRow_ext o8 ((Ext.refl w8).alloc _)) (rowAt_pair _ _ _) rfl (oneCell_flat _) (by first | omega | (simp; omega)) (by simp; omega) rfl rfl rfl rfl ?_; intro gv w9 o9 g9 m9; obtain ⟨la, lc, rfl, hr9, _, _, ob9⟩ := ownsRow_row o9; have q10 := (g9.block w3.heap.size (by simp; omega) (by intro h; have := (o8.lt _ h.symm).1; omega)).trans ((Below.heap_alloc w8 _ _ (by omega)).trans k10); have q11 := (g9.block (w3.heap.size + 1) (by simp; omega) (by intro h; have := (o8.lt _ h.symm).1; omega)).trans ((Below.heap_alloc w8 _ _ (by omega)).trans k11); have s0 := cell_of_row w9 w3.heap.size 0 _ _ _ q10; have s1 := cell_of_row w9 w3.heap.size 1 _ _ _ q10; have s2 := cell_of_row w9 w3.heap.size 2 _ _ _ q10; have s3 := cell_of_row w9 w3.heap.size 3 _ _ _ q10; have t0 := cell_of_row w9 (w3.heap.size + 1) 0 _ _ _ q11; have t1 := cell_of_row w9 (w3.heap.size + 1) 1 _ _ _ q11; have t2 := cell_of_row w9 (w3.heap.size + 1) 2 _ _ _ q11; have t3 := cell_of_row w9 (w3.heap.size + 1) 3 _ _ _ q11; have ft : ∀ i, w9.frozen? ⟨w3.heap.size + 1, i, none⟩ = false := (fun i => frozen_of_row _ _ _ _ _ q11); simp at s0 s1 s2 s3 t0 t1 t2 t3; clear q10 q11))
              have E9 : Ext w3 w9 := ext_grown (E8.alloc _) g9 (by intro k hk; have := (o8.lt _ hk).1; omega)
              have s9 : w3.heap.size + 3 ≤ w9.heap.size := by have := g9.size; simp at this; omega
              refine (less_c c ⟨an, cn, ag, cg, ao, co⟩ _ (HC.out.ext (Ext.setNew E9 (by simp) _))).mono ?_
              rintro e w10 ⟨rfl, hE10⟩
              have u0 := ((ecell hE10).1 (w3.heap.size + 1) 0 (by simp; omega)).trans ((World.cell?_setCell_other _ _ _ _ (by simp)).trans t0)
              have u1 := ((ecell hE10).1 (w3.heap.size + 1) 1 (by simp; omega)).trans ((World.cell?_setCell_other _ _ _ _ (by simp)).trans t1)
              have u2 : w10.cell? ⟨w3.heap.size + 1, 2, none⟩ = some (.slice la (c.gates.length - 1 + 1) lc) := ((ecell hE10).1 (w3.heap.size + 1) 2 (by simp; omega)).trans (World.cell?_setCell_same _ _ _ t2)
              have u3 := ((ecell hE10).1 (w3.heap.size + 1) 3 (by simp; omega)).trans ((World.cell?_setCell_other _ _ _ _ (by simp)).trans t3)
              have E10 := E3.trans ((Ext.setNew E9 (p := ⟨w3.heap.size + 1, 2, none⟩) (by simp) _).trans hE10)
              have R9 := hr9
              have hCl : CircAt w10 c.loop ⟨an, cn, la, lc, ao, co⟩ := by
                have hx := HC.out.ext ((Ext.setNew E9 (p := ⟨w3.heap.size + 1, 2, none⟩) (by simp) _).trans hE10)
                refine ⟨hx.nx, ?_, hx.ou, hx.ln, ?_, hx.lo⟩
                · rw [← flat_append] at hr9
                  refine ((pairsAt_of_row hr9).set ?_ 2 _).ext hE10
                  intro x hx2
                  have := ob9 x hx2
                  omega
                · simp [Circ.loop]; omega
              rw [less_valid c V (by omega), ← HU.out]
              cases U
              all_goals go_wp2_with fail
              all_goals refine (loop_c c ⟨an, cn, la, lc, ao, co⟩ _ hCl).mono ?_
              all_goals rintro e w11 ⟨rfl, hE11⟩
              all_goals rw [loop_invalid c V (by omega)]
              all_goals go_wp2
              all_goals go_ret
              all_goals exact ⟨rfl, E10.trans hE11⟩
  · go_enter Try.func5, Try.ntmps5
    go_wp2
    go_ret
    exact ⟨rfl, Below.refl _ _⟩
theorem fnCircuitValid_lifted (os : Os) (started : os.Started) (H : Type) (enc : TypeId × Value → H) :
    ReturnsInHanded {} Try.checked os 5 .any (Rows.fnCircuitValidSpec.pre6 enc Try.prog Try.f5 Rows.fnCircuitValidRow.domain false) (Rows.fnCircuitValidSpec.post enc Try.prog Try.f5 false true false false) := by
  refine returnsInHanded_of_change (C := Try.checked) own started (by kernel_rfl) Try.func5
    (ChangeSpec.witness6 (enc := enc) (C := Try.checked) false ⟨#[], #[.slice none 0 0], []⟩ 8 (by kernel_rfl) (by kernel_rfl) (by kernel_rfl) (by kernel_rfl)) ?_
  intro W base args ds gs before hval0 hW hcnd _
  have hval : ∀ (j : Nat) t v, Try.f5.params[j]? = some t → args[j]? = some v → Value.okWide Try.prog W .any base t v := hval0
  have hW' := hW
  obtain ⟨p, q, hA0, hV, rfl, hfz, hnd⟩ := hW
  have hA : DataW.TrodAll enc Try.prog W 0 (fun _ => true) true Try.f5.params.toList args.toList ds p := hA0
  rw [Try.params5] at hA hval
  obtain ⟨v0, vs0, d0, ds0, p0, q0, hargs, rfl, rfl, h0, r0⟩ := trodAll_cons hA
  obtain ⟨rfl, rfl, rfl⟩ := trodAll_nil r0
  obtain rfl : args = #[v0] := by cases args; simp_all
  obtain ⟨rfl, rfl⟩ := trodVars_none hV
  obtain ⟨a0, len0, cap0, rfl⟩ := okWide_slice Try.underlying29 (hval 0 29 v0 rfl rfl)
  have k0 := h0
  have lt0 : ∀ x ∈ p0, x.block < W.heap.size := by obtain ⟨m, hm⟩ := k0; exact DataW.trod_lt m _ _ _ hm
  obtain ⟨z0, w0⟩ : ∃ zs, IsRow .u8 W a0 len0 cap0 zs := by
    obtain ⟨fuel, hf⟩ := h0
    rcases open_ints Try.underlying29 Try.underlying5 (by kernel_rfl) hf with ⟨hcs, _⟩ | ⟨x, l, c, zs, hcs, _, hl, hm, hz, _, hcell, hwz⟩
    · simp [Value.cells] at hcs
      obtain ⟨rfl, rfl, rfl⟩ := hcs
      exact ⟨[], .inl ⟨rfl, rfl, rfl, rfl⟩⟩
    · simp [Value.cells] at hcs
      obtain ⟨rfl, rfl, rfl⟩ := hcs
      exact ⟨zs, .inr ⟨_, rfl, hl, hm, by simpa using hz, hcell, hwz⟩⟩
  clear hA0 hval0
  refine (fnCircuitValid_walk a0 len0 cap0 z0 W w0).mono fun e W' ⟨he, bel⟩ => ?_
  subst he
  exact ⟨_, rfl, _, _, _, [], _, [], hW', trodAll_mk1 (shut_bool Try.underlying4 _), (trodAll_cons_mk (Below.trod laidOut (by kernel_rfl) (of_decide_eq_true (by kernel_rfl)) k0 bel lt0) trodAll_mk0), rfl, bel.frame _, fun h => by cases h⟩
theorem fnCircuitValid_over : Rows.fnCircuitValidRow.holds Try.pinned (OpenSpec.ofChange Rows.fnCircuitValidSpec) :=
  OpenClaim.holds_of_wide 5 Try.f5 rfl rfl rfl rfl rfl rfl rfl ⟨rfl, rfl, rfl, rfl, rfl⟩ rfl rfl rfl rfl rfl (by kernel_rfl) Try.func5 (by kernel_rfl)
    (of_decide_eq_true (by kernel_rfl)) (by unfold Func.isWrapper; first | (rw [if_pos (by decide +kernel)]; kernel_rfl) | (rw [if_neg (by decide +kernel)]; exact ⟨rfl, rfl⟩))
    (fun os started H enc _ => fnCircuitValid_lifted os started H enc)
theorem fnCircuitValid_holds : Rows.FnCircuitValidSaid := fnCircuitValid_over
end Go.Proofs.Ytkgimkdokdffoaa
