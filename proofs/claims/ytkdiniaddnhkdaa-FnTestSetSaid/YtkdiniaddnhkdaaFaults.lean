/- Contracts: the list of a circuit's faults; how the exact laws compare and mark it. -/
import Derived.Test.YtkdiniaddnhkdaaFind
import Derived.Test.YtkdiniaddnhkdaaSpec1
namespace Go.Proofs.Ytkdiniaddnhkdaa
open Go.RowKit
set_option maxRecDepth 100000
set_option linter.unusedVariables false
set_option linter.unusedSimpArgs false
def flatF (gs : List (Int × Bool)) : List Value := gs.flatMap fun g => [.int .i64 g.1, .bool g.2]
theorem flatF_cons (g : Int × Bool) (gs : List (Int × Bool)) : flatF (g :: gs) = .int .i64 g.1 :: .bool g.2 :: flatF gs := rfl
theorem flatF_append (a b : List (Int × Bool)) : flatF (a ++ b) = flatF a ++ flatF b := by simp [flatF]
theorem flatF_length (gs : List (Int × Bool)) : (flatF gs).length = gs.length * 2 := by
  induction gs with
  | nil => rfl
  | cons g gs ih => rw [flatF_cons]; simp only [List.length_cons, ih]; omega
theorem flatF_get (gs : List (Int × Bool)) : ∀ j, j < gs.length → (flatF gs)[j * 2]? = some (.int .i64 (gs.getD j (0, false)).1) ∧ (flatF gs)[j * 2 + 1]? = some (.bool (gs.getD j (0, false)).2) := by
  induction gs with
  | nil => intro j hj; simp at hj
  | cons g gs ih =>
    intro j hj
    rw [flatF_cons]
    cases j with
    | zero => simp
    | succ j =>
      have := ih j (by simpa using hj)
      have e1 : (j + 1) * 2 = j * 2 + 1 + 1 := by omega
      rw [e1]
      simpa using this
theorem flatF_set : ∀ (gs : List (Int × Bool)) (k : Nat) (g : Int × Bool), ((flatF gs).set (k * 2) (.int .i64 g.1)).set (k * 2 + 1) (.bool g.2) = flatF (gs.set k g)
  | [], k, g => by simp [flatF]
  | x :: gs, 0, g => by simp [flatF_cons]
  | x :: gs, k + 1, g => by
    have ih := flatF_set gs k g
    have e1 : (k + 1) * 2 = k * 2 + 1 + 1 := by omega
    rw [List.set_cons_succ, flatF_cons, flatF_cons, e1, List.set_cons_succ, List.set_cons_succ, List.set_cons_succ, List.set_cons_succ, ih]
theorem oneCell_flatF (gs : List (Int × Bool)) : ∀ u ∈ flatF gs, u.oneCell' = true := by
  intro u hu
  simp only [flatF, List.mem_flatMap, List.mem_cons, List.not_mem_nil, or_false] at hu
  obtain ⟨g, _, rfl | rfl⟩ := hu <;> rfl
/-- The two faults of each of the first n variables behind constant false. -/
def faultsN (n : Nat) : List (Int × Bool) := (List.range n).flatMap fun (v : Nat) => [((v : Int) + 1, false), ((v : Int) + 1, true)]
theorem faultsN_succ (n : Nat) : faultsN (n + 1) = faultsN n ++ [((n : Int) + 1, false), ((n : Int) + 1, true)] := by simp [faultsN, List.range_succ]
theorem faultsN_length (n : Nat) : (faultsN n).length = n * 2 := by
  induction n with
  | zero => rfl
  | succ n ih => rw [faultsN_succ, List.length_append, ih]; simp; omega
noncomputable def faultsV (c : Circ) : List (Int × Bool) := if validB c then faultsN (c.vars - 1).toNat else []
def OwnF (w : World) (b : Nat) (v : Value) (xs : List (Int × Bool)) : Prop := w.ownsRow b 50 2 v xs.length (flatF xs)
def GiveF (w : World) (xs : List (Int × Bool)) (e : Ending) (w' : World) : Prop := ∃ v, e = .returned v ∧ OwnF w' w.heap.size v xs ∧ Ext w w'
theorem tyFaults : RowTy Try.prog 46 50 2 16 := RowTy.mk' (z := .agg #[.int .i64 0, .bool false]) Try.underlying46 (by kernel_rfl) rfl (by decide) (by decide)
section
variable {w w' : World} {b b2 : Nat} {v : Value} {xs ys : List (Int × Bool)}
theorem OwnF.ext (h : OwnF w b v xs) (e : Ext w w') : OwnF w' b v xs := ownsRow_ext h e
theorem OwnF.nil : OwnF w b (.slice none 0 0) [] := World.ownsRow_nil _ _ _ _
theorem OwnF.le (h : OwnF w b v xs) (hb : b2 ≤ b) : OwnF w b2 v xs := by
  refine ⟨h.1, ?_⟩
  rcases h.2 with h | ⟨g, cap, cur, h1, h2, h3⟩
  · exact .inl h
  · exact .inr ⟨g, cap, cur, h1, Nat.le_trans hb h2, h3⟩
theorem OwnF.lt' (h : OwnF w b v xs) : ∀ k, v.ownBlock = some k → b ≤ k ∧ k < w.heap.size := by
  obtain ⟨_, h2⟩ := h
  rcases h2 with ⟨rfl, _⟩ | ⟨g, cap, cur, rfl, hb, hgg, rest⟩
  · intro k hk; cases hk
  · intro k hk; cases hk; exact ⟨hb, (Array.getElem?_eq_some_iff.1 hgg).1⟩
theorem OwnF.app {n m : Nat} (hn : n = xs.length) (hm : m = ys.length) (h : w.ownsRow b 50 2 v (n + m) (flatF xs ++ flatF ys)) : OwnF w b v (xs ++ ys) := by
  subst hn hm
  unfold OwnF
  rw [List.length_append, flatF_append]; exact h
end
theorem faultsV_small (c : Circ) : (faultsV c).length ≤ 1048576 := by
  unfold faultsV
  cases hv : validB c
  · simp
  · have := vars_le (validB_iff.1 hv)
    simp only [if_true]
    rw [faultsN_length]; omega
def FaultsAt (w : World) (a : Option Addr) (xs : List (Int × Bool)) : Prop := RowAt w a (flatF xs)
theorem FaultsAt.get {w : World} {a : Option Addr} {xs : List (Int × Bool)} (h : FaultsAt w a xs) (hn : 0 < xs.length) : ∃ b o, a = some ⟨b, o, none⟩ ∧ b < w.heap.size ∧ ∀ j, j < xs.length → w.cell? ⟨b, o + j * 2, none⟩ = some (.int .i64 (xs.getD j (0, false)).1) ∧ w.cell? ⟨b, o + j * 2 + 1, none⟩ = some (.bool (xs.getD j (0, false)).2) := by
  rcases h with h | ⟨b, o, ha, hb, hc⟩
  · have := flatF_length xs
    rw [h] at this
    simp at this; omega
  · exact ⟨b, o, ha, hb, fun j hj => ⟨hc _ _ (flatF_get xs j hj).1, by rw [Nat.add_assoc]; exact hc _ _ (flatF_get xs j hj).2⟩⟩
theorem OwnF.opened {w : World} {b : Nat} {v : Value} {xs : List (Int × Bool)} (h : OwnF w b v xs) : ∃ a c, v = .slice a xs.length c ∧ FaultsAt w a xs := by
  obtain ⟨a, c, hv, hr, _⟩ := ownsRow_row h
  exact ⟨a, c, hv, hr⟩
def FaultsRel (w : World) (c : Circ) (p : Where3) (n : Nat) (u3 u4 : Value) (wr : World) : Prop :=
  ∃ k : Nat, k ≤ n ∧ u4 = .int .i64 (k + 1) ∧ OwnF wr (w.heap.size + 1) u3 (faultsN k) ∧ CircBox wr w.heap.size c p ∧ Ext w wr
set_option maxHeartbeats 1000000 in
theorem implFaults_c (c : Circ) (p : Where3) (w : World) (hc : CircAt w c p) :
    Calls Try.prog 25 #[.agg #[.int .i64 c.inputs, .slice p.an c.next.length p.cn, .slice p.ag c.gates.length p.cg, .slice p.ao c.outs.length p.co]] w (GiveF w (faultsV c)) := by
  have EF : Hid (faultsV c = if validB c then faultsN (c.vars - 1).toNat else []) := Lib.hid rfl
  obtain ⟨D, hD⟩ : ∃ D, D = faultsV c := ⟨_, rfl⟩
  rw [← hD] at EF ⊢
  clear hD
  have y := CircBox.made w c p 42
  cases hv : validB c
  · have HV := Lib.hid hv
    clear hv
    go_enter Try.func25, Try.ntmps25
    go_wp2_with fail
    refine (implCircuitValid_c c p _ (hc.ext (by (repeat (first | with_reducible assumption | with_reducible exact Ext.refl _ | with_reducible refine Ext.drew' ?_ | with_reducible refine Ext.drewN' ?_ _ | with_reducible refine Ext.alloc ?_ _ | (with_reducible refine Ext.setNew ?_ (by first | exact Nat.le_refl _ | (simp; done) | (simp; omega) | omega) _)))))).mono ?_
    rw [HV.out]
    rintro e w1 ⟨rfl, hE1⟩
    have E1 := Ext.trans (a := w) (by (repeat (first | with_reducible assumption | with_reducible exact Ext.refl _ | with_reducible refine Ext.drew' ?_ | with_reducible refine Ext.drewN' ?_ _ | with_reducible refine Ext.alloc ?_ _ | (with_reducible refine Ext.setNew ?_ (by first | exact Nat.le_refl _ | (simp; done) | (simp; omega) | omega) _)))) hE1
    go_wp2
    go_ret
    refine ⟨_, rfl, ?_, E1⟩
    rw [EF.out, HV.out]; exact OwnF.nil
  · have V := validB_iff.1 hv
    have HV := Lib.hid hv
    have hvl := vars_le V
    have i0 := V.i0
    have i4 := V.i4
    have ln := V.ln
    have lg := V.lg
    obtain ⟨n, hn⟩ : ∃ n : Nat, n = (c.vars - 1).toNat := ⟨_, rfl⟩
    have hn1 : (n : Int) + 1 ≤ c.vars := by omega
    have hn2 : c.vars ≤ (n : Int) + 1 := by omega
    rw [← hn] at EF
    clear hv hn
    go_enter Try.func25, Try.ntmps25
    go_wp2_with fail
    refine (implCircuitValid_c c p _ (hc.ext (by (repeat (first | with_reducible assumption | with_reducible exact Ext.refl _ | with_reducible refine Ext.drew' ?_ | with_reducible refine Ext.drewN' ?_ _ | with_reducible refine Ext.alloc ?_ _ | (with_reducible refine Ext.setNew ?_ (by first | exact Nat.le_refl _ | (simp; done) | (simp; omega) | omega) _)))))).mono ?_
    rw [HV.out]
    rintro e w1 ⟨rfl, hE1⟩
    have E1 := Ext.trans (a := w) (by (repeat (first | with_reducible assumption | with_reducible exact Ext.refl _ | with_reducible refine Ext.drew' ?_ | with_reducible refine Ext.drewN' ?_ _ | with_reducible refine Ext.alloc ?_ _ | (with_reducible refine Ext.setNew ?_ (by first | exact Nat.le_refl _ | (simp; done) | (simp; omega) | omega) _)))) hE1
    replace y := y.ext hE1
    go_wp2_with fail
    go_loopw [3, 4] (FaultsRel w c p n) (fun _ i _ => n + 1 - (intOf i).toNat)
    case atStart => exact ⟨0, Nat.zero_le _, rfl, OwnF.nil, y, E1⟩
    case round =>
      obtain ⟨k, hk, rfl, hO, hb, hE⟩ := hrel
      clear y E1 hE1
      by_cases hlt : k < n
      · have hs := faultsN_succ k
        have hl := faultsN_length k
        obtain ⟨xs, hxs⟩ : ∃ xs, xs = faultsN k := ⟨_, rfl⟩
        rw [← hxs] at hO hs hl
        have HS := Lib.hid hs
        have hl1 : xs.length ≤ 100 := by omega
        clear hs hl hxs
        go_wp2_with (first | (go_at_call 86; refine (vars_c w.heap.size c p _ hb i0 (by omega) (by omega) (by omega)).mono ?_; rintro e w2 ⟨rfl, nd, rfl⟩) | (at_builtin; refine wpList_app tyFaults (ownsRow_ext hO (by (repeat (first | with_reducible assumption | with_reducible exact Ext.refl _ | with_reducible refine Ext.drew' ?_ | with_reducible refine Ext.drewN' ?_ _ | with_reducible refine Ext.alloc ?_ _ | (with_reducible refine Ext.setNew ?_ (by first | exact Nat.le_refl _ | (simp; done) | (simp; omega) | omega) _))))) (RowAt.new _ _ _) rfl (by simp [Value.oneCell']) (by omega) (by have := hE.size; simp; omega) rfl rfl rfl rfl ?_; intro v2 w2 o2 g2 m2))
        have hOb := fun k hk => (hO.lt' k hk).1
        go_roundw
        case rel =>
          refine ⟨k + 1, by omega, by go_num, ?_, (hb.ext (by (repeat (first | with_reducible assumption | with_reducible exact Ext.refl _ | with_reducible refine Ext.drew' ?_ | with_reducible refine Ext.drewN' ?_ _ | with_reducible refine Ext.alloc ?_ _ | (with_reducible refine Ext.setNew ?_ (by first | exact Nat.le_refl _ | (simp; done) | (simp; omega) | omega) _))))).grn g2 (by intro h; have := hOb _ h; omega), ext_grown (w1 := World.alloc _ _) (by (repeat (first | with_reducible assumption | with_reducible exact Ext.refl _ | with_reducible refine Ext.drew' ?_ | with_reducible refine Ext.drewN' ?_ _ | with_reducible refine Ext.alloc ?_ _ | (with_reducible refine Ext.setNew ?_ (by first | exact Nat.le_refl _ | (simp; done) | (simp; omega) | omega) _)))) g2 (by intro k hk; have := hOb _ hk; omega)⟩
          rw [HS.out]
          exact OwnF.app rfl rfl o2
        case measure => simp [intOf]; omega
      · have hk2 : k = n := by omega
        subst hk2
        go_wp2_with fail
        refine (vars_c w.heap.size c p _ hb i0 (by omega) (by omega) (by omega)).mono ?_
        rintro e w2 ⟨rfl, nd, rfl⟩
        go_wp2
        go_ret
        refine ⟨_, rfl, ?_, hE.drewN' _⟩
        rw [EF.out, HV.out]
        exact (hO.ext (Ext.drewN _ _)).le (by omega)
set_option maxHeartbeats 1000000 in
theorem l12Faults_c (c : Circ) (p : Where3) (w : World) (hc : CircAt w c p) (V : c.Valid) :
    Calls Try.prog 82 #[.agg #[.int .i64 c.inputs, .slice p.an c.next.length p.cn, .slice p.ag c.gates.length p.cg, .slice p.ao c.outs.length p.co]] w (GiveF w (faultsN (c.vars - 1).toNat)) := by
  have hvl := vars_le V
  have i0 := V.i0
  have i4 := V.i4
  have ln := V.ln
  have lg := V.lg
  obtain ⟨n, hn⟩ : ∃ n : Nat, n = (c.vars - 1).toNat := ⟨_, rfl⟩
  have hvf : c.vars = c.first + c.gates.length := rfl
  have hn1 : (n : Int) + 1 ≤ c.first + c.gates.length := by omega
  have hn2 : c.first + c.gates.length ≤ (n : Int) + 1 := by omega
  have HF : Hid (c.first = 1 + c.inputs + c.next.length) := Lib.hid rfl
  have hf : 1 ≤ c.first ∧ c.first ≤ 8 := by rw [HF.out]; omega
  have hw1 : IntKind.i64.wrap (c.first + c.gates.length) = c.first + c.gates.length := IntWalk.i64_in _ (by omega)
  rw [← hn]
  clear hn hvf
  have y := (CircBox.made w c p 42).ext ((Ext.refl _).alloc (.cells #[] 50))
  have B0 := Blk.at (w.alloc (.cells #[.int .i64 c.inputs, .slice p.an c.next.length p.cn, .slice p.ag c.gates.length p.cg, .slice p.ao c.outs.length p.co] 42)) [] 50 (B := w.heap.size + 1) (by simp)
  have O0 : OwnF ((w.alloc (.cells #[.int .i64 c.inputs, .slice p.an c.next.length p.cn, .slice p.ag c.gates.length p.cg, .slice p.ao c.outs.length p.co] 42)).alloc (.cells #[] 50)) (w.heap.size + 1) (.slice (some ⟨w.heap.size + 1, 0, none⟩) 0 0) (faultsN 0) := B0.owns (n := 0) (size := 2) rfl (Nat.le_refl _) (by decide)
  go_enter Try.func82, Try.ntmps82
  go_wp2_with fail
  go_loopw [3, 4] (FaultsRel w c p n) (fun _ i _ => n + 1 - (intOf i).toNat)
  case atStart => exact ⟨0, Nat.zero_le _, rfl, O0, y, by (repeat (first | with_reducible assumption | with_reducible exact Ext.refl _ | with_reducible refine Ext.drew' ?_ | with_reducible refine Ext.drewN' ?_ _ | with_reducible refine Ext.alloc ?_ _ | (with_reducible refine Ext.setNew ?_ (by first | exact Nat.le_refl _ | (simp; done) | (simp; omega) | omega) _)))⟩
  case round =>
    obtain ⟨k, hk, rfl, hO, hb, hE⟩ := hrel
    clear y O0 B0
    (obtain ⟨la, a0, a1, a2, a3⟩ := (id hb))
    by_cases hlt : k < n
    · have hs := faultsN_succ k
      have hl := faultsN_length k
      obtain ⟨xs, hxs⟩ : ∃ xs, xs = faultsN k := ⟨_, rfl⟩
      rw [← hxs] at hO hs hl
      have HS := Lib.hid hs
      have hl1 : xs.length ≤ 100 := by omega
      clear hs hl hxs
      go_wp2_with fail
      go_region_held3 ((fun w' => (∀ b o, b < wr.heap.size → w'.cell? ⟨b, o, none⟩ = wr.cell? ⟨b, o, none⟩) ∧ Ext wr w')) ((first | assumption | (with_reducible exact held_mk (Ext.drew wr)) | (with_reducible exact held_mk (((Ext.refl wr).alloc _).drew')) | (with_reducible exact held_mk ((Ext.drew wr).alloc _)))) (first | (go_simp; go_at_call 121; refine (l1First_c c p _ (by omega) (by omega) (by omega)).mono ?_; rintro e w2 ⟨rfl, hE2⟩; have hK2 := held_mk ((Ext.drew wr).trans hE2)))
      have F2 := held_ext hK2
      have hO2 := hO.ext F2
      go_wp2_with (at_builtin; refine wpList_app tyFaults (ownsRow_ext hO2 (by (repeat (first | with_reducible assumption | with_reducible exact Ext.refl _ | with_reducible refine Ext.drew' ?_ | with_reducible refine Ext.drewN' ?_ _ | with_reducible refine Ext.alloc ?_ _ | (with_reducible refine Ext.setNew ?_ (by first | exact Nat.le_refl _ | (simp; done) | (simp; omega) | omega) _))))) (RowAt.new _ _ _) rfl (by simp [Value.oneCell']) (by omega) (by have := hE.size; have := F2.size; simp; omega) rfl rfl rfl rfl ?_; intro v2 w3 o2 g2 m2)
      have hOb := fun k hk => (hO.lt' k hk).1
      go_roundw
      case rel =>
        have hb2 := hb.ext F2
        have E2 := hE.trans F2
        refine ⟨k + 1, by omega, by go_num, ?_, (hb2.ext (by (repeat (first | with_reducible assumption | with_reducible exact Ext.refl _ | with_reducible refine Ext.drew' ?_ | with_reducible refine Ext.drewN' ?_ _ | with_reducible refine Ext.alloc ?_ _ | (with_reducible refine Ext.setNew ?_ (by first | exact Nat.le_refl _ | (simp; done) | (simp; omega) | omega) _))))).grn g2 (by intro h; have := hOb _ h; omega), ext_grown (w1 := World.alloc _ _) (by (repeat (first | with_reducible assumption | with_reducible exact Ext.refl _ | with_reducible refine Ext.drew' ?_ | with_reducible refine Ext.drewN' ?_ _ | with_reducible refine Ext.alloc ?_ _ | (with_reducible refine Ext.setNew ?_ (by first | exact Nat.le_refl _ | (simp; done) | (simp; omega) | omega) _)))) g2 (by intro k hk; have := hOb _ hk; omega)⟩
        rw [HS.out]
        exact OwnF.app rfl rfl o2
      case measure => simp [intOf]; omega
    · have hk2 : k = n := by omega
      subst hk2
      go_wp2_with fail
      go_region_held3 ((fun w' => (∀ b o, b < wr.heap.size → w'.cell? ⟨b, o, none⟩ = wr.cell? ⟨b, o, none⟩) ∧ Ext wr w')) ((first | assumption | (with_reducible exact held_mk (Ext.drew wr)) | (with_reducible exact held_mk (((Ext.refl wr).alloc _).drew')) | (with_reducible exact held_mk ((Ext.drew wr).alloc _)))) (first | (go_simp; go_at_call 121; refine (l1First_c c p _ (by omega) (by omega) (by omega)).mono ?_; rintro e w2 ⟨rfl, hE2⟩; have hK2 := held_mk ((Ext.drew wr).trans hE2)))
      have F2 := held_ext hK2
      go_wp2
      go_ret
      exact ⟨_, rfl, (hO.ext F2).le (by omega), hE.trans F2⟩
end Go.Proofs.Ytkdiniaddnhkdaa
