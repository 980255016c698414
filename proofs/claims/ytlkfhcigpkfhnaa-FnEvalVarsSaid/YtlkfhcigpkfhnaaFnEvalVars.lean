/- The law FnEvalVars: every gate is the conjunction of its operands. -/
import Derived.Test.YtlkfhcigpkfhnaaBytes
import Derived.Test.YtlkfhcigpkfhnaaDrawEv
import Derived.Test.YtlkfhcigpkfhnaaStep
import Derived.Test.YtlkfhcigpkfhnaaDet
namespace Go.Proofs.Ytlkfhcigpkfhnaa
open Go.ChangeShapes Go.WideShapes Go.ChangeAt Go.RowKit
set_option maxRecDepth 100000
set_option linter.unusedVariables false
set_option linter.unusedSimpArgs false
theorem litV_rd {vs : List Bool} {l : Int} {y : Bool} (h : y = vs.getD (l / 2).toNat false) : litV vs l = (y != (l % 2 == 1)) := by unfold litV; rw [h]
theorem sVals_take (s : Int) (b : Bool) (ins st : List Bool) (gs : List (Int × Int)) (k i : Nat) (hi : i < 1 + ins.length + st.length + k) (hk : k ≤ gs.length) : (sVals s b ins st gs).getD i false = (sVals s b ins st (gs.take k)).getD i false := by
  have e : sVals s b ins st gs = (gs.drop k).foldl (sStep s b) (sVals s b ins st (gs.take k)) := by
    unfold sVals; rw [← List.foldl_append, List.take_append_drop]
  rw [e]
  generalize gs.drop k = ds
  have hl : i < (sVals s b ins st (gs.take k)).length := by rw [sVals_length, List.length_take]; omega
  revert hl
  generalize sVals s b ins st (gs.take k) = L
  induction ds generalizing L with
  | nil => intro _; rfl
  | cons g ds ih =>
    intro hl
    simp only [List.foldl_cons]
    rw [ih _ (by simp [sStep]; omega)]
    exact getD_append_left _ _ _ _ hl
/-- Each gate's value. -/
theorem vals_gate {c : Circ} {st ins : List Bool} (ok : EvOk c st ins) (k : Nat) (hk : k < c.gates.length) (ha : litB (c.gates.getD k (0, 0)).1 (c.first + k) = true) (hb : litB (c.gates.getD k (0, 0)).2 (c.first + k) = true) :
    (valsOf ins st c.gates).getD (1 + ins.length + st.length + k) false = (litV (valsOf ins st c.gates) (c.gates.getD k (0, 0)).1 && litV (valsOf ins st c.gates) (c.gates.getD k (0, 0)).2) := by
  have hff : c.first = ((1 + ins.length + st.length : Nat) : Int) := by
    have := ok.ls; have := ok.li
    unfold Circ.first; omega
  obtain ⟨a0, a1⟩ := litB_iff'.1 ha
  obtain ⟨b0, b1⟩ := litB_iff'.1 hb
  rw [hff] at a1 b1
  have e1 : ∀ l : Int, 0 ≤ l → l < 2 * (((1 + ins.length + st.length : Nat) : Int) + k) → litV (valsOf ins st c.gates) l = litV (sVals (-1) false ins st (c.gates.take k)) l := by
    intro l h0 h1
    unfold litV valsOf
    rw [sVals_take (-1) false ins st c.gates k (l / 2).toNat (by omega) (by omega)]
  rw [e1 _ a0 a1, e1 _ b0 b1]
  unfold valsOf
  rw [sVals_take (-1) false ins st c.gates (k + 1) _ (by omega) (by omega), take_snocG c.gates k (0, 0) hk, sVals_snoc]
  have hl : (sVals (-1) false ins st (c.gates.take k)).length = 1 + ins.length + st.length + k := by rw [sVals_length, List.length_take, Nat.min_eq_left (by omega)]
  unfold sStep
  rw [if_neg (by omega), ← hl]
  simp [List.getD_eq_getElem?_getD]
/-- The first values are constant false, the inputs and the latches. -/
theorem vals_head (ins st : List Bool) (gs : List (Int × Int)) : ∃ rest, valsOf ins st gs = false :: (ins ++ st ++ rest) := by
  have h0 : base0 (-1) false ins st = vals0 ins st := by unfold base0; rw [if_neg (by omega)]
  have : ∀ (gs : List (Int × Int)) (L : List Bool), ∃ rest, gs.foldl (sStep (-1) false) L = L ++ rest := by
    intro gs
    induction gs with
    | nil => intro L; exact ⟨[], by simp⟩
    | cons g gs ih =>
      intro L
      obtain ⟨r, hr⟩ := ih (sStep (-1) false L g)
      exact ⟨[if (L.length : Int) = -1 then false else litV L g.1 && litV L g.2] ++ r, by rw [List.foldl_cons, hr]; simp [sStep]⟩
  obtain ⟨r, hr⟩ := this gs (vals0 ins st)
  exact ⟨r, by unfold valsOf sVals; rw [h0, hr]; simp [vals0]⟩
theorem varCount_ok' {c : Circ} (V : c.Valid) : varCount c = c.vars := by simp [varCount, validB_true V]
theorem run_between (B n cap m : Nat) (l h : Int) (h0 : 0 ≤ l) (hm : h = l + m) (h2 : h ≤ cap) :
    ∃ o, (l < cap → o = l.toNat) ∧ ∀ w, (Instr.sliceAt 27 (.slice (some ⟨B, 0, none⟩) n cap) (some (.int .i64 l)) (some (.int .i64 h)) none).run Try.prog w = .ok (.slice (some ⟨B, o, none⟩) m (cap - l.toNat)) w := by
  have ht := Try.underlying27
  have he := elem_of ht
  have ht' : Try.prog.underlying 27 = some (.slice (Try.prog.elem 27)) := by rw [he]; exact ht
  have hadd : (⟨B, 0, none⟩ : Addr).add (l.toNat * 1) = ⟨B, l.toNat * 1, none⟩ := by unfold Addr.add; split <;> simp_all
  refine ⟨if cap = l.toNat then 0 else l.toNat * 1, fun h => by rw [if_neg (by omega)]; omega, fun w => ?_⟩
  rw [run_sliceAt_slice w 27 _ _ _ _ ht', run_slice_lh w 27 _ n cap ht' .i64 .i64 l h h0 (by omega) h2, he, run_size boolSize]
  simp only [Result.andThen_ok, sliced, Option.map_some, hadd]
  have e : h.toNat - l.toNat = m := by omega
  rw [e]
  split <;> rfl
theorem bools_part {w : World} {B : Nat} {t : TypeId} {xs a b d : List Bool} (h : Blk w B t (xs.map Value.bool)) (hx : xs = a ++ b ++ d) (o : Nat) (ho : 0 < b.length → o = a.length) : BoolsAt w (some ⟨B, o, none⟩) b := by
  rcases Nat.eq_zero_or_pos b.length with h0 | h0
  · exact .inl (List.eq_nil_of_length_eq_zero h0)
  · refine .inr ⟨B, o, rfl, h.lt, fun j hj => h.cell ?_⟩
    rw [ho h0, hx, List.map_append, List.map_append, List.getElem?_append_left (by simp; omega), List.getElem?_append_right (by simp)]
    simp [List.getD_eq_getElem?_getD, hj]
set_option maxHeartbeats 8000000 in
theorem fnEvalVars_walk (a0 : Option Addr) (len0 cap0 : Nat) (z0 : List Int) (w : World) (w0 : IsRow .u8 w a0 len0 cap0 z0) :
    Calls Try.prog 3 #[.slice a0 len0 cap0] w fun e w' => e = .returned (.bool true) ∧ Below w.heap.size w w' := by
  obtain ⟨bs, rfl, hB, hlc, hcm⟩ := bytes_of_row w0
  by_cases hl : bs.length ≤ 1048576
  · go_enter Try.func3, Try.ntmps3
    go_wp2_with fail
    refine (DrawEvalVars_c a0 cap0 bs _ hB hl hlc hcm).mono ?_
    rintro e w1 ⟨c, p, sa, sc, ia, ic, st, ins, rfl, hC, hd, hs, hi, l1, l2, hE1, _, _, _⟩
    have ln := hd.ln
    have lo := hd.lo
    clear hd
    have y := CircBox.made w1 c p 26
    by_cases ok : EvOk c st ins
    · have V := ok.V
      have hls := ok.ls
      have hli := ok.li
      have h1' : ((st.length : Int) != (c.next.length : Int)) = false := by simp; omega
      have h2' : ((ins.length : Int) != c.inputs) = false := by simp; omega
      have hvl := vals_len ok
      have v22 := ev_len ok
      have vl1 := (vars_le V).2
      have HEV := Lib.hid (evalV_ok ok)
      have OK := Lib.hid ok
      have HG := Lib.hid (fun k hk => vals_gate ok k hk (V.gs k hk).1 (V.gs k hk).2)
      have HGS := Lib.hid V.gs
      have hff : c.first = ((1 + ins.length + st.length : Nat) : Int) := by unfold Circ.first; omega
      have HFF := Lib.hid hff
      have hfg : c.vars = c.first + c.gates.length := rfl
      obtain ⟨rest, hrest⟩ := vals_head ins st c.gates
      obtain ⟨vs, hvs⟩ : ∃ vs, vs = valsOf ins st c.gates := ⟨_, rfl⟩
      rw [← hvs] at hvl v22 HEV HG hrest
      have HVS := Lib.hid hvs
      have HR := Lib.hid hrest
      have hn1 : (vs.length : Int) = 1 + ins.length + st.length + c.gates.length := by omega
      have hne : ((vs.length : Int) != c.vars) = false := by simp; omega
      have lI : ins.length ≤ 4 := by have := V.i4; omega
      have lT : st.length ≤ 3 := by have := V.ln; omega
      have HN1 := Lib.hid hn1
      have n1 : 1 + ins.length + st.length + c.gates.length ≤ vs.length := by omega
      have n2 : vs.length ≤ 1 + ins.length + st.length + c.gates.length := by omega
      clear ok hls hli hvl hff hfg hrest hvs hn1
      go_wp2_with fail
      refine (implEvalVars_ok c p _ _ _ _ st ins _ (hC.ext (by (repeat (first | with_reducible assumption | with_reducible exact Ext.refl _ | with_reducible refine Ext.drew' ?_ | with_reducible refine Ext.drewN' ?_ _ | with_reducible refine Ext.alloc ?_ _ | (with_reducible refine Ext.setNew ?_ (by first | exact Nat.le_refl _ | (simp; done) | (simp; omega) | omega) _))))) (hs.ext (by (repeat (first | with_reducible assumption | with_reducible exact Ext.refl _ | with_reducible refine Ext.drew' ?_ | with_reducible refine Ext.drewN' ?_ _ | with_reducible refine Ext.alloc ?_ _ | (with_reducible refine Ext.setNew ?_ (by first | exact Nat.le_refl _ | (simp; done) | (simp; omega) | omega) _))))) (hi.ext (by (repeat (first | with_reducible assumption | with_reducible exact Ext.refl _ | with_reducible refine Ext.drew' ?_ | with_reducible refine Ext.drewN' ?_ _ | with_reducible refine Ext.alloc ?_ _ | (with_reducible refine Ext.setNew ?_ (by first | exact Nat.le_refl _ | (simp; done) | (simp; omega) | omega) _))))) OK.out).mono ?_
      rw [← HVS.out]
      rintro e w2 ⟨B2, rfl, hB2, hV2, hE2⟩
      have E2 := Ext.trans (a := w1) (by (repeat (first | with_reducible assumption | with_reducible exact Ext.refl _ | with_reducible refine Ext.drew' ?_ | with_reducible refine Ext.drewN' ?_ _ | with_reducible refine Ext.alloc ?_ _ | (with_reducible refine Ext.setNew ?_ (by first | exact Nat.le_refl _ | (simp; done) | (simp; omega) | omega) _)))) hE2
      replace y := y.ext hE2
      (obtain ⟨la, a0, a1, a2, a3⟩ := (id y))
      go_wp2_with fail
      refine (specEvalVars_c c p _ _ _ _ st ins _ (hC.ext E2) (hs.ext E2) (hi.ext E2) (by omega) (by omega)).mono ?_
      rw [HEV.out]
      rintro e w3 ⟨v3, rfl, hO3, hE3⟩
      obtain ⟨a3', c3, rfl, hX3⟩ := hO3.opened
      have q1 : (vs == vs) = true := by simp
      have Q1 := Lib.hid q1
      clear q1
      go_wp2_with fail
      refine (sameBools_c _ _ _ _ _ _ vs vs rfl rfl _ (hV2.ext hE3).bools hX3 (by omega) (by omega)).mono ?_
      rw [Q1.out]
      rintro e w4 ⟨rfl, hE4⟩
      have F4 := hE3.trans hE4
      have E4 := E2.trans F4
      replace y := y.ext F4
      have hV4 := hV2.ext F4
      clear a0 a1 a2 a3 la
      (obtain ⟨la, a0, a1, a2, a3⟩ := (id y))
      go_wp2_with fail
      refine (specCircuitValid_c c p _ (hC.ext E4)).mono ?_
      rw [validB_true V]
      rintro e w5 ⟨rfl, hE5⟩
      have E5 := E4.trans hE5
      replace y := y.ext hE5
      have hV5 := hV4.ext hE5
      clear a0 a1 a2 a3 la
      (obtain ⟨la, a0, a1, a2, a3⟩ := (id y))
      go_wp2_with fail
      refine (implVarCount_c c p _ (hC.ext E5)).mono ?_
      rw [varCount_ok' V]
      rintro e w6 ⟨rfl, hE6⟩
      have E6 := E5.trans hE6
      replace y := y.ext hE6
      have hV6 := hV5.ext hE6
      clear a0 a1 a2 a3 la
      (obtain ⟨la, a0, a1, a2, a3⟩ := (id y))
      have hz : w6.cell? ⟨B2, 0, none⟩ = some (.bool false) := hV6.cell (by rw [HR.out]; rfl)
      obtain ⟨o1, ho1, hr1⟩ := run_between B2 vs.length vs.length ins.length 1 (1 + (ins.length : Int)) (by omega) rfl (by omega)
      obtain ⟨o2, ho2, hr2⟩ := run_between B2 vs.length vs.length st.length (1 + (ins.length : Int)) (1 + (ins.length : Int) + (st.length : Int)) (by omega) rfl (by omega)
      have b1 : BoolsAt w6 (some ⟨B2, o1, none⟩) ins := bools_part hV6 (a := [false]) (b := ins) (d := st ++ rest) (by rw [HR.out]; simp) o1 (fun h => by rw [ho1 (by omega)]; rfl)
      have b2 : BoolsAt w6 (some ⟨B2, o2, none⟩) st := bools_part hV6 (a := false :: ins) (b := st) (d := rest) (by rw [HR.out]; simp) o2 (fun h => by rw [ho2 (by omega)]; simp; omega)
      have q2 : (ins == ins) = true := by simp
      have q3 : (st == st) = true := by simp
      have Q2 := Lib.hid q2
      have Q3 := Lib.hid q3
      clear q2 q3 ho1 ho2
      go_wp2_with fail
      refine (sameBools_c _ _ _ _ _ _ ins ins rfl rfl _ b1 (hi.ext E6) (by omega) (by omega)).mono ?_
      rw [Q2.out]
      rintro e w7 ⟨rfl, hE7⟩
      go_wp2_with fail
      refine (sameBools_c _ _ _ _ _ _ st st rfl rfl _ (b2.ext hE7) ((hs.ext E6).ext hE7) (by omega) (by omega)).mono ?_
      rw [Q3.out]
      rintro e w8 ⟨rfl, hE8⟩
      have F8 := hE7.trans hE8
      have E8 := E6.trans F8
      have y8 := y.ext F8
      have hV8 := hV6.ext F8
      clear a0 a1 a2 a3 la hz b1 b2 hr1 hr2
      (obtain ⟨la, a0, a1, a2, a3⟩ := (id y8))
      go_wp2_with fail
      go_loopw [8] (fun u wr => ∃ k : Nat, k ≤ c.gates.length ∧ u = .int .i64 k ∧ Ext w8 wr) (fun i _ => c.gates.length - (intOf i).toNat)
      case atStart => exact ⟨0, Nat.zero_le _, rfl, Ext.refl _⟩
      case round =>
        obtain ⟨k, hk, rfl, hE⟩ := hrel
        have y9 := y8.ext hE
        clear a0 a1 a2 a3 la
        (obtain ⟨la, a0, a1, a2, a3⟩ := (id y9))
        by_cases hlt : k < c.gates.length
        · obtain ⟨ob, oo, hao, hob, hg1, hg2⟩ := ((hC.ext E8).ext hE).gs.get (by omega)
          rw [hao] at a2
          have g1 := hg1 k hlt
          have g2 := hg2 k hlt
          have hgt := HG.out k hlt
          have hgl := HGS.out k hlt
          rw [HFF.out] at hgl
          obtain ⟨ga, hga⟩ : ∃ x, x = (c.gates.getD k (0, 0)).1 := ⟨_, rfl⟩
          obtain ⟨gb, hgb⟩ : ∃ x, x = (c.gates.getD k (0, 0)).2 := ⟨_, rfl⟩
          rw [← hga] at g1 hgt hgl
          rw [← hgb] at g2 hgt hgl
          obtain ⟨la0, lb0⟩ := hgl
          obtain ⟨la1, la2⟩ := litB_iff'.1 la0
          obtain ⟨lb1, lb2⟩ := litB_iff'.1 lb0
          have hV9 := hV8.ext hE
          have rd : ∀ i, i < vs.length → wr.cell? ⟨B2, i, none⟩ = some (.bool (vs.getD i false)) := fun i hi => hV9.cell (by rw [List.getElem?_map, List.getD_eq_getElem?_getD, List.getElem?_eq_getElem hi]; rfl)
          have qa := rd (ga / 2).toNat (by omega)
          have qb := rd (gb / 2).toNat (by omega)
          have qg := rd (1 + ins.length + st.length + k) (by omega)
          rw [hgt] at qg
          obtain ⟨va, hva⟩ : ∃ y, y = vs.getD (ga / 2).toNat false := ⟨_, rfl⟩
          obtain ⟨vb, hvb⟩ : ∃ y, y = vs.getD (gb / 2).toNat false := ⟨_, rfl⟩
          rw [litV_rd hva, litV_rd hvb] at qg
          rw [← hva] at qa
          rw [← hvb] at qb
          obtain ⟨pa, hpa⟩ : ∃ y, (ga % 2 == 1) = y := ⟨_, rfl⟩
          obtain ⟨pb, hpb⟩ : ∃ y, (gb % 2 == 1) = y := ⟨_, rfl⟩
          rw [hpa, hpb] at qg
          have ta : IntKind.i64.wrap (ga.tdiv 2) = ga / 2 := by rw [Int.tdiv_eq_ediv_of_nonneg la1]; exact IntWalk.i64_in _ (by omega)
          have tb : IntKind.i64.wrap (gb.tdiv 2) = gb / 2 := by rw [Int.tdiv_eq_ediv_of_nonneg lb1]; exact IntWalk.i64_in _ (by omega)
          have ia : 0 ≤ ga / 2 ∧ ga / 2 < (vs.length : Int) := by omega
          have ib : 0 ≤ gb / 2 ∧ gb / 2 < (vs.length : Int) := by omega
          have ig : 0 ≤ 1 + (ins.length : Int) + (st.length : Int) + (k : Int) ∧ 1 + (ins.length : Int) + (st.length : Int) + (k : Int) < (vs.length : Int) := by omega
          have wg : IntKind.i64.wrap (1 + (ins.length : Int) + (st.length : Int) + (k : Int)) = 1 + (ins.length : Int) + (st.length : Int) + (k : Int) := IntWalk.i64_in _ (by omega)
          have eg : (1 + (ins.length : Int) + (st.length : Int) + (k : Int)).toNat = 1 + ins.length + st.length + k := by omega
          have bl := hV9.lt
          clear hg1 hg2 hgt la0 lb0 hga hgb rd hva hvb hao
          cases va <;> cases vb <;> cases pa <;> cases pb
          all_goals
            try simp only [bne_self_eq_false, Bool.and_false, Bool.false_and, Bool.and_self, Bool.true_and, Bool.and_true] at qg
            go_wp2
            go_quiet (fail)
            go_wp2
            go_roundw
            case rel => exact ⟨k + 1, by omega, by go_num, hE.trans (by (repeat (first | with_reducible assumption | with_reducible exact Ext.refl _ | with_reducible refine Ext.drew' ?_ | with_reducible refine Ext.drewN' ?_ _ | with_reducible refine Ext.alloc ?_ _ | (with_reducible refine Ext.setNew ?_ (by first | exact Nat.le_refl _ | (simp; done) | (simp; omega) | omega) _))))⟩
            case measure => simp [intOf]; omega
        · go_wp2
          go_ret
          exact ⟨rfl, (hE1.trans E8).trans hE⟩
    · have HEV := Lib.hid (evalV_no ok)
      have OK := Lib.hid ok
      have fin : ∀ w' : World, Ext w w' → True := fun _ _ => trivial
      have hcase : (validB c = false) ∨ (c.Valid ∧ ((st.length : Int) != (c.next.length : Int)) = true) ∨ (c.Valid ∧ ((st.length : Int) != (c.next.length : Int)) = false ∧ ((ins.length : Int) != c.inputs) = true) := by
        cases hv : validB c
        · exact .inl rfl
        · have V := validB_iff.1 hv
          cases h1 : ((st.length : Int) != (c.next.length : Int))
          · cases h2 : ((ins.length : Int) != c.inputs)
            · simp at h1 h2
              exact absurd ⟨V, by omega, by omega⟩ ok
            · exact .inr (.inr ⟨V, rfl, rfl⟩)
          · exact .inr (.inl ⟨V, rfl⟩)
      clear ok
      have q1 : (([] : List Bool) == []) = true := rfl
      have Q1 := Lib.hid q1
      clear q1
      go_wp2_with fail
      refine (implEvalVars_no c p _ _ _ _ st ins _ (hC.ext (by (repeat (first | with_reducible assumption | with_reducible exact Ext.refl _ | with_reducible refine Ext.drew' ?_ | with_reducible refine Ext.drewN' ?_ _ | with_reducible refine Ext.alloc ?_ _ | (with_reducible refine Ext.setNew ?_ (by first | exact Nat.le_refl _ | (simp; done) | (simp; omega) | omega) _))))) (by omega) (by omega) OK.out).mono ?_
      rintro e w2 ⟨rfl, hE2⟩
      have E2 := Ext.trans (a := w1) (by (repeat (first | with_reducible assumption | with_reducible exact Ext.refl _ | with_reducible refine Ext.drew' ?_ | with_reducible refine Ext.drewN' ?_ _ | with_reducible refine Ext.alloc ?_ _ | (with_reducible refine Ext.setNew ?_ (by first | exact Nat.le_refl _ | (simp; done) | (simp; omega) | omega) _)))) hE2
      replace y := y.ext hE2
      (obtain ⟨la, a0, a1, a2, a3⟩ := (id y))
      go_wp2_with fail
      refine (specEvalVars_c c p _ _ _ _ st ins _ (hC.ext E2) (hs.ext E2) (hi.ext E2) (by omega) (by omega)).mono ?_
      rw [HEV.out]
      rintro e w3 ⟨v3, rfl, hO3, hE3⟩
      obtain ⟨a3', c3, rfl, hX3⟩ := hO3.opened
      go_wp2_with fail
      refine (sameBools_c _ _ _ _ _ _ [] [] rfl rfl _ (.inl rfl) (.inl rfl) (by simp) (by simp)).mono ?_
      rw [Q1.out]
      rintro e w4 ⟨rfl, hE4⟩
      have F4 := hE3.trans hE4
      have E4 := E2.trans F4
      replace y := y.ext F4
      clear a0 a1 a2 a3 la
      (obtain ⟨la, a0, a1, a2, a3⟩ := (id y))
      go_wp2_with fail
      refine (specCircuitValid_c c p _ (hC.ext E4)).mono ?_
      rintro e w5 ⟨rfl, hE5⟩
      have y5 := y.ext hE5
      clear a0 a1 a2 a3 la
      (obtain ⟨la, a0, a1, a2, a3⟩ := (id y5))
      rcases hcase with hv | ⟨hv, h1⟩ | ⟨hv, h1, h2⟩
      all_goals
        first | rw [hv] | rw [validB_true hv]
        go_wp2_with fail
        refine (alive_c _).mono ?_
        rintro e w6 ⟨rfl, hE6⟩
        go_wp2
        go_ret
        exact ⟨rfl, ((hE1.trans E4).trans hE5).trans hE6⟩
  · go_enter Try.func3, Try.ntmps3
    go_wp2
    go_ret
    exact ⟨rfl, Ext.refl _⟩
theorem fnEvalVars_lifted (os : Os) (started : os.Started) (H : Type) (enc : TypeId × Value → H) :
    ReturnsInHanded {} Try.checked os 3 .any (Rows.fnEvalVarsSpec.pre6 enc Try.prog Try.f3 Rows.fnEvalVarsRow.domain false) (Rows.fnEvalVarsSpec.post enc Try.prog Try.f3 false true false false) := by
  refine returnsInHanded_of_change (C := Try.checked) own started (by kernel_rfl) Try.func3
    (ChangeSpec.witness6 (enc := enc) (C := Try.checked) false ⟨#[], #[.slice none 0 0], []⟩ 8 (by kernel_rfl) (by kernel_rfl) (by kernel_rfl) (by kernel_rfl)) ?_
  intro W base args ds gs before hval0 hW hcnd _
  have hval : ∀ (j : Nat) t v, Try.f3.params[j]? = some t → args[j]? = some v → Value.okWide Try.prog W .any base t v := hval0
  have hW' := hW
  obtain ⟨p, q, hA0, hV, rfl, hfz, hnd⟩ := hW
  have hA : DataW.TrodAll enc Try.prog W 0 (fun _ => true) true Try.f3.params.toList args.toList ds p := hA0
  rw [Try.params3] at hA hval
  obtain ⟨v0, vs0, d0, ds0, p0, q0, hargs, rfl, rfl, h0, r0⟩ := trodAll_cons hA
  obtain ⟨rfl, rfl, rfl⟩ := trodAll_nil r0
  obtain rfl : args = #[v0] := by cases args; simp_all
  obtain ⟨rfl, rfl⟩ := trodVars_none hV
  obtain ⟨a0, len0, cap0, rfl⟩ := okWide_slice Try.underlying22 (hval 0 22 v0 rfl rfl)
  have k0 := h0
  have lt0 : ∀ x ∈ p0, x.block < W.heap.size := by obtain ⟨m, hm⟩ := k0; exact DataW.trod_lt m _ _ _ hm
  obtain ⟨z0, w0⟩ : ∃ zs, IsRow .u8 W a0 len0 cap0 zs := by
    obtain ⟨fuel, hf⟩ := h0
    rcases open_ints Try.underlying22 Try.underlying5 (by kernel_rfl) hf with ⟨hcs, _⟩ | ⟨x, l, c, zs, hcs, _, hl, hm, hz, _, hcell, hwz⟩
    · simp [Value.cells] at hcs
      obtain ⟨rfl, rfl, rfl⟩ := hcs
      exact ⟨[], .inl ⟨rfl, rfl, rfl, rfl⟩⟩
    · simp [Value.cells] at hcs
      obtain ⟨rfl, rfl, rfl⟩ := hcs
      exact ⟨zs, .inr ⟨_, rfl, hl, hm, by simpa using hz, hcell, hwz⟩⟩
  clear hA0 hval0
  refine (fnEvalVars_walk a0 len0 cap0 z0 W w0).mono fun e W' ⟨he, bel⟩ => ?_
  subst he
  exact ⟨_, rfl, _, _, _, [], _, [], hW', trodAll_mk1 (shut_bool Try.underlying4 _), (trodAll_cons_mk (Below.trod laidOut (by kernel_rfl) (of_decide_eq_true (by kernel_rfl)) k0 bel lt0) trodAll_mk0), rfl, bel.frame _, fun h => by cases h⟩
theorem fnEvalVars_over : Rows.fnEvalVarsRow.holds Try.pinned (OpenSpec.ofChange Rows.fnEvalVarsSpec) :=
  OpenClaim.holds_of_wide 3 Try.f3 rfl rfl rfl rfl rfl rfl rfl ⟨rfl, rfl, rfl, rfl, rfl⟩ rfl rfl rfl rfl rfl (by kernel_rfl) Try.func3 (by kernel_rfl)
    (of_decide_eq_true (by kernel_rfl)) (by unfold Func.isWrapper; first | (rw [if_pos (by decide +kernel)]; kernel_rfl) | (rw [if_neg (by decide +kernel)]; exact ⟨rfl, rfl⟩))
    (fun os started H enc _ => fnEvalVars_lifted os started H enc)
theorem fnEvalVars_holds : Rows.FnEvalVarsSaid := fnEvalVars_over
end Go.Proofs.Ytlkfhcigpkfhnaa
