/- The law FnSimulate: a simulation is a sequence of steps. -/
import Derived.Test.YtpfhlodlefcomaaBytes
import Derived.Test.YtpfhlodlefcomaaDrawS
import Derived.Test.YtpfhlodlefcomaaRun
import Derived.Test.YtpfhlodlefcomaaSimI
import Derived.Test.YtpfhlodlefcomaaSimS
import Derived.Test.YtpfhlodlefcomaaSameR
namespace Go.Proofs.Ytpfhlodlefcomaa
open Go.ChangeShapes Go.WideShapes Go.ChangeAt Go.RowKit
set_option maxRecDepth 100000
set_option linter.unusedVariables false
set_option linter.unusedSimpArgs false
theorem runV_take (c : Circ) : ∀ (rs : List (List Bool)) (st : List Bool) (k : Nat), runV c st (rs.take k) = (runV c st rs).take k
  | [], st, k => by simp [runV]
  | r :: rs, st, 0 => by simp [runV]
  | r :: rs, st, k + 1 => by simp [runV, runV_take c rs]
theorem runV_get (c : Circ) : ∀ (rs : List (List Bool)) (st : List Bool) (k : Nat), k < rs.length → (runV c st rs).getD k [] = (stepV c (stRun c st (rs.take k)) (rs.getD k [])).1
  | [], st, k, h => by simp at h
  | r :: rs, st, 0, h => by simp [runV, stRun]
  | r :: rs, st, k + 1, h => by
    have := runV_get c rs (stepV c st r).2 k (by simpa using h)
    simpa [runV, stRun] using this
theorem RowsAt.take {w : World} {a : Option Addr} {xss : List (List Bool)} (h : RowsAt w a xss) (k : Nat) (hk : k ≤ xss.length) : RowsAt w a (xss.take k) := by
  rcases h with rfl | ⟨b, o, ha, hb, hc⟩
  · exact .inl (by simp)
  · refine .inr ⟨b, o, ha, hb, fun j hj => ?_⟩
    have hj2 : j < k := by simp at hj; omega
    have e : (xss.take k).getD j [] = xss.getD j [] := by rw [List.getD_eq_getElem?_getD, List.getD_eq_getElem?_getD, List.getElem?_take_of_lt hj2]
    rw [e]; exact hc j (by omega)
theorem FitR.take {c : Circ} {xss : List (List Bool)} (h : FitR c xss) (k : Nat) (hk : k ≤ xss.length) : FitR c (xss.take k) := by
  have hn := h.n
  refine ⟨h.V, by simp; omega, fun j hj => ?_⟩
  have hj2 : j < k := by simp at hj; omega
  have e : (xss.take k).getD j [] = xss.getD j [] := by rw [List.getD_eq_getElem?_getD, List.getD_eq_getElem?_getD, List.getElem?_take_of_lt hj2]
  rw [e]; exact h.r j (by omega)
theorem simV_fit {c : Circ} {xss : List (List Bool)} (h : FitR c xss) : simV c xss = runV c (st0 c) xss := by unfold simV; rw [fitB_iff.2 h]; rfl
theorem simV_not {c : Circ} {xss : List (List Bool)} (h : fitB c xss = false) : simV c xss = [] := by unfold simV; rw [h]; rfl
/-- Rows given back, with what room they have. -/
theorem GiveRows.opened2 {w w' : World} {xss : List (List Bool)} {e : Ending} (h : GiveRows w xss e w') : ∃ a c, e = .returned (.slice a xss.length c) ∧ RowsAt w' a xss ∧ xss.length ≤ c ∧ c ≤ maxLen ∧ Ext w w' := by
  obtain ⟨v, vals, h1, h2, h3⟩ := h
  obtain ⟨a, c, e, _, l1, l2, _⟩ := ownsRow_row h2.row
  subst e
  exact ⟨a, c, h1, h2.at_, l1, l2, h3⟩
def CutStep (w : World) (x : List Bool × List Bool) (v : Value) (wx : World) : Prop := ∃ D a1 c1 a2 c2, v = .pointer (some ⟨D, 0, none⟩) ∧ Blk wx D 40 [.slice a1 x.1.length c1, .slice a2 x.2.length c2] ∧ BoolsAt wx a1 x.1 ∧ BoolsAt wx a2 x.2 ∧ Ext w wx
theorem cut_behind {w0 w4 : World} {b N : Nat} {a1 a2 : Option Addr} {n1 c1 n2 c2 : Nat} {x : List Bool × List Bool} (h : RepStep w4 b N (.slice a1 n1 c1) (.slice a2 n2 c2) x) (E : Ext w0 w4) :
    CutStep w0 x (.pointer (some ⟨w4.heap.size, 0, none⟩)) (w4.alloc (.cells #[.slice a1 n1 c1, .slice a2 n2 c2] 40)) := by
  obtain ⟨_, _, _, _, e1, h1, e2, h2⟩ := h.opened
  cases e1; cases e2
  have eB : Ext w4 (w4.alloc (.cells #[.slice a1 x.1.length c1, .slice a2 x.2.length c2] 40)) := (Ext.refl w4).alloc _
  exact ⟨_, _, _, _, _, rfl, Blk.at w4 _ _ rfl, h1.ext eB, h2.ext eB, E.trans eB⟩
theorem cut_before {w0 w4 : World} {b N D : Nat} {a1 a2 : Option Addr} {n1 c1 n2 c2 : Nat} {x : List Bool × List Bool} (h : RepStep w4 b N (.slice a1 n1 c1) (.slice a2 n2 c2) x) (hD : D < b) (bk : Blk w4 D 40 [.slice none 0 0, .slice none 0 0]) (E : Ext w0 w4) (h0 : w0.heap.size ≤ D) :
    CutStep w0 x (.pointer (some ⟨D, 0, none⟩)) ((w4.setCell ⟨D, 0, none⟩ (.slice a1 n1 c1)).setCell ⟨D, 1, none⟩ (.slice a2 n2 c2)) := by
  have h' := (h.set (p := ⟨D, 0, none⟩) hD (.slice a1 n1 c1)).set (p := ⟨D, 1, none⟩) hD (.slice a2 n2 c2)
  obtain ⟨_, _, _, _, e1, h1, e2, h2⟩ := h'.opened
  cases e1; cases e2
  exact ⟨_, _, _, _, _, rfl, (bk.set 0 _).set 1 _, h1, h2, Ext.setNew (p := ⟨D, 1, none⟩) (Ext.setNew (p := ⟨D, 0, none⟩) E h0 _) h0 _⟩
set_option maxHeartbeats 8000000 in
theorem fnSimulate_walk (a0 : Option Addr) (len0 cap0 : Nat) (z0 : List Int) (w : World) (w0 : IsRow .u8 w a0 len0 cap0 z0) :
    Calls Try.prog 4 #[.slice a0 len0 cap0] w fun e w' => e = .returned (.bool true) ∧ Below w.heap.size w w' := by
  obtain ⟨bs, rfl, hB, hlc, hcm⟩ := bytes_of_row w0
  by_cases hl : bs.length ≤ 1048576
  · go_enter Try.func4, Try.ntmps4
    go_wp2_with fail
    refine (DrawSimulate_c a0 cap0 bs _ hB hl hlc hcm).mono ?_
    rintro e w1 ⟨c, p, ra, rc, xss, rfl, hC, hRW, hd, hxl, hx8, _, hrc, hrcm, hE⟩
    clear hd
    go_wp2_with fail
    (have y := CircBox.made w1 c p 26; have Ey : Ext w1 (w1.alloc (.cells #[.int .i64 c.inputs, .slice p.an c.next.length p.cn, .slice p.ag c.gates.length p.cg, .slice p.ao c.outs.length p.co] 26)) := (Ext.refl w1).alloc _; have hC := hC.ext Ey)
    have hRW := hRW.ext Ey
    generalize w1.alloc (.cells #[.int .i64 c.inputs, .slice p.an c.next.length p.cn, .slice p.ag c.gates.length p.cg, .slice p.ao c.outs.length p.co] 26) = W1 at *
    have E1 := Ext.trans hE Ey
    clear hE Ey
    have HR8 : Hid (∀ j, j < xss.length → (xss.getD j []).length ≤ 1048576) := Lib.hid (fun j hj => by
      have : xss.getD j [] ∈ xss := by rw [List.getD_eq_getElem?_getD, List.getElem?_eq_getElem hj]; exact List.getElem_mem hj
      have := hx8 _ this
      omega)
    have HC1 := Lib.hid (fun (w : World) (h1 : CircAt w c p) (h2 : RowsAt w ra xss) => (implSimulate_c c p ra rc xss w h1 h2 (by omega) HR8.out).mono (fun e w' h => h.opened2))
    have HC2 := Lib.hid (fun (w : World) (h1 : CircAt w c p) (h2 : RowsAt w ra xss) => (specSimulate_c c p ra rc xss w h1 h2 (by omega) HR8.out).mono (fun e w' h => h.opened2))
    obtain ⟨S, hS⟩ : ∃ S, S = simV c xss := ⟨_, rfl⟩
    rw [← hS] at HC1 HC2
    have hSl : S.length ≤ 41 := by
      rw [hS]
      cases hf : fitB c xss
      · rw [simV_not hf]; simp
      · rw [simV_length hf]; omega
    have HSR : Hid (∀ j, j < S.length → (S.getD j []).length ≤ 1048576) := Lib.hid (by
      rw [hS]
      cases hf : fitB c xss
      · rw [simV_not hf]; intro j hj; simp at hj
      · exact simV_rl (fitB_iff.1 hf))
    have HS := Lib.hid hS
    clear hS
    refine (HC1.out _ hC hRW).mono ?_
    rintro e w2 ⟨oa, oc, rfl, hO, hoc, hocm, hE2⟩
    have hC := hC.ext hE2
    have hRW := hRW.ext hE2
    have y := y.ext hE2
    have E2 := E1.trans hE2
    clear hE2 E1 HC1
    (obtain ⟨ly, y0, y1, y2, y3⟩ := (id y))
    go_wp2_with fail
    refine (HC2.out _ hC hRW).mono ?_
    rintro e w3 ⟨sa, sc, rfl, hSA, hsc, hscm, hE3⟩
    have hC := hC.ext hE3
    have hRW := hRW.ext hE3
    have hO := hO.ext hE3
    have y := y.ext hE3
    have E3 := E2.trans hE3
    clear hE3 E2 HC2 y0 y1 y2 y3 ly
    go_wp2_with fail
    refine (sameRows_c oa sa oc sc _ S rfl _ hO hSA (by omega) HSR.out).mono ?_
    rintro e w4 ⟨rfl, hE4⟩
    have hC := hC.ext hE4
    have hRW := hRW.ext hE4
    have hO := hO.ext hE4
    have y := y.ext hE4
    have E4 := E3.trans hE4
    clear hE4 E3 hSA
    (obtain ⟨ly, y0, y1, y2, y3⟩ := (id y))
    go_wp2_with fail
    refine (specCircuitValid_c c p _ hC).mono ?_
    rintro e w5 ⟨rfl, hE5⟩
    have hC := hC.ext hE5
    have hRW := hRW.ext hE5
    have hO := hO.ext hE5
    have y := y.ext hE5
    have E5 := E4.trans hE5
    clear hE5 E4 y0 y1 y2 y3 ly
    cases hv : validB c
    · have hfB : fitB c xss = false := by unfold fitB; rw [hv]; rfl
      have hS0 : S = [] := by rw [HS.out]; exact simV_not hfB
      subst hS0
      clear hv hfB HS
      go_wp2_with fail
      refine (alive_c _).mono ?_
      rintro e w6 ⟨rfl, hE6⟩
      go_wp2
      go_ret
      exact ⟨rfl, E5.trans hE6⟩
    · cases hf : fitB c xss
      · have hS0 : S = [] := by rw [HS.out]; exact simV_not hf
        have hx0 : 0 < xss.length := by
          rcases Nat.eq_zero_or_pos xss.length with h | h
          · have e : xss = [] := List.eq_nil_of_length_eq_zero h
            subst e
            have : fitB c [] = true := fitB_iff.2 ⟨validB_iff.1 hv, by simp, fun j hj => by simp at hj⟩
            rw [this] at hf; cases hf
          · exact h
        subst hS0
        have hne : ((0 : Int) != (xss.length : Int)) = true := by simp; omega
        clear hv hf HS
        go_wp2
        go_ret
        exact ⟨rfl, E5⟩
      · have FIT := fitB_iff.1 hf
        have V := FIT.V
        have ln := V.ln
        have hSx : S.length = xss.length := by rw [HS.out]; exact simV_length hf
        have hRUN : S = runV c (st0 c) xss := by rw [HS.out]; exact simV_fit FIT
        have HRUN := Lib.hid hRUN
        have HFIT := Lib.hid FIT
        have HSX := Lib.hid hSx
        have hsx1 : S.length ≤ xss.length := by omega
        have hsx2 : xss.length ≤ S.length := by omega
        have hne : ((S.length : Int) != (xss.length : Int)) = false := by simp; omega
        have hm := run_zeros' (P := Try.prog) 38 4 (.bool false) [.bool false] 1 Try.underlying38 boolInfo' rfl (by decide) (by decide) c.next.length (by omega) w5
        have hz : zeros [Value.bool false] c.next.length = (st0 c).map Value.bool := by unfold st0; rw [zeros_one, List.map_replicate]
        have L0 : Blk (w5.alloc (.cells (zeros [Value.bool false] c.next.length).toArray 4)) w5.heap.size 4 ((st0 c).map Value.bool) := by
          have := Blk.at w5 (zeros [Value.bool false] c.next.length) 4 rfl
          rw [hz] at this ⊢; exact this
        have hs0 : (st0 c).length = c.next.length := by simp [st0]
        have hB0 : BoolsAt (w5.alloc (.cells (zeros [Value.bool false] c.next.length).toArray 4)) (some ⟨w5.heap.size, 0, none⟩) (st0 c) := L0.bools
        have E6 := (Ext.refl w5).alloc (.cells (zeros [Value.bool false] c.next.length).toArray 4)
        have y6 := y.ext E6
        have hln : ∀ k, k ≤ xss.length → (stRun c (st0 c) (xss.take k)).length = c.next.length := fun k hk => stRun_len FIT k hk
        have HLN := Lib.hid hln
        have HS0 := Lib.hid hs0
        clear hv hf hSx hRUN FIT V L0 hz hs0 hln HS
        (obtain ⟨ly, y0, y1, y2, y3⟩ := (id y))
        go_wp2_with fail
        clear y0 y1 y2 y3 ly hm
        go_loopw [6, 7] (fun u6 u7 wr => ∃ (k : Nat) (sa : Option Addr) (sc : Nat), k ≤ xss.length ∧ u7 = .int .i64 k ∧ u6 = .slice sa c.next.length sc ∧ BoolsAt wr sa (stRun c (st0 c) (xss.take k)) ∧ CircBox wr w1.heap.size c p ∧ Ext w5 wr) (fun _ i _ => xss.length - (intOf i).toNat)
        case atStart => exact ⟨0, _, _, Nat.zero_le _, rfl, rfl, hB0, y6, E6⟩
        case round =>
          clear hB0 y6 E6
          obtain ⟨k, sa, sc, hk, rfl, rfl, hST, hy, hE⟩ := hrel
          obtain ⟨ly, y0, y1, y2, y3⟩ := (id hy)
          by_cases hlt : k < xss.length
          · obtain ⟨gb, go, hra, hgb, hg⟩ := (hRW.ext hE).get (by omega)
            obtain ⟨aj, cj, q, hA⟩ := hg k hlt
            obtain ⟨hb, ho, hoa, hhb, hh⟩ := (hO.ext hE).get (by omega)
            obtain ⟨ah, ch, q2, hA2⟩ := hh k (by omega)
            have hrl2 := HR8.out k hlt
            have ok := evOk_run HFIT.out k hlt
            have hst := HLN.out k hk
            have hnx := stRun_snoc c (xss.getD k []) (xss.take k) (st0 c)
            rw [← take_snocG xss k [] hlt] at hnx
            have hget := runV_get c xss (st0 c) k hlt
            rw [← HRUN.out] at hget
            have hsl := stepV_len ok
            obtain ⟨st, hst2⟩ : ∃ st, st = stRun c (st0 c) (xss.take k) := ⟨_, rfl⟩
            obtain ⟨row, hrow⟩ : ∃ r, r = xss.getD k [] := ⟨_, rfl⟩
            rw [← hst2] at hST ok hnx hget hst hsl
            rw [← hrow] at q hA ok hnx hget hrl2 hsl
            obtain ⟨X, hX⟩ : ∃ X, X = stepV c st row := ⟨_, rfl⟩
            rw [← hX] at hnx hget hsl
            rw [hget] at q2 hA2
            have lo := HFIT.out.V.lo
            obtain ⟨sl1, sl2⟩ : X.1.length ≤ 1048576 ∧ X.2.length ≤ 1048576 := by omega
            have HX := Lib.hid hX
            have HNX := Lib.hid hnx
            have HX2L := Lib.hid hsl.2
            have hcall := fun (W : World) (e : Ext wr W) => (implStep_c c p sa aj sc cj st row W (hC.ext (hE.trans e)) (hST.ext e) (hA.ext e) (by omega) (by omega))
            rw [← HX.out, hst] at hcall
            have HCALL := Lib.hid hcall
            subst hra hoa
            obtain ⟨w6, rfl⟩ : ∃ x : World, x = wr := ⟨_, rfl⟩
            clear hg hh hst hst2 hrow hX hnx hget hsl ok lo hcall
            go_wp2_with fail
            go_upto_region 15 with fail
            go_cut [8] (CutStep w6 X)
            case first =>
              (refine wp_regionT ((fun w' => (∀ b o, b < w6.heap.size → w'.cell? ⟨b, o, none⟩ = w6.cell? ⟨b, o, none⟩) ∧ Ext w6 w')) 8 (by kernel_rfl) ?_; have hS0 := held_mk (Ext.drew w6))
              ((refine wpAnyT_take 0 (v := ?_) rfl (by kernel_rfl) (fun _ _ _ h => h) (Or.inl ⟨by kernel_rfl, ?_⟩) (by assumption) ?_; rotate_left; (intro wS hSw; (try dsimp only at hSw); go_simp; (try with_reducible rfl)); (try simp only [Act.put, List.setIfInBounds_toArray, List.set_cons_zero, List.set_cons_succ])); (refine wpAnyT_take 1 (v := ?_) rfl (by kernel_rfl) (fun _ _ _ h => h) (Or.inl ⟨by kernel_rfl, ?_⟩) (by assumption) ?_; rotate_left; (intro wS hSw; (try dsimp only at hSw); go_simp; (try with_reducible rfl)); (try simp only [Act.put, List.setIfInBounds_toArray, List.set_cons_zero, List.set_cons_succ])); (refine wpAnyT_take 2 (v := ?_) rfl (by kernel_rfl) (fun _ _ _ h => h) (Or.inl ⟨by kernel_rfl, ?_⟩) (by assumption) ?_; rotate_left; (intro wS hSw; (try dsimp only at hSw); go_simp; (try with_reducible rfl)); (try simp only [Act.put, List.setIfInBounds_toArray, List.set_cons_zero, List.set_cons_succ])); (refine wpAnyT_take 3 (v := ?_) rfl (by kernel_rfl) (fun _ _ _ h => h) (Or.inl ⟨by kernel_rfl, ?_⟩) (by assumption) ?_; rotate_left; (intro wS hSw; (try dsimp only at hSw); go_simp; (try with_reducible rfl)); (try simp only [Act.put, List.setIfInBounds_toArray, List.set_cons_zero, List.set_cons_succ])); (refine wpAnyT_take 4 (v := ?_) rfl (by kernel_rfl) (fun _ _ _ h => h) (Or.inl ⟨by kernel_rfl, ?_⟩) (by assumption) ?_; rotate_left; (intro wS hSw; (try dsimp only at hSw); go_simp; (try with_reducible rfl)); (try simp only [Act.put, List.setIfInBounds_toArray, List.set_cons_zero, List.set_cons_succ])); (refine wpAnyT_take 5 (v := ?_) rfl (by kernel_rfl) (fun _ _ _ h => h) (Or.inl ⟨by kernel_rfl, ?_⟩) (by assumption) ?_; rotate_left; (intro wS hSw; (try dsimp only at hSw); go_simp; (try with_reducible rfl)); (try simp only [Act.put, List.setIfInBounds_toArray, List.set_cons_zero, List.set_cons_succ])))
              (refine wpAnyT_do2 6 7 (by kernel_rfl) rfl rfl (fun K hK => ?_) (fun K hK => ?_))
              · go_simp
                refine (HCALL.out _ (Ext.drew w6)).mono ?_
                rintro e w7 ⟨v1, v2, rfl, hR, hE7⟩
                obtain ⟨a1, c1, n1, a2, c2, n2, rfl, rfl⟩ := hR.sl
                have hX7 := (Ext.drew w6).trans hE7
                have hS7 := held_mk hX7
                (refine hK _ _ hS7 ?_; clear hK K; (try simp only [Act.put, List.setIfInBounds_toArray, List.set_cons_zero, List.set_cons_succ]))
                (refine wpAnyT_doB 7 (by kernel_rfl) rfl (fun K hK => ?_))
                refine Bx.mk ?_
                go_simp
                have hX8 := hX7.alloc (.cells #[.slice none 0 0, .slice none 0 0] 40)
                have bk8 := Blk.at w7 [.slice none 0 0, .slice none 0 0] 40 rfl
                have z0 := bk8.cell (i := 0) rfl
                have z1 := bk8.cell (i := 1) rfl
                have zf := fun i => bk8.frozen i
                have hS8 := held_mk hX8
                (refine hK _ _ hS8 ?_; clear hK K; (try simp only [Act.put, List.setIfInBounds_toArray, List.set_cons_zero, List.set_cons_succ]))
                (refine wpAnyT_lastB 8 (by kernel_rfl) rfl (by decide) (by kernel_rfl) (fun K hK => ?_))
                refine Bx.mk ?_
                go_simp
                (refine hK _ _ ?_; clear hK K; (try simp only [Act.put, List.setIfInBounds_toArray, List.set_cons_zero, List.set_cons_succ]))
                go_wp2_with fail
                go_meet
                exact cut_behind hR hX7
              · go_simp
                have eZ : Ext w6 (w6.alloc (.cells #[.slice none 0 0, .slice none 0 0] 40)).drew := ((Ext.refl w6).alloc _).drew'
                have bk0 := (Blk.at w6 [.slice none 0 0, .slice none 0 0] 40 rfl).ext (Ext.drew _)
                have hlt0 := bk0.lt
                have hS7 := held_mk eZ
                (refine hK _ _ hS7 ?_; clear hK K; (try simp only [Act.put, List.setIfInBounds_toArray, List.set_cons_zero, List.set_cons_succ]))
                (refine wpAnyT_doB 6 (by kernel_rfl) rfl (fun K hK => ?_))
                refine Bx.mk ?_
                go_simp
                refine (HCALL.out _ eZ).mono ?_
                rintro e w7 ⟨v1, v2, rfl, hR, hE7⟩
                obtain ⟨a1, c1, n1, a2, c2, n2, rfl, rfl⟩ := hR.sl
                have hX7 := eZ.trans hE7
                have bk := bk0.ext hE7
                have z0 := bk.cell (i := 0) rfl
                have z1 := bk.cell (i := 1) rfl
                have zf := fun i => bk.frozen i
                have hS8 := held_mk hX7
                (refine hK _ _ hS8 ?_; clear hK K; (try simp only [Act.put, List.setIfInBounds_toArray, List.set_cons_zero, List.set_cons_succ]))
                (refine wpAnyT_lastB 8 (by kernel_rfl) rfl (by decide) (by kernel_rfl) (fun K hK => ?_))
                refine Bx.mk ?_
                go_simp
                (refine hK _ _ ?_; clear hK K; (try simp only [Act.put, List.setIfInBounds_toArray, List.set_cons_zero, List.set_cons_succ]))
                go_wp2_with fail
                go_meet
                exact cut_before hR hlt0 bk hX7 (Nat.le_refl _)
            obtain ⟨D1, a1, c1, a2, c2, rfl, bk1, hA1, hA3, hE9⟩ := hcut
            have hy := hy.ext hE9
            have hE := hE.trans hE9
            have hA2 := hA2.ext hE9
            have q2 := ((ecell hE9).1 hb _ hhb).trans q2
            have hhb := Nat.lt_of_lt_of_le hhb hE9.size
            obtain ⟨w9, rfl⟩ : ∃ x : World, x = wc := ⟨_, rfl⟩
            clear y0 y1 y2 y3 ly hE9 q HCALL
            have p0 := bk1.cell (i := 0) rfl
            have p1 := bk1.cell (i := 1) rfl
            have plt := bk1.lt
            have hkS : k < S.length := by omega
            have hkS2 : (k : Int) < (S.length : Int) := by omega
            go_wp2_with fail
            go_region_held3 ((fun w' => (∀ b o, b < w9.heap.size → w'.cell? ⟨b, o, none⟩ = w9.cell? ⟨b, o, none⟩) ∧ Ext w9 w')) ((first | assumption | (with_reducible exact held_mk (Ext.drew w9)) | (with_reducible exact held_mk (((Ext.refl w9).alloc _).drew')) | (with_reducible exact held_mk ((Ext.drew w9).alloc _)))) (first | (go_simp; go_at_call 22; refine (sameBools_c _ _ _ _ _ _ X.1 X.1 rfl rfl _ (hA2.ext (Ext.drew w9)) (hA1.ext (Ext.drew w9)) sl1 sl1).mono ?_; rw [beq_self_eq_true]; rintro e w10 ⟨rfl, hE10⟩; have hK1 := held_mk ((Ext.drew w9).trans hE10)))
            have hE10 := held_ext hK1
            have bk2 := bk1.ext hE10
            clear p0 p1 hK1 plt hkS2
            have p1 := bk2.cell (i := 1) rfl
            have p1l := bk2.lt
            go_wp2_with fail
            go_roundw
            case rel =>
              refine ⟨k + 1, a2, c2, by omega, by go_num, by rw [HX2L.out], ?_, hy.ext hE10, hE.trans hE10⟩
              rw [HNX.out]; exact hA3.ext hE10
            case measure => simp [intOf]; omega
          · have hk2 : k = xss.length := by omega
            subst hk2
            obtain ⟨h, hh⟩ : ∃ h, h = xss.length / 2 := ⟨_, rfl⟩
            have hdv : (xss.length : Int) / 2 = (h : Int) := by omega
            have hle : h ≤ xss.length := by omega
            have hlS : h ≤ S.length := by omega
            have hlo : h ≤ oc := by omega
            have hlr : h ≤ rc := by omega
            have hi1 : (0 : Int) ≤ (h : Int) := by omega
            have hi2 : (h : Int) ≤ (rc : Int) := by omega
            have hi3 : (h : Int) ≤ (oc : Int) := by omega
            have FT := HFIT.out.take h hle
            have htk : simV c (xss.take h) = S.take h := by rw [simV_fit FT, HRUN.out, runV_take]
            have hrl := simV_rl FT
            have hlen1 : (xss.take h).length = h := by simp; omega
            have hlen2 : (S.take h).length = h := by simp; omega
            have hrs : ∀ j, j < (xss.take h).length → ((xss.take h).getD j []).length ≤ 1048576 := fun j hj => by
              have hj2 : j < h := by omega
              have e : (xss.take h).getD j [] = xss.getD j [] := by rw [List.getD_eq_getElem?_getD, List.getD_eq_getElem?_getD, List.getElem?_take_of_lt hj2]
              rw [e]; exact HR8.out j (by omega)
            have HCT := fun (a : Option Addr) (cap : Nat) (w : World) (h1 : CircAt w c p) (h2 : RowsAt w a (xss.take h)) => (implSimulate_c c p a cap (xss.take h) w h1 h2 (by omega) hrs).mono (fun e w' h => h.opened)
            rw [htk] at hrl HCT
            rw [hlen1, hlen2] at HCT
            have HC1 := Lib.hid HCT
            have HRL := Lib.hid hrl
            have HL2 := Lib.hid hlen2
            have hR5 := (hRW.ext hE).take h hle
            have hO5 := (hO.ext hE).take h hlS
            have hC5 := hC.ext hE
            obtain ⟨w9, rfl⟩ : ∃ x : World, x = wr := ⟨_, rfl⟩
            clear hh HCT hrl hlen1 hlen2 hrs htk FT hST
            rcases ra with _ | ⟨rb, ro, rk⟩ <;> rcases oa with _ | ⟨ob, oo, ok⟩
            all_goals
              go_wp2_with fail
              go_region_held3 ((fun w' => (∀ b o, b < w9.heap.size → w'.cell? ⟨b, o, none⟩ = w9.cell? ⟨b, o, none⟩) ∧ Ext w9 w')) ((first | assumption | (with_reducible exact held_mk (Ext.drew w9)) | (with_reducible exact held_mk (((Ext.refl w9).alloc _).drew')) | (with_reducible exact held_mk ((Ext.drew w9).alloc _)))) (first
                | (go_simp; go_at_call 18; have hguard := hK1; refine (sameRows_c _ _ _ _ _ (S.take h) HL2.out _ hR10 (hO5.ext (held_ext hK1)) (by omega) HRL.out).mono ?_; rintro e w11 ⟨rfl, hE11⟩; have hK2 := held_mk ((held_ext hK1).trans hE11))
                | (go_simp; go_at_call 17; refine (HC1.out _ _ _ (hC5.ext (Ext.drew w9)) (hR5.ext (Ext.drew w9))).mono ?_; rintro e w10 ⟨r10, c10, rfl, hR10, hE10⟩; have hK1 := held_mk ((Ext.drew w9).trans hE10)))
              go_wp2
              go_ret
              exact ⟨rfl, (E5.trans hE).trans (held_ext hK2)⟩
  · go_enter Try.func4, Try.ntmps4
    go_wp2
    go_ret
    exact ⟨rfl, Below.refl _ _⟩
theorem fnSimulate_lifted (os : Os) (started : os.Started) (H : Type) (enc : TypeId × Value → H) :
    ReturnsInHanded {} Try.checked os 4 .any (Rows.fnSimulateSpec.pre6 enc Try.prog Try.f4 Rows.fnSimulateRow.domain false) (Rows.fnSimulateSpec.post enc Try.prog Try.f4 false true false false) := by
  refine returnsInHanded_of_change (C := Try.checked) own started (by kernel_rfl) Try.func4
    (ChangeSpec.witness6 (enc := enc) (C := Try.checked) false ⟨#[], #[.slice none 0 0], []⟩ 8 (by kernel_rfl) (by kernel_rfl) (by kernel_rfl) (by kernel_rfl)) ?_
  intro W base args ds gs before hval0 hW hcnd _
  have hval : ∀ (j : Nat) t v, Try.f4.params[j]? = some t → args[j]? = some v → Value.okWide Try.prog W .any base t v := hval0
  have hW' := hW
  obtain ⟨p, q, hA0, hV, rfl, hfz, hnd⟩ := hW
  have hA : DataW.TrodAll enc Try.prog W 0 (fun _ => true) true Try.f4.params.toList args.toList ds p := hA0
  rw [Try.params4] at hA hval
  obtain ⟨v0, vs0, d0, ds0, p0, q0, hargs, rfl, rfl, h0, r0⟩ := trodAll_cons hA
  obtain ⟨rfl, rfl, rfl⟩ := trodAll_nil r0
  obtain rfl : args = #[v0] := by cases args; simp_all
  obtain ⟨rfl, rfl⟩ := trodVars_none hV
  obtain ⟨a0, len0, cap0, rfl⟩ := okWide_slice Try.underlying22 (hval 0 22 v0 rfl rfl)
  have k0 := h0
  have lt0 : ∀ x ∈ p0, x.block < W.heap.size := by obtain ⟨m, hm⟩ := k0; exact DataW.trod_lt m _ _ _ hm
  obtain ⟨z0, w0⟩ : ∃ zs, IsRow .u8 W a0 len0 cap0 zs := by
    obtain ⟨fuel, hf⟩ := h0
    rcases open_ints Try.underlying22 Try.underlying5 (by kernel_rfl) hf with ⟨hcs, _⟩ | ⟨x, l, c, zs, hcs, _, hl, hm, hz, _, hcell, hwz⟩
    · simp [Value.cells] at hcs
      obtain ⟨rfl, rfl, rfl⟩ := hcs
      exact ⟨[], .inl ⟨rfl, rfl, rfl, rfl⟩⟩
    · simp [Value.cells] at hcs
      obtain ⟨rfl, rfl, rfl⟩ := hcs
      exact ⟨zs, .inr ⟨_, rfl, hl, hm, by simpa using hz, hcell, hwz⟩⟩
  clear hA0 hval0
  refine (fnSimulate_walk a0 len0 cap0 z0 W w0).mono fun e W' ⟨he, bel⟩ => ?_
  subst he
  exact ⟨_, rfl, _, _, _, [], _, [], hW', trodAll_mk1 (shut_bool Try.underlying4 _), (trodAll_cons_mk (Below.trod laidOut (by kernel_rfl) (of_decide_eq_true (by kernel_rfl)) k0 bel lt0) trodAll_mk0), rfl, bel.frame _, fun h => by cases h⟩
theorem fnSimulate_over : Rows.fnSimulateRow.holds Try.pinned (OpenSpec.ofChange Rows.fnSimulateSpec) :=
  OpenClaim.holds_of_wide 4 Try.f4 rfl rfl rfl rfl rfl rfl rfl ⟨rfl, rfl, rfl, rfl, rfl⟩ rfl rfl rfl rfl rfl (by kernel_rfl) Try.func4 (by kernel_rfl)
    (of_decide_eq_true (by kernel_rfl)) (by unfold Func.isWrapper; first | (rw [if_pos (by decide +kernel)]; kernel_rfl) | (rw [if_neg (by decide +kernel)]; exact ⟨rfl, rfl⟩))
    (fun os started H enc _ => fnSimulate_lifted os started H enc)
theorem fnSimulate_holds : Rows.FnSimulateSaid := fnSimulate_over
end Go.Proofs.Ytpfhlodlefcomaa
