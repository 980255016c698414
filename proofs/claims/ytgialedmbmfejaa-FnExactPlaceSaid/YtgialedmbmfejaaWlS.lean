/- Contracts: the reference's wire length: the box around tiles, a net's pins. -/
import Derived.Test.YtgialedmbmfejaaWl1
import Derived.Test.YtgialedmbmfejaaPvS
import Derived.Test.YtgialedmbmfejaaBSnk
import Derived.Deep.DeepCutAuto
namespace Go.Proofs.Ytgialedmbmfejaa
open Go.RowKit
set_option maxRecDepth 100000
set_option linter.unusedVariables false
set_option linter.unusedSimpArgs false
theorem take_inF {ts : List Int} (h : InF ts) (k : Nat) : InF (ts.take k) := fun t ht => h t (List.mem_of_mem_take ht)
theorem box_bounds {ts : List Int} (h : InF ts) : (0 ≤ minF (· / 5) 5 ts ∧ minF (· / 5) 5 ts ≤ 5) ∧ (0 ≤ maxF (· / 5) 0 ts ∧ maxF (· / 5) 0 ts ≤ 4) ∧ (0 ≤ minF (· % 5) 5 ts ∧ minF (· % 5) 5 ts ≤ 5) ∧ (0 ≤ maxF (· % 5) 0 ts ∧ maxF (· % 5) 0 ts ≤ 4) :=
  ⟨⟨minF_ge _ 0 ts 5 (by omega) (fun t ht => by have := h t ht; show 0 ≤ t / 5; omega), (minF_le _ ts 5).1⟩,
   ⟨(maxF_ge _ ts 0).1, maxF_le _ 4 ts 0 (by omega) (fun t ht => by have := h t ht; show t / 5 ≤ 4; omega)⟩,
   ⟨minF_ge _ 0 ts 5 (by omega) (fun t ht => by have := h t ht; show 0 ≤ t % 5; omega), (minF_le _ ts 5).1⟩,
   ⟨(maxF_ge _ ts 0).1, maxF_le _ 4 ts 0 (by omega) (fun t ht => by have := h t ht; show t % 5 ≤ 4; omega)⟩⟩
set_option maxHeartbeats 4000000 in
theorem l7Dist_c (a : Option Addr) (cap : Nat) (ts : List Int) (w : World) (hI : IntsAt w a ts) (hF : InF ts) (hl : ts.length ≤ 100) :
    Calls Try.prog 124 #[.slice a ts.length cap] w fun e w' => e = .returned (.int .i64 (distV ts)) ∧ Ext w w' := by
  by_cases h0 : ts.length = 0
  · have hd : distV ts = 0 := by unfold distV; rw [if_pos (List.eq_nil_of_length_eq_zero h0)]
    have HD := Lib.hid hd
    have hz : ((ts.length : Int) == 0) = true := by rw [h0]; rfl
    clear hd h0
    go_enter Try.func124, Try.ntmps124
    go_wp2
    go_ret
    exact ⟨by rw [HD.out]; rfl, Ext.refl _⟩
  · have hd : distV ts = boxN ts := by unfold distV; rw [if_neg (fun e => h0 (by rw [e]; rfl))]
    have HD := Lib.hid hd
    have hz : ((ts.length : Int) == 0) = false := by rw [beq_eq_false_iff_ne]; omega
    have HB := Lib.hid (fun k => box_bounds (take_inF hF k))
    have HBX : Hid (boxN ts = maxF (· / 5) 0 ts - minF (· / 5) 5 ts + maxF (· % 5) 0 ts - minF (· % 5) 5 ts) := Lib.hid rfl
    have HF := Lib.hid hF
    clear hd hF
    go_enter Try.func124, Try.ntmps124
    go_wp2_with fail
    go_loopw [3, 4, 5, 6, 7] (fun u3 u4 u5 u6 u7 wr => ∃ k : Nat, k ≤ ts.length ∧ u7 = .int .i64 k ∧ u3 = .int .i64 (minF (· / 5) 5 (ts.take k)) ∧ u4 = .int .i64 (maxF (· / 5) 0 (ts.take k)) ∧ u5 = .int .i64 (minF (· % 5) 5 (ts.take k)) ∧ u6 = .int .i64 (maxF (· % 5) 0 (ts.take k)) ∧ Ext w wr) (fun _ _ _ _ u _ => ts.length - (intOf u).toNat)
    case atStart => exact ⟨0, Nat.zero_le _, rfl, rfl, rfl, rfl, rfl, Ext.refl _⟩
    case round =>
      obtain ⟨k, hk, rfl, rfl, rfl, rfl, rfl, hE⟩ := hrel
      obtain ⟨⟨b1, b2⟩, ⟨b3, b4⟩, ⟨b5, b6⟩, b7, b8⟩ := HB.out k
      by_cases hlt : k < ts.length
      · obtain ⟨b, o, rfl, hb, hc⟩ := (hI.ext hE).get (by omega)
        have q1 := hc k hlt
        have s1 := minF_snoc (· / 5) 5 (ts.take k) (ts.getD k 0)
        have s2 := maxF_snoc (· / 5) 0 (ts.take k) (ts.getD k 0)
        have s3 := minF_snoc (· % 5) 5 (ts.take k) (ts.getD k 0)
        have s4 := maxF_snoc (· % 5) 0 (ts.take k) (ts.getD k 0)
        rw [← take_snocD ts k 0 hlt] at s1 s2 s3 s4
        have ht := HF.out _ (getN_mem (d := (0 : Int)) hlt)
        obtain ⟨t, htt⟩ : ∃ t, t = ts.getD k 0 := ⟨_, rfl⟩
        rw [← htt] at q1 s1 s2 s3 s4 ht
        obtain ⟨t0, t1⟩ := ht
        have hta : IntKind.i64.wrap (t.tdiv 5) = t / 5 := by rw [Int.tdiv_eq_ediv_of_nonneg t0]; exact IntWalk.i64_in _ (by omega)
        have htb : t.tmod 5 = t % 5 := Int.tmod_eq_emod_of_nonneg t0
        obtain ⟨R0, e1⟩ : ∃ x, x = minF (· / 5) 5 (ts.take k) := ⟨_, rfl⟩
        obtain ⟨R1, e2⟩ : ∃ x, x = maxF (· / 5) 0 (ts.take k) := ⟨_, rfl⟩
        obtain ⟨C0, e3⟩ : ∃ x, x = minF (· % 5) 5 (ts.take k) := ⟨_, rfl⟩
        obtain ⟨C1, e4⟩ : ∃ x, x = maxF (· % 5) 0 (ts.take k) := ⟨_, rfl⟩
        rw [← e1] at b1 b2 s1 ⊢
        rw [← e2] at b3 b4 s2 ⊢
        rw [← e3] at b5 b6 s3 ⊢
        rw [← e4] at b7 b8 s4 ⊢
        have S := Lib.hid (And.intro s1 (And.intro s2 (And.intro s3 s4)))
        clear hc htt e1 e2 e3 e4 s1 s2 s3 s4
        go_wp2_with fail
        go_roundw
        case rel => exact ⟨k + 1, by omega, by go_num, by rw [S.out.1], by rw [S.out.2.1], by rw [S.out.2.2.1], by rw [S.out.2.2.2], hE⟩
        case measure => simp [intOf]; omega
      · have hk2 : k = ts.length := by omega
        subst hk2
        rw [List.take_length] at b1 b2 b3 b4 b5 b6 b7 b8 ⊢
        go_wp2_with fail
        go_ret
        exact ⟨by rw [HD.out, HBX.out]; rfl, hE⟩
theorem sinkL_lt {cs : List CellT} {net x : Int} {k : Nat} (h : x ∈ sinkL cs net k) : ∃ i : Nat, i < k ∧ x = (i : Int) := by
  obtain ⟨i, h1, _, h2⟩ := mem_sinkL.1 h
  exact ⟨i, h1, h2.symm⟩
theorem padL_le (c : Circ) (net : Int) (k : Nat) : (padL c net k).length ≤ k := by
  induction k with
  | zero => simp [padL]
  | succ k ih => rw [padL_succ, List.length_append]; split <;> simp <;> omega
theorem cellT_le (cs : List CellT) (place : List Int) (net : Int) (k : Nat) : (cellT cs place net k).length ≤ k := by
  induction k with
  | zero => simp [cellT]
  | succ k ih => rw [cellT_succ, List.length_append]; split <;> simp <;> omega
theorem IntsAt.grn {w w' : World} {a : Option Addr} {xs : List Int} {B : Nat} (h : IntsAt w a xs) (g : w.grownBy w' (some B)) (hne : xs.length ≠ 0 → ∀ x, a = some x → x.block ≠ B) : IntsAt w' a xs := by
  rcases h with rfl | ⟨b, o, ha, hb, hc⟩
  · exact .inl rfl
  · by_cases hz : xs.length = 0
    · exact .inl (List.eq_nil_of_length_eq_zero hz)
    · exact .inr ⟨b, o, ha, Nat.lt_of_lt_of_le hb g.size, fun j hj => (gcell g b _ hb (hne hz _ ha)).trans (hc j hj)⟩
theorem Gr.rowB {a w w' : World} {B : Nat} {v v' : Value} (h : a.grownBy w (some B)) (hg : w.grownBy w' v.ownBlock) (hv : ∀ k, v.ownBlock = some k → k = B ∨ a.heap.size ≤ k) (hm : RowMoved w v v') : a.grownBy w' (some B) ∧ ∀ k, v'.ownBlock = some k → k = B ∨ a.heap.size ≤ k := by
  refine ⟨⟨hg.os.trans h.os, hg.tape.trans h.tape, hg.output.trans h.output, Nat.le_trans h.size hg.size, fun k hk hne => ?_⟩, fun k hk => ?_⟩
  · refine (hg.block k (Nat.lt_of_lt_of_le hk h.size) (fun e => ?_)).trans (h.block k hk hne)
    rcases hv k e.symm with h2 | h2
    · exact hne (by rw [h2])
    · omega
  · rcases hm with e | ⟨q, e, hq⟩
    · exact hv k (e.symm.trans hk)
    · rw [e] at hk; cases hk
      have := h.size
      exact .inr (by omega)
theorem own_at {w : World} {b : Nat} {a : Option Addr} {n c : Nat} {xs : List Int} (h : OwnInts w b 3 (.slice a n c) xs) : IntsAt w a xs := by
  obtain ⟨a', c', e, hA, _⟩ := h.opened
  cases e; exact hA
theorem own_len {w : World} {b : Nat} {v : Value} {xs : List Int} (h : OwnInts w b 3 v xs) {n : Nat} (hn : xs.length = n) : ∃ a c, v = .slice a n c := by
  subst hn
  obtain ⟨a, c, e, _⟩ := own_sl h
  exact ⟨a, c, e⟩
set_option maxHeartbeats 8000000 in
theorem l7Pins_c (c : Circ) (p : Where3) (ca : Option Addr) (cc : Nat) (cs : List CellT) (F : List Nat) (pa : Option Addr) (pc : Nat) (place : List Int) (net : Int) (w : World) (hc : CircAt w c p) (V : c.Valid) (hN : NstC w (.slice ca cs.length cc) cs F) (hp : IntsAt w pa place) (hpl : place.length = cs.length) (hl : cs.length ≤ 17) (hs : ∀ x ∈ cs, Asc x.ins ∧ x.ins.length ≤ 3) (h0 : 1 ≤ net) (h1 : net ≤ 1000) :
    Calls Try.prog 125 #[.agg #[.int .i64 c.inputs, .slice p.an c.next.length p.cn, .slice p.ag c.gates.length p.cg, .slice p.ao c.outs.length p.co], .slice ca cs.length cc, .slice pa cs.length pc, .int .i64 net] w (GiveNL w (pinsV c cs place net)) := by
  obtain ⟨an, cn, ag, cg, ao, co⟩ := p
  dsimp only
  have E1 : Ext w (w.alloc (.cells #[.int .i64 c.inputs, .slice an c.next.length cn, .slice ag c.gates.length cg, .slice ao c.outs.length co] 26)) := (Ext.refl w).alloc _
  have y1 := CircBox.made w c ⟨an, cn, ag, cg, ao, co⟩ 26
  have HC1 := Lib.hid (hc.ext E1)
  have HN1 := Lib.hid (hN.ext goodCell E1)
  have HP1 := Lib.hid (hp.ext E1)
  have HS := Lib.hid hs
  have HPL := Lib.hid hpl
  have lo := V.lo
  have hi0 := V.i0
  have hi4 := V.i4
  have hxo := root_ok V (xs := c.outs) (fun x hx => List.mem_append_right _ hx)
  have hvl : c.vars ≤ 100 := by have := V.lg; have := V.ln; unfold Circ.vars Circ.first; omega
  have HXO := Lib.hid hxo
  obtain ⟨D, hD⟩ : ∃ D, D = pinsV c cs place net := ⟨_, rfl⟩
  rw [← hD]
  have HD := Lib.hid hD
  obtain ⟨L, hL⟩ : ∃ L, L = sinkL cs net cs.length := ⟨_, rfl⟩
  have hLl : L.length ≤ 17 := by have := sinkL_le cs net cs.length; rw [← hL] at this; omega
  have HLI : Hid (∀ j, j < L.length → ∃ i : Nat, i < cs.length ∧ L.getD j 0 = (i : Int)) := Lib.hid (fun j hj => sinkL_lt (by rw [← hL]; exact getN_mem hj))
  have HL := Lib.hid hL
  clear V hc hN hp hs hpl hxo hD hL
  go_enter Try.func125, Try.ntmps125
  go_upto_region 1 with fail
  obtain ⟨w1, hw1⟩ : ∃ x : World, x = w.alloc (.cells #[.int .i64 c.inputs, .slice an c.next.length cn, .slice ag c.gates.length cg, .slice ao c.outs.length co] 26) := ⟨_, rfl⟩
  rw [← hw1] at E1 y1 HC1 HN1 HP1
  rw [← hw1]
  clear hw1
  have O0 : OwnInts (w1.alloc (.cells #[] 3)) w1.heap.size 3 (.slice (some ⟨w1.heap.size, 0, none⟩) 0 0) [] := (Blk.at w1 [] 3 rfl).owns (n := 0) (size := 1) rfl (Nat.le_refl _) (by decide)
  have E10 := (Ext.refl w1).alloc (.cells #[] 3)
  have s10 : (w1.alloc (.cells #[] 3)).heap.size = w1.heap.size + 1 := by simp
  have hNa := HN1.out.ext goodCell E10
  have hcall := l6Sinks_c ca cc cs F net _ hNa hl HS.out
  rw [← HL.out] at hcall
  clear hNa
  go_wp2_with fail
  refine hcall.mono ?_
  rintro e w2 ⟨lv, rfl, oL, hE2⟩
  have hlb := own_lo oL
  have O2 := ownsRow_ext O0 hE2
  have E2 := E10.trans hE2
  have hsz2 := hE2.size
  obtain ⟨la, lc, rfl, hLA, _⟩ := oL.opened
  have hlo2 : L.length ≠ 0 → ∀ x, la = some x → x.block ≠ w1.heap.size := fun _ x hx e => by
    subst hx
    have := (ownsRow_block oL (by omega))
    obtain ⟨g, hg, h5, _⟩ := this
    cases hg
    dsimp only at e
    omega
  have HLA := Lib.hid hLA
  clear hcall O0 E10 hE2 oL hLA hlb hsz2 s10
  go_wp2_with fail
  go_loopw [9, 11] (fun u9 u11 wr => ∃ i : Nat, i ≤ L.length ∧ u11 = .int .i64 i ∧ OwnInts wr w1.heap.size 3 u9 (sinkT place (L.take i)) ∧ w2.grownBy wr (some w1.heap.size) ∧ ∀ k, u9.ownBlock = some k → k = w1.heap.size ∨ w2.heap.size ≤ k) (fun _ v _ => L.length - (intOf v).toNat)
  case atStart => exact ⟨0, Nat.zero_le _, rfl, O2, Gr.refl _ _, fun k hk => .inl (by cases hk; rfl)⟩
  case round =>
    clear O2
    obtain ⟨i, hi, rfl, hO, hG, hown⟩ := hrel
    obtain ⟨w3, rfl⟩ : ∃ z : World, z = wr := ⟨_, rfl⟩
    have E3 := gr_behind hG E2 (Nat.le_refl _)
    by_cases hlt : i < L.length
    · obtain ⟨b5, o5, rfl, hb5, hc5⟩ := (HLA.out.grn hG hlo2).get (by omega)
      have q5 := hc5 i hlt
      obtain ⟨m, hm, hmz⟩ := HLI.out i hlt
      have hsn : sinkT place (L.take (i + 1)) = sinkT place (L.take i) ++ [place.getD m 0] := by
        rw [take_snocD L i 0 hlt, sinkT_snoc, hmz]; rfl
      obtain ⟨b6, o6, rfl, hb6, hc6⟩ := (HP1.out.ext E3).get (by rw [HPL.out]; omega)
      have q6 := hc6 m (by rw [HPL.out]; exact hm)
      rw [hmz] at q5
      obtain ⟨z, hz⟩ : ∃ z, z = place.getD m 0 := ⟨_, rfl⟩
      rw [← hz] at q6 hsn
      have HSN := Lib.hid hsn
      obtain ⟨S, hS⟩ : ∃ S, S = sinkT place (L.take i) := ⟨_, rfl⟩
      have hSl : S.length = i := by rw [hS]; unfold sinkT; rw [List.length_map, List.length_take]; omega
      rw [← hS] at hO HSN
      have hSl2 : S.length ≤ 17 := by omega
      have hsz := E3.size
      have hmi : (m : Int) < (cs.length : Int) := by omega
      clear hc5 hc6 hmz hz hS hSl hsn
      go_wp2_with (at_builtin; refine wpList_app tyInts (ownsRow_ext hO (by (repeat (first | with_reducible assumption | with_reducible exact Ext.refl _ | with_reducible refine Ext.drew' ?_ | with_reducible refine Ext.drewN' ?_ _ | with_reducible refine Ext.alloc ?_ _ | (with_reducible refine Ext.setNew ?_ (by first | exact Nat.le_refl _ | (simp; done) | (simp; omega) | omega) _))))) (rowNew _ _ _ (by simp)) rfl (by simp [Value.oneCell']) (by omega) (by simp; omega) rfl rfl rfl rfl ?_; intro v9 w9 o9 g9 m9)
      have O9 : OwnInts w9 w1.heap.size 3 v9 (S ++ [z]) := own_app (xs := S) (ys := [z]) rfl rfl o9
      obtain ⟨G9, hown9⟩ := Gr.rowB (Gr.trans hG (Gr.ext (by (repeat (first | with_reducible assumption | with_reducible exact Ext.refl _ | with_reducible refine Ext.drew' ?_ | with_reducible refine Ext.drewN' ?_ _ | with_reducible refine Ext.alloc ?_ _ | (with_reducible refine Ext.setNew ?_ (by first | exact Nat.le_refl _ | (simp; done) | (simp; omega) | omega) _)))) _)) g9 hown m9
      go_roundw
      case rel => exact ⟨i + 1, by omega, by go_num, by rw [HSN.out]; exact O9, G9, hown9⟩
      case measure => simp [intOf]; omega
    · have hi2 : i = L.length := by omega
      rw [hi2, List.take_length] at hO
      obtain ⟨S, hS⟩ : ∃ S, S = sinkT place L := ⟨_, rfl⟩
      have hSl : S.length ≤ 17 := by rw [hS]; unfold sinkT; rw [List.length_map]; omega
      rw [← hS] at hO
      have HUV : Hid (∀ Q, S ++ Q = sinkT place (sinkL cs net cs.length) ++ Q) := Lib.hid (fun Q => by rw [hS, HL.out])
      have hnn : ¬ ((i : Int) < (L.length : Int)) := by omega
      clear hG hown hS hi2 HLA HLI HL hlo2 hLl
      go_wp2_with fail
      go_loopw [9, 12] (fun u9 u12 wr => ∃ o : Nat, o ≤ c.outs.length ∧ u12 = .int .i64 o ∧ OwnInts wr w1.heap.size 3 u9 (S ++ padL c net o) ∧ Ext w1 wr) (fun _ v _ => c.outs.length - (intOf v).toNat)
      case atStart => exact ⟨0, Nat.zero_le _, rfl, by simpa [padL] using hO, E3⟩
      case round =>
        clear hO E3
        obtain ⟨o, ho, rfl, hO, hE⟩ := hrel
        obtain ⟨w4, rfl⟩ : ∃ z : World, z = wr := ⟨_, rfl⟩
        have y4 := y1.ext hE
        (obtain ⟨lb, b0, b1, b2, b3⟩ := (id y4))
        dsimp only at b1 b2 b3
        by_cases hlt2 : o < c.outs.length
        · obtain ⟨b5, o5, eao, hb5, hc5⟩ := (HC1.out.ou.ext hE).get (by omega)
          have q1 := hc5 o hlt2
          obtain ⟨i1, i2⟩ := HXO.out o hlt2
          have hsn := padL_succ c net o
          have hpl3 := padL_le c net o
          obtain ⟨l, hll⟩ : ∃ l, l = c.outs.getD o 0 := ⟨_, rfl⟩
          rw [← hll] at q1 i1 i2 hsn
          have hta : IntKind.i64.wrap (l.tdiv 2) = l / 2 := by rw [Int.tdiv_eq_ediv_of_nonneg i1]; exact IntWalk.i64_in _ (by omega)
          dsimp only at eao
          subst eao
          obtain ⟨Q, hQ⟩ : ∃ Q, Q = S ++ padL c net o := ⟨_, rfl⟩
          have hQl : Q.length ≤ 20 := by rw [hQ, List.length_append]; omega
          rw [← hQ] at hO
          by_cases he : l / 2 = net
          · have hsn2 : S ++ padL c net (o + 1) = Q ++ [(o : Int) * 5 + 4] := by rw [hsn, if_pos (by simp [he]), ← List.append_assoc, ← hQ]
            have HSN := Lib.hid hsn2
            have he2 : (l / 2 == net) = true := by simp [he]
            have hsz := hE.size
            clear hc5 hll hsn hsn2 hQ he
            go_wp2_with (at_builtin; refine wpList_app tyInts (ownsRow_ext hO (by (repeat (first | with_reducible assumption | with_reducible exact Ext.refl _ | with_reducible refine Ext.drew' ?_ | with_reducible refine Ext.drewN' ?_ _ | with_reducible refine Ext.alloc ?_ _ | (with_reducible refine Ext.setNew ?_ (by first | exact Nat.le_refl _ | (simp; done) | (simp; omega) | omega) _))))) (rowNew _ _ _ (by simp)) rfl (by simp [Value.oneCell']) (by omega) (by simp; omega) rfl rfl rfl rfl ?_; intro v9 w9 o9 g9 m9)
            have E9 : Ext w1 w9 := ext_grown (w1 := _) (Ext.trans hE (by (repeat (first | with_reducible assumption | with_reducible exact Ext.refl _ | with_reducible refine Ext.drew' ?_ | with_reducible refine Ext.drewN' ?_ _ | with_reducible refine Ext.alloc ?_ _ | (with_reducible refine Ext.setNew ?_ (by first | exact Nat.le_refl _ | (simp; done) | (simp; omega) | omega) _))))) g9 (fun q hq => (own_lo hO q hq).1)
            have O9 : OwnInts w9 w1.heap.size 3 v9 (Q ++ [(o : Int) * 5 + 4]) := by first | exact own_app (xs := Q) (ys := [(o : Int) * 5 + 4]) rfl rfl o9 | (rw [show (o : Int) * 5 + 4 = (o : Int) * 5 + 5 - 1 from by omega]; exact own_app (xs := Q) (ys := [(o : Int) * 5 + 5 - 1]) rfl rfl o9)
            go_roundw
            case rel => exact ⟨o + 1, by omega, by go_num, by rw [HSN.out]; exact O9, E9⟩
            case measure => simp [intOf]; omega
          · have hsn2 : S ++ padL c net (o + 1) = Q := by rw [hsn, if_neg (by simp [he]), List.append_nil, ← hQ]
            have HSN := Lib.hid hsn2
            have he2 : (l / 2 == net) = false := by simp [he]
            clear hc5 hll hsn hsn2 hQ he
            go_wp2_with fail
            go_roundw
            case rel => exact ⟨o + 1, by omega, by go_num, by rw [HSN.out]; exact hO, hE⟩
            case measure => simp [intOf]; omega
        · have ho2 : o = c.outs.length := by omega
          have hnn2 : ¬ ((o : Int) < (c.outs.length : Int)) := by omega
          rw [ho2] at hO
          obtain ⟨U, hU⟩ : ∃ U, U = S ++ padL c net c.outs.length := ⟨_, rfl⟩
          have hUl : U.length ≤ 20 := by have := padL_le c net c.outs.length; rw [hU, List.length_append]; omega
          rw [← hU] at hO
          have hUV : useV c cs place net = U := by unfold useV; rw [← HUV.out, hU]
          have HDD : Hid (D = if U = [] then [] else onto (srcV c cs place net) U) := Lib.hid (by rw [HD.out]; unfold pinsV; rw [hUV])
          clear hU hUV HUV ho2 HD
          obtain ⟨ua, uc, rfl, hUA, _⟩ := hO.opened
          by_cases hu0 : U.length = 0
          · have hd : D = [] := by rw [HDD.out, if_pos (List.eq_nil_of_length_eq_zero hu0)]
            subst hd
            have hz : ((U.length : Int) == 0) = true := by rw [hu0]; rfl
            have O5 : OwnInts (w4.alloc (.cells #[] 3)) w4.heap.size 3 (.slice (some ⟨w4.heap.size, 0, none⟩) 0 0) [] := (Blk.at w4 [] 3 rfl).owns (n := 0) (size := 1) rfl (Nat.le_refl _) (by decide)
            have E5 := hE.alloc (.cells #[] 3)
            have hs4 := hE.size
            have hs1 := E1.size
            clear hu0 HDD
            go_wp2_with fail
            go_ret
            exact ⟨_, rfl, ownsRow_base O5 (by omega), E1.trans E5⟩
          · have hz : ((U.length : Int) == 0) = false := by rw [beq_eq_false_iff_ne]; omega
            have HDE : Hid (D = onto (srcV c cs place net) U) := Lib.hid (by rw [HDD.out, if_neg (fun e => hu0 (by rw [e]; rfl))])
            have HUA := Lib.hid hUA
            have O5 : OwnInts (w4.alloc (.cells #[] 3)) w4.heap.size 3 (.slice (some ⟨w4.heap.size, 0, none⟩) 0 0) [] := (Blk.at w4 [] 3 rfl).owns (n := 0) (size := 1) rfl (Nat.le_refl _) (by decide)
            have E5 := (Ext.refl w4).alloc (.cells #[] 3)
            have E4 := hE
            have s4 := E4.size
            obtain ⟨A, hA⟩ : ∃ A, A = (if 1 ≤ net ∧ net ≤ c.inputs then [(net - 1) * 5] else []) := ⟨_, rfl⟩
            have HSV : Hid (srcV c cs place net = A ++ cellT cs place net cs.length) := Lib.hid (by unfold srcV; rw [hA])
            have hAl : A.length ≤ 1 := by rw [hA]; split <;> simp
            clear hu0 HDD hUA hE hO
            go_upto_if 70 with fail
            go_cut [13] (fun v wx => OwnInts wx w4.heap.size 3 v A ∧ Ext w4 wx)
            case first =>
              clear HSV HDE HUA hAl
              by_cases hni : net ≤ c.inputs
              · have hA2 : A = [(net - 1) * 5] := by rw [hA, if_pos ⟨h0, hni⟩]
                clear hA
                subst hA2
                go_wp2_with (at_builtin; refine wpList_app tyInts (ownsRow_ext O5 ((Ext.refl _).alloc _)) (rowNew _ _ _ (by simp)) rfl (by simp [Value.oneCell']) (by first | omega | (simp; done) | (simp; omega)) (by first | omega | (simp; done) | (simp; omega)) rfl rfl rfl rfl ?_; intro v9 w9 o9 g9 m9)
                go_meet
                exact ⟨own_app (xs := []) (ys := [(net - 1) * 5]) rfl rfl (by have h := o9; exact h), ext_grown (w1 := _) (by (repeat (first | with_reducible assumption | with_reducible exact Ext.refl _ | with_reducible refine Ext.drew' ?_ | with_reducible refine Ext.drewN' ?_ _ | with_reducible refine Ext.alloc ?_ _ | (with_reducible refine Ext.setNew ?_ (by first | exact Nat.le_refl _ | (simp; done) | (simp; omega) | omega) _)))) g9 (fun q hq => by cases hq; exact Nat.le_refl _)⟩
              · have hA2 : A = [] := by rw [hA, if_neg (fun h => hni h.2)]
                clear hA
                subst hA2
                go_wp2_with fail
                go_meet
                exact ⟨O5, E5⟩
            clear O5 E5 hA
            obtain ⟨hO, hE⟩ := hcut
            obtain ⟨w5, rfl⟩ : ∃ z : World, z = wc := ⟨_, rfl⟩
            clear hz b0 b1 b2 b3 lb y4
            go_wp2_with fail
            go_loopw [13, 14] (fun u13 u14 wr => ∃ i : Nat, i ≤ cs.length ∧ u14 = .int .i64 i ∧ OwnInts wr w4.heap.size 3 u13 (A ++ cellT cs place net i) ∧ Ext w4 wr) (fun _ v _ => cs.length - (intOf v).toNat)
            case atStart => exact ⟨0, Nat.zero_le _, rfl, by simpa [cellT] using hO, hE⟩
            case round =>
              clear hO hE
              obtain ⟨i, hi, rfl, hO, hE⟩ := hrel
              obtain ⟨w6, rfl⟩ : ∃ z : World, z = wr := ⟨_, rfl⟩
              have E46 := E4.trans hE
              have s6 := hE.size
              by_cases hlt3 : i < cs.length
              · obtain ⟨g, rfl, hg, _, hcells⟩ := Nst.getN goodCell (HN1.out.ext goodCell E46) (by omega)
                obtain ⟨ds, F1, ⟨v, rfl, o1, rfl⟩, q, _⟩ := hcells i cell0 hlt3
                have r0 := q 0 _ (by omega) rfl
                rw [Nat.add_zero] at r0
                obtain ⟨b6, o6, rfl, hb6, hc6⟩ := (HP1.out.ext E46).get (by rw [HPL.out]; omega)
                have q6 := hc6 i (by rw [HPL.out]; exact hlt3)
                have hsn := cellT_succ cs place net i
                have hle := cellT_le cs place net i
                obtain ⟨z, hzz⟩ : ∃ z, z = place.getD i 0 := ⟨_, rfl⟩
                obtain ⟨nt, hnt⟩ : ∃ z, z = (cs.getD i cell0).net := ⟨_, rfl⟩
                rw [← hzz] at q6 hsn
                rw [← hnt] at r0 hsn
                obtain ⟨Q, hQ⟩ : ∃ Q, Q = A ++ cellT cs place net i := ⟨_, rfl⟩
                have hQl : Q.length ≤ 20 := by rw [hQ, List.length_append]; omega
                rw [← hQ] at hO
                by_cases he : nt = net
                · have hsn2 : A ++ cellT cs place net (i + 1) = Q ++ [z] := by rw [hsn, if_pos (by simp [he]), ← List.append_assoc, ← hQ]
                  have HSN := Lib.hid hsn2
                  have he2 : (nt == net) = true := by simp [he]
                  clear hc6 hzz hnt hsn hsn2 hQ he hcells q o1
                  go_wp2_with (at_builtin; refine wpList_app tyInts (ownsRow_ext hO (by (repeat (first | with_reducible assumption | with_reducible exact Ext.refl _ | with_reducible refine Ext.drew' ?_ | with_reducible refine Ext.drewN' ?_ _ | with_reducible refine Ext.alloc ?_ _ | (with_reducible refine Ext.setNew ?_ (by first | exact Nat.le_refl _ | (simp; done) | (simp; omega) | omega) _))))) (rowNew _ _ _ (by simp)) rfl (by simp [Value.oneCell']) (by omega) (by simp; omega) rfl rfl rfl rfl ?_; intro v9 w9 o9 g9 m9)
                  have E9 : Ext w4 w9 := ext_grown (w1 := _) (Ext.trans hE (by (repeat (first | with_reducible assumption | with_reducible exact Ext.refl _ | with_reducible refine Ext.drew' ?_ | with_reducible refine Ext.drewN' ?_ _ | with_reducible refine Ext.alloc ?_ _ | (with_reducible refine Ext.setNew ?_ (by first | exact Nat.le_refl _ | (simp; done) | (simp; omega) | omega) _))))) g9 (fun q hq => (own_lo hO q hq).1)
                  have O9 : OwnInts w9 w4.heap.size 3 v9 (Q ++ [z]) := own_app (xs := Q) (ys := [z]) rfl rfl o9
                  go_roundw
                  case rel => exact ⟨i + 1, by omega, by go_num, by rw [HSN.out]; exact O9, E9⟩
                  case measure => simp [intOf]; omega
                · have hsn2 : A ++ cellT cs place net (i + 1) = Q := by rw [hsn, if_neg (by simp [he]), List.append_nil, ← hQ]
                  have HSN := Lib.hid hsn2
                  have he2 : (nt == net) = false := by simp [he]
                  clear hc6 hzz hnt hsn hsn2 hQ he hcells q o1
                  go_wp2_with fail
                  go_roundw
                  case rel => exact ⟨i + 1, by omega, by go_num, by rw [HSN.out]; exact hO, hE⟩
                  case measure => simp [intOf]; omega
              · have hi2 : i = cs.length := by omega
                have hnn3 : ¬ ((i : Int) < (cs.length : Int)) := by omega
                obtain ⟨T, hT⟩ : ∃ T, T = A ++ cellT cs place net i := ⟨_, rfl⟩
                have hTl : T.length ≤ 20 := by have := cellT_le cs place net i; rw [hT, List.length_append]; omega
                rw [← hT] at hO
                have HD2 : Hid (D = onto T U) := Lib.hid (by rw [HDE.out, HSV.out, hT, hi2])
                clear hT hi2 HSV HDE
                go_wp2_with fail
                go_loopw [13, 15] (fun u13 u15 wr => ∃ j : Nat, j ≤ U.length ∧ u15 = .int .i64 j ∧ OwnInts wr w4.heap.size 3 u13 (onto T (U.take j)) ∧ Ext w4 wr) (fun _ v _ => U.length - (intOf v).toNat)
                case atStart => exact ⟨0, Nat.zero_le _, rfl, by simpa [onto] using hO, hE⟩
                case round =>
                  clear hO hE E46 s6
                  obtain ⟨j, hj, rfl, hO, hE⟩ := hrel
                  obtain ⟨w7, rfl⟩ : ∃ z : World, z = wr := ⟨_, rfl⟩
                  by_cases hlt4 : j < U.length
                  · obtain ⟨b7, o7, rfl, hb7, hc7⟩ := (HUA.out.ext hE).get (by omega)
                    have q7 := hc7 j hlt4
                    have hsn : onto T (U.take (j + 1)) = if (onto T (U.take j)).contains (U.getD j 0) then onto T (U.take j) else onto T (U.take j) ++ [U.getD j 0] := by rw [take_snocD U j 0 hlt4, onto_snoc]
                    have hle := onto_len (U.take j) T
                    obtain ⟨z, hzz⟩ : ∃ z, z = U.getD j 0 := ⟨_, rfl⟩
                    obtain ⟨X, hX⟩ : ∃ X, X = onto T (U.take j) := ⟨_, rfl⟩
                    rw [← hzz] at q7 hsn
                    rw [← hX] at hO hsn hle
                    have hXl : X.length ≤ 40 := by rw [List.length_take] at hle; omega
                    obtain ⟨B, hB⟩ : ∃ B, B = X.contains z := ⟨_, rfl⟩
                    rw [← hB] at hsn
                    have HSN := Lib.hid hsn
                    have HB := Lib.hid hB
                    obtain ⟨va, vc, rfl, hXA, _⟩ := hO.opened
                    have s7 := hE.size
                    clear hc7 hzz hX hsn hB hle
                    go_wp2_with fail
                    refine (l7Has_c va vc X z X.length rfl _ (hXA.ext (by (repeat (first | with_reducible assumption | with_reducible exact Ext.refl _ | with_reducible refine Ext.drew' ?_ | with_reducible refine Ext.drewN' ?_ _ | with_reducible refine Ext.alloc ?_ _ | (with_reducible refine Ext.setNew ?_ (by first | exact Nat.le_refl _ | (simp; done) | (simp; omega) | omega) _))))) (by omega)).mono ?_
                    rw [← HB.out]
                    rintro e w8 ⟨rfl, hE8⟩
                    obtain ⟨E78, s8⟩ : Ext w7 w8 ∧ w7.heap.size ≤ w8.heap.size := by
                      have h : Ext w7 w8 := Ext.trans (by (repeat (first | with_reducible assumption | with_reducible exact Ext.refl _ | with_reducible refine Ext.drew' ?_ | with_reducible refine Ext.drewN' ?_ _ | with_reducible refine Ext.alloc ?_ _ | (with_reducible refine Ext.setNew ?_ (by first | exact Nat.le_refl _ | (simp; done) | (simp; omega) | omega) _)))) hE8
                      exact ⟨h, h.size⟩
                    have hO8 : OwnInts w8 w4.heap.size 3 (.slice va X.length vc) X := ownsRow_ext hO E78
                    have E8 := hE.trans E78
                    have q8 := ((ecell E78).1 b7 _ hb7).trans q7
                    have hb8 : b7 < w8.heap.size := by omega
                    clear hO hE8 hXA HB q7
                    cases B
                    · go_wp2_with (at_builtin; refine wpList_app tyInts (ownsRow_ext hO8 (by (repeat (first | with_reducible assumption | with_reducible exact Ext.refl _ | with_reducible refine Ext.drew' ?_ | with_reducible refine Ext.drewN' ?_ _ | with_reducible refine Ext.alloc ?_ _ | (with_reducible refine Ext.setNew ?_ (by first | exact Nat.le_refl _ | (simp; done) | (simp; omega) | omega) _))))) (rowNew _ _ _ (by simp)) rfl (by simp [Value.oneCell']) (by omega) (by simp; omega) rfl rfl rfl rfl ?_; intro v9 w9 o9 g9 m9)
                      have E9 : Ext w4 w9 := ext_grown (w1 := _) (Ext.trans E8 (by (repeat (first | with_reducible assumption | with_reducible exact Ext.refl _ | with_reducible refine Ext.drew' ?_ | with_reducible refine Ext.drewN' ?_ _ | with_reducible refine Ext.alloc ?_ _ | (with_reducible refine Ext.setNew ?_ (by first | exact Nat.le_refl _ | (simp; done) | (simp; omega) | omega) _))))) g9 (fun q hq => (own_lo hO8 q hq).1)
                      have O9 : OwnInts w9 w4.heap.size 3 v9 (X ++ [z]) := own_app (xs := X) (ys := [z]) rfl rfl o9
                      go_roundw
                      case rel => exact ⟨j + 1, by omega, by go_num, by rw [HSN.out]; exact O9, E9⟩
                      case measure => simp [intOf]; omega
                    · go_wp2_with fail
                      go_roundw
                      case rel => exact ⟨j + 1, by omega, by go_num, by rw [HSN.out]; exact hO8, E8⟩
                      case measure => simp [intOf]; omega
                  · have hj2 : j = U.length := by omega
                    rw [hj2, List.take_length, ← HD2.out] at hO
                    have hs1 := E1.size
                    go_wp2_with fail
                    go_ret
                    exact ⟨_, rfl, ownsRow_base hO (by omega), E1.trans (E4.trans hE)⟩
end Go.Proofs.Ytgialedmbmfejaa
