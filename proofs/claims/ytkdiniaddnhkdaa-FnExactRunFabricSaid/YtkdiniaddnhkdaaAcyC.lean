/- Contract: the program's visit of the wires. -/
import Derived.Test.YtkdiniaddnhkdaaAcyM
import Derived.Deep.DeepCutAuto
namespace Go.Proofs.Ytkdiniaddnhkdaa
open Go.RowKit Go.Maps
set_option maxRecDepth 100000
set_option linter.unusedVariables false
set_option linter.unusedSimpArgs false
def CycPost (mb B : Nat) (w : World) (R : Bool × Marks) (e : Ending) (w' : World) : Prop := e = .returned (.bool (!R.1)) ∧ MkM w' mb B R.2 ∧ w.grownBy w' (some mb)
def CycIH (k : Conf) (ta pa : Option Addr) (tc pc kb mb : Nat) (w0 : World) (n : Nat) : Prop := ∀ (m : Marks) (x : Wire) (B : Nat) (w : World), x.Ok → zeros0 m 200 < n → Mk3 m → B ≤ 400 → MkM w mb B m → Blk w kb 25 [.slice ta k.ts.length tc, .slice pa k.ps.length pc] → Ext w0 w →
    Calls Try.prog 89 #[.pointer (some ⟨kb, 0, none⟩), .agg #[.int .i64 x.1, .int .i64 x.2], .map (some mb)] w (CycPost mb B w (vis k n m x))
theorem Gr.behind {w0 w w' : World} {mb : Nat} (h : w.grownBy w' (some mb)) (e : Ext w0 w) (hm : w0.heap.size ≤ mb) : Ext w0 w' :=
  ⟨h.os.trans (Below.os e), h.tape.trans (Below.tape e), h.output.trans (Below.output e), Nat.le_trans e.size h.size, fun k hk => (h.block k (Nat.lt_of_lt_of_le hk e.size) (fun e2 => by have := Option.some.inj e2; omega)).trans (Below.block e k hk)⟩
theorem someNe {a b : Nat} (h : a ≠ b) : (some a : Option Nat) ≠ some b := fun e => h (Option.some.inj e)
set_option maxHeartbeats 4000000 in
theorem cyclic_c (k : Conf) (ta pa : Option Addr) (tc pc kb mb : Nat) (w0 : World) (hk : ConfAt w0 k ta pa) (hok : k.Ok) (hne : kb ≠ mb) (hm0 : w0.heap.size ≤ mb) : ∀ n, CycIH k ta pa tc pc kb mb w0 n := by
  intro n
  induction n with
  | zero => intro m x B w _ hz; exact absurd hz (Nat.not_lt_zero _)
  | succ n ih =>
    intro m ⟨t, c⟩ B w hx hz h3 hB hM y hE
    have IH := Lib.hid ih
    clear ih
    have ht := hx.1
    have hc := hx.2
    dsimp only at ht hc
    dsimp only
    have hkey : keyOf Try.prog 113 (.agg #[.int .i64 (t : Int), .int .i64 (c : Int)]) = some (wKey (t, c)) := wKeyOf (t, c) hx
    have A1 : Ext w (w.alloc (.cells #[.int .i64 t, .int .i64 c] 113)) := (Ext.refl w).alloc _
    have hM1 := hM.ext A1
    obtain ⟨sn, D, hown, hsn, hat⟩ := hM1
    have hatx := hat (t, c) hx
    have mbl := hM.lt
    have yx := Blk.at w [.int .i64 t, .int .i64 c] 113 rfl
    have x0 := yx.cell (i := 0) rfl
    have x1 := yx.cell (i := 1) rfl
    have xl := yx.lt
    obtain ⟨v, hv⟩ : ∃ v, v = m (Wire.ix (t, c)) := ⟨_, rfl⟩
    rw [← hv] at hatx
    have HAT := Lib.hid hatx
    have hv3 := h3 (Wire.ix (t, c))
    rw [← hv] at hv3
    clear hatx
    by_cases h0 : v = 0
    · subst h0
      have h0 : m (Wire.ix (t, c)) = 0 := hv.symm
      have hzd := zeros0_dec m (Wire.ix (t, c)) 1 (by decide) h0 200 hx.ix
      obtain ⟨V, hV⟩ : ∃ V, V = visL k n (needW k (t, c)) (upd m (Wire.ix (t, c)) 1) := ⟨_, rfl⟩
      have hvis : vis k (n + 1) m (t, c) = if V.1 then (true, upd V.2 (Wire.ix (t, c)) 2) else (false, V.2) := by
        cases hVb : V with
        | mk bb mm =>
          rw [hVb] at hV
          cases bb
          · rw [vis_bad h0 hV.symm]; rfl
          · rw [vis_ok h0 hV.symm]; rfl
      have HVIS := Lib.hid hvis
      have HV := Lib.hid hV
      have h3u : Mk3 (upd m (Wire.ix (t, c)) 1) := h3.upd _ (.inr (.inl rfl))
      have hval : wElem (.int .i64 1) = some (.lit (.int .i64 1), []) := plainElem_int Try.underlying3 (wf_sm (by omega) (by omega))
      have HAT2 := Lib.hid hat
      have HM := Lib.hid hM
      have z1 : w.heap.size < (w.alloc (.cells #[.int .i64 t, .int .i64 c] 113)).heap.size := by simp
      obtain ⟨R, hR⟩ : ∃ R, R = vis k (n + 1) m (t, c) := ⟨_, rfl⟩
      rw [← hR] at HVIS ⊢
      clear hv hV hvis h0 hv3 hat hM h3 hR
      have y1 := y.ext A1
      go_enter Try.func89, Try.ntmps89
      go_upto_region 1 with fail
      generalize w.alloc (.cells #[.int .i64 t, .int .i64 c] 113) = W1 at *
      go_wp2_with (first
        | (at_lookup; go_loud (refine wpList_lookup_own_int _ rfl _ _ 109 rfl 113 3 .i64 wLaw wMapTy Try.underlying3 (wZero _) mb sn D rfl hown _ _ rfl hkey ?_); intro cL hcL hwc; have hcc : cL = _ := (Lit.int.inj (DataW.lit.inj (hcL.symm.trans HAT.out))).2; subst hcc; clear hcL hwc)
        | (at_mapUpdate; go_loud (refine wpList_mapUpdate_own _ rfl _ _ _ 109 rfl 113 3 wLaw wMapTy _ mb sn D rfl hown (by unfold maxLen; omega) _ _ (wKey (t, c)) rfl rfl hkey _ _ hval ?_); intro W2 hown2 hg2; have M2 := MkM.put hown HAT2.out hx (v := 1) (B' := B - 1) (by omega) hown2; clear hown2 hown; have yx2 := yx.gr hg2 (someNe (by omega)); have x0 := yx2.cell (i := 0) rfl; have x1 := yx2.cell (i := 1) rfl; have xl := yx2.lt))
      have G2 : w.grownBy W2 (some mb) := Gr.trans (Gr.ext A1 _) hg2
      have E2 := Gr.behind G2 hE hm0
      have y2 := y1.gr hg2 (someNe (fun e => hne e.symm))
      have HND := Lib.hid (needs_c k ta pa tc pc kb hok (t, c) hx W2 (hk.ext E2) y2)
      have hnok := Lib.hid (hok.need hx)
      obtain ⟨xs, hxs⟩ : ∃ xs, xs = needW k (t, c) := ⟨_, rfl⟩
      rw [← hxs] at HND HV hnok
      have hzu : zeros0 (upd m (Wire.ix (t, c)) 1) 200 < n := by omega
      have HZ := Lib.hid hzu
      have hB1 : 2 ≤ B := by omega
      have hxl := hok.needLen hx
      rw [← hxs] at hxl
      clear hxs x0 x1 hg2 A1 yx y1 hval z1 hsn hzd hzu y
      refine HND.out.mono ?_
      rintro e W3 ⟨v3, rfl, hO3, hE3⟩
      obtain ⟨wa, wc3, rfl, _⟩ := ownsRow_row hO3
      have M3 := M2.ext hE3
      have y3 := y2.ext hE3
      have yx3 := yx2.ext hE3
      have G3 := Gr.trans G2 (Gr.ext hE3 _)
      have hs23 := G2.size
      have hs3 := hE3.size
      have hal : ∀ q, (Value.slice wa xs.length wc3).ownBlock = some q → q ≠ mb := fun q hq e => by have := (World.ownsRow.lt hO3 q hq).1; omega
      have HAL := Lib.hid hal
      clear hal HND M2 y2 yx2 G2 E2
      go_wp2_with fail
      go_loopw [22] (fun u22 wr => ∃ (j : Nat) (m2 : Marks), j ≤ xs.length ∧ u22 = .int .i64 j ∧ Hid (V = visL k n (xs.drop j) m2) ∧ Hid (zeros0 m2 200 < n) ∧ Mk3 m2 ∧ MkM wr mb (B - 1) m2 ∧ Blk wr kb 25 [.slice ta k.ts.length tc, .slice pa k.ps.length pc] ∧ Blk wr w.heap.size 113 [.int .i64 t, .int .i64 c] ∧ OwnW wr W2.heap.size (.slice wa xs.length wc3) xs ∧ w.grownBy wr (some mb)) (fun i _ => xs.length - (intOf i).toNat)
      case atStart => exact ⟨0, _, Nat.zero_le _, rfl, HV, HZ, h3u, M3, y3, yx3, hO3, G3⟩
      case round =>
        clear M3 y3 yx3 hO3 G3 hE3 h3u
        obtain ⟨j, m2, hj, rfl, hVj, hzj, h3j, M3, y3, yx3, hO3, G3⟩ := hrel
        have hs := G3.size
        have E3 := Gr.behind G3 hE hm0
        by_cases hlt : j < xs.length
        · obtain ⟨wb, rfl, hwb1, hwb2⟩ := ownsRow_block hO3 (by omega)
          obtain ⟨g0, g1⟩ := flatW_get xs j hlt
          have q0 := ownsRow_cell hO3 g0
          have q1 := ownsRow_cell hO3 g1
          have hxo := hnok.out (xs.getD j (0, 0)) (by rw [List.getD_eq_getElem?_getD, List.getElem?_eq_getElem hlt]; exact List.getElem_mem hlt)
          have hdr : xs.drop j = xs.getD j (0, 0) :: xs.drop (j + 1) := by
            rw [List.drop_eq_getElem_cons hlt, List.getD_eq_getElem?_getD, List.getElem?_eq_getElem hlt]; rfl
          obtain ⟨z, hz2⟩ : ∃ z, z = xs.getD j (0, 0) := ⟨_, rfl⟩
          rw [← hz2] at q0 q1 hxo hdr
          obtain ⟨z1, z2⟩ := z
          dsimp only at q0 q1
          have hVV := hVj.out
          rw [hdr, visL_cons] at hVV
          obtain ⟨w4, rfl⟩ : ∃ z : World, z = wr := ⟨_, rfl⟩
          have A4 : Ext w4 (w4.alloc (.cells #[.int .i64 z1, .int .i64 z2] 113)) := (Ext.refl w4).alloc _
          have HC := Lib.hid (IH.out m2 (z1, z2) (B - 1) _ hxo hzj.out h3j (by omega) (M3.ext A4) (y3.ext A4) (E3.trans A4))
          have hz3 := vis_zeros k n m2 (z1, z2)
          have h3v := vis_mk3 k n m2 (z1, z2) h3j
          obtain ⟨R2, hR2⟩ : ∃ R2, R2 = vis k n m2 (z1, z2) := ⟨_, rfl⟩
          rw [← hR2] at hVV HC hz3 h3v
          have hzR : zeros0 R2.2 200 < n := by have := hzj.out; omega
          have HVV := Lib.hid hVV
          have HZR := Lib.hid hzR
          obtain ⟨ok, m3⟩ := R2
          clear g0 g1 hdr hz2 hVV hR2 hz3 hzR hVj hxo
          go_wp2_with fail
          refine HC.out.mono ?_
          rintro e w5 ⟨rfl, M5, G5⟩
          have y5 := (y3.ext A4).gr G5 (someNe (fun e => hne e.symm))
          have yx5 := (yx3.ext A4).gr G5 (someNe (by omega))
          have hO5 : OwnW w5 W2.heap.size (.slice (some ⟨wb, 0, none⟩) xs.length wc3) xs := ownsRow_gr (ownsRow_ext hO3 A4) G5 (.inr (fun e => HAL.out wb rfl (Option.some.inj e)))
          have GG := Gr.trans (Gr.trans G3 (Gr.ext A4 _)) G5
          clear q0 q1 A4 HC
          cases ok
          · have hVf : V = (false, m3) := HVV.out
            subst hVf
            have hRR : R = (false, m3) := HVIS.out
            subst hRR
            have HM5 : Hid (MkM w5 mb B m3) := Lib.hid (by obtain ⟨a, b, c, d, e⟩ := M5; exact ⟨a, b, c, by dsimp only at d; omega, e⟩)
            clear M5
            go_wp2
            go_ret
            exact ⟨rfl, HM5.out, GG⟩
          · have hVf : V = visL k n (xs.drop (j + 1)) m3 := HVV.out
            have HVF := Lib.hid hVf
            clear hVf HVV
            go_wp2_with fail
            go_roundw
            case rel => exact ⟨j + 1, m3, by omega, by go_num, HVF, HZR, h3v, M5, y5, yx5, hO5, GG⟩
            case measure => simp [intOf]; omega
        · have hj2 : j = xs.length := by omega
          subst hj2
          have hVf : V = (true, m2) := by rw [hVj.out, List.drop_length, visL_nil]
          subst hVf
          have hRR : R = (true, upd m2 (Wire.ix (t, c)) 2) := HVIS.out
          subst hRR
          obtain ⟨sn, D, hown, hsn, hat⟩ := M3
          have hval : wElem (.int .i64 2) = some (.lit (.int .i64 2), []) := plainElem_int Try.underlying3 (wf_sm (by omega) (by omega))
          have x0 := yx3.cell (i := 0) rfl
          have x1 := yx3.cell (i := 1) rfl
          have xl := yx3.lt
          have HAT3 := Lib.hid hat
          have hzl := zeros0_upd m2 (Wire.ix (t, c)) 2 (by decide) 200
          clear hat hVj HVIS
          go_wp2_with (at_mapUpdate; go_loud (refine wpList_mapUpdate_own _ rfl _ _ _ 109 rfl 113 3 wLaw wMapTy _ mb sn D rfl hown (by unfold maxLen; omega) _ _ (wKey (t, c)) rfl rfl hkey _ _ hval ?_); intro W8 hown2 hg2; have M8 := MkM.put hown HAT3.out hx (v := 2) (B' := B) (by omega) hown2; clear hown2 hown)
          go_ret
          exact ⟨rfl, M8, Gr.trans G3 hg2⟩
    · rw [vis_seen (by rw [← hv]; exact h0), ← hv]
      have e1 : v = 1 ∨ v = 2 := by omega
      have HM := Lib.hid (hM.ext A1)
      clear hv hM hv3 h0 hat
      rcases e1 with rfl | rfl
      all_goals
        go_enter Try.func89, Try.ntmps89
        go_wp2_with (at_lookup; go_loud (refine wpList_lookup_own_int _ rfl _ _ 109 rfl 113 3 .i64 wLaw wMapTy Try.underlying3 (wZero _) mb sn D rfl hown _ _ rfl hkey ?_); intro cL hcL hwc; have hcc : cL = _ := (Lit.int.inj (DataW.lit.inj (hcL.symm.trans HAT.out))).2; subst hcc; clear hcL hwc)
        go_ret
        exact ⟨rfl, HM.out, Gr.ext A1 _⟩
end Go.Proofs.Ytkdiniaddnhkdaa
