/- Contracts: the program's Optimize. -/
import Derived.Test.YtpfhlodlefcomaaOptILe
import Derived.Test.YtpfhlodlefcomaaOptIGt
import Derived.Test.YtpfhlodlefcomaaOptJ
import Derived.Test.YtpfhlodlefcomaaOptQ
import Derived.Deep.DeepCutAuto
namespace Go.Proofs.Ytpfhlodlefcomaa
open Go.RowKit
set_option maxRecDepth 100000
set_option linter.unusedVariables false
set_option linter.unusedSimpArgs false
theorem and_c (w : World) (base bb mb : Nat) (f : Int) (gs : List (Int × Int)) (gv lv : Value) (ls : List Int) (a b : Int) (hu : Bu w base bb mb f gs gs gv lv ls) (hbase : base ≤ w.heap.size)
    (hf : 1 ≤ f ∧ f ≤ 1000) (hl : (ls.length : Int) = f + gs.length) (lg : gs.length ≤ 1000) (a0 : 0 ≤ a) (b0 : 0 ≤ b) (a9 : a < 2 * (f + gs.length)) (b9 : b < 2 * (f + gs.length)) :
    Calls Try.prog 73 #[.pointer (some ⟨bb, 0, none⟩), .int .i64 a, .int .i64 b] w (AndBu w base bb mb f gv lv (andG f gs a b)) := by
  unfold andG
  by_cases h : b < a
  · rw [if_pos h]; exact andGt_c w base bb mb f gs gv lv ls b a hu hbase hf hl lg b0 a9 h
  · rw [if_neg h]; exact andLe_c w base bb mb f gs gv lv ls a b hu hbase hf hl lg a0 b9 (by omega)
/-- The builder, and the row of the literals beside it. -/
structure BuL (w : World) (base bb mb : Nat) (f : Int) (gs : List (Int × Int)) (gv lv : Value) (ls : List Int) (mv : Value) (ms : List Int) : Prop where
  bu : Bu w base bb mb f gs gs gv lv ls
  ll : (ls.length : Int) = f + gs.length
  m : w.ownsRow base 3 1 mv ms.length (ms.map (Value.int .i64))
  mS : ∀ k, mv.ownBlock = some k → ¬ BuS bb mb gv lv k
theorem BuL.ext {w w' : World} {base bb mb : Nat} {f : Int} {gs : List (Int × Int)} {gv lv : Value} {ls : List Int} {mv : Value} {ms : List Int} (h : BuL w base bb mb f gs gv lv ls mv ms) (e : Ext w w') : BuL w' base bb mb f gs gv lv ls mv ms :=
  { h with bu := h.bu.ext e, m := ownsRow_ext h.m e }
theorem buS_lt {w : World} {base bb mb : Nat} {f : Int} {ks gs : List (Int × Int)} {gv lv : Value} {ls : List Int} (h : Bu w base bb mb f ks gs gv lv ls) {k : Nat} (hk : BuS bb mb gv lv k) : k < w.heap.size ∧ base ≤ k := by
  rcases hk with rfl | rfl | hk | hk
  · exact ⟨h.blk.lt, h.hb⟩
  · exact ⟨h.kn.lt, h.hm⟩
  · exact ⟨(h.gs.lt _ hk).2, (h.gs.lt _ hk).1⟩
  · exact ⟨(h.ls.lt _ hk).2, (h.ls.lt _ hk).1⟩
/-- Behind the builder's conjunction the row of the literals is what it was. -/
theorem BuL.and {w w' : World} {base bb mb : Nat} {f : Int} {gs gs' : List (Int × Int)} {gv lv gv' lv' : Value} {ls ls' : List Int} {mv : Value} {ms : List Int} (h : BuL w base bb mb f gs gv lv ls mv ms)
    (hb : Bu w' base bb mb f gs' gs' gv' lv' ls') (hl : (ls'.length : Int) = f + gs'.length) (mg : RowMoved w gv gv') (ml : RowMoved w lv lv') (hc : Chg (BuS bb mb gv lv) w w') : BuL w' base bb mb f gs' gv' lv' ls' mv ms := by
  refine ⟨hb, hl, ownsRow_chg h.m hc h.mS, fun k hk hS => ?_⟩
  have hlt := (h.m.lt k hk).2
  have hn := h.mS k hk
  have old : ∀ {v v' : Value}, RowMoved w v v' → v'.ownBlock = some k → v.ownBlock = some k := by
    intro v v' hm he
    rcases hm with e | ⟨j, e, hj⟩
    · rw [← e]; exact he
    · rw [e] at he; have := Option.some.inj he; omega
  rcases hS with e | e | e | e
  · exact hn (.inl e)
  · exact hn (.inr (.inl e))
  · exact hn (.inr (.inr (.inl (old mg e))))
  · exact hn (.inr (.inr (.inr (old ml e))))
theorem BuL.app {w w1 : World} {base bb mb : Nat} {f : Int} {gs : List (Int × Int)} {gv lv : Value} {ls : List Int} {mv mv' : Value} {ms : List Int} {x : Int} {n : Nat} (h : BuL w base bb mb f gs gv lv ls mv ms)
    (hg : w.grownBy w1 mv.ownBlock) (hm : RowMoved w mv mv') (hn : n = ms.length + 1) (ho : w1.ownsRow base 3 1 mv' n (ms.map (Value.int .i64) ++ [Value.int .i64 x])) : BuL w1 base bb mb f gs gv lv ls mv' (ms ++ [x]) := by
  have hc : Chg (fun k => mv.ownBlock = some k) w w1 := Chg.of_gr (S := fun k => mv.ownBlock = some k) hg (fun k hk _ => hk)
  refine ⟨h.bu.chg hc (fun e => h.mS _ e (.inl rfl)) (fun e => h.mS _ e (.inr (.inl rfl))) (fun k hk e => h.mS _ e (.inr (.inr (.inl hk)))) (fun k hk e => h.mS _ e (.inr (.inr (.inr hk)))), h.ll, ?_, ?_⟩
  · rw [List.map_append, List.length_append, List.length_singleton, ← hn]; exact ho
  · intro k hk hS
    rcases hm with e | ⟨j, e, hj⟩
    · rw [e] at hk; exact h.mS k hk hS
    · rw [e] at hk
      have : j = k := Option.some.inj hk
      have := (buS_lt h.bu hS).1
      omega
set_option maxHeartbeats 8000000 in
theorem optimize_c (b : Nat) (c : Circ) (p : Where3) (w : World) (hb : CircBox w b c p) (hc : CircAt w c p) (V : c.Valid) :
    Calls Try.prog 53 #[.pointer (some ⟨b, 0, none⟩)] w (GiveC w (buildV false (buildV true c))) := by
  have hi0 := V.i0
  have hi4 := V.i4
  have ln := V.ln
  have lg := V.lg
  have lo := V.lo
  obtain ⟨F, hF⟩ : ∃ F : Nat, c.first = (F : Int) := ⟨c.first.toNat, by unfold Circ.first; omega⟩
  have hF1 : 1 ≤ F ∧ F ≤ 8 := by unfold Circ.first at hF; omega
  obtain ⟨hF1, hF2⟩ := hF1
  have hFF : 1 + c.inputs + (c.next.length : Int) = F := by unfold Circ.first at hF; exact hF
  obtain ⟨N, hN⟩ : ∃ N, N = F + c.gates.length := ⟨_, rfl⟩
  have hvv : c.vars = (N : Int) := by unfold Circ.vars; omega
  have hN1 : F + c.gates.length ≤ N := by omega
  have hN2 : N ≤ F + c.gates.length := by omega
  have HN := Lib.hid hN
  have HF := Lib.hid hF
  have HFF := Lib.hid hFF
  have VV := Lib.hid V
  have HVV := Lib.hid hvv
  have R0 := Blk.at w [.int .i64 0, .slice none 0 0, .slice none 0 0, .slice none 0 0] 26 rfl
  have E0 : Ext w (w.alloc (.cells #[.int .i64 0, .slice none 0 0, .slice none 0 0, .slice none 0 0] 26)) := (Ext.refl w).alloc _
  clear hN hF V hvv hFF
  go_enter Try.func53, Try.ntmps53
  go_wp2_with fail
  refine (reached_c b c p _ (hb.ext E0) (hc.ext E0) VV.out F N HF.out HN.out).mono ?_
  rintro e w2 ⟨KB, us, rfl, hKB, hul, hus, hK, hE2⟩
  have E2 := E0.trans hE2
  have R2 := R0.ext hE2
  have hb2 := hb.ext E2
  have HUL := Lib.hid hul
  have HUS := Lib.hid hus
  have lK := hK.lt
  have lR := R2.lt
  obtain ⟨_, b0, b1, b2, b3⟩ := (id hb2)
  clear E0 R0 hE2 hul hus hKB
  go_wp2_with fail
  (refine wp_regionT ((fun w' => (∀ b o, b < w2.heap.size → w'.cell? ⟨b, o, none⟩ = w2.cell? ⟨b, o, none⟩) ∧ Ext w2 w')) 10 (by kernel_rfl) ?_; have hS0 := held_mk (Ext.drew w2))
  ((refine wpAnyT_take 0 (v := ?_) rfl (by kernel_rfl) (fun _ _ _ h => h) (Or.inl ⟨by kernel_rfl, ?_⟩) (by assumption) ?_; rotate_left; (intro wS hSw; (try dsimp only at hSw); go_simp; (try with_reducible rfl)); (try simp only [Act.put, List.setIfInBounds_toArray, List.set_cons_zero, List.set_cons_succ])); (refine wpAnyT_take 1 (v := ?_) rfl (by kernel_rfl) (fun _ _ _ h => h) (Or.inl ⟨by kernel_rfl, ?_⟩) (by assumption) ?_; rotate_left; (intro wS hSw; (try dsimp only at hSw); go_simp; (try with_reducible rfl)); (try simp only [Act.put, List.setIfInBounds_toArray, List.set_cons_zero, List.set_cons_succ])); (refine wpAnyT_take 2 (v := ?_) rfl (by kernel_rfl) (fun _ _ _ h => h) (Or.inl ⟨by kernel_rfl, ?_⟩) (by assumption) ?_; rotate_left; (intro wS hSw; (try dsimp only at hSw); go_simp; (try with_reducible rfl)); (try simp only [Act.put, List.setIfInBounds_toArray, List.set_cons_zero, List.set_cons_succ])); (refine wpAnyT_take 3 (v := ?_) rfl (by kernel_rfl) (fun _ _ _ h => h) (Or.inl ⟨by kernel_rfl, ?_⟩) (by assumption) ?_; rotate_left; (intro wS hSw; (try dsimp only at hSw); go_simp; (try with_reducible rfl)); (try simp only [Act.put, List.setIfInBounds_toArray, List.set_cons_zero, List.set_cons_succ])); (refine wpAnyT_take 4 (v := ?_) rfl (by kernel_rfl) (fun _ _ _ h => h) (Or.inl ⟨by kernel_rfl, ?_⟩) (by assumption) ?_; rotate_left; (intro wS hSw; (try dsimp only at hSw); go_simp; (try with_reducible rfl)); (try simp only [Act.put, List.setIfInBounds_toArray, List.set_cons_zero, List.set_cons_succ])); (refine wpAnyT_take 5 (v := ?_) rfl (by kernel_rfl) (fun _ _ _ h => h) (Or.inl ⟨by kernel_rfl, ?_⟩) (by assumption) ?_; rotate_left; (intro wS hSw; (try dsimp only at hSw); go_simp; (try with_reducible rfl)); (try simp only [Act.put, List.setIfInBounds_toArray, List.set_cons_zero, List.set_cons_succ])); (refine wpAnyT_take 6 (v := ?_) rfl (by kernel_rfl) (fun _ _ _ h => h) (Or.inl ⟨by kernel_rfl, ?_⟩) (by assumption) ?_; rotate_left; (intro wS hSw; (try dsimp only at hSw); go_simp; (try with_reducible rfl)); (try simp only [Act.put, List.setIfInBounds_toArray, List.set_cons_zero, List.set_cons_succ])); (refine wpAnyT_take 7 (v := ?_) rfl (by kernel_rfl) (fun _ _ _ h => h) (Or.inl ⟨by kernel_rfl, ?_⟩) (by assumption) ?_; rotate_left; (intro wS hSw; (try dsimp only at hSw); go_simp; (try with_reducible rfl)); (try simp only [Act.put, List.setIfInBounds_toArray, List.set_cons_zero, List.set_cons_succ])); (refine wpAnyT_take 8 (v := ?_) rfl (by kernel_rfl) (fun _ _ _ h => h) (Or.inl ⟨by kernel_rfl, ?_⟩) (by assumption) ?_; rotate_left; (intro wS hSw; (try dsimp only at hSw); go_simp; (try with_reducible rfl)); (try simp only [Act.put, List.setIfInBounds_toArray, List.set_cons_zero, List.set_cons_succ])))
  (refine wpAnyT_doB 9 (by kernel_rfl) rfl (fun K hK => ?_))
  refine Bx.mk ?_
  go_simp
  refine (newBuilder_c c.inputs c.next.length F w2.drew hi0 hi4 (by omega) (by omega) HFF.out).mono ?_
  rintro e w3 ⟨bb, mb, lv, ls, rfl, hu3, hls, hE3⟩
  have HLS := Lib.hid hls
  clear hls
  have hS1 := held_mk ((Ext.drew w2).trans hE3)
  clear hS0
  (refine hK _ _ hS1 ?_; clear hK K; (try simp only [Act.put, List.setIfInBounds_toArray, List.set_cons_zero, List.set_cons_succ]))
  (refine wpAnyT_lastB 10 (by kernel_rfl) rfl (by decide) (by kernel_rfl) (fun K hK => ?_))
  refine Bx.mk ?_
  go_simp
  (refine hK _ _ ?_; clear hK K; (try simp only [Act.put, List.setIfInBounds_toArray, List.set_cons_zero, List.set_cons_succ]))
  have hu3 : Bu w3 w2.heap.size bb mb F [] [] (.slice none 0 0) lv ls := hu3
  have E3 := (Ext.drew w2).trans hE3
  clear hS1 hE3 b0 b1 b2 b3
  go_wp2_with fail
  refine (ownLits_c b c p w3 (hb2.ext E3) hi0 (by omega) (by omega) F HF.out).mono ?_
  rintro e w4 ⟨mv, rfl, hm4, hE4⟩
  have hu4 := hu3.ext hE4
  have E4 := E3.trans hE4
  have s3 := E3.size
  have hB4 : BuL w4 w2.heap.size bb mb F [] (.slice none 0 0) lv ls mv (own0 F) := by
    refine ⟨hu4, by rw [HLS.out]; simp, by rw [own0_length]; exact ownsRow_base hm4 s3, fun k hk hS => ?_⟩
    have h1 := (hm4.lt k hk).1
    have h2 := (buS_lt hu3 hS).1
    omega
  obtain ⟨ma0, mc0, rfl, _⟩ := ownsRow_row hm4
  obtain ⟨_, b0, b1, b2, b3⟩ := hb2.ext E4
  clear hu3 hu4 hE4 hm4
  go_wp2_with fail
  go_loopw [5, 29] (fun u5 u29 wr => ∃ (k : Nat) (gv lv : Value) (ls : List Int) (ma : Option Addr) (mc : Nat), k ≤ c.gates.length ∧ u29 = .int .i64 k ∧ u5 = .slice ma (F + k) mc ∧ BuL wr w2.heap.size bb mb F (bState true c k).1 gv lv ls (.slice ma (F + k) mc) (bState true c k).2 ∧ Ext w2 wr) (fun _ i _ => c.gates.length - (intOf i).toNat)
  case atStart =>
    refine ⟨0, .slice none 0 0, lv, ls, ma0, mc0, Nat.zero_le _, rfl, rfl, ?_, E4⟩
    have e : bState true c 0 = ([], own0 F) := by show ([], own0 c.first.toNat) = _; rw [HF.out]; rfl
    rw [e]; exact hB4
  case round =>
    clear b0 b1 b2 b3 hB4 E4
    obtain ⟨k, gv, lv2, ls2, ma, mc, hk, rfl, rfl, hB, hE⟩ := hrel
    have ok := bState_ok VV.out true k hk
    have okl := ok.ml
    rw [HF.out] at okl
    have okg := ok.gl
    have hbE := hb2.ext hE
    have hKE := hK.ext hE
    by_cases hlt : k < c.gates.length
    · obtain ⟨b9, o9, hag, hb9, hg1, hg2⟩ := (hc.ext (E2.trans hE)).gs.get (by omega)
      have q1 := hg1 k hlt
      have q2 := hg2 k hlt
      have hv := VV.out.gs k hlt
      have hst := bState_succ true c k hlt
      rw [HF.out] at hv hst
      have l1 := ok.lit (l := (c.gates.getD k (0, 0)).1) (by rw [HF.out]; exact hv.1)
      have l2 := ok.lit (l := (c.gates.getD k (0, 0)).2) (by rw [HF.out]; exact hv.2)
      rw [HF.out, litB_iff'] at l1 l2
      rw [litB_iff', litB_iff'] at hv
      obtain ⟨⟨va1, va2⟩, vb1, vb2⟩ := hv
      have okm : ∀ v, v < F + k → ∃ x, (bState true c k).2[v]? = some x ∧ (bState true c k).2.getD v 0 = x ∧ 0 ≤ x ∧ x ≤ 1000 := by
        intro v hvv
        have hin : v < (bState true c k).2.length := by omega
        have := ok.ms _ (getD_mem (d := 0) hin)
        rw [HF.out, litB_iff'] at this
        exact ⟨_, by rw [List.getD_eq_getElem?_getD, List.getElem?_eq_getElem hin]; rfl, rfl, by omega, by omega⟩
      obtain ⟨gs, hgs⟩ : ∃ gs, gs = (bState true c k).1 := ⟨_, rfl⟩
      obtain ⟨ms, hms⟩ : ∃ ms, ms = (bState true c k).2 := ⟨_, rfl⟩
      have hgm : bState true c k = (gs, ms) := by rw [hgs, hms]
      rw [hgm] at hst
      rw [← hms] at l1 l2 okm okl hB
      rw [← hgs] at l1 l2 okg hB
      obtain ⟨gx, hgx⟩ : ∃ x, x = (c.gates.getD k (0, 0)).1 := ⟨_, rfl⟩
      obtain ⟨gy, hgy⟩ : ∃ x, x = (c.gates.getD k (0, 0)).2 := ⟨_, rfl⟩
      have hst2 : bState true c (k + 1) = bStep true F (gs, ms) ((gx, gy), (usedV c).getD k false) := by rw [hst, hgx, hgy]
      rw [← hgx] at q1 l1 va1 va2
      rw [← hgy] at q2 l2 vb1 vb2
      obtain ⟨mx, hmx⟩ : ∃ x, x = mapL ms gx := ⟨_, rfl⟩
      obtain ⟨my, hmy⟩ : ∃ x, x = mapL ms gy := ⟨_, rfl⟩
      rw [← hmx] at l1
      rw [← hmy] at l2
      obtain ⟨ex, hex, hex2, hex3, hex4⟩ := okm (gx / 2).toNat (by omega)
      obtain ⟨ey, hey, hey2, hey3, hey4⟩ := okm (gy / 2).toNat (by omega)
      have hxa := xor_bit ex gx hex3 (by omega)
      have hya := xor_bit ey gy hey3 (by omega)
      have hxm : xorL ex gx = mx := by rw [hmx]; unfold mapL; rw [hex2]
      have hym : xorL ey gy = my := by rw [hmy]; unfold mapL; rw [hey2]
      rw [hxm] at hxa
      rw [hym] at hya
      have hxb := band1 gx va1 (by omega)
      have hyb := band1 gy vb1 (by omega)
      have hml : ms.length = F + k := by omega
      have HML := Lib.hid hml
      have HMX := Lib.hid hmx
      have HMY := Lib.hid hmy
      have HST := Lib.hid hst2
      have hmr := hB.m
      rw [hml] at hmr
      obtain ⟨lb, hlb, hlb1, hlb2⟩ := ownsRow_block hmr (by omega)
      subst hlb
      have r1 := ownsRow_cell hmr (j := (gx / 2).toNat) (u := .int .i64 ex) (by rw [List.getElem?_map, hex]; rfl)
      have r2 := ownsRow_cell hmr (j := (gy / 2).toNat) (u := .int .i64 ey) (by rw [List.getElem?_map, hey]; rfl)
      have hug : us.getD (F + k) false = (usedV c).getD k false := by rw [← HUS.out, drop_getD2]
      have hku : us[F + k]? = some (us.getD (F + k) false) := by rw [List.getD_eq_getElem?_getD, List.getElem?_eq_getElem (by rw [HUL.out]; omega)]; rfl
      have kc := hKE.cell (i := F + k) (u := .bool (us.getD (F + k) false)) (by rw [List.getElem?_map, hku]; rfl)
      rw [hug] at kc
      have hKlt := hKE.lt
      have sE := hE.size
      have ic : ((F : Int) + (k : Int)).toNat = F + k := by omega
      have ia : 0 ≤ gx / 2 ∧ gx / 2 < ((F : Int) + k) := by omega
      have ib : 0 ≤ gy / 2 ∧ gy / 2 < ((F : Int) + k) := by omega
      have hta : IntKind.i64.wrap (gx.tdiv 2) = gx / 2 := by rw [Int.tdiv_eq_ediv_of_nonneg va1]; exact IntWalk.i64_in _ (by omega)
      have htb : IntKind.i64.wrap (gy.tdiv 2) = gy / 2 := by rw [Int.tdiv_eq_ediv_of_nonneg vb1]; exact IntWalk.i64_in _ (by omega)
      obtain ⟨_, b0, b1, b2, b3⟩ := (id hbE)
      rw [hag] at b2
      have HAG := Lib.hid hag
      rw [hag]
      obtain ⟨l11, l12⟩ := l1
      obtain ⟨l21, l22⟩ := l2
      have HEX := Lib.hid hex
      have HEY := Lib.hid hey
      clear hg1 hg2 hst hst2 hgs hms hgm hgx hgy hmx hmy hex hex2 hey hey2 hxm hym hml hug hku okm ok okl hag
      go_wp2_with fail
      refine (firstGate_c b c p _ (hbE.ext (by (repeat (first | with_reducible assumption | with_reducible exact Ext.refl _ | with_reducible refine Ext.drew' ?_ | with_reducible refine Ext.drewN' ?_ _ | with_reducible refine Ext.alloc ?_ _ | (with_reducible refine Ext.setNew ?_ (by first | exact Nat.le_refl _ | (simp; done) | (simp; omega) | omega) _))))) hi0 (by omega) (by omega)).mono ?_
      rw [HF.out]
      rintro e w9 ⟨rfl, nn3, rfl⟩
      have eZ : Ext wr ((wr.alloc (.cells #[.int .i64 gx, .int .i64 gy] 46)).drewN nn3) := ((Ext.refl wr).alloc _).drewN' nn3
      cases hu : (usedV c).getD k false
      · rw [hu] at kc
        have HS2 : Hid (bState true c (k + 1) = (gs, ms ++ [0])) := Lib.hid (by rw [HST.out, hu]; rfl)
        clear hu
        have hBZ := hB.ext eZ
        have hmZ := hBZ.m
        have hzZ : ((wr.alloc (.cells #[.int .i64 gx, .int .i64 gy] 46)).drewN nn3).heap.size = wr.heap.size + 1 := by simp
        have kc := (World.cell?_of_block (a := ⟨KB, F + k, none⟩) (Below.block eZ KB hKlt)).trans kc
        obtain ⟨WQ, hWQ⟩ : ∃ W, W = ((wr.alloc (.cells #[.int .i64 gx, .int .i64 gy] 46)).drewN nn3) := ⟨_, rfl⟩
        rw [← hWQ] at hBZ hmZ hzZ eZ kc ⊢
        have hE7 := hE.trans eZ
        rw [HML.out] at hmZ
        have hoA := ownsRow_ext hmZ ((Ext.refl WQ).alloc (.cells #[.int .i64 0] 3))
        have hrA : RowAt (WQ.alloc (.cells #[.int .i64 0] 3)) (some ⟨WQ.heap.size, 0, none⟩) [.int .i64 0] := RowAt.new WQ #[.int .i64 0] 3
        have hsA : w2.heap.size ≤ (WQ.alloc (.cells #[.int .i64 0] 3)).heap.size := by simp; omega
        have hnA : F + k + 1 ≤ 1073741824 := by omega
        have hBA := Lib.hid (hBZ.ext ((Ext.refl WQ).alloc (.cells #[.int .i64 0] 3)))
        clear hWQ hB hBZ hmr hmZ hzZ r1 r2 q1 q2 b0 b1 b2 b3
        go_wp2_with (at_builtin; refine wpList_app tyInts hoA hrA rfl (oneCell_int1 _) hnA hsA rfl rfl rfl rfl ?_; intro v9 w9 o9 g9 m9; obtain ⟨a9, c9, rfl, _⟩ := ownsRow_row o9)
        go_roundw
        case rel =>
          refine ⟨k + 1, gv, lv2, ls2, a9, c9, by omega, by go_num, rfl, ?_, ext_grown (hE7.alloc _) g9 (fun l hl => (hoA.lt l hl).1)⟩
          rw [HS2.out]
          exact hBA.out.app g9 m9 (by rw [HML.out]) o9
        case measure => simp [intOf]; omega
      · rw [hu] at kc
        have HS2 : Hid (bState true c (k + 1) = ((andG F gs mx my).1, ms ++ [(andG F gs mx my).2])) := Lib.hid (by rw [HST.out, hu, HMX.out, HMY.out]; rfl)
        clear hu
        obtain ⟨R, hR⟩ : ∃ R, R = andG F gs mx my := ⟨_, rfl⟩
        rw [← hR] at HS2
        have HR := Lib.hid hR
        have hgb := Blk.ext (Blk.at wr [.int .i64 gx, .int .i64 gy] 46 rfl) (Ext.drewN _ nn3)
        have hBZ := hB.ext eZ
        have t0 := hgb.cell (i := 0) rfl
        have t1 := hgb.cell (i := 1) rfl
        have r3 := (World.cell?_of_block (a := ⟨lb, (gx / 2).toNat, none⟩) (Below.block eZ lb hlb2)).trans r1
        have r4 := (World.cell?_of_block (a := ⟨lb, (gy / 2).toNat, none⟩) (Below.block eZ lb hlb2)).trans r2
        have sZ : wr.heap.size < ((wr.alloc (.cells #[.int .i64 gx, .int .i64 gy] 46)).drewN nn3).heap.size := by simp
        have hE7 := hE.trans eZ
        have hnb : ¬ BuS bb mb gv lv2 wr.heap.size := fun hS => by have := (buS_lt hB.bu hS).1; omega
        have hnl : ¬ BuS bb mb gv lv2 lb := hB.mS lb rfl
        have HNS := Lib.hid (And.intro hnb hnl)
        have kc := (World.cell?_of_block (a := ⟨KB, F + k, none⟩) (Below.block eZ KB hKlt)).trans kc
        obtain ⟨WQ, hWQ⟩ : ∃ W, W = ((wr.alloc (.cells #[.int .i64 gx, .int .i64 gy] 46)).drewN nn3) := ⟨_, rfl⟩
        rw [← hWQ] at hBZ hgb t0 t1 r3 r4 sZ eZ hE7 kc ⊢
        have HBZ := Lib.hid hBZ
        clear hWQ hB hBZ hmr r1 r2 q1 q2 b0 b1 b2 b3 hR hnb hnl
        go_wp2_with fail
        refine wp_regionT (fun w' => w'.cell? ⟨wr.heap.size, 0, none⟩ = some (.int .i64 gx) ∧ w'.cell? ⟨wr.heap.size, 1, none⟩ = some (.int .i64 gy) ∧ w'.cell? ⟨lb, (gx / 2).toNat, none⟩ = some (.int .i64 ex) ∧ w'.cell? ⟨lb, (gy / 2).toNat, none⟩ = some (.int .i64 ey)) 22 (by kernel_rfl) ?_
        have hS0 : WQ.drew.cell? ⟨wr.heap.size, 0, none⟩ = some (.int .i64 gx) ∧ WQ.drew.cell? ⟨wr.heap.size, 1, none⟩ = some (.int .i64 gy) ∧ WQ.drew.cell? ⟨lb, (gx / 2).toNat, none⟩ = some (.int .i64 ex) ∧ WQ.drew.cell? ⟨lb, (gy / 2).toNat, none⟩ = some (.int .i64 ey) := ⟨t0, t1, r3, r4⟩
        ((refine wpAnyT_take 0 (v := ?_) rfl (by kernel_rfl) (fun _ _ _ h => h) (Or.inl ⟨by kernel_rfl, ?_⟩) (by assumption) ?_; rotate_left; (intro wS hSw; (try dsimp only at hSw); go_simp; (try with_reducible rfl)); (try simp only [Act.put, List.setIfInBounds_toArray, List.set_cons_zero, List.set_cons_succ])); (refine wpAnyT_take 1 (v := ?_) rfl (by kernel_rfl) (fun _ _ _ h => h) (Or.inl ⟨by kernel_rfl, ?_⟩) (by assumption) ?_; rotate_left; (intro wS hSw; (try dsimp only at hSw); go_simp; (try with_reducible rfl)); (try simp only [Act.put, List.setIfInBounds_toArray, List.set_cons_zero, List.set_cons_succ])); (refine wpAnyT_take 2 (v := ?_) rfl (by kernel_rfl) (fun _ _ _ h => h) (Or.inl ⟨by kernel_rfl, ?_⟩) (by assumption) ?_; rotate_left; (intro wS hSw; (try dsimp only at hSw); go_simp; (try with_reducible rfl)); (try simp only [Act.put, List.setIfInBounds_toArray, List.set_cons_zero, List.set_cons_succ])); (refine wpAnyT_take 3 (v := ?_) rfl (by kernel_rfl) (fun _ _ _ h => h) (Or.inl ⟨by kernel_rfl, ?_⟩) (by assumption) ?_; rotate_left; (intro wS hSw; (try dsimp only at hSw); go_simp; (try with_reducible rfl)); (try simp only [Act.put, List.setIfInBounds_toArray, List.set_cons_zero, List.set_cons_succ])); (refine wpAnyT_take 4 (v := ?_) rfl (by kernel_rfl) (fun _ _ _ h => h) (Or.inl ⟨by kernel_rfl, ?_⟩) (by assumption) ?_; rotate_left; (intro wS hSw; (try dsimp only at hSw); go_simp; (try with_reducible rfl)); (try simp only [Act.put, List.setIfInBounds_toArray, List.set_cons_zero, List.set_cons_succ])); (refine wpAnyT_take 5 (v := ?_) rfl (by kernel_rfl) (fun _ _ _ h => h) (Or.inl ⟨by kernel_rfl, ?_⟩) (by assumption) ?_; rotate_left; (intro wS hSw; (try dsimp only at hSw); go_simp; (try with_reducible rfl)); (try simp only [Act.put, List.setIfInBounds_toArray, List.set_cons_zero, List.set_cons_succ])); (refine wpAnyT_take 6 (v := ?_) rfl (by kernel_rfl) (fun _ _ _ h => h) (Or.inl ⟨by kernel_rfl, ?_⟩) (by assumption) ?_; rotate_left; (intro wS hSw; (try dsimp only at hSw); go_simp; (try with_reducible rfl)); (try simp only [Act.put, List.setIfInBounds_toArray, List.set_cons_zero, List.set_cons_succ])); (refine wpAnyT_take 7 (v := ?_) rfl (by kernel_rfl) (fun _ _ _ h => h) (Or.inl ⟨by kernel_rfl, ?_⟩) (by assumption) ?_; rotate_left; (intro wS hSw; (try dsimp only at hSw); go_simp; (try with_reducible rfl)); (try simp only [Act.put, List.setIfInBounds_toArray, List.set_cons_zero, List.set_cons_succ])); (refine wpAnyT_take 8 (v := ?_) rfl (by kernel_rfl) (fun _ _ _ h => h) (Or.inl ⟨by kernel_rfl, ?_⟩) (by assumption) ?_; rotate_left; (intro wS hSw; (try dsimp only at hSw); go_simp; (try with_reducible rfl)); (try simp only [Act.put, List.setIfInBounds_toArray, List.set_cons_zero, List.set_cons_succ])); (refine wpAnyT_take 9 (v := ?_) rfl (by kernel_rfl) (fun _ _ _ h => h) (Or.inl ⟨by kernel_rfl, ?_⟩) (by assumption) ?_; rotate_left; (intro wS hSw; (try dsimp only at hSw); go_simp; (try with_reducible rfl)); (try simp only [Act.put, List.setIfInBounds_toArray, List.set_cons_zero, List.set_cons_succ])); (refine wpAnyT_take 10 (v := ?_) rfl (by kernel_rfl) (fun _ _ _ h => h) (Or.inl ⟨by kernel_rfl, ?_⟩) (by assumption) ?_; rotate_left; (intro wS hSw; (try dsimp only at hSw); go_simp; (try with_reducible rfl)); (try simp only [Act.put, List.setIfInBounds_toArray, List.set_cons_zero, List.set_cons_succ])); (refine wpAnyT_take 11 (v := ?_) rfl (by kernel_rfl) (fun _ _ _ h => h) (Or.inl ⟨by kernel_rfl, ?_⟩) (by assumption) ?_; rotate_left; (intro wS hSw; (try dsimp only at hSw); go_simp; (try with_reducible rfl)); (try simp only [Act.put, List.setIfInBounds_toArray, List.set_cons_zero, List.set_cons_succ])); (refine wpAnyT_take 12 (v := ?_) rfl (by kernel_rfl) (fun _ _ _ h => h) (Or.inl ⟨by kernel_rfl, ?_⟩) (by assumption) ?_; rotate_left; (intro wS hSw; (try dsimp only at hSw); go_simp; (try with_reducible rfl)); (try simp only [Act.put, List.setIfInBounds_toArray, List.set_cons_zero, List.set_cons_succ])); (refine wpAnyT_take 13 (v := ?_) rfl (by kernel_rfl) (fun _ _ _ h => h) (Or.inl ⟨by kernel_rfl, ?_⟩) (by assumption) ?_; rotate_left; (intro wS hSw; (try dsimp only at hSw); go_simp; (try with_reducible rfl)); (try simp only [Act.put, List.setIfInBounds_toArray, List.set_cons_zero, List.set_cons_succ])); (refine wpAnyT_take 14 (v := ?_) rfl (by kernel_rfl) (fun _ _ _ h => h) (Or.inl ⟨by kernel_rfl, ?_⟩) (by assumption) ?_; rotate_left; (intro wS hSw; (try dsimp only at hSw); go_simp; (try with_reducible rfl)); (try simp only [Act.put, List.setIfInBounds_toArray, List.set_cons_zero, List.set_cons_succ])); (refine wpAnyT_take 15 (v := ?_) rfl (by kernel_rfl) (fun _ _ _ h => h) (Or.inl ⟨by kernel_rfl, ?_⟩) (by assumption) ?_; rotate_left; (intro wS hSw; (try dsimp only at hSw); go_simp; (try with_reducible rfl)); (try simp only [Act.put, List.setIfInBounds_toArray, List.set_cons_zero, List.set_cons_succ])); (refine wpAnyT_take 16 (v := ?_) rfl (by kernel_rfl) (fun _ _ _ h => h) (Or.inl ⟨by kernel_rfl, ?_⟩) (by assumption) ?_; rotate_left; (intro wS hSw; (try dsimp only at hSw); go_simp; (try with_reducible rfl)); (try simp only [Act.put, List.setIfInBounds_toArray, List.set_cons_zero, List.set_cons_succ])); (refine wpAnyT_take 17 (v := ?_) rfl (by kernel_rfl) (fun _ _ _ h => h) (Or.inl ⟨by kernel_rfl, ?_⟩) (by assumption) ?_; rotate_left; (intro wS hSw; (try dsimp only at hSw); go_simp; (try with_reducible rfl)); (try simp only [Act.put, List.setIfInBounds_toArray, List.set_cons_zero, List.set_cons_succ])); (refine wpAnyT_take 18 (v := ?_) rfl (by kernel_rfl) (fun _ _ _ h => h) (Or.inl ⟨by kernel_rfl, ?_⟩) (by assumption) ?_; rotate_left; (intro wS hSw; (try dsimp only at hSw); go_simp; (try with_reducible rfl)); (try simp only [Act.put, List.setIfInBounds_toArray, List.set_cons_zero, List.set_cons_succ])); (refine wpAnyT_take 19 (v := ?_) rfl (by kernel_rfl) (fun _ _ _ h => h) (Or.inl ⟨by kernel_rfl, ?_⟩) (by assumption) ?_; rotate_left; (intro wS hSw; (try dsimp only at hSw); go_simp; (try with_reducible rfl)); (try simp only [Act.put, List.setIfInBounds_toArray, List.set_cons_zero, List.set_cons_succ])); (refine wpAnyT_take 20 (v := ?_) rfl (by kernel_rfl) (fun _ _ _ h => h) (Or.inl ⟨by kernel_rfl, ?_⟩) (by assumption) ?_; rotate_left; (intro wS hSw; (try dsimp only at hSw); go_simp; (try with_reducible rfl)); (try simp only [Act.put, List.setIfInBounds_toArray, List.set_cons_zero, List.set_cons_succ])))
        (refine wpAnyT_doB 21 (by kernel_rfl) rfl (fun K hK => ?_))
        refine Bx.mk ?_
        go_simp
        have hBd := HBZ.out.ext (Ext.drew WQ)
        refine (and_c WQ.drew w2.heap.size bb mb F gs gv lv2 ls2 mx my hBd.bu (by show w2.heap.size ≤ WQ.heap.size; omega) (by omega) hBd.ll (by omega) l11 l21 l12 l22).mono ?_
        rw [← HR.out]
        rintro e w10 ⟨gv', lv', ls', rfl, hu', hl', mg', ml', hC'⟩
        have hS1 := And.intro ((World.cell?_of_block (a := ⟨wr.heap.size, 0, none⟩) (hC'.block _ sZ HNS.out.1)).trans t0) (And.intro ((World.cell?_of_block (a := ⟨wr.heap.size, 1, none⟩) (hC'.block _ sZ HNS.out.1)).trans t1) (And.intro ((World.cell?_of_block (a := ⟨lb, (gx / 2).toNat, none⟩) (hC'.block lb (by show lb < WQ.heap.size; omega) HNS.out.2)).trans r3) ((World.cell?_of_block (a := ⟨lb, (gy / 2).toNat, none⟩) (hC'.block lb (by show lb < WQ.heap.size; omega) HNS.out.2)).trans r4)))
        have hB10 := hBd.and hu' hl' mg' ml' hC'
        have hE10 : Ext w2 w10 := hC'.behind (hE7.trans (Ext.drew WQ)) (fun j hj hS => by have := (buS_lt hBd.bu hS).2; omega)
        clear hS0 hBd hu' hl' mg' ml' hC'
        (refine hK _ _ hS1 ?_; clear hK K; (try simp only [Act.put, List.setIfInBounds_toArray, List.set_cons_zero, List.set_cons_succ]))
        (refine wpAnyT_lastB 22 (by kernel_rfl) rfl (by decide) (by kernel_rfl) (fun K hK => ?_))
        refine Bx.mk ?_
        go_simp
        (refine hK _ _ ?_; clear hK K; (try simp only [Act.put, List.setIfInBounds_toArray, List.set_cons_zero, List.set_cons_succ]))
        have hm10 := hB10.m
        rw [HML.out] at hm10
        have s10 := hE10.size
        obtain ⟨R1, R2v⟩ := R
        dsimp only at HS2 hB10
        have hoA := ownsRow_ext hm10 ((Ext.refl w10).alloc (.cells #[.int .i64 R2v] 3))
        have hrA : RowAt (w10.alloc (.cells #[.int .i64 R2v] 3)) (some ⟨w10.heap.size, 0, none⟩) [.int .i64 R2v] := RowAt.new w10 #[.int .i64 R2v] 3
        have hsA : w2.heap.size ≤ (w10.alloc (.cells #[.int .i64 R2v] 3)).heap.size := by simp; omega
        have hnA : F + k + 1 ≤ 1073741824 := by omega
        have hBA := Lib.hid (hB10.ext ((Ext.refl w10).alloc (.cells #[.int .i64 R2v] 3)))
        clear hS1 hB10 hm10 t0 t1 r3 r4 hgb
        go_wp2_with (at_builtin; refine wpList_app tyInts hoA hrA rfl (oneCell_int1 _) hnA hsA rfl rfl rfl rfl ?_; intro v9 w9 o9 g9 m9; obtain ⟨a9, c9, rfl, _⟩ := ownsRow_row o9)
        go_roundw
        case rel =>
          refine ⟨k + 1, gv', lv', ls', a9, c9, by omega, by go_num, rfl, ?_, ext_grown (hE10.alloc _) g9 (fun l hl => (hoA.lt l hl).1)⟩
          rw [HS2.out]
          exact hBA.out.app g9 m9 (by rw [HML.out]) o9
        case measure => simp [intOf]; omega
    · have hk2 : k = c.gates.length := by omega
      subst hk2
      obtain ⟨gs, hgs⟩ : ∃ gs, gs = (bState true c c.gates.length).1 := ⟨_, rfl⟩
      obtain ⟨ms, hms⟩ : ∃ ms, ms = (bState true c c.gates.length).2 := ⟨_, rfl⟩
      have okm := ok.ms
      rw [HF.out, ← hgs, ← hms] at okm
      rw [← hms] at okl hB
      rw [← hgs] at okg hB
      have hd : buildV true c = ⟨c.inputs, c.next.map (mapL ms), gs, c.outs.map (mapL ms)⟩ := by unfold buildV; rw [← bState_all, ← hgs, ← hms]
      have V2 := buildV_valid VV.out true
      have HD0 := Lib.hid hd
      rw [hd] at V2
      have hml : ms.length = F + c.gates.length := by omega
      have hmr := hB.m
      rw [hml] at hmr
      obtain ⟨ga, gc, rfl, _⟩ := ownsRow_row hB.bu.gs
      have hcall := buCircuit_c b c p wr hbE (hc.ext (E2.trans hE)) VV.out w2.heap.size bb mb F gs gs (.slice ga gs.length gc) lv2 ls2 hB.bu ma mc (F + c.gates.length) ms hml (intsAt_of_row (ownsRow_at hmr)) (by omega)
        (fun x hx => by have := okm x hx; rw [litB_iff'] at this; omega) (by rw [HVV.out]; omega)
      obtain ⟨D2, hD2⟩ : ∃ D : Circ, D = ⟨c.inputs, c.next.map (mapL ms), gs, c.outs.map (mapL ms)⟩ := ⟨_, rfl⟩
      rw [← hD2] at V2
      have HD2 := Lib.hid hD2
      have HV2 := Lib.hid V2
      have hbu := Lib.hid hB.bu
      clear hgs hms okm okl hd V2 hml hmr ok hD2 hB
      go_wp2_with fail
      refine hcall.mono ?_
      rintro e w8 ⟨nv, ov, rfl, hn8, ho8, hno8, hE8⟩
      obtain ⟨na, nc, rfl, _⟩ := ownsRow_row hn8
      obtain ⟨oa, oc, rfl, _⟩ := ownsRow_row ho8
      have hE9 := (hE.trans hE8).alloc (.cells #[.int .i64 c.inputs, .slice na c.next.length nc, .slice ga gs.length gc, .slice oa c.outs.length oc] 26)
      have eA : Ext w8 (w8.alloc (.cells #[.int .i64 c.inputs, .slice na c.next.length nc, .slice ga gs.length gc, .slice oa c.outs.length oc] 26)) := (Ext.refl w8).alloc _
      have bx : Blk (w8.alloc (.cells #[.int .i64 c.inputs, .slice na c.next.length nc, .slice ga gs.length gc, .slice oa c.outs.length oc] 26)) w8.heap.size 26 [.int .i64 c.inputs, .slice na c.next.length nc, .slice ga gs.length gc, .slice oa c.outs.length oc] := Blk.at w8 _ _ rfl
      have box : CircBox (w8.alloc (.cells #[.int .i64 c.inputs, .slice na c.next.length nc, .slice ga gs.length gc, .slice oa c.outs.length oc] 26)) w8.heap.size D2 ⟨na, nc, ga, gc, oa, oc⟩ := by
        rw [HD2.out]
        exact ⟨bx.lt, bx.cell (i := 0) rfl, by rw [List.length_map]; exact bx.cell (i := 1) rfl, bx.cell (i := 2) rfl, by rw [List.length_map]; exact bx.cell (i := 3) rfl⟩
      have hC8 : CircAt (w8.alloc (.cells #[.int .i64 c.inputs, .slice na c.next.length nc, .slice ga gs.length gc, .slice oa c.outs.length oc] 26)) D2 ⟨na, nc, ga, gc, oa, oc⟩ := by
        rw [HD2.out]
        exact ⟨(intsAt_of_row (ownsRow_at hn8)).ext eA, (pairsAt_of_row (ownsRow_at (hbu.out.ext hE8).gs)).ext eA, (intsAt_of_row (ownsRow_at ho8)).ext eA, by simp; omega, by dsimp only; omega, by simp; omega⟩
      have hcall2 := pruned_c w8.heap.size D2 ⟨na, nc, ga, gc, oa, oc⟩ _ box hC8 HV2.out
      have V3 := buildV_valid HV2.out false
      have R9 := (R2.ext (hE.trans hE8)).ext eA
      clear bx box hC8 hn8 ho8 hcall
      go_wp2_with fail
      refine hcall2.mono ?_
      obtain ⟨D3, hD3⟩ : ∃ D, D = buildV false D2 := ⟨_, rfl⟩
      have HD3 := Lib.hid hD3
      rw [← hD3] at V3 ⊢
      rintro e w9 ⟨nv, gv, ov, rfl, o9, hE10⟩
      obtain ⟨p9, rfl, rfl, rfl, _⟩ := o9.opened (by have := V3.ln; omega) (by have := V3.lg; omega) (by have := V3.lo; omega)
      have R10 := R9.ext hE10
      (have e0 := R10.cell (i := 0) rfl; have e1 := R10.cell (i := 1) rfl; have e2 := R10.cell (i := 2) rfl; have e3 := R10.cell (i := 3) rfl; have ef := (fun i => R10.frozen i))
      have E10 := E2.trans (hE9.trans hE10)
      have s9 := (E2.trans hE9).size
      have s9b : w.heap.size < (w8.alloc (.cells #[.int .i64 c.inputs, .slice na c.next.length nc, .slice ga gs.length gc, .slice oa c.outs.length oc] 26)).heap.size := by have := (hE.trans hE8).size; simp; omega
      clear hcall2 V3 hD3 R10 R9 hE10
      go_wp2
      refine bodyPost_ret (v := .agg #[.int .i64 D3.inputs, .slice p9.an D3.next.length p9.cn, .slice p9.ag D3.gates.length p9.cg, .slice p9.ao D3.outs.length p9.co]) (by simp [results, Try.results53, go_sem, e0, e1, e2, e3]) rfl ?_
      rw [HD0.out, ← HD2.out, ← HD3.out]
      exact ⟨_, _, _, rfl, ((((o9.set s9b 0 _).set s9b 1 _).set s9b 2 _).set s9b 3 _).le (by omega), ext_set4 E10 (Nat.le_refl _)⟩
set_option maxHeartbeats 4000000 in
theorem implOptimize_c (c : Circ) (p : Where3) (w : World) (hc : CircAt w c p) :
    Calls Try.prog 24 #[.agg #[.int .i64 c.inputs, .slice p.an c.next.length p.cn, .slice p.ag c.gates.length p.cg, .slice p.ao c.outs.length p.co]] w (GiveC w (optV c)) := by
  have made := CircBox.made w c p 26
  have y0 := made.ext ((Ext.refl _).alloc (.cells #[.int .i64 0, .slice none 0 0, .slice none 0 0, .slice none 0 0] 26))
  have r0 := Blk.at (w.alloc (.cells #[.int .i64 c.inputs, .slice p.an c.next.length p.cn, .slice p.ag c.gates.length p.cg, .slice p.ao c.outs.length p.co] 26)) [.int .i64 0, .slice none 0 0, .slice none 0 0, .slice none 0 0] 26 (B := w.heap.size + 1) (by simp)
  have E0 : Ext w ((w.alloc (.cells #[.int .i64 c.inputs, .slice p.an c.next.length p.cn, .slice p.ag c.gates.length p.cg, .slice p.ao c.outs.length p.co] 26)).alloc (.cells #[.int .i64 0, .slice none 0 0, .slice none 0 0, .slice none 0 0] 26)) := ((Ext.refl w).alloc _).alloc _
  have z0 : ((w.alloc (.cells #[.int .i64 c.inputs, .slice p.an c.next.length p.cn, .slice p.ag c.gates.length p.cg, .slice p.ao c.outs.length p.co] 26)).alloc (.cells #[.int .i64 0, .slice none 0 0, .slice none 0 0, .slice none 0 0] 26)).heap.size = w.heap.size + 2 := by simp
  clear made
  have HO := Lib.hid (show optV c = (if validB c then buildV false (buildV true c) else ⟨0, [], [], []⟩) from rfl)
  (obtain ⟨lb, b0, b1, b2, b3⟩ := (id y0))
  go_enter Try.func24, Try.ntmps24
  go_wp2_with fail
  generalize ((w.alloc (.cells #[.int .i64 c.inputs, .slice p.an c.next.length p.cn, .slice p.ag c.gates.length p.cg, .slice p.ao c.outs.length p.co] 26)).alloc (.cells #[.int .i64 0, .slice none 0 0, .slice none 0 0, .slice none 0 0] 26)) = W0 at *
  have hc0 := hc.ext E0
  refine (implCircuitValid_c c p _ hc0).mono ?_
  rintro e w1 ⟨rfl, hE1⟩
  have y1 := y0.ext hE1
  have r1 := r0.ext hE1
  have E1 := E0.trans hE1
  have s1 := hE1.size
  clear b0 b1 b2 b3 lb
  (obtain ⟨lb, b0, b1, b2, b3⟩ := (id y1))
  cases hv : validB c
  · rw [hv] at HO
    (have e0 := r1.cell (i := 0) rfl; have e1 := r1.cell (i := 1) rfl; have e2 := r1.cell (i := 2) rfl; have e3 := r1.cell (i := 3) rfl; have ef := (fun i => r1.frozen i))
    go_wp2
    refine bodyPost_ret (v := .agg #[.int .i64 0, .slice none 0 0, .slice none 0 0, .slice none 0 0]) (by simp [results, Try.results24, go_sem, e0, e1, e2, e3]) rfl ?_
    rw [HO.out]
    exact ⟨_, _, _, rfl, OwnC.nil, ext_set4 E1 (Nat.le_succ _)⟩
  · rw [hv] at HO
    have V := validB_iff.1 hv
    have V3 := buildV_valid (buildV_valid V true) false
    have hcall := optimize_c w.heap.size c p w1 y1 (hc0.ext hE1) V
    go_wp2_with fail
    refine hcall.mono ?_
    rintro e w3 ⟨nv, gv, ov, rfl, o3, hE3⟩
    have E3 := E1.trans hE3
    have s3 := hE3.size
    have r3 := r1.ext hE3
    (have e0 := r3.cell (i := 0) rfl; have e1 := r3.cell (i := 1) rfl; have e2 := r3.cell (i := 2) rfl; have e3 := r3.cell (i := 3) rfl; have ef := (fun i => r3.frozen i))
    simp only [if_true] at HO
    rw [← HO.out]
    rw [← HO.out] at o3 V3
    generalize optV c = d at *
    obtain ⟨p3, rfl, rfl, rfl, _⟩ := o3.opened (by have := V3.ln; omega) (by have := V3.lg; omega) (by have := V3.lo; omega)
    clear V3 HO hE1 hE3 r1 r3 y1 b0 b1 b2 b3 lb hcall
    go_wp2
    refine bodyPost_ret (v := .agg #[.int .i64 d.inputs, .slice p3.an d.next.length p3.cn, .slice p3.ag d.gates.length p3.cg, .slice p3.ao d.outs.length p3.co]) (by simp [results, Try.results24, go_sem, e0, e1, e2, e3]) rfl ?_
    exact ⟨_, _, _, rfl, ((((o3.set (by omega) 0 _).set (by omega) 1 _).set (by omega) 2 _).set (by omega) 3 _).le (by omega), ext_set4 E3 (Nat.le_succ _)⟩
end Go.Proofs.Ytpfhlodlefcomaa
