/- Bundle: the reference's test for cycles. -/
import Derived.Test.YtkdiniaddnhkdaaAcy0
import Derived.Test.YtkdiniaddnhkdaaConfN
import Derived.Test.YtkdiniaddnhkdaaBEnc
import Derived.Test.YtkdiniaddnhkdaaRegion2
import Derived.Deep.DeepCutAuto
import Derived.Test.YtkdiniaddnhkdaaConfR
namespace Go.Proofs.Ytkdiniaddnhkdaa
open Go.RowKit
set_option maxRecDepth 100000
set_option linter.unusedVariables false
set_option linter.unusedSimpArgs false
def rowM (m : Marks) (t : Nat) : List Value := (List.range 8).map (fun c => Value.int .i64 (m (t * 8 + c)))
theorem rowM_get (m : Marks) (t : Nat) {c : Nat} (h : c < 8) : (rowM m t)[c]? = some (.int .i64 (m (t * 8 + c))) := by simp [rowM, h]
theorem rowM_set (m : Marks) (t : Nat) {c : Nat} (h : c < 8) (v : Int) : (rowM m t).set c (.int .i64 v) = rowM (upd m (t * 8 + c) v) t := by
  apply List.ext_getElem?
  intro i
  rw [List.getElem?_set]
  rcases Nat.lt_or_ge i 8 with hi | hi
  · rw [rowM_get _ _ hi]
    by_cases e : c = i
    · subst e; simp [rowM, h, upd_same]
    · rw [if_neg e, rowM_get _ _ hi, upd_ne _ _ (by omega)]
  · have hn : ∀ m : Marks, (rowM m t)[i]? = none := fun m => List.getElem?_eq_none (by simp [rowM]; omega)
    rw [hn, hn, if_neg (by omega)]
theorem rowM_other (m : Marks) {t t' c : Nat} (h : t' ≠ t) (hc : c < 8) (v : Int) : rowM (upd m (t * 8 + c) v) t' = rowM m t' := by
  unfold rowM
  apply List.map_congr_left
  intro i hi
  rw [List.mem_range] at hi
  rw [upd_ne _ _ (by omega)]
/-- The marks as the reference keeps them: one row for each tile. -/
structure MkR (w : World) (rb : Nat) (bs : Nat → Nat) (m : Marks) : Prop where
  row : ∀ t, t < 25 → w.cell? ⟨rb, t, none⟩ = some (.slice (some ⟨bs t, 0, none⟩) 8 8)
  blk : ∀ t, t < 25 → Blk w (bs t) 3 (rowM m t)
structure Rbs (w0 : World) (rb : Nat) (bs : Nat → Nat) : Prop where
  lo : ∀ t, t < 25 → w0.heap.size ≤ bs t
  inj : ∀ t t', t < 25 → t' < 25 → bs t = bs t' → t = t'
  off : ∀ t, t < 25 → bs t ≠ rb
def RbS (bs : Nat → Nat) (q : Nat) : Prop := ∃ t, t < 25 ∧ q = bs t
section
variable {w0 w w' : World} {rb : Nat} {bs : Nat → Nat} {m : Marks}
theorem MkR.rbl (h : MkR w rb bs m) : rb < w.heap.size := cell_lt (h.row 0 (by decide))
theorem MkR.bl (h : MkR w rb bs m) {t : Nat} (ht : t < 25) : bs t < w.heap.size := (h.blk t ht).lt
theorem MkR.cell (h : MkR w rb bs m) {t c : Nat} (ht : t < 25) (hc : c < 8) : w.cell? ⟨bs t, c, none⟩ = some (.int .i64 (m (t * 8 + c))) := (h.blk t ht).cell (rowM_get m t hc)
theorem MkR.ext (h : MkR w rb bs m) (e : Ext w w') : MkR w' rb bs m := ⟨fun t ht => ((ecell e).1 rb _ h.rbl).trans (h.row t ht), fun t ht => (h.blk t ht).ext e⟩
theorem MkR.set (h : MkR w rb bs m) (r : Rbs w0 rb bs) {t c : Nat} (ht : t < 25) (hc : c < 8) (v : Int) : MkR (w.setCell ⟨bs t, c, none⟩ (.int .i64 v)) rb bs (upd m (t * 8 + c) v) := by
  refine ⟨fun t' ht' => ?_, fun t' ht' => ?_⟩
  · rw [World.cell?_of_block (a := ⟨rb, t', none⟩) (heap_setCell_other w ⟨bs t, c, none⟩ rb _ (fun e => r.off t ht e.symm))]
    exact h.row t' ht'
  · by_cases e : t' = t
    · subst e
      rw [← rowM_set m t' hc]
      exact (h.blk t' ht).set c _
    · rw [rowM_other m e hc]
      exact (h.blk t' ht').setOther (fun e2 => e (r.inj t' t ht' ht e2)) _
theorem OnlyIn.extR (h : OnlyIn (RbS bs) w w') (r : Rbs w0 rb bs) (e : Ext w0 w) : Ext w0 w' :=
  ⟨h.os.trans (Below.os e), h.tape.trans (Below.tape e), h.output.trans (Below.output e), Nat.le_trans e.size h.size, fun k hk => (h.block k (Nat.lt_of_lt_of_le hk e.size) (fun ⟨t, ht, hq⟩ => by have := r.lo t ht; omega)).trans (Below.block e k hk)⟩
theorem Blk.onlyR {S : Nat → Prop} {B : Nat} {t : TypeId} {cs : List Value} (h : Blk w B t cs) (hm : OnlyIn S w w') (hr : ¬ S B) : Blk w' B t cs := (hm.block B h.lt hr).trans h
end
/-- What a visit gives back. -/
def MarkPost (bs : Nat → Nat) (rb : Nat) (w : World) (R : Bool × Marks) (e : Ending) (w' : World) : Prop := e = .returned (.bool R.1) ∧ MkR w' rb bs R.2 ∧ OnlyIn (RbS bs) w w'
section
variable (k : Conf) (ta pa : Option Addr) (tc pc mc rb : Nat) (bs : Nat → Nat) (w0 : World)
def MarkIH (n : Nat) : Prop := ∀ (m : Marks) (x : Wire) (w : World), x.Ok → zeros0 m 200 < n → MkR w rb bs m → Ext w0 w →
    Calls Try.prog 131 #[.agg #[.slice ta k.ts.length tc, .slice pa k.ps.length pc], .int .i64 x.1, .int .i64 x.2, .slice (some ⟨rb, 0, none⟩) 25 mc] w (MarkPost bs rb w (vis k n m x))
end
set_option maxHeartbeats 4000000 in
theorem l10Mark_c (k : Conf) (ta pa : Option Addr) (tc pc mc rb : Nat) (bs : Nat → Nat) (w0 : World) (hk : ConfAt w0 k ta pa) (hok : k.Ok) (r : Rbs w0 rb bs) : ∀ n, MarkIH k ta pa tc pc mc rb bs w0 n := by
  intro n
  induction n with
  | zero => intro m x w _ hz; exact absurd hz (Nat.not_lt_zero _)
  | succ n ih =>
    intro m ⟨t, c⟩ w hx hz hM hE
    have IH := Lib.hid ih
    clear ih
    have ht := hx.1
    have hc := hx.2
    dsimp only at ht hc
    dsimp only
    have q0 := hM.row t ht
    have q1 := hM.cell ht hc
    have rl := hM.rbl
    have bl := hM.bl ht
    by_cases h0 : m (Wire.ix (t, c)) = 0
    · have h0' : m (t * 8 + c) = 0 := h0
      have hzd := zeros0_dec m (t * 8 + c) 1 (by decide) h0' 200 (by omega)
      obtain ⟨b, o, rfl, hb, hcc⟩ := hk.ts.get (by rw [hok.lt]; omega)
      obtain ⟨sa, sc, da, dc, p0, p1, p2, p3, hsl, hdr⟩ := hcc t (by rw [hok.lt]; omega)
      have hot := tileB_iff.1 (hok.ts t ht)
      have hdv := hok.drv hx
      have hsel := hok.sel ht
      have hnbr := fun h2 h5 => hok.nb hx h2 h5
      have hneed : needW k (t, c) = if 2 ≤ drvAt k (t, c) ∧ drvAt k (t, c) ≤ 5 then [((nbV t (drvAt k (t, c))).toNat, c)] else if drvAt k (t, c) = 1 ∧ (tileAt k t).rg = false then selW t (tileAt k t).sl else [] := rfl
      obtain ⟨b2, o2, rfl, hb2, hd2⟩ := hdr.get (by rw [hot.ld]; omega)
      have p4 := hd2 c (by rw [hot.ld]; omega)
      have hss : ∀ j, j < 3 → trackB ((tileAt k t).sl.getD j 0) = true := hot.ss
      have ls := hot.ls
      have ld := hot.ld
      obtain ⟨d, hd⟩ : ∃ d, d = drvAt k (t, c) := ⟨_, rfl⟩
      have hd' : (tileAt k t).dr.getD c 0 = d := hd.symm
      have e1 : k.ts.getD t tile0 = tileAt k t := rfl
      rw [e1] at p0 p1 p2 p3 p4 hsl ls ld hd2
      rw [hd'] at p4
      have hdv2 : drvB t d = true := by rw [hd]; exact hdv
      rw [← hd] at hnbr hneed
      have hdlt := drv_lt hdv2
      clear hd hd' hcc hdr hot hdv hd2
      obtain ⟨x, hxx⟩ : ∃ x, x = tileAt k t := ⟨_, rfl⟩
      rw [← hxx] at p0 p1 p2 p3 hsl ls ld hsel hneed hss
      clear e1 hxx
      have lo := r.lo t ht
      have HL : Hid (k.ts.length = 25) := Lib.hid hok.lt
      obtain ⟨lt1, lt2⟩ : k.ts.length ≤ 25 ∧ 25 ≤ k.ts.length := by have := hok.lt; omega
      obtain ⟨ls1, ls2⟩ : x.sl.length ≤ 3 ∧ 3 ≤ x.sl.length := by omega
      obtain ⟨ld1, ld2⟩ : x.dr.length ≤ 8 ∧ 8 ≤ x.dr.length := by omega
      have ez := hE.size
      -- the marks, the boxes
      have y := Blk.at (w.setCell ⟨bs t, c, none⟩ (.int .i64 1)) [.slice (some ⟨b, o, none⟩) k.ts.length tc, .slice pa k.ps.length pc] 25 (B := w.heap.size) (by simp)
      have M1 := (hM.set r ht hc 1).ext ((Ext.refl _).alloc (.cells #[.slice (some ⟨b, o, none⟩) k.ts.length tc, .slice pa k.ps.length pc] 25))
      have G1 : OnlyIn (RbS bs) w ((w.setCell ⟨bs t, c, none⟩ (.int .i64 1)).alloc (.cells #[.slice (some ⟨b, o, none⟩) k.ts.length tc, .slice pa k.ps.length pc] 25)) := ((OnlyIn.refl w).setCell (p := ⟨bs t, c, none⟩) ⟨t, ht, rfl⟩ (.int .i64 1)).trans (OnlyIn.ofExt ((Ext.refl _).alloc _))
      have E1 := G1.extR r hE
      obtain ⟨V, hV⟩ : ∃ V, V = visL k n (needW k (t, c)) (upd m (t * 8 + c) 1) := ⟨_, rfl⟩
      have hvis : vis k (n + 1) m (t, c) = if V.1 then (true, upd V.2 (t * 8 + c) 2) else (false, V.2) := by
        have : V = visL k n (needW k (t, c)) (upd m (Wire.ix (t, c)) 1) := hV
        cases hVb : V with
        | mk bb mm =>
          rw [hVb] at this
          cases bb
          · rw [vis_bad h0 this.symm]; rfl
          · rw [vis_ok h0 this.symm]; rfl
      have HVIS := Lib.hid hvis
      rw [hneed] at hV
      have HV := Lib.hid hV
      have fz := (hM.blk t ht).frozen c
      have u1 : w.cell? ⟨bs t, c, none⟩ = some (.int .i64 0) := by rw [q1, h0']
      obtain ⟨R, hR⟩ : ∃ R, R = vis k (n + 1) m (t, c) := ⟨_, rfl⟩
      rw [← hR] at HVIS ⊢
      have HM := Lib.hid hM
      have HSS := Lib.hid hss
      have HNB := Lib.hid hnbr
      clear hV hvis hneed q1 h0 h0' hR hM hss hnbr hsel ls ld hdv2
      go_enter Try.func131, Try.ntmps131
      go_upto_region 4 with fail
      have zW : ((w.setCell ⟨bs t, c, none⟩ (.int .i64 1)).alloc (.cells #[.slice (some ⟨b, o, none⟩) k.ts.length tc, .slice pa k.ps.length pc] 25)).heap.size = w.heap.size + 1 := by simp
      generalize hW1 : (w.setCell ⟨bs t, c, none⟩ (.int .i64 1)).alloc (.cells #[.slice (some ⟨b, o, none⟩) k.ts.length tc, .slice pa k.ps.length pc] 25) = W1 at *
      replace p0 := ((ecell E1).1 b _ hb).trans p0
      replace p1 := ((ecell E1).1 b _ hb).trans p1
      replace p2 := ((ecell E1).1 b _ hb).trans p2
      replace p3 := ((ecell E1).1 b _ hb).trans p3
      replace p4 := ((ecell E1).1 b2 _ hb2).trans p4
      clear hW1 q0 u1 fz
      have hb2W := Nat.lt_of_lt_of_le hb2 E1.size
      have zW1 : w.heap.size < W1.heap.size := by omega
      have ZW := Lib.hid zW
      clear zW
      obtain ⟨B, hB⟩ : ∃ B, (decide (2 ≤ d) && decide (d ≤ 5)) = B := ⟨_, rfl⟩
      have y0 := y.cell (i := 0) rfl
      go_wp2_with fail
      refine (l1In_v d 2 5 B hB _).mono ?_
      rintro e w1 ⟨rfl, rfl⟩
      have HB := Lib.hid hB
      clear hB
      go_upto_if 46 with fail
      have yk := y.alloc (.cells #[.int .i64 x.tb, .slice sa x.sl.length sc, .bool x.rg, .slice (some ⟨b2, o2, none⟩) x.dr.length dc] 85)
      have yt := Blk.at W1 [.int .i64 x.tb, .slice sa x.sl.length sc, .bool x.rg, .slice (some ⟨b2, o2, none⟩) x.dr.length dc] 85 rfl
      have M2 := M1.ext ((Ext.refl W1).alloc (.cells #[.int .i64 x.tb, .slice sa x.sl.length sc, .bool x.rg, .slice (some ⟨b2, o2, none⟩) x.dr.length dc] 85))
      have G2 := G1.trans (OnlyIn.ofExt ((Ext.refl W1).alloc (.cells #[.int .i64 x.tb, .slice sa x.sl.length sc, .bool x.rg, .slice (some ⟨b2, o2, none⟩) x.dr.length dc] 85)))
      have E2 := E1.alloc (.cells #[.int .i64 x.tb, .slice sa x.sl.length sc, .bool x.rg, .slice (some ⟨b2, o2, none⟩) x.dr.length dc] 85)
      clear y M1 G1 E1 y0 p0 p1 p2 p3 p4
      generalize W1.alloc (.cells #[.int .i64 x.tb, .slice sa x.sl.length sc, .bool x.rg, .slice (some ⟨b2, o2, none⟩) x.dr.length dc] 85) = W2 at *
      go_cut [11] (fun sx wx => ∃ ok m2, sx = .bool ok ∧ Hid (V = if ok then visL k n (if B then [] else if d = 1 ∧ x.rg = false then selW t x.sl else []) m2 else (false, m2)) ∧ Hid (zeros0 m2 200 < n) ∧ MkR wx rb bs m2 ∧ Blk wx w.heap.size 25 [.slice (some ⟨b, o, none⟩) k.ts.length tc, .slice pa k.ps.length pc] ∧ Blk wx W1.heap.size 85 [.int .i64 x.tb, .slice sa x.sl.length sc, .bool x.rg, .slice (some ⟨b2, o2, none⟩) x.dr.length dc] ∧ OnlyIn (RbS bs) w wx)
      case first =>
        cases B
        · go_wp2
          go_meet
          case rel =>
            have h2 : ¬ (2 ≤ d ∧ d ≤ 5) := by have := HB.out; simp at this; omega
            exact ⟨true, _, rfl, Lib.hid (by rw [HV.out, if_neg h2]; rfl), Lib.hid (by omega), M2, yk, yt, G2⟩
        · have h2 : 2 ≤ d ∧ d ≤ 5 := by have := HB.out; simp at this; omega
          obtain ⟨h21, h22⟩ := h2
          obtain ⟨nb0, nb1⟩ := HNB.out h21 h22
          have NB := Lib.hid (fun w => l9Neighbour_c t ht d h21 h22 w)
          have hVV := HV.out
          rw [if_pos ⟨h21, h22⟩] at hVV
          obtain ⟨nb, hnb⟩ : ∃ nb : Nat, nbV t d = nb := ⟨(nbV t d).toNat, by omega⟩
          rw [hnb] at nb0 nb1 NB hVV
          rw [Int.toNat_natCast] at hVV
          have IHc := Lib.hid (IH.out (upd m (t * 8 + c) 1) (nb, c) W2.drew ⟨by dsimp only; omega, hc⟩ (by omega) (M2.ext (Ext.drew _)) (E2.drew'))
          obtain ⟨R2, hR2⟩ : ∃ R2, R2 = vis k n (upd m (t * 8 + c) 1) (nb, c) := ⟨_, rfl⟩
          rw [visL_cons, ← hR2] at hVV
          rw [← hR2] at IHc
          have hzR : zeros0 R2.2 200 < n := by have := vis_zeros k n (upd m (t * 8 + c) 1) (nb, c); rw [← hR2] at this; omega
          have HVV := Lib.hid hVV
          have HZR := Lib.hid hzR
          have c0 := yk.cell (i := 0) rfl
          have c1 := yk.cell (i := 1) rfl
          have cl := yk.lt
          obtain ⟨ok, m2⟩ := R2
          clear hVV hR2 hnb hzR
          go_wp2_with fail
          refine wp_regionT (fun w' => w'.cell? ⟨w.heap.size, 0, none⟩ = some (.slice (some ⟨b, o, none⟩) k.ts.length tc) ∧ w'.cell? ⟨w.heap.size, 1, none⟩ = some (.slice pa k.ps.length pc)) 6 (by kernel_rfl) ?_
          have hS0 := And.intro (a := W2.drew.cell? ⟨w.heap.size, 0, none⟩ = some (.slice (some ⟨b, o, none⟩) k.ts.length tc)) c0 c1
          ((refine wpAnyT_take 0 (v := ?_) rfl (by kernel_rfl) (fun _ _ _ h => h) (Or.inl ⟨by kernel_rfl, ?_⟩) (by assumption) ?_; rotate_left; (intro wS hSw; (try dsimp only at hSw); go_simp; (try with_reducible rfl)); (try simp only [Act.put, List.setIfInBounds_toArray, List.set_cons_zero, List.set_cons_succ])); (refine wpAnyT_take 1 (v := ?_) rfl (by kernel_rfl) (fun _ _ _ h => h) (Or.inl ⟨by kernel_rfl, ?_⟩) (by assumption) ?_; rotate_left; (intro wS hSw; (try dsimp only at hSw); go_simp; (try with_reducible rfl)); (try simp only [Act.put, List.setIfInBounds_toArray, List.set_cons_zero, List.set_cons_succ])); (refine wpAnyT_take 2 (v := ?_) rfl (by kernel_rfl) (fun _ _ _ h => h) (Or.inl ⟨by kernel_rfl, ?_⟩) (by assumption) ?_; rotate_left; (intro wS hSw; (try dsimp only at hSw); go_simp; (try with_reducible rfl)); (try simp only [Act.put, List.setIfInBounds_toArray, List.set_cons_zero, List.set_cons_succ])); (refine wpAnyT_take 4 (v := ?_) rfl (by kernel_rfl) (fun _ _ _ h => h) (Or.inl ⟨by kernel_rfl, ?_⟩) (by assumption) ?_; rotate_left; (intro wS hSw; (try dsimp only at hSw); go_simp; (try with_reducible rfl)); (try simp only [Act.put, List.setIfInBounds_toArray, List.set_cons_zero, List.set_cons_succ])); (refine wpAnyT_take 5 (v := ?_) rfl (by kernel_rfl) (fun _ _ _ h => h) (Or.inl ⟨by kernel_rfl, ?_⟩) (by assumption) ?_; rotate_left; (intro wS hSw; (try dsimp only at hSw); go_simp; (try with_reducible rfl)); (try simp only [Act.put, List.setIfInBounds_toArray, List.set_cons_zero, List.set_cons_succ])))
          (refine wpAnyT_do 3 (by kernel_rfl) rfl (fun K hK => ?_))
          go_simp
          refine (NB.out _).mono ?_
          rintro e w3 ⟨rfl, rfl⟩
          (refine hK _ _ hS0 ?_; clear hK K; (try simp only [Act.put, List.setIfInBounds_toArray, List.set_cons_zero, List.set_cons_succ]))
          (refine wpAnyT_doN 6 (by kernel_rfl) rfl (by decide) (fun K hK => ?_))
          go_simp
          refine IHc.out.mono ?_
          rintro e w4 ⟨rfl, M4, G4⟩
          (refine hK _ _ ?_; clear hK K; (try simp only [Act.put, List.setIfInBounds_toArray, List.set_cons_zero, List.set_cons_succ]))
          (refine wpAnyT_last 7 (by kernel_rfl) rfl (by decide) (by kernel_rfl) (fun K hK => ?_))
          go_simp
          (refine hK _ _ ?_; clear hK K; (try simp only [Act.put, List.setIfInBounds_toArray, List.set_cons_zero, List.set_cons_succ]))
          clear hS0 c0 c1
          have yk4 := (yk.ext (Ext.drew W2)).onlyR G4 (fun ⟨t', ht', hq⟩ => by have := HM.out.bl ht'; omega)
          have yt4 := (yt.ext (Ext.drew W2)).onlyR G4 (fun ⟨t', ht', hq⟩ => by have := HM.out.bl ht'; omega)
          have G5 := (G2.trans (OnlyIn.ofExt (Ext.drew W2))).trans G4
          go_wp2
          go_meet
          case rel =>
            refine ⟨ok, m2, rfl, Lib.hid ?_, HZR, M4, yk4, yt4, G5⟩
            rw [HVV.out]; cases ok <;> simp [visL_nil]
      case rest =>
        clear M2 yk yt G2 E2
        obtain ⟨ok, m2, rfl, hVo, hzo, M3, yk, yt, G3⟩ := hcut
        obtain ⟨W3, rfl⟩ : ∃ z : World, z = wc := ⟨_, rfl⟩
        have E3 := G3.extR r hE
        by_cases hD : d = 1 ∧ x.rg = false
        · obtain ⟨hd1, hrg⟩ := hD
          have hB0 : B = false := by rw [← HB.out, hd1]; rfl
          have hV1 : V = if ok then visL k n (selW t (x.sl.drop 0)) m2 else (false, m2) := by
            have := hVo.out
            rw [hB0, if_neg (by decide : ¬ (false = true)), if_pos (show d = 1 ∧ x.rg = false from ⟨hd1, hrg⟩)] at this
            exact this
          have HV1 := Lib.hid hV1
          have hdd : (d == 1) = true := by simp [hd1]
          have HRG := Lib.hid hrg
          clear hVo hV1 hB0 HV HNB hrg hd1
          go_wp2_with fail
          go_loopw [11, 12] (fun u11 u12 wr => ∃ (j : Nat) (ok : Bool) (m2 : Marks), j ≤ 3 ∧ u12 = .int .i64 j ∧ u11 = .bool ok ∧ Hid (V = if ok then visL k n (selW t (x.sl.drop j)) m2 else (false, m2)) ∧ Hid (zeros0 m2 200 < n) ∧ MkR wr rb bs m2 ∧ Blk wr w.heap.size 25 [.slice (some ⟨b, o, none⟩) k.ts.length tc, .slice pa k.ps.length pc] ∧ Blk wr W1.heap.size 85 [.int .i64 x.tb, .slice sa x.sl.length sc, .bool x.rg, .slice (some ⟨b2, o2, none⟩) x.dr.length dc] ∧ OnlyIn (RbS bs) w wr) (fun _ i _ => 3 - (intOf i).toNat)
          case atStart => exact ⟨0, ok, m2, Nat.zero_le _, rfl, rfl, HV1, hzo, M3, yk, yt, G3⟩
          case round =>
            clear M3 yk yt G3 E3 HV1 hzo
            obtain ⟨j, ok, m2, hj, rfl, rfl, hVj, hzj, M3, yk, yt, G3⟩ := hrel
            have E3 := G3.extR r hE
            have t1 := yt.cell (i := 1) rfl
            have t2 := yt.cell (i := 2) rfl
            rw [HRG.out] at t2
            have tl := yt.lt
            by_cases hlt : j < 3
            · obtain ⟨b3, o3, rfl, hb3, hc3⟩ := (hsl.ext E3).get (by omega)
              have q3 := hc3 j (by omega)
              have hjl : j < x.sl.length := by omega
              have hji : (j : Int) < (x.sl.length : Int) := by omega
              have htr := trackB_cases (HSS.out j hlt)
              have hdr : x.sl.drop j = x.sl.getD j 0 :: x.sl.drop (j + 1) := by
                rw [List.drop_eq_getElem_cons (by omega), List.getD_eq_getElem?_getD, List.getElem?_eq_getElem (by omega)]; rfl
              obtain ⟨s, hs⟩ : ∃ s, s = x.sl.getD j 0 := ⟨_, rfl⟩
              rw [← hs] at q3 htr hdr
              have hVV := hVj.out
              rw [hdr] at hVV
              clear hc3 hs hVj hdr
              by_cases h15 : s = 15
              · have hne : (s != 15) = false := by simp [h15]
                rw [h15, selW_skip] at hVV
                have HVV := Lib.hid hVV
                clear hVV h15 htr
                go_wp2
                go_roundw
                case rel => exact ⟨j + 1, ok, m2, by omega, by go_num, rfl, HVV, hzj, M3, yk, yt, G3⟩
                case measure => simp [intOf]; omega
              · have hne : (s != 15) = true := by simpa using h15
                obtain ⟨s0, s8⟩ : 0 ≤ s ∧ s < 8 := by omega
                rw [selW_take t _ h15] at hVV
                obtain ⟨w4, rfl⟩ : ∃ z : World, z = wr := ⟨_, rfl⟩
                cases ok
                · have HVV : Hid (V = (false, m2)) := Lib.hid hVV
                  clear hVV h15 htr
                  go_wp2_with fail
                  refine wp_regionT (fun w' => True) 12 (by kernel_rfl) ?_
                  have hS0 : True := trivial
                  ((refine wpAnyT_take 0 (v := ?_) rfl (by kernel_rfl) (fun _ _ _ h => h) (Or.inl ⟨by kernel_rfl, ?_⟩) (by assumption) ?_; rotate_left; (intro wS hSw; (try dsimp only at hSw); go_simp; (try with_reducible rfl)); (try simp only [Act.put, List.setIfInBounds_toArray, List.set_cons_zero, List.set_cons_succ])); (refine wpAnyT_take 1 (v := ?_) rfl (by kernel_rfl) (fun _ _ _ h => h) (Or.inl ⟨by kernel_rfl, ?_⟩) (by assumption) ?_; rotate_left; (intro wS hSw; (try dsimp only at hSw); go_simp; (try with_reducible rfl)); (try simp only [Act.put, List.setIfInBounds_toArray, List.set_cons_zero, List.set_cons_succ])))
                  ((refine wpAnyT_take 2 (v := undef) rfl (by kernel_rfl) (fun _ _ _ h => h) (Or.inr ⟨by kernel_rfl, rfl⟩) (by assumption) ?_; (try simp only [Act.put, List.setIfInBounds_toArray, List.set_cons_zero, List.set_cons_succ])); (refine wpAnyT_take 3 (v := undef) rfl (by kernel_rfl) (fun _ _ _ h => h) (Or.inr ⟨by kernel_rfl, rfl⟩) (by assumption) ?_; (try simp only [Act.put, List.setIfInBounds_toArray, List.set_cons_zero, List.set_cons_succ])); (refine wpAnyT_take 4 (v := undef) rfl (by kernel_rfl) (fun _ _ _ h => h) (Or.inr ⟨by kernel_rfl, rfl⟩) (by assumption) ?_; (try simp only [Act.put, List.setIfInBounds_toArray, List.set_cons_zero, List.set_cons_succ])); (refine wpAnyT_take 5 (v := undef) rfl (by kernel_rfl) (fun _ _ _ h => h) (Or.inr ⟨by kernel_rfl, rfl⟩) (by assumption) ?_; (try simp only [Act.put, List.setIfInBounds_toArray, List.set_cons_zero, List.set_cons_succ])); (refine wpAnyT_take 6 (v := undef) rfl (by kernel_rfl) (fun _ _ _ h => h) (Or.inr ⟨by kernel_rfl, rfl⟩) (by assumption) ?_; (try simp only [Act.put, List.setIfInBounds_toArray, List.set_cons_zero, List.set_cons_succ])); (refine wpAnyT_take 7 (v := undef) rfl (by kernel_rfl) (fun _ _ _ h => h) (Or.inr ⟨by kernel_rfl, rfl⟩) (by assumption) ?_; (try simp only [Act.put, List.setIfInBounds_toArray, List.set_cons_zero, List.set_cons_succ])); (refine wpAnyT_take 8 (v := undef) rfl (by kernel_rfl) (fun _ _ _ h => h) (Or.inr ⟨by kernel_rfl, rfl⟩) (by assumption) ?_; (try simp only [Act.put, List.setIfInBounds_toArray, List.set_cons_zero, List.set_cons_succ])); (refine wpAnyT_take 9 (v := undef) rfl (by kernel_rfl) (fun _ _ _ h => h) (Or.inr ⟨by kernel_rfl, rfl⟩) (by assumption) ?_; (try simp only [Act.put, List.setIfInBounds_toArray, List.set_cons_zero, List.set_cons_succ])); (refine wpAnyT_take 10 (v := undef) rfl (by kernel_rfl) (fun _ _ _ h => h) (Or.inr ⟨by kernel_rfl, rfl⟩) (by assumption) ?_; (try simp only [Act.put, List.setIfInBounds_toArray, List.set_cons_zero, List.set_cons_succ])))
                  ((refine wpAnyT_take 11 (v := ?_) rfl (by kernel_rfl) (fun _ _ _ h => h) (Or.inl ⟨by kernel_rfl, ?_⟩) (by assumption) ?_; rotate_left; (intro wS hSw; (try dsimp only at hSw); go_simp; (try with_reducible rfl)); (try simp only [Act.put, List.setIfInBounds_toArray, List.set_cons_zero, List.set_cons_succ])))
                  (refine wpAnyT_last 12 (by kernel_rfl) rfl (by decide) (by kernel_rfl) (fun K hK => ?_))
                  go_simp
                  (refine hK _ _ ?_; clear hK K; (try simp only [Act.put, List.setIfInBounds_toArray, List.set_cons_zero, List.set_cons_succ]))
                  clear hS0
                  go_wp2
                  go_roundw
                  case rel => exact ⟨j + 1, false, m2, by omega, by go_num, rfl, Lib.hid (by rw [HVV.out]; rfl), hzj, M3.ext (Ext.drew _), yk.ext (Ext.drew _), yt.ext (Ext.drew _), G3.trans (OnlyIn.ofExt (Ext.drew _))⟩
                  case measure => simp [intOf]; omega
                · obtain ⟨s', rfl⟩ : ∃ s' : Nat, s = s' := ⟨s.toNat, by omega⟩
                  rw [Int.toNat_natCast] at hVV
                  have hVV2 : V = visL k n ((t, s') :: selW t (x.sl.drop (j + 1))) m2 := hVV
                  have IHc := Lib.hid (IH.out m2 (t, s') w4.drew ⟨ht, by dsimp only; omega⟩ hzj.out (M3.ext (Ext.drew _)) (E3.drew'))
                  obtain ⟨R2, hR2⟩ : ∃ R2, R2 = vis k n m2 (t, s') := ⟨_, rfl⟩
                  rw [visL_cons, ← hR2] at hVV2
                  rw [← hR2] at IHc
                  have hzR : zeros0 R2.2 200 < n := by have := vis_zeros k n m2 (t, s'); rw [← hR2] at this; have := hzj.out; omega
                  have HVV := Lib.hid hVV2
                  have HZR := Lib.hid hzR
                  have c0 := yk.cell (i := 0) rfl
                  have c1 := yk.cell (i := 1) rfl
                  have cl := yk.lt
                  obtain ⟨ok, m3⟩ := R2
                  clear hVV hVV2 hR2 hzR h15 htr
                  go_wp2_with fail
                  refine wp_regionT (fun w' => w'.cell? ⟨w.heap.size, 0, none⟩ = some (.slice (some ⟨b, o, none⟩) k.ts.length tc) ∧ w'.cell? ⟨w.heap.size, 1, none⟩ = some (.slice pa k.ps.length pc) ∧ w'.cell? ⟨W1.heap.size, 1, none⟩ = some (.slice (some ⟨b3, o3, none⟩) x.sl.length sc) ∧ w'.cell? ⟨b3, o3 + j, none⟩ = some (.int .i64 s')) 10 (by kernel_rfl) ?_
                  have hS0 := And.intro (a := w4.drew.cell? ⟨w.heap.size, 0, none⟩ = some (.slice (some ⟨b, o, none⟩) k.ts.length tc)) c0 (And.intro (a := w4.drew.cell? ⟨w.heap.size, 1, none⟩ = some (.slice pa k.ps.length pc)) c1 (And.intro (a := w4.drew.cell? ⟨W1.heap.size, 1, none⟩ = some (.slice (some ⟨b3, o3, none⟩) x.sl.length sc)) t1 (show w4.drew.cell? ⟨b3, o3 + j, none⟩ = some (.int .i64 s') from q3)))
                  ((refine wpAnyT_take 0 (v := ?_) rfl (by kernel_rfl) (fun _ _ _ h => h) (Or.inl ⟨by kernel_rfl, ?_⟩) (by assumption) ?_; rotate_left; (intro wS hSw; (try dsimp only at hSw); go_simp; (try with_reducible rfl)); (try simp only [Act.put, List.setIfInBounds_toArray, List.set_cons_zero, List.set_cons_succ])); (refine wpAnyT_take 1 (v := ?_) rfl (by kernel_rfl) (fun _ _ _ h => h) (Or.inl ⟨by kernel_rfl, ?_⟩) (by assumption) ?_; rotate_left; (intro wS hSw; (try dsimp only at hSw); go_simp; (try with_reducible rfl)); (try simp only [Act.put, List.setIfInBounds_toArray, List.set_cons_zero, List.set_cons_succ])); (refine wpAnyT_take 2 (v := ?_) rfl (by kernel_rfl) (fun _ _ _ h => h) (Or.inl ⟨by kernel_rfl, ?_⟩) (by assumption) ?_; rotate_left; (intro wS hSw; (try dsimp only at hSw); go_simp; (try with_reducible rfl)); (try simp only [Act.put, List.setIfInBounds_toArray, List.set_cons_zero, List.set_cons_succ])); (refine wpAnyT_take 3 (v := ?_) rfl (by kernel_rfl) (fun _ _ _ h => h) (Or.inl ⟨by kernel_rfl, ?_⟩) (by assumption) ?_; rotate_left; (intro wS hSw; (try dsimp only at hSw); go_simp; (try with_reducible rfl)); (try simp only [Act.put, List.setIfInBounds_toArray, List.set_cons_zero, List.set_cons_succ])); (refine wpAnyT_take 4 (v := ?_) rfl (by kernel_rfl) (fun _ _ _ h => h) (Or.inl ⟨by kernel_rfl, ?_⟩) (by assumption) ?_; rotate_left; (intro wS hSw; (try dsimp only at hSw); go_simp; (try with_reducible rfl)); (try simp only [Act.put, List.setIfInBounds_toArray, List.set_cons_zero, List.set_cons_succ])); (refine wpAnyT_take 5 (v := ?_) rfl (by kernel_rfl) (fun _ _ _ h => h) (Or.inl ⟨by kernel_rfl, ?_⟩) (by assumption) ?_; rotate_left; (intro wS hSw; (try dsimp only at hSw); go_simp; (try with_reducible rfl)); (try simp only [Act.put, List.setIfInBounds_toArray, List.set_cons_zero, List.set_cons_succ])); (refine wpAnyT_take 6 (v := ?_) rfl (by kernel_rfl) (fun _ _ _ h => h) (Or.inl ⟨by kernel_rfl, ?_⟩) (by assumption) ?_; rotate_left; (intro wS hSw; (try dsimp only at hSw); go_simp; (try with_reducible rfl)); (try simp only [Act.put, List.setIfInBounds_toArray, List.set_cons_zero, List.set_cons_succ])))
                  ((refine wpAnyT_take 7 (v := ?_) rfl (by kernel_rfl) (fun _ _ _ h => h) (Or.inl ⟨by kernel_rfl, ?_⟩) (by assumption) ?_; rotate_left; (intro wS hSw; (try dsimp only at hSw); go_simp; (try with_reducible rfl)); (try simp only [Act.put, List.setIfInBounds_toArray, List.set_cons_zero, List.set_cons_succ])); (refine wpAnyT_take 8 (v := ?_) rfl (by kernel_rfl) (fun _ _ _ h => h) (Or.inl ⟨by kernel_rfl, ?_⟩) (by assumption) ?_; rotate_left; (intro wS hSw; (try dsimp only at hSw); go_simp; (try with_reducible rfl)); (try simp only [Act.put, List.setIfInBounds_toArray, List.set_cons_zero, List.set_cons_succ])); (refine wpAnyT_take 9 (v := ?_) rfl (by kernel_rfl) (fun _ _ _ h => h) (Or.inl ⟨by kernel_rfl, ?_⟩) (by assumption) ?_; rotate_left; (intro wS hSw; (try dsimp only at hSw); go_simp; (try with_reducible rfl)); (try simp only [Act.put, List.setIfInBounds_toArray, List.set_cons_zero, List.set_cons_succ])))
                  (refine wpAnyT_doN 10 (by kernel_rfl) rfl (by decide) (fun K hK => ?_))
                  go_simp
                  refine IHc.out.mono ?_
                  rintro e w5 ⟨rfl, M4, G4⟩
                  (refine hK _ _ ?_; clear hK K; (try simp only [Act.put, List.setIfInBounds_toArray, List.set_cons_zero, List.set_cons_succ]))
                  (refine wpAnyT_doN 11 (by kernel_rfl) rfl (by decide) (fun K hK => ?_))
                  go_simp
                  (refine hK _ _ ?_; clear hK K; (try simp only [Act.put, List.setIfInBounds_toArray, List.set_cons_zero, List.set_cons_succ]))
                  (refine wpAnyT_last 12 (by kernel_rfl) rfl (by decide) (by kernel_rfl) (fun K hK => ?_))
                  go_simp
                  (refine hK _ _ ?_; clear hK K; (try simp only [Act.put, List.setIfInBounds_toArray, List.set_cons_zero, List.set_cons_succ]))
                  clear hS0 c0 c1
                  have yk4 := (yk.ext (Ext.drew w4)).onlyR G4 (fun ⟨t', ht', hq⟩ => by have := HM.out.bl ht'; omega)
                  have yt4 := (yt.ext (Ext.drew w4)).onlyR G4 (fun ⟨t', ht', hq⟩ => by have := HM.out.bl ht'; omega)
                  have G5 := (G3.trans (OnlyIn.ofExt (Ext.drew w4))).trans G4
                  go_wp2
                  go_roundw
                  case rel => exact ⟨j + 1, ok, m3, by omega, by go_num, rfl, HVV, HZR, M4, yk4, yt4, G5⟩
                  case measure => simp [intOf]; omega
            · have hj3 : j = 3 := by omega
              subst hj3
              have hV3 : V = (ok, m2) := by
                rw [hVj.out, List.drop_of_length_le (by omega), selW_nil, visL_nil]; cases ok <;> rfl
              have HV3 := Lib.hid hV3
              clear hV3 hVj
              cases ok
              · have hRR : R = (false, m2) := by rw [HVIS.out, HV3.out]; rfl
                subst hRR
                go_wp2

                go_ret
                exact ⟨rfl, M3, G3⟩
              · have hRR : R = (true, upd m2 (t * 8 + c) 2) := by rw [HVIS.out, HV3.out]; rfl
                subst hRR
                have q0 := M3.row t ht
                have q1 := M3.cell ht hc
                have fz := (M3.blk t ht).frozen c
                have rl := M3.rbl
                have bl := M3.bl ht
                have M9 := Lib.hid (M3.set r ht hc 2)
                have G9 := Lib.hid (G3.setCell (p := ⟨bs t, c, none⟩) ⟨t, ht, rfl⟩ (.int .i64 2))
                clear HVIS
                go_wp2
                go_ret
                exact ⟨rfl, M9.out, G9.out⟩
        · have hV1 : V = (ok, m2) := by
            rw [hVo.out]
            cases B
            · rw [if_neg (by decide : ¬ (false = true)), if_neg hD, visL_nil]; cases ok <;> rfl
            · rw [if_pos rfl, visL_nil]; cases ok <;> rfl
          have HV3 := Lib.hid hV1
          have t2 := yt.cell (i := 2) rfl
          have tl := yt.lt
          have hcs : (d == 1) = false ∨ ((d == 1) = true ∧ x.rg = true) := by
            by_cases h1 : d = 1
            · right; refine ⟨by simp [h1], ?_⟩
              cases hr : x.rg
              · exact absurd ⟨h1, hr⟩ hD
              · rfl
            · left; simp [h1]
          clear hVo hV1 hD HV HNB
          go_wp2_with fail
          go_loopw [11, 12] (fun u11 u12 wr => u11 = .bool ok ∧ u12 = .int .i64 0 ∧ wr = W3) (fun _ _ _ => 0)
          case atStart => exact ⟨rfl, rfl, rfl⟩
          case round =>
            obtain ⟨rfl, rfl, rfl⟩ := hrel
            rcases hcs with hdd | ⟨hdd, hrg⟩
            · clear t2 tl
              cases ok
              · have hRR : R = (false, m2) := by rw [HVIS.out, HV3.out]; rfl
                subst hRR
                go_wp2
                go_ret
                exact ⟨rfl, M3, G3⟩
              · have hRR : R = (true, upd m2 (t * 8 + c) 2) := by rw [HVIS.out, HV3.out]; rfl
                subst hRR
                have q0 := M3.row t ht
                have q1 := M3.cell ht hc
                have fz := (M3.blk t ht).frozen c
                have rl := M3.rbl
                have bl := M3.bl ht
                have M9 := Lib.hid (M3.set r ht hc 2)
                have G9 := Lib.hid (G3.setCell (p := ⟨bs t, c, none⟩) ⟨t, ht, rfl⟩ (.int .i64 2))
                clear HVIS
                go_wp2
                go_ret
                exact ⟨rfl, M9.out, G9.out⟩
            · rw [hrg] at t2
              cases ok
              · have hRR : R = (false, m2) := by rw [HVIS.out, HV3.out]; rfl
                subst hRR
                go_wp2
                go_ret
                exact ⟨rfl, M3, G3⟩
              · have hRR : R = (true, upd m2 (t * 8 + c) 2) := by rw [HVIS.out, HV3.out]; rfl
                subst hRR
                have q0 := M3.row t ht
                have q1 := M3.cell ht hc
                have fz := (M3.blk t ht).frozen c
                have rl := M3.rbl
                have bl := M3.bl ht
                have M9 := Lib.hid (M3.set r ht hc 2)
                have G9 := Lib.hid (G3.setCell (p := ⟨bs t, c, none⟩) ⟨t, ht, rfl⟩ (.int .i64 2))
                clear HVIS
                go_wp2
                go_ret
                exact ⟨rfl, M9.out, G9.out⟩
    · rw [vis_seen h0]
      have h0' : m (t * 8 + c) ≠ 0 := h0
      obtain ⟨v, hv⟩ : ∃ v, v = m (t * 8 + c) := ⟨_, rfl⟩
      have hv2 : m (Wire.ix (t, c)) = v := hv.symm
      rw [hv2]
      rw [← hv] at q1 h0'
      have hne : (v != 0) = true := by simpa using h0'
      have HM := Lib.hid hM
      clear hv hv2 h0 hM h0'
      go_enter Try.func131, Try.ntmps131
      go_wp2
      go_ret
      exact ⟨rfl, HM.out.ext (by (repeat (first | with_reducible assumption | with_reducible exact Ext.refl _ | with_reducible refine Ext.drew' ?_ | with_reducible refine Ext.drewN' ?_ _ | with_reducible refine Ext.alloc ?_ _ | (with_reducible refine Ext.setNew ?_ (by first | exact Nat.le_refl _ | (simp; done) | (simp; omega) | omega) _)))), OnlyIn.ofExt (by (repeat (first | with_reducible assumption | with_reducible exact Ext.refl _ | with_reducible refine Ext.drew' ?_ | with_reducible refine Ext.drewN' ?_ _ | with_reducible refine Ext.alloc ?_ _ | (with_reducible refine Ext.setNew ?_ (by first | exact Nat.le_refl _ | (simp; done) | (simp; omega) | omega) _))))⟩
end Go.Proofs.Ytkdiniaddnhkdaa

namespace Go.Proofs.Ytkdiniaddnhkdaa
open Go.RowKit
set_option maxRecDepth 100000
set_option linter.unusedVariables false
set_option linter.unusedSimpArgs false
theorem tyRowsI : RowTy Try.prog 152 39 1 24 := RowTy.mk' (z := .slice none 0 0) Try.underlying152 (by kernel_rfl) rfl (by decide) (by decide)
def rowV (bs : Nat → Nat) (t : Nat) : Value := .slice (some ⟨bs t, 0, none⟩) 8 8
def rowsV (bs : Nat → Nat) (n : Nat) : List Value := (List.range n).map (rowV bs)
theorem rowsV_succ (bs : Nat → Nat) (n : Nat) : rowsV bs (n + 1) = rowsV bs n ++ [rowV bs n] := by simp [rowsV, List.range_succ]
theorem rowsV_congr {bs bs' : Nat → Nat} {n : Nat} (h : ∀ t, t < n → bs t = bs' t) : rowsV bs n = rowsV bs' n := by
  unfold rowsV
  apply List.map_congr_left
  intro t ht
  rw [List.mem_range] at ht
  unfold rowV; rw [h t ht]
/-- The rows that have been made so far. -/
structure MadeR (w wr : World) (v : Value) (bs : Nat → Nat) (n : Nat) : Prop where
  row : wr.ownsRow (w.heap.size + 1) 39 1 v n (rowsV bs n)
  blk : ∀ t, t < n → Blk wr (bs t) 3 ((List.replicate 8 (0 : Int)).map (Value.int .i64))
  lo : ∀ t, t < n → w.heap.size + 1 ≤ bs t
  inj : ∀ t t', t < n → t' < n → bs t = bs t' → t = t'
  off : ∀ t, t < n → v.ownBlock ≠ some (bs t)
theorem MadeR.app {w wr w1 w8 : World} {v v' : Value} {bs : Nat → Nat} {n : Nat} (h : MadeR w wr v bs n) (hE : Ext w wr) (hs : w.heap.size + 1 ≤ wr.heap.size) (e : Ext wr w1) (B : Nat) (hB : B = wr.heap.size) (hb : Blk w1 B 3 ((List.replicate 8 (0 : Int)).map (Value.int .i64)))
    (o8 : w8.ownsRow (w.heap.size + 1) 39 1 v' (n + 1) (rowsV bs n ++ [.slice (some ⟨B, 0, none⟩) 8 8])) (g8 : w1.grownBy w8 v.ownBlock) (m8 : RowMoved w1 v v') : ∃ bs', MadeR w w8 v' bs' (n + 1) := by
  refine ⟨fun t => if t = n then B else bs t, ?_, fun t ht => ?_, fun t ht => ?_, fun t t' ht ht' he => ?_, fun t ht => ?_⟩
  · rw [rowsV_succ, rowsV_congr (bs' := bs) (fun t ht => by show (if t = n then B else bs t) = bs t; rw [if_neg (by omega)])]
    simpa [rowV] using o8
  · have hl := h.row.lt
    by_cases e2 : t = n
    · simp only [e2, if_true]
      exact hb.gr g8 (fun q => by have := (hl _ q).2; omega)
    · simp only [e2, if_false]
      exact ((h.blk t (by omega)).ext e).gr g8 (h.off t (by omega))
  · by_cases e2 : t = n
    · simp only [e2, if_true]; omega
    · simp only [e2, if_false]; exact h.lo t (by omega)
  · by_cases e2 : t = n
    · by_cases e3 : t' = n
      · omega
      · simp only [e2, e3, if_true, if_false] at he
        have := (h.blk t' (by omega)).lt; omega
    · by_cases e3 : t' = n
      · simp only [e2, e3, if_true, if_false] at he
        have := (h.blk t (by omega)).lt; omega
      · simp only [e2, e3, if_false] at he
        exact h.inj t t' (by omega) (by omega) he
  · intro q
    have hlt : (if t = n then B else bs t) < w1.heap.size := by
      by_cases e2 : t = n
      · rw [if_pos e2]; exact hb.lt
      · rw [if_neg e2]; exact ((h.blk t (by omega)).ext e).lt
    rcases m8 with m | ⟨k, hk, hlt2⟩
    · rw [m] at q
      by_cases e2 : t = n
      · simp only [e2, if_true] at q
        have := (h.row.lt _ q).2; omega
      · simp only [e2, if_false] at q
        exact h.off t (by omega) q
    · rw [hk] at q
      have := Option.some.inj q
      omega
theorem rowM_zero (t : Nat) : rowM mark0 t = (List.replicate 8 (0 : Int)).map (Value.int .i64) := rfl
set_option maxHeartbeats 4000000 in
theorem l10Acyclic_c (k : Conf) (ta pa : Option Addr) (tc pc : Nat) (w : World) (hk : ConfAt w k ta pa) (hok : k.Ok) :
    Calls Try.prog 88 #[.agg #[.slice ta k.ts.length tc, .slice pa k.ps.length pc]] w fun e w' => e = .returned (.bool (visL k 201 (wiresFrom 0) mark0).1) ∧ Ext w w' := by
  have hm := make8
  have y := (Blk.at w [.slice ta k.ts.length tc, .slice pa k.ps.length pc] 25 rfl).alloc (.cells #[] 39)
  obtain ⟨V, hV⟩ : ∃ V, V = visL k 201 (wiresFrom 0) mark0 := ⟨_, rfl⟩
  rw [← hV]
  have HV := Lib.hid hV
  clear hV
  have O0 : MadeR w ((w.alloc (.cells #[.slice ta k.ts.length tc, .slice pa k.ps.length pc] 25)).alloc (.cells #[] 39)) (.slice (some ⟨w.heap.size + 1, 0, none⟩) 0 0) (fun _ => 0) 0 :=
    ⟨(Blk.at (w.alloc (.cells #[.slice ta k.ts.length tc, .slice pa k.ps.length pc] 25)) [] 39 (B := w.heap.size + 1) (by simp)).owns (n := 0) (size := 1) rfl (Nat.le_refl _) (by decide), fun t ht => absurd ht (Nat.not_lt_zero _), fun t ht => absurd ht (Nat.not_lt_zero _), fun t t' ht => absurd ht (Nat.not_lt_zero _), fun t ht => absurd ht (Nat.not_lt_zero _)⟩
  go_enter Try.func88, Try.ntmps88
  go_wp2_with fail
  go_loopw [3, 4] (fun u3 u4 wr => ∃ (j : Nat) (bs : Nat → Nat), j ≤ 25 ∧ u4 = .int .i64 j ∧ MadeR w wr u3 bs j ∧ Blk wr w.heap.size 25 [.slice ta k.ts.length tc, .slice pa k.ps.length pc] ∧ Ext w wr) (fun _ i _ => 25 - (intOf i).toNat)
  case atStart => exact ⟨0, _, Nat.zero_le _, rfl, O0, y, by (repeat (first | with_reducible assumption | with_reducible exact Ext.refl _ | with_reducible refine Ext.drew' ?_ | with_reducible refine Ext.drewN' ?_ _ | with_reducible refine Ext.alloc ?_ _ | (with_reducible refine Ext.setNew ?_ (by first | exact Nat.le_refl _ | (simp; done) | (simp; omega) | omega) _)))⟩
  case round =>
    clear O0 y
    obtain ⟨j, bs, hj, rfl, hO, y, hE⟩ := hrel
    by_cases hlt : j < 25
    · obtain ⟨w2, rfl⟩ : ∃ z : World, z = wr := ⟨_, rfl⟩
      have hz := y.lt
      have hb := Blk.at w2 ((List.replicate 8 (0 : Int)).map (Value.int .i64)) 3 rfl
      have A := (Ext.refl (w2.alloc (.cells ((List.replicate 8 (0 : Int)).map (Value.int .i64)).toArray 3))).alloc (.cells #[.slice (some ⟨w2.heap.size, 0, none⟩) 8 8] 39)
      have A2 : Ext w2 _ := ((Ext.refl w2).alloc (.cells ((List.replicate 8 (0 : Int)).map (Value.int .i64)).toArray 3)).trans A
      go_wp2_with (at_builtin; go_loud (refine wpList_app tyRowsI (ownsRow_ext hO.row A2) (rowAtN (w2.alloc (.cells ((List.replicate 8 (0 : Int)).map (Value.int .i64)).toArray 3)) #[.slice (some ⟨w2.heap.size, 0, none⟩) 8 8] _ (B := w2.heap.size + 1) (by simp)) rfl (by simp [Value.oneCell']) (by omega) (by simp; omega) rfl rfl rfl rfl ?_); intro v8 w8 o8 g8 m8)
      go_roundw
      case rel =>
        obtain ⟨bs', h'⟩ := hO.app hE (by omega) A2 w2.heap.size rfl (hb.ext A) o8 g8 m8
        exact ⟨j + 1, bs', by omega, by go_num, h', (y.ext A2).gr g8 (fun q => by have := (hO.row.lt _ q).1; omega), ext_grown (hE.trans A2) g8 (fun k hk => by have := (hO.row.lt _ hk).1; omega)⟩
      case measure => simp [intOf]; omega
    · have hj2 : j = 25 := by omega
      have hO : MadeR w wr u3 bs 25 := by rw [← hj2]; exact hO
      have hjI : ¬ (j : Int) < 25 := by omega
      clear hj2
      obtain ⟨rc0, rc1, rfl, _⟩ := ownsRow_row hO.row
      obtain ⟨rb, rfl, hrb, hrl⟩ := ownsRow_block hO.row (by decide)
      have r : Rbs w rb bs := ⟨fun t ht => by have := hO.lo t ht; omega, hO.inj, fun t ht e => hO.off t ht (by rw [e]; rfl)⟩
      have M0 : MkR wr rb bs mark0 := ⟨fun t ht => ownsRow_cell hO.row (by simp [rowsV, ht, rowV]), fun t ht => by rw [rowM_zero]; exact hO.blk t ht⟩
      have hbx : ∀ t, t < 25 → w.heap.size + 1 ≤ bs t := hO.lo
      have HBX := Lib.hid hbx
      have T1 := Lib.hid (l10Mark_c k ta pa tc pc rc1 rb bs w hk hok r 201)
      clear hO hbx hlt
      obtain ⟨w2, rfl⟩ : ∃ z : World, z = wr := ⟨_, rfl⟩
      go_wp2_with fail
      go_loopw [5] (fun u5 wr => ∃ (i : Nat) (m : Marks), i ≤ 25 ∧ u5 = .int .i64 i ∧ Hid (V = visL k 201 (wiresFrom (i * 8)) m) ∧ MkR wr rb bs m ∧ Blk wr w.heap.size 25 [.slice ta k.ts.length tc, .slice pa k.ps.length pc] ∧ Ext w wr) (fun i _ => 25 - (intOf i).toNat)
      case atStart => exact ⟨0, mark0, Nat.zero_le _, rfl, HV, M0, y, hE⟩
      case round =>
        clear M0 y hE HV
        obtain ⟨i, m, hi, rfl, hVi, M0, y, hE⟩ := hrel
        by_cases hlt : i < 25
        · obtain ⟨w2, rfl⟩ : ∃ z : World, z = wr := ⟨_, rfl⟩
          have hiI : (i : Int) < 25 := by omega
          go_wp2_with fail
          go_loopw [6] (fun u6 wr => ∃ (c : Nat) (m : Marks), c ≤ 8 ∧ u6 = .int .i64 c ∧ Hid (V = visL k 201 (wiresFrom (i * 8 + c)) m) ∧ MkR wr rb bs m ∧ Blk wr w.heap.size 25 [.slice ta k.ts.length tc, .slice pa k.ps.length pc] ∧ Ext w wr) (fun i _ => 8 - (intOf i).toNat)
          case atStart => exact ⟨0, m, Nat.zero_le _, rfl, hVi, M0, y, hE⟩
          case round =>
            clear M0 y hE hVi
            obtain ⟨c, m, hc, rfl, hVi, M0, y, hE⟩ := hrel
            by_cases hc8 : c < 8
            · have c0 := y.cell (i := 0) rfl
              have c1 := y.cell (i := 1) rfl
              have cl := y.lt
              have hcall := T1.out m (i, c) wr ⟨hlt, hc8⟩ (by have := zeros0_le m 200; omega) M0 hE
              have hVV := hVi.out
              have hwf : wireOf (i * 8 + c) = (i, c) := by simp only [wireOf]; congr 1 <;> omega
              rw [wiresFrom_cons (by omega), hwf, visL_cons] at hVV
              obtain ⟨R, hR⟩ : ∃ R, R = vis k 201 m (i, c) := ⟨_, rfl⟩
              rw [← hR] at hVV hcall
              obtain ⟨ok, m2⟩ := R
              have HVV := Lib.hid hVV
              have HC := Lib.hid hcall
              clear hVV hR hcall hwf hVi
              go_wp2_with fail
              refine HC.out.mono ?_
              rintro e w3 ⟨rfl, M3, G3⟩
              have y3 := y.onlyR G3 (fun ⟨t', ht', hq⟩ => by have := HBX.out t' ht'; omega)
              have E3 := G3.extR r hE
              cases ok
              · have hVf : V = (false, m2) := HVV.out
                subst hVf
                go_wp2
                go_ret
                exact ⟨rfl, E3⟩
              · have hVf : V = visL k 201 (wiresFrom (i * 8 + (c + 1))) m2 := HVV.out
                have HVF := Lib.hid hVf
                clear hVf c0 c1 cl
                go_wp2_with fail
                go_roundw
                case rel => exact ⟨c + 1, m2, by omega, by go_num, HVF, M3, y3, E3⟩
                case measure => simp [intOf]; omega
            · have hc9 : c = 8 := by omega
              subst hc9
              have hVf : V = visL k 201 (wiresFrom ((i + 1) * 8)) m := by rw [hVi.out]; congr 2; omega
              have HVF := Lib.hid hVf
              clear hVf hVi
              go_wp2
              go_roundw
              case rel => exact ⟨i + 1, m, by omega, by go_num, HVF, M0, y, hE⟩
              case measure => simp [intOf]; omega
        · have hi2 : i = 25 := by omega
          subst hi2
          have hVf : V = (true, m) := by rw [hVi.out, show 25 * 8 = 200 from rfl, wiresFrom_end, visL_nil]
          subst hVf
          go_wp2
          go_ret
          exact ⟨rfl, hE⟩
set_option maxHeartbeats 1000000 in
theorem specConfigAcyclic_c (k : Conf) (ta pa : Option Addr) (tc pc : Nat) (w : World) (hk : ConfAt w k ta pa) :
    Calls Try.prog 29 #[.agg #[.slice ta k.ts.length tc, .slice pa k.ps.length pc]] w fun e w' => e = .returned (.bool (acyV k)) ∧ Ext w w' := by
  have y := Blk.at w [.slice ta k.ts.length tc, .slice pa k.ps.length pc] 25 rfl
  have Ey : Ext w (w.alloc (.cells #[.slice ta k.ts.length tc, .slice pa k.ps.length pc] 25)) := (Ext.refl w).alloc _
  have T1 := Lib.hid (specConfigValid_c k ta pa tc pc)
  have HA : Hid (acyV k = (confB k && (visL k 201 (wiresFrom 0) mark0).1)) := Lib.hid rfl
  obtain ⟨A, hA⟩ : ∃ A, A = acyV k := ⟨_, rfl⟩
  rw [← hA] at HA ⊢
  clear hA
  cases hb : confB k
  · rw [hb] at T1 HA
    have hf : A = false := HA.out
    subst hf
    clear hb HA
    go_enter Try.func29, Try.ntmps29
    go_wp2_with fail
    refine (T1.out _ (hk.ext Ey)).mono ?_
    rintro e w1 ⟨rfl, hE1⟩
    go_wp2
    go_ret
    exact ⟨rfl, Ey.trans hE1⟩
  · rw [hb] at T1 HA
    have T2 := Lib.hid (fun w hk => l10Acyclic_c k ta pa tc pc w hk (confB_iff.1 hb))
    have hf : A = (visL k 201 (wiresFrom 0) mark0).1 := HA.out
    rw [← hf] at T2
    clear hb HA hf
    go_enter Try.func29, Try.ntmps29
    go_wp2_with fail
    refine (T1.out _ (hk.ext Ey)).mono ?_
    rintro e w1 ⟨rfl, hE1⟩
    have y1 := y.ext hE1
    have c0 := y1.cell (i := 0) rfl
    have c1 := y1.cell (i := 1) rfl
    have cl := y1.lt
    go_wp2_with fail
    refine (T2.out _ (hk.ext (Ey.trans hE1))).mono ?_
    rintro e w2 ⟨rfl, hE2⟩
    go_wp2
    go_ret
    exact ⟨rfl, (Ey.trans hE1).trans hE2⟩
end Go.Proofs.Ytkdiniaddnhkdaa

