/- The drawing of rows of truth values; of the arguments of Simulate and of a run. -/
import Derived.Test.YtpfhlodlefcomaaDrawB
import Derived.Test.YtpfhlodlefcomaaSim0
import Derived.Test.YtpfhlodlefcomaaRegion
namespace Go.Proofs.Ytpfhlodlefcomaa
open Go.RowKit
set_option maxRecDepth 100000
set_option linter.unusedVariables false
set_option linter.unusedSimpArgs false
section
variable {w w' w1 w2 : World} {base rb M : Nat} {bs : List Int} {v : Value} {vals : List Value} {xss : List (List Bool)}
theorem OwnR.drawn (h : OwnR w base v vals xss) (g : w.grownBy w' (some rb)) (hrb : rb < base) : OwnR w' base v vals xss := by
  refine { h with row := ownsRow_gr h.row g ?_, el := fun j hj => (h.el j hj).drawn g hrb }
  cases hb : v.ownBlock with
  | none => exact .inl rfl
  | some q => exact .inr (fun hh => by have := (h.row.lt q hb).1; have : q = rb := Option.some.inj hh; omega)
/-- 'out = append(out, row)', the old blocks below N and the row's own from N on. -/
theorem OwnR.snocN {u v' : Value} {x : List Bool} {n N : Nat} (h : OwnR w base v vals xss) (hlo : ∀ k, v.ownBlock = some k → k < N) (hel : ∀ j k, j < xss.length → (vals.getD j (.slice none 0 0)).ownBlock = some k → k < N) (hu : OwnB w base u x) (hN : ∀ k, u.ownBlock = some k → N ≤ k) (hg : w.grownBy w' v.ownBlock) (hm : RowMoved w v v')
    (hn : n = xss.length + 1) (ho : w'.ownsRow base 38 1 v' n (vals ++ [u])) : OwnR w' base v' (vals ++ [u]) (xss ++ [x]) := by
  subst hn
  have hl := h.len
  have old : ∀ j, j < xss.length → (vals ++ [u]).getD j (.slice none 0 0) = vals.getD j (.slice none 0 0) ∧ (xss ++ [x]).getD j [] = xss.getD j [] :=
    fun j hj => ⟨getD_append_left _ _ _ _ (by omega), getD_append_left _ _ _ _ hj⟩
  have new : (vals ++ [u]).getD xss.length (.slice none 0 0) = u ∧ (xss ++ [x]).getD xss.length [] = x := by
    refine ⟨?_, by simp [List.getD_eq_getElem?_getD]⟩
    rw [← hl]; simp [List.getD_eq_getElem?_getD]
  have ge : ∀ (z : Value), (∀ k, z.ownBlock = some k → v.ownBlock ≠ some k) → z.ownBlock = none ∨ z.ownBlock ≠ v.ownBlock := fun z hz => off_row hz
  have uv : ∀ k, u.ownBlock = some k → v.ownBlock ≠ some k := fun k hk hv => by have := hN k hk; have := hlo k hv; omega
  refine ⟨by simp [hl], by rw [List.length_append]; exact ho, fun j hj => ?_, fun j k hj hk => ?_, fun i j k hij hj hk => ?_⟩
  · rw [List.length_append, List.length_singleton] at hj
    by_cases hlt : j < xss.length
    · rw [(old j hlt).1, (old j hlt).2]
      exact ownsRow_gr (h.el j hlt) hg (ge _ (fun k hk => h.off j k hlt hk))
    · have : j = xss.length := by omega
      subst this
      rw [new.1, new.2]
      exact ownsRow_gr hu hg (ge _ uv)
  · rw [List.length_append, List.length_singleton] at hj
    by_cases hlt : j < xss.length
    · rw [(old j hlt).1] at hk
      rcases hm with em | ⟨q, em, hq⟩
      · rw [em]; exact h.off j k hlt hk
      · rw [em]; intro e2; have : q = k := Option.some.inj e2; have := ((h.el j hlt).lt2 k hk).2; omega
    · have : j = xss.length := by omega
      subst this
      rw [new.1] at hk
      rcases hm with em | ⟨q, em, hq⟩
      · rw [em]; exact uv k hk
      · rw [em]; intro e2; have : q = k := Option.some.inj e2; have := (hu.lt2 k hk).2; omega
  · rw [List.length_append, List.length_singleton] at hj
    have hi : i < xss.length := by omega
    rw [(old i hi).1] at hk
    by_cases hlt : j < xss.length
    · rw [(old j hlt).1]; exact h.dis i j k hij hlt hk
    · have : j = xss.length := by omega
      subst this
      rw [new.1]
      intro hu2
      have := hN k hu2
      have := hel i k hi hk
      omega
/-- Rows while they are drawn: they lie from 'base' on, behind the reader rb. -/
structure RInv (w : World) (base rb : Nat) (bs : List Int) (M n : Nat) (v : Value) (vals : List Value) (xss : List (List Bool)) (wr : World) : Prop where
  own : OwnR wr base v vals xss
  rd : Rdr wr rb bs M
  gr : w.grownBy wr (some rb)
  sm : ∀ r ∈ xss, r.length ≤ n
  lb : base ≤ wr.heap.size
theorem RInv.start (rd : Rdr w rb bs M) (n : Nat) : RInv w w.heap.size rb bs M n (.slice (some ⟨w.heap.size, 0, none⟩) 0 0) [] [] (w.alloc (.cells #[] 38)) :=
  ⟨⟨rfl, (Blk.at w [] 38 rfl).owns (n := 0) (size := 1) rfl (Nat.le_refl _) (by decide), fun j hj => by simp at hj, fun j k hj => by simp at hj, fun i j k _ hj => by simp at hj⟩, rd.ext ((Ext.refl w).alloc _), Gr.alloc (Gr.refl _ _) _, fun r hr => (by cases hr), by simp⟩
theorem RInv.draw {n : Nat} (h : RInv w base rb bs M n v vals xss w1) (hrb : rb < base) {M2 : Nat} (rd : Rdr w2 rb bs M2) (g : w1.grownBy w2 (some rb)) : RInv w base rb bs M2 n v vals xss w2 :=
  ⟨h.own.drawn g hrb, rd, Gr.trans h.gr g, h.sm, Nat.le_trans h.lb g.size⟩
theorem RInv.up {n m : Nat} (h : RInv w base rb bs M n v vals xss w1) (hm : n ≤ m) : RInv w base rb bs M m v vals xss w1 := { h with sm := fun r hr => Nat.le_trans (h.sm r hr) hm }
theorem RInv.mono {n M2 : Nat} (h : RInv w base rb bs M n v vals xss w1) (hm : M ≤ M2) : RInv w base rb bs M2 n v vals xss w1 := { h with rd := h.rd.mono hm }
/-- One row more. -/
theorem RInv.add {n m k : Nat} {u v' : Value} {x : List Bool} (h : RInv w base rb bs M n v vals xss w1) (hrb : rb < base) (hb : w.heap.size ≤ base) (hx : x.length ≤ n) (hu : OwnB w2 w1.heap.size u x) (rd : Rdr w2 rb bs m) (g : w1.grownBy w2 (some rb)) {o : Obj}
    (hg : (w2.alloc o).grownBy w' v.ownBlock) (hm : RowMoved (w2.alloc o) v v') (hn : k = xss.length + 1) (ho : w'.ownsRow base 38 1 v' k (vals ++ [u])) : RInv w base rb bs m n v' (vals ++ [u]) (xss ++ [x]) w' := by
  have vlt : ∀ k, v.ownBlock = some k → base ≤ k ∧ k < w1.heap.size := fun k hk => h.own.row.lt k hk
  have s1 := g.size
  have eA : Ext w2 (w2.alloc o) := (Ext.refl w2).alloc o
  have hO := (h.own.drawn g hrb).ext eA
  refine ⟨OwnR.snocN (N := w1.heap.size) hO (fun k hk => (vlt k hk).2) (fun j k hj hk => ((h.own.el j hj).lt2 k hk).2) ?_ (fun k hk => (hu.lt2 k hk).1) hg hm hn ho, ?_, ?_, ?_, ?_⟩
  · exact (OwnB.le hu h.lb).ext eA
  · exact (rd.ext eA).grn hg (fun k hk => by have := (vlt k hk).1; omega)
  · exact Gr.row (Gr.alloc (Gr.trans h.gr g) o) hg (fun k hk => by have := (vlt k hk).1; omega)
  · intro r hr
    rcases List.mem_append.1 hr with hr | hr
    · exact h.sm r hr
    · rw [List.mem_singleton] at hr; subst hr; exact hx
  · have := h.lb; have := eA.size; have := hg.size; omega
end
def DrawnR (w : World) (rb : Nat) (bs : List Int) (N n : Nat) (e : Ending) (w' : World) : Prop :=
  ∃ v vals xss, e = .returned v ∧ xss.length ≤ 11 ∧ (∀ r ∈ xss, r.length = n) ∧ RInv w w.heap.size rb bs (N + 1 + 11 * n) n v vals xss w'
set_option maxHeartbeats 1000000 in
theorem l20Rows_c (rb : Nat) (bs : List Int) (N n : Nat) (w : World) (hr : Rdr w rb bs N) (hN : N ≤ 100000) (hn : n ≤ 1000) :
    Calls Try.prog 42 #[.pointer (some ⟨rb, 0, none⟩), .int .i64 n] w (DrawnR w rb bs N n) := by
  have hrl := hr.lt
  have R0 := RInv.start hr n
  go_enter Try.func42, Try.ntmps42
  go_wp2_with fail
  refine (pick_c rb bs N 12 _ R0.rd (by omega) (by omega)).mono ?_
  rintro e w1 ⟨kk, rfl, k0, k1, hR1, hG1⟩
  have R1 := R0.draw hrl hR1 hG1
  go_wp2_with fail
  go_loopw [5, 6] (fun u5 u6 wr => ∃ (k : Nat) (vals : List Value) (xss : List (List Bool)), u6 = .int .i64 k ∧ xss.length + k ≤ 11 ∧ Hid (∀ r ∈ xss, r.length = n) ∧ RInv w w.heap.size rb bs (N + 1 + xss.length * n) n u5 vals xss wr) (fun _ i _ => (intOf i).toNat)
  case atStart => exact ⟨kk.toNat, [], [], by rw [Int.toNat_of_nonneg k0], by simp; omega, Lib.hid (fun r hr => by cases hr), by simpa using R1⟩
  case round =>
    obtain ⟨k, vals, xss, rfl, hl, hx, hI⟩ := hrel
    clear R0 R1 hR1 hG1
    by_cases hlt : 0 < k
    · have hmul : xss.length * n ≤ 11 * 1000 := Nat.mul_le_mul (by omega) hn
      go_wp2_with fail
      refine (l20Bools_c rb bs (N + 1 + xss.length * n) n _ hI.rd (by omega) (by omega)).mono ?_
      rintro e w2 hD2
      obtain ⟨a2, c2, xs, rfl, hxl, hO2, hR2, hG2⟩ := hD2.i
      have hlb := hI.lb
      have s2 := hG2.size
      have HXL := Lib.hid hxl
      have hx1 : xs.length ≤ n := by omega
      clear hxl hD2
      have hoA := ((hI.own.drawn hG2 hrl).ext ((Ext.refl w2).alloc (.cells #[.slice a2 xs.length c2] 38))).row
      go_wp2_with (at_builtin; refine wpList_app tyRows hoA (RowAt.new w2 #[.slice a2 xs.length c2] _) rfl (by simp [Value.oneCell']) (by omega) (by simp; omega) rfl rfl rfl rfl ?_; intro v3 w3 o3 g3 m3)
      go_roundw
      case rel =>
        have hI3 := hI.add hrl (Nat.le_refl _) (by omega) hO2 hR2 hG2 g3 m3 rfl (by exact o3)
        refine ⟨k - 1, vals ++ [.slice a2 xs.length c2], xss ++ [xs], by go_num, by simp; omega, Lib.hid (fun r hr => ?_), ?_⟩
        · rcases List.mem_append.1 hr with hr | hr
          · exact hx.out r hr
          · rw [List.mem_singleton] at hr; subst hr; exact HXL.out
        · have e : N + 1 + (xss ++ [xs]).length * n = N + 1 + xss.length * n + n := by simp [Nat.add_mul]; omega
          rw [e]; exact hI3
      case measure => simp [intOf]; omega
    · go_wp2
      go_ret
      have hmul : xss.length * n ≤ 11 * n := Nat.mul_le_mul_right _ (by omega)
      exact ⟨_, vals, xss, rfl, by omega, hx.out, hI.mono (by omega)⟩
theorem l20Rows_i (rb : Nat) (bs : List Int) (N : Nat) (ni : Int) (n : Nat) (hni : ni = n) (w : World) (hr : Rdr w rb bs N) (hN : N ≤ 100000) (hn : n ≤ 1000) :
    Calls Try.prog 42 #[.pointer (some ⟨rb, 0, none⟩), .int .i64 ni] w (DrawnR w rb bs N n) := by
  subst hni; exact l20Rows_c rb bs N n w hr hN hn
theorem OwnR.set {w : World} {base : Nat} {v : Value} {vals : List Value} {xss : List (List Bool)} (h : OwnR w base v vals xss) {B : Nat} (hB : B < base) (i : Nat) (u : Value) : OwnR (w.setCell ⟨B, i, none⟩ u) base v vals xss :=
  { h with row := ownsRow_set h.row (p := ⟨B, i, none⟩) (fun e => by have := (h.row.lt _ e).1; simp at this; omega) u, el := fun j hj => (h.el j hj).setOther (p := ⟨B, i, none⟩) (fun e => by have := ((h.el j hj).lt2 _ e).1; simp at this; omega) u }
/-- What a draw of a circuit with rows hands back. -/
def DrawnCR (w : World) (n : Int) (m : Nat) (e : Ending) (w' : World) : Prop :=
  ∃ c p ra rc xss, e = .returned (.tuple #[.agg #[.int .i64 c.inputs, .slice p.an c.next.length p.cn, .slice p.ag c.gates.length p.cg, .slice p.ao c.outs.length p.co], .slice ra (List.length xss) rc]) ∧ CircAt w' c p ∧ RowsAt w' ra xss ∧ DrawnC c n ∧ xss.length ≤ m ∧ (∀ r ∈ xss, r.length ≤ 8) ∧ (n ≤ 0 → FitR c xss) ∧ xss.length ≤ rc ∧ rc ≤ maxLen ∧ Ext w w'
theorem draw_run_fin {w W0 w1 w2 wX w8 : World} {rb M nn m base : Nat} {n : Int} {bs : List Int} {d : Circ} {p : Where3} {ra : Option Addr} {rc L : Nat} {vals : List Value} {xss : List (List Bool)} {v0 v1 v2 v3 : Value}
    (hC : CircAt w2 d p) (hF : FromB w1.heap.size p) (hd : DrawnC d n) (E0 : Ext w W0) (E2 : Ext W0 w2) (hrb : W0.heap.size ≤ rb) (rb1 : rb < w1.heap.size) (z0 : W0.heap.size = w.heap.size + 1) (hE1 : Ext W0 w1)
    (G8 : w2.grownBy wX (some rb)) (hI : RInv wX base rb bs M nn (.slice ra L rc) vals xss w8) (hb : w.heap.size < base) (hn8 : nn ≤ 8) (hm : xss.length ≤ m) (hfit : n ≤ 0 → FitR d xss) :
    DrawnCR w n m (.returned (.tuple #[.agg #[.int .i64 d.inputs, .slice p.an d.next.length p.cn, .slice p.ag d.gates.length p.cg, .slice p.ao d.outs.length p.co], .slice ra L rc])) ((((w8.setCell ⟨w.heap.size, 0, none⟩ v0).setCell ⟨w.heap.size, 1, none⟩ v1).setCell ⟨w.heap.size, 2, none⟩ v2).setCell ⟨w.heap.size, 3, none⟩ v3) := by
  have s1 := hE1.size
  have k1 : ∀ x, p.an = some x → w.heap.size ≠ x.block := fun x hx => by have := hF.1 x hx; omega
  have k2 : ∀ x, p.ag = some x → w.heap.size ≠ x.block := fun x hx => by have := hF.2.1 x hx; omega
  have k3 : ∀ x, p.ao = some x → w.heap.size ≠ x.block := fun x hx => by have := hF.2.2 x hx; omega
  have G : w2.grownBy w8 (some rb) := Gr.trans G8 hI.gr
  have hC8 : CircAt w8 d p := hC.drawn hF G rb1
  have EW : Ext w w8 := ext_of_gr (E0.trans E2) G (by omega)
  have hL : L = xss.length ∧ L ≤ rc ∧ rc ≤ maxLen := by
    obtain ⟨a', c', e, _, l1, l2, _⟩ := ownsRow_row hI.own.row
    cases e; exact ⟨rfl, l1, l2⟩
  obtain ⟨hL, hL1, hL2⟩ := hL
  subst hL
  exact ⟨d, p, ra, rc, xss, rfl, (((hC8.set k1 k2 k3 _ _).set k1 k2 k3 _ _).set k1 k2 k3 _ _).set k1 k2 k3 _ _, ((((hI.own.set hb 0 v0).set hb 1 v1).set hb 2 v2).set hb 3 v3).at_, hd, hm, fun r hr => Nat.le_trans (hI.sm r hr) hn8, hfit, hL1, hL2, Ext.setNew (Ext.setNew (Ext.setNew (Ext.setNew EW (by simp) _) (by simp) _) (by simp) _) (by simp) _⟩
set_option maxHeartbeats 2000000 in
theorem DrawRun_c (a : Option Addr) (c : Nat) (bs : List Int) (w : World) (hB : BytesAt w a bs) (hl : bs.length ≤ 1048576) (hc : bs.length ≤ c) (hcm : c ≤ maxLen) :
    Calls Try.prog 35 #[.slice a bs.length c] w (DrawnCR w 0 11) := by
  go_enter Try.func35, Try.ntmps35
  go_wp2_with fail
  have b0 := Blk.at w [.int .i64 0, .slice none 0 0, .slice none 0 0, .slice none 0 0] 26 rfl
  have E0 : Ext w (w.alloc (.cells #[.int .i64 0, .slice none 0 0, .slice none 0 0, .slice none 0 0] 26)) := (Ext.refl w).alloc _
  have hB0 := hB.ext E0
  have z0 : (w.alloc (.cells #[.int .i64 0, .slice none 0 0, .slice none 0 0, .slice none 0 0] 26)).heap.size = w.heap.size + 1 := by simp
  generalize w.alloc (.cells #[.int .i64 0, .slice none 0 0, .slice none 0 0, .slice none 0 0] 26) = W0 at *
  refine (open_c a c bs _ hB0 hl hc hcm).mono ?_
  rintro e w1 ⟨rb, bs', rfl, hR1, hrb, hE1⟩
  go_wp2_with fail
  refine (l20Circuit_c rb bs' 0 0 _ hR1 (by omega) (by omega) (by omega)).mono ?_
  rintro e w2 hD
  obtain ⟨d, p, rfl, hC, hd, hF, hR2, hG2, hcap⟩ := drawn_open hD
  have rb1 := hR1.lt
  have E2 : Ext W0 w2 := ext_of_gr hE1 hG2 (by omega)
  have b2 := b0.ext E2
  have y2 := CircBox.made w2 d p 26
  have V := hd.ok (by omega)
  have i0 := V.i0
  have i4 := V.i4
  have s2 := hG2.size
  have eX : Ext w2 (w2.alloc (.cells #[.int .i64 d.inputs, .slice p.an d.next.length p.cn, .slice p.ag d.gates.length p.cg, .slice p.ao d.outs.length p.co] 26)) := (Ext.refl w2).alloc _
  have hRd := hR2.ext eX
  have b2' := b2.ext eX
  go_wp2_with fail
  generalize hw3 : w2.alloc (.cells #[.int .i64 d.inputs, .slice p.an d.next.length p.cn, .slice p.ag d.gates.length p.cg, .slice p.ao d.outs.length p.co] 26) = w3 at *
  have s3 : w3.heap.size = w2.heap.size + 1 := by rw [← hw3]; simp
  have S3 := Lib.hid s3
  have s3a : w2.heap.size < w3.heap.size := by omega
  have hni : d.inputs = ((d.inputs.toNat : Nat) : Int) := by omega
  have HNI := Lib.hid hni
  have HV := Lib.hid V
  clear hw3 s3 hni V
  (obtain ⟨lq, q0, q1, q2, q3⟩ := (id y2))
  go_region_law (first | (go_simp; go_at_call 42; refine (l20Rows_i rb bs' (0 + 200) _ d.inputs.toNat HNI.out _ (hRd.ext (Ext.drew _)) (by omega) (by omega)).mono ?_; rintro e w4 ⟨v4, vals, xss, rfl, hxl, hxr, hI⟩; obtain ⟨ra, rc, rfl, _⟩ := ownsRow_row hI.own.row; have HXR := Lib.hid hxr; clear hxr; have G4 : w3.grownBy w4 (some rb) := Gr.trans (Gr.ext (Ext.drew w3) _) hI.gr; have y4 : CircBox w4 _ _ _ := y2.grn G4 (by simp; omega); obtain ⟨lr, r0, r1, r2, r3⟩ := (id y4); have b4 : Blk w4 _ _ _ := b2'.gr G4 (by simp; omega); have b40 := b4.cell (i := 0) rfl; have b41 := b4.cell (i := 1) rfl; have b42 := b4.cell (i := 2) rfl; have b43 := b4.cell (i := 3) rfl; have b4f := (fun i => b4.frozen i)))
  all_goals
    have rC := (((b4.set 0 (.int .i64 d.inputs)).set 1 (.slice p.an d.next.length p.cn)).set 2 (.slice p.ag d.gates.length p.cg)).set 3 (.slice p.ao d.outs.length p.co)
    have rc0 := rC.cell (i := 0) rfl
    have rc1 := rC.cell (i := 1) rfl
    have rc2 := rC.cell (i := 2) rfl
    have rc3 := rC.cell (i := 3) rfl
    go_wp2
    refine bodyPost_ret (v := .tuple #[.agg #[.int .i64 d.inputs, .slice p.an d.next.length p.cn, .slice p.ag d.gates.length p.cg, .slice p.ao d.outs.length p.co], .slice ra xss.length rc]) (by simp [results, Try.results35, go_sem, rc0, rc1, rc2, rc3]) rfl ?_
    have hfit : (0 : Int) ≤ 0 → FitR d xss := fun _ => ⟨HV.out, by omega, fun j hj => by
      have hm : xss.getD j [] ∈ xss := by rw [List.getD_eq_getElem?_getD, List.getElem?_eq_getElem hj]; exact List.getElem_mem hj
      rw [HXR.out _ hm]; exact HNI.out.symm⟩
    exact draw_run_fin hC hF hd E0 E2 hrb rb1 z0 hE1 (Gr.ext (eX.trans (Ext.drew w3)) _) hI (by have := hE1.size; simp; omega) (by omega) hxl hfit
end Go.Proofs.Ytpfhlodlefcomaa
