/- The drawing of two circuits. -/
import Derived.Test.YtpfhlodlefcomaaDraw3
import Derived.Test.YtpfhlodlefcomaaOptC
import Derived.Test.YtpfhlodlefcomaaOptE
import Derived.Test.YtpfhlodlefcomaaOwn
import Derived.Test.YtpfhlodlefcomaaDrawB
import Derived.RegionTactic
namespace Go.Proofs.Ytpfhlodlefcomaa
open Go.RowKit
set_option maxRecDepth 100000
set_option linter.unusedVariables false
set_option linter.unusedSimpArgs false
theorem CircAt.grP {w w' : World} {c : Circ} {p : Where3} {r : Option Nat} (h : CircAt w c p) (g : w.grownBy w' r) (h1 : ∀ x, p.an = some x → r ≠ some x.block) (h2 : ∀ x, p.ag = some x → r ≠ some x.block) (h3 : ∀ x, p.ao = some x → r ≠ some x.block) : CircAt w' c p := by
  obtain ⟨nx, gs, ou, l1, l2, l3⟩ := h
  have cell : ∀ b o, b < w.heap.size → r ≠ some b → w'.cell? ⟨b, o, none⟩ = w.cell? ⟨b, o, none⟩ := fun b o hb hne => World.cell?_of_block (a := ⟨b, o, none⟩) (g.block b hb (fun e => hne e.symm))
  refine ⟨?_, ?_, ?_, l1, l2, l3⟩
  · rcases nx with e | ⟨b, o, ha, hb, hc⟩
    · exact .inl e
    · exact .inr ⟨b, o, ha, Nat.lt_of_lt_of_le hb g.size, fun j hj => (cell b _ hb (h1 _ ha)).trans (hc j hj)⟩
  · rcases gs with e | ⟨b, o, ha, hb, hc, hd⟩
    · exact .inl e
    · exact .inr ⟨b, o, ha, Nat.lt_of_lt_of_le hb g.size, fun j hj => (cell b _ hb (h2 _ ha)).trans (hc j hj), fun j hj => (cell b _ hb (h2 _ ha)).trans (hd j hj)⟩
  · rcases ou with e | ⟨b, o, ha, hb, hc⟩
    · exact .inl e
    · exact .inr ⟨b, o, ha, Nat.lt_of_lt_of_le hb g.size, fun j hj => (cell b _ hb (h3 _ ha)).trans (hc j hj)⟩
theorem CircAt.dr {w w' : World} {c : Circ} {p : Where3} {b rb : Nat} (h : CircAt w c p) (f : FromB b p) (g : w.grownBy w' (some rb)) (hrb : rb < b) : CircAt w' c p :=
  h.grP g (fun x hx e => by have := f.1 x hx; have : rb = x.block := Option.some.inj e; omega) (fun x hx e => by have := f.2.1 x hx; have : rb = x.block := Option.some.inj e; omega) (fun x hx e => by have := f.2.2 x hx; have : rb = x.block := Option.some.inj e; omega)
def Small (c : Circ) : Prop := c.next.length ≤ 10 ∧ c.gates.length ≤ 20 ∧ c.outs.length ≤ 10
def PairPost (w : World) (rb : Nat) (e : Ending) (w' : World) : Prop :=
  ∃ c d p q, e = .returned (.tuple #[.agg #[.int .i64 c.inputs, .slice p.an c.next.length p.cn, .slice p.ag c.gates.length p.cg, .slice p.ao c.outs.length p.co], .agg #[.int .i64 d.inputs, .slice q.an d.next.length q.cn, .slice q.ag d.gates.length q.cg, .slice q.ao d.outs.length q.co]]) ∧
    CircAt w' c p ∧ CircAt w' d q ∧ FromB w.heap.size p ∧ FromB w.heap.size q ∧ w.grownBy w' (some rb) ∧ DrawnC c 16 ∧ Small d
structure PKeep (w : World) (rb : Nat) (c d : Circ) (p q : Where3) (w' : World) : Prop where
  hc : CircAt w' c p
  hd : CircAt w' d q
  fc : FromB (w.heap.size + 2) p
  fd : FromB (w.heap.size + 2) q
  g : w.grownBy w' (some rb)
theorem PKeep.set {w : World} {rb : Nat} {c d : Circ} {p q : Where3} {w' : World} (h : PKeep w rb c d p q w') {b : Nat} (h1 : w.heap.size ≤ b) (h2 : b < w.heap.size + 2) (i : Nat) (v : Value) : PKeep w rb c d p q (w'.setCell ⟨b, i, none⟩ v) := by
  obtain ⟨hc, hd, fc, fd, g⟩ := h
  exact ⟨hc.set (fun x hx => by have := fc.1 x hx; omega) (fun x hx => by have := fc.2.1 x hx; omega) (fun x hx => by have := fc.2.2 x hx; omega) _ _,
    hd.set (fun x hx => by have := fd.1 x hx; omega) (fun x hx => by have := fd.2.1 x hx; omega) (fun x hx => by have := fd.2.2 x hx; omega) _ _, fc, fd, Gr.setNew g h1 _⟩
/-- A store into block b leaves the circuit's rows as they are. -/
def Keeps (b : Nat) (c : Circ) (p : Where3) : Prop := ∀ w, CircAt w c p → ∀ i v, CircAt (w.setCell ⟨b, i, none⟩ v) c p
theorem off_from {b F : Nat} {c : Circ} {p : Where3} (h : FromB F p) (hb : b < F) : Keeps b c p :=
  fun w hc i v => hc.set (fun x hx => by have := h.1 x hx; omega) (fun x hx => by have := h.2.1 x hx; omega) (fun x hx => by have := h.2.2 x hx; omega) i v
theorem IntsAt.setOld {w1 w : World} {a : Option Addr} {xs : List Int} (h1 : IntsAt w1 a xs) (h : IntsAt w a xs) {b : Nat} (hb : w1.heap.size ≤ b) (i : Nat) (v : Value) : IntsAt (w.setCell ⟨b, i, none⟩ v) a xs := by
  rcases h1 with rfl | ⟨b', o, ha, hlt, _⟩
  · exact .inl rfl
  · exact h.set (fun x hx e => by rw [ha] at hx; cases hx; simp at e; omega) i v
theorem PairsAt.setOld {w1 w : World} {a : Option Addr} {xs : List (Int × Int)} (h1 : PairsAt w1 a xs) (h : PairsAt w a xs) {b : Nat} (hb : w1.heap.size ≤ b) (i : Nat) (v : Value) : PairsAt (w.setCell ⟨b, i, none⟩ v) a xs := by
  rcases h1 with rfl | ⟨b', o, ha, hlt, _⟩
  · exact .inl rfl
  · exact h.set (fun x hx e => by rw [ha] at hx; cases hx; simp at e; omega) i v
theorem off_old {w1 : World} {b : Nat} {c : Circ} {p : Where3} (h : CircAt w1 c p) (hb : w1.heap.size ≤ b) : Keeps b c p :=
  fun w hc i v => ⟨h.nx.setOld hc.nx hb i v, h.gs.setOld hc.gs hb i v, h.ou.setOld hc.ou hb i v, hc.ln, hc.lg, hc.lo⟩
theorem PKeep.setU {w : World} {rb : Nat} {c d : Circ} {p q : Where3} {w' : World} (h : PKeep w rb c d p q w') {b : Nat} (h1 : w.heap.size ≤ b) (o1 : Keeps b c p) (o2 : Keeps b d q) (i : Nat) (v : Value) : PKeep w rb c d p q (w'.setCell ⟨b, i, none⟩ v) := by
  obtain ⟨hc, hd, fc, fd, g⟩ := h
  exact ⟨o1 _ hc _ _, o2 _ hd _ _, fc, fd, Gr.setNew g h1 _⟩
theorem PKeep.drew {w : World} {rb : Nat} {c d : Circ} {p q : Where3} {w' : World} (h : PKeep w rb c d p q w') : PKeep w rb c d p q w'.drew := ⟨h.hc.ext (Ext.drew _), h.hd.ext (Ext.drew _), h.fc, h.fd, Gr.trans h.g (Gr.ext (Ext.drew _) _)⟩
theorem set4_far {w : World} {D b o : Nat} {v0 v1 v2 v3 : Value} (h : D ≠ b) : ((((w.setCell ⟨D, 0, none⟩ v0).setCell ⟨D, 1, none⟩ v1).setCell ⟨D, 2, none⟩ v2).setCell ⟨D, 3, none⟩ v3).cell? ⟨b, o, none⟩ = w.cell? ⟨b, o, none⟩ := by
  rw [World.cell?_setCell_far _ _ _ _ h, World.cell?_setCell_far _ _ _ _ h, World.cell?_setCell_far _ _ _ _ h, World.cell?_setCell_far _ _ _ _ h]
/-- .. the rows of the next state and of the outputs alone. -/
def KeepsNO (b : Nat) (c : Circ) (p : Where3) : Prop := ∀ w, (IntsAt w p.an c.next → ∀ i v, IntsAt (w.setCell ⟨b, i, none⟩ v) p.an c.next) ∧ (IntsAt w p.ao c.outs → ∀ i v, IntsAt (w.setCell ⟨b, i, none⟩ v) p.ao c.outs)
theorem keepsNO_old {w1 : World} {b : Nat} {c : Circ} {p : Where3} (h : CircAt w1 c p) (hb : w1.heap.size ≤ b) : KeepsNO b c p :=
  fun w => ⟨fun h2 i v => h.nx.setOld h2 hb i v, fun h2 i v => h.ou.setOld h2 hb i v⟩
theorem keeps_new {b F : Nat} {c : Circ} {p : Where3} {gs : List (Int × Int)} {ga : Option Addr} {gc : Nat} (h : KeepsNO b c p) (hg : ∀ x, ga = some x → F ≤ x.block) (hb : b < F) : Keeps b ⟨c.inputs, c.next, gs, c.outs⟩ ⟨p.an, p.cn, ga, gc, p.ao, p.co⟩ :=
  fun w hc i v => ⟨(h w).1 hc.nx i v, hc.gs.set (fun x hx => by have := hg x hx; omega) i v, (h w).2 hc.ou i v, hc.ln, hc.lg, hc.lo⟩
theorem flat_set1 (a : Int) : ∀ (gs : List (Int × Int)) (k : Nat), (flat gs).set (k * 2) (.int .i64 a) = flat (gs.set k (a, (gs.getD k (0, 0)).2))
  | [], k => by simp [flat]
  | g :: gs, 0 => by simp [flat]
  | g :: gs, k + 1 => by
    have h := flat_set1 a gs k
    have e : (k + 1) * 2 = k * 2 + 1 + 1 := by omega
    rw [e]
    simpa [flat] using h
theorem flat_set2 (a b : Int) : ∀ (gs : List (Int × Int)) (k : Nat), ((flat gs).set (k * 2) (.int .i64 a)).set (k * 2 + 1) (.int .i64 b) = flat (gs.set k (a, b))
  | [], k => by simp [flat]
  | g :: gs, 0 => by simp [flat]
  | g :: gs, k + 1 => by
    have h := flat_set2 a b gs k
    have e : (k + 1) * 2 = k * 2 + 1 + 1 := by omega
    rw [e]
    simpa [flat] using h
theorem PKeep.post {w : World} {rb : Nat} {c d : Circ} {p q : Where3} {w' : World} (h : PKeep w rb c d p q w') (hd : DrawnC c 16) (hs : Small d) :
    PairPost w rb (.returned (.tuple #[.agg #[.int .i64 c.inputs, .slice p.an c.next.length p.cn, .slice p.ag c.gates.length p.cg, .slice p.ao c.outs.length p.co], .agg #[.int .i64 d.inputs, .slice q.an d.next.length q.cn, .slice q.ag d.gates.length q.cg, .slice q.ao d.outs.length q.co]])) w' :=
  ⟨c, d, p, q, rfl, h.hc, h.hd, ⟨fun x hx => by have := h.fc.1 x hx; omega, fun x hx => by have := h.fc.2.1 x hx; omega, fun x hx => by have := h.fc.2.2 x hx; omega⟩, ⟨fun x hx => by have := h.fd.1 x hx; omega, fun x hx => by have := h.fd.2.1 x hx; omega, fun x hx => by have := h.fd.2.2 x hx; omega⟩, h.g, hd, hs⟩
theorem FromB.le {b b' : Nat} {p : Where3} (h : FromB b p) (hb : b' ≤ b) : FromB b' p := ⟨fun x hx => Nat.le_trans hb (h.1 x hx), fun x hx => Nat.le_trans hb (h.2.1 x hx), fun x hx => Nat.le_trans hb (h.2.2 x hx)⟩
theorem drawn_small {c : Circ} {n : Int} (h : DrawnC c n) : Small c := ⟨h.ln, h.lg, h.lo⟩
theorem opt_smallC (c : Circ) : Small (optV c) := by
  obtain ⟨h1, h2, h3⟩ := optV_lens c
  exact ⟨by omega, by omega, by omega⟩
set_option maxHeartbeats 4000000 in
theorem l20Pair_c (rb : Nat) (bs : List Int) (w : World) (hr : Rdr w rb bs 0) :
    Calls Try.prog 36 #[.pointer (some ⟨rb, 0, none⟩)] w (PairPost w rb) := by
  have hrb := hr.lt
  have b2 := (Blk.at w [.int .i64 0, .slice none 0 0, .slice none 0 0, .slice none 0 0] 26 rfl).ext ((Ext.refl _).alloc (.cells #[.int .i64 0, .slice none 0 0, .slice none 0 0, .slice none 0 0] 26))
  have b3 := Blk.at (w.alloc (.cells #[.int .i64 0, .slice none 0 0, .slice none 0 0, .slice none 0 0] 26)) [.int .i64 0, .slice none 0 0, .slice none 0 0, .slice none 0 0] 26 (B := w.heap.size + 1) (by simp)
  have E0 : Ext w ((w.alloc (.cells #[.int .i64 0, .slice none 0 0, .slice none 0 0, .slice none 0 0] 26)).alloc (.cells #[.int .i64 0, .slice none 0 0, .slice none 0 0, .slice none 0 0] 26)) := ((Ext.refl w).alloc _).alloc _
  have z0 : ((w.alloc (.cells #[.int .i64 0, .slice none 0 0, .slice none 0 0, .slice none 0 0] 26)).alloc (.cells #[.int .i64 0, .slice none 0 0, .slice none 0 0, .slice none 0 0] 26)).heap.size = w.heap.size + 2 := by simp
  go_enter Try.func36, Try.ntmps36
  go_wp2_with fail
  generalize (w.alloc (.cells #[.int .i64 0, .slice none 0 0, .slice none 0 0, .slice none 0 0] 26)).alloc (.cells #[.int .i64 0, .slice none 0 0, .slice none 0 0, .slice none 0 0] 26) = W0 at *
  refine (l20Circuit_c rb bs 0 16 _ (hr.ext E0) (by omega) (by omega) (by omega)).mono ?_
  rintro e w1 hD
  obtain ⟨c, p, rfl, hC, hd, hF, hR1, hG1, hcap⟩ := drawn_open hD
  clear hD
  have OD : Hid (∀ b, w1.heap.size ≤ b → KeepsNO b c p) := Lib.hid (fun b hb => keepsNO_old hC hb)
  have OC : Hid (∀ b, w1.heap.size ≤ b → Keeps b c p) := Lib.hid (fun b hb => off_old hC hb)
  have b2 := b2.gr hG1 (by simp; omega)
  have b3 := b3.gr hG1 (by simp; omega)
  have s1 := hG1.size
  go_wp2_with fail
  have Ex : Ext w1 ((w1.alloc (.cells #[.int .i64 c.inputs, .slice p.an c.next.length p.cn, .slice p.ag c.gates.length p.cg, .slice p.ao c.outs.length p.co] 26)).alloc (.cells #[.int .i64 c.inputs, .slice p.an c.next.length p.cn, .slice p.ag c.gates.length p.cg, .slice p.ao c.outs.length p.co] 26)) := ((Ext.refl w1).alloc _).alloc _
  have s2 : ((w1.alloc (.cells #[.int .i64 c.inputs, .slice p.an c.next.length p.cn, .slice p.ag c.gates.length p.cg, .slice p.ao c.outs.length p.co] 26)).alloc (.cells #[.int .i64 c.inputs, .slice p.an c.next.length p.cn, .slice p.ag c.gates.length p.cg, .slice p.ao c.outs.length p.co] 26)).heap.size = w1.heap.size + 2 := by simp
  have x := (CircBox.made w1 c p 26).ext ((Ext.refl _).alloc (.cells #[.int .i64 c.inputs, .slice p.an c.next.length p.cn, .slice p.ag c.gates.length p.cg, .slice p.ao c.outs.length p.co] 26))
  have y := Blk.at (w1.alloc (.cells #[.int .i64 c.inputs, .slice p.an c.next.length p.cn, .slice p.ag c.gates.length p.cg, .slice p.ao c.outs.length p.co] 26)) [.int .i64 c.inputs, .slice p.an c.next.length p.cn, .slice p.ag c.gates.length p.cg, .slice p.ao c.outs.length p.co] 26 (B := w1.heap.size + 1) (by simp)
  have hC := hC.ext Ex
  have hR2 := hR1.ext Ex
  have b2 := b2.ext Ex
  have b3 := b3.ext Ex
  have G2 := Gr.trans hG1 (Gr.ext Ex (some rb))
  generalize (w1.alloc (.cells #[.int .i64 c.inputs, .slice p.an c.next.length p.cn, .slice p.ag c.gates.length p.cg, .slice p.ao c.outs.length p.co] 26)).alloc (.cells #[.int .i64 c.inputs, .slice p.an c.next.length p.cn, .slice p.ag c.gates.length p.cg, .slice p.ao c.outs.length p.co] 26) = W2 at *
  refine (pick_c rb bs (0 + 200) 4 _ hR2 (by omega) (by omega)).mono ?_
  rintro e w3 ⟨k, rfl, k0, k1, hR3, hG3⟩
  have hC := hC.dr hF hG3 (by omega)
  have b2 := b2.gr hG3 (by simp; omega)
  have b3 := b3.gr hG3 (by simp; omega)
  have x := x.grn hG3 (by simp; omega)
  have y := y.gr hG3 (by simp; omega)
  have G3 := Gr.trans (Gr.trans (Gr.ext E0 (some rb)) G2) hG3
  have s3 := hG3.size
  have hF := hF.le (b' := w.heap.size + 2) (by omega)
  have kb : k < 4 := by omega
  clear G2 hG1 hG3 hR1 hR2 Ex
  obtain ⟨B, hB⟩ : ∃ B, B = w1.heap.size := ⟨_, rfl⟩
  have hB4 : w.heap.size + 2 ≤ B := by omega
  have hB5 : B + 2 ≤ w3.heap.size := by omega
  rw [← hB] at x y OC OD ⊢
  clear hB s1 s2 s3 z0
  by_cases h0 : k = 0
  · subst h0
    go_wp2_with fail
    refine (l20Circuit_c rb bs (0 + 200 + 1) 16 _ hR3 (by omega) (by omega) (by omega)).mono ?_
    rintro e w4 hD
    obtain ⟨d, q, rfl, hC4, hd4, hF4, hR4, hG4, hcap4⟩ := drawn_open hD
    have hC := hC.dr hF hG4 (by omega)
    have b2 := b2.gr hG4 (by simp; omega)
    have b3 := b3.gr hG4 (by simp; omega)
    have x := x.grn hG4 (by simp; omega)
    have y := y.gr hG4 (by simp; omega)
    have hF4' := hF4
    have hF4 := hF4.le (b' := w.heap.size + 2) (by omega)
    have hsm := drawn_small hd4
    have G3 := Gr.trans G3 hG4
    (have y0 := y.cell (i := 0) rfl; have y1 := y.cell (i := 1) rfl; have y2 := y.cell (i := 2) rfl; have y3 := y.cell (i := 3) rfl; have yf := (fun i => y.frozen i))
    go_wp2_with fail
    generalize hW : (((w4.setCell ⟨B + 1, 0, none⟩ (.int .i64 d.inputs)).setCell ⟨B + 1, 1, none⟩ (.slice q.an d.next.length q.cn)).setCell ⟨B + 1, 2, none⟩ (.slice q.ag d.gates.length q.cg)).setCell ⟨B + 1, 3, none⟩ (.slice q.ao d.outs.length q.co) = wE
    have PX : CircBox wE B c p := by rw [← hW]; exact (((x.set (by simp) _).set (by simp) _).set (by simp) _).set (by simp) _
    have PY : Blk wE (B + 1) 26 [.int .i64 d.inputs, .slice q.an d.next.length q.cn, .slice q.ag d.gates.length q.cg, .slice q.ao d.outs.length q.co] := by rw [← hW]; exact (((y.set 0 _).set 1 _).set 2 _).set 3 _
    have Z2 : Blk wE w.heap.size 26 [.int .i64 0, .slice none 0 0, .slice none 0 0, .slice none 0 0] := by rw [← hW]; exact (((b2.setOther (by simp; omega) _).setOther (by simp; omega) _).setOther (by simp; omega) _).setOther (by simp; omega) _
    have Z3 : Blk wE (w.heap.size + 1) 26 [.int .i64 0, .slice none 0 0, .slice none 0 0, .slice none 0 0] := by rw [← hW]; exact (((b3.setOther (by simp; omega) _).setOther (by simp; omega) _).setOther (by simp; omega) _).setOther (by simp; omega) _
    have o1 : Keeps (B + 1) c p := OC.out _ (by omega)
    have o2 : Keeps (B + 1) d q := off_from hF4' (by omega)
    have PK : PKeep w rb c d p q wE := by
      rw [← hW]
      exact ((((PKeep.mk hC hC4 hF hF4 G3).setU (by omega) o1 o2 _ _).setU (by omega) o1 o2 _ _).setU (by omega) o1 o2 _ _).setU (by omega) o1 o2 _ _
    have HW := Lib.hid hW
    clear hW y0 y1 y2 y3 yf
    (obtain ⟨lx, x0, x1, x2, x3⟩ := (id PX); (have y0 := PY.cell (i := 0) rfl; have y1 := PY.cell (i := 1) rfl; have y2 := PY.cell (i := 2) rfl; have y3 := PY.cell (i := 3) rfl; have yf := (fun i => PY.frozen i)); (have u0 := Z2.cell (i := 0) rfl; have u1 := Z2.cell (i := 1) rfl; have u2 := Z2.cell (i := 2) rfl; have u3 := Z2.cell (i := 3) rfl; have uf := (fun i => Z2.frozen i)); (have v0 := Z3.cell (i := 0) rfl; have v1 := Z3.cell (i := 1) rfl; have v2 := Z3.cell (i := 2) rfl; have v3 := Z3.cell (i := 3) rfl; have vf := (fun i => Z3.frozen i)); refine wp_regionT (fun w' => ∀ o, w'.cell? ⟨B, o, none⟩ = wE.cell? ⟨B, o, none⟩ ∧ w'.cell? ⟨B + 1, o, none⟩ = wE.cell? ⟨B + 1, o, none⟩) 3 (by kernel_rfl) ?_; have hS0 : ∀ o, wE.drew.cell? ⟨B, o, none⟩ = wE.cell? ⟨B, o, none⟩ ∧ wE.drew.cell? ⟨B + 1, o, none⟩ = wE.cell? ⟨B + 1, o, none⟩ := fun o => ⟨rfl, rfl⟩)
    (((refine wpAnyT_take 0 (v := ?_) rfl (by kernel_rfl) (fun _ _ _ h => h) (Or.inl ⟨by kernel_rfl, ?_⟩) (by assumption) ?_; rotate_left; (intro wS hSw; (try dsimp only at hSw); go_simp; (try with_reducible rfl)); (try simp only [Act.put, List.setIfInBounds_toArray, List.set_cons_zero, List.set_cons_succ])); (refine wpAnyT_take 1 (v := ?_) rfl (by kernel_rfl) (fun _ _ _ h => h) (Or.inl ⟨by kernel_rfl, ?_⟩) (by assumption) ?_; rotate_left; (intro wS hSw; (try dsimp only at hSw); go_simp; (try with_reducible rfl)); (try simp only [Act.put, List.setIfInBounds_toArray, List.set_cons_zero, List.set_cons_succ]))); (refine wpAnyT_do 2 (by kernel_rfl) rfl (fun K hK => ?_)); go_simp; (have hS1 : ∀ o, ((((wE.setCell ⟨w.heap.size, 0, none⟩ (.int .i64 c.inputs)).setCell ⟨w.heap.size, 1, none⟩ (.slice p.an c.next.length p.cn)).setCell ⟨w.heap.size, 2, none⟩ (.slice p.ag c.gates.length p.cg)).setCell ⟨w.heap.size, 3, none⟩ (.slice p.ao c.outs.length p.co)).cell? ⟨B, o, none⟩ = wE.cell? ⟨B, o, none⟩ ∧ ((((wE.setCell ⟨w.heap.size, 0, none⟩ (.int .i64 c.inputs)).setCell ⟨w.heap.size, 1, none⟩ (.slice p.an c.next.length p.cn)).setCell ⟨w.heap.size, 2, none⟩ (.slice p.ag c.gates.length p.cg)).setCell ⟨w.heap.size, 3, none⟩ (.slice p.ao c.outs.length p.co)).cell? ⟨B + 1, o, none⟩ = wE.cell? ⟨B + 1, o, none⟩ := fun o => ⟨set4_far (by omega), set4_far (by omega)⟩); (refine hK _ _ hS1 ?_; clear hK K; (try simp only [Act.put, List.setIfInBounds_toArray, List.set_cons_zero, List.set_cons_succ])); (refine wpAnyT_last 3 (by kernel_rfl) rfl (by decide) (by kernel_rfl) (fun K hK => ?_)); go_simp; (refine hK _ _ ?_; clear hK K; (try simp only [Act.put, List.setIfInBounds_toArray, List.set_cons_zero, List.set_cons_succ])); go_wp2)
    (have rA := ((((((((Z2.set 0 (.int .i64 c.inputs)).set 1 (.slice p.an c.next.length p.cn)).set 2 (.slice p.ag c.gates.length p.cg)).set 3 (.slice p.ao c.outs.length p.co)).setOther (p := ⟨w.heap.size + 1, 0, none⟩) (by simp) (.int .i64 d.inputs)).setOther (p := ⟨w.heap.size + 1, 1, none⟩) (by simp) (.slice q.an d.next.length q.cn)).setOther (p := ⟨w.heap.size + 1, 2, none⟩) (by simp) (.slice q.ag d.gates.length q.cg)).setOther (p := ⟨w.heap.size + 1, 3, none⟩) (by simp) (.slice q.ao d.outs.length q.co)); have rB := (((((((Z3.setOther (p := ⟨w.heap.size, 0, none⟩) (by simp) (.int .i64 c.inputs)).setOther (p := ⟨w.heap.size, 1, none⟩) (by simp) (.slice p.an c.next.length p.cn)).setOther (p := ⟨w.heap.size, 2, none⟩) (by simp) (.slice p.ag c.gates.length p.cg)).setOther (p := ⟨w.heap.size, 3, none⟩) (by simp) (.slice p.ao c.outs.length p.co)).set 0 (.int .i64 d.inputs)).set 1 (.slice q.an d.next.length q.cn)).set 2 (.slice q.ag d.gates.length q.cg)).set 3 (.slice q.ao d.outs.length q.co); have PF := ((((((((PK.set (b := w.heap.size) (by omega) (by omega) 0 (.int .i64 c.inputs)).set (b := w.heap.size) (by omega) (by omega) 1 (.slice p.an c.next.length p.cn)).set (b := w.heap.size) (by omega) (by omega) 2 (.slice p.ag c.gates.length p.cg)).set (b := w.heap.size) (by omega) (by omega) 3 (.slice p.ao c.outs.length p.co)).set (b := w.heap.size + 1) (by omega) (by omega) 0 (.int .i64 d.inputs)).set (b := w.heap.size + 1) (by omega) (by omega) 1 (.slice q.an d.next.length q.cn)).set (b := w.heap.size + 1) (by omega) (by omega) 2 (.slice q.ag d.gates.length q.cg)).set (b := w.heap.size + 1) (by omega) (by omega) 3 (.slice q.ao d.outs.length q.co)); (have r0 := rA.cell (i := 0) rfl; have r1 := rA.cell (i := 1) rfl; have r2 := rA.cell (i := 2) rfl; have r3 := rA.cell (i := 3) rfl; have rf := (fun i => rA.frozen i)); (have s0 := rB.cell (i := 0) rfl; have s1 := rB.cell (i := 1) rfl; have s2 := rB.cell (i := 2) rfl; have s3 := rB.cell (i := 3) rfl; have sf := (fun i => rB.frozen i)); refine bodyPost_ret (v := .tuple #[.agg #[.int .i64 c.inputs, .slice p.an c.next.length p.cn, .slice p.ag c.gates.length p.cg, .slice p.ao c.outs.length p.co], .agg #[.int .i64 d.inputs, .slice q.an d.next.length q.cn, .slice q.ag d.gates.length q.cg, .slice q.ao d.outs.length q.co]]) (by simp [results, Try.results36, go_sem, r0, r1, r2, r3, s0, s1, s2, s3]) rfl ?_; exact (PF.drew).post hd hsm)
  have e0 : (k == 0) = false := by simp; omega
  by_cases h1 : k = 1
  · subst h1
    (obtain ⟨lx, x0, x1, x2, x3⟩ := (id x))
    go_wp2_with fail
    refine (specOptimize_c c p _ hC).mono ?_
    rintro e w4 ⟨nv4, gv4, ov4, rfl, o4, hE4⟩
    obtain ⟨l1, l2, l3⟩ := optV_lens c
    have hsm := opt_smallC c
    generalize optV c = d at *
    obtain ⟨q, rfl, rfl, rfl, hC4, q1, q2, q3, right⟩ := o4.opened (by omega) (by omega) (by omega)
    have hC := hC.ext hE4
    have b2 := b2.ext hE4
    have b3 := b3.ext hE4
    have x := CircBox.ext ⟨lx, x0, x1, x2, x3⟩ hE4
    have y := y.ext hE4
    clear x0 x1 x2 x3 lx
    have hF4' : FromB w3.heap.size q := ⟨q1, q2, q3⟩
    have hF4 := hF4'.le (b' := w.heap.size + 2) (by omega)
    have G3 := Gr.trans G3 (Gr.ext hE4 (some rb))
    clear q1 q2 q3 o4 right
    (have y0 := y.cell (i := 0) rfl; have y1 := y.cell (i := 1) rfl; have y2 := y.cell (i := 2) rfl; have y3 := y.cell (i := 3) rfl; have yf := (fun i => y.frozen i))
    go_wp2_with fail
    generalize hW : (((w4.setCell ⟨B + 1, 0, none⟩ (.int .i64 d.inputs)).setCell ⟨B + 1, 1, none⟩ (.slice q.an d.next.length q.cn)).setCell ⟨B + 1, 2, none⟩ (.slice q.ag d.gates.length q.cg)).setCell ⟨B + 1, 3, none⟩ (.slice q.ao d.outs.length q.co) = wE
    have PX : CircBox wE B c p := by rw [← hW]; exact (((x.set (by simp) _).set (by simp) _).set (by simp) _).set (by simp) _
    have PY : Blk wE (B + 1) 26 [.int .i64 d.inputs, .slice q.an d.next.length q.cn, .slice q.ag d.gates.length q.cg, .slice q.ao d.outs.length q.co] := by rw [← hW]; exact (((y.set 0 _).set 1 _).set 2 _).set 3 _
    have Z2 : Blk wE w.heap.size 26 [.int .i64 0, .slice none 0 0, .slice none 0 0, .slice none 0 0] := by rw [← hW]; exact (((b2.setOther (by simp; omega) _).setOther (by simp; omega) _).setOther (by simp; omega) _).setOther (by simp; omega) _
    have Z3 : Blk wE (w.heap.size + 1) 26 [.int .i64 0, .slice none 0 0, .slice none 0 0, .slice none 0 0] := by rw [← hW]; exact (((b3.setOther (by simp; omega) _).setOther (by simp; omega) _).setOther (by simp; omega) _).setOther (by simp; omega) _
    have o1 : Keeps (B + 1) c p := OC.out _ (by omega)
    have o2 : Keeps (B + 1) d q := off_from hF4' (by omega)
    have PK : PKeep w rb c d p q wE := by
      rw [← hW]
      exact ((((PKeep.mk hC hC4 hF hF4 G3).setU (by omega) o1 o2 _ _).setU (by omega) o1 o2 _ _).setU (by omega) o1 o2 _ _).setU (by omega) o1 o2 _ _
    have HW := Lib.hid hW
    clear hW y0 y1 y2 y3 yf
    (obtain ⟨lx, x0, x1, x2, x3⟩ := (id PX); (have y0 := PY.cell (i := 0) rfl; have y1 := PY.cell (i := 1) rfl; have y2 := PY.cell (i := 2) rfl; have y3 := PY.cell (i := 3) rfl; have yf := (fun i => PY.frozen i)); (have u0 := Z2.cell (i := 0) rfl; have u1 := Z2.cell (i := 1) rfl; have u2 := Z2.cell (i := 2) rfl; have u3 := Z2.cell (i := 3) rfl; have uf := (fun i => Z2.frozen i)); (have v0 := Z3.cell (i := 0) rfl; have v1 := Z3.cell (i := 1) rfl; have v2 := Z3.cell (i := 2) rfl; have v3 := Z3.cell (i := 3) rfl; have vf := (fun i => Z3.frozen i)); refine wp_regionT (fun w' => ∀ o, w'.cell? ⟨B, o, none⟩ = wE.cell? ⟨B, o, none⟩ ∧ w'.cell? ⟨B + 1, o, none⟩ = wE.cell? ⟨B + 1, o, none⟩) 3 (by kernel_rfl) ?_; have hS0 : ∀ o, wE.drew.cell? ⟨B, o, none⟩ = wE.cell? ⟨B, o, none⟩ ∧ wE.drew.cell? ⟨B + 1, o, none⟩ = wE.cell? ⟨B + 1, o, none⟩ := fun o => ⟨rfl, rfl⟩)
    (((refine wpAnyT_take 0 (v := ?_) rfl (by kernel_rfl) (fun _ _ _ h => h) (Or.inl ⟨by kernel_rfl, ?_⟩) (by assumption) ?_; rotate_left; (intro wS hSw; (try dsimp only at hSw); go_simp; (try with_reducible rfl)); (try simp only [Act.put, List.setIfInBounds_toArray, List.set_cons_zero, List.set_cons_succ])); (refine wpAnyT_take 1 (v := ?_) rfl (by kernel_rfl) (fun _ _ _ h => h) (Or.inl ⟨by kernel_rfl, ?_⟩) (by assumption) ?_; rotate_left; (intro wS hSw; (try dsimp only at hSw); go_simp; (try with_reducible rfl)); (try simp only [Act.put, List.setIfInBounds_toArray, List.set_cons_zero, List.set_cons_succ]))); (refine wpAnyT_do 2 (by kernel_rfl) rfl (fun K hK => ?_)); go_simp; (have hS1 : ∀ o, ((((wE.setCell ⟨w.heap.size, 0, none⟩ (.int .i64 c.inputs)).setCell ⟨w.heap.size, 1, none⟩ (.slice p.an c.next.length p.cn)).setCell ⟨w.heap.size, 2, none⟩ (.slice p.ag c.gates.length p.cg)).setCell ⟨w.heap.size, 3, none⟩ (.slice p.ao c.outs.length p.co)).cell? ⟨B, o, none⟩ = wE.cell? ⟨B, o, none⟩ ∧ ((((wE.setCell ⟨w.heap.size, 0, none⟩ (.int .i64 c.inputs)).setCell ⟨w.heap.size, 1, none⟩ (.slice p.an c.next.length p.cn)).setCell ⟨w.heap.size, 2, none⟩ (.slice p.ag c.gates.length p.cg)).setCell ⟨w.heap.size, 3, none⟩ (.slice p.ao c.outs.length p.co)).cell? ⟨B + 1, o, none⟩ = wE.cell? ⟨B + 1, o, none⟩ := fun o => ⟨set4_far (by omega), set4_far (by omega)⟩); (refine hK _ _ hS1 ?_; clear hK K; (try simp only [Act.put, List.setIfInBounds_toArray, List.set_cons_zero, List.set_cons_succ])); (refine wpAnyT_last 3 (by kernel_rfl) rfl (by decide) (by kernel_rfl) (fun K hK => ?_)); go_simp; (refine hK _ _ ?_; clear hK K; (try simp only [Act.put, List.setIfInBounds_toArray, List.set_cons_zero, List.set_cons_succ])); go_wp2)
    (have rA := ((((((((Z2.set 0 (.int .i64 c.inputs)).set 1 (.slice p.an c.next.length p.cn)).set 2 (.slice p.ag c.gates.length p.cg)).set 3 (.slice p.ao c.outs.length p.co)).setOther (p := ⟨w.heap.size + 1, 0, none⟩) (by simp) (.int .i64 d.inputs)).setOther (p := ⟨w.heap.size + 1, 1, none⟩) (by simp) (.slice q.an d.next.length q.cn)).setOther (p := ⟨w.heap.size + 1, 2, none⟩) (by simp) (.slice q.ag d.gates.length q.cg)).setOther (p := ⟨w.heap.size + 1, 3, none⟩) (by simp) (.slice q.ao d.outs.length q.co)); have rB := (((((((Z3.setOther (p := ⟨w.heap.size, 0, none⟩) (by simp) (.int .i64 c.inputs)).setOther (p := ⟨w.heap.size, 1, none⟩) (by simp) (.slice p.an c.next.length p.cn)).setOther (p := ⟨w.heap.size, 2, none⟩) (by simp) (.slice p.ag c.gates.length p.cg)).setOther (p := ⟨w.heap.size, 3, none⟩) (by simp) (.slice p.ao c.outs.length p.co)).set 0 (.int .i64 d.inputs)).set 1 (.slice q.an d.next.length q.cn)).set 2 (.slice q.ag d.gates.length q.cg)).set 3 (.slice q.ao d.outs.length q.co); have PF := ((((((((PK.set (b := w.heap.size) (by omega) (by omega) 0 (.int .i64 c.inputs)).set (b := w.heap.size) (by omega) (by omega) 1 (.slice p.an c.next.length p.cn)).set (b := w.heap.size) (by omega) (by omega) 2 (.slice p.ag c.gates.length p.cg)).set (b := w.heap.size) (by omega) (by omega) 3 (.slice p.ao c.outs.length p.co)).set (b := w.heap.size + 1) (by omega) (by omega) 0 (.int .i64 d.inputs)).set (b := w.heap.size + 1) (by omega) (by omega) 1 (.slice q.an d.next.length q.cn)).set (b := w.heap.size + 1) (by omega) (by omega) 2 (.slice q.ag d.gates.length q.cg)).set (b := w.heap.size + 1) (by omega) (by omega) 3 (.slice q.ao d.outs.length q.co)); (have r0 := rA.cell (i := 0) rfl; have r1 := rA.cell (i := 1) rfl; have r2 := rA.cell (i := 2) rfl; have r3 := rA.cell (i := 3) rfl; have rf := (fun i => rA.frozen i)); (have s0 := rB.cell (i := 0) rfl; have s1 := rB.cell (i := 1) rfl; have s2 := rB.cell (i := 2) rfl; have s3 := rB.cell (i := 3) rfl; have sf := (fun i => rB.frozen i)); refine bodyPost_ret (v := .tuple #[.agg #[.int .i64 c.inputs, .slice p.an c.next.length p.cn, .slice p.ag c.gates.length p.cg, .slice p.ao c.outs.length p.co], .agg #[.int .i64 d.inputs, .slice q.an d.next.length q.cn, .slice q.ag d.gates.length q.cg, .slice q.ao d.outs.length q.co]]) (by simp [results, Try.results36, go_sem, r0, r1, r2, r3, s0, s1, s2, s3]) rfl ?_; exact (PF.drew).post hd hsm)
  have e1 : (k == 1) = false := by simp; omega
  (obtain ⟨lx, x0, x1, x2, x3⟩ := (id x))
  (have y0 := y.cell (i := 0) rfl; have y1 := y.cell (i := 1) rfl; have y2 := y.cell (i := 2) rfl; have y3 := y.cell (i := 3) rfl; have yf := (fun i => y.frozen i))
  have lgc := hC.lg
  have OD1 := OD.out (B + 1) (by omega)
  by_cases hg : 0 < c.gates.length
  · go_wp2_with (at_builtin; refine wpList_app tyGates ((Blk.new w3 [] 46).owns (n := 0) rfl (Nat.le_refl _) (by decide)) ((hC.ext ((Ext.refl w3).alloc (.cells #[] 46))).gs.row) (flat_length _) (oneCell_flat _) (by omega) (by simp) rfl rfl rfl rfl ?_; intro v4 w4 o4 g4 m4; simp only [Nat.zero_add, List.nil_append] at o4; obtain ⟨ga, gc, rfl, r4, n4, _, q4⟩ := ownsRow_row o4; clear y0 y1 y2 y3 yf x0 x1 x2 x3; have hE4 : Ext w3 w4 := ext_of_gr ((Ext.refl w3).alloc (.cells #[] 46)) g4 (Nat.le_refl _); have y4 := y.ext hE4; (have y0 := y4.cell (i := 0) rfl; have y1 := y4.cell (i := 1) rfl; have y2 := y4.cell (i := 2) rfl; have y3 := y4.cell (i := 3) rfl; have yf := (fun i => y4.frozen i)))
    obtain ⟨g, rfl, hg1, hg2⟩ := ownsRow_block o4 hg
    have s4 := hE4.size
    have hC := hC.ext hE4
    have x := x.ext hE4
    have b2 := b2.ext hE4
    have b3 := b3.ext hE4
    have hR4 := hR3.ext hE4
    have G4 := Gr.trans G3 (Gr.ext hE4 (some rb))
    refine (pick_c rb bs (0 + 200 + 1) c.gates.length _ (hR4.grn (r := some (B + 1)) (gr_setOwn (Gr.refl _ _) _ _) (fun k hk => by have : B + 1 = k := Option.some.inj hk; omega)) (by omega) (by omega)).mono ?_
    rintro e w5 ⟨k6, rfl, k60, k61, hR5, hG5⟩
    obtain ⟨kn, rfl⟩ := Int.eq_ofNat_of_zero_le k60
    have hkn : kn < c.gates.length := by omega
    clear k61
    have y5 := (y4.set 2 (.slice (some ⟨g, 0, none⟩) c.gates.length gc)).gr hG5 (by simp; omega)
    have x5 := (x.set (a := ⟨B + 1, 2, none⟩) (by simp) (.slice (some ⟨g, 0, none⟩) c.gates.length gc)).grn hG5 (by simp; omega)
    have b25 := (b2.setOther (p := ⟨B + 1, 2, none⟩) (by simp; omega) (.slice (some ⟨g, 0, none⟩) c.gates.length gc)).gr hG5 (by simp; omega)
    have b35 := (b3.setOther (p := ⟨B + 1, 2, none⟩) (by simp; omega) (.slice (some ⟨g, 0, none⟩) c.gates.length gc)).gr hG5 (by simp; omega)
    have hC5 := ((OC.out (B + 1) (by omega)) _ hC 2 (.slice (some ⟨g, 0, none⟩) c.gates.length gc)).dr hF hG5 (by omega)
    have o5 := ownsRow_gr (ownsRow_set (p := ⟨B + 1, 2, none⟩) o4 (by simp [Value.ownBlock]; omega) (.slice (some ⟨g, 0, none⟩) c.gates.length gc)) hG5 (.inr (by simp [Value.ownBlock]; omega))
    have G5 := Gr.trans (Gr.setNew G4 (p := ⟨B + 1, 2, none⟩) (by dsimp only; omega) (.slice (some ⟨g, 0, none⟩) c.gates.length gc)) hG5
    have s5 := hG5.size
    simp at s5
    clear y0 y1 y2 y3 yf hG5 G4 o4 b2 b3 x y4 hC
    go_wp2_with fail
    refine (pick_c rb bs (0 + 200 + 1 + 1) 2 _ hR5 (by omega) (by omega)).mono ?_
    rintro e w6 ⟨k7, rfl, k70, k71, hR6, hG6⟩
    have y6 := y5.gr hG6 (by simp; omega)
    have x6 := x5.grn hG6 (by simp; omega)
    have b26 := b25.gr hG6 (by simp; omega)
    have b36 := b35.gr hG6 (by simp; omega)
    have hC6 := hC5.dr hF hG6 (by omega)
    have o6 := ownsRow_gr o5 hG6 (.inr (by simp [Value.ownBlock]; omega))
    have G6 := Gr.trans G5 hG6
    have s6 := hG6.size
    clear k71 hG6 G5 o5 b25 b35 x5 y5 hC5
    (have y0 := y6.cell (i := 0) rfl; have y1 := y6.cell (i := 1) rfl; have y2 := y6.cell (i := 2) rfl; have y3 := y6.cell (i := 3) rfl; have yf := (fun i => y6.frozen i))
    have gl : (flat c.gates)[kn * 2]? = some (.int .i64 (c.gates.getD kn (0, 0)).1) := (flat_get _ _ hkn).1
    have gr : (flat c.gates)[kn * 2 + 1]? = some (.int .i64 (c.gates.getD kn (0, 0)).2) := (flat_get _ _ hkn).2
    have c0 := ownsRow_cell o6 gl
    have c1 := ownsRow_cell o6 gr
    have cf := ownsRow_frozen o6
    have HO := Lib.hid o6
    have gl6 : g < w6.heap.size := by omega
    have yl6 : B + 1 < w6.heap.size := by omega
    clear gl gr o6
    by_cases h7 : k7 = 0
    · subst h7
      go_wp2_with fail
      (refine wp_regionT ((fun w' => (∀ b o, b < w6.heap.size → w'.cell? ⟨b, o, none⟩ = w6.cell? ⟨b, o, none⟩) ∧ Ext w6 w')) 12 (by kernel_rfl) ?_; have hS0 := held_mk (Ext.drew w6))
      ((refine wpAnyT_take 0 (v := ?_) rfl (by kernel_rfl) (fun _ _ _ h => h) (Or.inl ⟨by kernel_rfl, ?_⟩) (by assumption) ?_; rotate_left; (intro wS hSw; (try dsimp only at hSw); go_simp; (try with_reducible rfl)); (try simp only [Act.put, List.setIfInBounds_toArray, List.set_cons_zero, List.set_cons_succ])); (refine wpAnyT_take 1 (v := ?_) rfl (by kernel_rfl) (fun _ _ _ h => h) (Or.inl ⟨by kernel_rfl, ?_⟩) (by assumption) ?_; rotate_left; (intro wS hSw; (try dsimp only at hSw); go_simp; (try with_reducible rfl)); (try simp only [Act.put, List.setIfInBounds_toArray, List.set_cons_zero, List.set_cons_succ])); (refine wpAnyT_take 2 (v := ?_) rfl (by kernel_rfl) (fun _ _ _ h => h) (Or.inl ⟨by kernel_rfl, ?_⟩) (by assumption) ?_; rotate_left; (intro wS hSw; (try dsimp only at hSw); go_simp; (try with_reducible rfl)); (try simp only [Act.put, List.setIfInBounds_toArray, List.set_cons_zero, List.set_cons_succ])); (refine wpAnyT_take 3 (v := ?_) rfl (by kernel_rfl) (fun _ _ _ h => h) (Or.inl ⟨by kernel_rfl, ?_⟩) (by assumption) ?_; rotate_left; (intro wS hSw; (try dsimp only at hSw); go_simp; (try with_reducible rfl)); (try simp only [Act.put, List.setIfInBounds_toArray, List.set_cons_zero, List.set_cons_succ])); (refine wpAnyT_take 4 (v := ?_) rfl (by kernel_rfl) (fun _ _ _ h => h) (Or.inl ⟨by kernel_rfl, ?_⟩) (by assumption) ?_; rotate_left; (intro wS hSw; (try dsimp only at hSw); go_simp; (try with_reducible rfl)); (try simp only [Act.put, List.setIfInBounds_toArray, List.set_cons_zero, List.set_cons_succ])); (refine wpAnyT_take 5 (v := ?_) rfl (by kernel_rfl) (fun _ _ _ h => h) (Or.inl ⟨by kernel_rfl, ?_⟩) (by assumption) ?_; rotate_left; (intro wS hSw; (try dsimp only at hSw); go_simp; (try with_reducible rfl)); (try simp only [Act.put, List.setIfInBounds_toArray, List.set_cons_zero, List.set_cons_succ])); (refine wpAnyT_take 6 (v := ?_) rfl (by kernel_rfl) (fun _ _ _ h => h) (Or.inl ⟨by kernel_rfl, ?_⟩) (by assumption) ?_; rotate_left; (intro wS hSw; (try dsimp only at hSw); go_simp; (try with_reducible rfl)); (try simp only [Act.put, List.setIfInBounds_toArray, List.set_cons_zero, List.set_cons_succ])); (refine wpAnyT_take 7 (v := ?_) rfl (by kernel_rfl) (fun _ _ _ h => h) (Or.inl ⟨by kernel_rfl, ?_⟩) (by assumption) ?_; rotate_left; (intro wS hSw; (try dsimp only at hSw); go_simp; (try with_reducible rfl)); (try simp only [Act.put, List.setIfInBounds_toArray, List.set_cons_zero, List.set_cons_succ])); (refine wpAnyT_take 8 (v := ?_) rfl (by kernel_rfl) (fun _ _ _ h => h) (Or.inl ⟨by kernel_rfl, ?_⟩) (by assumption) ?_; rotate_left; (intro wS hSw; (try dsimp only at hSw); go_simp; (try with_reducible rfl)); (try simp only [Act.put, List.setIfInBounds_toArray, List.set_cons_zero, List.set_cons_succ])); (refine wpAnyT_take 9 (v := ?_) rfl (by kernel_rfl) (fun _ _ _ h => h) (Or.inl ⟨by kernel_rfl, ?_⟩) (by assumption) ?_; rotate_left; (intro wS hSw; (try dsimp only at hSw); go_simp; (try with_reducible rfl)); (try simp only [Act.put, List.setIfInBounds_toArray, List.set_cons_zero, List.set_cons_succ])); (refine wpAnyT_take 10 (v := ?_) rfl (by kernel_rfl) (fun _ _ _ h => h) (Or.inl ⟨by kernel_rfl, ?_⟩) (by assumption) ?_; rotate_left; (intro wS hSw; (try dsimp only at hSw); go_simp; (try with_reducible rfl)); (try simp only [Act.put, List.setIfInBounds_toArray, List.set_cons_zero, List.set_cons_succ])); (refine wpAnyT_take 11 (v := ?_) rfl (by kernel_rfl) (fun _ _ _ h => h) (Or.inl ⟨by kernel_rfl, ?_⟩) (by assumption) ?_; rotate_left; (intro wS hSw; (try dsimp only at hSw); go_simp; (try with_reducible rfl)); (try simp only [Act.put, List.setIfInBounds_toArray, List.set_cons_zero, List.set_cons_succ])))
      (refine wpAnyT_last 12 (by kernel_rfl) rfl (by decide) (by kernel_rfl) (fun K hK => ?_))
      go_simp
      (refine hK _ _ ?_; clear hK K; (try simp only [Act.put, List.setIfInBounds_toArray, List.set_cons_zero, List.set_cons_succ]))
      go_wp2_with fail
      obtain ⟨q, hq⟩ : ∃ q : Where3, q = ⟨p.an, p.cn, some ⟨g, 0, none⟩, gc, p.ao, p.co⟩ := ⟨_, rfl⟩
      obtain ⟨d, hdd⟩ : ∃ d : Circ, d = ⟨c.inputs, c.next, c.gates.set kn (bits .xor .i64 (c.gates[kn]).1 1, (c.gates.getD kn (0, 0)).2), c.outs⟩ := ⟨_, rfl⟩
      have hlen : d.gates.length = c.gates.length := by rw [hdd]; exact List.length_set
      generalize hW : (w6.setCell ⟨g, kn * 2, none⟩ (.int .i64 (bits .xor .i64 (c.gates[kn]).1 1))).drew = wE
      have PX : CircBox wE B c p := by rw [← hW]; exact CircBox.ext (x6.set (a := ⟨g, kn * 2, none⟩) (by simp; omega) (.int .i64 (bits .xor .i64 (c.gates[kn]).1 1))) (Ext.drew _)
      have PY : Blk wE (B + 1) 26 [.int .i64 d.inputs, .slice q.an d.next.length q.cn, .slice q.ag d.gates.length q.cg, .slice q.ao d.outs.length q.co] := by rw [hlen, ← hW, hq, hdd]; exact (y6.setOther (p := ⟨g, kn * 2, none⟩) (by simp; omega) (.int .i64 (bits .xor .i64 (c.gates[kn]).1 1))).drew
      have Z2 : Blk wE w.heap.size 26 [.int .i64 0, .slice none 0 0, .slice none 0 0, .slice none 0 0] := by rw [← hW]; exact (b26.setOther (p := ⟨g, kn * 2, none⟩) (by simp; omega) (.int .i64 (bits .xor .i64 (c.gates[kn]).1 1))).drew
      have Z3 : Blk wE (w.heap.size + 1) 26 [.int .i64 0, .slice none 0 0, .slice none 0 0, .slice none 0 0] := by rw [← hW]; exact (b36.setOther (p := ⟨g, kn * 2, none⟩) (by simp; omega) (.int .i64 (bits .xor .i64 (c.gates[kn]).1 1))).drew
      have hsm : Small d := ⟨by rw [hdd]; exact hd.ln, by rw [hlen]; exact hd.lg, by rw [hdd]; exact hd.lo⟩
      have PK : PKeep w rb c d p q wE := by
        have hpg : PairsAt ((w6.setCell ⟨g, kn * 2, none⟩ (.int .i64 (bits .xor .i64 (c.gates[kn]).1 1)))) (some ⟨g, 0, none⟩) (c.gates.set kn (bits .xor .i64 (c.gates[kn]).1 1, (c.gates.getD kn (0, 0)).2)) := pairsAt_of_row (by have h := ownsRow_at (ownsRow_setAt HO.out (kn * 2) (by rw [flat_length]; omega) (.int .i64 (bits .xor .i64 (c.gates[kn]).1 1))); rw [flat_set1] at h; exact h)
        rw [← hW, hq, hdd]
        exact (PKeep.mk (w := w) (rb := rb) (d := ⟨c.inputs, c.next, c.gates.set kn (bits .xor .i64 (c.gates[kn]).1 1, (c.gates.getD kn (0, 0)).2), c.outs⟩) (q := ⟨p.an, p.cn, some ⟨g, 0, none⟩, gc, p.ao, p.co⟩) (OC.out g (by omega) _ hC6 (kn * 2) (.int .i64 (bits .xor .i64 (c.gates[kn]).1 1))) ⟨((OD.out g (by omega) _).1 hC6.nx (kn * 2) (.int .i64 (bits .xor .i64 (c.gates[kn]).1 1))), hpg, ((OD.out g (by omega) _).2 hC6.ou (kn * 2) (.int .i64 (bits .xor .i64 (c.gates[kn]).1 1))), hC6.ln, by dsimp only; rw [List.length_set]; omega, hC6.lo⟩ hF ⟨hF.1, fun x hx => by cases hx; dsimp only; omega, hF.2.2⟩ (Gr.setNew G6 (p := ⟨g, kn * 2, none⟩) (by dsimp only; omega) (.int .i64 (bits .xor .i64 (c.gates[kn]).1 1)))).drew
      have HW := Lib.hid hW
      have HQ := Lib.hid hq
      have HDD := Lib.hid hdd
      have HL := Lib.hid hlen
      clear hW y0 y1 y2 y3 yf hq hdd hlen c0 c1 cf
      (obtain ⟨lx, x0, x1, x2, x3⟩ := (id PX); (have y0 := PY.cell (i := 0) rfl; have y1 := PY.cell (i := 1) rfl; have y2 := PY.cell (i := 2) rfl; have y3 := PY.cell (i := 3) rfl; have yf := (fun i => PY.frozen i)); (have u0 := Z2.cell (i := 0) rfl; have u1 := Z2.cell (i := 1) rfl; have u2 := Z2.cell (i := 2) rfl; have u3 := Z2.cell (i := 3) rfl; have uf := (fun i => Z2.frozen i)); (have v0 := Z3.cell (i := 0) rfl; have v1 := Z3.cell (i := 1) rfl; have v2 := Z3.cell (i := 2) rfl; have v3 := Z3.cell (i := 3) rfl; have vf := (fun i => Z3.frozen i)); refine wp_regionT (fun w' => ∀ o, w'.cell? ⟨B, o, none⟩ = wE.cell? ⟨B, o, none⟩ ∧ w'.cell? ⟨B + 1, o, none⟩ = wE.cell? ⟨B + 1, o, none⟩) 3 (by kernel_rfl) ?_; have hS0 : ∀ o, wE.drew.cell? ⟨B, o, none⟩ = wE.cell? ⟨B, o, none⟩ ∧ wE.drew.cell? ⟨B + 1, o, none⟩ = wE.cell? ⟨B + 1, o, none⟩ := fun o => ⟨rfl, rfl⟩)
      (((refine wpAnyT_take 0 (v := ?_) rfl (by kernel_rfl) (fun _ _ _ h => h) (Or.inl ⟨by kernel_rfl, ?_⟩) (by assumption) ?_; rotate_left; (intro wS hSw; (try dsimp only at hSw); go_simp; (try with_reducible rfl)); (try simp only [Act.put, List.setIfInBounds_toArray, List.set_cons_zero, List.set_cons_succ])); (refine wpAnyT_take 1 (v := ?_) rfl (by kernel_rfl) (fun _ _ _ h => h) (Or.inl ⟨by kernel_rfl, ?_⟩) (by assumption) ?_; rotate_left; (intro wS hSw; (try dsimp only at hSw); go_simp; (try with_reducible rfl)); (try simp only [Act.put, List.setIfInBounds_toArray, List.set_cons_zero, List.set_cons_succ]))); (refine wpAnyT_do 2 (by kernel_rfl) rfl (fun K hK => ?_)); go_simp; (have hS1 : ∀ o, ((((wE.setCell ⟨w.heap.size, 0, none⟩ (.int .i64 c.inputs)).setCell ⟨w.heap.size, 1, none⟩ (.slice p.an c.next.length p.cn)).setCell ⟨w.heap.size, 2, none⟩ (.slice p.ag c.gates.length p.cg)).setCell ⟨w.heap.size, 3, none⟩ (.slice p.ao c.outs.length p.co)).cell? ⟨B, o, none⟩ = wE.cell? ⟨B, o, none⟩ ∧ ((((wE.setCell ⟨w.heap.size, 0, none⟩ (.int .i64 c.inputs)).setCell ⟨w.heap.size, 1, none⟩ (.slice p.an c.next.length p.cn)).setCell ⟨w.heap.size, 2, none⟩ (.slice p.ag c.gates.length p.cg)).setCell ⟨w.heap.size, 3, none⟩ (.slice p.ao c.outs.length p.co)).cell? ⟨B + 1, o, none⟩ = wE.cell? ⟨B + 1, o, none⟩ := fun o => ⟨set4_far (by omega), set4_far (by omega)⟩); (refine hK _ _ hS1 ?_; clear hK K; (try simp only [Act.put, List.setIfInBounds_toArray, List.set_cons_zero, List.set_cons_succ])); (refine wpAnyT_last 3 (by kernel_rfl) rfl (by decide) (by kernel_rfl) (fun K hK => ?_)); go_simp; (refine hK _ _ ?_; clear hK K; (try simp only [Act.put, List.setIfInBounds_toArray, List.set_cons_zero, List.set_cons_succ])); go_wp2)
      (have rA := ((((((((Z2.set 0 (.int .i64 c.inputs)).set 1 (.slice p.an c.next.length p.cn)).set 2 (.slice p.ag c.gates.length p.cg)).set 3 (.slice p.ao c.outs.length p.co)).setOther (p := ⟨w.heap.size + 1, 0, none⟩) (by simp) (.int .i64 d.inputs)).setOther (p := ⟨w.heap.size + 1, 1, none⟩) (by simp) (.slice q.an d.next.length q.cn)).setOther (p := ⟨w.heap.size + 1, 2, none⟩) (by simp) (.slice q.ag d.gates.length q.cg)).setOther (p := ⟨w.heap.size + 1, 3, none⟩) (by simp) (.slice q.ao d.outs.length q.co)); have rB := (((((((Z3.setOther (p := ⟨w.heap.size, 0, none⟩) (by simp) (.int .i64 c.inputs)).setOther (p := ⟨w.heap.size, 1, none⟩) (by simp) (.slice p.an c.next.length p.cn)).setOther (p := ⟨w.heap.size, 2, none⟩) (by simp) (.slice p.ag c.gates.length p.cg)).setOther (p := ⟨w.heap.size, 3, none⟩) (by simp) (.slice p.ao c.outs.length p.co)).set 0 (.int .i64 d.inputs)).set 1 (.slice q.an d.next.length q.cn)).set 2 (.slice q.ag d.gates.length q.cg)).set 3 (.slice q.ao d.outs.length q.co); have PF := ((((((((PK.set (b := w.heap.size) (by omega) (by omega) 0 (.int .i64 c.inputs)).set (b := w.heap.size) (by omega) (by omega) 1 (.slice p.an c.next.length p.cn)).set (b := w.heap.size) (by omega) (by omega) 2 (.slice p.ag c.gates.length p.cg)).set (b := w.heap.size) (by omega) (by omega) 3 (.slice p.ao c.outs.length p.co)).set (b := w.heap.size + 1) (by omega) (by omega) 0 (.int .i64 d.inputs)).set (b := w.heap.size + 1) (by omega) (by omega) 1 (.slice q.an d.next.length q.cn)).set (b := w.heap.size + 1) (by omega) (by omega) 2 (.slice q.ag d.gates.length q.cg)).set (b := w.heap.size + 1) (by omega) (by omega) 3 (.slice q.ao d.outs.length q.co)); (have r0 := rA.cell (i := 0) rfl; have r1 := rA.cell (i := 1) rfl; have r2 := rA.cell (i := 2) rfl; have r3 := rA.cell (i := 3) rfl; have rf := (fun i => rA.frozen i)); (have s0 := rB.cell (i := 0) rfl; have s1 := rB.cell (i := 1) rfl; have s2 := rB.cell (i := 2) rfl; have s3 := rB.cell (i := 3) rfl; have sf := (fun i => rB.frozen i)); refine bodyPost_ret (v := .tuple #[.agg #[.int .i64 c.inputs, .slice p.an c.next.length p.cn, .slice p.ag c.gates.length p.cg, .slice p.ao c.outs.length p.co], .agg #[.int .i64 d.inputs, .slice q.an d.next.length q.cn, .slice q.ag d.gates.length q.cg, .slice q.ao d.outs.length q.co]]) (by simp [results, Try.results36, go_sem, r0, r1, r2, r3, s0, s1, s2, s3]) rfl ?_; exact (PF.drew).post hd hsm)
    · have e7 : (k7 == 0) = false := by simp; omega
      go_wp2_with fail
      (refine wp_regionT ((fun w' => (∀ b o, b < w6.heap.size → w'.cell? ⟨b, o, none⟩ = w6.cell? ⟨b, o, none⟩) ∧ Ext w6 w')) 17 (by kernel_rfl) ?_; have hS0 := held_mk (Ext.drew w6))
      ((refine wpAnyT_take 0 (v := ?_) rfl (by kernel_rfl) (fun _ _ _ h => h) (Or.inl ⟨by kernel_rfl, ?_⟩) (by assumption) ?_; rotate_left; (intro wS hSw; (try dsimp only at hSw); go_simp; (try with_reducible rfl)); (try simp only [Act.put, List.setIfInBounds_toArray, List.set_cons_zero, List.set_cons_succ])); (refine wpAnyT_take 1 (v := ?_) rfl (by kernel_rfl) (fun _ _ _ h => h) (Or.inl ⟨by kernel_rfl, ?_⟩) (by assumption) ?_; rotate_left; (intro wS hSw; (try dsimp only at hSw); go_simp; (try with_reducible rfl)); (try simp only [Act.put, List.setIfInBounds_toArray, List.set_cons_zero, List.set_cons_succ])); (refine wpAnyT_take 2 (v := ?_) rfl (by kernel_rfl) (fun _ _ _ h => h) (Or.inl ⟨by kernel_rfl, ?_⟩) (by assumption) ?_; rotate_left; (intro wS hSw; (try dsimp only at hSw); go_simp; (try with_reducible rfl)); (try simp only [Act.put, List.setIfInBounds_toArray, List.set_cons_zero, List.set_cons_succ])); (refine wpAnyT_take 3 (v := ?_) rfl (by kernel_rfl) (fun _ _ _ h => h) (Or.inl ⟨by kernel_rfl, ?_⟩) (by assumption) ?_; rotate_left; (intro wS hSw; (try dsimp only at hSw); go_simp; (try with_reducible rfl)); (try simp only [Act.put, List.setIfInBounds_toArray, List.set_cons_zero, List.set_cons_succ])); (refine wpAnyT_take 4 (v := ?_) rfl (by kernel_rfl) (fun _ _ _ h => h) (Or.inl ⟨by kernel_rfl, ?_⟩) (by assumption) ?_; rotate_left; (intro wS hSw; (try dsimp only at hSw); go_simp; (try with_reducible rfl)); (try simp only [Act.put, List.setIfInBounds_toArray, List.set_cons_zero, List.set_cons_succ])); (refine wpAnyT_take 5 (v := ?_) rfl (by kernel_rfl) (fun _ _ _ h => h) (Or.inl ⟨by kernel_rfl, ?_⟩) (by assumption) ?_; rotate_left; (intro wS hSw; (try dsimp only at hSw); go_simp; (try with_reducible rfl)); (try simp only [Act.put, List.setIfInBounds_toArray, List.set_cons_zero, List.set_cons_succ])); (refine wpAnyT_take 6 (v := ?_) rfl (by kernel_rfl) (fun _ _ _ h => h) (Or.inl ⟨by kernel_rfl, ?_⟩) (by assumption) ?_; rotate_left; (intro wS hSw; (try dsimp only at hSw); go_simp; (try with_reducible rfl)); (try simp only [Act.put, List.setIfInBounds_toArray, List.set_cons_zero, List.set_cons_succ])); (refine wpAnyT_take 7 (v := ?_) rfl (by kernel_rfl) (fun _ _ _ h => h) (Or.inl ⟨by kernel_rfl, ?_⟩) (by assumption) ?_; rotate_left; (intro wS hSw; (try dsimp only at hSw); go_simp; (try with_reducible rfl)); (try simp only [Act.put, List.setIfInBounds_toArray, List.set_cons_zero, List.set_cons_succ])); (refine wpAnyT_take 8 (v := ?_) rfl (by kernel_rfl) (fun _ _ _ h => h) (Or.inl ⟨by kernel_rfl, ?_⟩) (by assumption) ?_; rotate_left; (intro wS hSw; (try dsimp only at hSw); go_simp; (try with_reducible rfl)); (try simp only [Act.put, List.setIfInBounds_toArray, List.set_cons_zero, List.set_cons_succ])); (refine wpAnyT_take 9 (v := ?_) rfl (by kernel_rfl) (fun _ _ _ h => h) (Or.inl ⟨by kernel_rfl, ?_⟩) (by assumption) ?_; rotate_left; (intro wS hSw; (try dsimp only at hSw); go_simp; (try with_reducible rfl)); (try simp only [Act.put, List.setIfInBounds_toArray, List.set_cons_zero, List.set_cons_succ])); (refine wpAnyT_take 10 (v := ?_) rfl (by kernel_rfl) (fun _ _ _ h => h) (Or.inl ⟨by kernel_rfl, ?_⟩) (by assumption) ?_; rotate_left; (intro wS hSw; (try dsimp only at hSw); go_simp; (try with_reducible rfl)); (try simp only [Act.put, List.setIfInBounds_toArray, List.set_cons_zero, List.set_cons_succ])); (refine wpAnyT_take 11 (v := ?_) rfl (by kernel_rfl) (fun _ _ _ h => h) (Or.inl ⟨by kernel_rfl, ?_⟩) (by assumption) ?_; rotate_left; (intro wS hSw; (try dsimp only at hSw); go_simp; (try with_reducible rfl)); (try simp only [Act.put, List.setIfInBounds_toArray, List.set_cons_zero, List.set_cons_succ])); (refine wpAnyT_take 12 (v := ?_) rfl (by kernel_rfl) (fun _ _ _ h => h) (Or.inl ⟨by kernel_rfl, ?_⟩) (by assumption) ?_; rotate_left; (intro wS hSw; (try dsimp only at hSw); go_simp; (try with_reducible rfl)); (try simp only [Act.put, List.setIfInBounds_toArray, List.set_cons_zero, List.set_cons_succ])); (refine wpAnyT_take 13 (v := ?_) rfl (by kernel_rfl) (fun _ _ _ h => h) (Or.inl ⟨by kernel_rfl, ?_⟩) (by assumption) ?_; rotate_left; (intro wS hSw; (try dsimp only at hSw); go_simp; (try with_reducible rfl)); (try simp only [Act.put, List.setIfInBounds_toArray, List.set_cons_zero, List.set_cons_succ])); (refine wpAnyT_take 14 (v := ?_) rfl (by kernel_rfl) (fun _ _ _ h => h) (Or.inl ⟨by kernel_rfl, ?_⟩) (by assumption) ?_; rotate_left; (intro wS hSw; (try dsimp only at hSw); go_simp; (try with_reducible rfl)); (try simp only [Act.put, List.setIfInBounds_toArray, List.set_cons_zero, List.set_cons_succ])); (refine wpAnyT_take 15 (v := ?_) rfl (by kernel_rfl) (fun _ _ _ h => h) (Or.inl ⟨by kernel_rfl, ?_⟩) (by assumption) ?_; rotate_left; (intro wS hSw; (try dsimp only at hSw); go_simp; (try with_reducible rfl)); (try simp only [Act.put, List.setIfInBounds_toArray, List.set_cons_zero, List.set_cons_succ])); (refine wpAnyT_take 16 (v := ?_) rfl (by kernel_rfl) (fun _ _ _ h => h) (Or.inl ⟨by kernel_rfl, ?_⟩) (by assumption) ?_; rotate_left; (intro wS hSw; (try dsimp only at hSw); go_simp; (try with_reducible rfl)); (try simp only [Act.put, List.setIfInBounds_toArray, List.set_cons_zero, List.set_cons_succ])))
      (refine wpAnyT_last 17 (by kernel_rfl) rfl (by decide) (by kernel_rfl) (fun K hK => ?_))
      go_simp
      (refine hK _ _ ?_; clear hK K; (try simp only [Act.put, List.setIfInBounds_toArray, List.set_cons_zero, List.set_cons_succ]))
      go_wp2_with fail
      obtain ⟨q, hq⟩ : ∃ q : Where3, q = ⟨p.an, p.cn, some ⟨g, 0, none⟩, gc, p.ao, p.co⟩ := ⟨_, rfl⟩
      obtain ⟨d, hdd⟩ : ∃ d : Circ, d = ⟨c.inputs, c.next, c.gates.set kn ((c.gates[kn]).2, (c.gates[kn]).1), c.outs⟩ := ⟨_, rfl⟩
      have hlen : d.gates.length = c.gates.length := by rw [hdd]; exact List.length_set
      generalize hW : ((w6.setCell ⟨g, kn * 2, none⟩ (.int .i64 (c.gates[kn]).2)).setCell ⟨g, kn * 2 + 1, none⟩ (.int .i64 (c.gates[kn]).1)).drew = wE
      have PX : CircBox wE B c p := by rw [← hW]; exact CircBox.ext ((x6.set (a := ⟨g, kn * 2, none⟩) (by simp; omega) (.int .i64 (c.gates[kn]).2)).set (a := ⟨g, kn * 2 + 1, none⟩) (by simp; omega) (.int .i64 (c.gates[kn]).1)) (Ext.drew _)
      have PY : Blk wE (B + 1) 26 [.int .i64 d.inputs, .slice q.an d.next.length q.cn, .slice q.ag d.gates.length q.cg, .slice q.ao d.outs.length q.co] := by rw [hlen, ← hW, hq, hdd]; exact ((y6.setOther (p := ⟨g, kn * 2, none⟩) (by simp; omega) (.int .i64 (c.gates[kn]).2)).setOther (p := ⟨g, kn * 2 + 1, none⟩) (by simp; omega) (.int .i64 (c.gates[kn]).1)).drew
      have Z2 : Blk wE w.heap.size 26 [.int .i64 0, .slice none 0 0, .slice none 0 0, .slice none 0 0] := by rw [← hW]; exact ((b26.setOther (p := ⟨g, kn * 2, none⟩) (by simp; omega) (.int .i64 (c.gates[kn]).2)).setOther (p := ⟨g, kn * 2 + 1, none⟩) (by simp; omega) (.int .i64 (c.gates[kn]).1)).drew
      have Z3 : Blk wE (w.heap.size + 1) 26 [.int .i64 0, .slice none 0 0, .slice none 0 0, .slice none 0 0] := by rw [← hW]; exact ((b36.setOther (p := ⟨g, kn * 2, none⟩) (by simp; omega) (.int .i64 (c.gates[kn]).2)).setOther (p := ⟨g, kn * 2 + 1, none⟩) (by simp; omega) (.int .i64 (c.gates[kn]).1)).drew
      have hsm : Small d := ⟨by rw [hdd]; exact hd.ln, by rw [hlen]; exact hd.lg, by rw [hdd]; exact hd.lo⟩
      have PK : PKeep w rb c d p q wE := by
        have hpg : PairsAt (((w6.setCell ⟨g, kn * 2, none⟩ (.int .i64 (c.gates[kn]).2)).setCell ⟨g, kn * 2 + 1, none⟩ (.int .i64 (c.gates[kn]).1))) (some ⟨g, 0, none⟩) (c.gates.set kn ((c.gates[kn]).2, (c.gates[kn]).1)) := pairsAt_of_row (by have h := ownsRow_at (ownsRow_setAt (ownsRow_setAt HO.out (kn * 2) (by rw [flat_length]; omega) (.int .i64 (c.gates[kn]).2)) (kn * 2 + 1) (by rw [List.length_set, flat_length]; omega) (.int .i64 (c.gates[kn]).1)); rw [flat_set2] at h; exact h)
        rw [← hW, hq, hdd]
        exact (PKeep.mk (w := w) (rb := rb) (d := ⟨c.inputs, c.next, c.gates.set kn ((c.gates[kn]).2, (c.gates[kn]).1), c.outs⟩) (q := ⟨p.an, p.cn, some ⟨g, 0, none⟩, gc, p.ao, p.co⟩) (OC.out g (by omega) _ (OC.out g (by omega) _ hC6 (kn * 2) (.int .i64 (c.gates[kn]).2)) (kn * 2 + 1) (.int .i64 (c.gates[kn]).1)) ⟨((OD.out g (by omega) _).1 ((OD.out g (by omega) _).1 hC6.nx (kn * 2) (.int .i64 (c.gates[kn]).2)) (kn * 2 + 1) (.int .i64 (c.gates[kn]).1)), hpg, ((OD.out g (by omega) _).2 ((OD.out g (by omega) _).2 hC6.ou (kn * 2) (.int .i64 (c.gates[kn]).2)) (kn * 2 + 1) (.int .i64 (c.gates[kn]).1)), hC6.ln, by dsimp only; rw [List.length_set]; omega, hC6.lo⟩ hF ⟨hF.1, fun x hx => by cases hx; dsimp only; omega, hF.2.2⟩ (Gr.setNew (Gr.setNew G6 (p := ⟨g, kn * 2, none⟩) (by dsimp only; omega) (.int .i64 (c.gates[kn]).2)) (p := ⟨g, kn * 2 + 1, none⟩) (by dsimp only; omega) (.int .i64 (c.gates[kn]).1))).drew
      have HW := Lib.hid hW
      have HQ := Lib.hid hq
      have HDD := Lib.hid hdd
      have HL := Lib.hid hlen
      clear hW y0 y1 y2 y3 yf hq hdd hlen c0 c1 cf
      (obtain ⟨lx, x0, x1, x2, x3⟩ := (id PX); (have y0 := PY.cell (i := 0) rfl; have y1 := PY.cell (i := 1) rfl; have y2 := PY.cell (i := 2) rfl; have y3 := PY.cell (i := 3) rfl; have yf := (fun i => PY.frozen i)); (have u0 := Z2.cell (i := 0) rfl; have u1 := Z2.cell (i := 1) rfl; have u2 := Z2.cell (i := 2) rfl; have u3 := Z2.cell (i := 3) rfl; have uf := (fun i => Z2.frozen i)); (have v0 := Z3.cell (i := 0) rfl; have v1 := Z3.cell (i := 1) rfl; have v2 := Z3.cell (i := 2) rfl; have v3 := Z3.cell (i := 3) rfl; have vf := (fun i => Z3.frozen i)); refine wp_regionT (fun w' => ∀ o, w'.cell? ⟨B, o, none⟩ = wE.cell? ⟨B, o, none⟩ ∧ w'.cell? ⟨B + 1, o, none⟩ = wE.cell? ⟨B + 1, o, none⟩) 3 (by kernel_rfl) ?_; have hS0 : ∀ o, wE.drew.cell? ⟨B, o, none⟩ = wE.cell? ⟨B, o, none⟩ ∧ wE.drew.cell? ⟨B + 1, o, none⟩ = wE.cell? ⟨B + 1, o, none⟩ := fun o => ⟨rfl, rfl⟩)
      (((refine wpAnyT_take 0 (v := ?_) rfl (by kernel_rfl) (fun _ _ _ h => h) (Or.inl ⟨by kernel_rfl, ?_⟩) (by assumption) ?_; rotate_left; (intro wS hSw; (try dsimp only at hSw); go_simp; (try with_reducible rfl)); (try simp only [Act.put, List.setIfInBounds_toArray, List.set_cons_zero, List.set_cons_succ])); (refine wpAnyT_take 1 (v := ?_) rfl (by kernel_rfl) (fun _ _ _ h => h) (Or.inl ⟨by kernel_rfl, ?_⟩) (by assumption) ?_; rotate_left; (intro wS hSw; (try dsimp only at hSw); go_simp; (try with_reducible rfl)); (try simp only [Act.put, List.setIfInBounds_toArray, List.set_cons_zero, List.set_cons_succ]))); (refine wpAnyT_do 2 (by kernel_rfl) rfl (fun K hK => ?_)); go_simp; (have hS1 : ∀ o, ((((wE.setCell ⟨w.heap.size, 0, none⟩ (.int .i64 c.inputs)).setCell ⟨w.heap.size, 1, none⟩ (.slice p.an c.next.length p.cn)).setCell ⟨w.heap.size, 2, none⟩ (.slice p.ag c.gates.length p.cg)).setCell ⟨w.heap.size, 3, none⟩ (.slice p.ao c.outs.length p.co)).cell? ⟨B, o, none⟩ = wE.cell? ⟨B, o, none⟩ ∧ ((((wE.setCell ⟨w.heap.size, 0, none⟩ (.int .i64 c.inputs)).setCell ⟨w.heap.size, 1, none⟩ (.slice p.an c.next.length p.cn)).setCell ⟨w.heap.size, 2, none⟩ (.slice p.ag c.gates.length p.cg)).setCell ⟨w.heap.size, 3, none⟩ (.slice p.ao c.outs.length p.co)).cell? ⟨B + 1, o, none⟩ = wE.cell? ⟨B + 1, o, none⟩ := fun o => ⟨set4_far (by omega), set4_far (by omega)⟩); (refine hK _ _ hS1 ?_; clear hK K; (try simp only [Act.put, List.setIfInBounds_toArray, List.set_cons_zero, List.set_cons_succ])); (refine wpAnyT_last 3 (by kernel_rfl) rfl (by decide) (by kernel_rfl) (fun K hK => ?_)); go_simp; (refine hK _ _ ?_; clear hK K; (try simp only [Act.put, List.setIfInBounds_toArray, List.set_cons_zero, List.set_cons_succ])); go_wp2)
      (have rA := ((((((((Z2.set 0 (.int .i64 c.inputs)).set 1 (.slice p.an c.next.length p.cn)).set 2 (.slice p.ag c.gates.length p.cg)).set 3 (.slice p.ao c.outs.length p.co)).setOther (p := ⟨w.heap.size + 1, 0, none⟩) (by simp) (.int .i64 d.inputs)).setOther (p := ⟨w.heap.size + 1, 1, none⟩) (by simp) (.slice q.an d.next.length q.cn)).setOther (p := ⟨w.heap.size + 1, 2, none⟩) (by simp) (.slice q.ag d.gates.length q.cg)).setOther (p := ⟨w.heap.size + 1, 3, none⟩) (by simp) (.slice q.ao d.outs.length q.co)); have rB := (((((((Z3.setOther (p := ⟨w.heap.size, 0, none⟩) (by simp) (.int .i64 c.inputs)).setOther (p := ⟨w.heap.size, 1, none⟩) (by simp) (.slice p.an c.next.length p.cn)).setOther (p := ⟨w.heap.size, 2, none⟩) (by simp) (.slice p.ag c.gates.length p.cg)).setOther (p := ⟨w.heap.size, 3, none⟩) (by simp) (.slice p.ao c.outs.length p.co)).set 0 (.int .i64 d.inputs)).set 1 (.slice q.an d.next.length q.cn)).set 2 (.slice q.ag d.gates.length q.cg)).set 3 (.slice q.ao d.outs.length q.co); have PF := ((((((((PK.set (b := w.heap.size) (by omega) (by omega) 0 (.int .i64 c.inputs)).set (b := w.heap.size) (by omega) (by omega) 1 (.slice p.an c.next.length p.cn)).set (b := w.heap.size) (by omega) (by omega) 2 (.slice p.ag c.gates.length p.cg)).set (b := w.heap.size) (by omega) (by omega) 3 (.slice p.ao c.outs.length p.co)).set (b := w.heap.size + 1) (by omega) (by omega) 0 (.int .i64 d.inputs)).set (b := w.heap.size + 1) (by omega) (by omega) 1 (.slice q.an d.next.length q.cn)).set (b := w.heap.size + 1) (by omega) (by omega) 2 (.slice q.ag d.gates.length q.cg)).set (b := w.heap.size + 1) (by omega) (by omega) 3 (.slice q.ao d.outs.length q.co)); (have r0 := rA.cell (i := 0) rfl; have r1 := rA.cell (i := 1) rfl; have r2 := rA.cell (i := 2) rfl; have r3 := rA.cell (i := 3) rfl; have rf := (fun i => rA.frozen i)); (have s0 := rB.cell (i := 0) rfl; have s1 := rB.cell (i := 1) rfl; have s2 := rB.cell (i := 2) rfl; have s3 := rB.cell (i := 3) rfl; have sf := (fun i => rB.frozen i)); refine bodyPost_ret (v := .tuple #[.agg #[.int .i64 c.inputs, .slice p.an c.next.length p.cn, .slice p.ag c.gates.length p.cg, .slice p.ao c.outs.length p.co], .agg #[.int .i64 d.inputs, .slice q.an d.next.length q.cn, .slice q.ag d.gates.length q.cg, .slice q.ao d.outs.length q.co]]) (by simp [results, Try.results36, go_sem, r0, r1, r2, r3, s0, s1, s2, s3]) rfl ?_; exact (PF.drew).post hd hsm)
  · go_wp2_with (at_builtin; refine wpList_app tyGates ((Blk.new w3 [] 46).owns (n := 0) rfl (Nat.le_refl _) (by decide)) ((hC.ext ((Ext.refl w3).alloc (.cells #[] 46))).gs.row) (flat_length _) (oneCell_flat _) (by omega) (by simp) rfl rfl rfl rfl ?_; intro v4 w4 o4 g4 m4; simp only [Nat.zero_add, List.nil_append] at o4; obtain ⟨ga, gc, rfl, r4, n4, _, q4⟩ := ownsRow_row o4; clear y0 y1 y2 y3 yf x0 x1 x2 x3; have hE4 : Ext w3 w4 := ext_of_gr ((Ext.refl w3).alloc (.cells #[] 46)) g4 (Nat.le_refl _); have y4 := y.ext hE4; (have y0 := y4.cell (i := 0) rfl; have y1 := y4.cell (i := 1) rfl; have y2 := y4.cell (i := 2) rfl; have y3 := y4.cell (i := 3) rfl; have yf := (fun i => y4.frozen i)))
    have hC := hC.ext hE4
    have x := x.ext hE4
    have b2 := b2.ext hE4
    have b3 := b3.ext hE4
    have G3 := Gr.trans G3 (Gr.ext hE4 (some rb))
    have hsm := drawn_small hd
    have s4 := hE4.size
    obtain ⟨q, hq⟩ : ∃ q : Where3, q = ⟨p.an, p.cn, ga, gc, p.ao, p.co⟩ := ⟨_, rfl⟩
    obtain ⟨d, hdd⟩ : ∃ d : Circ, d = c := ⟨_, rfl⟩
    generalize hW : w4.setCell ⟨B + 1, 2, none⟩ (.slice ga c.gates.length gc) = wE
    have PX : CircBox wE B c p := by rw [← hW]; exact x.set (by simp) _
    have PY : Blk wE (B + 1) 26 [.int .i64 d.inputs, .slice q.an d.next.length q.cn, .slice q.ag d.gates.length q.cg, .slice q.ao d.outs.length q.co] := by rw [← hW, hq, hdd]; exact y4.set 2 _
    have Z2 : Blk wE w.heap.size 26 [.int .i64 0, .slice none 0 0, .slice none 0 0, .slice none 0 0] := by rw [← hW]; exact b2.setOther (by simp; omega) _
    have Z3 : Blk wE (w.heap.size + 1) 26 [.int .i64 0, .slice none 0 0, .slice none 0 0, .slice none 0 0] := by rw [← hW]; exact b3.setOther (by simp; omega) _
    have hsm : Small d := by rw [hdd]; exact hsm
    have PK : PKeep w rb c d p q wE := by
      rw [← hW, hq, hdd]
      exact (PKeep.mk (d := c) (q := ⟨p.an, p.cn, ga, gc, p.ao, p.co⟩) hC ⟨hC.nx, pairsAt_of_row r4, hC.ou, hC.ln, hC.lg, hC.lo⟩ hF ⟨hF.1, fun x hx => by have := (q4 x hx).1; omega, hF.2.2⟩ G3).setU (by omega) (OC.out _ (by omega)) (keeps_new (F := w3.heap.size) OD1 (fun x hx => (q4 x hx).1) (by omega)) _ _
    have HW := Lib.hid hW
    have HQ := Lib.hid hq
    have HDD := Lib.hid hdd
    clear hW y0 y1 y2 y3 yf hq hdd
    (obtain ⟨lx, x0, x1, x2, x3⟩ := (id PX); (have y0 := PY.cell (i := 0) rfl; have y1 := PY.cell (i := 1) rfl; have y2 := PY.cell (i := 2) rfl; have y3 := PY.cell (i := 3) rfl; have yf := (fun i => PY.frozen i)); (have u0 := Z2.cell (i := 0) rfl; have u1 := Z2.cell (i := 1) rfl; have u2 := Z2.cell (i := 2) rfl; have u3 := Z2.cell (i := 3) rfl; have uf := (fun i => Z2.frozen i)); (have v0 := Z3.cell (i := 0) rfl; have v1 := Z3.cell (i := 1) rfl; have v2 := Z3.cell (i := 2) rfl; have v3 := Z3.cell (i := 3) rfl; have vf := (fun i => Z3.frozen i)); refine wp_regionT (fun w' => ∀ o, w'.cell? ⟨B, o, none⟩ = wE.cell? ⟨B, o, none⟩ ∧ w'.cell? ⟨B + 1, o, none⟩ = wE.cell? ⟨B + 1, o, none⟩) 3 (by kernel_rfl) ?_; have hS0 : ∀ o, wE.drew.cell? ⟨B, o, none⟩ = wE.cell? ⟨B, o, none⟩ ∧ wE.drew.cell? ⟨B + 1, o, none⟩ = wE.cell? ⟨B + 1, o, none⟩ := fun o => ⟨rfl, rfl⟩)
    (((refine wpAnyT_take 0 (v := ?_) rfl (by kernel_rfl) (fun _ _ _ h => h) (Or.inl ⟨by kernel_rfl, ?_⟩) (by assumption) ?_; rotate_left; (intro wS hSw; (try dsimp only at hSw); go_simp; (try with_reducible rfl)); (try simp only [Act.put, List.setIfInBounds_toArray, List.set_cons_zero, List.set_cons_succ])); (refine wpAnyT_take 1 (v := ?_) rfl (by kernel_rfl) (fun _ _ _ h => h) (Or.inl ⟨by kernel_rfl, ?_⟩) (by assumption) ?_; rotate_left; (intro wS hSw; (try dsimp only at hSw); go_simp; (try with_reducible rfl)); (try simp only [Act.put, List.setIfInBounds_toArray, List.set_cons_zero, List.set_cons_succ]))); (refine wpAnyT_do 2 (by kernel_rfl) rfl (fun K hK => ?_)); go_simp; (have hS1 : ∀ o, ((((wE.setCell ⟨w.heap.size, 0, none⟩ (.int .i64 c.inputs)).setCell ⟨w.heap.size, 1, none⟩ (.slice p.an c.next.length p.cn)).setCell ⟨w.heap.size, 2, none⟩ (.slice p.ag c.gates.length p.cg)).setCell ⟨w.heap.size, 3, none⟩ (.slice p.ao c.outs.length p.co)).cell? ⟨B, o, none⟩ = wE.cell? ⟨B, o, none⟩ ∧ ((((wE.setCell ⟨w.heap.size, 0, none⟩ (.int .i64 c.inputs)).setCell ⟨w.heap.size, 1, none⟩ (.slice p.an c.next.length p.cn)).setCell ⟨w.heap.size, 2, none⟩ (.slice p.ag c.gates.length p.cg)).setCell ⟨w.heap.size, 3, none⟩ (.slice p.ao c.outs.length p.co)).cell? ⟨B + 1, o, none⟩ = wE.cell? ⟨B + 1, o, none⟩ := fun o => ⟨set4_far (by omega), set4_far (by omega)⟩); (refine hK _ _ hS1 ?_; clear hK K; (try simp only [Act.put, List.setIfInBounds_toArray, List.set_cons_zero, List.set_cons_succ])); (refine wpAnyT_last 3 (by kernel_rfl) rfl (by decide) (by kernel_rfl) (fun K hK => ?_)); go_simp; (refine hK _ _ ?_; clear hK K; (try simp only [Act.put, List.setIfInBounds_toArray, List.set_cons_zero, List.set_cons_succ])); go_wp2)
    (have rA := ((((((((Z2.set 0 (.int .i64 c.inputs)).set 1 (.slice p.an c.next.length p.cn)).set 2 (.slice p.ag c.gates.length p.cg)).set 3 (.slice p.ao c.outs.length p.co)).setOther (p := ⟨w.heap.size + 1, 0, none⟩) (by simp) (.int .i64 d.inputs)).setOther (p := ⟨w.heap.size + 1, 1, none⟩) (by simp) (.slice q.an d.next.length q.cn)).setOther (p := ⟨w.heap.size + 1, 2, none⟩) (by simp) (.slice q.ag d.gates.length q.cg)).setOther (p := ⟨w.heap.size + 1, 3, none⟩) (by simp) (.slice q.ao d.outs.length q.co)); have rB := (((((((Z3.setOther (p := ⟨w.heap.size, 0, none⟩) (by simp) (.int .i64 c.inputs)).setOther (p := ⟨w.heap.size, 1, none⟩) (by simp) (.slice p.an c.next.length p.cn)).setOther (p := ⟨w.heap.size, 2, none⟩) (by simp) (.slice p.ag c.gates.length p.cg)).setOther (p := ⟨w.heap.size, 3, none⟩) (by simp) (.slice p.ao c.outs.length p.co)).set 0 (.int .i64 d.inputs)).set 1 (.slice q.an d.next.length q.cn)).set 2 (.slice q.ag d.gates.length q.cg)).set 3 (.slice q.ao d.outs.length q.co); have PF := ((((((((PK.set (b := w.heap.size) (by omega) (by omega) 0 (.int .i64 c.inputs)).set (b := w.heap.size) (by omega) (by omega) 1 (.slice p.an c.next.length p.cn)).set (b := w.heap.size) (by omega) (by omega) 2 (.slice p.ag c.gates.length p.cg)).set (b := w.heap.size) (by omega) (by omega) 3 (.slice p.ao c.outs.length p.co)).set (b := w.heap.size + 1) (by omega) (by omega) 0 (.int .i64 d.inputs)).set (b := w.heap.size + 1) (by omega) (by omega) 1 (.slice q.an d.next.length q.cn)).set (b := w.heap.size + 1) (by omega) (by omega) 2 (.slice q.ag d.gates.length q.cg)).set (b := w.heap.size + 1) (by omega) (by omega) 3 (.slice q.ao d.outs.length q.co)); (have r0 := rA.cell (i := 0) rfl; have r1 := rA.cell (i := 1) rfl; have r2 := rA.cell (i := 2) rfl; have r3 := rA.cell (i := 3) rfl; have rf := (fun i => rA.frozen i)); (have s0 := rB.cell (i := 0) rfl; have s1 := rB.cell (i := 1) rfl; have s2 := rB.cell (i := 2) rfl; have s3 := rB.cell (i := 3) rfl; have sf := (fun i => rB.frozen i)); refine bodyPost_ret (v := .tuple #[.agg #[.int .i64 c.inputs, .slice p.an c.next.length p.cn, .slice p.ag c.gates.length p.cg, .slice p.ao c.outs.length p.co], .agg #[.int .i64 d.inputs, .slice q.an d.next.length q.cn, .slice q.ag d.gates.length q.cg, .slice q.ao d.outs.length q.co]]) (by simp [results, Try.results36, go_sem, r0, r1, r2, r3, s0, s1, s2, s3]) rfl ?_; exact (PF.drew).post hd hsm)
end Go.Proofs.Ytpfhlodlefcomaa
