/- Bundle: one cycle of the fabric. -/
import Derived.Test.YtkdiniaddnhkdaaBWir
import Derived.Test.YtkdiniaddnhkdaaStp0
import Derived.Test.YtkdiniaddnhkdaaFabR
import Derived.Test.YtkdiniaddnhkdaaRegion2
import Derived.Deep.DeepCutAuto
namespace Go.Proofs.Ytkdiniaddnhkdaa
open Go.RowKit Go.Maps
set_option maxRecDepth 100000
set_option linter.unusedVariables false
set_option linter.unusedSimpArgs false
theorem padTile_c (o : Nat) (ho : o < 100) (w : World) : Calls Try.prog 136 #[.int .i64 o] w fun e w' => e = .returned (.int .i64 ((o * 5 + 4 : Nat) : Int)) ∧ w = w' := by
  have h : ((o * 5 + 4 : Nat) : Int) = (o : Int) * 5 + 5 - 1 := by omega
  rw [h]
  go_enter Try.func136, Try.ntmps136
  go_wp2
  go_ret
  exact ⟨rfl, rfl⟩
/-- What the program's cycle keeps: the outputs' slice in a box, and boxes beside it. -/
structure StI (w : World) (base rb mb : Nat) (bx : Nat → TypeId → List Value → Prop) (F : Wire → Bool) (ov rv : Value) (xs : List Bool) (m : Marks) (wr : World) : Prop where
  own : OwnB wr base ov xs
  q : Blk wr rb 65 [ov, rv]
  ext : Ext w wr
  oth : ∀ B t cs, bx B t cs → Blk wr B t cs ∧ B < base ∧ B ≠ rb ∧ B ≠ mb
  kn : KnM wr mb F m
  hb : rb < base
  hw : w.heap.size ≤ rb
  hs : base ≤ wr.heap.size
  hm : mb < base
  hmr : mb ≠ rb
  hmw : w.heap.size ≤ mb
theorem KnM.setOther {w : World} {mb : Nat} {F : Wire → Bool} {m : Marks} (h : KnM w mb F m) {p : Addr} (hp : mb ≠ p.block) (v : Value) : KnM (w.setCell p v) mb F m :=
  h.kept (r := some p.block) ⟨rfl, rfl, rfl, by simp, fun k _ hk => heap_setCell_other w p k v (fun e => hk (by rw [e]))⟩ (someNe hp)
section
variable {w wr w1 w8 : World} {base rb mb : Nat} {bx bx' : Nat → TypeId → List Value → Prop} {F : Wire → Bool} {ov rv v' : Value} {xs : List Bool} {m m' : Marks}
theorem StI.box (h : StI w base rb mb bx F ov rv xs m wr) {B : Nat} {t : TypeId} {cs : List Value} (hb : bx B t cs) : Blk wr B t cs := (h.oth B t cs hb).1
theorem StI.ext' (h : StI w base rb mb bx F ov rv xs m wr) (e : Ext wr w1) : StI w base rb mb bx F ov rv xs m w1 :=
  { h with own := h.own.ext e, q := h.q.ext e, ext := h.ext.trans e, oth := fun B t cs hb => ⟨(h.oth B t cs hb).1.ext e, (h.oth B t cs hb).2⟩, kn := h.kn.ext e, hs := Nat.le_trans h.hs e.size }
theorem StI.call (h : StI w base rb mb bx F ov rv xs m wr) (g : wr.grownBy w1 (some mb)) (hk : KnM w1 mb F m') : StI w base rb mb bx F ov rv xs m' w1 :=
  { h with
    own := ownsRow_gr h.own g (by
      cases hq : ov.ownBlock with
      | none => exact .inl rfl
      | some q => exact .inr (fun e2 => by have h1 := (h.own.lt' q hq).1; have h2 := h.hm; have := Option.some.inj e2; omega))
    q := h.q.gr g (someNe h.hmr)
    ext := Gr.behind g h.ext h.hmw
    oth := fun B t cs hb => ⟨(h.oth B t cs hb).1.gr g (someNe (fun e => (h.oth B t cs hb).2.2.2 e.symm)), (h.oth B t cs hb).2⟩
    kn := hk
    hs := Nat.le_trans h.hs g.size }
theorem StI.app1 (h : StI w base rb mb bx F ov rv xs m wr) (e : Ext wr w1) {b : Bool} (o8 : w8.ownsRow base 4 1 v' (xs.length + 1) (xs.map Value.bool ++ [.bool b])) (g8 : w1.grownBy w8 ov.ownBlock) :
    StI w base rb mb bx F v' rv (xs ++ [b]) m (w8.setCell ⟨rb, 0, none⟩ v') := by
  have h1 := h.ext' e
  have hvl : v'.ownBlock ≠ some rb := fun q => by have := (World.ownsRow.lt o8 _ q).1; have := h.hb; omega
  have hol : ∀ q, ov.ownBlock = some q → base ≤ q := fun q hq => (h.own.lt' q hq).1
  refine { h with own := ?_, q := ?_, ext := ?_, oth := ?_, kn := ?_, hs := ?_ }
  · exact OwnB.setOther (OwnB.app (ys := [b]) rfl rfl o8) hvl _
  · exact (h1.q.gr g8 (fun q => by have := hol _ q; have := h.hb; omega)).set 0 v'
  · exact Ext.setNew (ext_grown h1.ext g8 (fun k hk => by have := hol k hk; have := h.hb; have := h.hw; omega)) h.hw _
  · intro B t cs hb
    obtain ⟨a1, a2, a3⟩ := h1.oth B t cs hb
    exact ⟨(a1.gr g8 (fun q => by have := hol _ q; omega)).setOther a3.1 _, a2, a3⟩
  · exact (h1.kn.kept g8 (fun e2 => by have := hol mb e2.symm; have := h.hm; omega)).setOther h.hmr _
  · have := g8.size; have := h1.hs; simp; omega
/-- A store into one of the boxes. -/
theorem StI.setB (h : StI w base rb mb bx F ov rv xs m wr) {B0 i : Nat} {v : Value} (h1 : B0 < base) (h2 : B0 ≠ rb) (h3 : B0 ≠ mb) (h4 : w.heap.size ≤ B0)
    (hbx : ∀ B t cs, bx' B t cs → (B ≠ B0 ∧ bx B t cs) ∨ (B = B0 ∧ ∃ cs0, bx B t cs0 ∧ cs = cs0.set i v)) : StI w base rb mb bx' F ov rv xs m (wr.setCell ⟨B0, i, none⟩ v) := by
  refine { h with own := ?_, q := ?_, ext := ?_, oth := ?_, kn := ?_, hs := ?_ }
  · exact OwnB.setOther h.own (fun q => by have h9 : base ≤ B0 := (h.own.lt' _ q).1; omega) _
  · exact h.q.setOther (fun e => h2 e.symm) _
  · exact Ext.setNew h.ext h4 _
  · intro B t cs hb
    rcases hbx B t cs hb with ⟨hne, ho⟩ | ⟨rfl, cs0, ho, rfl⟩
    · obtain ⟨a1, a2⟩ := h.oth B t cs ho
      exact ⟨a1.setOther hne _, a2⟩
    · obtain ⟨a1, a2⟩ := h.oth B t cs0 ho
      exact ⟨a1.set i v, a2⟩
  · exact h.kn.setOther (fun e => h3 e.symm) _
  · have := h.hs; simp; omega
end
def BxI (k : Conf) (ta pa ra ia : Option Addr) (tc pc rc ic n1 n2 rn kb mb ob rgb : Nat) (rs : List Bool) (B : Nat) (t : TypeId) (cs : List Value) : Prop :=
  (B = rn ∧ t = 161 ∧ cs = [.pointer (some ⟨kb, 0, none⟩), .slice ra n1 rc, .slice ia n2 ic, .map (some mb)]) ∨ (B = kb ∧ t = 25 ∧ cs = [.slice ta k.ts.length tc, .slice pa k.ps.length pc]) ∨ (B = ob ∧ t = 65 ∧ cs = [.slice none 0 0, .slice none 0 0]) ∨ (B = rgb ∧ t = 4 ∧ cs = rs.map Value.bool)
set_option maxHeartbeats 8000000 in
theorem stepFabric_c (k : Conf) (ta pa ra ia : Option Addr) (tc pc rc ic kb : Nat) (regs ins : List Bool) (hok : k.Ok) (hf : ∀ x : Wire, x.Ok → ∃ n, FinN k n x) (hr : 25 ≤ regs.length ∧ regs.length ≤ 25) (hil : ins.length ≤ 4) (w : World) (hF : FabAt w k ta pa ra regs ia ins) (y : Blk w kb 25 [.slice ta k.ts.length tc, .slice pa k.ps.length pc]) :
    Calls Try.prog 100 #[.pointer (some ⟨kb, 0, none⟩), .slice ra regs.length rc, .slice ia ins.length ic] w (GiveF w (outsV k regs ins 3) (nextV k regs ins 25)) := by
  have hmm := @run_makeMap Try.prog
  have hps := hF.k.ps
  have hts := hF.k.ts
  have kl := y.lt
  have HPS := Lib.hid hok.ps
  obtain ⟨lt1, lt2⟩ : k.ts.length ≤ 25 ∧ 25 ≤ k.ts.length := by have := hok.lt; omega
  obtain ⟨lp1, lp2⟩ : k.ps.length ≤ 3 ∧ 3 ≤ k.ps.length := by have := hok.lp; omega
  obtain ⟨O, HO⟩ : ∃ O : Nat → List Bool, Hid (O = outsV k regs ins) := ⟨_, Lib.hid rfl⟩
  obtain ⟨N, HN⟩ : ∃ N : Nat → List Bool, Hid (N = nextV k regs ins) := ⟨_, Lib.hid rfl⟩
  rw [← HO.out, ← HN.out]
  go_enter Try.func100, Try.ntmps100
  go_wp2_with fail
  have M0 := KnM.made (w.alloc (.cells #[.slice none 0 0, .slice none 0 0] 65)) (valW k regs ins)
  have e0 : (w.alloc (.cells #[.slice none 0 0, .slice none 0 0] 65)).heap.size = w.heap.size + 1 := by simp
  rw [e0] at M0
  have rn0 := Blk.at ((w.alloc (.cells #[.slice none 0 0, .slice none 0 0] 65)).alloc (.map #[] 0)) [.pointer (some ⟨kb, 0, none⟩), .slice ra regs.length rc, .slice ia ins.length ic, .map (some (w.heap.size + 1))] 161 (B := w.heap.size + 1 + 1) (by simp)
  have ob0 := ((Blk.at w [.slice none 0 0, .slice none 0 0] 65 rfl).alloc (.map #[] 0)).alloc (.cells #[.pointer (some ⟨kb, 0, none⟩), .slice ra regs.length rc, .slice ia ins.length ic, .map (some (w.heap.size + 1))] 161)
  have E0 : Ext w (((w.alloc (.cells #[.slice none 0 0, .slice none 0 0] 65)).alloc (.map #[] 0)).alloc (.cells #[.pointer (some ⟨kb, 0, none⟩), .slice ra regs.length rc, .slice ia ins.length ic, .map (some (w.heap.size + 1))] 161)) := by (repeat (first | with_reducible assumption | with_reducible exact Ext.refl _ | with_reducible refine Ext.drew' ?_ | with_reducible refine Ext.drewN' ?_ _ | with_reducible refine Ext.alloc ?_ _ | (with_reducible refine Ext.setNew ?_ (by first | exact Nat.le_refl _ | (simp; done) | (simp; omega) | omega) _)))
  have M1 := M0.ext ((Ext.refl _).alloc (.cells #[.pointer (some ⟨kb, 0, none⟩), .slice ra regs.length rc, .slice ia ins.length ic, .map (some (w.heap.size + 1))] 161))
  have z0 : (((w.alloc (.cells #[.slice none 0 0, .slice none 0 0] 65)).alloc (.map #[] 0)).alloc (.cells #[.pointer (some ⟨kb, 0, none⟩), .slice ra regs.length rc, .slice ia ins.length ic, .map (some (w.heap.size + 1))] 161)).heap.size = w.heap.size + 1 + 1 + 1 := by simp
  refine (implReset_c _).mono ?_
  rintro e w1 ⟨B, rfl, hB, hI, hE1⟩
  rw [z0] at hB
  have Bl := hI.lt
  have S0 : StI w (w1.heap.size + 1) w1.heap.size (w.heap.size + 1) (BxI k ta pa ra ia tc pc rc ic regs.length ins.length (w.heap.size + 1 + 1) kb (w.heap.size + 1) w.heap.size B (List.replicate 25 false)) (valW k regs ins) (.slice none 0 0) (.slice (some ⟨B, 0, none⟩) 25 25) [] mark0 (w1.alloc (.cells #[.slice none 0 0, .slice (some ⟨B, 0, none⟩) 25 25] 65)) := by
    have A := (Ext.refl w1).alloc (.cells #[.slice none 0 0, .slice (some ⟨B, 0, none⟩) 25 25] 65)
    have E1 := hE1.trans A
    refine ⟨OwnB.nil, Blk.at w1 [.slice none 0 0, .slice (some ⟨B, 0, none⟩) 25 25] 65 rfl, E0.trans E1, fun B' t cs hb => ?_, M1.ext E1, by omega, by have := (E0.trans hE1).size; omega, by simp, by omega, by omega, by omega⟩
    rcases hb with ⟨rfl, rfl, rfl⟩ | ⟨rfl, rfl, rfl⟩ | ⟨rfl, rfl, rfl⟩ | ⟨rfl, rfl, rfl⟩
    · exact ⟨rn0.ext E1, by omega, by omega, by omega⟩
    · exact ⟨y.ext (E0.trans E1), by omega, by omega, by omega⟩
    · exact ⟨ob0.ext E1, by omega, by omega, by omega⟩
    · exact ⟨hI.ext A, by omega, by omega, by omega⟩
  have HF0 := Lib.hid (hF.ext (Ext.refl w))
  have RA := Lib.hid (fun (ov : Value) (xs : List Bool) (m : Marks) (rs : List Bool) (wr : World) (h : StI w (w1.heap.size + 1) w1.heap.size (w.heap.size + 1) (BxI k ta pa ra ia tc pc rc ic regs.length ins.length (w.heap.size + 1 + 1) kb (w.heap.size + 1) w.heap.size B rs) (valW k regs ins) ov (.slice (some ⟨B, 0, none⟩) 25 25) xs m wr) => (⟨h.box (.inl ⟨rfl, rfl, rfl⟩), h.box (.inr (.inl ⟨rfl, rfl, rfl⟩)), h.ext, by omega, by omega, by omega⟩ : RunAt w (w.heap.size + 1 + 1) kb (w.heap.size + 1) [.slice ta k.ts.length tc, .slice pa k.ps.length pc] [.pointer (some ⟨kb, 0, none⟩), .slice ra regs.length rc, .slice ia ins.length ic, .map (some (w.heap.size + 1))] wr))
  have VC := Lib.hid (fun (n : Nat) (x : Wire) (hx : x.Ok) (hn : rk k x < n) => value_c k w (w.heap.size + 1 + 1) kb (w.heap.size + 1) ta pa ra ia tc pc rc ic regs ins hok hf hr hil hF n x hx hn)
  have zb : w.heap.size + 1 + 1 < w1.heap.size := by omega
  clear M0 M1 rn0 ob0 E0 z0 e0 hI hE1 hmm y
  go_upto_region 3 with fail
  have z1 : w1.heap.size < (w1.alloc (.cells #[.slice none 0 0, .slice (some ⟨B, 0, none⟩) 25 25] 65)).heap.size := by simp
  generalize w1.alloc (.cells #[.slice none 0 0, .slice (some ⟨B, 0, none⟩) 25 25] 65) = W2 at *
  have yk := S0.box (.inr (.inl ⟨rfl, rfl, rfl⟩))
  have y1 := yk.cell (i := 1) rfl
  have yl := yk.lt
  go_wp2_with fail
  go_loopw [25] (fun u25 wr => ∃ (j : Nat) (ov : Value) (m : Marks), j ≤ k.ps.length ∧ u25 = .int .i64 j ∧ StI w (w1.heap.size + 1) w1.heap.size (w.heap.size + 1) (BxI k ta pa ra ia tc pc rc ic regs.length ins.length (w.heap.size + 1 + 1) kb (w.heap.size + 1) w.heap.size B (List.replicate 25 false)) (valW k regs ins) ov (.slice (some ⟨B, 0, none⟩) 25 25) (O j) m wr) (fun i _ => k.ps.length - (intOf i).toNat)
  case atStart => exact ⟨0, .slice none 0 0, mark0, Nat.zero_le _, rfl, by rw [HO.out]; exact S0⟩
  case round =>
    clear S0 yk y1 yl z1
    obtain ⟨j, ov, m, hj, rfl, S0⟩ := hrel
    have hE := S0.ext
    by_cases hlt : j < k.ps.length
    · obtain ⟨b, o, rfl, hb, hcc⟩ := (hps.ext hE).get (by omega)
      obtain ⟨g0, g1⟩ := hcc j hlt
      have htr := trackB_cases (HPS.out j (by omega))
      have hsucc := outsV_succ k regs ins j
      rw [← HO.out] at hsucc
      have hOl : (O j).length = j := by rw [HO.out]; exact outsV_len _ _ _ _
      obtain ⟨x, hx⟩ : ∃ x, x = k.ps.getD j (0, false) := ⟨_, rfl⟩
      rw [← hx] at g0 g1 htr hsucc
      obtain ⟨s, v⟩ := x
      dsimp only at g0 g1 htr hsucc
      have HOL := Lib.hid hOl
      have hrd := Lib.hid (fun (m : Marks) (wr : World) (hR : RunAt w (w.heap.size + 1 + 1) kb (w.heap.size + 1) _ _ wr) (hK : KnM wr (w.heap.size + 1) (valW k regs ins) m) => read_c k w (w.heap.size + 1 + 1) kb (w.heap.size + 1) _ _ (valW k regs ins) (rk k (j * 5 + 4, s.toNat) + 1) (j * 5 + 4) s (fun h15 => ⟨by omega, VC.out _ _ ⟨by dsimp only; omega, by dsimp only; omega⟩ (by omega)⟩) m wr hR hK)
      obtain ⟨z, hz⟩ : ∃ z, z = rdV (valW k regs ins) (j * 5 + 4) s := ⟨_, rfl⟩
      rw [← hz] at hrd hsucc
      have HSU := Lib.hid hsucc
      obtain ⟨w2, rfl⟩ : ∃ z : World, z = wr := ⟨_, rfl⟩
      have A2 : Ext w2 (w2.alloc (.cells #[.int .i64 s, .bool v] 87)) := (Ext.refl w2).alloc _
      have S2 := S0.ext' A2
      have p2 := Blk.at w2 [.int .i64 s, .bool v] 87 rfl
      have zp := S0.hs
      clear hcc hx hsucc hOl hz htr
      go_upto_region 6 with fail
      generalize w2.alloc (.cells #[.int .i64 s, .bool v] 87) = W3 at *
      have d0 := S2.q.cell (i := 0) rfl
      have ql := S2.q.lt
      have e0 := p2.cell (i := 0) rfl
      have e1 := p2.cell (i := 1) rfl
      have pl := p2.lt
      clear g0 g1 S0
      refine wp_regionT (fun w' => w'.cell? ⟨w1.heap.size, 0, none⟩ = some ov ∧ w'.cell? ⟨w2.heap.size, 0, none⟩ = some (.int .i64 s) ∧ w'.cell? ⟨w2.heap.size, 1, none⟩ = some (.bool v)) 12 (by kernel_rfl) ?_
      have hS0 := And.intro (a := (World.drew W3).cell? ⟨w1.heap.size, 0, none⟩ = some ov) d0 (And.intro (a := (World.drew W3).cell? ⟨w2.heap.size, 0, none⟩ = some (.int .i64 s)) e0 (show (World.drew W3).cell? ⟨w2.heap.size, 1, none⟩ = some (.bool v) from e1))
      ((refine wpAnyT_take 0 (v := ?_) rfl (by kernel_rfl) (fun _ _ _ h => h) (Or.inl ⟨by kernel_rfl, ?_⟩) (by assumption) ?_; rotate_left; (intro wS hSw; (try dsimp only at hSw); go_simp; (try with_reducible rfl)); (try simp only [Act.put, List.setIfInBounds_toArray, List.set_cons_zero, List.set_cons_succ])); (refine wpAnyT_take 1 (v := ?_) rfl (by kernel_rfl) (fun _ _ _ h => h) (Or.inl ⟨by kernel_rfl, ?_⟩) (by assumption) ?_; rotate_left; (intro wS hSw; (try dsimp only at hSw); go_simp; (try with_reducible rfl)); (try simp only [Act.put, List.setIfInBounds_toArray, List.set_cons_zero, List.set_cons_succ])); (refine wpAnyT_take 2 (v := ?_) rfl (by kernel_rfl) (fun _ _ _ h => h) (Or.inl ⟨by kernel_rfl, ?_⟩) (by assumption) ?_; rotate_left; (intro wS hSw; (try dsimp only at hSw); go_simp; (try with_reducible rfl)); (try simp only [Act.put, List.setIfInBounds_toArray, List.set_cons_zero, List.set_cons_succ])); (refine wpAnyT_take 3 (v := ?_) rfl (by kernel_rfl) (fun _ _ _ h => h) (Or.inl ⟨by kernel_rfl, ?_⟩) (by assumption) ?_; rotate_left; (intro wS hSw; (try dsimp only at hSw); go_simp; (try with_reducible rfl)); (try simp only [Act.put, List.setIfInBounds_toArray, List.set_cons_zero, List.set_cons_succ])); (refine wpAnyT_take 5 (v := ?_) rfl (by kernel_rfl) (fun _ _ _ h => h) (Or.inl ⟨by kernel_rfl, ?_⟩) (by assumption) ?_; rotate_left; (intro wS hSw; (try dsimp only at hSw); go_simp; (try with_reducible rfl)); (try simp only [Act.put, List.setIfInBounds_toArray, List.set_cons_zero, List.set_cons_succ])); (refine wpAnyT_take 6 (v := ?_) rfl (by kernel_rfl) (fun _ _ _ h => h) (Or.inl ⟨by kernel_rfl, ?_⟩) (by assumption) ?_; rotate_left; (intro wS hSw; (try dsimp only at hSw); go_simp; (try with_reducible rfl)); (try simp only [Act.put, List.setIfInBounds_toArray, List.set_cons_zero, List.set_cons_succ])); (refine wpAnyT_take 8 (v := ?_) rfl (by kernel_rfl) (fun _ _ _ h => h) (Or.inl ⟨by kernel_rfl, ?_⟩) (by assumption) ?_; rotate_left; (intro wS hSw; (try dsimp only at hSw); go_simp; (try with_reducible rfl)); (try simp only [Act.put, List.setIfInBounds_toArray, List.set_cons_zero, List.set_cons_succ])); (refine wpAnyT_take 9 (v := ?_) rfl (by kernel_rfl) (fun _ _ _ h => h) (Or.inl ⟨by kernel_rfl, ?_⟩) (by assumption) ?_; rotate_left; (intro wS hSw; (try dsimp only at hSw); go_simp; (try with_reducible rfl)); (try simp only [Act.put, List.setIfInBounds_toArray, List.set_cons_zero, List.set_cons_succ])))
      (refine wpAnyT_do 4 (by kernel_rfl) rfl (fun K hK => ?_))
      go_simp
      refine (padTile_c j (by omega) _).mono ?_
      rintro e w3 ⟨rfl, rfl⟩
      (refine hK _ _ hS0 ?_; clear hK K; (try simp only [Act.put, List.setIfInBounds_toArray, List.set_cons_zero, List.set_cons_succ]))
      (refine wpAnyT_do 7 (by kernel_rfl) rfl (fun K hK => ?_))
      go_simp
      have S3 := S2.ext' (Ext.drew W3)
      refine (hrd.out m _ (RA.out _ _ _ _ _ S3) S3.kn).mono ?_
      rintro e w4 ⟨m4, rfl, K4, _, G4⟩
      have S4 := S3.call G4 K4
      have p4 := (p2.ext (Ext.drew W3)).gr G4 (someNe (by omega))
      have hS1 := And.intro (S4.q.cell (i := 0) rfl) (And.intro (p4.cell (i := 0) rfl) (p4.cell (i := 1) rfl))
      (refine hK _ _ hS1 ?_; clear hK K; (try simp only [Act.put, List.setIfInBounds_toArray, List.set_cons_zero, List.set_cons_succ]))
      ((refine wpAnyT_take 10 (v := ?_) rfl (by kernel_rfl) (fun _ _ _ h => h) (Or.inl ⟨by kernel_rfl, ?_⟩) (by assumption) ?_; rotate_left; (intro wS hSw; (try dsimp only at hSw); go_simp; (try with_reducible rfl)); (try simp only [Act.put, List.setIfInBounds_toArray, List.set_cons_zero, List.set_cons_succ])))
      (refine wpAnyT_do 11 (by kernel_rfl) rfl (fun K hK => ?_))
      go_simp
      have hst : O (j + 1) = O j ++ [(!z == v)] := by rw [HSU.out]; cases z <;> cases v <;> rfl
      have HST := Lib.hid hst
      have A := (Ext.refl w4).alloc (.cells #[.bool (!z == v)] 4)
      have SA := S4.ext' A
      have p5 := p4.ext A
      have hS2 := And.intro (SA.q.cell (i := 0) rfl) (And.intro (p5.cell (i := 0) rfl) (p5.cell (i := 1) rfl))
      (refine hK _ _ hS2 ?_; clear hK K; (try simp only [Act.put, List.setIfInBounds_toArray, List.set_cons_zero, List.set_cons_succ]))
      (refine wpAnyT_doN 12 (by kernel_rfl) rfl (by decide) (fun K hK => ?_))
      refine step_app tyBools SA.own (rowAtN w4 #[.bool (!z == v)] _ (B := w4.heap.size) rfl) rfl (by simp [Value.oneCell']) (by have := HOL.out; omega) SA.hs rfl rfl rfl rfl ?_
      intro v9 w9 o9 g9 m9
      obtain ⟨va, vc, rfl, _⟩ := ownsRow_row o9
      have S9 := Lib.hid (S4.app1 A o9 g9)
      have q9 := SA.q.gr g9 (fun q => by have := (SA.own.lt' _ q).1; omega)
      have f9 := fun i => q9.frozen i
      have x9 := q9.cell (i := 0) rfl
      have l9 := q9.lt
      (refine hK _ _ ?_; clear hK K; (try simp only [Act.put, List.setIfInBounds_toArray, List.set_cons_zero, List.set_cons_succ]))
      (refine wpAnyT_doN 13 (by kernel_rfl) rfl (by decide) (fun K hK => ?_))
      go_simp
      (refine hK _ _ ?_; clear hK K; (try simp only [Act.put, List.setIfInBounds_toArray, List.set_cons_zero, List.set_cons_succ]))
      (refine wpAnyT_last 14 (by kernel_rfl) rfl (by decide) (by kernel_rfl) (fun K hK => ?_))
      go_simp
      (refine hK _ _ ?_; clear hK K; (try simp only [Act.put, List.setIfInBounds_toArray, List.set_cons_zero, List.set_cons_succ]))
      clear hS0 hS1 hS2 o9 g9 m9 q9 f9 x9 l9 SA A p5 p4 S4 S3 S2 p2 d0 e0 e1 hst
      go_wp2
      go_roundw
      case rel => exact ⟨j + 1, _, m4, by omega, by go_num, by rw [HST.out]; exact S9.out⟩
      case measure => simp [intOf]; omega
    · have hj3 : j = 3 := by omega
      have S0 : StI w (w1.heap.size + 1) w1.heap.size (w.heap.size + 1) (BxI k ta pa ra ia tc pc rc ic regs.length ins.length (w.heap.size + 1 + 1) kb (w.heap.size + 1) w.heap.size B (List.replicate 25 false)) (valW k regs ins) ov (.slice (some ⟨B, 0, none⟩) 25 25) (O 3) m wr := by rw [← hj3]; exact S0
      clear hj3
      have yk := S0.box (.inr (.inl ⟨rfl, rfl, rfl⟩))
      have y0 := yk.cell (i := 0) rfl
      have yl := yk.lt
      obtain ⟨w2, rfl⟩ : ∃ z : World, z = wr := ⟨_, rfl⟩
      go_wp2_with fail
      go_loopw [50] (fun u50 wr => ∃ (i : Nat) (m : Marks), i ≤ k.ts.length ∧ u50 = .int .i64 i ∧ StI w (w1.heap.size + 1) w1.heap.size (w.heap.size + 1) (BxI k ta pa ra ia tc pc rc ic regs.length ins.length (w.heap.size + 1 + 1) kb (w.heap.size + 1) w.heap.size B (N i ++ List.replicate (25 - i) false)) (valW k regs ins) ov (.slice (some ⟨B, 0, none⟩) 25 25) (O 3) m wr) (fun i _ => k.ts.length - (intOf i).toNat)
      case atStart => exact ⟨0, m, Nat.zero_le _, rfl, by rw [HN.out]; exact S0⟩
      case round =>
        clear S0 yk y0 yl hE
        obtain ⟨i, m, hi, rfl, S0⟩ := hrel
        have hE := S0.ext
        have yk := S0.box (.inr (.inl ⟨rfl, rfl, rfl⟩))
        have y0 := yk.cell (i := 0) rfl
        have yl := yk.lt
        have d1 := S0.q.cell (i := 1) rfl
        have ql := S0.q.lt
        have bg := S0.box (.inr (.inr (.inr ⟨rfl, rfl, rfl⟩)))
        by_cases hi25 : i < k.ts.length
        · have hNl : (N i).length = i := by rw [HN.out]; exact nextV_len _ _ _ _
          have hput : ∀ (bb : Bool) (B2 : Nat) (t : TypeId) (cs : List Value), (BxI k ta pa ra ia tc pc rc ic regs.length ins.length (w.heap.size + 1 + 1) kb (w.heap.size + 1) w.heap.size B ((N i ++ [bb]) ++ List.replicate (25 - (i + 1)) false)) B2 t cs → (B2 ≠ B ∧ (BxI k ta pa ra ia tc pc rc ic regs.length ins.length (w.heap.size + 1 + 1) kb (w.heap.size + 1) w.heap.size B (N i ++ List.replicate (25 - i) false)) B2 t cs) ∨ (B2 = B ∧ ∃ cs0, (BxI k ta pa ra ia tc pc rc ic regs.length ins.length (w.heap.size + 1 + 1) kb (w.heap.size + 1) w.heap.size B (N i ++ List.replicate (25 - i) false)) B2 t cs0 ∧ cs = cs0.set i (.bool bb)) := by
            intro bb B2 t cs hb
            rcases hb with h | h | h | ⟨rfl, rfl, rfl⟩
            · exact .inl ⟨by omega, .inl h⟩
            · exact .inl ⟨by omega, .inr (.inl h)⟩
            · exact .inl ⟨by omega, .inr (.inr (.inl h))⟩
            · refine .inr ⟨rfl, _, .inr (.inr (.inr ⟨rfl, rfl, rfl⟩)), ?_⟩
              rw [← map_set, List.set_append_right _ _ (by omega), hNl, Nat.sub_self]
              obtain ⟨q, hq⟩ : ∃ q, 25 - i = q + 1 := ⟨24 - i, by omega⟩
              have hq2 : 25 - (i + 1) = q := by omega
              rw [hq, hq2, List.replicate_succ, List.set_cons_zero, List.append_assoc]; rfl
          have HPUT := Lib.hid hput
          obtain ⟨b, o, rfl, b_lt, hcc⟩ := hts.get (by omega)
          obtain ⟨_, _, _, _, _, _, p2, _⟩ := hcc i (by omega)
          have hb := Nat.lt_of_lt_of_le b_lt hE.size
          replace p2 := ((ecell hE).1 b _ b_lt).trans p2
          have hsucc := nextV_succ k regs ins i
          rw [← HN.out] at hsucc
          have e1 : (k.ts.getD i tile0).rg = (tileAt k i).rg := rfl
          rw [e1] at p2
          obtain ⟨w3, rfl⟩ : ∃ z : World, z = wr := ⟨_, rfl⟩
          have bget : (((N i ++ List.replicate (25 - i) false).map Value.bool)[i]?).isSome := by
            rw [List.getElem?_eq_getElem (by simp; omega)]; rfl
          obtain ⟨bv, hbv⟩ := Option.isSome_iff_exists.1 bget
          have bc := bg.cell hbv
          have bf := fun i => bg.frozen i
          have bl := bg.lt
          have hi25' : (i : Int) < 25 := by omega
          clear hcc e1 bget hput
          cases hrg : (tileAt k i).rg
          · rw [hrg] at p2 hsucc
            have hst : N (i + 1) = N i ++ [false] := hsucc
            have HST := Lib.hid hst
            clear hst hsucc hrg yk
            go_wp2_with fail
            refine wp_regionT (fun w' => w'.cell? ⟨w1.heap.size, 1, none⟩ = some (.slice (some ⟨B, 0, none⟩) 25 25) ∧ w'.cell? ⟨kb, 0, none⟩ = some (.slice (some ⟨b, o, none⟩) k.ts.length tc) ∧ w'.cell? ⟨b, o + i * 4 + 2, none⟩ = some (.bool false)) 18 (by kernel_rfl) ?_
            have hS0 := And.intro (a := (World.drew w3).cell? ⟨w1.heap.size, 1, none⟩ = some (.slice (some ⟨B, 0, none⟩) 25 25)) d1 (And.intro (a := (World.drew w3).cell? ⟨kb, 0, none⟩ = some (.slice (some ⟨b, o, none⟩) k.ts.length tc)) y0 (show (World.drew w3).cell? ⟨b, o + i * 4 + 2, none⟩ = some (.bool false) from p2))
            ((refine wpAnyT_take 0 (v := ?_) rfl (by kernel_rfl) (fun _ _ _ h => h) (Or.inl ⟨by kernel_rfl, ?_⟩) (by assumption) ?_; rotate_left; (intro wS hSw; (try dsimp only at hSw); go_simp; (try with_reducible rfl)); (try simp only [Act.put, List.setIfInBounds_toArray, List.set_cons_zero, List.set_cons_succ])); (refine wpAnyT_take 1 (v := ?_) rfl (by kernel_rfl) (fun _ _ _ h => h) (Or.inl ⟨by kernel_rfl, ?_⟩) (by assumption) ?_; rotate_left; (intro wS hSw; (try dsimp only at hSw); go_simp; (try with_reducible rfl)); (try simp only [Act.put, List.setIfInBounds_toArray, List.set_cons_zero, List.set_cons_succ])); (refine wpAnyT_take 2 (v := ?_) rfl (by kernel_rfl) (fun _ _ _ h => h) (Or.inl ⟨by kernel_rfl, ?_⟩) (by assumption) ?_; rotate_left; (intro wS hSw; (try dsimp only at hSw); go_simp; (try with_reducible rfl)); (try simp only [Act.put, List.setIfInBounds_toArray, List.set_cons_zero, List.set_cons_succ])); (refine wpAnyT_take 3 (v := ?_) rfl (by kernel_rfl) (fun _ _ _ h => h) (Or.inl ⟨by kernel_rfl, ?_⟩) (by assumption) ?_; rotate_left; (intro wS hSw; (try dsimp only at hSw); go_simp; (try with_reducible rfl)); (try simp only [Act.put, List.setIfInBounds_toArray, List.set_cons_zero, List.set_cons_succ])); (refine wpAnyT_take 4 (v := ?_) rfl (by kernel_rfl) (fun _ _ _ h => h) (Or.inl ⟨by kernel_rfl, ?_⟩) (by assumption) ?_; rotate_left; (intro wS hSw; (try dsimp only at hSw); go_simp; (try with_reducible rfl)); (try simp only [Act.put, List.setIfInBounds_toArray, List.set_cons_zero, List.set_cons_succ])); (refine wpAnyT_take 5 (v := ?_) rfl (by kernel_rfl) (fun _ _ _ h => h) (Or.inl ⟨by kernel_rfl, ?_⟩) (by assumption) ?_; rotate_left; (intro wS hSw; (try dsimp only at hSw); go_simp; (try with_reducible rfl)); (try simp only [Act.put, List.setIfInBounds_toArray, List.set_cons_zero, List.set_cons_succ])); (refine wpAnyT_take 6 (v := ?_) rfl (by kernel_rfl) (fun _ _ _ h => h) (Or.inl ⟨by kernel_rfl, ?_⟩) (by assumption) ?_; rotate_left; (intro wS hSw; (try dsimp only at hSw); go_simp; (try with_reducible rfl)); (try simp only [Act.put, List.setIfInBounds_toArray, List.set_cons_zero, List.set_cons_succ])); (refine wpAnyT_take 7 (v := ?_) rfl (by kernel_rfl) (fun _ _ _ h => h) (Or.inl ⟨by kernel_rfl, ?_⟩) (by assumption) ?_; rotate_left; (intro wS hSw; (try dsimp only at hSw); go_simp; (try with_reducible rfl)); (try simp only [Act.put, List.setIfInBounds_toArray, List.set_cons_zero, List.set_cons_succ])); (refine wpAnyT_take 8 (v := ?_) rfl (by kernel_rfl) (fun _ _ _ h => h) (Or.inl ⟨by kernel_rfl, ?_⟩) (by assumption) ?_; rotate_left; (intro wS hSw; (try dsimp only at hSw); go_simp; (try with_reducible rfl)); (try simp only [Act.put, List.setIfInBounds_toArray, List.set_cons_zero, List.set_cons_succ])); (refine wpAnyT_take 9 (v := ?_) rfl (by kernel_rfl) (fun _ _ _ h => h) (Or.inl ⟨by kernel_rfl, ?_⟩) (by assumption) ?_; rotate_left; (intro wS hSw; (try dsimp only at hSw); go_simp; (try with_reducible rfl)); (try simp only [Act.put, List.setIfInBounds_toArray, List.set_cons_zero, List.set_cons_succ])); (refine wpAnyT_take 10 (v := ?_) rfl (by kernel_rfl) (fun _ _ _ h => h) (Or.inl ⟨by kernel_rfl, ?_⟩) (by assumption) ?_; rotate_left; (intro wS hSw; (try dsimp only at hSw); go_simp; (try with_reducible rfl)); (try simp only [Act.put, List.setIfInBounds_toArray, List.set_cons_zero, List.set_cons_succ])); (refine wpAnyT_take 11 (v := ?_) rfl (by kernel_rfl) (fun _ _ _ h => h) (Or.inl ⟨by kernel_rfl, ?_⟩) (by assumption) ?_; rotate_left; (intro wS hSw; (try dsimp only at hSw); go_simp; (try with_reducible rfl)); (try simp only [Act.put, List.setIfInBounds_toArray, List.set_cons_zero, List.set_cons_succ])); (refine wpAnyT_take 12 (v := ?_) rfl (by kernel_rfl) (fun _ _ _ h => h) (Or.inl ⟨by kernel_rfl, ?_⟩) (by assumption) ?_; rotate_left; (intro wS hSw; (try dsimp only at hSw); go_simp; (try with_reducible rfl)); (try simp only [Act.put, List.setIfInBounds_toArray, List.set_cons_zero, List.set_cons_succ])))
            ((refine wpAnyT_take 13 (v := undef) rfl (by kernel_rfl) (fun _ _ _ h => h) (Or.inr ⟨by kernel_rfl, rfl⟩) (by assumption) ?_; (try simp only [Act.put, List.setIfInBounds_toArray, List.set_cons_zero, List.set_cons_succ])); (refine wpAnyT_take 14 (v := undef) rfl (by kernel_rfl) (fun _ _ _ h => h) (Or.inr ⟨by kernel_rfl, rfl⟩) (by assumption) ?_; (try simp only [Act.put, List.setIfInBounds_toArray, List.set_cons_zero, List.set_cons_succ])); (refine wpAnyT_take 15 (v := undef) rfl (by kernel_rfl) (fun _ _ _ h => h) (Or.inr ⟨by kernel_rfl, rfl⟩) (by assumption) ?_; (try simp only [Act.put, List.setIfInBounds_toArray, List.set_cons_zero, List.set_cons_succ])))
            ((refine wpAnyT_take 16 (v := ?_) rfl (by kernel_rfl) (fun _ _ _ h => h) (Or.inl ⟨by kernel_rfl, ?_⟩) (by assumption) ?_; rotate_left; (intro wS hSw; (try dsimp only at hSw); go_simp; (try with_reducible rfl)); (try simp only [Act.put, List.setIfInBounds_toArray, List.set_cons_zero, List.set_cons_succ])); (refine wpAnyT_take 17 (v := ?_) rfl (by kernel_rfl) (fun _ _ _ h => h) (Or.inl ⟨by kernel_rfl, ?_⟩) (by assumption) ?_; rotate_left; (intro wS hSw; (try dsimp only at hSw); go_simp; (try with_reducible rfl)); (try simp only [Act.put, List.setIfInBounds_toArray, List.set_cons_zero, List.set_cons_succ])))
            (refine wpAnyT_last 18 (by kernel_rfl) rfl (by decide) (by kernel_rfl) (fun K hK => ?_))
            go_simp
            (refine hK _ _ ?_; clear hK K; (try simp only [Act.put, List.setIfInBounds_toArray, List.set_cons_zero, List.set_cons_succ]))
            have S9 := Lib.hid ((S0.ext' (Ext.drew w3)).setB (bx' := (BxI k (some ⟨b, o, none⟩) pa ra ia tc pc rc ic regs.length ins.length (w.heap.size + 1 + 1) kb (w.heap.size + 1) w.heap.size B ((N i ++ [false]) ++ List.replicate (25 - (i + 1)) false))) (B0 := B) (i := i) (v := .bool false) (by omega) (by omega) (by omega) (by omega) (HPUT.out false))
            clear hS0 S0 d1 y0 p2 bc bf bl bg
            go_wp2
            go_roundw
            case rel => exact ⟨i + 1, m, by omega, by go_num, by rw [HST.out]; exact S9.out⟩
            case measure => simp [intOf]; omega
          · rw [hrg, Bool.true_and] at hsucc
            rw [hrg] at p2
            obtain ⟨nn, hnn⟩ : ∃ nn, ∀ y ∈ selW i (tileAt k i).sl, rk k y < nn := by
              obtain ⟨nn, h⟩ := finAll (selW i (tileAt k i).sl) (fun y hy => hf y (selW_ok (by omega) _ (hok.sel (by omega)) y hy))
              exact ⟨nn + 1, fun y hy => by have := rk_le (h y hy); omega⟩
            have S1 := S0.ext' (Ext.drew w3)
            have hc := table_c k w (w.heap.size + 1 + 1) kb (w.heap.size + 1) (some ⟨b, o, none⟩) pa tc pc (.slice ra regs.length rc) (.slice ia ins.length ic) (valW k regs ins) hok hF.k nn i (by omega) (fun y hy => VC.out nn y (selW_ok (by omega) _ (hok.sel (by omega)) y hy) (hnn y hy)) m w3.drew (RA.out _ _ _ _ _ S1) S1.kn
            obtain ⟨z, hz⟩ : ∃ z, z = tabV k (valW k regs ins) i := ⟨_, rfl⟩
            rw [← hz] at hc hsucc
            have HST := Lib.hid hsucc
            have HC := Lib.hid hc
            clear hsucc hrg hc hz hnn yk
            go_wp2_with fail
            refine wp_regionT (fun w' => w'.cell? ⟨w1.heap.size, 1, none⟩ = some (.slice (some ⟨B, 0, none⟩) 25 25) ∧ w'.cell? ⟨kb, 0, none⟩ = some (.slice (some ⟨b, o, none⟩) k.ts.length tc) ∧ w'.cell? ⟨b, o + i * 4 + 2, none⟩ = some (.bool true)) 18 (by kernel_rfl) ?_
            have hS0 := And.intro (a := (World.drew w3).cell? ⟨w1.heap.size, 1, none⟩ = some (.slice (some ⟨B, 0, none⟩) 25 25)) d1 (And.intro (a := (World.drew w3).cell? ⟨kb, 0, none⟩ = some (.slice (some ⟨b, o, none⟩) k.ts.length tc)) y0 (show (World.drew w3).cell? ⟨b, o + i * 4 + 2, none⟩ = some (.bool true) from p2))
            ((refine wpAnyT_take 0 (v := ?_) rfl (by kernel_rfl) (fun _ _ _ h => h) (Or.inl ⟨by kernel_rfl, ?_⟩) (by assumption) ?_; rotate_left; (intro wS hSw; (try dsimp only at hSw); go_simp; (try with_reducible rfl)); (try simp only [Act.put, List.setIfInBounds_toArray, List.set_cons_zero, List.set_cons_succ])); (refine wpAnyT_take 1 (v := ?_) rfl (by kernel_rfl) (fun _ _ _ h => h) (Or.inl ⟨by kernel_rfl, ?_⟩) (by assumption) ?_; rotate_left; (intro wS hSw; (try dsimp only at hSw); go_simp; (try with_reducible rfl)); (try simp only [Act.put, List.setIfInBounds_toArray, List.set_cons_zero, List.set_cons_succ])); (refine wpAnyT_take 2 (v := ?_) rfl (by kernel_rfl) (fun _ _ _ h => h) (Or.inl ⟨by kernel_rfl, ?_⟩) (by assumption) ?_; rotate_left; (intro wS hSw; (try dsimp only at hSw); go_simp; (try with_reducible rfl)); (try simp only [Act.put, List.setIfInBounds_toArray, List.set_cons_zero, List.set_cons_succ])); (refine wpAnyT_take 3 (v := ?_) rfl (by kernel_rfl) (fun _ _ _ h => h) (Or.inl ⟨by kernel_rfl, ?_⟩) (by assumption) ?_; rotate_left; (intro wS hSw; (try dsimp only at hSw); go_simp; (try with_reducible rfl)); (try simp only [Act.put, List.setIfInBounds_toArray, List.set_cons_zero, List.set_cons_succ])); (refine wpAnyT_take 4 (v := ?_) rfl (by kernel_rfl) (fun _ _ _ h => h) (Or.inl ⟨by kernel_rfl, ?_⟩) (by assumption) ?_; rotate_left; (intro wS hSw; (try dsimp only at hSw); go_simp; (try with_reducible rfl)); (try simp only [Act.put, List.setIfInBounds_toArray, List.set_cons_zero, List.set_cons_succ])); (refine wpAnyT_take 5 (v := ?_) rfl (by kernel_rfl) (fun _ _ _ h => h) (Or.inl ⟨by kernel_rfl, ?_⟩) (by assumption) ?_; rotate_left; (intro wS hSw; (try dsimp only at hSw); go_simp; (try with_reducible rfl)); (try simp only [Act.put, List.setIfInBounds_toArray, List.set_cons_zero, List.set_cons_succ])); (refine wpAnyT_take 6 (v := ?_) rfl (by kernel_rfl) (fun _ _ _ h => h) (Or.inl ⟨by kernel_rfl, ?_⟩) (by assumption) ?_; rotate_left; (intro wS hSw; (try dsimp only at hSw); go_simp; (try with_reducible rfl)); (try simp only [Act.put, List.setIfInBounds_toArray, List.set_cons_zero, List.set_cons_succ])); (refine wpAnyT_take 7 (v := ?_) rfl (by kernel_rfl) (fun _ _ _ h => h) (Or.inl ⟨by kernel_rfl, ?_⟩) (by assumption) ?_; rotate_left; (intro wS hSw; (try dsimp only at hSw); go_simp; (try with_reducible rfl)); (try simp only [Act.put, List.setIfInBounds_toArray, List.set_cons_zero, List.set_cons_succ])); (refine wpAnyT_take 8 (v := ?_) rfl (by kernel_rfl) (fun _ _ _ h => h) (Or.inl ⟨by kernel_rfl, ?_⟩) (by assumption) ?_; rotate_left; (intro wS hSw; (try dsimp only at hSw); go_simp; (try with_reducible rfl)); (try simp only [Act.put, List.setIfInBounds_toArray, List.set_cons_zero, List.set_cons_succ])); (refine wpAnyT_take 9 (v := ?_) rfl (by kernel_rfl) (fun _ _ _ h => h) (Or.inl ⟨by kernel_rfl, ?_⟩) (by assumption) ?_; rotate_left; (intro wS hSw; (try dsimp only at hSw); go_simp; (try with_reducible rfl)); (try simp only [Act.put, List.setIfInBounds_toArray, List.set_cons_zero, List.set_cons_succ])); (refine wpAnyT_take 10 (v := ?_) rfl (by kernel_rfl) (fun _ _ _ h => h) (Or.inl ⟨by kernel_rfl, ?_⟩) (by assumption) ?_; rotate_left; (intro wS hSw; (try dsimp only at hSw); go_simp; (try with_reducible rfl)); (try simp only [Act.put, List.setIfInBounds_toArray, List.set_cons_zero, List.set_cons_succ])); (refine wpAnyT_take 11 (v := ?_) rfl (by kernel_rfl) (fun _ _ _ h => h) (Or.inl ⟨by kernel_rfl, ?_⟩) (by assumption) ?_; rotate_left; (intro wS hSw; (try dsimp only at hSw); go_simp; (try with_reducible rfl)); (try simp only [Act.put, List.setIfInBounds_toArray, List.set_cons_zero, List.set_cons_succ])); (refine wpAnyT_take 12 (v := ?_) rfl (by kernel_rfl) (fun _ _ _ h => h) (Or.inl ⟨by kernel_rfl, ?_⟩) (by assumption) ?_; rotate_left; (intro wS hSw; (try dsimp only at hSw); go_simp; (try with_reducible rfl)); (try simp only [Act.put, List.setIfInBounds_toArray, List.set_cons_zero, List.set_cons_succ])); (refine wpAnyT_take 13 (v := ?_) rfl (by kernel_rfl) (fun _ _ _ h => h) (Or.inl ⟨by kernel_rfl, ?_⟩) (by assumption) ?_; rotate_left; (intro wS hSw; (try dsimp only at hSw); go_simp; (try with_reducible rfl)); (try simp only [Act.put, List.setIfInBounds_toArray, List.set_cons_zero, List.set_cons_succ])); (refine wpAnyT_take 14 (v := ?_) rfl (by kernel_rfl) (fun _ _ _ h => h) (Or.inl ⟨by kernel_rfl, ?_⟩) (by assumption) ?_; rotate_left; (intro wS hSw; (try dsimp only at hSw); go_simp; (try with_reducible rfl)); (try simp only [Act.put, List.setIfInBounds_toArray, List.set_cons_zero, List.set_cons_succ])))
            (refine wpAnyT_do 15 (by kernel_rfl) rfl (fun K hK => ?_))
            go_simp
            refine HC.out.mono ?_
            rintro e w4 ⟨m4, rfl, K4, _, G4⟩
            have S4 := S1.call G4 K4
            have hE4 := S4.ext
            have hS1 := And.intro (S4.q.cell (i := 1) rfl) (And.intro ((S4.box (.inr (.inl ⟨rfl, rfl, rfl⟩))).cell (i := 0) rfl) ((World.cell?_of_block (a := ⟨b, o + i * 4 + 2, none⟩) (G4.block b hb (someNe (fun e => by have := b_lt; omega)))).trans hS0.2.2))
            (refine hK _ _ hS1 ?_; clear hK K; (try simp only [Act.put, List.setIfInBounds_toArray, List.set_cons_zero, List.set_cons_succ]))
            have bg4 := S4.box (.inr (.inr (.inr ⟨rfl, rfl, rfl⟩)))
            have bc4 := bg4.cell hbv
            have bf4 := fun i => bg4.frozen i
            have bl4 := bg4.lt
            ((refine wpAnyT_take 16 (v := ?_) rfl (by kernel_rfl) (fun _ _ _ h => h) (Or.inl ⟨by kernel_rfl, ?_⟩) (by assumption) ?_; rotate_left; (intro wS hSw; (try dsimp only at hSw); go_simp; (try with_reducible rfl)); (try simp only [Act.put, List.setIfInBounds_toArray, List.set_cons_zero, List.set_cons_succ])); (refine wpAnyT_take 17 (v := ?_) rfl (by kernel_rfl) (fun _ _ _ h => h) (Or.inl ⟨by kernel_rfl, ?_⟩) (by assumption) ?_; rotate_left; (intro wS hSw; (try dsimp only at hSw); go_simp; (try with_reducible rfl)); (try simp only [Act.put, List.setIfInBounds_toArray, List.set_cons_zero, List.set_cons_succ])))
            (refine wpAnyT_last 18 (by kernel_rfl) rfl (by decide) (by kernel_rfl) (fun K hK => ?_))
            go_simp
            (refine hK _ _ ?_; clear hK K; (try simp only [Act.put, List.setIfInBounds_toArray, List.set_cons_zero, List.set_cons_succ]))
            have S9 := Lib.hid (S4.setB (bx' := (BxI k (some ⟨b, o, none⟩) pa ra ia tc pc rc ic regs.length ins.length (w.heap.size + 1 + 1) kb (w.heap.size + 1) w.heap.size B ((N i ++ [z]) ++ List.replicate (25 - (i + 1)) false))) (B0 := B) (i := i) (v := .bool z) (by omega) (by omega) (by omega) (by omega) (HPUT.out z))
            clear hS0 hS1 S0 d1 y0 p2 bc bf bl bg bc4 bf4 bl4 bg4 S4 S1
            go_wp2
            go_roundw
            case rel => exact ⟨i + 1, m4, by omega, by go_num, by rw [HST.out]; exact S9.out⟩
            case measure => simp [intOf]; omega
        · have hi2 : i = 25 := by omega
          rw [hi2] at S0
          have r0 := S0.box (.inr (.inr (.inl ⟨rfl, rfl, rfl⟩)))
          obtain ⟨oa, oc, rfl, _⟩ := S0.own.len
          have d0 := S0.q.cell (i := 0) rfl
          have fz := fun i => r0.frozen i
          have rl := r0.lt
          have u0 := r0.cell (i := 0) rfl
          have u1 := r0.cell (i := 1) rfl
          have hN25 : (N 25).length = 25 := by rw [HN.out]; exact nextV_len _ _ _ _
          have HN25 := Lib.hid hN25
          have HS := Lib.hid S0
          clear hi2 S0 hN25 yk
          go_wp2
          have rf := (r0.set 0 (.slice oa (O 3).length oc)).set 1 (.slice (some ⟨B, 0, none⟩) 25 25)
          have v0 := rf.cell (i := 0) rfl
          have v1 := rf.cell (i := 1) rfl
          refine bodyPost_ret (v := .agg #[.slice oa (O 3).length oc, .slice (some ⟨B, 0, none⟩) 25 25]) (by simp [results, Try.results100, go_sem, v0, v1]) rfl ?_
          have e1 : ∀ q, (Value.slice oa (O 3).length oc).ownBlock = some q → q ≠ w.heap.size ∧ q ≠ B := fun q hq => by have := (HS.out.own.lt' q hq).1; omega
          have bg := HS.out.box (.inr (.inr (.inr ⟨rfl, rfl, rfl⟩)))
          rw [Nat.sub_self, List.replicate_zero, List.append_nil] at bg
          have hBw : w.heap.size ≤ B := by omega
          have ho : OwnB wr w.heap.size (.slice (some ⟨B, 0, none⟩) 25 25) (N 25) := by
            unfold OwnB
            rw [HN25.out]
            exact bg.owns (n := 25) (size := 1) (by simp [HN25.out]) hBw (by decide)
          refine ⟨_, _, rfl, ?_, ?_, fun q hq e => ?_, ?_⟩
          · exact (OwnB.setOther (OwnB.setOther HS.out.own (fun q => (e1 _ q).1 rfl) _) (fun q => (e1 _ q).1 rfl) _).le (by have := HS.out.hw; omega)
          · exact OwnB.setOther (OwnB.setOther ho (fun q => by have : B = w.heap.size := Option.some.inj q; omega) _) (fun q => by have : B = w.heap.size := Option.some.inj q; omega) _
          · exact (e1 q hq).2 (Option.some.inj e).symm
          · exact Ext.setNew (Ext.setNew hE (Nat.le_refl _) _) (Nat.le_refl _) _
end Go.Proofs.Ytkdiniaddnhkdaa

namespace Go.Proofs.Ytkdiniaddnhkdaa
open Go.RowKit
set_option maxRecDepth 100000
set_option linter.unusedVariables false
set_option linter.unusedSimpArgs false
def BxS (w : World) (k : Conf) (ta pa ra : Option Addr) (tc pc rc n : Nat) (B : Nat) (t : TypeId) (cs : List Value) : Prop := (B = w.heap.size ∧ t = 25 ∧ cs = [.slice ta k.ts.length tc, .slice pa k.ps.length pc]) ∨ (B = w.heap.size + 1 ∧ t = 63 ∧ cs = [.slice ra n rc]) ∨ (B = w.heap.size + 1 + 1 ∧ t = 65 ∧ cs = [.slice none 0 0, .slice none 0 0])
set_option maxHeartbeats 4000000 in
theorem l10Step_c (k : Conf) (ta pa ra ia : Option Addr) (tc pc rc ic : Nat) (regs ins : List Bool) (hok : k.Ok) (hf : ∀ x : Wire, x.Ok → ∃ n, FinN k n x) (hr : 25 ≤ regs.length ∧ regs.length ≤ 25) (hil : ins.length ≤ 4) (w : World) (hF : FabAt w k ta pa ra regs ia ins) :
    Calls Try.prog 99 #[.agg #[.slice ta k.ts.length tc, .slice pa k.ps.length pc], .agg #[.slice ra regs.length rc], .slice ia ins.length ic] w (GiveF w (outsV k regs ins 3) (nextV k regs ins 25)) := by
  have WC := Lib.hid (fun (x : Wire) (hx : x.Ok) => l10Wire_c k ta pa ra ia tc pc rc ic regs ins hok hf hr hil (rk k x + 1) x hx (by omega))
  have TC := Lib.hid (fun (t : Nat) (ht : t < 25) => l10Table_c k ta pa ra ia tc pc rc ic regs ins hok t ht (fun y hy => WC.out y (selW_ok ht _ (hok.sel ht) y hy)))
  have hps := hF.k.ps
  have hts := hF.k.ts
  have HF := Lib.hid hF
  have HPS := Lib.hid hok.ps
  obtain ⟨lt1, lt2⟩ : k.ts.length ≤ 25 ∧ 25 ≤ k.ts.length := by have := hok.lt; omega
  obtain ⟨lp1, lp2⟩ : k.ps.length ≤ 3 ∧ 3 ≤ k.ps.length := by have := hok.lp; omega
  obtain ⟨O, HO⟩ : ∃ O : Nat → List Bool, Hid (O = outsV k regs ins) := ⟨_, Lib.hid rfl⟩
  obtain ⟨N, HN⟩ : ∃ N : Nat → List Bool, Hid (N = nextV k regs ins) := ⟨_, Lib.hid rfl⟩
  rw [← HO.out, ← HN.out]
  have S0 : StO w (w.heap.size + 4) (w.heap.size + 1 + 1 + 1) (BxS w k ta pa ra tc pc rc regs.length) (.slice none 0 0) (.slice none 0 0) [] [] ((((w.alloc (.cells #[.slice ta k.ts.length tc, .slice pa k.ps.length pc] 25)).alloc (.cells #[.slice ra regs.length rc] 63)).alloc (.cells #[.slice none 0 0, .slice none 0 0] 65)).alloc (.cells #[.slice none 0 0, .slice none 0 0] 65)) := by
    refine ⟨OwnB.nil, OwnB.nil, Blk.at _ [.slice none 0 0, .slice none 0 0] _ (by simp), fun q hq => (by cases hq), by (repeat (first | with_reducible assumption | with_reducible exact Ext.refl _ | with_reducible refine Ext.drew' ?_ | with_reducible refine Ext.drewN' ?_ _ | with_reducible refine Ext.alloc ?_ _ | (with_reducible refine Ext.setNew ?_ (by first | exact Nat.le_refl _ | (simp; done) | (simp; omega) | omega) _))), fun B t cs hb => ?_, by omega, by omega, by simp⟩
    rcases hb with ⟨rfl, rfl, rfl⟩ | ⟨rfl, rfl, rfl⟩ | ⟨rfl, rfl, rfl⟩
    · exact ⟨(((Blk.at w [.slice ta k.ts.length tc, .slice pa k.ps.length pc] 25 rfl).alloc _).alloc _).alloc _, by omega, by omega⟩
    · exact ⟨((Blk.at (w.alloc _) [.slice ra regs.length rc] 63 (by simp)).alloc _).alloc _, by omega, by omega⟩
    · exact ⟨(Blk.at ((w.alloc _).alloc _) [.slice none 0 0, .slice none 0 0] 65 (by simp)).alloc _, by omega, by omega⟩
  clear hF
  go_enter Try.func99, Try.ntmps99
  go_wp2_with fail
  go_loopw [8] (fun u8 wr => ∃ (j : Nat) (ov : Value), j ≤ 3 ∧ u8 = .int .i64 j ∧ StO w (w.heap.size + 4) (w.heap.size + 1 + 1 + 1) (BxS w k ta pa ra tc pc rc regs.length) ov (.slice none 0 0) (O j) [] wr) (fun i _ => 3 - (intOf i).toNat)
  case atStart => exact ⟨0, .slice none 0 0, Nat.zero_le _, rfl, by rw [HO.out]; exact S0⟩
  case round =>
    clear S0
    obtain ⟨j, ov, hj, rfl, S0⟩ := hrel
    have y0 := S0.box (.inl ⟨rfl, rfl, rfl⟩)
    have s0 := S0.box (.inr (.inl ⟨rfl, rfl, rfl⟩))
    have q0 := S0.q
    have hE := S0.ext
    have c0 := y0.cell (i := 0) rfl
    have c1 := y0.cell (i := 1) rfl
    have c2 := s0.cell (i := 0) rfl
    have d0 := q0.cell (i := 0) rfl
    have yl := y0.lt
    have sl := s0.lt
    have ql := q0.lt
    by_cases hlt : j < 3
    · obtain ⟨b, o, rfl, hb, hcc⟩ := (hps.ext hE).get (by omega)
      obtain ⟨g0, g1⟩ := hcc j (by omega)
      have htr := trackB_cases (HPS.out j hlt)
      have hsucc := outsV_succ k regs ins j
      rw [← HO.out] at hsucc
      have hOl : (O j).length = j := by rw [HO.out]; exact outsV_len _ _ _ _
      have hjp : (j : Int) < (k.ps.length : Int) := by omega
      have hj3 : (j : Int) < 3 := by omega
      obtain ⟨x, hx⟩ : ∃ x, x = k.ps.getD j (0, false) := ⟨_, rfl⟩
      rw [← hx] at g0 g1 htr hsucc
      obtain ⟨s, v⟩ := x
      dsimp only at g0 g1 htr hsucc
      have HSU := Lib.hid hsucc
      have HOL := Lib.hid hOl
      obtain ⟨w2, rfl⟩ : ∃ z : World, z = wr := ⟨_, rfl⟩
      have A2 : Ext w2 (w2.alloc (.cells #[.int .i64 s, .bool v] 87)) := (Ext.refl w2).alloc _
      have S2 := S0.ext' A2
      have p2 := Blk.at w2 [.int .i64 s, .bool v] 87 rfl
      clear hcc hx hsucc hOl
      go_upto_region 6 with fail
      generalize w2.alloc (.cells #[.int .i64 s, .bool v] 87) = W2 at *
      have y2 := S2.box (.inl ⟨rfl, rfl, rfl⟩)
      have s2 := S2.box (.inr (.inl ⟨rfl, rfl, rfl⟩))
      have e0 := p2.cell (i := 0) rfl
      have e1 := p2.cell (i := 1) rfl
      have pl := p2.lt
      have k0 := y2.cell (i := 0) rfl
      have k1 := y2.cell (i := 1) rfl
      have k2 := s2.cell (i := 0) rfl
      have kl := y2.lt
      have kl2 := s2.lt
      have fz := fun i => S2.q.frozen i
      have r0 := S2.q.cell (i := 0) rfl
      have rl := S2.q.lt
      clear y0 s0 q0 c0 c1 c2 d0 yl sl ql g0 g1 S0
      by_cases h15 : s = 15
      · have hne : (s != 15) = false := by simp [h15]
        have hst : O (j + 1) = O j ++ [v] := by rw [HSU.out, h15]; show O j ++ [false != v] = _; cases v <;> rfl
        clear h15 htr HSU
        have HST := Lib.hid hst
        have A := (Ext.refl W2).alloc (.cells #[.bool v] 4)
        have hz := S2.hs
        clear hst
        go_wp2_with (at_builtin; go_loud (refine wpList_app tyBools (ownsRow_ext S2.own A) (rowAtN W2 #[.bool v] _ (B := W2.heap.size) rfl) rfl (by simp [Value.oneCell']) (by have := HOL.out; omega) (by simp; omega) rfl rfl rfl rfl ?_); intro v8 w8 o8 g8 m8; obtain ⟨va, vc, rfl, _⟩ := ownsRow_row o8; have S8 := Lib.hid (S2.app1 A o8 g8 m8); have q8 := (S2.q.ext A).gr g8 (fun q => by have := (S2.own.lt' _ q).1; omega); have f8 := fun i => q8.frozen i; have x8 := q8.cell (i := 0) rfl; have l8 := q8.lt; clear o8 g8 m8 q8)
        go_roundw
        case rel => exact ⟨j + 1, _, by omega, by go_num, by rw [HST.out]; exact S8.out⟩
        case measure => simp [intOf]; omega
      · have hne : (s != 15) = true := by simpa using h15
        obtain ⟨s0', s8⟩ : 0 ≤ s ∧ s < 8 := by omega
        have hc := WC.out (j * 5 + 4, s.toNat) ⟨by dsimp only; omega, by dsimp only; omega⟩ W2 (HF.out.ext S2.ext)
        obtain ⟨s', rfl⟩ : ∃ s' : Nat, s = s' := ⟨s.toNat, by omega⟩
        rw [Int.toNat_natCast] at hc
        have hsu : O (j + 1) = O j ++ [valW k regs ins (j * 5 + 4, s') != v] := by rw [HSU.out]; unfold rdV; rw [hne, Int.toNat_natCast, Bool.true_and]
        obtain ⟨z, hz⟩ : ∃ z, z = valW k regs ins (j * 5 + 4, s') := ⟨_, rfl⟩
        rw [← hz] at hc hsu
        have hcast : ((j * 5 + 4 : Nat) : Int) = (j : Int) * 5 + 5 - 1 := by omega
        dsimp only at hc
        rw [hcast] at hc
        have HC := Lib.hid hc
        have HSV := Lib.hid hsu
        clear hc hsu hz hcast h15 htr HSU
        go_wp2_with fail
        refine HC.out.mono ?_
        rintro e w3 ⟨rfl, hE3⟩
        have S3 := S2.ext' hE3
        have p3 := p2.ext hE3
        have a1 := p3.cell (i := 1) rfl
        have al := p3.lt
        have fz3 := fun i => S3.q.frozen i
        have r3 := S3.q.cell (i := 0) rfl
        have rl3 := S3.q.lt
        clear e0 e1 pl k0 k1 k2 kl kl2 fz r0 rl HC
        cases z
        · have hst : O (j + 1) = O j ++ [v] := by rw [HSV.out]; cases v <;> rfl
          clear HSV
          have HST := Lib.hid hst
          have A := (Ext.refl w3).alloc (.cells #[.bool v] 4)
          have hz := S3.hs
          clear hst
          go_wp2_with (at_builtin; go_loud (refine wpList_app tyBools (ownsRow_ext S3.own A) (rowAtN w3 #[.bool v] _ (B := w3.heap.size) rfl) rfl (by simp [Value.oneCell']) (by have := HOL.out; omega) (by simp; omega) rfl rfl rfl rfl ?_); intro v8 w8 o8 g8 m8; obtain ⟨va, vc, rfl, _⟩ := ownsRow_row o8; have S8 := Lib.hid (S3.app1 A o8 g8 m8); have q8 := (S3.q.ext A).gr g8 (fun q => by have := (S3.own.lt' _ q).1; omega); have f8 := fun i => q8.frozen i; have x8 := q8.cell (i := 0) rfl; have l8 := q8.lt; clear o8 g8 m8 q8)
          go_roundw
          case rel => exact ⟨j + 1, _, by omega, by go_num, by rw [HST.out]; exact S8.out⟩
          case measure => simp [intOf]; omega
        · have hst : O (j + 1) = O j ++ [!v] := by rw [HSV.out]; cases v <;> rfl
          clear HSV
          have HST := Lib.hid hst
          have A := (Ext.refl w3).alloc (.cells #[.bool (!v)] 4)
          have hz := S3.hs
          clear hst
          go_wp2_with (at_builtin; go_loud (refine wpList_app tyBools (ownsRow_ext S3.own A) (rowAtN w3 #[.bool (!v)] _ (B := w3.heap.size) rfl) rfl (by simp [Value.oneCell']) (by have := HOL.out; omega) (by simp; omega) rfl rfl rfl rfl ?_); intro v8 w8 o8 g8 m8; obtain ⟨va, vc, rfl, _⟩ := ownsRow_row o8; have S8 := Lib.hid (S3.app1 A o8 g8 m8); have q8 := (S3.q.ext A).gr g8 (fun q => by have := (S3.own.lt' _ q).1; omega); have f8 := fun i => q8.frozen i; have x8 := q8.cell (i := 0) rfl; have l8 := q8.lt; clear o8 g8 m8 q8)
          go_roundw
          case rel => exact ⟨j + 1, _, by omega, by go_num, by rw [HST.out]; exact S8.out⟩
          case measure => simp [intOf]; omega
    · have hj3 : j = 3 := by omega
      have hjI : ¬ (j : Int) < 3 := by omega
      have S0 : StO w (w.heap.size + 4) (w.heap.size + 1 + 1 + 1) (BxS w k ta pa ra tc pc rc regs.length) ov (.slice none 0 0) (O 3) [] wr := by rw [← hj3]; exact S0
      clear y0 s0 q0 c0 c1 c2 d0 yl sl ql hj3 hlt
      obtain ⟨w2, rfl⟩ : ∃ z : World, z = wr := ⟨_, rfl⟩
      go_wp2_with fail
      go_loopw [11] (fun u11 wr => ∃ (i : Nat) (rv : Value), i ≤ 25 ∧ u11 = .int .i64 i ∧ StO w (w.heap.size + 4) (w.heap.size + 1 + 1 + 1) (BxS w k ta pa ra tc pc rc regs.length) ov rv (O 3) (N i) wr) (fun i _ => 25 - (intOf i).toNat)
      case atStart => exact ⟨0, .slice none 0 0, Nat.zero_le _, rfl, by rw [HN.out]; exact S0⟩
      case round =>
        clear S0 hE
        obtain ⟨i, rv, hi, rfl, S0⟩ := hrel
        have y0 := S0.box (.inl ⟨rfl, rfl, rfl⟩)
        have s0 := S0.box (.inr (.inl ⟨rfl, rfl, rfl⟩))
        have hE := S0.ext
        have c0 := y0.cell (i := 0) rfl
        have c1 := y0.cell (i := 1) rfl
        have c2 := s0.cell (i := 0) rfl
        have d1 := S0.q.cell (i := 1) rfl
        have yl := y0.lt
        have sl := s0.lt
        have ql := S0.q.lt
        by_cases hi25 : i < 25
        · obtain ⟨b, o, rfl, hb, hcc⟩ := (hts.ext hE).get (by omega)
          obtain ⟨_, _, _, _, _, _, p2, _⟩ := hcc i (by omega)
          have hsucc := nextV_succ k regs ins i
          rw [← HN.out] at hsucc
          have hNl : (N i).length = i := by rw [HN.out]; exact nextV_len _ _ _ _
          have HNL := Lib.hid hNl
          have hil2 : (i : Int) < (k.ts.length : Int) := by omega
          obtain ⟨w3, rfl⟩ : ∃ z : World, z = wr := ⟨_, rfl⟩
          have e1 : (k.ts.getD i tile0).rg = (tileAt k i).rg := rfl
          rw [e1] at p2
          clear hcc hNl e1
          cases hrg : (tileAt k i).rg
          · rw [hrg] at p2 hsucc
            have hst : N (i + 1) = N i ++ [false] := hsucc
            have HST := Lib.hid hst
            clear hst hsucc hrg y0 s0
            go_wp2_with fail
            refine wp_regionT (fun w' => w'.cell? ⟨w.heap.size, 0, none⟩ = some (.slice (some ⟨b, o, none⟩) k.ts.length tc) ∧ w'.cell? ⟨w.heap.size, 1, none⟩ = some (.slice pa k.ps.length pc) ∧ w'.cell? ⟨w.heap.size + 1, 0, none⟩ = some (.slice ra regs.length rc) ∧ w'.cell? ⟨w.heap.size + 1 + 1 + 1, 1, none⟩ = some rv ∧ w'.cell? ⟨b, o + i * 4 + 2, none⟩ = some (.bool false)) 17 (by kernel_rfl) ?_
            have hS0 := And.intro (a := w3.drew.cell? ⟨w.heap.size, 0, none⟩ = some (.slice (some ⟨b, o, none⟩) k.ts.length tc)) c0 (And.intro (a := w3.drew.cell? ⟨w.heap.size, 1, none⟩ = some (.slice pa k.ps.length pc)) c1 (And.intro (a := w3.drew.cell? ⟨w.heap.size + 1, 0, none⟩ = some (.slice ra regs.length rc)) c2 (And.intro (a := w3.drew.cell? ⟨w.heap.size + 1 + 1 + 1, 1, none⟩ = some rv) d1 (show w3.drew.cell? ⟨b, o + i * 4 + 2, none⟩ = some (.bool false) from p2))))
            ((refine wpAnyT_take 0 (v := ?_) rfl (by kernel_rfl) (fun _ _ _ h => h) (Or.inl ⟨by kernel_rfl, ?_⟩) (by assumption) ?_; rotate_left; (intro wS hSw; (try dsimp only at hSw); go_simp; (try with_reducible rfl)); (try simp only [Act.put, List.setIfInBounds_toArray, List.set_cons_zero, List.set_cons_succ])); (refine wpAnyT_take 1 (v := ?_) rfl (by kernel_rfl) (fun _ _ _ h => h) (Or.inl ⟨by kernel_rfl, ?_⟩) (by assumption) ?_; rotate_left; (intro wS hSw; (try dsimp only at hSw); go_simp; (try with_reducible rfl)); (try simp only [Act.put, List.setIfInBounds_toArray, List.set_cons_zero, List.set_cons_succ])); (refine wpAnyT_take 2 (v := ?_) rfl (by kernel_rfl) (fun _ _ _ h => h) (Or.inl ⟨by kernel_rfl, ?_⟩) (by assumption) ?_; rotate_left; (intro wS hSw; (try dsimp only at hSw); go_simp; (try with_reducible rfl)); (try simp only [Act.put, List.setIfInBounds_toArray, List.set_cons_zero, List.set_cons_succ])); (refine wpAnyT_take 3 (v := ?_) rfl (by kernel_rfl) (fun _ _ _ h => h) (Or.inl ⟨by kernel_rfl, ?_⟩) (by assumption) ?_; rotate_left; (intro wS hSw; (try dsimp only at hSw); go_simp; (try with_reducible rfl)); (try simp only [Act.put, List.setIfInBounds_toArray, List.set_cons_zero, List.set_cons_succ])); (refine wpAnyT_take 4 (v := ?_) rfl (by kernel_rfl) (fun _ _ _ h => h) (Or.inl ⟨by kernel_rfl, ?_⟩) (by assumption) ?_; rotate_left; (intro wS hSw; (try dsimp only at hSw); go_simp; (try with_reducible rfl)); (try simp only [Act.put, List.setIfInBounds_toArray, List.set_cons_zero, List.set_cons_succ])); (refine wpAnyT_take 5 (v := ?_) rfl (by kernel_rfl) (fun _ _ _ h => h) (Or.inl ⟨by kernel_rfl, ?_⟩) (by assumption) ?_; rotate_left; (intro wS hSw; (try dsimp only at hSw); go_simp; (try with_reducible rfl)); (try simp only [Act.put, List.setIfInBounds_toArray, List.set_cons_zero, List.set_cons_succ])); (refine wpAnyT_take 6 (v := ?_) rfl (by kernel_rfl) (fun _ _ _ h => h) (Or.inl ⟨by kernel_rfl, ?_⟩) (by assumption) ?_; rotate_left; (intro wS hSw; (try dsimp only at hSw); go_simp; (try with_reducible rfl)); (try simp only [Act.put, List.setIfInBounds_toArray, List.set_cons_zero, List.set_cons_succ])); (refine wpAnyT_take 7 (v := ?_) rfl (by kernel_rfl) (fun _ _ _ h => h) (Or.inl ⟨by kernel_rfl, ?_⟩) (by assumption) ?_; rotate_left; (intro wS hSw; (try dsimp only at hSw); go_simp; (try with_reducible rfl)); (try simp only [Act.put, List.setIfInBounds_toArray, List.set_cons_zero, List.set_cons_succ])); (refine wpAnyT_take 8 (v := ?_) rfl (by kernel_rfl) (fun _ _ _ h => h) (Or.inl ⟨by kernel_rfl, ?_⟩) (by assumption) ?_; rotate_left; (intro wS hSw; (try dsimp only at hSw); go_simp; (try with_reducible rfl)); (try simp only [Act.put, List.setIfInBounds_toArray, List.set_cons_zero, List.set_cons_succ])); (refine wpAnyT_take 9 (v := ?_) rfl (by kernel_rfl) (fun _ _ _ h => h) (Or.inl ⟨by kernel_rfl, ?_⟩) (by assumption) ?_; rotate_left; (intro wS hSw; (try dsimp only at hSw); go_simp; (try with_reducible rfl)); (try simp only [Act.put, List.setIfInBounds_toArray, List.set_cons_zero, List.set_cons_succ])))
            ((refine wpAnyT_take 10 (v := undef) rfl (by kernel_rfl) (fun _ _ _ h => h) (Or.inr ⟨by kernel_rfl, rfl⟩) (by assumption) ?_; (try simp only [Act.put, List.setIfInBounds_toArray, List.set_cons_zero, List.set_cons_succ])); (refine wpAnyT_take 11 (v := undef) rfl (by kernel_rfl) (fun _ _ _ h => h) (Or.inr ⟨by kernel_rfl, rfl⟩) (by assumption) ?_; (try simp only [Act.put, List.setIfInBounds_toArray, List.set_cons_zero, List.set_cons_succ])); (refine wpAnyT_take 12 (v := undef) rfl (by kernel_rfl) (fun _ _ _ h => h) (Or.inr ⟨by kernel_rfl, rfl⟩) (by assumption) ?_; (try simp only [Act.put, List.setIfInBounds_toArray, List.set_cons_zero, List.set_cons_succ])); (refine wpAnyT_take 13 (v := undef) rfl (by kernel_rfl) (fun _ _ _ h => h) (Or.inr ⟨by kernel_rfl, rfl⟩) (by assumption) ?_; (try simp only [Act.put, List.setIfInBounds_toArray, List.set_cons_zero, List.set_cons_succ])); (refine wpAnyT_take 14 (v := undef) rfl (by kernel_rfl) (fun _ _ _ h => h) (Or.inr ⟨by kernel_rfl, rfl⟩) (by assumption) ?_; (try simp only [Act.put, List.setIfInBounds_toArray, List.set_cons_zero, List.set_cons_succ])))
            ((refine wpAnyT_take 15 (v := ?_) rfl (by kernel_rfl) (fun _ _ _ h => h) (Or.inl ⟨by kernel_rfl, ?_⟩) (by assumption) ?_; rotate_left; (intro wS hSw; (try dsimp only at hSw); go_simp; (try with_reducible rfl)); (try simp only [Act.put, List.setIfInBounds_toArray, List.set_cons_zero, List.set_cons_succ])))
            (refine wpAnyT_do 16 (by kernel_rfl) rfl (fun K hK => ?_))
            go_simp
            have SX := S0.ext' (Ext.drew w3)
            have hWX := Ext.drew w3
            have A := (Ext.refl w3.drew).alloc (.cells #[.bool false] 4)
            have SA := SX.ext' A
            have hS2 := And.intro ((SA.box (.inl ⟨rfl, rfl, rfl⟩)).cell (i := 0) rfl) (And.intro ((SA.box (.inl ⟨rfl, rfl, rfl⟩)).cell (i := 1) rfl) (And.intro ((SA.box (.inr (.inl ⟨rfl, rfl, rfl⟩))).cell (i := 0) rfl) (And.intro (SA.q.cell (i := 1) rfl) (((ecell (hWX.trans A)).1 b _ hb).trans p2))))
            (refine hK _ _ hS2 ?_; clear hK K; (try simp only [Act.put, List.setIfInBounds_toArray, List.set_cons_zero, List.set_cons_succ]))
            (refine wpAnyT_doN 17 (by kernel_rfl) rfl (by decide) (fun K hK => ?_))
            refine step_app tyBools SA.own2 (rowAtN w3.drew #[.bool false] _ (B := w3.drew.heap.size) rfl) rfl (by simp [Value.oneCell']) (by have := HNL.out; omega) SA.hs rfl rfl rfl rfl ?_
            intro v9 w9 o9 g9 m9
            obtain ⟨va, vc, rfl, _⟩ := ownsRow_row o9
            have S9 := Lib.hid (SX.app2 A o9 g9 m9)
            have q9 := SA.q.gr g9 (fun q => by have := (SA.own2.lt' _ q).1; omega)
            have f9 := fun i => q9.frozen i
            have x9 := q9.cell (i := 1) rfl
            have l9 := q9.lt
            (refine hK _ _ ?_; clear hK K; (try simp only [Act.put, List.setIfInBounds_toArray, List.set_cons_zero, List.set_cons_succ]))
            (refine wpAnyT_doN 18 (by kernel_rfl) rfl (by decide) (fun K hK => ?_))
            go_simp
            (refine hK _ _ ?_; clear hK K; (try simp only [Act.put, List.setIfInBounds_toArray, List.set_cons_zero, List.set_cons_succ]))
            (refine wpAnyT_doN 19 (by kernel_rfl) rfl (by decide) (fun K hK => ?_))
            go_simp
            (refine hK _ _ ?_; clear hK K; (try simp only [Act.put, List.setIfInBounds_toArray, List.set_cons_zero, List.set_cons_succ]))
            (refine wpAnyT_last 20 (by kernel_rfl) rfl (by decide) (by kernel_rfl) (fun K hK => ?_))
            go_simp
            (refine hK _ _ ?_; clear hK K; (try simp only [Act.put, List.setIfInBounds_toArray, List.set_cons_zero, List.set_cons_succ]))
            clear hS0 hS2 o9 g9 m9 q9 f9 x9 l9 SA SX A hWX c0 c1 c2 d1 p2
            go_wp2
            go_roundw
            case rel => exact ⟨i + 1, _, by omega, by go_num, by rw [HST.out]; exact S9.out⟩
            case measure => simp [intOf]; omega
          · rw [hrg, Bool.true_and] at hsucc
            rw [hrg] at p2
            have hc := TC.out i hi25 w3.drew (HF.out.ext hE.drew')
            obtain ⟨z, hz⟩ : ∃ z, z = tabV k (valW k regs ins) i := ⟨_, rfl⟩
            rw [← hz] at hc hsucc
            have HST := Lib.hid hsucc
            have HC := Lib.hid hc
            clear hsucc hrg y0 s0 hc hz
            go_wp2_with fail
            refine wp_regionT (fun w' => w'.cell? ⟨w.heap.size, 0, none⟩ = some (.slice (some ⟨b, o, none⟩) k.ts.length tc) ∧ w'.cell? ⟨w.heap.size, 1, none⟩ = some (.slice pa k.ps.length pc) ∧ w'.cell? ⟨w.heap.size + 1, 0, none⟩ = some (.slice ra regs.length rc) ∧ w'.cell? ⟨w.heap.size + 1 + 1 + 1, 1, none⟩ = some rv ∧ w'.cell? ⟨b, o + i * 4 + 2, none⟩ = some (.bool true)) 17 (by kernel_rfl) ?_
            have hS0 := And.intro (a := w3.drew.cell? ⟨w.heap.size, 0, none⟩ = some (.slice (some ⟨b, o, none⟩) k.ts.length tc)) c0 (And.intro (a := w3.drew.cell? ⟨w.heap.size, 1, none⟩ = some (.slice pa k.ps.length pc)) c1 (And.intro (a := w3.drew.cell? ⟨w.heap.size + 1, 0, none⟩ = some (.slice ra regs.length rc)) c2 (And.intro (a := w3.drew.cell? ⟨w.heap.size + 1 + 1 + 1, 1, none⟩ = some rv) d1 (show w3.drew.cell? ⟨b, o + i * 4 + 2, none⟩ = some (.bool true) from p2))))
            ((refine wpAnyT_take 0 (v := ?_) rfl (by kernel_rfl) (fun _ _ _ h => h) (Or.inl ⟨by kernel_rfl, ?_⟩) (by assumption) ?_; rotate_left; (intro wS hSw; (try dsimp only at hSw); go_simp; (try with_reducible rfl)); (try simp only [Act.put, List.setIfInBounds_toArray, List.set_cons_zero, List.set_cons_succ])); (refine wpAnyT_take 1 (v := ?_) rfl (by kernel_rfl) (fun _ _ _ h => h) (Or.inl ⟨by kernel_rfl, ?_⟩) (by assumption) ?_; rotate_left; (intro wS hSw; (try dsimp only at hSw); go_simp; (try with_reducible rfl)); (try simp only [Act.put, List.setIfInBounds_toArray, List.set_cons_zero, List.set_cons_succ])); (refine wpAnyT_take 2 (v := ?_) rfl (by kernel_rfl) (fun _ _ _ h => h) (Or.inl ⟨by kernel_rfl, ?_⟩) (by assumption) ?_; rotate_left; (intro wS hSw; (try dsimp only at hSw); go_simp; (try with_reducible rfl)); (try simp only [Act.put, List.setIfInBounds_toArray, List.set_cons_zero, List.set_cons_succ])); (refine wpAnyT_take 3 (v := ?_) rfl (by kernel_rfl) (fun _ _ _ h => h) (Or.inl ⟨by kernel_rfl, ?_⟩) (by assumption) ?_; rotate_left; (intro wS hSw; (try dsimp only at hSw); go_simp; (try with_reducible rfl)); (try simp only [Act.put, List.setIfInBounds_toArray, List.set_cons_zero, List.set_cons_succ])); (refine wpAnyT_take 4 (v := ?_) rfl (by kernel_rfl) (fun _ _ _ h => h) (Or.inl ⟨by kernel_rfl, ?_⟩) (by assumption) ?_; rotate_left; (intro wS hSw; (try dsimp only at hSw); go_simp; (try with_reducible rfl)); (try simp only [Act.put, List.setIfInBounds_toArray, List.set_cons_zero, List.set_cons_succ])); (refine wpAnyT_take 5 (v := ?_) rfl (by kernel_rfl) (fun _ _ _ h => h) (Or.inl ⟨by kernel_rfl, ?_⟩) (by assumption) ?_; rotate_left; (intro wS hSw; (try dsimp only at hSw); go_simp; (try with_reducible rfl)); (try simp only [Act.put, List.setIfInBounds_toArray, List.set_cons_zero, List.set_cons_succ])); (refine wpAnyT_take 6 (v := ?_) rfl (by kernel_rfl) (fun _ _ _ h => h) (Or.inl ⟨by kernel_rfl, ?_⟩) (by assumption) ?_; rotate_left; (intro wS hSw; (try dsimp only at hSw); go_simp; (try with_reducible rfl)); (try simp only [Act.put, List.setIfInBounds_toArray, List.set_cons_zero, List.set_cons_succ])); (refine wpAnyT_take 7 (v := ?_) rfl (by kernel_rfl) (fun _ _ _ h => h) (Or.inl ⟨by kernel_rfl, ?_⟩) (by assumption) ?_; rotate_left; (intro wS hSw; (try dsimp only at hSw); go_simp; (try with_reducible rfl)); (try simp only [Act.put, List.setIfInBounds_toArray, List.set_cons_zero, List.set_cons_succ])); (refine wpAnyT_take 8 (v := ?_) rfl (by kernel_rfl) (fun _ _ _ h => h) (Or.inl ⟨by kernel_rfl, ?_⟩) (by assumption) ?_; rotate_left; (intro wS hSw; (try dsimp only at hSw); go_simp; (try with_reducible rfl)); (try simp only [Act.put, List.setIfInBounds_toArray, List.set_cons_zero, List.set_cons_succ])); (refine wpAnyT_take 9 (v := ?_) rfl (by kernel_rfl) (fun _ _ _ h => h) (Or.inl ⟨by kernel_rfl, ?_⟩) (by assumption) ?_; rotate_left; (intro wS hSw; (try dsimp only at hSw); go_simp; (try with_reducible rfl)); (try simp only [Act.put, List.setIfInBounds_toArray, List.set_cons_zero, List.set_cons_succ])); (refine wpAnyT_take 10 (v := ?_) rfl (by kernel_rfl) (fun _ _ _ h => h) (Or.inl ⟨by kernel_rfl, ?_⟩) (by assumption) ?_; rotate_left; (intro wS hSw; (try dsimp only at hSw); go_simp; (try with_reducible rfl)); (try simp only [Act.put, List.setIfInBounds_toArray, List.set_cons_zero, List.set_cons_succ])); (refine wpAnyT_take 11 (v := ?_) rfl (by kernel_rfl) (fun _ _ _ h => h) (Or.inl ⟨by kernel_rfl, ?_⟩) (by assumption) ?_; rotate_left; (intro wS hSw; (try dsimp only at hSw); go_simp; (try with_reducible rfl)); (try simp only [Act.put, List.setIfInBounds_toArray, List.set_cons_zero, List.set_cons_succ])); (refine wpAnyT_take 12 (v := ?_) rfl (by kernel_rfl) (fun _ _ _ h => h) (Or.inl ⟨by kernel_rfl, ?_⟩) (by assumption) ?_; rotate_left; (intro wS hSw; (try dsimp only at hSw); go_simp; (try with_reducible rfl)); (try simp only [Act.put, List.setIfInBounds_toArray, List.set_cons_zero, List.set_cons_succ])); (refine wpAnyT_take 13 (v := ?_) rfl (by kernel_rfl) (fun _ _ _ h => h) (Or.inl ⟨by kernel_rfl, ?_⟩) (by assumption) ?_; rotate_left; (intro wS hSw; (try dsimp only at hSw); go_simp; (try with_reducible rfl)); (try simp only [Act.put, List.setIfInBounds_toArray, List.set_cons_zero, List.set_cons_succ])))
            (refine wpAnyT_do 14 (by kernel_rfl) rfl (fun K hK => ?_))
            go_simp
            refine HC.out.mono ?_
            rintro e w4 ⟨rfl, hE4⟩
            have hWX := (Ext.drew w3).trans hE4
            have SX := S0.ext' hWX
            have hS1 := And.intro ((SX.box (.inl ⟨rfl, rfl, rfl⟩)).cell (i := 0) rfl) (And.intro ((SX.box (.inl ⟨rfl, rfl, rfl⟩)).cell (i := 1) rfl) (And.intro ((SX.box (.inr (.inl ⟨rfl, rfl, rfl⟩))).cell (i := 0) rfl) (And.intro (SX.q.cell (i := 1) rfl) (((ecell hWX).1 b _ hb).trans p2))))
            (refine hK _ _ hS1 ?_; clear hK K; (try simp only [Act.put, List.setIfInBounds_toArray, List.set_cons_zero, List.set_cons_succ]))
            ((refine wpAnyT_take 15 (v := ?_) rfl (by kernel_rfl) (fun _ _ _ h => h) (Or.inl ⟨by kernel_rfl, ?_⟩) (by assumption) ?_; rotate_left; (intro wS hSw; (try dsimp only at hSw); go_simp; (try with_reducible rfl)); (try simp only [Act.put, List.setIfInBounds_toArray, List.set_cons_zero, List.set_cons_succ])))
            (refine wpAnyT_do 16 (by kernel_rfl) rfl (fun K hK => ?_))
            go_simp
            clear hS1
            have A := (Ext.refl w4).alloc (.cells #[.bool z] 4)
            have SA := SX.ext' A
            have hS2 := And.intro ((SA.box (.inl ⟨rfl, rfl, rfl⟩)).cell (i := 0) rfl) (And.intro ((SA.box (.inl ⟨rfl, rfl, rfl⟩)).cell (i := 1) rfl) (And.intro ((SA.box (.inr (.inl ⟨rfl, rfl, rfl⟩))).cell (i := 0) rfl) (And.intro (SA.q.cell (i := 1) rfl) (((ecell (hWX.trans A)).1 b _ hb).trans p2))))
            (refine hK _ _ hS2 ?_; clear hK K; (try simp only [Act.put, List.setIfInBounds_toArray, List.set_cons_zero, List.set_cons_succ]))
            (refine wpAnyT_doN 17 (by kernel_rfl) rfl (by decide) (fun K hK => ?_))
            refine step_app tyBools SA.own2 (rowAtN w4 #[.bool z] _ (B := w4.heap.size) rfl) rfl (by simp [Value.oneCell']) (by have := HNL.out; omega) SA.hs rfl rfl rfl rfl ?_
            intro v9 w9 o9 g9 m9
            obtain ⟨va, vc, rfl, _⟩ := ownsRow_row o9
            have S9 := Lib.hid (SX.app2 A o9 g9 m9)
            have q9 := SA.q.gr g9 (fun q => by have := (SA.own2.lt' _ q).1; omega)
            have f9 := fun i => q9.frozen i
            have x9 := q9.cell (i := 1) rfl
            have l9 := q9.lt
            (refine hK _ _ ?_; clear hK K; (try simp only [Act.put, List.setIfInBounds_toArray, List.set_cons_zero, List.set_cons_succ]))
            (refine wpAnyT_doN 18 (by kernel_rfl) rfl (by decide) (fun K hK => ?_))
            go_simp
            (refine hK _ _ ?_; clear hK K; (try simp only [Act.put, List.setIfInBounds_toArray, List.set_cons_zero, List.set_cons_succ]))
            (refine wpAnyT_doN 19 (by kernel_rfl) rfl (by decide) (fun K hK => ?_))
            go_simp
            (refine hK _ _ ?_; clear hK K; (try simp only [Act.put, List.setIfInBounds_toArray, List.set_cons_zero, List.set_cons_succ]))
            (refine wpAnyT_last 20 (by kernel_rfl) rfl (by decide) (by kernel_rfl) (fun K hK => ?_))
            go_simp
            (refine hK _ _ ?_; clear hK K; (try simp only [Act.put, List.setIfInBounds_toArray, List.set_cons_zero, List.set_cons_succ]))
            clear hS0 hS2 o9 g9 m9 q9 f9 x9 l9 SA SX A hWX c0 c1 c2 d1 p2
            go_wp2
            go_roundw
            case rel => exact ⟨i + 1, _, by omega, by go_num, by rw [HST.out]; exact S9.out⟩
            case measure => simp [intOf]; omega
        · have hi2 : i = 25 := by omega
          have hiI : ¬ (i : Int) < 25 := by omega
          rw [hi2] at S0
          have r0 := S0.box (.inr (.inr ⟨rfl, rfl, rfl⟩))
          obtain ⟨oa, oc, rfl, _⟩ := S0.own.len
          obtain ⟨ra2, rc2, rfl, _⟩ := S0.own2.len
          have d0 := S0.q.cell (i := 0) rfl
          have d1 := S0.q.cell (i := 1) rfl
          have fz := fun i => r0.frozen i
          have rl := r0.lt
          have u0 := r0.cell (i := 0) rfl
          have u1 := r0.cell (i := 1) rfl
          have HS := Lib.hid S0
          clear hi2 S0 hi25
          go_wp2
          refine bodyPost_ret (v := .agg #[.slice oa (O 3).length oc, .slice ra2 (N 25).length rc2]) (by simp [results, Try.results99, go_sem, u0, u1]) rfl ?_
          have e1 : ∀ q, (Value.slice oa (O 3).length oc).ownBlock = some q → q ≠ w.heap.size + 1 + 1 := fun q hq => by have := (HS.out.own.lt' q hq).1; omega
          have e2 : ∀ q, (Value.slice ra2 (N 25).length rc2).ownBlock = some q → q ≠ w.heap.size + 1 + 1 := fun q hq => by have := (HS.out.own2.lt' q hq).1; omega
          refine ⟨_, _, rfl, ?_, ?_, HS.out.dis, ?_⟩
          · exact (OwnB.setOther (OwnB.setOther HS.out.own (fun q => e1 _ q rfl) _) (fun q => e1 _ q rfl) _).le (by omega)
          · exact (OwnB.setOther (OwnB.setOther HS.out.own2 (fun q => e2 _ q rfl) _) (fun q => e2 _ q rfl) _).le (by omega)
          · exact Ext.setNew (Ext.setNew hE (by simp; omega) _) (by simp; omega) _
end Go.Proofs.Ytkdiniaddnhkdaa

