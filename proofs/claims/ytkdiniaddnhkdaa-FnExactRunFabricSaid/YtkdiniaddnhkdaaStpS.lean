/- Contract: one clock cycle, the reference's way. -/
import Derived.Test.YtkdiniaddnhkdaaWirS
import Derived.Test.YtkdiniaddnhkdaaStp0
namespace Go.Proofs.Ytkdiniaddnhkdaa
open Go.RowKit
set_option maxRecDepth 100000
set_option linter.unusedVariables false
set_option linter.unusedSimpArgs false
def BxS (w : World) (k : Conf) (ta pa ra : Option Addr) (tc pc rc n : Nat) (B : Nat) (t : TypeId) (cs : List Value) : Prop := (B = w.heap.size ∧ t = 25 ∧ cs = [.slice ta k.ts.length tc, .slice pa k.ps.length pc]) ∨ (B = w.heap.size + 1 ∧ t = 63 ∧ cs = [.slice ra n rc]) ∨ (B = w.heap.size + 1 + 1 ∧ t = 65 ∧ cs = [.slice none 0 0, .slice none 0 0])
set_option maxHeartbeats 4000000 in
theorem l10Step_c (k : Conf) (ta pa ra ia : Option Addr) (tc pc rc ic : Nat) (regs ins : List Bool) (hok : k.Ok) (hf : ∀ x : Wire, x.Ok → ∃ n, FinN k n x) (hr : 25 ≤ regs.length ∧ regs.length ≤ 25) (hil : ins.length ≤ 4) (w : World) (hF : FabAt w k ta pa ra regs ia ins) :
    Calls Try.prog 99 #[.agg #[.slice ta k.ts.length tc, .slice pa k.ps.length pc], .agg #[.slice ra regs.length rc], .slice ia ins.length ic] w (GiveF w (outsV k regs ins 3) (nextV k regs ins 25)) := by
  have WC := Lib.hid (fun (x : Wire) (hx : x.Ok) => l10Wire_c k ta pa ra ia tc pc rc ic regs ins hok hf hr hil (rk k x + 1) x hx (by omega))
  have TC := Lib.hid (fun (t : Nat) (ht : t < 25) => l10Table_c k ta pa ra ia tc pc rc ic regs ins hok t ht (fun y hy => WC.out y (selW_ok ht _ (hok.sel ht) y hy)))
  have hps := hF.k.ps
  have hts := hF.k.ts
  have HF := Lib.hid hF
  have HPS := Lib.hid hok.ps
  obtain ⟨lt1, lt2⟩ : k.ts.length ≤ 25 ∧ 25 ≤ k.ts.length := by have := hok.lt; omega
  obtain ⟨lp1, lp2⟩ : k.ps.length ≤ 3 ∧ 3 ≤ k.ps.length := by have := hok.lp; omega
  obtain ⟨O, HO⟩ : ∃ O : Nat → List Bool, Hid (O = outsV k regs ins) := ⟨_, Lib.hid rfl⟩
  obtain ⟨N, HN⟩ : ∃ N : Nat → List Bool, Hid (N = nextV k regs ins) := ⟨_, Lib.hid rfl⟩
  rw [← HO.out, ← HN.out]
  have S0 : StO w (w.heap.size + 4) (w.heap.size + 1 + 1 + 1) (BxS w k ta pa ra tc pc rc regs.length) (.slice none 0 0) (.slice none 0 0) [] [] ((((w.alloc (.cells #[.slice ta k.ts.length tc, .slice pa k.ps.length pc] 25)).alloc (.cells #[.slice ra regs.length rc] 63)).alloc (.cells #[.slice none 0 0, .slice none 0 0] 65)).alloc (.cells #[.slice none 0 0, .slice none 0 0] 65)) := by
    refine ⟨OwnB.nil, OwnB.nil, Blk.at _ [.slice none 0 0, .slice none 0 0] _ (by simp), fun q hq => (by cases hq), by (repeat (first | with_reducible assumption | with_reducible exact Ext.refl _ | with_reducible refine Ext.drew' ?_ | with_reducible refine Ext.drewN' ?_ _ | with_reducible refine Ext.alloc ?_ _ | (with_reducible refine Ext.setNew ?_ (by first | exact Nat.le_refl _ | (simp; done) | (simp; omega) | omega) _))), fun B t cs hb => ?_, by omega, by omega, by simp⟩
    rcases hb with ⟨rfl, rfl, rfl⟩ | ⟨rfl, rfl, rfl⟩ | ⟨rfl, rfl, rfl⟩
    · exact ⟨(((Blk.at w [.slice ta k.ts.length tc, .slice pa k.ps.length pc] 25 rfl).alloc _).alloc _).alloc _, by omega, by omega⟩
    · exact ⟨((Blk.at (w.alloc _) [.slice ra regs.length rc] 63 (by simp)).alloc _).alloc _, by omega, by omega⟩
    · exact ⟨(Blk.at ((w.alloc _).alloc _) [.slice none 0 0, .slice none 0 0] 65 (by simp)).alloc _, by omega, by omega⟩
  clear hF
  go_enter Try.func99, Try.ntmps99
  go_wp2_with fail
  go_loopw [8] (fun u8 wr => ∃ (j : Nat) (ov : Value), j ≤ 3 ∧ u8 = .int .i64 j ∧ StO w (w.heap.size + 4) (w.heap.size + 1 + 1 + 1) (BxS w k ta pa ra tc pc rc regs.length) ov (.slice none 0 0) (O j) [] wr) (fun i _ => 3 - (intOf i).toNat)
  case atStart => exact ⟨0, .slice none 0 0, Nat.zero_le _, rfl, by rw [HO.out]; exact S0⟩
  case round =>
    clear S0
    obtain ⟨j, ov, hj, rfl, S0⟩ := hrel
    have y0 := S0.box (.inl ⟨rfl, rfl, rfl⟩)
    have s0 := S0.box (.inr (.inl ⟨rfl, rfl, rfl⟩))
    have q0 := S0.q
    have hE := S0.ext
    have c0 := y0.cell (i := 0) rfl
    have c1 := y0.cell (i := 1) rfl
    have c2 := s0.cell (i := 0) rfl
    have d0 := q0.cell (i := 0) rfl
    have yl := y0.lt
    have sl := s0.lt
    have ql := q0.lt
    by_cases hlt : j < 3
    · obtain ⟨b, o, rfl, hb, hcc⟩ := (hps.ext hE).get (by omega)
      obtain ⟨g0, g1⟩ := hcc j (by omega)
      have htr := trackB_cases (HPS.out j hlt)
      have hsucc := outsV_succ k regs ins j
      rw [← HO.out] at hsucc
      have hOl : (O j).length = j := by rw [HO.out]; exact outsV_len _ _ _ _
      have hjp : (j : Int) < (k.ps.length : Int) := by omega
      have hj3 : (j : Int) < 3 := by omega
      obtain ⟨x, hx⟩ : ∃ x, x = k.ps.getD j (0, false) := ⟨_, rfl⟩
      rw [← hx] at g0 g1 htr hsucc
      obtain ⟨s, v⟩ := x
      dsimp only at g0 g1 htr hsucc
      have HSU := Lib.hid hsucc
      have HOL := Lib.hid hOl
      obtain ⟨w2, rfl⟩ : ∃ z : World, z = wr := ⟨_, rfl⟩
      have A2 : Ext w2 (w2.alloc (.cells #[.int .i64 s, .bool v] 87)) := (Ext.refl w2).alloc _
      have S2 := S0.ext' A2
      have p2 := Blk.at w2 [.int .i64 s, .bool v] 87 rfl
      clear hcc hx hsucc hOl
      go_upto_region 6 with fail
      generalize w2.alloc (.cells #[.int .i64 s, .bool v] 87) = W2 at *
      have y2 := S2.box (.inl ⟨rfl, rfl, rfl⟩)
      have s2 := S2.box (.inr (.inl ⟨rfl, rfl, rfl⟩))
      have e0 := p2.cell (i := 0) rfl
      have e1 := p2.cell (i := 1) rfl
      have pl := p2.lt
      have k0 := y2.cell (i := 0) rfl
      have k1 := y2.cell (i := 1) rfl
      have k2 := s2.cell (i := 0) rfl
      have kl := y2.lt
      have kl2 := s2.lt
      have fz := fun i => S2.q.frozen i
      have r0 := S2.q.cell (i := 0) rfl
      have rl := S2.q.lt
      clear y0 s0 q0 c0 c1 c2 d0 yl sl ql g0 g1 S0
      by_cases h15 : s = 15
      · have hne : (s != 15) = false := by simp [h15]
        have hst : O (j + 1) = O j ++ [v] := by rw [HSU.out, h15]; show O j ++ [false != v] = _; cases v <;> rfl
        clear h15 htr HSU
        have HST := Lib.hid hst
        have A := (Ext.refl W2).alloc (.cells #[.bool v] 4)
        have hz := S2.hs
        clear hst
        go_wp2_with (at_builtin; go_loud (refine wpList_app tyBools (ownsRow_ext S2.own A) (rowAtN W2 #[.bool v] _ (B := W2.heap.size) rfl) rfl (by simp [Value.oneCell']) (by have := HOL.out; omega) (by simp; omega) rfl rfl rfl rfl ?_); intro v8 w8 o8 g8 m8; obtain ⟨va, vc, rfl, _⟩ := ownsRow_row o8; have S8 := Lib.hid (S2.app1 A o8 g8 m8); have q8 := (S2.q.ext A).gr g8 (fun q => by have := (S2.own.lt' _ q).1; omega); have f8 := fun i => q8.frozen i; have x8 := q8.cell (i := 0) rfl; have l8 := q8.lt; clear o8 g8 m8 q8)
        go_roundw
        case rel => exact ⟨j + 1, _, by omega, by go_num, by rw [HST.out]; exact S8.out⟩
        case measure => simp [intOf]; omega
      · have hne : (s != 15) = true := by simpa using h15
        obtain ⟨s0', s8⟩ : 0 ≤ s ∧ s < 8 := by omega
        have hc := WC.out (j * 5 + 4, s.toNat) ⟨by dsimp only; omega, by dsimp only; omega⟩ W2 (HF.out.ext S2.ext)
        obtain ⟨s', rfl⟩ : ∃ s' : Nat, s = s' := ⟨s.toNat, by omega⟩
        rw [Int.toNat_natCast] at hc
        have hsu : O (j + 1) = O j ++ [valW k regs ins (j * 5 + 4, s') != v] := by rw [HSU.out]; unfold rdV; rw [hne, Int.toNat_natCast, Bool.true_and]
        obtain ⟨z, hz⟩ : ∃ z, z = valW k regs ins (j * 5 + 4, s') := ⟨_, rfl⟩
        rw [← hz] at hc hsu
        have hcast : ((j * 5 + 4 : Nat) : Int) = (j : Int) * 5 + 5 - 1 := by omega
        dsimp only at hc
        rw [hcast] at hc
        have HC := Lib.hid hc
        have HSV := Lib.hid hsu
        clear hc hsu hz hcast h15 htr HSU
        go_wp2_with fail
        refine HC.out.mono ?_
        rintro e w3 ⟨rfl, hE3⟩
        have S3 := S2.ext' hE3
        have p3 := p2.ext hE3
        have a1 := p3.cell (i := 1) rfl
        have al := p3.lt
        have fz3 := fun i => S3.q.frozen i
        have r3 := S3.q.cell (i := 0) rfl
        have rl3 := S3.q.lt
        clear e0 e1 pl k0 k1 k2 kl kl2 fz r0 rl HC
        cases z
        · have hst : O (j + 1) = O j ++ [v] := by rw [HSV.out]; cases v <;> rfl
          clear HSV
          have HST := Lib.hid hst
          have A := (Ext.refl w3).alloc (.cells #[.bool v] 4)
          have hz := S3.hs
          clear hst
          go_wp2_with (at_builtin; go_loud (refine wpList_app tyBools (ownsRow_ext S3.own A) (rowAtN w3 #[.bool v] _ (B := w3.heap.size) rfl) rfl (by simp [Value.oneCell']) (by have := HOL.out; omega) (by simp; omega) rfl rfl rfl rfl ?_); intro v8 w8 o8 g8 m8; obtain ⟨va, vc, rfl, _⟩ := ownsRow_row o8; have S8 := Lib.hid (S3.app1 A o8 g8 m8); have q8 := (S3.q.ext A).gr g8 (fun q => by have := (S3.own.lt' _ q).1; omega); have f8 := fun i => q8.frozen i; have x8 := q8.cell (i := 0) rfl; have l8 := q8.lt; clear o8 g8 m8 q8)
          go_roundw
          case rel => exact ⟨j + 1, _, by omega, by go_num, by rw [HST.out]; exact S8.out⟩
          case measure => simp [intOf]; omega
        · have hst : O (j + 1) = O j ++ [!v] := by rw [HSV.out]; cases v <;> rfl
          clear HSV
          have HST := Lib.hid hst
          have A := (Ext.refl w3).alloc (.cells #[.bool (!v)] 4)
          have hz := S3.hs
          clear hst
          go_wp2_with (at_builtin; go_loud (refine wpList_app tyBools (ownsRow_ext S3.own A) (rowAtN w3 #[.bool (!v)] _ (B := w3.heap.size) rfl) rfl (by simp [Value.oneCell']) (by have := HOL.out; omega) (by simp; omega) rfl rfl rfl rfl ?_); intro v8 w8 o8 g8 m8; obtain ⟨va, vc, rfl, _⟩ := ownsRow_row o8; have S8 := Lib.hid (S3.app1 A o8 g8 m8); have q8 := (S3.q.ext A).gr g8 (fun q => by have := (S3.own.lt' _ q).1; omega); have f8 := fun i => q8.frozen i; have x8 := q8.cell (i := 0) rfl; have l8 := q8.lt; clear o8 g8 m8 q8)
          go_roundw
          case rel => exact ⟨j + 1, _, by omega, by go_num, by rw [HST.out]; exact S8.out⟩
          case measure => simp [intOf]; omega
    · have hj3 : j = 3 := by omega
      have hjI : ¬ (j : Int) < 3 := by omega
      have S0 : StO w (w.heap.size + 4) (w.heap.size + 1 + 1 + 1) (BxS w k ta pa ra tc pc rc regs.length) ov (.slice none 0 0) (O 3) [] wr := by rw [← hj3]; exact S0
      clear y0 s0 q0 c0 c1 c2 d0 yl sl ql hj3 hlt
      obtain ⟨w2, rfl⟩ : ∃ z : World, z = wr := ⟨_, rfl⟩
      go_wp2_with fail
      go_loopw [11] (fun u11 wr => ∃ (i : Nat) (rv : Value), i ≤ 25 ∧ u11 = .int .i64 i ∧ StO w (w.heap.size + 4) (w.heap.size + 1 + 1 + 1) (BxS w k ta pa ra tc pc rc regs.length) ov rv (O 3) (N i) wr) (fun i _ => 25 - (intOf i).toNat)
      case atStart => exact ⟨0, .slice none 0 0, Nat.zero_le _, rfl, by rw [HN.out]; exact S0⟩
      case round =>
        clear S0 hE
        obtain ⟨i, rv, hi, rfl, S0⟩ := hrel
        have y0 := S0.box (.inl ⟨rfl, rfl, rfl⟩)
        have s0 := S0.box (.inr (.inl ⟨rfl, rfl, rfl⟩))
        have hE := S0.ext
        have c0 := y0.cell (i := 0) rfl
        have c1 := y0.cell (i := 1) rfl
        have c2 := s0.cell (i := 0) rfl
        have d1 := S0.q.cell (i := 1) rfl
        have yl := y0.lt
        have sl := s0.lt
        have ql := S0.q.lt
        by_cases hi25 : i < 25
        · obtain ⟨b, o, rfl, hb, hcc⟩ := (hts.ext hE).get (by omega)
          obtain ⟨_, _, _, _, _, _, p2, _⟩ := hcc i (by omega)
          have hsucc := nextV_succ k regs ins i
          rw [← HN.out] at hsucc
          have hNl : (N i).length = i := by rw [HN.out]; exact nextV_len _ _ _ _
          have HNL := Lib.hid hNl
          have hil2 : (i : Int) < (k.ts.length : Int) := by omega
          obtain ⟨w3, rfl⟩ : ∃ z : World, z = wr := ⟨_, rfl⟩
          have e1 : (k.ts.getD i tile0).rg = (tileAt k i).rg := rfl
          rw [e1] at p2
          clear hcc hNl e1
          cases hrg : (tileAt k i).rg
          · rw [hrg] at p2 hsucc
            have hst : N (i + 1) = N i ++ [false] := hsucc
            have HST := Lib.hid hst
            clear hst hsucc hrg y0 s0
            go_wp2_with fail
            refine wp_regionT (fun w' => w'.cell? ⟨w.heap.size, 0, none⟩ = some (.slice (some ⟨b, o, none⟩) k.ts.length tc) ∧ w'.cell? ⟨w.heap.size, 1, none⟩ = some (.slice pa k.ps.length pc) ∧ w'.cell? ⟨w.heap.size + 1, 0, none⟩ = some (.slice ra regs.length rc) ∧ w'.cell? ⟨w.heap.size + 1 + 1 + 1, 1, none⟩ = some rv ∧ w'.cell? ⟨b, o + i * 4 + 2, none⟩ = some (.bool false)) 17 (by kernel_rfl) ?_
            have hS0 := And.intro (a := w3.drew.cell? ⟨w.heap.size, 0, none⟩ = some (.slice (some ⟨b, o, none⟩) k.ts.length tc)) c0 (And.intro (a := w3.drew.cell? ⟨w.heap.size, 1, none⟩ = some (.slice pa k.ps.length pc)) c1 (And.intro (a := w3.drew.cell? ⟨w.heap.size + 1, 0, none⟩ = some (.slice ra regs.length rc)) c2 (And.intro (a := w3.drew.cell? ⟨w.heap.size + 1 + 1 + 1, 1, none⟩ = some rv) d1 (show w3.drew.cell? ⟨b, o + i * 4 + 2, none⟩ = some (.bool false) from p2))))
            ((refine wpAnyT_take 0 (v := ?_) rfl (by kernel_rfl) (fun _ _ _ h => h) (Or.inl ⟨by kernel_rfl, ?_⟩) (by assumption) ?_; rotate_left; (intro wS hSw; (try dsimp only at hSw); go_simp; (try with_reducible rfl)); (try simp only [Act.put, List.setIfInBounds_toArray, List.set_cons_zero, List.set_cons_succ])); (refine wpAnyT_take 1 (v := ?_) rfl (by kernel_rfl) (fun _ _ _ h => h) (Or.inl ⟨by kernel_rfl, ?_⟩) (by assumption) ?_; rotate_left; (intro wS hSw; (try dsimp only at hSw); go_simp; (try with_reducible rfl)); (try simp only [Act.put, List.setIfInBounds_toArray, List.set_cons_zero, List.set_cons_succ])); (refine wpAnyT_take 2 (v := ?_) rfl (by kernel_rfl) (fun _ _ _ h => h) (Or.inl ⟨by kernel_rfl, ?_⟩) (by assumption) ?_; rotate_left; (intro wS hSw; (try dsimp only at hSw); go_simp; (try with_reducible rfl)); (try simp only [Act.put, List.setIfInBounds_toArray, List.set_cons_zero, List.set_cons_succ])); (refine wpAnyT_take 3 (v := ?_) rfl (by kernel_rfl) (fun _ _ _ h => h) (Or.inl ⟨by kernel_rfl, ?_⟩) (by assumption) ?_; rotate_left; (intro wS hSw; (try dsimp only at hSw); go_simp; (try with_reducible rfl)); (try simp only [Act.put, List.setIfInBounds_toArray, List.set_cons_zero, List.set_cons_succ])); (refine wpAnyT_take 4 (v := ?_) rfl (by kernel_rfl) (fun _ _ _ h => h) (Or.inl ⟨by kernel_rfl, ?_⟩) (by assumption) ?_; rotate_left; (intro wS hSw; (try dsimp only at hSw); go_simp; (try with_reducible rfl)); (try simp only [Act.put, List.setIfInBounds_toArray, List.set_cons_zero, List.set_cons_succ])); (refine wpAnyT_take 5 (v := ?_) rfl (by kernel_rfl) (fun _ _ _ h => h) (Or.inl ⟨by kernel_rfl, ?_⟩) (by assumption) ?_; rotate_left; (intro wS hSw; (try dsimp only at hSw); go_simp; (try with_reducible rfl)); (try simp only [Act.put, List.setIfInBounds_toArray, List.set_cons_zero, List.set_cons_succ])); (refine wpAnyT_take 6 (v := ?_) rfl (by kernel_rfl) (fun _ _ _ h => h) (Or.inl ⟨by kernel_rfl, ?_⟩) (by assumption) ?_; rotate_left; (intro wS hSw; (try dsimp only at hSw); go_simp; (try with_reducible rfl)); (try simp only [Act.put, List.setIfInBounds_toArray, List.set_cons_zero, List.set_cons_succ])); (refine wpAnyT_take 7 (v := ?_) rfl (by kernel_rfl) (fun _ _ _ h => h) (Or.inl ⟨by kernel_rfl, ?_⟩) (by assumption) ?_; rotate_left; (intro wS hSw; (try dsimp only at hSw); go_simp; (try with_reducible rfl)); (try simp only [Act.put, List.setIfInBounds_toArray, List.set_cons_zero, List.set_cons_succ])); (refine wpAnyT_take 8 (v := ?_) rfl (by kernel_rfl) (fun _ _ _ h => h) (Or.inl ⟨by kernel_rfl, ?_⟩) (by assumption) ?_; rotate_left; (intro wS hSw; (try dsimp only at hSw); go_simp; (try with_reducible rfl)); (try simp only [Act.put, List.setIfInBounds_toArray, List.set_cons_zero, List.set_cons_succ])); (refine wpAnyT_take 9 (v := ?_) rfl (by kernel_rfl) (fun _ _ _ h => h) (Or.inl ⟨by kernel_rfl, ?_⟩) (by assumption) ?_; rotate_left; (intro wS hSw; (try dsimp only at hSw); go_simp; (try with_reducible rfl)); (try simp only [Act.put, List.setIfInBounds_toArray, List.set_cons_zero, List.set_cons_succ])))
            ((refine wpAnyT_take 10 (v := undef) rfl (by kernel_rfl) (fun _ _ _ h => h) (Or.inr ⟨by kernel_rfl, rfl⟩) (by assumption) ?_; (try simp only [Act.put, List.setIfInBounds_toArray, List.set_cons_zero, List.set_cons_succ])); (refine wpAnyT_take 11 (v := undef) rfl (by kernel_rfl) (fun _ _ _ h => h) (Or.inr ⟨by kernel_rfl, rfl⟩) (by assumption) ?_; (try simp only [Act.put, List.setIfInBounds_toArray, List.set_cons_zero, List.set_cons_succ])); (refine wpAnyT_take 12 (v := undef) rfl (by kernel_rfl) (fun _ _ _ h => h) (Or.inr ⟨by kernel_rfl, rfl⟩) (by assumption) ?_; (try simp only [Act.put, List.setIfInBounds_toArray, List.set_cons_zero, List.set_cons_succ])); (refine wpAnyT_take 13 (v := undef) rfl (by kernel_rfl) (fun _ _ _ h => h) (Or.inr ⟨by kernel_rfl, rfl⟩) (by assumption) ?_; (try simp only [Act.put, List.setIfInBounds_toArray, List.set_cons_zero, List.set_cons_succ])); (refine wpAnyT_take 14 (v := undef) rfl (by kernel_rfl) (fun _ _ _ h => h) (Or.inr ⟨by kernel_rfl, rfl⟩) (by assumption) ?_; (try simp only [Act.put, List.setIfInBounds_toArray, List.set_cons_zero, List.set_cons_succ])))
            ((refine wpAnyT_take 15 (v := ?_) rfl (by kernel_rfl) (fun _ _ _ h => h) (Or.inl ⟨by kernel_rfl, ?_⟩) (by assumption) ?_; rotate_left; (intro wS hSw; (try dsimp only at hSw); go_simp; (try with_reducible rfl)); (try simp only [Act.put, List.setIfInBounds_toArray, List.set_cons_zero, List.set_cons_succ])))
            (refine wpAnyT_do 16 (by kernel_rfl) rfl (fun K hK => ?_))
            go_simp
            have SX := S0.ext' (Ext.drew w3)
            have hWX := Ext.drew w3
            have A := (Ext.refl w3.drew).alloc (.cells #[.bool false] 4)
            have SA := SX.ext' A
            have hS2 := And.intro ((SA.box (.inl ⟨rfl, rfl, rfl⟩)).cell (i := 0) rfl) (And.intro ((SA.box (.inl ⟨rfl, rfl, rfl⟩)).cell (i := 1) rfl) (And.intro ((SA.box (.inr (.inl ⟨rfl, rfl, rfl⟩))).cell (i := 0) rfl) (And.intro (SA.q.cell (i := 1) rfl) (((ecell (hWX.trans A)).1 b _ hb).trans p2))))
            (refine hK _ _ hS2 ?_; clear hK K; (try simp only [Act.put, List.setIfInBounds_toArray, List.set_cons_zero, List.set_cons_succ]))
            (refine wpAnyT_doN 17 (by kernel_rfl) rfl (by decide) (fun K hK => ?_))
            refine step_app tyBools SA.own2 (rowAtN w3.drew #[.bool false] _ (B := w3.drew.heap.size) rfl) rfl (by simp [Value.oneCell']) (by have := HNL.out; omega) SA.hs rfl rfl rfl rfl ?_
            intro v9 w9 o9 g9 m9
            obtain ⟨va, vc, rfl, _⟩ := ownsRow_row o9
            have S9 := Lib.hid (SX.app2 A o9 g9 m9)
            have q9 := SA.q.gr g9 (fun q => by have := (SA.own2.lt' _ q).1; omega)
            have f9 := fun i => q9.frozen i
            have x9 := q9.cell (i := 1) rfl
            have l9 := q9.lt
            (refine hK _ _ ?_; clear hK K; (try simp only [Act.put, List.setIfInBounds_toArray, List.set_cons_zero, List.set_cons_succ]))
            (refine wpAnyT_doN 18 (by kernel_rfl) rfl (by decide) (fun K hK => ?_))
            go_simp
            (refine hK _ _ ?_; clear hK K; (try simp only [Act.put, List.setIfInBounds_toArray, List.set_cons_zero, List.set_cons_succ]))
            (refine wpAnyT_doN 19 (by kernel_rfl) rfl (by decide) (fun K hK => ?_))
            go_simp
            (refine hK _ _ ?_; clear hK K; (try simp only [Act.put, List.setIfInBounds_toArray, List.set_cons_zero, List.set_cons_succ]))
            (refine wpAnyT_last 20 (by kernel_rfl) rfl (by decide) (by kernel_rfl) (fun K hK => ?_))
            go_simp
            (refine hK _ _ ?_; clear hK K; (try simp only [Act.put, List.setIfInBounds_toArray, List.set_cons_zero, List.set_cons_succ]))
            clear hS0 hS2 o9 g9 m9 q9 f9 x9 l9 SA SX A hWX c0 c1 c2 d1 p2
            go_wp2
            go_roundw
            case rel => exact ⟨i + 1, _, by omega, by go_num, by rw [HST.out]; exact S9.out⟩
            case measure => simp [intOf]; omega
          · rw [hrg, Bool.true_and] at hsucc
            rw [hrg] at p2
            have hc := TC.out i hi25 w3.drew (HF.out.ext hE.drew')
            obtain ⟨z, hz⟩ : ∃ z, z = tabV k (valW k regs ins) i := ⟨_, rfl⟩
            rw [← hz] at hc hsucc
            have HST := Lib.hid hsucc
            have HC := Lib.hid hc
            clear hsucc hrg y0 s0 hc hz
            go_wp2_with fail
            refine wp_regionT (fun w' => w'.cell? ⟨w.heap.size, 0, none⟩ = some (.slice (some ⟨b, o, none⟩) k.ts.length tc) ∧ w'.cell? ⟨w.heap.size, 1, none⟩ = some (.slice pa k.ps.length pc) ∧ w'.cell? ⟨w.heap.size + 1, 0, none⟩ = some (.slice ra regs.length rc) ∧ w'.cell? ⟨w.heap.size + 1 + 1 + 1, 1, none⟩ = some rv ∧ w'.cell? ⟨b, o + i * 4 + 2, none⟩ = some (.bool true)) 17 (by kernel_rfl) ?_
            have hS0 := And.intro (a := w3.drew.cell? ⟨w.heap.size, 0, none⟩ = some (.slice (some ⟨b, o, none⟩) k.ts.length tc)) c0 (And.intro (a := w3.drew.cell? ⟨w.heap.size, 1, none⟩ = some (.slice pa k.ps.length pc)) c1 (And.intro (a := w3.drew.cell? ⟨w.heap.size + 1, 0, none⟩ = some (.slice ra regs.length rc)) c2 (And.intro (a := w3.drew.cell? ⟨w.heap.size + 1 + 1 + 1, 1, none⟩ = some rv) d1 (show w3.drew.cell? ⟨b, o + i * 4 + 2, none⟩ = some (.bool true) from p2))))
            ((refine wpAnyT_take 0 (v := ?_) rfl (by kernel_rfl) (fun _ _ _ h => h) (Or.inl ⟨by kernel_rfl, ?_⟩) (by assumption) ?_; rotate_left; (intro wS hSw; (try dsimp only at hSw); go_simp; (try with_reducible rfl)); (try simp only [Act.put, List.setIfInBounds_toArray, List.set_cons_zero, List.set_cons_succ])); (refine wpAnyT_take 1 (v := ?_) rfl (by kernel_rfl) (fun _ _ _ h => h) (Or.inl ⟨by kernel_rfl, ?_⟩) (by assumption) ?_; rotate_left; (intro wS hSw; (try dsimp only at hSw); go_simp; (try with_reducible rfl)); (try simp only [Act.put, List.setIfInBounds_toArray, List.set_cons_zero, List.set_cons_succ])); (refine wpAnyT_take 2 (v := ?_) rfl (by kernel_rfl) (fun _ _ _ h => h) (Or.inl ⟨by kernel_rfl, ?_⟩) (by assumption) ?_; rotate_left; (intro wS hSw; (try dsimp only at hSw); go_simp; (try with_reducible rfl)); (try simp only [Act.put, List.setIfInBounds_toArray, List.set_cons_zero, List.set_cons_succ])); (refine wpAnyT_take 3 (v := ?_) rfl (by kernel_rfl) (fun _ _ _ h => h) (Or.inl ⟨by kernel_rfl, ?_⟩) (by assumption) ?_; rotate_left; (intro wS hSw; (try dsimp only at hSw); go_simp; (try with_reducible rfl)); (try simp only [Act.put, List.setIfInBounds_toArray, List.set_cons_zero, List.set_cons_succ])); (refine wpAnyT_take 4 (v := ?_) rfl (by kernel_rfl) (fun _ _ _ h => h) (Or.inl ⟨by kernel_rfl, ?_⟩) (by assumption) ?_; rotate_left; (intro wS hSw; (try dsimp only at hSw); go_simp; (try with_reducible rfl)); (try simp only [Act.put, List.setIfInBounds_toArray, List.set_cons_zero, List.set_cons_succ])); (refine wpAnyT_take 5 (v := ?_) rfl (by kernel_rfl) (fun _ _ _ h => h) (Or.inl ⟨by kernel_rfl, ?_⟩) (by assumption) ?_; rotate_left; (intro wS hSw; (try dsimp only at hSw); go_simp; (try with_reducible rfl)); (try simp only [Act.put, List.setIfInBounds_toArray, List.set_cons_zero, List.set_cons_succ])); (refine wpAnyT_take 6 (v := ?_) rfl (by kernel_rfl) (fun _ _ _ h => h) (Or.inl ⟨by kernel_rfl, ?_⟩) (by assumption) ?_; rotate_left; (intro wS hSw; (try dsimp only at hSw); go_simp; (try with_reducible rfl)); (try simp only [Act.put, List.setIfInBounds_toArray, List.set_cons_zero, List.set_cons_succ])); (refine wpAnyT_take 7 (v := ?_) rfl (by kernel_rfl) (fun _ _ _ h => h) (Or.inl ⟨by kernel_rfl, ?_⟩) (by assumption) ?_; rotate_left; (intro wS hSw; (try dsimp only at hSw); go_simp; (try with_reducible rfl)); (try simp only [Act.put, List.setIfInBounds_toArray, List.set_cons_zero, List.set_cons_succ])); (refine wpAnyT_take 8 (v := ?_) rfl (by kernel_rfl) (fun _ _ _ h => h) (Or.inl ⟨by kernel_rfl, ?_⟩) (by assumption) ?_; rotate_left; (intro wS hSw; (try dsimp only at hSw); go_simp; (try with_reducible rfl)); (try simp only [Act.put, List.setIfInBounds_toArray, List.set_cons_zero, List.set_cons_succ])); (refine wpAnyT_take 9 (v := ?_) rfl (by kernel_rfl) (fun _ _ _ h => h) (Or.inl ⟨by kernel_rfl, ?_⟩) (by assumption) ?_; rotate_left; (intro wS hSw; (try dsimp only at hSw); go_simp; (try with_reducible rfl)); (try simp only [Act.put, List.setIfInBounds_toArray, List.set_cons_zero, List.set_cons_succ])); (refine wpAnyT_take 10 (v := ?_) rfl (by kernel_rfl) (fun _ _ _ h => h) (Or.inl ⟨by kernel_rfl, ?_⟩) (by assumption) ?_; rotate_left; (intro wS hSw; (try dsimp only at hSw); go_simp; (try with_reducible rfl)); (try simp only [Act.put, List.setIfInBounds_toArray, List.set_cons_zero, List.set_cons_succ])); (refine wpAnyT_take 11 (v := ?_) rfl (by kernel_rfl) (fun _ _ _ h => h) (Or.inl ⟨by kernel_rfl, ?_⟩) (by assumption) ?_; rotate_left; (intro wS hSw; (try dsimp only at hSw); go_simp; (try with_reducible rfl)); (try simp only [Act.put, List.setIfInBounds_toArray, List.set_cons_zero, List.set_cons_succ])); (refine wpAnyT_take 12 (v := ?_) rfl (by kernel_rfl) (fun _ _ _ h => h) (Or.inl ⟨by kernel_rfl, ?_⟩) (by assumption) ?_; rotate_left; (intro wS hSw; (try dsimp only at hSw); go_simp; (try with_reducible rfl)); (try simp only [Act.put, List.setIfInBounds_toArray, List.set_cons_zero, List.set_cons_succ])); (refine wpAnyT_take 13 (v := ?_) rfl (by kernel_rfl) (fun _ _ _ h => h) (Or.inl ⟨by kernel_rfl, ?_⟩) (by assumption) ?_; rotate_left; (intro wS hSw; (try dsimp only at hSw); go_simp; (try with_reducible rfl)); (try simp only [Act.put, List.setIfInBounds_toArray, List.set_cons_zero, List.set_cons_succ])))
            (refine wpAnyT_do 14 (by kernel_rfl) rfl (fun K hK => ?_))
            go_simp
            refine HC.out.mono ?_
            rintro e w4 ⟨rfl, hE4⟩
            have hWX := (Ext.drew w3).trans hE4
            have SX := S0.ext' hWX
            have hS1 := And.intro ((SX.box (.inl ⟨rfl, rfl, rfl⟩)).cell (i := 0) rfl) (And.intro ((SX.box (.inl ⟨rfl, rfl, rfl⟩)).cell (i := 1) rfl) (And.intro ((SX.box (.inr (.inl ⟨rfl, rfl, rfl⟩))).cell (i := 0) rfl) (And.intro (SX.q.cell (i := 1) rfl) (((ecell hWX).1 b _ hb).trans p2))))
            (refine hK _ _ hS1 ?_; clear hK K; (try simp only [Act.put, List.setIfInBounds_toArray, List.set_cons_zero, List.set_cons_succ]))
            ((refine wpAnyT_take 15 (v := ?_) rfl (by kernel_rfl) (fun _ _ _ h => h) (Or.inl ⟨by kernel_rfl, ?_⟩) (by assumption) ?_; rotate_left; (intro wS hSw; (try dsimp only at hSw); go_simp; (try with_reducible rfl)); (try simp only [Act.put, List.setIfInBounds_toArray, List.set_cons_zero, List.set_cons_succ])))
            (refine wpAnyT_do 16 (by kernel_rfl) rfl (fun K hK => ?_))
            go_simp
            clear hS1
            have A := (Ext.refl w4).alloc (.cells #[.bool z] 4)
            have SA := SX.ext' A
            have hS2 := And.intro ((SA.box (.inl ⟨rfl, rfl, rfl⟩)).cell (i := 0) rfl) (And.intro ((SA.box (.inl ⟨rfl, rfl, rfl⟩)).cell (i := 1) rfl) (And.intro ((SA.box (.inr (.inl ⟨rfl, rfl, rfl⟩))).cell (i := 0) rfl) (And.intro (SA.q.cell (i := 1) rfl) (((ecell (hWX.trans A)).1 b _ hb).trans p2))))
            (refine hK _ _ hS2 ?_; clear hK K; (try simp only [Act.put, List.setIfInBounds_toArray, List.set_cons_zero, List.set_cons_succ]))
            (refine wpAnyT_doN 17 (by kernel_rfl) rfl (by decide) (fun K hK => ?_))
            refine step_app tyBools SA.own2 (rowAtN w4 #[.bool z] _ (B := w4.heap.size) rfl) rfl (by simp [Value.oneCell']) (by have := HNL.out; omega) SA.hs rfl rfl rfl rfl ?_
            intro v9 w9 o9 g9 m9
            obtain ⟨va, vc, rfl, _⟩ := ownsRow_row o9
            have S9 := Lib.hid (SX.app2 A o9 g9 m9)
            have q9 := SA.q.gr g9 (fun q => by have := (SA.own2.lt' _ q).1; omega)
            have f9 := fun i => q9.frozen i
            have x9 := q9.cell (i := 1) rfl
            have l9 := q9.lt
            (refine hK _ _ ?_; clear hK K; (try simp only [Act.put, List.setIfInBounds_toArray, List.set_cons_zero, List.set_cons_succ]))
            (refine wpAnyT_doN 18 (by kernel_rfl) rfl (by decide) (fun K hK => ?_))
            go_simp
            (refine hK _ _ ?_; clear hK K; (try simp only [Act.put, List.setIfInBounds_toArray, List.set_cons_zero, List.set_cons_succ]))
            (refine wpAnyT_doN 19 (by kernel_rfl) rfl (by decide) (fun K hK => ?_))
            go_simp
            (refine hK _ _ ?_; clear hK K; (try simp only [Act.put, List.setIfInBounds_toArray, List.set_cons_zero, List.set_cons_succ]))
            (refine wpAnyT_last 20 (by kernel_rfl) rfl (by decide) (by kernel_rfl) (fun K hK => ?_))
            go_simp
            (refine hK _ _ ?_; clear hK K; (try simp only [Act.put, List.setIfInBounds_toArray, List.set_cons_zero, List.set_cons_succ]))
            clear hS0 hS2 o9 g9 m9 q9 f9 x9 l9 SA SX A hWX c0 c1 c2 d1 p2
            go_wp2
            go_roundw
            case rel => exact ⟨i + 1, _, by omega, by go_num, by rw [HST.out]; exact S9.out⟩
            case measure => simp [intOf]; omega
        · have hi2 : i = 25 := by omega
          have hiI : ¬ (i : Int) < 25 := by omega
          rw [hi2] at S0
          have r0 := S0.box (.inr (.inr ⟨rfl, rfl, rfl⟩))
          obtain ⟨oa, oc, rfl, _⟩ := S0.own.len
          obtain ⟨ra2, rc2, rfl, _⟩ := S0.own2.len
          have d0 := S0.q.cell (i := 0) rfl
          have d1 := S0.q.cell (i := 1) rfl
          have fz := fun i => r0.frozen i
          have rl := r0.lt
          have u0 := r0.cell (i := 0) rfl
          have u1 := r0.cell (i := 1) rfl
          have HS := Lib.hid S0
          clear hi2 S0 hi25
          go_wp2
          refine bodyPost_ret (v := .agg #[.slice oa (O 3).length oc, .slice ra2 (N 25).length rc2]) (by simp [results, Try.results99, go_sem, u0, u1]) rfl ?_
          have e1 : ∀ q, (Value.slice oa (O 3).length oc).ownBlock = some q → q ≠ w.heap.size + 1 + 1 := fun q hq => by have := (HS.out.own.lt' q hq).1; omega
          have e2 : ∀ q, (Value.slice ra2 (N 25).length rc2).ownBlock = some q → q ≠ w.heap.size + 1 + 1 := fun q hq => by have := (HS.out.own2.lt' q hq).1; omega
          refine ⟨_, _, rfl, ?_, ?_, HS.out.dis, ?_⟩
          · exact (OwnB.setOther (OwnB.setOther HS.out.own (fun q => e1 _ q rfl) _) (fun q => e1 _ q rfl) _).le (by omega)
          · exact (OwnB.setOther (OwnB.setOther HS.out.own2 (fun q => e2 _ q rfl) _) (fun q => e2 _ q rfl) _).le (by omega)
          · exact Ext.setNew (Ext.setNew hE (by simp; omega) _) (by simp; omega) _
end Go.Proofs.Ytkdiniaddnhkdaa
