/- The drawing of slices of truth values, of faults; of the arguments of EvalVars, Step, Detects, FindTest. -/
import Derived.Test.YtpfhlodlefcomaaDraw3
import Derived.Test.YtpfhlodlefcomaaOwnB
import Derived.Test.YtpfhlodlefcomaaSpec1
namespace Go.Proofs.Ytpfhlodlefcomaa
open Go.RowKit
set_option maxRecDepth 100000
set_option linter.unusedVariables false
set_option linter.unusedSimpArgs false
theorem Rdr.grn {w w' : World} {rb : Nat} {bs : List Int} {N : Nat} {r : Option Nat} (h : Rdr w rb bs N) (g : w.grownBy w' r) (hr : ∀ k, r = some k → rb < k) : Rdr w' rb bs N :=
  h.below (B := rb + 1) ⟨g.os, g.tape, g.output, g.size, fun k hk => g.block k (Nat.lt_of_lt_of_le hk h.lt) (fun e => by have := hr k e.symm; omega)⟩ (Nat.lt_succ_self rb)
def DrawnB (w : World) (rb : Nat) (bs : List Int) (N : Nat) (n : Nat) (e : Ending) (w' : World) : Prop :=
  ∃ v xs, e = .returned v ∧ xs.length = n ∧ OwnB w' w.heap.size v xs ∧ Rdr w' rb bs (N + n) ∧ w.grownBy w' (some rb)
def DrawBRel (w : World) (rb : Nat) (bs : List Int) (N : Nat) (n : Nat) (u5 u6 : Value) (wr : World) : Prop :=
  ∃ (k : Nat) (xs : List Bool), k ≤ n ∧ u6 = .int .i64 k ∧ Hid (xs.length = k) ∧ xs.length ≤ k ∧ OwnB wr w.heap.size u5 xs ∧ Rdr wr rb bs (N + k) ∧ w.grownBy wr (some rb)
set_option maxHeartbeats 1000000 in
theorem l20Bools_c (rb : Nat) (bs : List Int) (N n : Nat) (w : World) (hr : Rdr w rb bs N) (hN : N ≤ 1000000) (hn : n ≤ 1000) :
    Calls Try.prog 44 #[.pointer (some ⟨rb, 0, none⟩), .int .i64 n] w (DrawnB w rb bs N n) := by
  have hrl := hr.lt
  have B0 := Blk.at w [] 4 (B := w.heap.size) rfl
  have O0 : OwnB (w.alloc (.cells #[] 4)) w.heap.size (.slice (some ⟨w.heap.size, 0, none⟩) 0 0) [] := B0.owns (n := 0) (size := 1) rfl (Nat.le_refl _) (by decide)
  go_enter Try.func44, Try.ntmps44
  go_wp2_with fail
  go_loopw [5, 6] (DrawBRel w rb bs N n) (fun _ i _ => n - (intOf i).toNat)
  case atStart => exact ⟨0, [], Nat.zero_le _, rfl, Lib.hid rfl, Nat.le_refl _, O0, hr.ext ((Ext.refl w).alloc _), Gr.alloc (Gr.refl _ _) _⟩
  case round =>
    obtain ⟨k, xs, hk, rfl, HL, hl, hO, hR, hG⟩ := hrel
    clear B0 O0
    by_cases hlt : k < n
    · go_wp2_with fail
      refine (pick_c rb bs (N + k) 2 _ hR (by omega) (by omega)).mono ?_
      rintro e w2 ⟨kb, rfl, kb0, kb1, hR2, hG2⟩
      have hOb := fun k hk => (hO.lt' k hk)
      have hne : (u5 : Value).ownBlock = none ∨ u5.ownBlock ≠ some rb := by
        cases hb : (u5 : Value).ownBlock with
        | none => exact .inl rfl
        | some q => exact .inr (fun hh => by have := (hOb q hb).1; have : q = rb := Option.some.inj hh; omega)
      have hO2 : OwnB w2 w.heap.size u5 xs := ownsRow_gr hO hG2 hne
      have hGG := Gr.trans hG hG2
      have sz := hGG.size
      go_wp2_with (at_builtin; refine wpList_app tyBools (ownsRow_ext hO2 ((Ext.refl w2).alloc _)) (RowAt.new w2 _ _) rfl (by simp [Value.oneCell']) (by omega) (by simp; omega) rfl rfl rfl rfl ?_; intro v2 w3 o2 g2 m2)
      go_roundw
      case rel =>
        refine ⟨k + 1, xs ++ [kb == 1], by omega, by go_num, Lib.hid (by rw [List.length_append, HL.out]; rfl), by rw [List.length_append]; simp; omega, OwnB.app (ys := [_]) rfl rfl o2, ?_, ?_⟩
        · have e : N + (k + 1) = N + k + 1 := by omega
          rw [e]
          exact (hR2.ext ((Ext.refl w2).alloc _)).grn g2 (fun k hk => by have := (hOb k hk).1; omega)
        · exact Gr.row (Gr.alloc hGG _) g2 (fun k hk => (hOb k hk).1)
      case measure => simp [intOf]; omega
    · have hk2 : k = n := by omega
      subst hk2
      go_wp2
      go_ret
      exact ⟨_, xs, rfl, HL.out, hO, hR, hG⟩
end Go.Proofs.Ytpfhlodlefcomaa
