/- Contracts: bits of numbers; comparisons of slices of truth values. -/
import Derived.Test.YtpomcoegpjehgaaLits
namespace Go.Proofs.Ytpomcoegpjehgaa
open Go.RowKit
set_option maxRecDepth 100000
set_option linter.unusedVariables false
set_option linter.unusedSimpArgs false
def BitsRel (w : World) (x : Nat) (n : Nat) (u5 u6 : Value) (wr : World) : Prop :=
  ∃ k : Nat, k ≤ n ∧ u6 = .int .i64 k ∧ OwnB wr w.heap.size u5 (bitsN x k) ∧ Ext w wr
set_option maxHeartbeats 1000000 in
theorem lawBits_c (x n : Nat) (hx : x ≤ 100000000) (hn : n ≤ 30) (w : World) :
    Calls Try.prog 39 #[.int .i64 x, .int .i64 n] w (GiveB w (bitsN x n)) := by
  have B0 := Blk.at w [] 4 (B := w.heap.size) rfl
  have O0 : OwnB (w.alloc (.cells #[] 4)) w.heap.size (.slice (some ⟨w.heap.size, 0, none⟩) 0 0) [] := B0.owns (n := 0) (size := 1) rfl (Nat.le_refl _) (by decide)
  go_enter Try.func39, Try.ntmps39
  go_wp2_with fail
  go_loopw [5, 6] (BitsRel w x n) (fun _ i _ => n - (intOf i).toNat)
  case atStart => exact ⟨0, Nat.zero_le _, rfl, O0, (Ext.refl w).alloc _⟩
  case round =>
    obtain ⟨k, hk, rfl, hO, hE⟩ := hrel
    clear B0 O0
    by_cases hlt : k < n
    · have hs := bitsN_succ x k
      have hlen := bitsN_length x k
      obtain ⟨xs, hxs⟩ : ∃ xs, xs = bitsN x k := ⟨_, rfl⟩
      rw [← hxs] at hO hs hlen
      have HS := Lib.hid hs
      have hl1 : xs.length ≤ k := by omega
      clear hxs hs hlen
      have OX := hO
      obtain ⟨a5, c5, rfl, hX⟩ := hO.opened
      have hOb := fun k hk => (OX.lt k hk).1
      have hd : x / 2 ^ k ≤ 100000000 := Nat.le_trans (Nat.div_le_self _ _) hx
      have E1 : Hid (bitN x k = (x / 2 ^ k % 2 == 1)) := Lib.hid rfl
      go_wp2_with (at_builtin; refine wpList_app tyBools (ownsRow_ext OX ((Ext.refl wr).alloc _)) (RowAt.new wr _ _) rfl (by simp [Value.oneCell']) (by omega) (by have := hE.size; simp; omega) rfl rfl rfl rfl ?_; intro v2 w2 o2 g2 m2)
      go_roundw
      case rel =>
        refine ⟨k + 1, by omega, by go_num, ?_, ext_grown (hE.alloc _) g2 (by intro k hk; have := hOb _ hk; omega)⟩
        rw [HS.out, ← bit_eq]
        exact OwnB.app (ys := [_]) rfl rfl o2
      case measure => simp [intOf]; omega
    · have hk2 : k = n := by omega
      subst hk2
      go_wp2
      go_ret
      exact ⟨_, rfl, hO, hE⟩
end Go.Proofs.Ytpomcoegpjehgaa
