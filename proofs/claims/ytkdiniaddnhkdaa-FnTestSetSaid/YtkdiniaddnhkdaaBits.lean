/- Contracts: bits of numbers; comparisons of slices of truth values. -/
import Derived.Test.YtkdiniaddnhkdaaLits
namespace Go.Proofs.Ytkdiniaddnhkdaa
open Go.RowKit
set_option maxRecDepth 100000
set_option linter.unusedVariables false
set_option linter.unusedSimpArgs false
def BitsRel (w : World) (x : Nat) (n : Nat) (u5 u6 : Value) (wr : World) : Prop :=
  ∃ k : Nat, k ≤ n ∧ u6 = .int .i64 k ∧ OwnB wr w.heap.size u5 (bitsN x k) ∧ Ext w wr
set_option maxHeartbeats 1000000 in
theorem l4Bits_c (x n : Nat) (hx : x ≤ 100000000) (hn : n ≤ 30) (w : World) :
    Calls Try.prog 123 #[.int .i64 x, .int .i64 n] w (GiveB w (bitsN x n)) := by
  have B0 := Blk.at w [] 4 (B := w.heap.size) rfl
  have O0 : OwnB (w.alloc (.cells #[] 4)) w.heap.size (.slice (some ⟨w.heap.size, 0, none⟩) 0 0) [] := B0.owns (n := 0) (size := 1) rfl (Nat.le_refl _) (by decide)
  go_enter Try.func123, Try.ntmps123
  go_wp2_with fail
  go_loopw [5, 6] (BitsRel w x n) (fun _ i _ => n - (intOf i).toNat)
  case atStart => exact ⟨0, Nat.zero_le _, rfl, O0, (Ext.refl w).alloc _⟩
  case round =>
    obtain ⟨k, hk, rfl, hO, hE⟩ := hrel
    clear B0 O0
    by_cases hlt : k < n
    · have hs := bitsN_succ x k
      have hlen := bitsN_length x k
      obtain ⟨xs, hxs⟩ : ∃ xs, xs = bitsN x k := ⟨_, rfl⟩
      rw [← hxs] at hO hs hlen
      have HS := Lib.hid hs
      have hl1 : xs.length ≤ k := by omega
      clear hxs hs hlen
      have OX := hO
      obtain ⟨a5, c5, rfl, hX⟩ := hO.opened
      have hOb := fun k hk => (OX.lt k hk).1
      have hd : x / 2 ^ k ≤ 100000000 := Nat.le_trans (Nat.div_le_self _ _) hx
      have E1 : Hid (bitN x k = (x / 2 ^ k % 2 == 1)) := Lib.hid rfl
      go_wp2_with (at_builtin; refine wpList_app tyBools (ownsRow_ext OX ((Ext.refl wr).alloc _)) (RowAt.new wr _ _) rfl (by simp [Value.oneCell']) (by omega) (by have := hE.size; simp; omega) rfl rfl rfl rfl ?_; intro v2 w2 o2 g2 m2)
      go_roundw
      case rel =>
        refine ⟨k + 1, by omega, by go_num, ?_, ext_grown (hE.alloc _) g2 (by intro k hk; have := hOb _ hk; omega)⟩
        rw [HS.out, ← bit_eq]
        exact OwnB.app (ys := [_]) rfl rfl o2
      case measure => simp [intOf]; omega
    · have hk2 : k = n := by omega
      subst hk2
      go_wp2
      go_ret
      exact ⟨_, rfl, hO, hE⟩
def BitsOfRel (w : World) (x : Nat) (n : Nat) (B : Nat) (u : Value) (wr : World) : Prop :=
  ∃ k : Nat, k ≤ n ∧ u = .int .i64 k ∧ Blk wr B 4 ((upTo (bitsN x n) false n k).map Value.bool) ∧ Ext w wr
theorem bitsOf_c (x n : Nat) (hx : x ≤ 100000000) (hn : n ≤ 30) (w : World) :
    Calls Try.prog 148 #[.int .i64 x, .int .i64 n] w (GiveB w (bitsN x n)) := by
  have hm := run_zeros' (P := Try.prog) 59 4 (.bool false) [.bool false] 1 Try.underlying59 boolInfo' rfl (by decide) (by decide) n (by omega) w
  have L0 := Blk.at w (zeros [Value.bool false] n) 4 (B := w.heap.size) rfl
  have L1 : Blk (w.alloc (.cells (zeros [Value.bool false] n).toArray 4)) w.heap.size 4 ((upTo (bitsN x n) false n 0).map Value.bool) := by
    rw [upTo_zero, List.map_replicate, ← zeros_one]; exact L0
  go_enter Try.func148, Try.ntmps148
  go_wp2_with fail
  go_loopw [11] (BitsOfRel w x n w.heap.size) (fun i _ => n - (intOf i).toNat)
  case atStart => exact ⟨0, Nat.zero_le _, rfl, L1, (Ext.refl w).alloc _⟩
  case round =>
    obtain ⟨k, hk, rfl, hB, hE⟩ := hrel
    clear L0 L1 hm
    by_cases hlt : k < n
    · have hlen := bitsN_length x n
      have hs := upTo_set (bitsN x n) false k (by omega)
      have hl2 := upTo_length (bitsN x n) false k (by omega)
      rw [hlen] at hs hl2
      rw [bitsN_get _ _ _ hlt] at hs
      have qc : ∃ u, wr.cell? ⟨w.heap.size, k, none⟩ = some u := ⟨_, hB.cell (List.getElem?_eq_getElem (by rw [List.length_map]; omega))⟩
      obtain ⟨u, qc⟩ := qc
      have fz := hB.frozen k
      have h0 := bit_nonneg x k
      have h1 := bit_le x k
      have ha := and_one ((x : Int) / 2 ^ k) h0 (by omega)
      have hb := bit_eq2 x k
      have HS := Lib.hid hs
      have HL := Lib.hid hlen
      clear hs hl2 hlen
      go_wp2
      go_roundw
      case rel =>
        refine ⟨k + 1, by omega, by go_num, ?_, ?_⟩
        · rw [← HS.out, map_set]
          exact hB.set _ _
        · exact Ext.setNew hE (Nat.le_refl _) _
      case measure => simp [intOf]; omega
    · have hk2 : k = n := by omega
      subst hk2
      have hall : upTo (bitsN x k) false k k = bitsN x k := by
        have := upTo_all (bitsN x k) false
        rwa [bitsN_length] at this
      rw [hall] at hB
      go_wp2
      go_ret
      refine ⟨_, rfl, ?_, hE⟩
      have := hB.owns (n := k) (size := 1) (by simp [bitsN]) (Nat.le_refl _) (by unfold maxLen; omega)
      unfold OwnB
      rw [bitsN_length]; exact this
theorem equalB_c (a b : Option Addr) (c d n m : Nat) (xs ys : List Bool) (hn : xs.length = n) (hm : ys.length = m) (w : World) (hx : BoolsAt w a xs) (hy : BoolsAt w b ys) (hl : n ≤ 1048576) (hl2 : m ≤ 1048576) :
    Calls Try.prog 119 #[.slice a n c, .slice b m d] w fun e w' => e = .returned (.bool (xs == ys)) ∧ Ext w w' := by
  by_cases hnm : n = m
  · subst hnm
    have HN := Lib.hid hn
    have HM := Lib.hid hm
    have hn1 : xs.length ≤ n ∧ n ≤ xs.length := by omega
    have hm1 : ys.length ≤ n ∧ n ≤ ys.length := by omega
    obtain ⟨n1, n2⟩ := hn1
    obtain ⟨m1, m2⟩ := hm1
    clear hn hm
    go_enter Try.func119, Try.ntmps119
    go_wp2_with fail
    go_loopw [13] (fun i wr => ∃ k : Nat, k ≤ n ∧ i = .int .i64 k ∧ Hid (∀ j, j < k → xs.getD j false = ys.getD j false) ∧ Ext w wr) (fun i _ => n - (intOf i).toNat)
    case atStart => exact ⟨0, Nat.zero_le _, rfl, Lib.hid (fun j hj => by omega), Ext.refl w⟩
    case round =>
      obtain ⟨k, hk, rfl, hpre, hE⟩ := hrel
      by_cases hlt : k < n
      · obtain ⟨b1, o1, rfl, hb1, hc1⟩ := (hx.ext hE).get (by omega)
        obtain ⟨b2, o2, rfl, hb2, hc2⟩ := (hy.ext hE).get (by omega)
        have q1 := hc1 k (by omega)
        have q2 := hc2 k (by omega)
        obtain ⟨x, hxx⟩ : ∃ x, x = xs.getD k false := ⟨_, rfl⟩
        obtain ⟨y, hyy⟩ : ∃ x, x = ys.getD k false := ⟨_, rfl⟩
        rw [← hxx] at q1
        rw [← hyy] at q2
        have HX := Lib.hid hxx
        have HY := Lib.hid hyy
        clear hc1 hc2 hxx hyy
        cases x <;> cases y
        all_goals
          go_wp2
          go_quiet (fail)
          go_wp2
          first
          | (go_ret
             have hf : (xs == ys) = false := beq_no_at k (by rw [← HX.out, ← HY.out]; simp)
             exact ⟨by rw [hf]; rfl, by (repeat (first | assumption | (with_reducible refine Ext.drew' ?_) | exact Ext.refl _ | exact Ext.drew _ | exact Ext.drewN _ _ | (refine Ext.alloc ?_ _) | (refine Ext.drewN' ?_ _) | (refine Ext.setNew ?_ (by first | exact Nat.le_refl _ | (simp; done) | (simp; omega) | omega) _)))⟩)
          | (go_roundw
             case rel =>
               refine ⟨k + 1, by omega, by go_num, Lib.hid (fun j hj => ?_), by (repeat (first | assumption | (with_reducible refine Ext.drew' ?_) | exact Ext.refl _ | exact Ext.drew _ | exact Ext.drewN _ _ | (refine Ext.alloc ?_ _) | (refine Ext.drewN' ?_ _) | (refine Ext.setNew ?_ (by first | exact Nat.le_refl _ | (simp; done) | (simp; omega) | omega) _)))⟩
               rcases Nat.lt_or_ge j k with h | h
               · exact hpre.out j h
               · have : j = k := by omega
                 subst this
                 rw [← HX.out, ← HY.out]
             case measure => simp [intOf]; omega)
      · go_wp2
        go_ret
        have ht : (xs == ys) = true := beq_of_getD (by rw [HN.out, HM.out]) (fun j hj => hpre.out j (by omega))
        exact ⟨by rw [ht]; rfl, hE⟩
  · have hf : (xs == ys) = false := beq_no_len (by omega)
    have HF := Lib.hid hf
    have hnm2 : ((n : Int) != (m : Int)) = true := by simp; omega
    clear hf hn hm
    go_enter Try.func119, Try.ntmps119
    go_wp2
    go_ret
    exact ⟨by rw [HF.out]; rfl, Ext.refl w⟩
theorem l4Same_c (a b : Option Addr) (c d n m : Nat) (xs ys : List Bool) (hn : xs.length = n) (hm : ys.length = m) (w : World) (hx : BoolsAt w a xs) (hy : BoolsAt w b ys) (hl : n ≤ 1048576) (hl2 : m ≤ 1048576) :
    Calls Try.prog 126 #[.slice a n c, .slice b m d] w fun e w' => e = .returned (.bool (xs == ys)) ∧ Ext w w' := by
  by_cases hnm : n = m
  · subst hnm
    have HN := Lib.hid hn
    have HM := Lib.hid hm
    have hn1 : xs.length ≤ n ∧ n ≤ xs.length := by omega
    have hm1 : ys.length ≤ n ∧ n ≤ ys.length := by omega
    obtain ⟨n1, n2⟩ := hn1
    obtain ⟨m1, m2⟩ := hm1
    clear hn hm
    go_enter Try.func126, Try.ntmps126
    go_wp2_with fail
    go_loopw [5] (fun i wr => ∃ k : Nat, k ≤ n ∧ i = .int .i64 k ∧ Hid (∀ j, j < k → xs.getD j false = ys.getD j false) ∧ Ext w wr) (fun i _ => n - (intOf i).toNat)
    case atStart => exact ⟨0, Nat.zero_le _, rfl, Lib.hid (fun j hj => by omega), Ext.refl w⟩
    case round =>
      obtain ⟨k, hk, rfl, hpre, hE⟩ := hrel
      by_cases hlt : k < n
      · obtain ⟨b1, o1, rfl, hb1, hc1⟩ := (hx.ext hE).get (by omega)
        obtain ⟨b2, o2, rfl, hb2, hc2⟩ := (hy.ext hE).get (by omega)
        have q1 := hc1 k (by omega)
        have q2 := hc2 k (by omega)
        obtain ⟨x, hxx⟩ : ∃ x, x = xs.getD k false := ⟨_, rfl⟩
        obtain ⟨y, hyy⟩ : ∃ x, x = ys.getD k false := ⟨_, rfl⟩
        rw [← hxx] at q1
        rw [← hyy] at q2
        have HX := Lib.hid hxx
        have HY := Lib.hid hyy
        clear hc1 hc2 hxx hyy
        cases x <;> cases y
        all_goals
          go_wp2
          go_quiet (fail)
          go_wp2
          first
          | (go_ret
             have hf : (xs == ys) = false := beq_no_at k (by rw [← HX.out, ← HY.out]; simp)
             exact ⟨by rw [hf]; rfl, by (repeat (first | assumption | (with_reducible refine Ext.drew' ?_) | exact Ext.refl _ | exact Ext.drew _ | exact Ext.drewN _ _ | (refine Ext.alloc ?_ _) | (refine Ext.drewN' ?_ _) | (refine Ext.setNew ?_ (by first | exact Nat.le_refl _ | (simp; done) | (simp; omega) | omega) _)))⟩)
          | (go_roundw
             case rel =>
               refine ⟨k + 1, by omega, by go_num, Lib.hid (fun j hj => ?_), by (repeat (first | assumption | (with_reducible refine Ext.drew' ?_) | exact Ext.refl _ | exact Ext.drew _ | exact Ext.drewN _ _ | (refine Ext.alloc ?_ _) | (refine Ext.drewN' ?_ _) | (refine Ext.setNew ?_ (by first | exact Nat.le_refl _ | (simp; done) | (simp; omega) | omega) _)))⟩
               rcases Nat.lt_or_ge j k with h | h
               · exact hpre.out j h
               · have : j = k := by omega
                 subst this
                 rw [← HX.out, ← HY.out]
             case measure => simp [intOf]; omega)
      · go_wp2
        go_ret
        have ht : (xs == ys) = true := beq_of_getD (by rw [HN.out, HM.out]) (fun j hj => hpre.out j (by omega))
        exact ⟨by rw [ht]; rfl, hE⟩
  · have hf : (xs == ys) = false := beq_no_len (by omega)
    have HF := Lib.hid hf
    have hnm2 : ((n : Int) != (m : Int)) = true := by simp; omega
    clear hf hn hm
    go_enter Try.func126, Try.ntmps126
    go_wp2
    go_ret
    exact ⟨by rw [HF.out]; rfl, Ext.refl w⟩
theorem eqBools_c (a b : Option Addr) (c d n m : Nat) (xs ys : List Bool) (hn : xs.length = n) (hm : ys.length = m) (w : World) (hx : BoolsAt w a xs) (hy : BoolsAt w b ys) (hl : n ≤ 1048576) (hl2 : m ≤ 1048576) :
    Calls Try.prog 46 #[.slice a n c, .slice b m d] w fun e w' => e = .returned (.bool (xs == ys)) ∧ Ext w w' := by
  by_cases hnm : n = m
  · subst hnm
    have HN := Lib.hid hn
    have HM := Lib.hid hm
    have hn1 : xs.length ≤ n ∧ n ≤ xs.length := by omega
    have hm1 : ys.length ≤ n ∧ n ≤ ys.length := by omega
    obtain ⟨n1, n2⟩ := hn1
    obtain ⟨m1, m2⟩ := hm1
    clear hn hm
    go_enter Try.func46, Try.ntmps46
    go_wp2_with fail
    go_loopw [5] (fun i wr => ∃ k : Nat, k ≤ n ∧ i = .int .i64 k ∧ Hid (∀ j, j < k → xs.getD j false = ys.getD j false) ∧ Ext w wr) (fun i _ => n - (intOf i).toNat)
    case atStart => exact ⟨0, Nat.zero_le _, rfl, Lib.hid (fun j hj => by omega), Ext.refl w⟩
    case round =>
      obtain ⟨k, hk, rfl, hpre, hE⟩ := hrel
      by_cases hlt : k < n
      · obtain ⟨b1, o1, rfl, hb1, hc1⟩ := (hx.ext hE).get (by omega)
        obtain ⟨b2, o2, rfl, hb2, hc2⟩ := (hy.ext hE).get (by omega)
        have q1 := hc1 k (by omega)
        have q2 := hc2 k (by omega)
        obtain ⟨x, hxx⟩ : ∃ x, x = xs.getD k false := ⟨_, rfl⟩
        obtain ⟨y, hyy⟩ : ∃ x, x = ys.getD k false := ⟨_, rfl⟩
        rw [← hxx] at q1
        rw [← hyy] at q2
        have HX := Lib.hid hxx
        have HY := Lib.hid hyy
        clear hc1 hc2 hxx hyy
        cases x <;> cases y
        all_goals
          go_wp2
          go_quiet (fail)
          go_wp2
          first
          | (go_ret
             have hf : (xs == ys) = false := beq_no_at k (by rw [← HX.out, ← HY.out]; simp)
             exact ⟨by rw [hf]; rfl, by (repeat (first | assumption | (with_reducible refine Ext.drew' ?_) | exact Ext.refl _ | exact Ext.drew _ | exact Ext.drewN _ _ | (refine Ext.alloc ?_ _) | (refine Ext.drewN' ?_ _) | (refine Ext.setNew ?_ (by first | exact Nat.le_refl _ | (simp; done) | (simp; omega) | omega) _)))⟩)
          | (go_roundw
             case rel =>
               refine ⟨k + 1, by omega, by go_num, Lib.hid (fun j hj => ?_), by (repeat (first | assumption | (with_reducible refine Ext.drew' ?_) | exact Ext.refl _ | exact Ext.drew _ | exact Ext.drewN _ _ | (refine Ext.alloc ?_ _) | (refine Ext.drewN' ?_ _) | (refine Ext.setNew ?_ (by first | exact Nat.le_refl _ | (simp; done) | (simp; omega) | omega) _)))⟩
               rcases Nat.lt_or_ge j k with h | h
               · exact hpre.out j h
               · have : j = k := by omega
                 subst this
                 rw [← HX.out, ← HY.out]
             case measure => simp [intOf]; omega)
      · go_wp2
        go_ret
        have ht : (xs == ys) = true := beq_of_getD (by rw [HN.out, HM.out]) (fun j hj => hpre.out j (by omega))
        exact ⟨by rw [ht]; rfl, hE⟩
  · have hf : (xs == ys) = false := beq_no_len (by omega)
    have HF := Lib.hid hf
    have hnm2 : ((n : Int) != (m : Int)) = true := by simp; omega
    clear hf hn hm
    go_enter Try.func46, Try.ntmps46
    go_wp2
    go_ret
    exact ⟨by rw [HF.out]; rfl, Ext.refl w⟩
end Go.Proofs.Ytkdiniaddnhkdaa
