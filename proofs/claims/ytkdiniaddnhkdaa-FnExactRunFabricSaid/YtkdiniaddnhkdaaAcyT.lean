/- Contract: the reference's ConfigAcyclic. -/
import Derived.Test.YtkdiniaddnhkdaaAcyS
import Derived.Test.YtkdiniaddnhkdaaConfR
namespace Go.Proofs.Ytkdiniaddnhkdaa
open Go.RowKit
set_option maxRecDepth 100000
set_option linter.unusedVariables false
set_option linter.unusedSimpArgs false
theorem tyRowsI : RowTy Try.prog 152 39 1 24 := RowTy.mk' (z := .slice none 0 0) Try.underlying152 (by kernel_rfl) rfl (by decide) (by decide)
def rowV (bs : Nat → Nat) (t : Nat) : Value := .slice (some ⟨bs t, 0, none⟩) 8 8
def rowsV (bs : Nat → Nat) (n : Nat) : List Value := (List.range n).map (rowV bs)
theorem rowsV_succ (bs : Nat → Nat) (n : Nat) : rowsV bs (n + 1) = rowsV bs n ++ [rowV bs n] := by simp [rowsV, List.range_succ]
theorem rowsV_congr {bs bs' : Nat → Nat} {n : Nat} (h : ∀ t, t < n → bs t = bs' t) : rowsV bs n = rowsV bs' n := by
  unfold rowsV
  apply List.map_congr_left
  intro t ht
  rw [List.mem_range] at ht
  unfold rowV; rw [h t ht]
/-- The rows that have been made so far. -/
structure MadeR (w wr : World) (v : Value) (bs : Nat → Nat) (n : Nat) : Prop where
  row : wr.ownsRow (w.heap.size + 1) 39 1 v n (rowsV bs n)
  blk : ∀ t, t < n → Blk wr (bs t) 3 ((List.replicate 8 (0 : Int)).map (Value.int .i64))
  lo : ∀ t, t < n → w.heap.size + 1 ≤ bs t
  inj : ∀ t t', t < n → t' < n → bs t = bs t' → t = t'
  off : ∀ t, t < n → v.ownBlock ≠ some (bs t)
theorem MadeR.app {w wr w1 w8 : World} {v v' : Value} {bs : Nat → Nat} {n : Nat} (h : MadeR w wr v bs n) (hE : Ext w wr) (hs : w.heap.size + 1 ≤ wr.heap.size) (e : Ext wr w1) (B : Nat) (hB : B = wr.heap.size) (hb : Blk w1 B 3 ((List.replicate 8 (0 : Int)).map (Value.int .i64)))
    (o8 : w8.ownsRow (w.heap.size + 1) 39 1 v' (n + 1) (rowsV bs n ++ [.slice (some ⟨B, 0, none⟩) 8 8])) (g8 : w1.grownBy w8 v.ownBlock) (m8 : RowMoved w1 v v') : ∃ bs', MadeR w w8 v' bs' (n + 1) := by
  refine ⟨fun t => if t = n then B else bs t, ?_, fun t ht => ?_, fun t ht => ?_, fun t t' ht ht' he => ?_, fun t ht => ?_⟩
  · rw [rowsV_succ, rowsV_congr (bs' := bs) (fun t ht => by show (if t = n then B else bs t) = bs t; rw [if_neg (by omega)])]
    simpa [rowV] using o8
  · have hl := h.row.lt
    by_cases e2 : t = n
    · simp only [e2, if_true]
      exact hb.gr g8 (fun q => by have := (hl _ q).2; omega)
    · simp only [e2, if_false]
      exact ((h.blk t (by omega)).ext e).gr g8 (h.off t (by omega))
  · by_cases e2 : t = n
    · simp only [e2, if_true]; omega
    · simp only [e2, if_false]; exact h.lo t (by omega)
  · by_cases e2 : t = n
    · by_cases e3 : t' = n
      · omega
      · simp only [e2, e3, if_true, if_false] at he
        have := (h.blk t' (by omega)).lt; omega
    · by_cases e3 : t' = n
      · simp only [e2, e3, if_true, if_false] at he
        have := (h.blk t (by omega)).lt; omega
      · simp only [e2, e3, if_false] at he
        exact h.inj t t' (by omega) (by omega) he
  · intro q
    have hlt : (if t = n then B else bs t) < w1.heap.size := by
      by_cases e2 : t = n
      · rw [if_pos e2]; exact hb.lt
      · rw [if_neg e2]; exact ((h.blk t (by omega)).ext e).lt
    rcases m8 with m | ⟨k, hk, hlt2⟩
    · rw [m] at q
      by_cases e2 : t = n
      · simp only [e2, if_true] at q
        have := (h.row.lt _ q).2; omega
      · simp only [e2, if_false] at q
        exact h.off t (by omega) q
    · rw [hk] at q
      have := Option.some.inj q
      omega
theorem rowM_zero (t : Nat) : rowM mark0 t = (List.replicate 8 (0 : Int)).map (Value.int .i64) := rfl
set_option maxHeartbeats 4000000 in
theorem l10Acyclic_c (k : Conf) (ta pa : Option Addr) (tc pc : Nat) (w : World) (hk : ConfAt w k ta pa) (hok : k.Ok) :
    Calls Try.prog 88 #[.agg #[.slice ta k.ts.length tc, .slice pa k.ps.length pc]] w fun e w' => e = .returned (.bool (visL k 201 (wiresFrom 0) mark0).1) ∧ Ext w w' := by
  have hm := make8
  have y := (Blk.at w [.slice ta k.ts.length tc, .slice pa k.ps.length pc] 25 rfl).alloc (.cells #[] 39)
  obtain ⟨V, hV⟩ : ∃ V, V = visL k 201 (wiresFrom 0) mark0 := ⟨_, rfl⟩
  rw [← hV]
  have HV := Lib.hid hV
  clear hV
  have O0 : MadeR w ((w.alloc (.cells #[.slice ta k.ts.length tc, .slice pa k.ps.length pc] 25)).alloc (.cells #[] 39)) (.slice (some ⟨w.heap.size + 1, 0, none⟩) 0 0) (fun _ => 0) 0 :=
    ⟨(Blk.at (w.alloc (.cells #[.slice ta k.ts.length tc, .slice pa k.ps.length pc] 25)) [] 39 (B := w.heap.size + 1) (by simp)).owns (n := 0) (size := 1) rfl (Nat.le_refl _) (by decide), fun t ht => absurd ht (Nat.not_lt_zero _), fun t ht => absurd ht (Nat.not_lt_zero _), fun t t' ht => absurd ht (Nat.not_lt_zero _), fun t ht => absurd ht (Nat.not_lt_zero _)⟩
  go_enter Try.func88, Try.ntmps88
  go_wp2_with fail
  go_loopw [3, 4] (fun u3 u4 wr => ∃ (j : Nat) (bs : Nat → Nat), j ≤ 25 ∧ u4 = .int .i64 j ∧ MadeR w wr u3 bs j ∧ Blk wr w.heap.size 25 [.slice ta k.ts.length tc, .slice pa k.ps.length pc] ∧ Ext w wr) (fun _ i _ => 25 - (intOf i).toNat)
  case atStart => exact ⟨0, _, Nat.zero_le _, rfl, O0, y, by (repeat (first | with_reducible assumption | with_reducible exact Ext.refl _ | with_reducible refine Ext.drew' ?_ | with_reducible refine Ext.drewN' ?_ _ | with_reducible refine Ext.alloc ?_ _ | (with_reducible refine Ext.setNew ?_ (by first | exact Nat.le_refl _ | (simp; done) | (simp; omega) | omega) _)))⟩
  case round =>
    clear O0 y
    obtain ⟨j, bs, hj, rfl, hO, y, hE⟩ := hrel
    by_cases hlt : j < 25
    · obtain ⟨w2, rfl⟩ : ∃ z : World, z = wr := ⟨_, rfl⟩
      have hz := y.lt
      have hb := Blk.at w2 ((List.replicate 8 (0 : Int)).map (Value.int .i64)) 3 rfl
      have A := (Ext.refl (w2.alloc (.cells ((List.replicate 8 (0 : Int)).map (Value.int .i64)).toArray 3))).alloc (.cells #[.slice (some ⟨w2.heap.size, 0, none⟩) 8 8] 39)
      have A2 : Ext w2 _ := ((Ext.refl w2).alloc (.cells ((List.replicate 8 (0 : Int)).map (Value.int .i64)).toArray 3)).trans A
      go_wp2_with (at_builtin; go_loud (refine wpList_app tyRowsI (ownsRow_ext hO.row A2) (rowAtN (w2.alloc (.cells ((List.replicate 8 (0 : Int)).map (Value.int .i64)).toArray 3)) #[.slice (some ⟨w2.heap.size, 0, none⟩) 8 8] _ (B := w2.heap.size + 1) (by simp)) rfl (by simp [Value.oneCell']) (by omega) (by simp; omega) rfl rfl rfl rfl ?_); intro v8 w8 o8 g8 m8)
      go_roundw
      case rel =>
        obtain ⟨bs', h'⟩ := hO.app hE (by omega) A2 w2.heap.size rfl (hb.ext A) o8 g8 m8
        exact ⟨j + 1, bs', by omega, by go_num, h', (y.ext A2).gr g8 (fun q => by have := (hO.row.lt _ q).1; omega), ext_grown (hE.trans A2) g8 (fun k hk => by have := (hO.row.lt _ hk).1; omega)⟩
      case measure => simp [intOf]; omega
    · have hj2 : j = 25 := by omega
      have hO : MadeR w wr u3 bs 25 := by rw [← hj2]; exact hO
      have hjI : ¬ (j : Int) < 25 := by omega
      clear hj2
      obtain ⟨rc0, rc1, rfl, _⟩ := ownsRow_row hO.row
      obtain ⟨rb, rfl, hrb, hrl⟩ := ownsRow_block hO.row (by decide)
      have r : Rbs w rb bs := ⟨fun t ht => by have := hO.lo t ht; omega, hO.inj, fun t ht e => hO.off t ht (by rw [e]; rfl)⟩
      have M0 : MkR wr rb bs mark0 := ⟨fun t ht => ownsRow_cell hO.row (by simp [rowsV, ht, rowV]), fun t ht => by rw [rowM_zero]; exact hO.blk t ht⟩
      have hbx : ∀ t, t < 25 → w.heap.size + 1 ≤ bs t := hO.lo
      have HBX := Lib.hid hbx
      have T1 := Lib.hid (l10Mark_c k ta pa tc pc rc1 rb bs w hk hok r 201)
      clear hO hbx hlt
      obtain ⟨w2, rfl⟩ : ∃ z : World, z = wr := ⟨_, rfl⟩
      go_wp2_with fail
      go_loopw [5] (fun u5 wr => ∃ (i : Nat) (m : Marks), i ≤ 25 ∧ u5 = .int .i64 i ∧ Hid (V = visL k 201 (wiresFrom (i * 8)) m) ∧ MkR wr rb bs m ∧ Blk wr w.heap.size 25 [.slice ta k.ts.length tc, .slice pa k.ps.length pc] ∧ Ext w wr) (fun i _ => 25 - (intOf i).toNat)
      case atStart => exact ⟨0, mark0, Nat.zero_le _, rfl, HV, M0, y, hE⟩
      case round =>
        clear M0 y hE HV
        obtain ⟨i, m, hi, rfl, hVi, M0, y, hE⟩ := hrel
        by_cases hlt : i < 25
        · obtain ⟨w2, rfl⟩ : ∃ z : World, z = wr := ⟨_, rfl⟩
          have hiI : (i : Int) < 25 := by omega
          go_wp2_with fail
          go_loopw [6] (fun u6 wr => ∃ (c : Nat) (m : Marks), c ≤ 8 ∧ u6 = .int .i64 c ∧ Hid (V = visL k 201 (wiresFrom (i * 8 + c)) m) ∧ MkR wr rb bs m ∧ Blk wr w.heap.size 25 [.slice ta k.ts.length tc, .slice pa k.ps.length pc] ∧ Ext w wr) (fun i _ => 8 - (intOf i).toNat)
          case atStart => exact ⟨0, m, Nat.zero_le _, rfl, hVi, M0, y, hE⟩
          case round =>
            clear M0 y hE hVi
            obtain ⟨c, m, hc, rfl, hVi, M0, y, hE⟩ := hrel
            by_cases hc8 : c < 8
            · have c0 := y.cell (i := 0) rfl
              have c1 := y.cell (i := 1) rfl
              have cl := y.lt
              have hcall := T1.out m (i, c) wr ⟨hlt, hc8⟩ (by have := zeros0_le m 200; omega) M0 hE
              have hVV := hVi.out
              have hwf : wireOf (i * 8 + c) = (i, c) := by simp only [wireOf]; congr 1 <;> omega
              rw [wiresFrom_cons (by omega), hwf, visL_cons] at hVV
              obtain ⟨R, hR⟩ : ∃ R, R = vis k 201 m (i, c) := ⟨_, rfl⟩
              rw [← hR] at hVV hcall
              obtain ⟨ok, m2⟩ := R
              have HVV := Lib.hid hVV
              have HC := Lib.hid hcall
              clear hVV hR hcall hwf hVi
              go_wp2_with fail
              refine HC.out.mono ?_
              rintro e w3 ⟨rfl, M3, G3⟩
              have y3 := y.onlyR G3 (fun ⟨t', ht', hq⟩ => by have := HBX.out t' ht'; omega)
              have E3 := G3.extR r hE
              cases ok
              · have hVf : V = (false, m2) := HVV.out
                subst hVf
                go_wp2
                go_ret
                exact ⟨rfl, E3⟩
              · have hVf : V = visL k 201 (wiresFrom (i * 8 + (c + 1))) m2 := HVV.out
                have HVF := Lib.hid hVf
                clear hVf c0 c1 cl
                go_wp2_with fail
                go_roundw
                case rel => exact ⟨c + 1, m2, by omega, by go_num, HVF, M3, y3, E3⟩
                case measure => simp [intOf]; omega
            · have hc9 : c = 8 := by omega
              subst hc9
              have hVf : V = visL k 201 (wiresFrom ((i + 1) * 8)) m := by rw [hVi.out]; congr 2; omega
              have HVF := Lib.hid hVf
              clear hVf hVi
              go_wp2
              go_roundw
              case rel => exact ⟨i + 1, m, by omega, by go_num, HVF, M0, y, hE⟩
              case measure => simp [intOf]; omega
        · have hi2 : i = 25 := by omega
          subst hi2
          have hVf : V = (true, m) := by rw [hVi.out, show 25 * 8 = 200 from rfl, wiresFrom_end, visL_nil]
          subst hVf
          go_wp2
          go_ret
          exact ⟨rfl, hE⟩
set_option maxHeartbeats 1000000 in
theorem specConfigAcyclic_c (k : Conf) (ta pa : Option Addr) (tc pc : Nat) (w : World) (hk : ConfAt w k ta pa) :
    Calls Try.prog 29 #[.agg #[.slice ta k.ts.length tc, .slice pa k.ps.length pc]] w fun e w' => e = .returned (.bool (acyV k)) ∧ Ext w w' := by
  have y := Blk.at w [.slice ta k.ts.length tc, .slice pa k.ps.length pc] 25 rfl
  have Ey : Ext w (w.alloc (.cells #[.slice ta k.ts.length tc, .slice pa k.ps.length pc] 25)) := (Ext.refl w).alloc _
  have T1 := Lib.hid (specConfigValid_c k ta pa tc pc)
  have HA : Hid (acyV k = (confB k && (visL k 201 (wiresFrom 0) mark0).1)) := Lib.hid rfl
  obtain ⟨A, hA⟩ : ∃ A, A = acyV k := ⟨_, rfl⟩
  rw [← hA] at HA ⊢
  clear hA
  cases hb : confB k
  · rw [hb] at T1 HA
    have hf : A = false := HA.out
    subst hf
    clear hb HA
    go_enter Try.func29, Try.ntmps29
    go_wp2_with fail
    refine (T1.out _ (hk.ext Ey)).mono ?_
    rintro e w1 ⟨rfl, hE1⟩
    go_wp2
    go_ret
    exact ⟨rfl, Ey.trans hE1⟩
  · rw [hb] at T1 HA
    have T2 := Lib.hid (fun w hk => l10Acyclic_c k ta pa tc pc w hk (confB_iff.1 hb))
    have hf : A = (visL k 201 (wiresFrom 0) mark0).1 := HA.out
    rw [← hf] at T2
    clear hb HA hf
    go_enter Try.func29, Try.ntmps29
    go_wp2_with fail
    refine (T1.out _ (hk.ext Ey)).mono ?_
    rintro e w1 ⟨rfl, hE1⟩
    have y1 := y.ext hE1
    have c0 := y1.cell (i := 0) rfl
    have c1 := y1.cell (i := 1) rfl
    have cl := y1.lt
    go_wp2_with fail
    refine (T2.out _ (hk.ext (Ey.trans hE1))).mono ?_
    rintro e w2 ⟨rfl, hE2⟩
    go_wp2
    go_ret
    exact ⟨rfl, (Ey.trans hE1).trans hE2⟩
end Go.Proofs.Ytkdiniaddnhkdaa
