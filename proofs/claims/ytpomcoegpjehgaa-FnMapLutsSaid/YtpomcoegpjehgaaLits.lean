/- Contracts: values of literals, bits of numbers. -/
import Derived.Test.YtpomcoegpjehgaaEval3
namespace Go.Proofs.Ytpomcoegpjehgaa
open Go.RowKit
set_option maxRecDepth 100000
set_option linter.unusedVariables false
set_option linter.unusedSimpArgs false
theorem lit_ok {ls : List Int} {n : Int} (h : LitsOk ls n) (k : Nat) (hk : k < ls.length) : 0 ≤ ls.getD k 0 ∧ ls.getD k 0 < 2 * n := litB_iff'.1 (h k hk)
def LitsRel (w : World) (vs : List Bool) (ls : List Int) (u5 u6 : Value) (wr : World) : Prop :=
  ∃ k : Nat, k ≤ ls.length ∧ u6 = .int .i64 k ∧ OwnB wr w.heap.size u5 (litsV vs (ls.take k)) ∧ Ext w wr
theorem make0 (n : Nat) (hn : n ≤ 1048576) (w : World) : (Instr.makeSlice 52 (.int .i64 0) (.int .i64 (n : Int))).run Try.prog w = .ok (.slice (some ⟨w.heap.size, 0, none⟩) 0 n) (w.alloc (.cells (zeros [.bool false] n).toArray 4)) := by
  obtain ⟨i, hi, hzz⟩ := Option.map_eq_some_iff.1 boolInfo'
  simp only [Prod.mk.injEq] at hzz
  obtain ⟨hiz, hs, hbb⟩ := hzz
  have hbi2 : (i.bytes : Int) * (n : Int) ≤ 281474976710656 := by
    rw [hbb]; omega
  have h := run_make (P := Try.prog) w 52 4 i (.bool false) Try.underlying52 hi hiz .i64 .i64 0 n (by omega) (by omega) hbi2 (by omega)
  simp only [Int.toNat_natCast] at h
  have e : n * i.size = n * [Value.bool false].length := by rw [hs]; rfl
  have hz : (Value.bool false).cells = [Value.bool false].toArray := rfl
  rw [h, hz, e, zeros, ← made_flat [Value.bool false] (by decide) n]
  rfl
theorem made0 (n : Nat) (hn : n ≤ 1048576) (w : World) : OwnB (w.alloc (.cells (zeros [.bool false] n).toArray 4)) w.heap.size (.slice (some ⟨w.heap.size, 0, none⟩) 0 n) [] := by
  refine ⟨rfl, .inr ⟨w.heap.size, n, (zeros [.bool false] n).toArray, rfl, Nat.le_refl _, heap_alloc_new w _, Nat.zero_le _, ?_, ?_, ?_⟩⟩
  · unfold maxLen; omega
  · rw [zeros_one]; simp
  · simp
set_option maxHeartbeats 1000000 in
theorem litValues_c (a la : Option Addr) (c lc n m : Nat) (vs : List Bool) (hn : vs.length = n) (ls : List Int) (hm : ls.length = m) (w : World) (hv : BoolsAt w a vs) (hl : IntsAt w la ls) (hL : LitsOk ls n) (hb : n ≤ 1048576) (hb2 : m ≤ 1048576) :
    Calls Try.prog 94 #[.slice a n c, .slice la m lc] w (GiveB w (litsV vs ls)) := by
  subst hm
  have hmk := make0 ls.length hb2 w
  have O0 := made0 ls.length hb2 w
  go_enter Try.func94, Try.ntmps94
  go_wp2_with fail
  go_loopw [5, 13] (LitsRel w vs ls) (fun _ i _ => ls.length - (intOf i).toNat)
  case atStart => exact ⟨0, Nat.zero_le _, rfl, O0, (Ext.refl w).alloc _⟩
  case round =>
    obtain ⟨k, hk, rfl, hO, hE⟩ := hrel
    clear hmk O0
    by_cases hlt : k < ls.length
    · obtain ⟨b, o, rfl, hb1, hc⟩ := (hl.ext hE).get (by omega)
      have q := hc k hlt
      obtain ⟨h0, h1⟩ := lit_ok hL k hlt
      have hs := litsV_snoc vs ls k hlt
      have hlen := litsV_length vs (ls.take k)
      rw [List.length_take, Nat.min_eq_left (by omega)] at hlen
      obtain ⟨x, hxx⟩ : ∃ x, x = ls.getD k 0 := ⟨_, rfl⟩
      rw [← hxx] at q hs h0 h1
      obtain ⟨xs, hxs⟩ : ∃ xs, xs = litsV vs (ls.take k) := ⟨_, rfl⟩
      rw [← hxs] at hO hs hlen
      have HS := Lib.hid hs
      have hl1 : xs.length ≤ k := by omega
      clear hc hxx hxs hs hlen
      have OX := hO
      obtain ⟨a5, c5, rfl, hX⟩ := hO.opened
      have hOb := fun k hk => (OX.lt k hk).1
      cases hva : litV vs x
      all_goals
        go_wp2_with (first | (go_at_call 112; refine (litValue_c _ _ n vs hn _ _ (hv.ext hE) (by omega) (by omega) (by omega)).mono ?_; rintro e w6 ⟨rfl, rfl⟩) | (at_builtin; refine wpList_app tyBools (ownsRow_ext OX ((Ext.refl wr).alloc _)) (RowAt.new wr _ _) rfl (by simp [Value.oneCell']) (by omega) (by have := hE.size; simp; omega) rfl rfl rfl rfl ?_; intro v2 w2 o2 g2 m2))
        go_roundw
        case rel =>
          refine ⟨k + 1, by omega, by go_num, ?_, ext_grown (hE.alloc _) g2 (by intro k hk; have := hOb _ hk; omega)⟩
          rw [HS.out, hva]
          exact OwnB.app rfl rfl o2
        case measure => simp [intOf]; omega
    · have hk2 : k = ls.length := by omega
      subst hk2
      rw [List.take_length] at hO
      go_wp2
      go_ret
      exact ⟨_, rfl, hO, hE⟩
end Go.Proofs.Ytpomcoegpjehgaa
