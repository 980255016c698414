/- Contracts: the reader's many and flag; bytes.Equal. -/
import Derived.Test.YtkdiniaddnhkdaaDecR
import Derived.Test.YtkdiniaddnhkdaaConfU
import Derived.Lib.Bytes
namespace Go.Proofs.Ytkdiniaddnhkdaa
open Go.RowKit
set_option maxRecDepth 100000
set_option linter.unusedVariables false
set_option linter.unusedSimpArgs false
def RdP (w : World) (rb : Nat) (bs : List Int) (p : Nat) : Prop := RdS w rb bs p (decide (bs.length < p))
theorem rdp_bad (l p : Nat) : (decide (l < p) || decide (l ≤ p)) = decide (l < p + 1) := by
  by_cases h : l ≤ p
  · rw [decide_eq_true h, Bool.or_true, decide_eq_true (by omega)]
  · rw [decide_eq_false h, decide_eq_false (by omega), decide_eq_false (by omega)]; rfl
theorem next_p (w : World) (rb : Nat) (bs : List Int) (p : Nat) (hb : AllB bs) (hl : bs.length ≤ 1048576) (h : RdP w rb bs p) :
    Calls Try.prog 94 #[.pointer (some ⟨rb, 0, none⟩)] w fun e w' => e = .returned (.int .i64 (bs.getD p 0)) ∧ RdP w' rb bs (p + 1) ∧ w.grownBy w' (some rb) := by
  have := next_c w rb bs p _ hb hl h
  rw [rdp_bad] at this
  exact this
theorem BytAt.kept {w w' : World} {a : Option Addr} {xs : List Int} {r : Option Nat} (h : BytAt w a xs) (hg : w.grownBy w' r) (hr : ∀ x, a = some x → 0 < xs.length → r ≠ some x.block) : BytAt w' a xs := by
  rcases h with rfl | ⟨b, o, rfl, hb, hc⟩
  · exact .inl rfl
  · by_cases h0 : xs = []
    · exact .inl h0
    · have h1 : 0 < xs.length := List.length_pos_iff.2 h0
      refine .inr ⟨b, o, rfl, Nat.lt_of_lt_of_le hb hg.size, fun j hj => ?_⟩
      rw [World.cell?_of_block (a := ⟨b, o + j, none⟩) (hg.block b hb (fun e => hr _ rfl h1 e.symm))]
      exact hc j hj
theorem RdP.gr {w w' : World} {rb : Nat} {bs : List Int} {p : Nat} {r : Option Nat} (h : RdP w rb bs p) (hg : w.grownBy w' r) (hr : ∀ k, r = some k → rb < k) : RdP w' rb bs p := by
  obtain ⟨a, n, c, y, hn, hnc, hcm, hB, hlt⟩ := h
  refine ⟨a, n, c, y.gr hg (fun e => by have := hr _ e; omega), hn, hnc, hcm, hB.kept hg (fun x hx h0 e => ?_), hlt⟩
  have h1 := hlt x hx (by rw [List.length_drop] at h0; omega)
  have h2 := hr _ e
  omega
theorem RdP.lt {w : World} {rb : Nat} {bs : List Int} {p : Nat} (h : RdP w rb bs p) : rb < w.heap.size := by
  obtain ⟨a, n, c, y, _⟩ := h
  exact y.lt
theorem makeN (n : Nat) (hn : n ≤ 1048576) (w : World) : (Instr.makeSlice 39 (.int .i64 0) (.int .i64 (n : Int))).run Try.prog w = .ok (.slice (some ⟨w.heap.size, 0, none⟩) 0 n) (w.alloc (.cells (zeros [.int .i64 0] n).toArray 3)) := by
  obtain ⟨i, hi, hzz⟩ := Option.map_eq_some_iff.1 intInfo2
  simp only [Prod.mk.injEq] at hzz
  obtain ⟨hiz, hs, hbb⟩ := hzz
  have hbi2 : (i.bytes : Int) * (n : Int) ≤ 281474976710656 := by
    rw [hbb]; omega
  have h := run_make (P := Try.prog) w 39 3 i (.int .i64 0) Try.underlying39 hi hiz .i64 .i64 0 n (by omega) (by omega) hbi2 (by omega)
  simp only [Int.toNat_natCast] at h
  have e : n * i.size = n * [Value.int .i64 0].length := by rw [hs]; rfl
  have hz : (Value.int .i64 0).cells = [Value.int .i64 0].toArray := rfl
  rw [h, hz, e, zeros, ← made_flat [Value.int .i64 0] (by decide) n]
  rfl
theorem madeN (n : Nat) (hn : n ≤ 1048576) (w : World) : OwnInts (w.alloc (.cells (zeros [.int .i64 0] n).toArray 3)) w.heap.size 3 (.slice (some ⟨w.heap.size, 0, none⟩) 0 n) [] := by
  refine ⟨rfl, .inr ⟨w.heap.size, n, (zeros [.int .i64 0] n).toArray, rfl, Nat.le_refl _, heap_alloc_new w _, Nat.zero_le _, ?_, ?_, ?_⟩⟩
  · unfold maxLen; omega
  · simp [zeros]
  · simp
set_option maxHeartbeats 1000000 in
theorem many_c (w : World) (rb : Nat) (bs : List Int) (p n : Nat) (hb : AllB bs) (hl : bs.length ≤ 1048576) (hn : n ≤ 1048576) (h : RdP w rb bs p) :
    Calls Try.prog 95 #[.pointer (some ⟨rb, 0, none⟩), .int .i64 (n : Int)] w fun e w' => ∃ v, e = .returned v ∧ OwnInts w' w.heap.size 3 v (getN bs p n) ∧ RdP w' rb bs (p + n) ∧ w.grownBy w' (some rb) := by
  have hmk := makeN n hn w
  have O0 := madeN n hn w
  have A0 := (Ext.refl w).alloc (.cells (zeros [.int .i64 0] n).toArray 3)
  have R0 := h.gr (Gr.ext A0 none) (fun k hk => by cases hk)
  have hrb := h.lt
  go_enter Try.func95, Try.ntmps95
  go_wp2_with fail
  go_loopw [5, 9] (fun u5 u9 wr => ∃ j : Nat, j ≤ n ∧ u9 = .int .i64 j ∧ OwnInts wr w.heap.size 3 u5 (getN bs p j) ∧ RdP wr rb bs (p + j) ∧ w.grownBy wr (some rb)) (fun _ i _ => n - (intOf i).toNat)
  case atStart => exact ⟨0, Nat.zero_le _, rfl, O0, R0, Gr.ext A0 _⟩
  case round =>
    obtain ⟨j, hj, rfl, hO, hR, hG⟩ := hrel
    clear hmk O0 R0 A0 h
    by_cases hlt : j < n
    · have T := Lib.hid (next_p wr rb bs (p + j) hb hl hR)
      have HG := Lib.hid hG
      have HL := getN_len bs p j
      have HS := Lib.hid (getN_succ bs p j)
      have hz := hG.size
      have HU : Hid (∀ k, u5.ownBlock = some k → w.heap.size ≤ k) := Lib.hid (fun k hk => (World.ownsRow.lt hO k hk).1)
      obtain ⟨xs, hxs⟩ : ∃ xs, xs = getN bs p j := ⟨_, rfl⟩
      obtain ⟨x, hx⟩ : ∃ x, x = bs.getD (p + j) 0 := ⟨_, rfl⟩
      rw [← hxs] at hO HL HS
      rw [← hx] at T HS
      clear hxs hx
      have HL := Lib.hid HL
      clear hR hG
      go_wp2_with fail
      refine (T.out).mono ?_
      rintro e w1 ⟨rfl, hR1, hG1⟩
      have hO1 : OwnInts w1 w.heap.size 3 u5 xs := ownsRow_gr hO hG1 (by cases hu : u5.ownBlock with | none => exact .inl rfl | some q => exact .inr (fun e => by have := (World.ownsRow.lt hO q hu).1; have e2 := Option.some.inj e; omega))
      have A := (Ext.refl w1).alloc (.cells #[.int .i64 x] 3)
      have hO2 := ownsRow_ext hO1 A
      have hz1 := hG1.size
      go_wp2_with (at_builtin; go_loud (refine wpList_app tyInts hO2 (RowAt.new w1 #[.int .i64 x] _) rfl (oneCell_int1 _) (by have := HL.out; omega) (by simp; omega) rfl rfl rfl rfl ?_); intro v8 w8 o8 g8 m8)
      have HO8 := Lib.hid o8
      have HG8 := Lib.hid g8
      have HR1 := Lib.hid hR1
      clear o8 g8 m8 hO hO1 hO2 hR1
      go_wp2
      go_roundw
      case rel =>
        have G1 := Gr.alloc (Gr.trans HG.out hG1) (.cells #[.int .i64 x] 3)
        refine ⟨j + 1, by omega, by go_num, ?_, ?_, ?_⟩
        · rw [HS.out]
          unfold OwnInts
          rw [List.length_append, List.map_append]
          exact HO8.out
        · exact (RdP.gr (HR1.out) (Gr.ext A none) (fun k hk => by cases hk)).gr HG8.out (fun k hk => by have := HU.out k hk; omega)
        · exact Gr.row G1 HG8.out HU.out
      case measure => simp [intOf]; omega
    · have hk2 : j = n := by omega
      subst hk2
      have HO := Lib.hid hO
      have HR := Lib.hid hR
      have HG := Lib.hid hG
      clear hO hR hG
      go_wp2
      go_ret
      exact ⟨_, rfl, HO.out, HR.out, HG.out⟩
theorem flagR_c (w : World) (rb : Nat) (bs : List Int) (p : Nat) (hb : AllB bs) (hl : bs.length ≤ 1048576) (h : RdP w rb bs p) :
    Calls Try.prog 96 #[.pointer (some ⟨rb, 0, none⟩)] w fun e w' => e = .returned (.bool (bs.getD p 0 == 1)) ∧ RdP w' rb bs (p + 1) ∧ w.grownBy w' (some rb) := by
  have T := Lib.hid (next_p w rb bs p hb hl h)
  obtain ⟨x, hx⟩ : ∃ x, x = bs.getD p 0 := ⟨_, rfl⟩
  rw [← hx] at T ⊢
  clear hx h
  go_enter Try.func96, Try.ntmps96
  go_wp2_with fail
  refine (T.out).mono ?_
  rintro e w1 ⟨rfl, hR1, hG1⟩
  cases h1 : (x == 1)
  · go_wp2
    go_ret
    exact ⟨by rw [h1]; rfl, hR1, hG1⟩
  · go_wp2
    go_ret
    exact ⟨by rw [h1]; rfl, hR1, hG1⟩
theorem equal_c {w : World} {a a' : Option Addr} {n c n' c' : Nat} {xs ys : List Int} (h : BytAt w a xs) (hx : xs.length = n) (h' : BytAt w a' ys) (hy : ys.length = n') (ax : AllB xs) (ay : AllB ys) :
    Calls Try.prog 97 #[.slice a n c, .slice a' n' c'] w fun e w' => e = .returned (.bool (xs == ys)) ∧ w' = w := by
  have c1 := conv_byt (c := c) h hx
  have c2 := conv_byt (c := c') h' hy
  have hs : ((strOfNums xs).toList == (strOfNums ys).toList) = (xs == ys) := by
    rw [Lib.strOfNums_toList, Lib.strOfNums_toList, ← str_beq ax ay, byteArr_beq]
    by_cases h : strOfNums xs = strOfNums ys
    · have h2 : Lib.bytesOf xs = Lib.bytesOf ys := by rw [← Lib.strOfNums_toList, ← Lib.strOfNums_toList, h]
      rw [h2]; simp [h]
    · have h2 : Lib.bytesOf xs ≠ Lib.bytesOf ys := fun e => h (congrArg (fun l : List UInt8 => (⟨l.toArray⟩ : ByteArray)) (show (strOfNums xs).data.toList = (strOfNums ys).data.toList from e))
      rw [decide_eq_false h]; simpa using h2
  rw [← hs]
  clear hs
  go_enter Try.func97, Try.ntmps97
  go_wp2
  go_ret
  exact ⟨rfl, rfl⟩
end Go.Proofs.Ytkdiniaddnhkdaa
