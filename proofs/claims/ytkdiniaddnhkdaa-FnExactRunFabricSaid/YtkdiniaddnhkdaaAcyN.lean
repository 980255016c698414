/- Contract: the wires on which a wire rests, the program's way. -/
import Derived.Test.YtkdiniaddnhkdaaAcy0
import Derived.Test.YtkdiniaddnhkdaaEncC
import Derived.Test.YtkdiniaddnhkdaaRegion2
import Derived.Test.YtkdiniaddnhkdaaConfU
import Derived.Deep.DeepCutAuto
namespace Go.Proofs.Ytkdiniaddnhkdaa
open Go.RowKit
set_option maxRecDepth 100000
set_option linter.unusedVariables false
set_option linter.unusedSimpArgs false
theorem tyWires : RowTy Try.prog 154 113 2 16 := RowTy.mk' (z := .agg #[.int .i64 0, .int .i64 0]) Try.underlying154 (by kernel_rfl) rfl (by decide) (by decide)
def flatW (xs : List Wire) : List Value := xs.flatMap fun x => [.int .i64 x.1, .int .i64 x.2]
theorem flatW_nil : flatW [] = [] := rfl
theorem flatW_app (xs ys : List Wire) : flatW (xs ++ ys) = flatW xs ++ flatW ys := by simp [flatW]
theorem flatW_len (xs : List Wire) : (flatW xs).length = xs.length * 2 := by
  induction xs with
  | nil => rfl
  | cons x xs ih =>
    have e : flatW (x :: xs) = .int .i64 x.1 :: .int .i64 x.2 :: flatW xs := rfl
    rw [e]; simp only [List.length_cons, ih]; omega
theorem flatW_get (xs : List Wire) : ∀ j, j < xs.length → (flatW xs)[j * 2]? = some (.int .i64 (xs.getD j (0, 0)).1) ∧ (flatW xs)[j * 2 + 1]? = some (.int .i64 (xs.getD j (0, 0)).2) := by
  induction xs with
  | nil => intro j hj; simp at hj
  | cons x xs ih =>
    intro j hj
    have e : flatW (x :: xs) = .int .i64 x.1 :: .int .i64 x.2 :: flatW xs := rfl
    rw [e]
    cases j with
    | zero => simp
    | succ j =>
      have := ih j (by simpa using hj)
      have e1 : (j + 1) * 2 = j * 2 + 1 + 1 := by omega
      rw [e1]
      simpa using this
def OwnW (w : World) (base : Nat) (v : Value) (xs : List Wire) : Prop := w.ownsRow base 113 2 v xs.length (flatW xs)
theorem OwnW.ext {w w' : World} {base : Nat} {v : Value} {xs : List Wire} (h : OwnW w base v xs) (e : Ext w w') : OwnW w' base v xs := ownsRow_ext h e
theorem OwnW.le {w : World} {b b2 : Nat} {v : Value} {xs : List Wire} (h : OwnW w b v xs) (hb : b2 ≤ b) : OwnW w b2 v xs := row_le h hb
theorem OwnW.nil {w : World} {base : Nat} : OwnW w base (.slice none 0 0) [] := World.ownsRow_nil _ _ _ _
theorem OwnW.app {w' : World} {base : Nat} {v' : Value} {xs : List Wire} {y : Wire} (h : w'.ownsRow base 113 2 v' (xs.length + 1) (flatW xs ++ [.int .i64 y.1, .int .i64 y.2])) : OwnW w' base v' (xs ++ [y]) := by
  unfold OwnW
  rw [List.length_append, flatW_app]; exact h
theorem OwnW.new (w : World) (y : Wire) {base : Nat} (hb : base ≤ w.heap.size) : OwnW (w.alloc (.cells #[.int .i64 y.1, .int .i64 y.2] 113)) base (.slice (some ⟨w.heap.size, 0, none⟩) 1 1) [y] :=
  (Blk.new w [.int .i64 y.1, .int .i64 y.2] _).owns (n := 1) (size := 2) rfl hb (by decide)
def GiveW (w : World) (xs : List Wire) (e : Ending) (w' : World) : Prop := ∃ v, e = .returned v ∧ OwnW w' w.heap.size v xs ∧ Ext w w'
theorem oneCell_w2 (a b : Int) : ∀ u ∈ [Value.int .i64 a, Value.int .i64 b], u.oneCell' = true := by
  intro u hu
  simp at hu
  rcases hu with rfl | rfl <;> rfl
theorem selW_snoc (t : Nat) (ss : List Int) (s : Int) : selW t (ss ++ [s]) = selW t ss ++ selW t [s] := by simp [selW]
theorem idx4_0 (a b c d : Int) (w : World) : (Instr.index 135 (.agg #[.int .i64 a, .int .i64 b, .int .i64 c, .int .i64 d]) (.int .i64 (IntKind.i64.wrap 0))).run Try.prog w = .ok (.int .i64 a) w := by kernel_rfl
theorem idx4_1 (a b c d : Int) (w : World) : (Instr.index 135 (.agg #[.int .i64 a, .int .i64 b, .int .i64 c, .int .i64 d]) (.int .i64 (IntKind.i64.wrap 1))).run Try.prog w = .ok (.int .i64 b) w := by kernel_rfl
theorem idx4_2 (a b c d : Int) (w : World) : (Instr.index 135 (.agg #[.int .i64 a, .int .i64 b, .int .i64 c, .int .i64 d]) (.int .i64 (IntKind.i64.wrap 2))).run Try.prog w = .ok (.int .i64 c) w := by kernel_rfl
theorem idx4_3 (a b c d : Int) (w : World) : (Instr.index 135 (.agg #[.int .i64 a, .int .i64 b, .int .i64 c, .int .i64 d]) (.int .i64 (IntKind.i64.wrap 3))).run Try.prog w = .ok (.int .i64 d) w := by kernel_rfl
set_option maxHeartbeats 4000000 in
theorem needs_c (k : Conf) (ta pa : Option Addr) (tc pc kb : Nat) (hok : k.Ok) (x : Wire) (hx : x.Ok) (w : World) (hk : ConfAt w k ta pa) (y : Blk w kb 25 [.slice ta k.ts.length tc, .slice pa k.ps.length pc]) :
    Calls Try.prog 132 #[.pointer (some ⟨kb, 0, none⟩), .agg #[.int .i64 x.1, .int .i64 x.2]] w (GiveW w (needW k x)) := by
  obtain ⟨t, c⟩ := x
  have ht := hx.1
  have hc := hx.2
  dsimp only at ht hc
  dsimp only
  obtain ⟨b, o, rfl, hb, hcc⟩ := hk.ts.get (by rw [hok.lt]; omega)
  obtain ⟨sa, sc, da, dc, p0, p1, p2, p3, hsl, hdr⟩ := hcc t (by rw [hok.lt]; omega)
  have hot := tileB_iff.1 (hok.ts t ht)
  have hdv := hok.drv hx
  have hnbr := fun h2 h5 => hok.nb hx h2 h5
  have hneed : needW k (t, c) = if 2 ≤ drvAt k (t, c) ∧ drvAt k (t, c) ≤ 5 then [((nbV t (drvAt k (t, c))).toNat, c)] else if drvAt k (t, c) = 1 ∧ (tileAt k t).rg = false then selW t (tileAt k t).sl else [] := rfl
  obtain ⟨b2, o2, rfl, hb2, hd2⟩ := hdr.get (by rw [hot.ld]; omega)
  have p4 := hd2 c (by rw [hot.ld]; omega)
  have hss : ∀ j, j < 3 → trackB ((tileAt k t).sl.getD j 0) = true := hot.ss
  have ls := hot.ls
  have ld := hot.ld
  obtain ⟨d, hd⟩ : ∃ d, d = drvAt k (t, c) := ⟨_, rfl⟩
  have hd' : (tileAt k t).dr.getD c 0 = d := hd.symm
  have e1 : k.ts.getD t tile0 = tileAt k t := rfl
  rw [e1] at p0 p1 p2 p3 p4 hsl ls ld hd2
  rw [hd'] at p4
  have hdv2 : drvB t d = true := by rw [hd]; exact hdv
  rw [← hd] at hnbr hneed
  have hdlt : 0 ≤ d ∧ d ≤ 6 := by
    rcases (by omega : (d < 0 ∨ 6 < d) ∨ (0 ≤ d ∧ d ≤ 6)) with h2 | h2
    · rw [drvB_low h2] at hdv2; cases hdv2
    · exact h2
  clear hd hd' hcc hdr hot hdv hd2
  obtain ⟨x, hxx⟩ : ∃ x, x = tileAt k t := ⟨_, rfl⟩
  rw [← hxx] at p0 p1 p2 p3 hsl ls ld hneed hss
  clear e1 hxx
  obtain ⟨lt1, lt2⟩ : k.ts.length ≤ 25 ∧ 25 ≤ k.ts.length := by have := hok.lt; omega
  obtain ⟨ls1, ls2⟩ : x.sl.length ≤ 3 ∧ 3 ≤ x.sl.length := by omega
  obtain ⟨ld1, ld2⟩ : x.dr.length ≤ 8 ∧ 8 ≤ x.dr.length := by omega
  obtain ⟨N, hN⟩ : ∃ N, N = needW k (t, c) := ⟨_, rfl⟩
  rw [← hN] at hneed ⊢
  have HN := Lib.hid hneed
  have HSS := Lib.hid hss
  have HNB := Lib.hid hnbr
  have z0 := y.cell (i := 0) rfl
  have zl := y.lt
  have yx := Blk.at w [.int .i64 t, .int .i64 c] 113 rfl
  have x0 := yx.cell (i := 0) rfl
  have x1 := yx.cell (i := 1) rfl
  have A0 : Ext w (w.alloc (.cells #[.int .i64 t, .int .i64 c] 113)) := (Ext.refl w).alloc _
  replace p0 := ((ecell A0).1 b _ hb).trans p0
  replace p1 := ((ecell A0).1 b _ hb).trans p1
  replace p2 := ((ecell A0).1 b _ hb).trans p2
  replace p3 := ((ecell A0).1 b _ hb).trans p3
  replace p4 := ((ecell A0).1 b2 _ hb2).trans p4
  replace z0 := ((ecell A0).1 kb _ zl).trans z0
  have zs : w.heap.size < (w.alloc (.cells #[.int .i64 t, .int .i64 c] 113)).heap.size := by simp
  clear hN hneed hss hnbr ls ld hdv2 hdlt
  go_enter Try.func132, Try.ntmps132
  go_upto_region 1 with fail
  generalize w.alloc (.cells #[.int .i64 t, .int .i64 c] 113) = W1 at *
  go_wp2_with fail
  go_quiet (fail)
  go_wp2_with fail
  have A1 := A0.drewN' nq
  obtain ⟨W2, hW2⟩ : ∃ W2, W2 = W1.drewN nq := ⟨_, rfl⟩
  rw [← hW2] at A1 ⊢
  have hd2 : Ext W1 W2 := by rw [hW2]; exact Ext.drewN W1 nq
  have hs2 : W2.heap.size = W1.heap.size := by rw [hW2]; rfl
  clear hW2 nq
  replace x0 := ((ecell hd2).1 _ _ zs).trans x0
  replace x1 := ((ecell hd2).1 _ _ zs).trans x1
  have hbW := Nat.lt_of_lt_of_le hb A0.size
  have hb2W := Nat.lt_of_lt_of_le hb2 A0.size
  replace p1 := ((ecell hd2).1 _ _ hbW).trans p1
  replace p2 := ((ecell hd2).1 _ _ hbW).trans p2
  replace p3 := ((ecell hd2).1 _ _ hbW).trans p3
  replace p4 := ((ecell hd2).1 _ _ hb2W).trans p4
  have zs2 : w.heap.size < W2.heap.size := by omega
  replace yx := yx.ext hd2
  clear p0 z0 A0 hd2 hs2 hbW hb2W zs
  go_quiet (fail)
  have A2 := A1.drewN' nq
  obtain ⟨W3, hW3⟩ : ∃ W3, W3 = W2.drewN nq := ⟨_, rfl⟩
  rw [← hW3] at A2 ⊢
  have hd3 : Ext W2 W3 := by rw [hW3]; exact Ext.drewN W2 nq
  have hs3 : W3.heap.size = W2.heap.size := by rw [hW3]; rfl
  clear hW3 nq
  replace x0 := ((ecell hd3).1 _ _ zs2).trans x0
  replace x1 := ((ecell hd3).1 _ _ zs2).trans x1
  have hbW := Nat.lt_of_lt_of_le hb A1.size
  replace p1 := ((ecell hd3).1 _ _ hbW).trans p1
  replace p2 := ((ecell hd3).1 _ _ hbW).trans p2
  have zs3 : w.heap.size < W3.heap.size := by omega
  have YX := Lib.hid (yx.ext hd3)
  clear p3 p4 A1 hd3 hs3 hbW zs2 yx
  by_cases hD : 2 ≤ d ∧ d ≤ 5
  · obtain ⟨nb0, nb1⟩ := HNB.out hD.1 hD.2
    have hNN : N = [((nbV t d).toNat, c)] := by rw [HN.out, if_pos hD]
    have HNN := Lib.hid hNN
    have T := Lib.hid (fun w => neighbours_c t ht w)
    have hd : d = 2 ∨ d = 3 ∨ d = 4 ∨ d = 5 := by omega
    have i40 := idx4_0
    have i41 := idx4_1
    have i42 := idx4_2
    have i43 := idx4_3
    obtain ⟨nb, hnb⟩ : ∃ nb : Nat, nbV t d = nb := ⟨(nbV t d).toNat, by omega⟩
    clear hNN HNB HN hD nb0 nb1
    rcases hd with rfl | rfl | rfl | rfl
    all_goals
      rw [hnb] at T HNN
      rw [Int.toNat_natCast] at HNN
      clear hnb
      go_wp2_with fail
      refine wp_regionT (fun w' => w'.cell? ⟨w.heap.size, 0, none⟩ = some (.int .i64 t) ∧ w'.cell? ⟨w.heap.size, 1, none⟩ = some (.int .i64 c)) 10 (by kernel_rfl) ?_
      have hS0 := And.intro (a := W3.drew.cell? ⟨w.heap.size, 0, none⟩ = some (.int .i64 t)) x0 x1
      ((refine wpAnyT_take 0 (v := ?_) rfl (by kernel_rfl) (fun _ _ _ h => h) (Or.inl ⟨by kernel_rfl, ?_⟩) (by assumption) ?_; rotate_left; (intro wS hSw; (try dsimp only at hSw); go_simp; (try with_reducible rfl)); (try simp only [Act.put, List.setIfInBounds_toArray, List.set_cons_zero, List.set_cons_succ])); (refine wpAnyT_take 1 (v := ?_) rfl (by kernel_rfl) (fun _ _ _ h => h) (Or.inl ⟨by kernel_rfl, ?_⟩) (by assumption) ?_; rotate_left; (intro wS hSw; (try dsimp only at hSw); go_simp; (try with_reducible rfl)); (try simp only [Act.put, List.setIfInBounds_toArray, List.set_cons_zero, List.set_cons_succ])); (refine wpAnyT_take 3 (v := ?_) rfl (by kernel_rfl) (fun _ _ _ h => h) (Or.inl ⟨by kernel_rfl, ?_⟩) (by assumption) ?_; rotate_left; (intro wS hSw; (try dsimp only at hSw); go_simp; (try with_reducible rfl)); (try simp only [Act.put, List.setIfInBounds_toArray, List.set_cons_zero, List.set_cons_succ])); (refine wpAnyT_take 4 (v := ?_) rfl (by kernel_rfl) (fun _ _ _ h => h) (Or.inl ⟨by kernel_rfl, ?_⟩) (by assumption) ?_; rotate_left; (intro wS hSw; (try dsimp only at hSw); go_simp; (try with_reducible rfl)); (try simp only [Act.put, List.setIfInBounds_toArray, List.set_cons_zero, List.set_cons_succ])); (refine wpAnyT_take 6 (v := ?_) rfl (by kernel_rfl) (fun _ _ _ h => h) (Or.inl ⟨by kernel_rfl, ?_⟩) (by assumption) ?_; rotate_left; (intro wS hSw; (try dsimp only at hSw); go_simp; (try with_reducible rfl)); (try simp only [Act.put, List.setIfInBounds_toArray, List.set_cons_zero, List.set_cons_succ])); (refine wpAnyT_take 7 (v := ?_) rfl (by kernel_rfl) (fun _ _ _ h => h) (Or.inl ⟨by kernel_rfl, ?_⟩) (by assumption) ?_; rotate_left; (intro wS hSw; (try dsimp only at hSw); go_simp; (try with_reducible rfl)); (try simp only [Act.put, List.setIfInBounds_toArray, List.set_cons_zero, List.set_cons_succ])))
      (refine wpAnyT_do 2 (by kernel_rfl) rfl (fun K hK => ?_))
      go_simp
      refine (T.out _).mono ?_
      rintro e W4 ⟨rfl, hE4⟩
      have hd4 := (Ext.drew W3).trans hE4
      have hS1 := And.intro (((ecell hd4).1 _ _ zs3).trans x0) (((ecell hd4).1 _ _ zs3).trans x1)
      (refine hK _ _ hS1 ?_; clear hK K; (try simp only [Act.put, List.setIfInBounds_toArray, List.set_cons_zero, List.set_cons_succ]))
      ((refine wpAnyT_take 5 (v := ?_) rfl (by kernel_rfl) (fun _ _ _ h => h) (Or.inl ⟨by kernel_rfl, ?_⟩) (by assumption) ?_; rotate_left; (intro wS hSw; (try dsimp only at hSw); go_simp; (try with_reducible rfl)); (try simp only [Act.put, List.setIfInBounds_toArray, List.set_cons_zero, List.set_cons_succ])); (refine wpAnyT_take 8 (v := ?_) rfl (by kernel_rfl) (fun _ _ _ h => h) (Or.inl ⟨by kernel_rfl, ?_⟩) (by assumption) ?_; rotate_left; (intro wS hSw; (try dsimp only at hSw); go_simp; (try with_reducible rfl)); (try simp only [Act.put, List.setIfInBounds_toArray, List.set_cons_zero, List.set_cons_succ])))
      (refine wpAnyT_do 9 (by kernel_rfl) rfl (fun K hK => ?_))
      go_simp
      have A4 := (Ext.refl W4).alloc (.cells #[.int .i64 nb, .int .i64 c] 113)
      have hd5 := hd4.trans A4
      have hS2 := And.intro (((ecell hd5).1 _ _ zs3).trans x0) (((ecell hd5).1 _ _ zs3).trans x1)
      (refine hK _ _ hS2 ?_; clear hK K; (try simp only [Act.put, List.setIfInBounds_toArray, List.set_cons_zero, List.set_cons_succ]))
      (refine wpAnyT_last 10 (by kernel_rfl) rfl (by decide) (by kernel_rfl) (fun K hK => ?_))
      go_simp
      (refine hK _ _ ?_; clear hK K; (try simp only [Act.put, List.setIfInBounds_toArray, List.set_cons_zero, List.set_cons_succ]))
      have hz4 := (A2.trans hd4).size
      have O4 := Lib.hid (OwnW.new W4 (nb, c) (base := w.heap.size) hz4)
      clear hS0 hS1 hS2
      go_wp2
      go_ret
      exact ⟨_, rfl, by rw [HNN.out]; exact O4.out, A2.trans hd5⟩
  · have hcs : ((d == 1) = true ∧ d = 1 ∧ x.rg = false) ∨ ((d == 1) = true ∧ d = 1 ∧ x.rg = true) ∨ (d == 1) = false ∧ d ≠ 1 := by
      by_cases h1 : d = 1
      · cases hr : x.rg
        · exact .inl ⟨by simp [h1], h1, rfl⟩
        · exact .inr (.inl ⟨by simp [h1], h1, rfl⟩)
      · exact .inr (.inr ⟨by simp [h1], h1⟩)
    have e2 : (d == 2) = false := by simp; omega
    have e3 : (d == 3) = false := by simp; omega
    have e4 : (d == 4) = false := by simp; omega
    have e5 : (d == 5) = false := by simp; omega
    rcases hcs with ⟨hdd, hd1, hrg⟩ | ⟨hdd, hd1, hrg⟩ | ⟨hdd, hd1⟩
    · have hNN : N = selW t x.sl := by rw [HN.out, if_neg hD, if_pos ⟨hd1, hrg⟩]
      have HNN := Lib.hid hNN
      rw [hrg] at p2
      clear hNN HN HNB hD hd1 hrg
      go_wp2_with fail
      go_loopw [7, 52] (fun u7 u52 wr => ∃ (j : Nat) (xs : List Wire), j ≤ x.sl.length ∧ u52 = .int .i64 j ∧ Hid (xs = selW t (x.sl.take j)) ∧ xs.length ≤ j ∧ OwnW wr (w.heap.size + 1) u7 xs ∧ Blk wr w.heap.size 113 [.int .i64 t, .int .i64 c] ∧ Ext w wr) (fun _ i _ => x.sl.length - (intOf i).toNat)
      case atStart => exact ⟨0, [], Nat.zero_le _, rfl, Lib.hid (by simp [selW]), by simp, OwnW.nil, YX.out, A2⟩
      case round =>
        clear x0 x1 p1 p2 YX
        obtain ⟨j, xs, hj, rfl, hXS, hxl, hO, yx, hE⟩ := hrel
        have x0 := yx.cell (i := 0) rfl
        have xl := yx.lt
        by_cases hlt : j < x.sl.length
        · obtain ⟨b3, o3, rfl, hb3, hc3⟩ := (hsl.ext hE).get (by omega)
          have q3 := hc3 j hlt
          have htr := trackB_cases (HSS.out j (by omega))
          have hst := take_snocI hlt
          obtain ⟨s, hs⟩ : ∃ s, s = x.sl.getD j 0 := ⟨_, rfl⟩
          rw [← hs] at q3 htr hst
          clear hc3 hs
          by_cases h15 : s = 15
          · have hne : (s != 15) = false := by simp [h15]
            have hXS2 : xs = selW t (x.sl.take (j + 1)) := by rw [hst, selW_snoc, ← hXS.out, h15, selW_skip, selW_nil, List.append_nil]
            have HX := Lib.hid hXS2
            clear hXS2 hst h15 htr
            go_wp2
            go_roundw
            case rel => exact ⟨j + 1, xs, by omega, by go_num, HX, by omega, hO, yx, hE⟩
            case measure => simp [intOf]; omega
          · have hne : (s != 15) = true := by simpa using h15
            obtain ⟨s0, s8⟩ : 0 ≤ s ∧ s < 8 := by omega
            obtain ⟨s', rfl⟩ : ∃ s' : Nat, s = s' := ⟨s.toNat, by omega⟩
            have hXS2 : xs ++ [(t, s')] = selW t (x.sl.take (j + 1)) := by rw [hst, selW_snoc, ← hXS.out, selW_take t _ h15, selW_nil, Int.toNat_natCast]
            have HX := Lib.hid hXS2
            obtain ⟨w5, rfl⟩ : ∃ z : World, z = wr := ⟨_, rfl⟩
            have A := (Ext.refl w5).alloc (.cells #[.int .i64 t, .int .i64 s'] 113)
            have z5 := hE.size
            clear hXS2 hst h15 htr
            go_wp2_with (at_builtin; go_loud (refine wpList_app tyWires (ownsRow_ext hO A) (rowAtN w5 #[.int .i64 t, .int .i64 s'] _ (B := w5.heap.size) rfl) rfl (oneCell_w2 _ _) (by omega) (by simp; omega) rfl rfl rfl rfl ?_); intro v8 w8 o8 g8 m8)
            go_roundw
            case rel =>
              exact ⟨j + 1, xs ++ [(t, s')], by omega, by go_num, HX, by simp; omega, OwnW.app (y := (t, s')) o8, (yx.ext A).gr g8 (fun q => by have := (World.ownsRow.lt hO _ q).1; omega), ext_grown (hE.trans A) g8 (fun k hk => by have := (World.ownsRow.lt hO k hk).1; omega)⟩
            case measure => simp [intOf]; omega
        · have hj3 : j = x.sl.length := by omega
          subst hj3
          have hN2 : N = xs := by rw [HNN.out, hXS.out, List.take_length]
          have HN2 := Lib.hid hN2
          clear hN2
          go_wp2
          go_ret
          exact ⟨_, rfl, by rw [HN2.out]; exact hO.le (by omega), hE⟩
    · have hNN : N = [] := by rw [HN.out, if_neg hD, if_neg (by rw [hrg]; simp)]
      subst hNN
      rw [hrg] at p2
      clear HN HNB hD hd1 hrg
      go_wp2
      go_ret
      exact ⟨_, rfl, OwnW.nil, A2⟩
    · have hNN : N = [] := by rw [HN.out, if_neg hD, if_neg (fun h => hd1 h.1)]
      subst hNN
      clear HN HNB hD hd1
      go_wp2
      go_ret
      exact ⟨_, rfl, OwnW.nil, A2⟩
end Go.Proofs.Ytkdiniaddnhkdaa
