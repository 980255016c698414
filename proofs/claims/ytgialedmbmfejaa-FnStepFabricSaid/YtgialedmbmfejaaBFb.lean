/- Bundle: ConfigAcyclic of both libraries. -/
import Derived.Test.YtgialedmbmfejaaBFa
import Derived.Test.YtgialedmbmfejaaBEnc
import Derived.Test.YtgialedmbmfejaaRegion2
import Derived.Test.YtgialedmbmfejaaBKf
import Derived.Deep.DeepCutAuto
import Derived.Maps.OwnSet
import Derived.Maps.OwnOps
import Derived.Maps.Views
import Derived.DeepKeys4
namespace Go.Proofs.Ytgialedmbmfejaa
open Go.RowKit
set_option maxRecDepth 100000
set_option linter.unusedVariables false
set_option linter.unusedSimpArgs false
theorem tyWires : RowTy Try.prog 168 146 2 16 := RowTy.mk' (z := .agg #[.int .i64 0, .int .i64 0]) Try.underlying168 (by kernel_rfl) rfl (by decide) (by decide)
def flatW (xs : List Wire) : List Value := xs.flatMap fun x => [.int .i64 x.1, .int .i64 x.2]
theorem flatW_nil : flatW [] = [] := rfl
theorem flatW_app (xs ys : List Wire) : flatW (xs ++ ys) = flatW xs ++ flatW ys := by simp [flatW]
theorem flatW_len (xs : List Wire) : (flatW xs).length = xs.length * 2 := by
 induction xs with
 | nil => rfl
 | cons x xs ih =>
  have e : flatW (x :: xs) = .int .i64 x.1 :: .int .i64 x.2 :: flatW xs := rfl
  rw [e]; simp only [List.length_cons, ih]; omega
theorem flatW_get (xs : List Wire) : ∀ j, j < xs.length → (flatW xs)[j * 2]? = some (.int .i64 (xs.getD j (0, 0)).1) ∧ (flatW xs)[j * 2 + 1]? = some (.int .i64 (xs.getD j (0, 0)).2) := by
 induction xs with
 | nil => intro j hj; simp at hj
 | cons x xs ih =>
  intro j hj
  have e : flatW (x :: xs) = .int .i64 x.1 :: .int .i64 x.2 :: flatW xs := rfl
  rw [e]
  cases j with
  | zero => simp
  | succ j =>
   have := ih j (by simpa using hj)
   have e1 : (j + 1) * 2 = j * 2 + 1 + 1 := by omega
   rw [e1]
   simpa using this
def OwnW (w : World) (base : Nat) (v : Value) (xs : List Wire) : Prop := w.ownsRow base 146 2 v xs.length (flatW xs)
theorem OwnW.ext {w w' : World} {base : Nat} {v : Value} {xs : List Wire} (h : OwnW w base v xs) (e : Ext w w') : OwnW w' base v xs := ownsRow_ext h e
theorem OwnW.le {w : World} {b b2 : Nat} {v : Value} {xs : List Wire} (h : OwnW w b v xs) (hb : b2 ≤ b) : OwnW w b2 v xs := row_le h hb
theorem OwnW.nil {w : World} {base : Nat} : OwnW w base (.slice none 0 0) [] := World.ownsRow_nil _ _ _ _
theorem OwnW.app {w' : World} {base : Nat} {v' : Value} {xs : List Wire} {y : Wire} (h : w'.ownsRow base 146 2 v' (xs.length + 1) (flatW xs ++ [.int .i64 y.1, .int .i64 y.2])) : OwnW w' base v' (xs ++ [y]) := by
 unfold OwnW
 rw [List.length_append, flatW_app]; exact h
theorem OwnW.new (w : World) (y : Wire) {base : Nat} (hb : base ≤ w.heap.size) : OwnW (w.alloc (.cells #[.int .i64 y.1, .int .i64 y.2] 146)) base (.slice (some ⟨w.heap.size, 0, none⟩) 1 1) [y] :=
 (Blk.new w [.int .i64 y.1, .int .i64 y.2] _).owns (n := 1) (size := 2) rfl hb (by decide)
def GiveW (w : World) (xs : List Wire) (e : Ending) (w' : World) : Prop := ∃ v, e = .returned v ∧ OwnW w' w.heap.size v xs ∧ Ext w w'
theorem oneCell_w2 (a b : Int) : ∀ u ∈ [Value.int .i64 a, Value.int .i64 b], u.oneCell' = true := by
 intro u hu
 simp at hu
 rcases hu with rfl | rfl <;> rfl
theorem selW_snoc (t : Nat) (ss : List Int) (s : Int) : selW t (ss ++ [s]) = selW t ss ++ selW t [s] := by simp [selW]
theorem idx4_0 (a b c d : Int) (w : World) : (Instr.index 152 (.agg #[.int .i64 a, .int .i64 b, .int .i64 c, .int .i64 d]) (.int .i64 (IntKind.i64.wrap 0))).run Try.prog w = .ok (.int .i64 a) w := by kernel_rfl
theorem idx4_1 (a b c d : Int) (w : World) : (Instr.index 152 (.agg #[.int .i64 a, .int .i64 b, .int .i64 c, .int .i64 d]) (.int .i64 (IntKind.i64.wrap 1))).run Try.prog w = .ok (.int .i64 b) w := by kernel_rfl
theorem idx4_2 (a b c d : Int) (w : World) : (Instr.index 152 (.agg #[.int .i64 a, .int .i64 b, .int .i64 c, .int .i64 d]) (.int .i64 (IntKind.i64.wrap 2))).run Try.prog w = .ok (.int .i64 c) w := by kernel_rfl
theorem idx4_3 (a b c d : Int) (w : World) : (Instr.index 152 (.agg #[.int .i64 a, .int .i64 b, .int .i64 c, .int .i64 d]) (.int .i64 (IntKind.i64.wrap 3))).run Try.prog w = .ok (.int .i64 d) w := by kernel_rfl
set_option maxHeartbeats 4000000 in
theorem needs_c (k : Conf) (ta pa : Option Addr) (tc pc kb : Nat) (hok : k.Ok) (x : Wire) (hx : x.Ok) (w : World) (hk : ConfAt w k ta pa) (y : Blk w kb 52 [.slice ta k.ts.length tc, .slice pa k.ps.length pc]) :
  Calls Try.prog 135 #[.pointer (some ⟨kb, 0, none⟩), .agg #[.int .i64 x.1, .int .i64 x.2]] w (GiveW w (needW k x)) := by
 obtain ⟨t, c⟩ := x
 have ht := hx.1
 have hc := hx.2
 dsimp only at ht hc
 dsimp only
 obtain ⟨b, o, rfl, hb, hcc⟩ := hk.ts.get (by rw [hok.lt]; omega)
 obtain ⟨sa, sc, da, dc, p0, p1, p2, p3, hsl, hdr⟩ := hcc t (by rw [hok.lt]; omega)
 have hot := tileB_iff.1 (hok.ts t ht)
 have hdv := hok.drv hx
 have hnbr := fun h2 h5 => hok.nb hx h2 h5
 have hneed : needW k (t, c) = if 2 ≤ drvAt k (t, c) ∧ drvAt k (t, c) ≤ 5 then [((nbV t (drvAt k (t, c))).toNat, c)] else if drvAt k (t, c) = 1 ∧ (tileAt k t).rg = false then selW t (tileAt k t).sl else [] := rfl
 obtain ⟨b2, o2, rfl, hb2, hd2⟩ := hdr.get (by rw [hot.ld]; omega)
 have p4 := hd2 c (by rw [hot.ld]; omega)
 have hss : ∀ j, j < 3 → trackB ((tileAt k t).sl.getD j 0) = true := hot.ss
 have ls := hot.ls
 have ld := hot.ld
 obtain ⟨d, hd⟩ : ∃ d, d = drvAt k (t, c) := ⟨_, rfl⟩
 have hd' : (tileAt k t).dr.getD c 0 = d := hd.symm
 have e1 : k.ts.getD t tile0 = tileAt k t := rfl
 rw [e1] at p0 p1 p2 p3 p4 hsl ls ld hd2
 rw [hd'] at p4
 have hdv2 : drvB t d = true := by rw [hd]; exact hdv
 rw [← hd] at hnbr hneed
 have hdlt : 0 ≤ d ∧ d ≤ 6 := by
  rcases (by omega : (d < 0 ∨ 6 < d) ∨ (0 ≤ d ∧ d ≤ 6)) with h2 | h2
  ·rw [drvB_low h2] at hdv2; cases hdv2
  ·exact h2
 clear hd hd' hcc hdr hot hdv hd2
 obtain ⟨x, hxx⟩ : ∃ x, x = tileAt k t := ⟨_, rfl⟩
 rw [← hxx] at p0 p1 p2 p3 hsl ls ld hneed hss
 clear e1 hxx
 obtain ⟨lt1, lt2⟩ : k.ts.length ≤ 25 ∧ 25 ≤ k.ts.length := by have := hok.lt; omega
 obtain ⟨ls1, ls2⟩ : x.sl.length ≤ 3 ∧ 3 ≤ x.sl.length := by omega
 obtain ⟨ld1, ld2⟩ : x.dr.length ≤ 8 ∧ 8 ≤ x.dr.length := by omega
 obtain ⟨N, hN⟩ : ∃ N, N = needW k (t, c) := ⟨_, rfl⟩
 rw [← hN] at hneed ⊢
 have HN := Lib.hid hneed
 have HSS := Lib.hid hss
 have HNB := Lib.hid hnbr
 have z0 := y.cell (i := 0) rfl
 have zl := y.lt
 have yx := Blk.at w [.int .i64 t, .int .i64 c] 146 rfl
 have x0 := yx.cell (i := 0) rfl
 have x1 := yx.cell (i := 1) rfl
 have A0 : Ext w (w.alloc (.cells #[.int .i64 t, .int .i64 c] 146)) := (Ext.refl w).alloc _
 replace p0 := ((ecell A0).1 b _ hb).trans p0
 replace p1 := ((ecell A0).1 b _ hb).trans p1
 replace p2 := ((ecell A0).1 b _ hb).trans p2
 replace p3 := ((ecell A0).1 b _ hb).trans p3
 replace p4 := ((ecell A0).1 b2 _ hb2).trans p4
 replace z0 := ((ecell A0).1 kb _ zl).trans z0
 have zs : w.heap.size < (w.alloc (.cells #[.int .i64 t, .int .i64 c] 146)).heap.size := by simp
 clear hN hneed hss hnbr ls ld hdv2 hdlt
 go_enter Try.func135, Try.ntmps135
 go_upto_region 1 with fail
 generalize w.alloc (.cells #[.int .i64 t, .int .i64 c] 146) = W1 at *
 go_wp2_with fail
 go_quiet (fail)
 go_wp2_with fail
 have A1 := A0.drewN' nq
 obtain ⟨W2, hW2⟩ : ∃ W2, W2 = W1.drewN nq := ⟨_, rfl⟩
 rw [← hW2] at A1 ⊢
 have hd2 : Ext W1 W2 := by rw [hW2]; exact Ext.drewN W1 nq
 have hs2 : W2.heap.size = W1.heap.size := by rw [hW2]; rfl
 clear hW2 nq
 replace x0 := ((ecell hd2).1 _ _ zs).trans x0
 replace x1 := ((ecell hd2).1 _ _ zs).trans x1
 have hbW := Nat.lt_of_lt_of_le hb A0.size
 have hb2W := Nat.lt_of_lt_of_le hb2 A0.size
 replace p1 := ((ecell hd2).1 _ _ hbW).trans p1
 replace p2 := ((ecell hd2).1 _ _ hbW).trans p2
 replace p3 := ((ecell hd2).1 _ _ hbW).trans p3
 replace p4 := ((ecell hd2).1 _ _ hb2W).trans p4
 have zs2 : w.heap.size < W2.heap.size := by omega
 replace yx := yx.ext hd2
 clear p0 z0 A0 hd2 hs2 hbW hb2W zs
 go_quiet (fail)
 have A2 := A1.drewN' nq
 obtain ⟨W3, hW3⟩ : ∃ W3, W3 = W2.drewN nq := ⟨_, rfl⟩
 rw [← hW3] at A2 ⊢
 have hd3 : Ext W2 W3 := by rw [hW3]; exact Ext.drewN W2 nq
 have hs3 : W3.heap.size = W2.heap.size := by rw [hW3]; rfl
 clear hW3 nq
 replace x0 := ((ecell hd3).1 _ _ zs2).trans x0
 replace x1 := ((ecell hd3).1 _ _ zs2).trans x1
 have hbW := Nat.lt_of_lt_of_le hb A1.size
 replace p1 := ((ecell hd3).1 _ _ hbW).trans p1
 replace p2 := ((ecell hd3).1 _ _ hbW).trans p2
 have zs3 : w.heap.size < W3.heap.size := by omega
 have YX := Lib.hid (yx.ext hd3)
 clear p3 p4 A1 hd3 hs3 hbW zs2 yx
 by_cases hD : 2 ≤ d ∧ d ≤ 5
 ·obtain ⟨nb0, nb1⟩ := HNB.out hD.1 hD.2
  have hNN : N = [((nbV t d).toNat, c)] := by rw [HN.out, if_pos hD]
  have HNN := Lib.hid hNN
  have T := Lib.hid (fun w => neighbours_c t ht w)
  have hd : d = 2 ∨ d = 3 ∨ d = 4 ∨ d = 5 := by omega
  have i40 := idx4_0
  have i41 := idx4_1
  have i42 := idx4_2
  have i43 := idx4_3
  obtain ⟨nb, hnb⟩ : ∃ nb : Nat, nbV t d = nb := ⟨(nbV t d).toNat, by omega⟩
  clear hNN HNB HN hD nb0 nb1
  rcases hd with rfl | rfl | rfl | rfl
  all_goals
   rw [hnb] at T HNN
   rw [Int.toNat_natCast] at HNN
   clear hnb
   go_wp2_with fail
   refine wp_regionT (fun w' => w'.cell? ⟨w.heap.size, 0, none⟩ = some (.int .i64 t) ∧ w'.cell? ⟨w.heap.size, 1, none⟩ = some (.int .i64 c)) 10 (by kernel_rfl) ?_
   have hS0 := And.intro (a := W3.drew.cell? ⟨w.heap.size, 0, none⟩ = some (.int .i64 t)) x0 x1
   ((refine tkT 0 (v := ?_) rfl (by kernel_rfl) (by kernel_rfl) ?_ (by assumption) ?_; rotate_left; (intro wS hSw; (try dsimp only at hSw); go_simp; (try with_reducible rfl)); (try simp only [Act.put, lA, lB, lC])); (refine tkT 1 (v := ?_) rfl (by kernel_rfl) (by kernel_rfl) ?_ (by assumption) ?_; rotate_left; (intro wS hSw; (try dsimp only at hSw); go_simp; (try with_reducible rfl)); (try simp only [Act.put, lA, lB, lC])); (refine tkT 3 (v := ?_) rfl (by kernel_rfl) (by kernel_rfl) ?_ (by assumption) ?_; rotate_left; (intro wS hSw; (try dsimp only at hSw); go_simp; (try with_reducible rfl)); (try simp only [Act.put, lA, lB, lC])); (refine tkT 4 (v := ?_) rfl (by kernel_rfl) (by kernel_rfl) ?_ (by assumption) ?_; rotate_left; (intro wS hSw; (try dsimp only at hSw); go_simp; (try with_reducible rfl)); (try simp only [Act.put, lA, lB, lC])); (refine tkT 6 (v := ?_) rfl (by kernel_rfl) (by kernel_rfl) ?_ (by assumption) ?_; rotate_left; (intro wS hSw; (try dsimp only at hSw); go_simp; (try with_reducible rfl)); (try simp only [Act.put, lA, lB, lC])); (refine tkT 7 (v := ?_) rfl (by kernel_rfl) (by kernel_rfl) ?_ (by assumption) ?_; rotate_left; (intro wS hSw; (try dsimp only at hSw); go_simp; (try with_reducible rfl)); (try simp only [Act.put, lA, lB, lC])))
   (refine wpAnyT_do 2 (by kernel_rfl) rfl (fun K hK => ?_))
   go_simp
   refine (T.out _).mono ?_
   rintro e W4 ⟨rfl, hE4⟩
   have hd4 := (Ext.drew W3).trans hE4
   have hS1 := And.intro (((ecell hd4).1 _ _ zs3).trans x0) (((ecell hd4).1 _ _ zs3).trans x1)
   (refine hK _ _ hS1 ?_; clear hK K; (try simp only [Act.put, lA, lB, lC]))
   ((refine tkT 5 (v := ?_) rfl (by kernel_rfl) (by kernel_rfl) ?_ (by assumption) ?_; rotate_left; (intro wS hSw; (try dsimp only at hSw); go_simp; (try with_reducible rfl)); (try simp only [Act.put, lA, lB, lC])); (refine tkT 8 (v := ?_) rfl (by kernel_rfl) (by kernel_rfl) ?_ (by assumption) ?_; rotate_left; (intro wS hSw; (try dsimp only at hSw); go_simp; (try with_reducible rfl)); (try simp only [Act.put, lA, lB, lC])))
   (refine wpAnyT_do 9 (by kernel_rfl) rfl (fun K hK => ?_))
   go_simp
   have A4 := (Ext.refl W4).alloc (.cells #[.int .i64 nb, .int .i64 c] 146)
   have hd5 := hd4.trans A4
   have hS2 := And.intro (((ecell hd5).1 _ _ zs3).trans x0) (((ecell hd5).1 _ _ zs3).trans x1)
   (refine hK _ _ hS2 ?_; clear hK K; (try simp only [Act.put, lA, lB, lC]))
   (refine wpAnyT_last 10 (by kernel_rfl) rfl (by decide) (by kernel_rfl) (fun K hK => ?_))
   go_simp
   (refine hK _ _ ?_; clear hK K; (try simp only [Act.put, lA, lB, lC]))
   have hz4 := (A2.trans hd4).size
   have O4 := Lib.hid (OwnW.new W4 (nb, c) (base := w.heap.size) hz4)
   clear hS0 hS1 hS2
   go_wp2
   go_ret
   exact ⟨_, rfl, by rw [HNN.out]; exact O4.out, A2.trans hd5⟩
 ·have hcs : ((d == 1) = true ∧ d = 1 ∧ x.rg = false) ∨ ((d == 1) = true ∧ d = 1 ∧ x.rg = true) ∨ (d == 1) = false ∧ d ≠ 1 := by
   by_cases h1 : d = 1
   ·cases hr : x.rg
    ·exact .inl ⟨by simp [h1], h1, rfl⟩
    ·exact .inr (.inl ⟨by simp [h1], h1, rfl⟩)
   ·exact .inr (.inr ⟨by simp [h1], h1⟩)
  have e2 : (d == 2) = false := by simp; omega
  have e3 : (d == 3) = false := by simp; omega
  have e4 : (d == 4) = false := by simp; omega
  have e5 : (d == 5) = false := by simp; omega
  rcases hcs with ⟨hdd, hd1, hrg⟩ | ⟨hdd, hd1, hrg⟩ | ⟨hdd, hd1⟩
  ·have hNN : N = selW t x.sl := by rw [HN.out, if_neg hD, if_pos ⟨hd1, hrg⟩]
   have HNN := Lib.hid hNN
   rw [hrg] at p2
   clear hNN HN HNB hD hd1 hrg
   go_wp2_with fail
   go_loopw [7, 52] (fun u7 u52 wr => ∃ (j : Nat) (xs : List Wire), j ≤ x.sl.length ∧ u52 = .int .i64 j ∧ Hid (xs = selW t (x.sl.take j)) ∧ xs.length ≤ j ∧ OwnW wr (w.heap.size + 1) u7 xs ∧ Blk wr w.heap.size 146 [.int .i64 t, .int .i64 c] ∧ Ext w wr) (fun _ i _ => x.sl.length - (intOf i).toNat)
   case atStart => exact ⟨0, [], Nat.zero_le _, rfl, Lib.hid (by simp [selW]), by simp, OwnW.nil, YX.out, A2⟩
   case round =>
    clear x0 x1 p1 p2 YX
    obtain ⟨j, xs, hj, rfl, hXS, hxl, hO, yx, hE⟩ := hrel
    have x0 := yx.cell (i := 0) rfl
    have xl := yx.lt
    by_cases hlt : j < x.sl.length
    ·obtain ⟨b3, o3, rfl, hb3, hc3⟩ := (hsl.ext hE).get (by omega)
     have q3 := hc3 j hlt
     have htr := trackB_cases (HSS.out j (by omega))
     have hst := take_snocI hlt
     obtain ⟨s, hs⟩ : ∃ s, s = x.sl.getD j 0 := ⟨_, rfl⟩
     rw [← hs] at q3 htr hst
     clear hc3 hs
     by_cases h15 : s = 15
     ·have hne : (s != 15) = false := by simp [h15]
      have hXS2 : xs = selW t (x.sl.take (j + 1)) := by rw [hst, selW_snoc, ← hXS.out, h15, selW_skip, selW_nil, List.append_nil]
      have HX := Lib.hid hXS2
      clear hXS2 hst h15 htr
      go_wp2
      go_roundw
      case rel => exact ⟨j + 1, xs, by omega, by go_num, HX, by omega, hO, yx, hE⟩
      case measure => simp [intOf]; omega
     ·have hne : (s != 15) = true := by simpa using h15
      obtain ⟨s0, s8⟩ : 0 ≤ s ∧ s < 8 := by omega
      obtain ⟨s', rfl⟩ : ∃ s' : Nat, s = s' := ⟨s.toNat, by omega⟩
      have hXS2 : xs ++ [(t, s')] = selW t (x.sl.take (j + 1)) := by rw [hst, selW_snoc, ← hXS.out, selW_take t _ h15, selW_nil, Int.toNat_natCast]
      have HX := Lib.hid hXS2
      obtain ⟨w5, rfl⟩ : ∃ z : World, z = wr := ⟨_, rfl⟩
      have A := (Ext.refl w5).alloc (.cells #[.int .i64 t, .int .i64 s'] 146)
      have z5 := hE.size
      clear hXS2 hst h15 htr
      go_wp2_with (at_builtin; go_loud (refine wpList_app tyWires (ownsRow_ext hO A) (rowAtN w5 #[.int .i64 t, .int .i64 s'] _ (B := w5.heap.size) rfl) rfl (oneCell_w2 _ _) (by omega) (by simp; omega) rfl rfl rfl rfl ?_); intro v8 w8 o8 g8 m8)
      go_roundw
      case rel =>
       exact ⟨j + 1, xs ++ [(t, s')], by omega, by go_num, HX, by simp; omega, OwnW.app (y := (t, s')) o8, (yx.ext A).gr g8 (fun q => by have := (World.ownsRow.lt hO _ q).1; omega), ext_grown (hE.trans A) g8 (fun k hk => by have := (World.ownsRow.lt hO k hk).1; omega)⟩
      case measure => simp [intOf]; omega
    ·have hj3 : j = x.sl.length := by omega
     subst hj3
     have hN2 : N = xs := by rw [HNN.out, hXS.out, List.take_length]
     have HN2 := Lib.hid hN2
     clear hN2
     go_wp2
     go_ret
     exact ⟨_, rfl, by rw [HN2.out]; exact hO.le (by omega), hE⟩
  ·have hNN : N = [] := by rw [HN.out, if_neg hD, if_neg (by rw [hrg]; simp)]
   subst hNN
   rw [hrg] at p2
   clear HN HNB hD hd1 hrg
   go_wp2
   go_ret
   exact ⟨_, rfl, OwnW.nil, A2⟩
  ·have hNN : N = [] := by rw [HN.out, if_neg hD, if_neg (fun h => hd1 h.1)]
   subst hNN
   clear HN HNB hD hd1
   go_wp2
   go_ret
   exact ⟨_, rfl, OwnW.nil, A2⟩
end Go.Proofs.Ytgialedmbmfejaa

namespace Go.Proofs.Ytgialedmbmfejaa
open Go.RowKit Go.Maps
set_option maxRecDepth 100000
set_option linter.unusedVariables false
set_option linter.unusedSimpArgs false
def wKey (x : Wire) : Lit := .string (keyBytes [.int .i64 x.1, .int .i64 x.2])
def wVal (x : Wire) : Value := .agg #[.int .i64 x.1, .int .i64 x.2]
theorem wf_sm {x : Int} (h : -9000000000000000000 ≤ x) (h2 : x ≤ 9000000000000000000) : (Lit.int .i64 x).wf = true := WalkArith.wf_i64 (by omega)
theorem wf_nat8 {x : Nat} (h : x < 1000) : (Lit.int .i64 (x : Int)).wf = true := wf_sm (by omega) (by omega)
theorem wLaidOut : laidOutB Try.prog = true := by kernel_rfl
theorem wLaw : Keyed Try.prog 146 := Keyed.of_law (deep_law_laid wLaidOut (m := 2) (by omega) (of_decide_eq_true (by kernel_rfl)) (by kernel_rfl) (by rw [Try.underlying146]))
theorem keyOf_wire {P : Program} {t i : TypeId} {n1 n2 g1 g2 p1 p2 : String} {b1 b2 : Nat} {e1 e2 : Bool} (hu : P.underlying t = some (.struct #[{ name := n1, type := i, offset := 0, embedded := e1, tag := g1, pkgPath := p1, byteOffset := b1 }, { name := n2, type := i, offset := 1, embedded := e2, tag := g2, pkgPath := p2, byteOffset := b2 }])) (hn1 : n1 ≠ "_") (hn2 : n2 ≠ "_")
  (hk : P.keyType t = true) (h0 : 0 < P.types.size) (hc : P.cellsOf t = 2) (hi : P.underlying i = some (.int .i64)) (hc3 : P.cellsOf i = 1) {a b : Int} (h1 : (Lit.int .i64 a).wf = true) (h2 : (Lit.int .i64 b).wf = true) :
  keyOf P t (.agg #[.int .i64 a, .int .i64 b]) = some (.string (keyBytes [.int .i64 a, .int .i64 b])) := by
 obtain ⟨m, hm⟩ : ∃ m, P.types.size = m + 1 := ⟨P.types.size - 1, by omega⟩
 have ki : ∀ x, (Lit.int .i64 x).wf = true → P.keyLits (m + 1) i [.int .i64 x] = some [.int .i64 x] := by
  intro x hx
  unfold Program.keyLits
  simp [hi, hx]
 have k1 : P.keyLits (m + 1 + 1) t [.int .i64 a, .int .i64 b] = some [.int .i64 a, .int .i64 b] := by
  unfold Program.keyLits
  simp [hu, hc, hc3, ki a h1, ki b h2, hn1, hn2]
 unfold keyOf
 rw [hu]
 simp [hk, hm, Value.formed, hu, hc, Value.cells, k1]
theorem wKeyOf (x : Wire) (h : x.Ok) : keyOf Try.prog 146 (wVal x) = some (wKey x) :=
 keyOf_wire Try.underlying146 (by decide) (by decide) (by kernel_rfl) (of_decide_eq_true (by kernel_rfl)) (by kernel_rfl) Try.underlying3 (by kernel_rfl) (wf_nat8 (by have := h.1; omega)) (wf_nat8 (by have := h.2; omega))
theorem wKey_ne {x y : Wire} (h : x.Ok) (h' : y.Ok) (hne : x ≠ y) : wKey x ≠ wKey y := by
 intro e
 have h1 := wKeyOf x h
 have h2 := wKeyOf y h'
 rw [e] at h1
 have := wLaw.inj h1 h2
 simp [wVal] at this
 exact hne (Prod.ext (by have := this.1; omega) (by have := this.2; omega))
theorem wKey_is {x : Wire} (h : x.Ok) : WideAt.IsKeyLit (wKey x) := wLaw.key (wKeyOf x h)
noncomputable abbrev wElem : Value → Option (DataW Unit × List MemPlace) := plainElem (H := Unit) Try.prog 3
theorem wMapTy : Try.prog.underlying 143 = some (.map 146 3) := Try.underlying143
theorem wZero (w : World) : (zeroValue 3).run Try.prog w = .ok (.int .i64 0) w := by kernel_rfl
/-- Block mb holds the marks m; it has been stored into at most so often. -/
def MkM (w : World) (mb B : Nat) (m : Marks) : Prop :=
 ∃ (n : Nat) (D : DataW Unit), w.ownsMap Try.prog 146 wElem mb n D ∧ n + 2 * zeros0 m 200 ≤ B ∧ ∀ x : Wire, x.Ok → D.atKey (wKey x) (.lit (.int .i64 0)) = .lit (.int .i64 (m x.ix))
section
variable {w w' : World} {mb B : Nat} {m : Marks}
theorem MkM.lt (h : MkM w mb B m) : mb < w.heap.size := by obtain ⟨n, D, h, _⟩ := h; exact h.lt
theorem MkM.kept {r : Option Nat} (h : MkM w mb B m) (hg : w.grownBy w' r) (hne : some mb ≠ r) : MkM w' mb B m := by obtain ⟨n, D, h, r⟩ := h; exact ⟨n, D, h.kept hg hne, r⟩
theorem MkM.ext (h : MkM w mb B m) (e : Ext w w') : MkM w' mb B m := h.kept (Gr.ext e none) (by simp)
theorem MkM.made (w : World) : MkM (w.alloc (.map #[] 0)) w.heap.size 400 mark0 :=
 ⟨0, .map [], World.ownsMap_made _ _ _ _, by have := zeros0_le mark0 200; omega, fun x _ => rfl⟩
theorem MkM.put {n : Nat} {D : DataW Unit} (h : w.ownsMap Try.prog 146 wElem mb n D) (hD : ∀ x : Wire, x.Ok → D.atKey (wKey x) (.lit (.int .i64 0)) = .lit (.int .i64 (m x.ix)))
  {x : Wire} (hx : x.Ok) {v : Int} {B' : Nat} (hB : n + 1 + 2 * zeros0 (upd m x.ix v) 200 ≤ B') (h1 : w'.ownsMap Try.prog 146 wElem mb (n + 1) (D.put (wKey x) (.lit (.int .i64 v)))) : MkM w' mb B' (upd m x.ix v) := by
 refine ⟨_, _, h1, hB, fun y hy => ?_⟩
 by_cases e : y = x
 ·subst e; rw [atKey_put_same h.isMap (wKey_is hx), upd_same]
 ·rw [atKey_put_other (wKey_ne hy hx e), hD y hy, upd_ne _ _ (fun e2 => e (Wire.ix_inj hy hx e2))]
end
end Go.Proofs.Ytgialedmbmfejaa

namespace Go.Proofs.Ytgialedmbmfejaa
open Go.RowKit Go.Maps
set_option maxRecDepth 100000
set_option linter.unusedVariables false
set_option linter.unusedSimpArgs false
def CycPost (mb B : Nat) (w : World) (R : Bool × Marks) (e : Ending) (w' : World) : Prop := e = .returned (.bool (!R.1)) ∧ MkM w' mb B R.2 ∧ w.grownBy w' (some mb)
def CycIH (k : Conf) (ta pa : Option Addr) (tc pc kb mb : Nat) (w0 : World) (n : Nat) : Prop := ∀ (m : Marks) (x : Wire) (B : Nat) (w : World), x.Ok → zeros0 m 200 < n → Mk3 m → B ≤ 400 → MkM w mb B m → Blk w kb 52 [.slice ta k.ts.length tc, .slice pa k.ps.length pc] → Ext w0 w →
  Calls Try.prog 113 #[.pointer (some ⟨kb, 0, none⟩), .agg #[.int .i64 x.1, .int .i64 x.2], .map (some mb)] w (CycPost mb B w (vis k n m x))
theorem Gr.behind {w0 w w' : World} {mb : Nat} (h : w.grownBy w' (some mb)) (e : Ext w0 w) (hm : w0.heap.size ≤ mb) : Ext w0 w' :=
 ⟨h.os.trans (Below.os e), h.tape.trans (Below.tape e), h.output.trans (Below.output e), Nat.le_trans e.size h.size, fun k hk => (h.block k (Nat.lt_of_lt_of_le hk e.size) (fun e2 => by have := Option.some.inj e2; omega)).trans (Below.block e k hk)⟩
theorem someNe {a b : Nat} (h : a ≠ b) : (some a : Option Nat) ≠ some b := fun e => h (Option.some.inj e)
set_option maxHeartbeats 4000000 in
theorem cyclic_c (k : Conf) (ta pa : Option Addr) (tc pc kb mb : Nat) (w0 : World) (hk : ConfAt w0 k ta pa) (hok : k.Ok) (hne : kb ≠ mb) (hm0 : w0.heap.size ≤ mb) : ∀ n, CycIH k ta pa tc pc kb mb w0 n := by
 intro n
 induction n with
 | zero => intro m x B w _ hz; exact absurd hz (Nat.not_lt_zero _)
 | succ n ih =>
  intro m ⟨t, c⟩ B w hx hz h3 hB hM y hE
  have IH := Lib.hid ih
  clear ih
  have ht := hx.1
  have hc := hx.2
  dsimp only at ht hc
  dsimp only
  have hkey : keyOf Try.prog 146 (.agg #[.int .i64 (t : Int), .int .i64 (c : Int)]) = some (wKey (t, c)) := wKeyOf (t, c) hx
  have A1 : Ext w (w.alloc (.cells #[.int .i64 t, .int .i64 c] 146)) := (Ext.refl w).alloc _
  have hM1 := hM.ext A1
  obtain ⟨sn, D, hown, hsn, hat⟩ := hM1
  have hatx := hat (t, c) hx
  have mbl := hM.lt
  have yx := Blk.at w [.int .i64 t, .int .i64 c] 146 rfl
  have x0 := yx.cell (i := 0) rfl
  have x1 := yx.cell (i := 1) rfl
  have xl := yx.lt
  obtain ⟨v, hv⟩ : ∃ v, v = m (Wire.ix (t, c)) := ⟨_, rfl⟩
  rw [← hv] at hatx
  have HAT := Lib.hid hatx
  have hv3 := h3 (Wire.ix (t, c))
  rw [← hv] at hv3
  clear hatx
  by_cases h0 : v = 0
  ·subst h0
   have h0 : m (Wire.ix (t, c)) = 0 := hv.symm
   have hzd := zeros0_dec m (Wire.ix (t, c)) 1 (by decide) h0 200 hx.ix
   obtain ⟨V, hV⟩ : ∃ V, V = visL k n (needW k (t, c)) (upd m (Wire.ix (t, c)) 1) := ⟨_, rfl⟩
   have hvis : vis k (n + 1) m (t, c) = if V.1 then (true, upd V.2 (Wire.ix (t, c)) 2) else (false, V.2) := by
    cases hVb : V with
    | mk bb mm =>
     rw [hVb] at hV
     cases bb
     ·rw [vis_bad h0 hV.symm]; rfl
     ·rw [vis_ok h0 hV.symm]; rfl
   have HVIS := Lib.hid hvis
   have HV := Lib.hid hV
   have h3u : Mk3 (upd m (Wire.ix (t, c)) 1) := h3.upd _ (.inr (.inl rfl))
   have hval : wElem (.int .i64 1) = some (.lit (.int .i64 1), []) := plainElem_int Try.underlying3 (wf_sm (by omega) (by omega))
   have HAT2 := Lib.hid hat
   have HM := Lib.hid hM
   have z1 : w.heap.size < (w.alloc (.cells #[.int .i64 t, .int .i64 c] 146)).heap.size := by simp
   obtain ⟨R, hR⟩ : ∃ R, R = vis k (n + 1) m (t, c) := ⟨_, rfl⟩
   rw [← hR] at HVIS ⊢
   clear hv hV hvis h0 hv3 hat hM h3 hR
   have y1 := y.ext A1
   go_enter Try.func113, Try.ntmps113
   go_upto_region 1 with fail
   generalize w.alloc (.cells #[.int .i64 t, .int .i64 c] 146) = W1 at *
   go_wp2_with (first
    | (at_lookup; go_loud (refine wpList_lookup_own_int _ rfl _ _ 143 rfl 146 3 .i64 wLaw wMapTy Try.underlying3 (wZero _) mb sn D rfl hown _ _ rfl hkey ?_); intro cL hcL hwc; have hcc : cL = _ := (Lit.int.inj (DataW.lit.inj (hcL.symm.trans HAT.out))).2; subst hcc; clear hcL hwc)
    | (at_mapUpdate; go_loud (refine wpList_mapUpdate_own _ rfl _ _ _ 143 rfl 146 3 wLaw wMapTy _ mb sn D rfl hown (by unfold maxLen; omega) _ _ (wKey (t, c)) rfl rfl hkey _ _ hval ?_); intro W2 hown2 hg2; have M2 := MkM.put hown HAT2.out hx (v := 1) (B' := B - 1) (by omega) hown2; clear hown2 hown; have yx2 := yx.gr hg2 (someNe (by omega)); have x0 := yx2.cell (i := 0) rfl; have x1 := yx2.cell (i := 1) rfl; have xl := yx2.lt))
   have G2 : w.grownBy W2 (some mb) := Gr.trans (Gr.ext A1 _) hg2
   have E2 := Gr.behind G2 hE hm0
   have y2 := y1.gr hg2 (someNe (fun e => hne e.symm))
   have HND := Lib.hid (needs_c k ta pa tc pc kb hok (t, c) hx W2 (hk.ext E2) y2)
   have hnok := Lib.hid (hok.need hx)
   obtain ⟨xs, hxs⟩ : ∃ xs, xs = needW k (t, c) := ⟨_, rfl⟩
   rw [← hxs] at HND HV hnok
   have hzu : zeros0 (upd m (Wire.ix (t, c)) 1) 200 < n := by omega
   have HZ := Lib.hid hzu
   have hB1 : 2 ≤ B := by omega
   have hxl := hok.needLen hx
   rw [← hxs] at hxl
   clear hxs x0 x1 hg2 A1 yx y1 hval z1 hsn hzd hzu y
   refine HND.out.mono ?_
   rintro e W3 ⟨v3, rfl, hO3, hE3⟩
   obtain ⟨wa, wc3, rfl, _⟩ := ownsRow_row hO3
   have M3 := M2.ext hE3
   have y3 := y2.ext hE3
   have yx3 := yx2.ext hE3
   have G3 := Gr.trans G2 (Gr.ext hE3 _)
   have hs23 := G2.size
   have hs3 := hE3.size
   have hal : ∀ q, (Value.slice wa xs.length wc3).ownBlock = some q → q ≠ mb := fun q hq e => by have := (World.ownsRow.lt hO3 q hq).1; omega
   have HAL := Lib.hid hal
   clear hal HND M2 y2 yx2 G2 E2
   go_wp2_with fail
   go_loopw [22] (fun u22 wr => ∃ (j : Nat) (m2 : Marks), j ≤ xs.length ∧ u22 = .int .i64 j ∧ Hid (V = visL k n (xs.drop j) m2) ∧ Hid (zeros0 m2 200 < n) ∧ Mk3 m2 ∧ MkM wr mb (B - 1) m2 ∧ Blk wr kb 52 [.slice ta k.ts.length tc, .slice pa k.ps.length pc] ∧ Blk wr w.heap.size 146 [.int .i64 t, .int .i64 c] ∧ OwnW wr W2.heap.size (.slice wa xs.length wc3) xs ∧ w.grownBy wr (some mb)) (fun i _ => xs.length - (intOf i).toNat)
   case atStart => exact ⟨0, _, Nat.zero_le _, rfl, HV, HZ, h3u, M3, y3, yx3, hO3, G3⟩
   case round =>
    clear M3 y3 yx3 hO3 G3 hE3 h3u
    obtain ⟨j, m2, hj, rfl, hVj, hzj, h3j, M3, y3, yx3, hO3, G3⟩ := hrel
    have hs := G3.size
    have E3 := Gr.behind G3 hE hm0
    by_cases hlt : j < xs.length
    ·obtain ⟨wb, rfl, hwb1, hwb2⟩ := ownsRow_block hO3 (by omega)
     obtain ⟨g0, g1⟩ := flatW_get xs j hlt
     have q0 := ownsRow_cell hO3 g0
     have q1 := ownsRow_cell hO3 g1
     have hxo := hnok.out (xs.getD j (0, 0)) (by rw [List.getD_eq_getElem?_getD, List.getElem?_eq_getElem hlt]; exact List.getElem_mem hlt)
     have hdr : xs.drop j = xs.getD j (0, 0) :: xs.drop (j + 1) := by
      rw [List.drop_eq_getElem_cons hlt, List.getD_eq_getElem?_getD, List.getElem?_eq_getElem hlt]; rfl
     obtain ⟨z, hz2⟩ : ∃ z, z = xs.getD j (0, 0) := ⟨_, rfl⟩
     rw [← hz2] at q0 q1 hxo hdr
     obtain ⟨z1, z2⟩ := z
     dsimp only at q0 q1
     have hVV := hVj.out
     rw [hdr, visL_cons] at hVV
     obtain ⟨w4, rfl⟩ : ∃ z : World, z = wr := ⟨_, rfl⟩
     have A4 : Ext w4 (w4.alloc (.cells #[.int .i64 z1, .int .i64 z2] 146)) := (Ext.refl w4).alloc _
     have HC := Lib.hid (IH.out m2 (z1, z2) (B - 1) _ hxo hzj.out h3j (by omega) (M3.ext A4) (y3.ext A4) (E3.trans A4))
     have hz3 := vis_zeros k n m2 (z1, z2)
     have h3v := vis_mk3 k n m2 (z1, z2) h3j
     obtain ⟨R2, hR2⟩ : ∃ R2, R2 = vis k n m2 (z1, z2) := ⟨_, rfl⟩
     rw [← hR2] at hVV HC hz3 h3v
     have hzR : zeros0 R2.2 200 < n := by have := hzj.out; omega
     have HVV := Lib.hid hVV
     have HZR := Lib.hid hzR
     obtain ⟨ok, m3⟩ := R2
     clear g0 g1 hdr hz2 hVV hR2 hz3 hzR hVj hxo
     go_wp2_with fail
     refine HC.out.mono ?_
     rintro e w5 ⟨rfl, M5, G5⟩
     have y5 := (y3.ext A4).gr G5 (someNe (fun e => hne e.symm))
     have yx5 := (yx3.ext A4).gr G5 (someNe (by omega))
     have hO5 : OwnW w5 W2.heap.size (.slice (some ⟨wb, 0, none⟩) xs.length wc3) xs := ownsRow_gr (ownsRow_ext hO3 A4) G5 (.inr (fun e => HAL.out wb rfl (Option.some.inj e)))
     have GG := Gr.trans (Gr.trans G3 (Gr.ext A4 _)) G5
     clear q0 q1 A4 HC
     cases ok
     ·have hVf : V = (false, m3) := HVV.out
      subst hVf
      have hRR : R = (false, m3) := HVIS.out
      subst hRR
      have HM5 : Hid (MkM w5 mb B m3) := Lib.hid (by obtain ⟨a, b, c, d, e⟩ := M5; exact ⟨a, b, c, by dsimp only at d; omega, e⟩)
      clear M5
      go_wp2
      go_ret
      exact ⟨rfl, HM5.out, GG⟩
     ·have hVf : V = visL k n (xs.drop (j + 1)) m3 := HVV.out
      have HVF := Lib.hid hVf
      clear hVf HVV
      go_wp2_with fail
      go_roundw
      case rel => exact ⟨j + 1, m3, by omega, by go_num, HVF, HZR, h3v, M5, y5, yx5, hO5, GG⟩
      case measure => simp [intOf]; omega
    ·have hj2 : j = xs.length := by omega
     subst hj2
     have hVf : V = (true, m2) := by rw [hVj.out, List.drop_length, visL_nil]
     subst hVf
     have hRR : R = (true, upd m2 (Wire.ix (t, c)) 2) := HVIS.out
     subst hRR
     obtain ⟨sn, D, hown, hsn, hat⟩ := M3
     have hval : wElem (.int .i64 2) = some (.lit (.int .i64 2), []) := plainElem_int Try.underlying3 (wf_sm (by omega) (by omega))
     have x0 := yx3.cell (i := 0) rfl
     have x1 := yx3.cell (i := 1) rfl
     have xl := yx3.lt
     have HAT3 := Lib.hid hat
     have hzl := zeros0_upd m2 (Wire.ix (t, c)) 2 (by decide) 200
     clear hat hVj HVIS
     go_wp2_with (at_mapUpdate; go_loud (refine wpList_mapUpdate_own _ rfl _ _ _ 143 rfl 146 3 wLaw wMapTy _ mb sn D rfl hown (by unfold maxLen; omega) _ _ (wKey (t, c)) rfl rfl hkey _ _ hval ?_); intro W8 hown2 hg2; have M8 := MkM.put hown HAT3.out hx (v := 2) (B' := B) (by omega) hown2; clear hown2 hown)
     go_ret
     exact ⟨rfl, M8, Gr.trans G3 hg2⟩
  ·rw [vis_seen (by rw [← hv]; exact h0), ← hv]
   have e1 : v = 1 ∨ v = 2 := by omega
   have HM := Lib.hid (hM.ext A1)
   clear hv hM hv3 h0 hat
   rcases e1 with rfl | rfl
   all_goals
    go_enter Try.func113, Try.ntmps113
    go_wp2_with (at_lookup; go_loud (refine wpList_lookup_own_int _ rfl _ _ 143 rfl 146 3 .i64 wLaw wMapTy Try.underlying3 (wZero _) mb sn D rfl hown _ _ rfl hkey ?_); intro cL hcL hwc; have hcc : cL = _ := (Lit.int.inj (DataW.lit.inj (hcL.symm.trans HAT.out))).2; subst hcc; clear hcL hwc)
    go_ret
    exact ⟨rfl, HM.out, Gr.ext A1 _⟩
end Go.Proofs.Ytgialedmbmfejaa

namespace Go.Proofs.Ytgialedmbmfejaa
open Go.RowKit Go.Maps
set_option maxRecDepth 100000
set_option linter.unusedVariables false
set_option linter.unusedSimpArgs false
set_option maxHeartbeats 4000000 in
theorem implConfigAcyclic_c (k : Conf) (ta pa : Option Addr) (tc pc : Nat) (w : World) (hk : ConfAt w k ta pa) :
  Calls Try.prog 81 #[.agg #[.slice ta k.ts.length tc, .slice pa k.ps.length pc]] w fun e w' => e = .returned (.bool (acyV k)) ∧ Ext w w' := by
 have y := Blk.at w [.slice ta k.ts.length tc, .slice pa k.ps.length pc] 52 rfl
 have Ey : Ext w (w.alloc (.cells #[.slice ta k.ts.length tc, .slice pa k.ps.length pc] 52)) := (Ext.refl w).alloc _
 have T1 := Lib.hid (implConfigValid_c k ta pa tc pc)
 have HA : Hid (acyV k = (confB k && (visL k 201 (wiresFrom 0) mark0).1)) := Lib.hid rfl
 obtain ⟨A, hA⟩ : ∃ A, A = acyV k := ⟨_, rfl⟩
 rw [← hA] at HA ⊢
 clear hA
 cases hb : confB k
 ·rw [hb] at T1 HA
  have hf : A = false := HA.out
  subst hf
  clear hb HA
  go_enter Try.func81, Try.ntmps81
  go_wp2_with fail
  refine (T1.out _ (hk.ext Ey)).mono ?_
  rintro e w1 ⟨rfl, hE1⟩
  go_wp2
  go_ret
  exact ⟨rfl, Ey.trans hE1⟩
 ·rw [hb] at T1 HA
  have hok := confB_iff.1 hb
  have hf : A = (visL k 201 (wiresFrom 0) mark0).1 := HA.out
  obtain ⟨V, hV⟩ : ∃ V, V = visL k 201 (wiresFrom 0) mark0 := ⟨_, rfl⟩
  rw [← hV] at hf
  subst hf
  have HV := Lib.hid hV
  clear hb HA hV
  go_enter Try.func81, Try.ntmps81
  go_wp2_with fail
  refine (T1.out _ (hk.ext Ey)).mono ?_
  rintro e w1 ⟨rfl, hE1⟩
  have y1 := y.ext hE1
  have E1 := Ey.trans hE1
  have zb := y1.lt
  have M1 := MkM.made w1
  have T2 := Lib.hid (cyclic_c k ta pa tc pc w.heap.size w1.heap.size w1 (hk.ext E1) hok (by omega) (Nat.le_refl _) 201)
  have y2 := y1.alloc (.map #[] 0)
  have E2 : Ext w1 (w1.alloc (.map #[] 0)) := (Ext.refl w1).alloc _
  clear y y1 Ey T1 hE1
  have hmm := @run_makeMap Try.prog
  go_wp2_with fail
  go_loopw [10] (fun u5 wr => ∃ (i : Nat) (m : Marks), i ≤ 25 ∧ u5 = .int .i64 i ∧ Hid (V = visL k 201 (wiresFrom (i * 8)) m) ∧ Mk3 m ∧ MkM wr w1.heap.size 400 m ∧ Blk wr w.heap.size 52 [.slice ta k.ts.length tc, .slice pa k.ps.length pc] ∧ Ext w1 wr) (fun i _ => 25 - (intOf i).toNat)
  case atStart => exact ⟨0, mark0, Nat.zero_le _, rfl, HV, mk3_0, M1, y2, E2⟩
  case round =>
   clear M1 y2 E2 HV
   obtain ⟨i, m, hi, rfl, hVi, h3, M0, y, hE⟩ := hrel
   by_cases hlt : i < 25
   ·obtain ⟨w2, rfl⟩ : ∃ z : World, z = wr := ⟨_, rfl⟩
    have hiI : (i : Int) < 25 := by omega
    go_wp2_with fail
    go_loopw [13] (fun u6 wr => ∃ (c : Nat) (m : Marks), c ≤ 8 ∧ u6 = .int .i64 c ∧ Hid (V = visL k 201 (wiresFrom (i * 8 + c)) m) ∧ Mk3 m ∧ MkM wr w1.heap.size 400 m ∧ Blk wr w.heap.size 52 [.slice ta k.ts.length tc, .slice pa k.ps.length pc] ∧ Ext w1 wr) (fun i _ => 8 - (intOf i).toNat)
    case atStart => exact ⟨0, m, Nat.zero_le _, rfl, hVi, h3, M0, y, hE⟩
    case round =>
     clear M0 y hE hVi h3
     obtain ⟨c, m, hc, rfl, hVi, h3, M0, y, hE⟩ := hrel
     by_cases hc8 : c < 8
     ·have hcall := T2.out m (i, c) 400 wr ⟨hlt, hc8⟩ (by have := zeros0_le m 200; omega) h3 (Nat.le_refl _) M0 y hE
      have h3v := vis_mk3 k 201 m (i, c) h3
      have hVV := hVi.out
      have hwf : wireOf (i * 8 + c) = (i, c) := by simp only [wireOf]; congr 1 <;> omega
      rw [wiresFrom_cons (by omega), hwf, visL_cons] at hVV
      obtain ⟨R, hR⟩ : ∃ R, R = vis k 201 m (i, c) := ⟨_, rfl⟩
      rw [← hR] at hVV hcall h3v
      obtain ⟨ok, m2⟩ := R
      have HVV := Lib.hid hVV
      have HC := Lib.hid hcall
      clear hVV hR hcall hwf hVi
      go_wp2_with fail
      refine HC.out.mono ?_
      rintro e w3 ⟨rfl, M3, G3⟩
      have y3 := y.gr G3 (someNe (by omega))
      have E3 := Gr.behind G3 hE (Nat.le_refl _)
      cases ok
      ·have hVf : V = (false, m2) := HVV.out
       subst hVf
       go_wp2
       go_ret
       exact ⟨rfl, E1.trans E3⟩
      ·have hVf : V = visL k 201 (wiresFrom (i * 8 + (c + 1))) m2 := HVV.out
       have HVF := Lib.hid hVf
       clear hVf
       go_wp2_with fail
       go_roundw
       case rel => exact ⟨c + 1, m2, by omega, by go_num, HVF, h3v, M3, y3, E3⟩
       case measure => simp [intOf]; omega
     ·have hc9 : c = 8 := by omega
      subst hc9
      have hVf : V = visL k 201 (wiresFrom ((i + 1) * 8)) m := by rw [hVi.out]; congr 2; omega
      have HVF := Lib.hid hVf
      clear hVf hVi
      go_wp2
      go_roundw
      case rel => exact ⟨i + 1, m, by omega, by go_num, HVF, h3, M0, y, hE⟩
      case measure => simp [intOf]; omega
   ·have hi2 : i = 25 := by omega
    subst hi2
    have hVf : V = (true, m) := by rw [hVi.out, show 25 * 8 = 200 from rfl, wiresFrom_end, visL_nil]
    subst hVf
    go_wp2
    go_ret
    exact ⟨rfl, E1.trans hE⟩
end Go.Proofs.Ytgialedmbmfejaa

namespace Go.Proofs.Ytgialedmbmfejaa
open Go.RowKit
set_option maxRecDepth 100000
set_option linter.unusedVariables false
set_option linter.unusedSimpArgs false
def rowM (m : Marks) (t : Nat) : List Value := (List.range 8).map (fun c => Value.int .i64 (m (t * 8 + c)))
theorem rowM_get (m : Marks) (t : Nat) {c : Nat} (h : c < 8) : (rowM m t)[c]? = some (.int .i64 (m (t * 8 + c))) := by simp [rowM, h]
theorem rowM_set (m : Marks) (t : Nat) {c : Nat} (h : c < 8) (v : Int) : (rowM m t).set c (.int .i64 v) = rowM (upd m (t * 8 + c) v) t := by
 apply List.ext_getElem?
 intro i
 rw [List.getElem?_set]
 rcases Nat.lt_or_ge i 8 with hi | hi
 ·rw [rowM_get _ _ hi]
  by_cases e : c = i
  ·subst e; simp [rowM, h, upd_same]
  ·rw [if_neg e, rowM_get _ _ hi, upd_ne _ _ (by omega)]
 ·have hn : ∀ m : Marks, (rowM m t)[i]? = none := fun m => List.getElem?_eq_none (by simp [rowM]; omega)
  rw [hn, hn, if_neg (by omega)]
theorem rowM_other (m : Marks) {t t' c : Nat} (h : t' ≠ t) (hc : c < 8) (v : Int) : rowM (upd m (t * 8 + c) v) t' = rowM m t' := by
 unfold rowM
 apply List.map_congr_left
 intro i hi
 rw [List.mem_range] at hi
 rw [upd_ne _ _ (by omega)]
/-- The marks as the reference keeps them: one row for each tile. -/
structure MkR (w : World) (rb : Nat) (bs : Nat → Nat) (m : Marks) : Prop where
 row : ∀ t, t < 25 → w.cell? ⟨rb, t, none⟩ = some (.slice (some ⟨bs t, 0, none⟩) 8 8)
 blk : ∀ t, t < 25 → Blk w (bs t) 3 (rowM m t)
structure Rbs (w0 : World) (rb : Nat) (bs : Nat → Nat) : Prop where
 lo : ∀ t, t < 25 → w0.heap.size ≤ bs t
 inj : ∀ t t', t < 25 → t' < 25 → bs t = bs t' → t = t'
 off : ∀ t, t < 25 → bs t ≠ rb
def RbS (bs : Nat → Nat) (q : Nat) : Prop := ∃ t, t < 25 ∧ q = bs t
section
variable {w0 w w' : World} {rb : Nat} {bs : Nat → Nat} {m : Marks}
theorem MkR.rbl (h : MkR w rb bs m) : rb < w.heap.size := cell_lt (h.row 0 (by decide))
theorem MkR.bl (h : MkR w rb bs m) {t : Nat} (ht : t < 25) : bs t < w.heap.size := (h.blk t ht).lt
theorem MkR.cell (h : MkR w rb bs m) {t c : Nat} (ht : t < 25) (hc : c < 8) : w.cell? ⟨bs t, c, none⟩ = some (.int .i64 (m (t * 8 + c))) := (h.blk t ht).cell (rowM_get m t hc)
theorem MkR.ext (h : MkR w rb bs m) (e : Ext w w') : MkR w' rb bs m := ⟨fun t ht => ((ecell e).1 rb _ h.rbl).trans (h.row t ht), fun t ht => (h.blk t ht).ext e⟩
theorem MkR.set (h : MkR w rb bs m) (r : Rbs w0 rb bs) {t c : Nat} (ht : t < 25) (hc : c < 8) (v : Int) : MkR (w.setCell ⟨bs t, c, none⟩ (.int .i64 v)) rb bs (upd m (t * 8 + c) v) := by
 refine ⟨fun t' ht' => ?_, fun t' ht' => ?_⟩
 ·rw [World.cell?_of_block (a := ⟨rb, t', none⟩) (heap_setCell_other w ⟨bs t, c, none⟩ rb _ (fun e => r.off t ht e.symm))]
  exact h.row t' ht'
 ·by_cases e : t' = t
  ·subst e
   rw [← rowM_set m t' hc]
   exact (h.blk t' ht).set c _
  ·rw [rowM_other m e hc]
   exact (h.blk t' ht').setOther (fun e2 => e (r.inj t' t ht' ht e2)) _
theorem OnlyIn.extR (h : OnlyIn (RbS bs) w w') (r : Rbs w0 rb bs) (e : Ext w0 w) : Ext w0 w' :=
 ⟨h.os.trans (Below.os e), h.tape.trans (Below.tape e), h.output.trans (Below.output e), Nat.le_trans e.size h.size, fun k hk => (h.block k (Nat.lt_of_lt_of_le hk e.size) (fun ⟨t, ht, hq⟩ => by have := r.lo t ht; omega)).trans (Below.block e k hk)⟩
theorem Blk.onlyR {S : Nat → Prop} {B : Nat} {t : TypeId} {cs : List Value} (h : Blk w B t cs) (hm : OnlyIn S w w') (hr : ¬ S B) : Blk w' B t cs := (hm.block B h.lt hr).trans h
end
/-- What a visit gives back. -/
def MarkPost (bs : Nat → Nat) (rb : Nat) (w : World) (R : Bool × Marks) (e : Ending) (w' : World) : Prop := e = .returned (.bool R.1) ∧ MkR w' rb bs R.2 ∧ OnlyIn (RbS bs) w w'
section
variable (k : Conf) (ta pa : Option Addr) (tc pc mc rb : Nat) (bs : Nat → Nat) (w0 : World)
def MarkIH (n : Nat) : Prop := ∀ (m : Marks) (x : Wire) (w : World), x.Ok → zeros0 m 200 < n → MkR w rb bs m → Ext w0 w →
  Calls Try.prog 122 #[.agg #[.slice ta k.ts.length tc, .slice pa k.ps.length pc], .int .i64 x.1, .int .i64 x.2, .slice (some ⟨rb, 0, none⟩) 25 mc] w (MarkPost bs rb w (vis k n m x))
end
set_option maxHeartbeats 4000000 in
theorem l10Mark_c (k : Conf) (ta pa : Option Addr) (tc pc mc rb : Nat) (bs : Nat → Nat) (w0 : World) (hk : ConfAt w0 k ta pa) (hok : k.Ok) (r : Rbs w0 rb bs) : ∀ n, MarkIH k ta pa tc pc mc rb bs w0 n := by
 intro n
 induction n with
 | zero => intro m x w _ hz; exact absurd hz (Nat.not_lt_zero _)
 | succ n ih =>
  intro m ⟨t, c⟩ w hx hz hM hE
  have IH := Lib.hid ih
  clear ih
  have ht := hx.1
  have hc := hx.2
  dsimp only at ht hc
  dsimp only
  have q0 := hM.row t ht
  have q1 := hM.cell ht hc
  have rl := hM.rbl
  have bl := hM.bl ht
  by_cases h0 : m (Wire.ix (t, c)) = 0
  ·have h0' : m (t * 8 + c) = 0 := h0
   have hzd := zeros0_dec m (t * 8 + c) 1 (by decide) h0' 200 (by omega)
   obtain ⟨b, o, rfl, hb, hcc⟩ := hk.ts.get (by rw [hok.lt]; omega)
   obtain ⟨sa, sc, da, dc, p0, p1, p2, p3, hsl, hdr⟩ := hcc t (by rw [hok.lt]; omega)
   have hot := tileB_iff.1 (hok.ts t ht)
   have hdv := hok.drv hx
   have hsel := hok.sel ht
   have hnbr := fun h2 h5 => hok.nb hx h2 h5
   have hneed : needW k (t, c) = if 2 ≤ drvAt k (t, c) ∧ drvAt k (t, c) ≤ 5 then [((nbV t (drvAt k (t, c))).toNat, c)] else if drvAt k (t, c) = 1 ∧ (tileAt k t).rg = false then selW t (tileAt k t).sl else [] := rfl
   obtain ⟨b2, o2, rfl, hb2, hd2⟩ := hdr.get (by rw [hot.ld]; omega)
   have p4 := hd2 c (by rw [hot.ld]; omega)
   have hss : ∀ j, j < 3 → trackB ((tileAt k t).sl.getD j 0) = true := hot.ss
   have ls := hot.ls
   have ld := hot.ld
   obtain ⟨d, hd⟩ : ∃ d, d = drvAt k (t, c) := ⟨_, rfl⟩
   have hd' : (tileAt k t).dr.getD c 0 = d := hd.symm
   have e1 : k.ts.getD t tile0 = tileAt k t := rfl
   rw [e1] at p0 p1 p2 p3 p4 hsl ls ld hd2
   rw [hd'] at p4
   have hdv2 : drvB t d = true := by rw [hd]; exact hdv
   rw [← hd] at hnbr hneed
   have hdlt := drv_lt hdv2
   clear hd hd' hcc hdr hot hdv hd2
   obtain ⟨x, hxx⟩ : ∃ x, x = tileAt k t := ⟨_, rfl⟩
   rw [← hxx] at p0 p1 p2 p3 hsl ls ld hsel hneed hss
   clear e1 hxx
   have lo := r.lo t ht
   have HL : Hid (k.ts.length = 25) := Lib.hid hok.lt
   obtain ⟨lt1, lt2⟩ : k.ts.length ≤ 25 ∧ 25 ≤ k.ts.length := by have := hok.lt; omega
   obtain ⟨ls1, ls2⟩ : x.sl.length ≤ 3 ∧ 3 ≤ x.sl.length := by omega
   obtain ⟨ld1, ld2⟩ : x.dr.length ≤ 8 ∧ 8 ≤ x.dr.length := by omega
   have ez := hE.size
   -- the marks, the boxes
   have y := Blk.at (w.setCell ⟨bs t, c, none⟩ (.int .i64 1)) [.slice (some ⟨b, o, none⟩) k.ts.length tc, .slice pa k.ps.length pc] 52 (B := w.heap.size) (by simp)
   have M1 := (hM.set r ht hc 1).ext ((Ext.refl _).alloc (.cells #[.slice (some ⟨b, o, none⟩) k.ts.length tc, .slice pa k.ps.length pc] 52))
   have G1 : OnlyIn (RbS bs) w ((w.setCell ⟨bs t, c, none⟩ (.int .i64 1)).alloc (.cells #[.slice (some ⟨b, o, none⟩) k.ts.length tc, .slice pa k.ps.length pc] 52)) := ((OnlyIn.refl w).setCell (p := ⟨bs t, c, none⟩) ⟨t, ht, rfl⟩ (.int .i64 1)).trans (OnlyIn.ofExt ((Ext.refl _).alloc _))
   have E1 := G1.extR r hE
   obtain ⟨V, hV⟩ : ∃ V, V = visL k n (needW k (t, c)) (upd m (t * 8 + c) 1) := ⟨_, rfl⟩
   have hvis : vis k (n + 1) m (t, c) = if V.1 then (true, upd V.2 (t * 8 + c) 2) else (false, V.2) := by
    have : V = visL k n (needW k (t, c)) (upd m (Wire.ix (t, c)) 1) := hV
    cases hVb : V with
    | mk bb mm =>
     rw [hVb] at this
     cases bb
     ·rw [vis_bad h0 this.symm]; rfl
     ·rw [vis_ok h0 this.symm]; rfl
   have HVIS := Lib.hid hvis
   rw [hneed] at hV
   have HV := Lib.hid hV
   have fz := (hM.blk t ht).frozen c
   have u1 : w.cell? ⟨bs t, c, none⟩ = some (.int .i64 0) := by rw [q1, h0']
   obtain ⟨R, hR⟩ : ∃ R, R = vis k (n + 1) m (t, c) := ⟨_, rfl⟩
   rw [← hR] at HVIS ⊢
   have HM := Lib.hid hM
   have HSS := Lib.hid hss
   have HNB := Lib.hid hnbr
   clear hV hvis hneed q1 h0 h0' hR hM hss hnbr hsel ls ld hdv2
   go_enter Try.func122, Try.ntmps122
   go_upto_region 4 with fail
   have zW : ((w.setCell ⟨bs t, c, none⟩ (.int .i64 1)).alloc (.cells #[.slice (some ⟨b, o, none⟩) k.ts.length tc, .slice pa k.ps.length pc] 52)).heap.size = w.heap.size + 1 := by simp
   generalize hW1 : (w.setCell ⟨bs t, c, none⟩ (.int .i64 1)).alloc (.cells #[.slice (some ⟨b, o, none⟩) k.ts.length tc, .slice pa k.ps.length pc] 52) = W1 at *
   replace p0 := ((ecell E1).1 b _ hb).trans p0
   replace p1 := ((ecell E1).1 b _ hb).trans p1
   replace p2 := ((ecell E1).1 b _ hb).trans p2
   replace p3 := ((ecell E1).1 b _ hb).trans p3
   replace p4 := ((ecell E1).1 b2 _ hb2).trans p4
   clear hW1 q0 u1 fz
   have hb2W := Nat.lt_of_lt_of_le hb2 E1.size
   have zW1 : w.heap.size < W1.heap.size := by omega
   have ZW := Lib.hid zW
   clear zW
   obtain ⟨B, hB⟩ : ∃ B, (decide (2 ≤ d) && decide (d ≤ 5)) = B := ⟨_, rfl⟩
   have y0 := y.cell (i := 0) rfl
   go_wp2_with fail
   refine (l1In_v d 2 5 B hB _).mono ?_
   rintro e w1 ⟨rfl, rfl⟩
   have HB := Lib.hid hB
   clear hB
   go_upto_if 46 with fail
   have yk := y.alloc (.cells #[.int .i64 x.tb, .slice sa x.sl.length sc, .bool x.rg, .slice (some ⟨b2, o2, none⟩) x.dr.length dc] 61)
   have yt := Blk.at W1 [.int .i64 x.tb, .slice sa x.sl.length sc, .bool x.rg, .slice (some ⟨b2, o2, none⟩) x.dr.length dc] 61 rfl
   have M2 := M1.ext ((Ext.refl W1).alloc (.cells #[.int .i64 x.tb, .slice sa x.sl.length sc, .bool x.rg, .slice (some ⟨b2, o2, none⟩) x.dr.length dc] 61))
   have G2 := G1.trans (OnlyIn.ofExt ((Ext.refl W1).alloc (.cells #[.int .i64 x.tb, .slice sa x.sl.length sc, .bool x.rg, .slice (some ⟨b2, o2, none⟩) x.dr.length dc] 61)))
   have E2 := E1.alloc (.cells #[.int .i64 x.tb, .slice sa x.sl.length sc, .bool x.rg, .slice (some ⟨b2, o2, none⟩) x.dr.length dc] 61)
   clear y M1 G1 E1 y0 p0 p1 p2 p3 p4
   generalize W1.alloc (.cells #[.int .i64 x.tb, .slice sa x.sl.length sc, .bool x.rg, .slice (some ⟨b2, o2, none⟩) x.dr.length dc] 61) = W2 at *
   go_cut [11] (fun sx wx => ∃ ok m2, sx = .bool ok ∧ Hid (V = if ok then visL k n (if B then [] else if d = 1 ∧ x.rg = false then selW t x.sl else []) m2 else (false, m2)) ∧ Hid (zeros0 m2 200 < n) ∧ MkR wx rb bs m2 ∧ Blk wx w.heap.size 52 [.slice (some ⟨b, o, none⟩) k.ts.length tc, .slice pa k.ps.length pc] ∧ Blk wx W1.heap.size 61 [.int .i64 x.tb, .slice sa x.sl.length sc, .bool x.rg, .slice (some ⟨b2, o2, none⟩) x.dr.length dc] ∧ OnlyIn (RbS bs) w wx)
   case first =>
    cases B
    ·go_wp2
     go_meet
     case rel =>
      have h2 : ¬ (2 ≤ d ∧ d ≤ 5) := by have := HB.out; simp at this; omega
      exact ⟨true, _, rfl, Lib.hid (by rw [HV.out, if_neg h2]; rfl), Lib.hid (by omega), M2, yk, yt, G2⟩
    ·have h2 : 2 ≤ d ∧ d ≤ 5 := by have := HB.out; simp at this; omega
     obtain ⟨h21, h22⟩ := h2
     obtain ⟨nb0, nb1⟩ := HNB.out h21 h22
     have NB := Lib.hid (fun w => l9Neighbour_c t ht d h21 h22 w)
     have hVV := HV.out
     rw [if_pos ⟨h21, h22⟩] at hVV
     obtain ⟨nb, hnb⟩ : ∃ nb : Nat, nbV t d = nb := ⟨(nbV t d).toNat, by omega⟩
     rw [hnb] at nb0 nb1 NB hVV
     rw [Int.toNat_natCast] at hVV
     have IHc := Lib.hid (IH.out (upd m (t * 8 + c) 1) (nb, c) W2.drew ⟨by dsimp only; omega, hc⟩ (by omega) (M2.ext (Ext.drew _)) (E2.drew'))
     obtain ⟨R2, hR2⟩ : ∃ R2, R2 = vis k n (upd m (t * 8 + c) 1) (nb, c) := ⟨_, rfl⟩
     rw [visL_cons, ← hR2] at hVV
     rw [← hR2] at IHc
     have hzR : zeros0 R2.2 200 < n := by have := vis_zeros k n (upd m (t * 8 + c) 1) (nb, c); rw [← hR2] at this; omega
     have HVV := Lib.hid hVV
     have HZR := Lib.hid hzR
     have c0 := yk.cell (i := 0) rfl
     have c1 := yk.cell (i := 1) rfl
     have cl := yk.lt
     obtain ⟨ok, m2⟩ := R2
     clear hVV hR2 hnb hzR
     go_wp2_with fail
     refine wp_regionT (fun w' => w'.cell? ⟨w.heap.size, 0, none⟩ = some (.slice (some ⟨b, o, none⟩) k.ts.length tc) ∧ w'.cell? ⟨w.heap.size, 1, none⟩ = some (.slice pa k.ps.length pc)) 6 (by kernel_rfl) ?_
     have hS0 := And.intro (a := W2.drew.cell? ⟨w.heap.size, 0, none⟩ = some (.slice (some ⟨b, o, none⟩) k.ts.length tc)) c0 c1
     ((refine tkT 0 (v := ?_) rfl (by kernel_rfl) (by kernel_rfl) ?_ (by assumption) ?_; rotate_left; (intro wS hSw; (try dsimp only at hSw); go_simp; (try with_reducible rfl)); (try simp only [Act.put, lA, lB, lC])); (refine tkT 1 (v := ?_) rfl (by kernel_rfl) (by kernel_rfl) ?_ (by assumption) ?_; rotate_left; (intro wS hSw; (try dsimp only at hSw); go_simp; (try with_reducible rfl)); (try simp only [Act.put, lA, lB, lC])); (refine tkT 2 (v := ?_) rfl (by kernel_rfl) (by kernel_rfl) ?_ (by assumption) ?_; rotate_left; (intro wS hSw; (try dsimp only at hSw); go_simp; (try with_reducible rfl)); (try simp only [Act.put, lA, lB, lC])); (refine tkT 4 (v := ?_) rfl (by kernel_rfl) (by kernel_rfl) ?_ (by assumption) ?_; rotate_left; (intro wS hSw; (try dsimp only at hSw); go_simp; (try with_reducible rfl)); (try simp only [Act.put, lA, lB, lC])); (refine tkT 5 (v := ?_) rfl (by kernel_rfl) (by kernel_rfl) ?_ (by assumption) ?_; rotate_left; (intro wS hSw; (try dsimp only at hSw); go_simp; (try with_reducible rfl)); (try simp only [Act.put, lA, lB, lC])))
     (refine wpAnyT_do 3 (by kernel_rfl) rfl (fun K hK => ?_))
     go_simp
     refine (NB.out _).mono ?_
     rintro e w3 ⟨rfl, rfl⟩
     (refine hK _ _ hS0 ?_; clear hK K; (try simp only [Act.put, lA, lB, lC]))
     (refine wpAnyT_doN 6 (by kernel_rfl) rfl (by decide) (fun K hK => ?_))
     go_simp
     refine IHc.out.mono ?_
     rintro e w4 ⟨rfl, M4, G4⟩
     (refine hK _ _ ?_; clear hK K; (try simp only [Act.put, lA, lB, lC]))
     (refine wpAnyT_last 7 (by kernel_rfl) rfl (by decide) (by kernel_rfl) (fun K hK => ?_))
     go_simp
     (refine hK _ _ ?_; clear hK K; (try simp only [Act.put, lA, lB, lC]))
     clear hS0 c0 c1
     have yk4 := (yk.ext (Ext.drew W2)).onlyR G4 (fun ⟨t', ht', hq⟩ => by have := HM.out.bl ht'; omega)
     have yt4 := (yt.ext (Ext.drew W2)).onlyR G4 (fun ⟨t', ht', hq⟩ => by have := HM.out.bl ht'; omega)
     have G5 := (G2.trans (OnlyIn.ofExt (Ext.drew W2))).trans G4
     go_wp2
     go_meet
     case rel =>
      refine ⟨ok, m2, rfl, Lib.hid ?_, HZR, M4, yk4, yt4, G5⟩
      rw [HVV.out]; cases ok <;> simp [visL_nil]
   case rest =>
    clear M2 yk yt G2 E2
    obtain ⟨ok, m2, rfl, hVo, hzo, M3, yk, yt, G3⟩ := hcut
    obtain ⟨W3, rfl⟩ : ∃ z : World, z = wc := ⟨_, rfl⟩
    have E3 := G3.extR r hE
    by_cases hD : d = 1 ∧ x.rg = false
    ·obtain ⟨hd1, hrg⟩ := hD
     have hB0 : B = false := by rw [← HB.out, hd1]; rfl
     have hV1 : V = if ok then visL k n (selW t (x.sl.drop 0)) m2 else (false, m2) := by
      have := hVo.out
      rw [hB0, if_neg (by decide : ¬ (false = true)), if_pos (show d = 1 ∧ x.rg = false from ⟨hd1, hrg⟩)] at this
      exact this
     have HV1 := Lib.hid hV1
     have hdd : (d == 1) = true := by simp [hd1]
     have HRG := Lib.hid hrg
     clear hVo hV1 hB0 HV HNB hrg hd1
     go_wp2_with fail
     go_loopw [11, 12] (fun u11 u12 wr => ∃ (j : Nat) (ok : Bool) (m2 : Marks), j ≤ 3 ∧ u12 = .int .i64 j ∧ u11 = .bool ok ∧ Hid (V = if ok then visL k n (selW t (x.sl.drop j)) m2 else (false, m2)) ∧ Hid (zeros0 m2 200 < n) ∧ MkR wr rb bs m2 ∧ Blk wr w.heap.size 52 [.slice (some ⟨b, o, none⟩) k.ts.length tc, .slice pa k.ps.length pc] ∧ Blk wr W1.heap.size 61 [.int .i64 x.tb, .slice sa x.sl.length sc, .bool x.rg, .slice (some ⟨b2, o2, none⟩) x.dr.length dc] ∧ OnlyIn (RbS bs) w wr) (fun _ i _ => 3 - (intOf i).toNat)
     case atStart => exact ⟨0, ok, m2, Nat.zero_le _, rfl, rfl, HV1, hzo, M3, yk, yt, G3⟩
     case round =>
      clear M3 yk yt G3 E3 HV1 hzo
      obtain ⟨j, ok, m2, hj, rfl, rfl, hVj, hzj, M3, yk, yt, G3⟩ := hrel
      have E3 := G3.extR r hE
      have t1 := yt.cell (i := 1) rfl
      have t2 := yt.cell (i := 2) rfl
      rw [HRG.out] at t2
      have tl := yt.lt
      by_cases hlt : j < 3
      ·obtain ⟨b3, o3, rfl, hb3, hc3⟩ := (hsl.ext E3).get (by omega)
       have q3 := hc3 j (by omega)
       have hjl : j < x.sl.length := by omega
       have hji : (j : Int) < (x.sl.length : Int) := by omega
       have htr := trackB_cases (HSS.out j hlt)
       have hdr : x.sl.drop j = x.sl.getD j 0 :: x.sl.drop (j + 1) := by
        rw [List.drop_eq_getElem_cons (by omega), List.getD_eq_getElem?_getD, List.getElem?_eq_getElem (by omega)]; rfl
       obtain ⟨s, hs⟩ : ∃ s, s = x.sl.getD j 0 := ⟨_, rfl⟩
       rw [← hs] at q3 htr hdr
       have hVV := hVj.out
       rw [hdr] at hVV
       clear hc3 hs hVj hdr
       by_cases h15 : s = 15
       ·have hne : (s != 15) = false := by simp [h15]
        rw [h15, selW_skip] at hVV
        have HVV := Lib.hid hVV
        clear hVV h15 htr
        go_wp2
        go_roundw
        case rel => exact ⟨j + 1, ok, m2, by omega, by go_num, rfl, HVV, hzj, M3, yk, yt, G3⟩
        case measure => simp [intOf]; omega
       ·have hne : (s != 15) = true := by simpa using h15
        obtain ⟨s0, s8⟩ : 0 ≤ s ∧ s < 8 := by omega
        rw [selW_take t _ h15] at hVV
        obtain ⟨w4, rfl⟩ : ∃ z : World, z = wr := ⟨_, rfl⟩
        cases ok
        ·have HVV : Hid (V = (false, m2)) := Lib.hid hVV
         clear hVV h15 htr
         go_wp2_with fail
         refine wp_regionT (fun w' => True) 12 (by kernel_rfl) ?_
         have hS0 : True := trivial
         ((refine tkT 0 (v := ?_) rfl (by kernel_rfl) (by kernel_rfl) ?_ (by assumption) ?_; rotate_left; (intro wS hSw; (try dsimp only at hSw); go_simp; (try with_reducible rfl)); (try simp only [Act.put, lA, lB, lC])); (refine tkT 1 (v := ?_) rfl (by kernel_rfl) (by kernel_rfl) ?_ (by assumption) ?_; rotate_left; (intro wS hSw; (try dsimp only at hSw); go_simp; (try with_reducible rfl)); (try simp only [Act.put, lA, lB, lC])))
         ((refine wpAnyT_take 2 (v := undef) rfl (by kernel_rfl) (fun _ _ _ h => h) (Or.inr ⟨by kernel_rfl, rfl⟩) (by assumption) ?_; (try simp only [Act.put, lA, lB, lC])); (refine wpAnyT_take 3 (v := undef) rfl (by kernel_rfl) (fun _ _ _ h => h) (Or.inr ⟨by kernel_rfl, rfl⟩) (by assumption) ?_; (try simp only [Act.put, lA, lB, lC])); (refine wpAnyT_take 4 (v := undef) rfl (by kernel_rfl) (fun _ _ _ h => h) (Or.inr ⟨by kernel_rfl, rfl⟩) (by assumption) ?_; (try simp only [Act.put, lA, lB, lC])); (refine wpAnyT_take 5 (v := undef) rfl (by kernel_rfl) (fun _ _ _ h => h) (Or.inr ⟨by kernel_rfl, rfl⟩) (by assumption) ?_; (try simp only [Act.put, lA, lB, lC])); (refine wpAnyT_take 6 (v := undef) rfl (by kernel_rfl) (fun _ _ _ h => h) (Or.inr ⟨by kernel_rfl, rfl⟩) (by assumption) ?_; (try simp only [Act.put, lA, lB, lC])); (refine wpAnyT_take 7 (v := undef) rfl (by kernel_rfl) (fun _ _ _ h => h) (Or.inr ⟨by kernel_rfl, rfl⟩) (by assumption) ?_; (try simp only [Act.put, lA, lB, lC])); (refine wpAnyT_take 8 (v := undef) rfl (by kernel_rfl) (fun _ _ _ h => h) (Or.inr ⟨by kernel_rfl, rfl⟩) (by assumption) ?_; (try simp only [Act.put, lA, lB, lC])); (refine wpAnyT_take 9 (v := undef) rfl (by kernel_rfl) (fun _ _ _ h => h) (Or.inr ⟨by kernel_rfl, rfl⟩) (by assumption) ?_; (try simp only [Act.put, lA, lB, lC])); (refine wpAnyT_take 10 (v := undef) rfl (by kernel_rfl) (fun _ _ _ h => h) (Or.inr ⟨by kernel_rfl, rfl⟩) (by assumption) ?_; (try simp only [Act.put, lA, lB, lC])))
         ((refine tkT 11 (v := ?_) rfl (by kernel_rfl) (by kernel_rfl) ?_ (by assumption) ?_; rotate_left; (intro wS hSw; (try dsimp only at hSw); go_simp; (try with_reducible rfl)); (try simp only [Act.put, lA, lB, lC])))
         (refine wpAnyT_last 12 (by kernel_rfl) rfl (by decide) (by kernel_rfl) (fun K hK => ?_))
         go_simp
         (refine hK _ _ ?_; clear hK K; (try simp only [Act.put, lA, lB, lC]))
         clear hS0
         go_wp2
         go_roundw
         case rel => exact ⟨j + 1, false, m2, by omega, by go_num, rfl, Lib.hid (by rw [HVV.out]; rfl), hzj, M3.ext (Ext.drew _), yk.ext (Ext.drew _), yt.ext (Ext.drew _), G3.trans (OnlyIn.ofExt (Ext.drew _))⟩
         case measure => simp [intOf]; omega
        ·obtain ⟨s', rfl⟩ : ∃ s' : Nat, s = s' := ⟨s.toNat, by omega⟩
         rw [Int.toNat_natCast] at hVV
         have hVV2 : V = visL k n ((t, s') :: selW t (x.sl.drop (j + 1))) m2 := hVV
         have IHc := Lib.hid (IH.out m2 (t, s') w4.drew ⟨ht, by dsimp only; omega⟩ hzj.out (M3.ext (Ext.drew _)) (E3.drew'))
         obtain ⟨R2, hR2⟩ : ∃ R2, R2 = vis k n m2 (t, s') := ⟨_, rfl⟩
         rw [visL_cons, ← hR2] at hVV2
         rw [← hR2] at IHc
         have hzR : zeros0 R2.2 200 < n := by have := vis_zeros k n m2 (t, s'); rw [← hR2] at this; have := hzj.out; omega
         have HVV := Lib.hid hVV2
         have HZR := Lib.hid hzR
         have c0 := yk.cell (i := 0) rfl
         have c1 := yk.cell (i := 1) rfl
         have cl := yk.lt
         obtain ⟨ok, m3⟩ := R2
         clear hVV hVV2 hR2 hzR h15 htr
         go_wp2_with fail
         refine wp_regionT (fun w' => w'.cell? ⟨w.heap.size, 0, none⟩ = some (.slice (some ⟨b, o, none⟩) k.ts.length tc) ∧ w'.cell? ⟨w.heap.size, 1, none⟩ = some (.slice pa k.ps.length pc) ∧ w'.cell? ⟨W1.heap.size, 1, none⟩ = some (.slice (some ⟨b3, o3, none⟩) x.sl.length sc) ∧ w'.cell? ⟨b3, o3 + j, none⟩ = some (.int .i64 s')) 10 (by kernel_rfl) ?_
         have hS0 := And.intro (a := w4.drew.cell? ⟨w.heap.size, 0, none⟩ = some (.slice (some ⟨b, o, none⟩) k.ts.length tc)) c0 (And.intro (a := w4.drew.cell? ⟨w.heap.size, 1, none⟩ = some (.slice pa k.ps.length pc)) c1 (And.intro (a := w4.drew.cell? ⟨W1.heap.size, 1, none⟩ = some (.slice (some ⟨b3, o3, none⟩) x.sl.length sc)) t1 (show w4.drew.cell? ⟨b3, o3 + j, none⟩ = some (.int .i64 s') from q3)))
         ((refine tkT 0 (v := ?_) rfl (by kernel_rfl) (by kernel_rfl) ?_ (by assumption) ?_; rotate_left; (intro wS hSw; (try dsimp only at hSw); go_simp; (try with_reducible rfl)); (try simp only [Act.put, lA, lB, lC])); (refine tkT 1 (v := ?_) rfl (by kernel_rfl) (by kernel_rfl) ?_ (by assumption) ?_; rotate_left; (intro wS hSw; (try dsimp only at hSw); go_simp; (try with_reducible rfl)); (try simp only [Act.put, lA, lB, lC])); (refine tkT 2 (v := ?_) rfl (by kernel_rfl) (by kernel_rfl) ?_ (by assumption) ?_; rotate_left; (intro wS hSw; (try dsimp only at hSw); go_simp; (try with_reducible rfl)); (try simp only [Act.put, lA, lB, lC])); (refine tkT 3 (v := ?_) rfl (by kernel_rfl) (by kernel_rfl) ?_ (by assumption) ?_; rotate_left; (intro wS hSw; (try dsimp only at hSw); go_simp; (try with_reducible rfl)); (try simp only [Act.put, lA, lB, lC])); (refine tkT 4 (v := ?_) rfl (by kernel_rfl) (by kernel_rfl) ?_ (by assumption) ?_; rotate_left; (intro wS hSw; (try dsimp only at hSw); go_simp; (try with_reducible rfl)); (try simp only [Act.put, lA, lB, lC])); (refine tkT 5 (v := ?_) rfl (by kernel_rfl) (by kernel_rfl) ?_ (by assumption) ?_; rotate_left; (intro wS hSw; (try dsimp only at hSw); go_simp; (try with_reducible rfl)); (try simp only [Act.put, lA, lB, lC])); (refine tkT 6 (v := ?_) rfl (by kernel_rfl) (by kernel_rfl) ?_ (by assumption) ?_; rotate_left; (intro wS hSw; (try dsimp only at hSw); go_simp; (try with_reducible rfl)); (try simp only [Act.put, lA, lB, lC])))
         ((refine tkT 7 (v := ?_) rfl (by kernel_rfl) (by kernel_rfl) ?_ (by assumption) ?_; rotate_left; (intro wS hSw; (try dsimp only at hSw); go_simp; (try with_reducible rfl)); (try simp only [Act.put, lA, lB, lC])); (refine tkT 8 (v := ?_) rfl (by kernel_rfl) (by kernel_rfl) ?_ (by assumption) ?_; rotate_left; (intro wS hSw; (try dsimp only at hSw); go_simp; (try with_reducible rfl)); (try simp only [Act.put, lA, lB, lC])); (refine tkT 9 (v := ?_) rfl (by kernel_rfl) (by kernel_rfl) ?_ (by assumption) ?_; rotate_left; (intro wS hSw; (try dsimp only at hSw); go_simp; (try with_reducible rfl)); (try simp only [Act.put, lA, lB, lC])))
         (refine wpAnyT_doN 10 (by kernel_rfl) rfl (by decide) (fun K hK => ?_))
         go_simp
         refine IHc.out.mono ?_
         rintro e w5 ⟨rfl, M4, G4⟩
         (refine hK _ _ ?_; clear hK K; (try simp only [Act.put, lA, lB, lC]))
         (refine wpAnyT_doN 11 (by kernel_rfl) rfl (by decide) (fun K hK => ?_))
         go_simp
         (refine hK _ _ ?_; clear hK K; (try simp only [Act.put, lA, lB, lC]))
         (refine wpAnyT_last 12 (by kernel_rfl) rfl (by decide) (by kernel_rfl) (fun K hK => ?_))
         go_simp
         (refine hK _ _ ?_; clear hK K; (try simp only [Act.put, lA, lB, lC]))
         clear hS0 c0 c1
         have yk4 := (yk.ext (Ext.drew w4)).onlyR G4 (fun ⟨t', ht', hq⟩ => by have := HM.out.bl ht'; omega)
         have yt4 := (yt.ext (Ext.drew w4)).onlyR G4 (fun ⟨t', ht', hq⟩ => by have := HM.out.bl ht'; omega)
         have G5 := (G3.trans (OnlyIn.ofExt (Ext.drew w4))).trans G4
         go_wp2
         go_roundw
         case rel => exact ⟨j + 1, ok, m3, by omega, by go_num, rfl, HVV, HZR, M4, yk4, yt4, G5⟩
         case measure => simp [intOf]; omega
      ·have hj3 : j = 3 := by omega
       subst hj3
       have hV3 : V = (ok, m2) := by
        rw [hVj.out, List.drop_of_length_le (by omega), selW_nil, visL_nil]; cases ok <;> rfl
       have HV3 := Lib.hid hV3
       clear hV3 hVj
       cases ok
       ·have hRR : R = (false, m2) := by rw [HVIS.out, HV3.out]; rfl
        subst hRR
        go_wp2

        go_ret
        exact ⟨rfl, M3, G3⟩
       ·have hRR : R = (true, upd m2 (t * 8 + c) 2) := by rw [HVIS.out, HV3.out]; rfl
        subst hRR
        have q0 := M3.row t ht
        have q1 := M3.cell ht hc
        have fz := (M3.blk t ht).frozen c
        have rl := M3.rbl
        have bl := M3.bl ht
        have M9 := Lib.hid (M3.set r ht hc 2)
        have G9 := Lib.hid (G3.setCell (p := ⟨bs t, c, none⟩) ⟨t, ht, rfl⟩ (.int .i64 2))
        clear HVIS
        go_wp2
        go_ret
        exact ⟨rfl, M9.out, G9.out⟩
    ·have hV1 : V = (ok, m2) := by
      rw [hVo.out]
      cases B
      ·rw [if_neg (by decide : ¬ (false = true)), if_neg hD, visL_nil]; cases ok <;> rfl
      ·rw [if_pos rfl, visL_nil]; cases ok <;> rfl
     have HV3 := Lib.hid hV1
     have t2 := yt.cell (i := 2) rfl
     have tl := yt.lt
     have hcs : (d == 1) = false ∨ ((d == 1) = true ∧ x.rg = true) := by
      by_cases h1 : d = 1
      ·right; refine ⟨by simp [h1], ?_⟩
       cases hr : x.rg
       ·exact absurd ⟨h1, hr⟩ hD
       ·rfl
      ·left; simp [h1]
     clear hVo hV1 hD HV HNB
     go_wp2_with fail
     go_loopw [11, 12] (fun u11 u12 wr => u11 = .bool ok ∧ u12 = .int .i64 0 ∧ wr = W3) (fun _ _ _ => 0)
     case atStart => exact ⟨rfl, rfl, rfl⟩
     case round =>
      obtain ⟨rfl, rfl, rfl⟩ := hrel
      rcases hcs with hdd | ⟨hdd, hrg⟩
      ·clear t2 tl
       cases ok
       ·have hRR : R = (false, m2) := by rw [HVIS.out, HV3.out]; rfl
        subst hRR
        go_wp2
        go_ret
        exact ⟨rfl, M3, G3⟩
       ·have hRR : R = (true, upd m2 (t * 8 + c) 2) := by rw [HVIS.out, HV3.out]; rfl
        subst hRR
        have q0 := M3.row t ht
        have q1 := M3.cell ht hc
        have fz := (M3.blk t ht).frozen c
        have rl := M3.rbl
        have bl := M3.bl ht
        have M9 := Lib.hid (M3.set r ht hc 2)
        have G9 := Lib.hid (G3.setCell (p := ⟨bs t, c, none⟩) ⟨t, ht, rfl⟩ (.int .i64 2))
        clear HVIS
        go_wp2
        go_ret
        exact ⟨rfl, M9.out, G9.out⟩
      ·rw [hrg] at t2
       cases ok
       ·have hRR : R = (false, m2) := by rw [HVIS.out, HV3.out]; rfl
        subst hRR
        go_wp2
        go_ret
        exact ⟨rfl, M3, G3⟩
       ·have hRR : R = (true, upd m2 (t * 8 + c) 2) := by rw [HVIS.out, HV3.out]; rfl
        subst hRR
        have q0 := M3.row t ht
        have q1 := M3.cell ht hc
        have fz := (M3.blk t ht).frozen c
        have rl := M3.rbl
        have bl := M3.bl ht
        have M9 := Lib.hid (M3.set r ht hc 2)
        have G9 := Lib.hid (G3.setCell (p := ⟨bs t, c, none⟩) ⟨t, ht, rfl⟩ (.int .i64 2))
        clear HVIS
        go_wp2
        go_ret
        exact ⟨rfl, M9.out, G9.out⟩
  ·rw [vis_seen h0]
   have h0' : m (t * 8 + c) ≠ 0 := h0
   obtain ⟨v, hv⟩ : ∃ v, v = m (t * 8 + c) := ⟨_, rfl⟩
   have hv2 : m (Wire.ix (t, c)) = v := hv.symm
   rw [hv2]
   rw [← hv] at q1 h0'
   have hne : (v != 0) = true := by simpa using h0'
   have HM := Lib.hid hM
   clear hv hv2 h0 hM h0'
   go_enter Try.func122, Try.ntmps122
   go_wp2
   go_ret
   exact ⟨rfl, HM.out.ext (by (repeat (first | with_reducible assumption | with_reducible exact Ext.refl _ | with_reducible refine Ext.drew' ?_ | with_reducible refine Ext.drewN' ?_ _ | with_reducible refine Ext.alloc ?_ _ | (with_reducible refine Ext.setNew ?_ (by first | exact Nat.le_refl _ | (simp; done) | (simp; omega) | omega) _)))), OnlyIn.ofExt (by (repeat (first | with_reducible assumption | with_reducible exact Ext.refl _ | with_reducible refine Ext.drew' ?_ | with_reducible refine Ext.drewN' ?_ _ | with_reducible refine Ext.alloc ?_ _ | (with_reducible refine Ext.setNew ?_ (by first | exact Nat.le_refl _ | (simp; done) | (simp; omega) | omega) _))))⟩
end Go.Proofs.Ytgialedmbmfejaa

namespace Go.Proofs.Ytgialedmbmfejaa
open Go.RowKit
set_option maxRecDepth 100000
set_option linter.unusedVariables false
set_option linter.unusedSimpArgs false
theorem tyRowsI : RowTy Try.prog 157 23 1 24 := RowTy.mk' (z := .slice none 0 0) Try.underlying157 (by kernel_rfl) rfl (by decide) (by decide)
def rowV (bs : Nat → Nat) (t : Nat) : Value := .slice (some ⟨bs t, 0, none⟩) 8 8
def rowsV (bs : Nat → Nat) (n : Nat) : List Value := (List.range n).map (rowV bs)
theorem rowsV_succ (bs : Nat → Nat) (n : Nat) : rowsV bs (n + 1) = rowsV bs n ++ [rowV bs n] := by simp [rowsV, List.range_succ]
theorem rowsV_congr {bs bs' : Nat → Nat} {n : Nat} (h : ∀ t, t < n → bs t = bs' t) : rowsV bs n = rowsV bs' n := by
 unfold rowsV
 apply List.map_congr_left
 intro t ht
 rw [List.mem_range] at ht
 unfold rowV; rw [h t ht]
/-- The rows that have been made so far. -/
structure MadeR (w wr : World) (v : Value) (bs : Nat → Nat) (n : Nat) : Prop where
 row : wr.ownsRow (w.heap.size + 1) 23 1 v n (rowsV bs n)
 blk : ∀ t, t < n → Blk wr (bs t) 3 ((List.replicate 8 (0 : Int)).map (Value.int .i64))
 lo : ∀ t, t < n → w.heap.size + 1 ≤ bs t
 inj : ∀ t t', t < n → t' < n → bs t = bs t' → t = t'
 off : ∀ t, t < n → v.ownBlock ≠ some (bs t)
theorem MadeR.app {w wr w1 w8 : World} {v v' : Value} {bs : Nat → Nat} {n : Nat} (h : MadeR w wr v bs n) (hE : Ext w wr) (hs : w.heap.size + 1 ≤ wr.heap.size) (e : Ext wr w1) (B : Nat) (hB : B = wr.heap.size) (hb : Blk w1 B 3 ((List.replicate 8 (0 : Int)).map (Value.int .i64)))
  (o8 : w8.ownsRow (w.heap.size + 1) 23 1 v' (n + 1) (rowsV bs n ++ [.slice (some ⟨B, 0, none⟩) 8 8])) (g8 : w1.grownBy w8 v.ownBlock) (m8 : RowMoved w1 v v') : ∃ bs', MadeR w w8 v' bs' (n + 1) := by
 refine ⟨fun t => if t = n then B else bs t, ?_, fun t ht => ?_, fun t ht => ?_, fun t t' ht ht' he => ?_, fun t ht => ?_⟩
 ·rw [rowsV_succ, rowsV_congr (bs' := bs) (fun t ht => by show (if t = n then B else bs t) = bs t; rw [if_neg (by omega)])]
  simpa [rowV] using o8
 ·have hl := h.row.lt
  by_cases e2 : t = n
  ·simp only [e2, if_true]
   exact hb.gr g8 (fun q => by have := (hl _ q).2; omega)
  ·simp only [e2, if_false]
   exact ((h.blk t (by omega)).ext e).gr g8 (h.off t (by omega))
 ·by_cases e2 : t = n
  ·simp only [e2, if_true]; omega
  ·simp only [e2, if_false]; exact h.lo t (by omega)
 ·by_cases e2 : t = n
  ·by_cases e3 : t' = n
   ·omega
   ·simp only [e2, e3, if_true, if_false] at he
    have := (h.blk t' (by omega)).lt; omega
  ·by_cases e3 : t' = n
   ·simp only [e2, e3, if_true, if_false] at he
    have := (h.blk t (by omega)).lt; omega
   ·simp only [e2, e3, if_false] at he
    exact h.inj t t' (by omega) (by omega) he
 ·intro q
  have hlt : (if t = n then B else bs t) < w1.heap.size := by
   by_cases e2 : t = n
   ·rw [if_pos e2]; exact hb.lt
   ·rw [if_neg e2]; exact ((h.blk t (by omega)).ext e).lt
  rcases m8 with m | ⟨k, hk, hlt2⟩
  ·rw [m] at q
   by_cases e2 : t = n
   ·simp only [e2, if_true] at q
    have := (h.row.lt _ q).2; omega
   ·simp only [e2, if_false] at q
    exact h.off t (by omega) q
  ·rw [hk] at q
   have := Option.some.inj q
   omega
theorem rowM_zero (t : Nat) : rowM mark0 t = (List.replicate 8 (0 : Int)).map (Value.int .i64) := rfl
set_option maxHeartbeats 4000000 in
theorem l10Acyclic_c (k : Conf) (ta pa : Option Addr) (tc pc : Nat) (w : World) (hk : ConfAt w k ta pa) (hok : k.Ok) :
  Calls Try.prog 97 #[.agg #[.slice ta k.ts.length tc, .slice pa k.ps.length pc]] w fun e w' => e = .returned (.bool (visL k 201 (wiresFrom 0) mark0).1) ∧ Ext w w' := by
 have hm := make8
 have y := (Blk.at w [.slice ta k.ts.length tc, .slice pa k.ps.length pc] 52 rfl).alloc (.cells #[] 23)
 obtain ⟨V, hV⟩ : ∃ V, V = visL k 201 (wiresFrom 0) mark0 := ⟨_, rfl⟩
 rw [← hV]
 have HV := Lib.hid hV
 clear hV
 have O0 : MadeR w ((w.alloc (.cells #[.slice ta k.ts.length tc, .slice pa k.ps.length pc] 52)).alloc (.cells #[] 23)) (.slice (some ⟨w.heap.size + 1, 0, none⟩) 0 0) (fun _ => 0) 0 :=
  ⟨(Blk.at (w.alloc (.cells #[.slice ta k.ts.length tc, .slice pa k.ps.length pc] 52)) [] 23 (B := w.heap.size + 1) (by simp)).owns (n := 0) (size := 1) rfl (Nat.le_refl _) (by decide), fun t ht => absurd ht (Nat.not_lt_zero _), fun t ht => absurd ht (Nat.not_lt_zero _), fun t t' ht => absurd ht (Nat.not_lt_zero _), fun t ht => absurd ht (Nat.not_lt_zero _)⟩
 go_enter Try.func97, Try.ntmps97
 go_wp2_with fail
 go_loopw [3, 4] (fun u3 u4 wr => ∃ (j : Nat) (bs : Nat → Nat), j ≤ 25 ∧ u4 = .int .i64 j ∧ MadeR w wr u3 bs j ∧ Blk wr w.heap.size 52 [.slice ta k.ts.length tc, .slice pa k.ps.length pc] ∧ Ext w wr) (fun _ i _ => 25 - (intOf i).toNat)
 case atStart => exact ⟨0, _, Nat.zero_le _, rfl, O0, y, by (repeat (first | with_reducible assumption | with_reducible exact Ext.refl _ | with_reducible refine Ext.drew' ?_ | with_reducible refine Ext.drewN' ?_ _ | with_reducible refine Ext.alloc ?_ _ | (with_reducible refine Ext.setNew ?_ (by first | exact Nat.le_refl _ | (simp; done) | (simp; omega) | omega) _)))⟩
 case round =>
  clear O0 y
  obtain ⟨j, bs, hj, rfl, hO, y, hE⟩ := hrel
  by_cases hlt : j < 25
  ·obtain ⟨w2, rfl⟩ : ∃ z : World, z = wr := ⟨_, rfl⟩
   have hz := y.lt
   have hb := Blk.at w2 ((List.replicate 8 (0 : Int)).map (Value.int .i64)) 3 rfl
   have A := (Ext.refl (w2.alloc (.cells ((List.replicate 8 (0 : Int)).map (Value.int .i64)).toArray 3))).alloc (.cells #[.slice (some ⟨w2.heap.size, 0, none⟩) 8 8] 23)
   have A2 : Ext w2 _ := ((Ext.refl w2).alloc (.cells ((List.replicate 8 (0 : Int)).map (Value.int .i64)).toArray 3)).trans A
   go_wp2_with (at_builtin; go_loud (refine wpList_app tyRowsI (ownsRow_ext hO.row A2) (rowAtN (w2.alloc (.cells ((List.replicate 8 (0 : Int)).map (Value.int .i64)).toArray 3)) #[.slice (some ⟨w2.heap.size, 0, none⟩) 8 8] _ (B := w2.heap.size + 1) (by simp)) rfl (by simp [Value.oneCell']) (by omega) (by simp; omega) rfl rfl rfl rfl ?_); intro v8 w8 o8 g8 m8)
   go_roundw
   case rel =>
    obtain ⟨bs', h'⟩ := hO.app hE (by omega) A2 w2.heap.size rfl (hb.ext A) o8 g8 m8
    exact ⟨j + 1, bs', by omega, by go_num, h', (y.ext A2).gr g8 (fun q => by have := (hO.row.lt _ q).1; omega), ext_grown (hE.trans A2) g8 (fun k hk => by have := (hO.row.lt _ hk).1; omega)⟩
   case measure => simp [intOf]; omega
  ·have hj2 : j = 25 := by omega
   have hO : MadeR w wr u3 bs 25 := by rw [← hj2]; exact hO
   have hjI : ¬ (j : Int) < 25 := by omega
   clear hj2
   obtain ⟨rc0, rc1, rfl, _⟩ := ownsRow_row hO.row
   obtain ⟨rb, rfl, hrb, hrl⟩ := ownsRow_block hO.row (by decide)
   have r : Rbs w rb bs := ⟨fun t ht => by have := hO.lo t ht; omega, hO.inj, fun t ht e => hO.off t ht (by rw [e]; rfl)⟩
   have M0 : MkR wr rb bs mark0 := ⟨fun t ht => ownsRow_cell hO.row (by simp [rowsV, ht, rowV]), fun t ht => by rw [rowM_zero]; exact hO.blk t ht⟩
   have hbx : ∀ t, t < 25 → w.heap.size + 1 ≤ bs t := hO.lo
   have HBX := Lib.hid hbx
   have T1 := Lib.hid (l10Mark_c k ta pa tc pc rc1 rb bs w hk hok r 201)
   clear hO hbx hlt
   obtain ⟨w2, rfl⟩ : ∃ z : World, z = wr := ⟨_, rfl⟩
   go_wp2_with fail
   go_loopw [5] (fun u5 wr => ∃ (i : Nat) (m : Marks), i ≤ 25 ∧ u5 = .int .i64 i ∧ Hid (V = visL k 201 (wiresFrom (i * 8)) m) ∧ MkR wr rb bs m ∧ Blk wr w.heap.size 52 [.slice ta k.ts.length tc, .slice pa k.ps.length pc] ∧ Ext w wr) (fun i _ => 25 - (intOf i).toNat)
   case atStart => exact ⟨0, mark0, Nat.zero_le _, rfl, HV, M0, y, hE⟩
   case round =>
    clear M0 y hE HV
    obtain ⟨i, m, hi, rfl, hVi, M0, y, hE⟩ := hrel
    by_cases hlt : i < 25
    ·obtain ⟨w2, rfl⟩ : ∃ z : World, z = wr := ⟨_, rfl⟩
     have hiI : (i : Int) < 25 := by omega
     go_wp2_with fail
     go_loopw [6] (fun u6 wr => ∃ (c : Nat) (m : Marks), c ≤ 8 ∧ u6 = .int .i64 c ∧ Hid (V = visL k 201 (wiresFrom (i * 8 + c)) m) ∧ MkR wr rb bs m ∧ Blk wr w.heap.size 52 [.slice ta k.ts.length tc, .slice pa k.ps.length pc] ∧ Ext w wr) (fun i _ => 8 - (intOf i).toNat)
     case atStart => exact ⟨0, m, Nat.zero_le _, rfl, hVi, M0, y, hE⟩
     case round =>
      clear M0 y hE hVi
      obtain ⟨c, m, hc, rfl, hVi, M0, y, hE⟩ := hrel
      by_cases hc8 : c < 8
      ·have c0 := y.cell (i := 0) rfl
       have c1 := y.cell (i := 1) rfl
       have cl := y.lt
       have hcall := T1.out m (i, c) wr ⟨hlt, hc8⟩ (by have := zeros0_le m 200; omega) M0 hE
       have hVV := hVi.out
       have hwf : wireOf (i * 8 + c) = (i, c) := by simp only [wireOf]; congr 1 <;> omega
       rw [wiresFrom_cons (by omega), hwf, visL_cons] at hVV
       obtain ⟨R, hR⟩ : ∃ R, R = vis k 201 m (i, c) := ⟨_, rfl⟩
       rw [← hR] at hVV hcall
       obtain ⟨ok, m2⟩ := R
       have HVV := Lib.hid hVV
       have HC := Lib.hid hcall
       clear hVV hR hcall hwf hVi
       go_wp2_with fail
       refine HC.out.mono ?_
       rintro e w3 ⟨rfl, M3, G3⟩
       have y3 := y.onlyR G3 (fun ⟨t', ht', hq⟩ => by have := HBX.out t' ht'; omega)
       have E3 := G3.extR r hE
       cases ok
       ·have hVf : V = (false, m2) := HVV.out
        subst hVf
        go_wp2
        go_ret
        exact ⟨rfl, E3⟩
       ·have hVf : V = visL k 201 (wiresFrom (i * 8 + (c + 1))) m2 := HVV.out
        have HVF := Lib.hid hVf
        clear hVf c0 c1 cl
        go_wp2_with fail
        go_roundw
        case rel => exact ⟨c + 1, m2, by omega, by go_num, HVF, M3, y3, E3⟩
        case measure => simp [intOf]; omega
      ·have hc9 : c = 8 := by omega
       subst hc9
       have hVf : V = visL k 201 (wiresFrom ((i + 1) * 8)) m := by rw [hVi.out]; congr 2; omega
       have HVF := Lib.hid hVf
       clear hVf hVi
       go_wp2
       go_roundw
       case rel => exact ⟨i + 1, m, by omega, by go_num, HVF, M0, y, hE⟩
       case measure => simp [intOf]; omega
    ·have hi2 : i = 25 := by omega
     subst hi2
     have hVf : V = (true, m) := by rw [hVi.out, show 25 * 8 = 200 from rfl, wiresFrom_end, visL_nil]
     subst hVf
     go_wp2
     go_ret
     exact ⟨rfl, hE⟩
set_option maxHeartbeats 1000000 in
theorem specConfigAcyclic_c (k : Conf) (ta pa : Option Addr) (tc pc : Nat) (w : World) (hk : ConfAt w k ta pa) :
  Calls Try.prog 49 #[.agg #[.slice ta k.ts.length tc, .slice pa k.ps.length pc]] w fun e w' => e = .returned (.bool (acyV k)) ∧ Ext w w' := by
 have y := Blk.at w [.slice ta k.ts.length tc, .slice pa k.ps.length pc] 52 rfl
 have Ey : Ext w (w.alloc (.cells #[.slice ta k.ts.length tc, .slice pa k.ps.length pc] 52)) := (Ext.refl w).alloc _
 have T1 := Lib.hid (specConfigValid_c k ta pa tc pc)
 have HA : Hid (acyV k = (confB k && (visL k 201 (wiresFrom 0) mark0).1)) := Lib.hid rfl
 obtain ⟨A, hA⟩ : ∃ A, A = acyV k := ⟨_, rfl⟩
 rw [← hA] at HA ⊢
 clear hA
 cases hb : confB k
 ·rw [hb] at T1 HA
  have hf : A = false := HA.out
  subst hf
  clear hb HA
  go_enter Try.func49, Try.ntmps49
  go_wp2_with fail
  refine (T1.out _ (hk.ext Ey)).mono ?_
  rintro e w1 ⟨rfl, hE1⟩
  go_wp2
  go_ret
  exact ⟨rfl, Ey.trans hE1⟩
 ·rw [hb] at T1 HA
  have T2 := Lib.hid (fun w hk => l10Acyclic_c k ta pa tc pc w hk (confB_iff.1 hb))
  have hf : A = (visL k 201 (wiresFrom 0) mark0).1 := HA.out
  rw [← hf] at T2
  clear hb HA hf
  go_enter Try.func49, Try.ntmps49
  go_wp2_with fail
  refine (T1.out _ (hk.ext Ey)).mono ?_
  rintro e w1 ⟨rfl, hE1⟩
  have y1 := y.ext hE1
  have c0 := y1.cell (i := 0) rfl
  have c1 := y1.cell (i := 1) rfl
  have cl := y1.lt
  go_wp2_with fail
  refine (T2.out _ (hk.ext (Ey.trans hE1))).mono ?_
  rintro e w2 ⟨rfl, hE2⟩
  go_wp2
  go_ret
  exact ⟨rfl, (Ey.trans hE1).trans hE2⟩
end Go.Proofs.Ytgialedmbmfejaa

