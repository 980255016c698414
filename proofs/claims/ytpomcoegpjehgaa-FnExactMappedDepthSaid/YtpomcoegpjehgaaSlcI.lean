/- Contracts of the library's functions that the program's cuts call: Sort, Compact, Grow, Concat, Equal. -/
import Derived.Test.YtpomcoegpjehgaaLay
import Derived.Test.YtpomcoegpjehgaaCutT
import Derived.Test.YtpomcoegpjehgaaMrgS
import Derived.Shelf.Slices.In.SortNone
import Derived.Lib.OwnBridge
import Derived.Lib.AppendZeros
import Derived.Outline
namespace Go.Proofs.Ytpomcoegpjehgaa
open Go.RowKit Go.Sort
set_option maxRecDepth 100000
set_option linter.unusedVariables false
set_option linter.unusedSimpArgs false
def sortV (xs : List Int) : List Int := xs.mergeSort fun x y => decide (x ≤ y)
theorem sortV_length (xs : List Int) : (sortV xs).length = xs.length := List.length_mergeSort xs
theorem gr_putRow {w : World} {g q : Nat} {os : Array Obj} (d : Array Int) : w.grownBy (grow (putRow (Value.int .i64) (Sort.ahead w q) g 0 d) os) (some g) := by
  refine ⟨rfl, rfl, rfl, by simp, fun k hk hne => ?_⟩
  rw [heap_grow_old _ _ (by simpa using hk)]
  have : g ≠ k := fun e => hne (by rw [e])
  simp [putRow, mapBlock, Sort.ahead, Array.getElem?_modify, this]
theorem own_putRow {w : World} {b g n cap q k : Nat} {os : Array Obj} {zs ys : List Int} (h : w.ownsRow b 3 1 (.slice (some ⟨g, 0, none⟩) n cap) n (zs.map (Value.int .i64))) (hy : ys.length = n) (hk : k ≤ n) :
    (grow (putRow (Value.int .i64) (Sort.ahead w q) g 0 ys.toArray) os).ownsRow b 3 1 (.slice (some ⟨g, 0, none⟩) k cap) k ((ys.take k).map (Value.int .i64)) := by
  have h1 := Lib.ownsRow_putRow (q := q) h hy hk
  refine ownsRow_keep h1 (fun x hx => heap_grow_old _ _ ?_)
  exact (World.ownsRow.lt h1 x hx).2
theorem sort_c (b : Nat) (v : Value) (xs : List Int) (w : World) (h : OwnInts w b 3 v xs) (hl : xs.length ≤ 1000) :
    Calls Try.prog 100 #[v] w fun e w' => e = .returned (.tuple #[]) ∧ OwnInts w' b 3 v (sortV xs) ∧ w.grownBy w' v.ownBlock := by
  by_cases hv : v = .slice none 0 0
  · subst hv
    have hx : xs = [] := by
      obtain ⟨a, c, e, _⟩ := own_sl h
      cases hxs : xs with
      | nil => rfl
      | cons x xs => rw [hxs] at e; simp at e
    subst hx
    refine (Any.slices_Sort_int_none Try.laysSort none 0 w).mono ?_
    rintro e w' ⟨rfl, rfl⟩
    exact ⟨rfl, by simp only [sortV, List.mergeSort_nil]; exact ownsRow_nil, Gr.refl _ _⟩
  · obtain ⟨g, cap, rfl, hb, hg, hnc, hcm, hn, hH⟩ := Lib.holds_of_ownsRow h hv
    refine (Any.slices_Sort_int Try.laysSort g 0 cap xs w hH hg (by omega)).mono ?_
    rintro e w' ⟨rfl, n, os, rfl⟩
    refine ⟨rfl, ?_, gr_putRow _⟩
    have := own_putRow (q := n) (os := os) (k := xs.length) (ys := sortV xs) h (sortV_length xs) (Nat.le_refl _)
    rw [← sortV_length xs, List.take_length, sortV_length] at this
    unfold OwnInts
    rw [sortV_length]
    exact this
theorem compact_c (b : Nat) (v : Value) (xs : List Int) (w : World) (h : OwnInts w b 3 v xs) (hl : xs.length ≤ 1000) :
    Calls Try.prog 101 #[v] w fun e w' => ∃ v', e = .returned v' ∧ v'.ownBlock = v.ownBlock ∧ OwnInts w' b 3 v' (Lib.compact xs) ∧ w.grownBy w' v.ownBlock := by
  by_cases hv : v = .slice none 0 0
  · subst hv
    have hx : xs = [] := by
      obtain ⟨a, c, e, _⟩ := own_sl h
      cases hxs : xs with
      | nil => rfl
      | cons x xs => rw [hxs] at e; simp at e
    subst hx
    refine (Any.slices_Compact_int_empty Try.laysCompact none 0 w).mono ?_
    rintro e w' ⟨rfl, rfl⟩
    exact ⟨_, rfl, rfl, ownsRow_nil, Gr.refl _ _⟩
  · obtain ⟨g, cap, rfl, hb, hg, hnc, hcm, hn, hH⟩ := Lib.holds_of_ownsRow h hv
    refine (Any.slices_Compact_int Try.laysCompact g 0 cap xs w hH (by omega) hnc).mono ?_
    rintro e w' ⟨rfl, q, rfl⟩
    have hle := Lib.compact_length_le xs
    have hg0 := gr_putRow (w := w) (g := g) (q := q) (os := #[]) (Lib.compact xs ++ List.replicate (xs.length - (Lib.compact xs).length) 0).toArray
    have := own_putRow (q := q) (os := #[]) (k := (Lib.compact xs).length) (ys := Lib.compact xs ++ List.replicate (xs.length - (Lib.compact xs).length) 0) h (by simp; omega) hle
    rw [grow_empty] at hg0 this
    rw [List.take_left] at this
    exact ⟨_, rfl, rfl, this, hg0⟩
/-- The sorted elements of two ascending lists, each once: their union. -/
theorem mem_compact {xs : List Int} {x : Int} : x ∈ Lib.compact xs ↔ x ∈ xs := by
  unfold Lib.compact Lib.compactUpTo
  constructor
  · intro h
    obtain ⟨i, hi, rfl⟩ := List.mem_map.1 h
    have hi' : i < xs.length := List.mem_range.1 (List.mem_filter.1 hi).1
    simp [getElem!_pos, hi']
  · intro h
    obtain ⟨i, hi, rfl⟩ := List.mem_iff_getElem.1 h
    refine List.mem_map.2 ?_
    have key : ∀ n i, i ≤ n → (hi : i < xs.length) → ∃ k, k ∈ (List.range xs.length).filter (Lib.keeps xs.toArray) ∧ xs.toArray[k]! = xs[i] := by
      intro n
      induction n with
      | zero =>
        intro i hi0 hi
        have : i = 0 := by omega
        subst this
        exact ⟨0, List.mem_filter.2 ⟨List.mem_range.2 hi, by simp [Lib.keeps]⟩, by simp [getElem!_pos, hi]⟩
      | succ n ih =>
        intro i hin hi
        by_cases h0 : i = 0
        · subst h0
          exact ⟨0, List.mem_filter.2 ⟨List.mem_range.2 hi, by simp [Lib.keeps]⟩, by simp [getElem!_pos, hi]⟩
        · by_cases he : xs.toArray[i]! = xs.toArray[i - 1]!
          · obtain ⟨k, hk, hk2⟩ := ih (i - 1) (by omega) (by omega)
            refine ⟨k, hk, ?_⟩
            have hp : i - 1 < xs.length := by omega
            simp [getElem!_pos, hi, hp] at he hk2 ⊢
            rw [he]; exact hk2
          · exact ⟨i, List.mem_filter.2 ⟨List.mem_range.2 hi, Lib.keeps_pos he⟩, by simp [getElem!_pos, hi]⟩
    obtain ⟨k, hk, hk2⟩ := key i i (Nat.le_refl _) hi
    exact ⟨k, hk, hk2⟩
theorem asc_compact {xs : List Int} (h : xs.Pairwise (· ≤ ·)) : Asc (Lib.compact xs) := by
  unfold Asc Lib.compact Lib.compactUpTo
  rw [List.pairwise_map]
  have hp : ((List.range xs.length).filter (Lib.keeps xs.toArray)).Pairwise (· < ·) := List.Pairwise.filter _ (List.pairwise_lt_range)
  refine List.Pairwise.imp_of_mem ?_ hp
  intro i j hi hj hij
  have hj2 : j < xs.length := List.mem_range.1 (List.mem_filter.1 hj).1
  have hi2 : i < xs.length := by omega
  have hk := (List.mem_filter.1 hj).2
  simp only [Lib.keeps, decide_eq_true_eq] at hk
  have hk2 : xs.toArray[j]! ≠ xs.toArray[j - 1]! := by
    rcases hk with h | h
    · omega
    · exact h
  have hm : j - 1 < xs.length := by omega
  have le : ∀ a b (ha : a < xs.length) (hb : b < xs.length), a ≤ b → xs[a] ≤ xs[b] := by
    intro a b ha hb hab
    rcases Nat.lt_or_ge a b with h1 | h1
    · exact List.pairwise_iff_getElem.1 h a b ha hb h1
    · have : a = b := by omega
      subst this; exact Int.le_refl _
  have e1 := le i (j - 1) hi2 hm (by omega)
  have e2 := le (j - 1) j hm hj2 (by omega)
  simp [getElem!_pos, hi2, hj2, hm] at hk2 ⊢
  omega
theorem compact_mrg {x y : List Int} (hx : Asc x) (hy : Asc y) : Lib.compact (sortV (x ++ y)) = mrg x y := by
  have hs : (sortV (x ++ y)).Pairwise (· ≤ ·) := by
    have := List.pairwise_mergeSort (le := fun (a b : Int) => decide (a ≤ b)) (by intro a b c; simp; omega) (by intro a b; simp; omega) (x ++ y)
    exact this.imp (by intro a b h; simpa using h)
  refine asc_ext (asc_compact hs) (asc_mrg hx hy) (fun z => ?_)
  rw [mem_compact, mem_mrg]
  have := (List.mergeSort_perm (x ++ y) (fun (a b : Int) => decide (a ≤ b))).mem_iff (a := z)
  unfold sortV
  rw [this, List.mem_append]
theorem growNil_c (n : Nat) (w : World) (hn : n ≤ 1000) :
    Calls Try.prog 114 #[.slice none 0 0, .int .i64 n] w (GiveNL w []) := by
  rcases Nat.eq_zero_or_pos n with rfl | h0
  · go_enter Try.func114, Try.ntmps114
    go_wp2
    go_ret
    exact ⟨_, rfl, ownsRow_nil, Ext.refl _⟩
  · obtain ⟨i, hi, h1, h2, h3⟩ : ∃ i, Try.prog.info? 3 = some i ∧ i.zero = some (.int .i64 0) ∧ i.size = 1 ∧ i.bytes = 8 := by
      have := (show (Try.prog.info? 3).map (fun i => (i.zero, i.size, i.bytes)) = some (some (.int .i64 0), 1, 8) from by kernel_rfl)
      obtain ⟨i, hi, e⟩ := Option.map_eq_some_iff.1 this
      cases hz : i.zero <;> simp [hz] at e
      exact ⟨i, hi, by rw [hz, e.1], e.2.1, e.2.2⟩
    have h := Lib.run_append_nil_zeros (P := Try.prog) w 23 3 23 3 i (.int .i64 0) .i64 .i64 Try.underlying23 Try.underlying3 hi h1 n h0 (by omega) (by omega) (by rw [h3]; omega)
    go_enter Try.func114, Try.ntmps114
    go_wp2_with (at_builtin; refine Lib.wpList_append_run _ rfl _ _ _ _ rfl _ _ rfl rfl _ _ h ?_)
    go_ret
    have hge := grownCap_ge w n 0 3
    have hm : grownCap w n 0 3 ≤ maxLen := grownCap_le_maxLen w n 0 3 (by unfold maxLen; omega)
    refine ⟨_, rfl, ⟨rfl, .inr ⟨w.heap.size, grownCap w n 0 3, _, rfl, Nat.le_refl _, heap_alloc_new w _, Nat.zero_le _, hm, ?_, by simp⟩⟩, ((Ext.refl w).alloc _).trans (Ext.drew _)⟩
    simp [size_zeroCells]
    omega
theorem eq_getN0' {xs ys : List Int} (hl : xs.length = ys.length) (h : ∀ j, j < xs.length → xs.getD j 0 = ys.getD j 0) : xs = ys := by
  refine List.ext_getElem hl (fun j h1 h2 => ?_)
  have := h j h1
  rwa [List.getD_eq_getElem?_getD, List.getD_eq_getElem?_getD, List.getElem?_eq_getElem h1, List.getElem?_eq_getElem h2] at this
theorem sum_take_succ (xss : List (List Int)) (k : Nat) (hk : k < xss.length) : (xss.take (k + 1)).flatten = (xss.take k).flatten ++ xss.getD k [] := by
  rw [List.take_succ_eq_append_getElem hk, List.flatten_append, List.getD_eq_getElem?_getD, List.getElem?_eq_getElem hk]
  simp
theorem flat_take_le (xss : List (List Int)) (k : Nat) : (xss.take k).flatten.length ≤ xss.flatten.length := by
  have : xss.flatten = (xss.take k).flatten ++ (xss.drop k).flatten := by rw [← List.flatten_append, List.take_append_drop]
  rw [this, List.length_append]; omega
/-- A row of slices of numbers, as it reads. -/
def IntssAt (w : World) (B : Nat) (xss : List (List Int)) : Prop := ∀ j, j < xss.length → ∃ aj cj, w.cell? ⟨B, j, none⟩ = some (.slice aj (xss.getD j []).length cj) ∧ IntsAt w aj (xss.getD j [])
theorem IntssAt.ext {w w' : World} {B : Nat} {xss : List (List Int)} (h : IntssAt w B xss) (hB : B < w.heap.size) (e : Ext w w') : IntssAt w' B xss := by
  intro j hj
  obtain ⟨aj, cj, h1, h2⟩ := h j hj
  exact ⟨aj, cj, by rw [(ecell e).1 B j hB]; exact h1, h2.ext e⟩
set_option maxHeartbeats 1000000 in
theorem concat_c (B cap : Nat) (xss : List (List Int)) (w : World) (h : IntssAt w B xss) (hB : B < w.heap.size) (hl : xss.length ≤ 100) (hs : xss.flatten.length ≤ 1000) :
    Calls Try.prog 99 #[.slice (some ⟨B, 0, none⟩) xss.length cap] w (GiveNL w xss.flatten) := by
  have HS := Lib.hid (flat_take_le xss)
  go_enter Try.func99, Try.ntmps99
  go_wp2_with fail
  go_loopw [3, 11] (fun u3 u11 wr => ∃ k m : Nat, k ≤ xss.length ∧ u11 = .int .i64 k ∧ u3 = .int .i64 m ∧ Hid (m = (xss.take k).flatten.length) ∧ Ext w wr) (fun _ i _ => xss.length - (intOf i).toNat)
  case atStart => exact ⟨0, 0, Nat.zero_le _, rfl, rfl, Lib.hid rfl, Ext.refl _⟩
  case round =>
    obtain ⟨k, m, hk, rfl, rfl, HM, hE⟩ := hrel
    have hfl : m ≤ 1000 := by have := HS.out k; rw [← HM.out] at this; omega
    by_cases hlt : k < xss.length
    · obtain ⟨aj, cj, q, hA⟩ := h.ext hB hE k hlt
      have hB2 := Nat.lt_of_lt_of_le hB hE.size
      have hst := sum_take_succ xss k hlt
      have hfl2 := HS.out (k + 1)
      obtain ⟨x, hx⟩ : ∃ x, x = xss.getD k [] := ⟨_, rfl⟩
      rw [← hx] at q hA hst
      have hst2 : (xss.take (k + 1)).flatten.length = m + x.length := by rw [hst, List.length_append, HM.out]
      rw [hst2] at hfl2
      have HST := Lib.hid hst2
      clear hst hst2 hx
      go_wp2_with fail
      go_roundw
      case rel => exact ⟨k + 1, m + x.length, by omega, by go_num, by go_num, Lib.hid HST.out.symm, hE⟩
      case measure => simp [intOf]; omega
    · have hk2 : k = xss.length := by omega
      subst hk2
      clear HM
      go_wp2_with fail
      refine (growNil_c m _ hfl).mono ?_
      rintro e w1 ⟨v1, rfl, hO1, hE1⟩
      have hb1 : wr.heap.size = wr.heap.size := rfl
      have hsz := hE.size
      go_wp2_with fail
      go_loopw [6, 27] (fun u6 u27 wr => ∃ k : Nat, k ≤ xss.length ∧ u27 = .int .i64 k ∧ OwnInts wr w.heap.size 3 u6 (xss.take k).flatten ∧ Ext w wr) (fun _ i _ => xss.length - (intOf i).toNat)
      case atStart => exact ⟨0, Nat.zero_le _, rfl, ownsRow_base hO1 hsz, hE.trans hE1⟩
      case round =>
        obtain ⟨k, hk, rfl, hO, hE3⟩ := hrel
        by_cases hlt2 : k < xss.length
        · obtain ⟨aj, cj, q, hA⟩ := h.ext hB hE3 k hlt2
          have hB2 := Nat.lt_of_lt_of_le hB hE3.size
          have hst := sum_take_succ xss k hlt2
          have hfl2 := HS.out (k + 1)
          obtain ⟨x, hx⟩ : ∃ x, x = xss.getD k [] := ⟨_, rfl⟩
          rw [← hx] at q hA hst
          obtain ⟨T, hT⟩ : ∃ T, T = (xss.take k).flatten := ⟨_, rfl⟩
          rw [← hT] at hst hO
          rw [hst, List.length_append] at hfl2
          have HST := Lib.hid hst
          have hob := fun q hq => (own_lo hO q hq).1
          have hor : wr.ownsRow w.heap.size 3 1 _ T.length (T.map (Value.int .i64)) := hO
          have hrA := hA.row
          have hsz3 := hE3.size
          obtain ⟨ta, tc, rfl, _⟩ := hO.opened
          clear hst hT hx
          go_wp2_with (at_builtin; refine wpList_app tyInts hor hrA (by rw [List.length_map, Nat.mul_one]) (oneCell_ints x) (by omega) (by omega) rfl rfl rfl rfl ?_; intro v9 w9 o9 g9 m9; obtain ⟨a9, c9, rfl, _⟩ := ownsRow_row o9)
          go_roundw
          case rel => exact ⟨k + 1, by omega, by go_num, by rw [HST.out]; exact own_app rfl rfl o9, ext_grown hE3 g9 hob⟩
          case measure => simp [intOf]; omega
        · have hk3 : k = xss.length := by omega
          subst hk3
          rw [List.take_length] at hO
          go_wp2_with fail
          go_ret
          exact ⟨_, rfl, hO, hE3⟩
theorem equalI_c (a b : Option Addr) (ca cb : Nat) (xs ys : List Int) (w : World) (hx : IntsAt w a xs) (hy : IntsAt w b ys) (lx : xs.length ≤ 1000) (ly : ys.length ≤ 1000) :
    Calls Try.prog 104 #[.slice a xs.length ca, .slice b ys.length cb] w fun e w' => e = .returned (.bool (decide (xs = ys))) ∧ Ext w w' := by
  obtain ⟨R, hR⟩ : ∃ R, R = decide (xs = ys) := ⟨_, rfl⟩
  rw [← hR]
  have HR := Lib.hid hR
  clear hR
  by_cases hl : xs.length = ys.length
  · have HL := Lib.hid hl
    have hne : ((xs.length : Int) != (ys.length : Int)) = false := by simp [hl]
    have hle : xs.length ≤ ys.length := by omega
    clear hl
    go_enter Try.func104, Try.ntmps104
    go_wp2_with fail
    go_loopw [13] (fun u wr => ∃ k : Nat, k ≤ xs.length ∧ u = .int .i64 k ∧ Hid (∀ j, j < k → xs.getD j 0 = ys.getD j 0) ∧ Ext w wr) (fun i _ => xs.length - (intOf i).toNat)
    case atStart => exact ⟨0, Nat.zero_le _, rfl, Lib.hid (fun j hj => absurd hj (Nat.not_lt_zero j)), Ext.refl _⟩
    case round =>
      obtain ⟨k, hk, rfl, HP, hE⟩ := hrel
      by_cases hlt : k < xs.length
      · obtain ⟨b1, o1, rfl, hb1, hc1⟩ := (hx.ext hE).get (by omega)
        obtain ⟨b2, o2, rfl, hb2, hc2⟩ := (hy.ext hE).get (by omega)
        have q1 := hc1 k hlt
        have q2 := hc2 k (by omega)
        have hlt2 : k < ys.length := by omega
        obtain ⟨x, hxx⟩ : ∃ x, x = xs.getD k 0 := ⟨_, rfl⟩
        obtain ⟨z, hzz⟩ : ∃ z, z = ys.getD k 0 := ⟨_, rfl⟩
        rw [← hxx] at q1
        rw [← hzz] at q2
        have HX := Lib.hid hxx
        have HZ := Lib.hid hzz
        clear hc1 hc2 hxx hzz
        by_cases he : x = z
        · have HE := Lib.hid he
          subst he
          go_wp2_with fail
          go_quiet (fail)
          go_wp2_with fail
          go_roundw
          case rel =>
            refine ⟨k + 1, by omega, by go_num, Lib.hid (fun j hj => ?_), by (repeat (first | with_reducible assumption | with_reducible exact Ext.refl _ | with_reducible refine Ext.drew' ?_ | with_reducible refine Ext.drewN' ?_ _ | with_reducible refine Ext.alloc ?_ _ | (with_reducible refine Ext.setNew ?_ (by first | exact Nat.le_refl _ | (simp; done) | (simp; omega) | omega) _)))⟩
            rcases Nat.lt_or_ge j k with h3 | h3
            · exact HP.out j h3
            · have : j = k := by omega
              subst this
              rw [← HX.out, ← HZ.out]
          case measure => simp [intOf]; omega
        · have hRR : R = false := by
            rw [HR.out]; simp; intro e
            apply he; rw [HX.out, HZ.out, e]
          subst hRR
          go_wp2_with fail
          have hxz : (x != z) = true := by simp [he]
          go_quiet (fail)
          go_wp2_with fail
          go_ret
          exact ⟨rfl, by (repeat (first | with_reducible assumption | with_reducible exact Ext.refl _ | with_reducible refine Ext.drew' ?_ | with_reducible refine Ext.drewN' ?_ _ | with_reducible refine Ext.alloc ?_ _ | (with_reducible refine Ext.setNew ?_ (by first | exact Nat.le_refl _ | (simp; done) | (simp; omega) | omega) _)))⟩
      · have hkk : k = xs.length := by omega
        have hRR : R = true := by
          rw [HR.out]; simp
          exact eq_getN0' HL.out (fun j hj => HP.out j (by omega))
        subst hRR
        clear hkk
        go_wp2_with fail
        go_ret
        exact ⟨rfl, by (repeat (first | with_reducible assumption | with_reducible exact Ext.refl _ | with_reducible refine Ext.drew' ?_ | with_reducible refine Ext.drewN' ?_ _ | with_reducible refine Ext.alloc ?_ _ | (with_reducible refine Ext.setNew ?_ (by first | exact Nat.le_refl _ | (simp; done) | (simp; omega) | omega) _)))⟩
  · have hne : ((xs.length : Int) != (ys.length : Int)) = true := by simp; omega
    have hRR : R = false := by rw [HR.out]; simp; intro e; apply hl; rw [e]
    subst hRR
    clear hl
    go_enter Try.func104, Try.ntmps104
    go_wp2_with fail
    go_ret
    exact ⟨rfl, by (repeat (first | with_reducible assumption | with_reducible exact Ext.refl _ | with_reducible refine Ext.drew' ?_ | with_reducible refine Ext.drewN' ?_ _ | with_reducible refine Ext.alloc ?_ _ | (with_reducible refine Ext.setNew ?_ (by first | exact Nat.le_refl _ | (simp; done) | (simp; omega) | omega) _)))⟩
theorem take_snocD' {α : Type} (xs : List α) (k : Nat) (d : α) (h : k < xs.length) : xs.take (k + 1) = xs.take k ++ [xs.getD k d] := by
  rw [List.take_add_one, List.getD_eq_getElem?_getD, List.getElem?_eq_getElem h]; rfl
theorem foldl_snocD' {α β : Type} (f : β → α → β) (xs : List α) (k : Nat) (d : α) (b : β) (h : k < xs.length) : (xs.take (k + 1)).foldl f b = f ((xs.take k).foldl f b) (xs.getD k d) := by
  rw [take_snocD' xs k d h, List.foldl_append]; rfl
theorem joinV_take' (P Q : List (List Int)) : joinV P Q = (P.take P.length).foldl (fun o x => joinRow x Q o) [] := by rw [joinV_eq, List.take_length]
theorem joinRow_take' (x : List Int) (Q L : List (List Int)) : joinRow x Q L = (Q.take Q.length).foldl (fun o y => joinStep o (mrg x y)) L := by rw [List.take_length]; unfold joinRow; rw [List.foldl_map]
theorem joinStep_no1' {L : List (List Int)} {x : List Int} (h : 3 < x.length) : joinStep L x = L := by unfold joinStep; rw [if_pos (.inl h)]
theorem joinStep_no2' {L : List (List Int)} {x : List Int} (h : L.length = 8) : joinStep L x = L := by unfold joinStep; rw [if_pos (.inr h)]
theorem joinStep_no3' {L : List (List Int)} {x : List Int} (h : x ∈ L) : joinStep L x = L := by unfold joinStep; rw [if_pos h, ite_self]
theorem joinStep_yes' {L : List (List Int)} {x : List Int} (h1 : ¬ 3 < x.length) (h2 : ¬ L.length = 8) (h : x ∉ L) : joinStep L x = L ++ [x] := by unfold joinStep; rw [if_neg (by omega), if_neg h]
end Go.Proofs.Ytpomcoegpjehgaa
