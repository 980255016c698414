/- Slices of bytes: those that a call owns; how the exact laws copy, compare and mark them. -/
import Derived.Test.YtkdiniaddnhkdaaOwn
import Derived.Test.YtkdiniaddnhkdaaLib2
namespace Go.Proofs.Ytkdiniaddnhkdaa
open Go.RowKit
set_option maxRecDepth 100000
set_option linter.unusedVariables false
set_option linter.unusedSimpArgs false
theorem tyByt : RowTy Try.prog 38 5 1 1 := RowTy.mk' (z := .int .u8 0) Try.underlying38 (by kernel_rfl) rfl (by decide) (by decide)
theorem bytInfo : (Try.prog.info? 5).map (fun i => (i.zero, i.size, i.bytes)) = some (some (.int .u8 0), 1, 1) := by kernel_rfl
/-- How a slice of bytes reads. -/
def BytAt (w : World) (a : Option Addr) (xs : List Int) : Prop :=
  xs = [] ∨ ∃ b o, a = some ⟨b, o, none⟩ ∧ b < w.heap.size ∧ ∀ j, j < xs.length → w.cell? ⟨b, o + j, none⟩ = some (.int .u8 (xs.getD j 0))
def IsB (x : Int) : Prop := 0 ≤ x ∧ x < 256
def AllB (xs : List Int) : Prop := ∀ x ∈ xs, IsB x
theorem AllB.get {xs : List Int} (h : AllB xs) (j : Nat) (hj : j < xs.length) : 0 ≤ xs.getD j 0 ∧ xs.getD j 0 < 256 := by
  rw [List.getD_eq_getElem?_getD, List.getElem?_eq_getElem hj]; exact h _ (List.getElem_mem hj)
theorem AllB.app {xs ys : List Int} (h : AllB xs) (k : AllB ys) : AllB (xs ++ ys) := fun x hx => (List.mem_append.1 hx).elim (h x) (k x)
theorem AllB.nil : AllB [] := fun x hx => by cases hx
theorem AllB.cons {x : Int} {xs : List Int} (h0 : 0 ≤ x) (h1 : x < 256) (h : AllB xs) : AllB (x :: xs) := fun y hy => (List.mem_cons.1 hy).elim (fun e => e ▸ ⟨h0, h1⟩) (h y)
section
variable {w w' : World} {a : Option Addr} {xs : List Int}
theorem BytAt.get (h : BytAt w a xs) (hn : 0 < xs.length) : ∃ b o, a = some ⟨b, o, none⟩ ∧ b < w.heap.size ∧ ∀ j, j < xs.length → w.cell? ⟨b, o + j, none⟩ = some (.int .u8 (xs.getD j 0)) := by
  rcases h with rfl | h
  · simp at hn
  · exact h
theorem BytAt.ext (h : BytAt w a xs) (e : Ext w w') : BytAt w' a xs := by
  rcases h with rfl | ⟨b, o, ha, hb, hc⟩
  · exact .inl rfl
  · exact .inr ⟨b, o, ha, Nat.lt_of_lt_of_le hb e.size, fun j hj => ((ecell e).1 b _ hb).trans (hc j hj)⟩
theorem bytAt_of_row (h : RowAt w a (xs.map (Value.int .u8))) : BytAt w a xs := by
  rcases h with h | ⟨b, o, ha, hb, hc⟩
  · exact .inl (by simpa using h)
  · exact .inr ⟨b, o, ha, hb, fun j hj => hc j _ (by simp [hj, List.getD_eq_getElem?_getD])⟩
end
/-- A new row, its block's number spelt out. -/
theorem rowAtN (w : World) (cs : Array Value) (e : TypeId) {B : Nat} (h : w.heap.size = B) : RowAt (w.alloc (.cells cs e)) (some ⟨B, 0, none⟩) cs.toList := by subst h; exact RowAt.new w cs e
/-- A slice of bytes that the call owns. -/
def OwnY (w : World) (base : Nat) (v : Value) (xs : List Int) : Prop := w.ownsRow base 5 1 v xs.length (xs.map (Value.int .u8))
section
variable {w w' : World} {base : Nat} {v : Value} {xs : List Int}
theorem OwnY.opened (h : OwnY w base v xs) : ∃ a c, v = .slice a xs.length c ∧ BytAt w a xs := by
  obtain ⟨a, c, hv, hr, _⟩ := ownsRow_row h
  exact ⟨a, c, hv, bytAt_of_row hr⟩
theorem OwnY.byt {a : Option Addr} {n c : Nat} (h : OwnY w base (.slice a n c) xs) : BytAt w a xs := by
  obtain ⟨a', c', hv, hr, _⟩ := ownsRow_row h
  cases hv; exact bytAt_of_row hr
theorem OwnY.ext (h : OwnY w base v xs) (e : Ext w w') : OwnY w' base v xs := ownsRow_ext h e
theorem OwnY.le {b : Nat} (h : OwnY w base v xs) (hb : b ≤ base) : OwnY w b v xs := by
  refine ⟨h.1, ?_⟩
  rcases h.2 with h | ⟨g, cap, cur, h1, h2, h3⟩
  · exact .inl h
  · exact .inr ⟨g, cap, cur, h1, Nat.le_trans hb h2, h3⟩
theorem OwnY.app {v' : Value} {ys : List Int} {n m : Nat} (hn : n = xs.length) (hm : m = ys.length) (h : w'.ownsRow base 5 1 v' (n + m) (xs.map (Value.int .u8) ++ ys.map (Value.int .u8))) : OwnY w' base v' (xs ++ ys) := by
  subst hn hm
  unfold OwnY
  rw [List.length_append, List.map_append]; exact h
theorem OwnY.nil : OwnY w base (.slice none 0 0) [] := World.ownsRow_nil _ _ _ _
theorem OwnY.lt (h : OwnY w base v xs) : ∀ k, v.ownBlock = some k → base ≤ k ∧ k < w.heap.size := fun k hk => World.ownsRow.lt h k hk
end
/-- A slice of bytes is given back. -/
def GiveY (w : World) (xs : List Int) (e : Ending) (w' : World) : Prop := ∃ v, e = .returned v ∧ OwnY w' w.heap.size v xs ∧ Ext w w'
theorem oneCell_byt (xs : List Int) : ∀ u ∈ xs.map (Value.int .u8), u.oneCell' = true := by
  intro u hu
  obtain ⟨x, _, rfl⟩ := List.mem_map.1 hu
  rfl
def ToBytRel (w : World) (xs : List Int) (B : Nat) (u : Value) (wr : World) : Prop :=
  ∃ k : Nat, k ≤ xs.length ∧ u = .int .i64 k ∧ Blk wr B 5 ((upTo xs 0 xs.length k).map (Value.int .u8)) ∧ Ext w wr
theorem toByteS_c (a : Option Addr) (c : Nat) (xs : List Int) (w : World) (hx : BytAt w a xs) (hl : xs.length ≤ 1048576) :
    Calls Try.prog 37 #[.slice a xs.length c] w (GiveY w xs) := by
  have hm := run_make_row' (P := Try.prog) 38 5 (.int .u8 0) 1 Try.underlying38 bytInfo rfl .i64 .i64 xs.length (by omega) (by omega) w
  have L0 : Blk (w.alloc (.cells (madeCells #[.int .u8 0] xs.length) 5)) w.heap.size 5 ((upTo xs 0 xs.length 0).map (Value.int .u8)) := by
    rw [zeros_cells, upTo_zero, List.map_replicate]
    exact Blk.new w _ _
  go_enter Try.func37, Try.ntmps37
  go_wp2_with fail
  go_loopw [4] (ToBytRel w xs w.heap.size) (fun i _ => xs.length - (intOf i).toNat)
  case atStart => exact ⟨0, Nat.zero_le _, rfl, L0, (Ext.refl w).alloc _⟩
  case round =>
    obtain ⟨k, hk, rfl, hB, hE⟩ := hrel
    clear L0 hm
    by_cases hlt : k < xs.length
    · obtain ⟨b, o, rfl, hb, hc⟩ := (hx.ext hE).get (by omega)
      have q := hc k hlt
      have hs := upTo_set xs 0 k hlt
      have hl2 := upTo_length xs 0 k (by omega)
      have qc : ∃ u, wr.cell? ⟨w.heap.size, k, none⟩ = some u := ⟨_, hB.cell (List.getElem?_eq_getElem (by rw [List.length_map]; omega))⟩
      obtain ⟨u, qc⟩ := qc
      have fz := hB.frozen k
      obtain ⟨x, hxx⟩ : ∃ x, x = xs.getD k 0 := ⟨_, rfl⟩
      rw [← hxx] at q hs
      have HS := Lib.hid hs
      clear hs hl2 hc hxx
      go_wp2
      go_roundw
      case rel =>
        refine ⟨k + 1, by omega, by go_num, ?_, ?_⟩
        · rw [← HS.out, map_set]
          exact hB.set _ _
        · exact Ext.setNew hE (Nat.le_refl _) _
      case measure => simp [intOf]; omega
    · have hk2 : k = xs.length := by omega
      subst hk2
      rw [upTo_all] at hB
      go_wp2
      go_ret
      exact ⟨_, rfl, hB.owns (n := xs.length) (size := 1) (by simp) (Nat.le_refl _) (by unfold maxLen; omega), hE⟩
theorem eqByteS_c (a b : Option Addr) (c d : Nat) (xs : List Int) (w : World) (hx : BytAt w a xs) (hy : BytAt w b xs) (hl : xs.length ≤ 1048576) :
    Calls Try.prog 33 #[.slice a xs.length c, .slice b xs.length d] w fun e w' => e = .returned (.bool true) ∧ Ext w w' := by
  go_enter Try.func33, Try.ntmps33
  go_wp2_with fail
  go_loopw [5] (fun i wr => ∃ k : Nat, k ≤ xs.length ∧ i = .int .i64 k ∧ Ext w wr) (fun i _ => xs.length - (intOf i).toNat)
  case atStart => exact ⟨0, Nat.zero_le _, rfl, Ext.refl w⟩
  case round =>
    obtain ⟨k, hk, rfl, hE⟩ := hrel
    by_cases hlt : k < xs.length
    · obtain ⟨b1, o1, rfl, hb1, hc1⟩ := (hx.ext hE).get (by omega)
      obtain ⟨b2, o2, rfl, hb2, hc2⟩ := (hy.ext hE).get (by omega)
      have q1 := hc1 k hlt
      have q2 := hc2 k hlt
      obtain ⟨x, hxx⟩ : ∃ x, x = xs.getD k 0 := ⟨_, rfl⟩
      rw [← hxx] at q1 q2
      clear hc1 hc2 hxx
      go_wp2
      go_quiet (fail)
      go_wp2
      go_roundw
      case rel => exact ⟨k + 1, by omega, by go_num, by (repeat (first | assumption | (with_reducible refine Ext.drew' ?_) | exact Ext.refl _ | exact Ext.drew _ | exact Ext.drewN _ _ | (refine Ext.alloc ?_ _) | (refine Ext.drewN' ?_ _) | (refine Ext.setNew ?_ (by first | exact Nat.le_refl _ | (simp; done) | (simp; omega) | omega) _)))⟩
      case measure => simp [intOf]; omega
    · go_wp2
      go_ret
      exact ⟨rfl, hE⟩
def mkY (k : Int) (i : Nat) : Int := IntKind.u8.wrap (k + i)
def mksY (k : Int) (n : Nat) : List Int := (List.range n).map (mkY k)
theorem mksY_get (k : Int) (n j : Nat) (h : j < n) : (mksY k n).getD j 0 = mkY k j := by simp [mksY, List.getD_eq_getElem?_getD, h]
theorem mksY_length (k : Int) (n : Nat) : (mksY k n).length = n := by simp [mksY]
theorem map_setY {xs : List Int} {i : Nat} {x : Int} : (xs.set i x).map (Value.int .u8) = (xs.map (Value.int .u8)).set i (.int .u8 x) := by rw [List.map_set]
theorem markByteS_o (base : Nat) (a : Option Addr) (c : Nat) (xs : List Int) (k : Int) (w : World) (ho : w.ownsRow base 5 1 (.slice a xs.length c) xs.length (xs.map (Value.int .u8))) (h0 : 0 ≤ k) (h1 : k ≤ 1000000000) (hl : xs.length ≤ 1048576) :
    Calls Try.prog 34 #[.slice a xs.length c, .int .i64 k] w fun e w' => e = .returned (.int .i64 (k + xs.length)) ∧ w'.ownsRow base 5 1 (.slice a xs.length c) xs.length ((mksY k xs.length).map (Value.int .u8)) ∧ w.grownBy w' (Value.slice a xs.length c).ownBlock := by
  go_enter Try.func34, Try.ntmps34
  go_wp2_with fail
  go_loopw [1, 5] (fun u1 u5 wr => ∃ j : Nat, j ≤ xs.length ∧ u5 = .int .i64 j ∧ u1 = .int .i64 (k + j) ∧ wr.ownsRow base 5 1 (.slice a xs.length c) xs.length ((over (mkY k) xs j).map (Value.int .u8)) ∧ w.grownBy wr (Value.slice a xs.length c).ownBlock) (fun _ i _ => xs.length - (intOf i).toNat)
  case atStart => exact ⟨0, Nat.zero_le _, rfl, by simp, by rw [over_zero]; exact ho, Gr.refl _ _⟩
  case round =>
    obtain ⟨j, hj, rfl, rfl, hO, hG⟩ := hrel
    by_cases hlt : j < xs.length
    · obtain ⟨g, rfl, hbg, hg⟩ := ownsRow_block hO (by omega)
      have hs := over_set (mkY k) xs j hlt
      have hlen := over_length (mkY k) xs j hj
      obtain ⟨u, q⟩ : ∃ u, wr.cell? ⟨g, j, none⟩ = some u := ⟨_, ownsRow_cell hO (List.getElem?_eq_getElem (by rw [List.length_map]; omega))⟩
      have fz := ownsRow_frozen hO j
      have HO := ownsRow_setAt hO j (by rw [List.length_map]; omega) (.int .u8 (mkY k j))
      obtain ⟨y, hy⟩ : ∃ y, y = mkY k j := ⟨_, rfl⟩
      have hy2 : IntKind.u8.wrap (k + (j : Int)) = y := hy.symm
      rw [← hy] at HO
      have HS : Hid (((over (mkY k) xs j).map (Value.int .u8)).set j (.int .u8 y) = (over (mkY k) xs (j + 1)).map (Value.int .u8)) := Lib.hid (by rw [← hs, map_setY, hy])
      clear hs hlen hy
      go_wp2
      go_roundw
      case rel =>
        refine ⟨j + 1, by omega, by go_num, by go_num, ?_, ?_⟩
        · rw [← HS.out]
          exact HO
        · exact gr_setOwn hG _ _
      case measure => simp [intOf]; omega
    · obtain rfl : j = xs.length := by omega
      rw [over_all] at hO
      go_wp2
      go_ret
      exact ⟨rfl, hO, hG⟩
theorem heldByteS_c (a : Option Addr) (c n : Nat) (k : Int) (w : World) (hx : BytAt w a (mksY k n)) (h0 : 0 ≤ k) (h1 : k ≤ 1000000000) (hl : n ≤ 1048576) :
    Calls Try.prog 35 #[.slice a n c, .int .i64 k] w fun e w' => e = .returned (.int .i64 (k + n)) ∧ w = w' := by
  go_enter Try.func35, Try.ntmps35
  go_wp2_with fail
  go_loop [1, 5] (fun u1 i => ∃ j : Nat, j ≤ n ∧ i = .int .i64 j ∧ u1 = .int .i64 (k + j)) (fun _ i => n - (intOf i).toNat)
  case atStart => exact ⟨0, Nat.zero_le _, rfl, by simp⟩
  case round =>
    obtain ⟨j, hj, rfl, rfl⟩ := hrel
    by_cases hlt : j < n
    · obtain ⟨b1, o1, rfl, hb1, hc1⟩ := hx.get (by rw [mksY_length]; omega)
      have q1 := hc1 j (by rw [mksY_length]; omega)
      rw [mksY_get _ _ _ hlt] at q1
      obtain ⟨y, hy⟩ : ∃ y, y = mkY k j := ⟨_, rfl⟩
      have hy2 : IntKind.u8.wrap (k + (j : Int)) = y := hy.symm
      rw [← hy] at q1
      clear hc1 hy
      go_wp2
      go_round
      case rel => exact ⟨j + 1, by omega, by go_num, by go_num⟩
      case measure => simp [intOf]; omega
    · obtain rfl : j = n := by omega
      go_wp2
      go_ret
      exact ⟨rfl, rfl⟩
end Go.Proofs.Ytkdiniaddnhkdaa
