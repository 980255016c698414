/- Plain: the visit of the wires of a configuration, depth first, with marks. -/
import Derived.Test.YtkdiniaddnhkdaaConfK
namespace Go.Proofs.Ytkdiniaddnhkdaa
open Go.RowKit
set_option maxRecDepth 100000
set_option linter.unusedVariables false
abbrev Marks := Nat → Int
def upd (m : Marks) (i : Nat) (v : Int) : Marks := fun j => if j = i then v else m j
theorem upd_same (m : Marks) (i : Nat) (v : Int) : upd m i v i = v := by simp [upd]
theorem upd_ne (m : Marks) {i j : Nat} (v : Int) (h : j ≠ i) : upd m i v j = m j := by simp [upd, h]
/-- How many of the first n wires have no mark. -/
def zeros0 (m : Marks) : Nat → Nat
  | 0 => 0
  | n + 1 => zeros0 m n + if m n = 0 then 1 else 0
theorem zeros0_le (m : Marks) : ∀ n, zeros0 m n ≤ n
  | 0 => Nat.le_refl _
  | n + 1 => by have := zeros0_le m n; unfold zeros0; split <;> omega
theorem zeros0_upd (m : Marks) (i : Nat) (v : Int) (hv : v ≠ 0) : ∀ n, zeros0 (upd m i v) n ≤ zeros0 m n
  | 0 => Nat.le_refl _
  | n + 1 => by
    have ih := zeros0_upd m i v hv n
    unfold zeros0
    by_cases h : n = i
    · subst h; rw [upd_same, if_neg hv]; split <;> omega
    · rw [upd_ne m v h]; split <;> omega
theorem zeros0_dec (m : Marks) (i : Nat) (v : Int) (hv : v ≠ 0) (h0 : m i = 0) : ∀ n, i < n → zeros0 (upd m i v) n + 1 ≤ zeros0 m n
  | 0, h => absurd h (Nat.not_lt_zero _)
  | n + 1, h => by
    unfold zeros0
    by_cases hn : n = i
    · subst hn; rw [upd_same, if_neg hv, if_pos h0]
      have := zeros0_upd m n v hv n
      omega
    · rw [upd_ne m v hn]
      have := zeros0_dec m i v hv h0 n (by omega)
      split <;> omega
abbrev Wire := Nat × Nat
def Wire.ix (x : Wire) : Nat := x.1 * 8 + x.2
def Wire.Ok (x : Wire) : Prop := x.1 < 25 ∧ x.2 < 8
theorem Wire.Ok.ix {x : Wire} (h : x.Ok) : Wire.ix x < 200 := by unfold Wire.ix; have := h.1; have := h.2; omega
theorem Wire.ix_inj {x y : Wire} (hx : x.Ok) (hy : y.Ok) (h : x.ix = y.ix) : x = y := by
  obtain ⟨a, b⟩ := x
  obtain ⟨c, d⟩ := y
  unfold Wire.ix at h
  obtain ⟨h1, h2⟩ := hx
  obtain ⟨h3, h4⟩ := hy
  simp only at h h1 h2 h3 h4
  have : a = c := by omega
  subst this
  have : b = d := by omega
  subst this; rfl
/-- The wires that the selectors of a tile read. -/
def selW (t : Nat) (ss : List Int) : List Wire := (ss.filter (fun s => s != 15)).map (fun s => (t, s.toNat))
theorem selW_nil (t : Nat) : selW t [] = [] := rfl
theorem selW_skip (t : Nat) (ss : List Int) : selW t (15 :: ss) = selW t ss := by simp [selW]
theorem selW_take (t : Nat) {s : Int} (ss : List Int) (h : s ≠ 15) : selW t (s :: ss) = (t, s.toNat) :: selW t ss := by simp [selW, h]
def tileAt (k : Conf) (t : Nat) : Tile := k.ts.getD t tile0
def drvAt (k : Conf) (x : Wire) : Int := (tileAt k x.1).dr.getD x.2 0
/-- The wires on which a wire rests. -/
def needW (k : Conf) (x : Wire) : List Wire :=
  if 2 ≤ drvAt k x ∧ drvAt k x ≤ 5 then [((nbV x.1 (drvAt k x)).toNat, x.2)]
  else if drvAt k x = 1 ∧ (tileAt k x.1).rg = false then selW x.1 (tileAt k x.1).sl else []
theorem nb_range {t : Nat} {d : Int} (ht : t < 25) (h : 0 ≤ nbV t d) : nbV t d < 25 := by
  unfold nbV at *
  split
  · split <;> omega
  · split
    · split <;> omega
    · split
      · split <;> omega
      · split
        · split <;> omega
        · omega
theorem Conf.Ok.drv {k : Conf} (h : k.Ok) {x : Wire} (hx : x.Ok) : drvB x.1 (drvAt k x) = true := (tileB_iff.1 (h.ts x.1 hx.1)).ds x.2 hx.2
theorem Conf.Ok.nb {k : Conf} (h : k.Ok) {x : Wire} (hx : x.Ok) (h2 : 2 ≤ drvAt k x) (h5 : drvAt k x ≤ 5) : 0 ≤ nbV x.1 (drvAt k x) ∧ nbV x.1 (drvAt k x) < 25 := by
  have := h.drv hx
  rw [drvB_near h2 h5] at this
  have h0 := of_decide_eq_true this
  exact ⟨h0, nb_range hx.1 h0⟩
theorem trackB_cases {s : Int} (h : trackB s = true) : s = 15 ∨ (0 ≤ s ∧ s < 8) := by unfold trackB at h; simp at h; omega
theorem selW_ok {t : Nat} (ht : t < 25) : ∀ (ss : List Int), (∀ s ∈ ss, trackB s = true) → ∀ y ∈ selW t ss, y.Ok := by
  intro ss h y hy
  unfold selW at hy
  obtain ⟨s, hs, rfl⟩ := List.mem_map.1 hy
  obtain ⟨h1, h2⟩ := List.mem_filter.1 hs
  have := trackB_cases (h s h1)
  simp at h2
  exact ⟨ht, by dsimp only; omega⟩
theorem Conf.Ok.sel {k : Conf} (h : k.Ok) {t : Nat} (ht : t < 25) : ∀ s ∈ (tileAt k t).sl, trackB s = true := by
  intro s hs
  have ho := tileB_iff.1 (h.ts t ht)
  obtain ⟨j, hj, rfl⟩ := List.mem_iff_getElem.1 hs
  have hl : (tileAt k t).sl.length = 3 := ho.ls
  have : trackB ((tileAt k t).sl.getD j 0) = true := ho.ss j (by omega)
  rwa [List.getD_eq_getElem?_getD, List.getElem?_eq_getElem hj] at this
theorem Conf.Ok.need {k : Conf} (h : k.Ok) {x : Wire} (hx : x.Ok) : ∀ y ∈ needW k x, y.Ok := by
  intro y hy
  unfold needW at hy
  split at hy
  · rename_i hc
    have := h.nb hx hc.1 hc.2
    simp at hy; subst hy
    exact ⟨by dsimp only; omega, hx.2⟩
  · split at hy
    · exact selW_ok hx.1 _ (h.sel hx.1) y hy
    · cases hy
theorem selW_len (t : Nat) (ss : List Int) : (selW t ss).length ≤ ss.length := by
  unfold selW; rw [List.length_map]; exact List.length_filter_le _ _
theorem Conf.Ok.needLen {k : Conf} (h : k.Ok) {x : Wire} (hx : x.Ok) : (needW k x).length ≤ 3 := by
  unfold needW
  split
  · simp
  · split
    · have := selW_len x.1 (tileAt k x.1).sl
      have hl : (tileAt k x.1).sl.length = 3 := (tileB_iff.1 (h.ts x.1 hx.1)).ls
      omega
    · simp
mutual
/-- The visit of a wire: is no cycle reached? and the marks. -/
def vis (k : Conf) : Nat → Marks → Wire → Bool × Marks
  | 0, m, _ => (false, m)
  | n + 1, m, x => if m x.ix ≠ 0 then (m x.ix == 2, m) else
    if (visL k n (needW k x) (upd m x.ix 1)).1 then (true, upd (visL k n (needW k x) (upd m x.ix 1)).2 x.ix 2) else (false, (visL k n (needW k x) (upd m x.ix 1)).2)
/-- One wire after the other, as long as no cycle is reached. -/
def visL (k : Conf) : Nat → List Wire → Marks → Bool × Marks
  | _, [], m => (true, m)
  | n, x :: xs, m => if (vis k n m x).1 then visL k n xs (vis k n m x).2 else (false, (vis k n m x).2)
end
theorem visL_nil (k : Conf) (n : Nat) (m : Marks) : visL k n [] m = (true, m) := by cases n <;> simp [visL]
theorem visL_cons (k : Conf) (n : Nat) (x : Wire) (xs : List Wire) (m : Marks) : visL k n (x :: xs) m = if (vis k n m x).1 then visL k n xs (vis k n m x).2 else (false, (vis k n m x).2) := by cases n <;> simp [visL]
theorem visL_ok {k : Conf} {n : Nat} {x : Wire} {xs : List Wire} {m : Marks} (h : (vis k n m x).1 = true) : visL k n (x :: xs) m = visL k n xs (vis k n m x).2 := by cases n <;> simp [visL, h]
theorem visL_bad {k : Conf} {n : Nat} {x : Wire} {xs : List Wire} {m : Marks} (h : (vis k n m x).1 = false) : visL k n (x :: xs) m = (false, (vis k n m x).2) := by cases n <;> simp [visL, h]
theorem vis_seen {k : Conf} {n : Nat} {m : Marks} {x : Wire} (h : m x.ix ≠ 0) : vis k (n + 1) m x = (m x.ix == 2, m) := by simp [vis, h]
theorem vis_ok {k : Conf} {n : Nat} {m : Marks} {x : Wire} {m' : Marks} (h0 : m x.ix = 0) (h : visL k n (needW k x) (upd m x.ix 1) = (true, m')) : vis k (n + 1) m x = (true, upd m' x.ix 2) := by simp [vis, h0, h]
theorem vis_bad {k : Conf} {n : Nat} {m : Marks} {x : Wire} {m' : Marks} (h0 : m x.ix = 0) (h : visL k n (needW k x) (upd m x.ix 1) = (false, m')) : vis k (n + 1) m x = (false, m') := by simp [vis, h0, h]
mutual
theorem vis_zeros (k : Conf) : ∀ (n : Nat) (m : Marks) (x : Wire), zeros0 (vis k n m x).2 200 ≤ zeros0 m 200
  | 0, m, x => by simp [vis]
  | n + 1, m, x => by
    by_cases h0 : m x.ix = 0
    · have ih := visL_zeros k n (needW k x) (upd m x.ix 1)
      have h1 := zeros0_upd m x.ix 1 (by decide) 200
      cases hb : visL k n (needW k x) (upd m x.ix 1) with
      | mk b m' =>
        rw [hb] at ih
        cases b
        · rw [vis_bad h0 hb]; dsimp only at *; omega
        · rw [vis_ok h0 hb]
          have := zeros0_upd m' x.ix 2 (by decide) 200
          dsimp only at *; omega
    · rw [vis_seen h0]; exact Nat.le_refl _
theorem visL_zeros (k : Conf) : ∀ (n : Nat) (xs : List Wire) (m : Marks), zeros0 (visL k n xs m).2 200 ≤ zeros0 m 200
  | n, [], m => by rw [visL_nil]; exact Nat.le_refl _
  | n, x :: xs, m => by
    have h1 := vis_zeros k n m x
    cases hb : (vis k n m x).1
    · rw [visL_bad hb]; exact h1
    · rw [visL_ok hb]
      have h2 := visL_zeros k n xs (vis k n m x).2
      omega
end
def Mk3 (m : Marks) : Prop := ∀ i, m i = 0 ∨ m i = 1 ∨ m i = 2
theorem Mk3.upd {m : Marks} (h : Mk3 m) (i : Nat) {v : Int} (hv : v = 0 ∨ v = 1 ∨ v = 2) : Mk3 (Proofs.Ytkdiniaddnhkdaa.upd m i v) := by
  intro j
  unfold Proofs.Ytkdiniaddnhkdaa.upd
  split
  · exact hv
  · exact h j
mutual
theorem vis_mk3 (k : Conf) : ∀ (n : Nat) (m : Marks) (x : Wire), Mk3 m → Mk3 (vis k n m x).2
  | 0, m, x, h => by simpa [vis] using h
  | n + 1, m, x, h => by
    by_cases h0 : m x.ix = 0
    · have ih := visL_mk3 k n (needW k x) (upd m x.ix 1) (h.upd _ (.inr (.inl rfl)))
      cases hb : visL k n (needW k x) (upd m x.ix 1) with
      | mk b m' =>
        rw [hb] at ih
        cases b
        · rw [vis_bad h0 hb]; exact ih
        · rw [vis_ok h0 hb]; exact ih.upd _ (.inr (.inr rfl))
    · rw [vis_seen h0]; exact h
theorem visL_mk3 (k : Conf) : ∀ (n : Nat) (xs : List Wire) (m : Marks), Mk3 m → Mk3 (visL k n xs m).2
  | n, [], m, h => by rw [visL_nil]; exact h
  | n, x :: xs, m, h => by
    have h1 := vis_mk3 k n m x h
    cases hb : (vis k n m x).1
    · rw [visL_bad hb]; exact h1
    · rw [visL_ok hb]; exact visL_mk3 k n xs _ h1
end
theorem mk3_0 : Mk3 (fun _ => 0) := fun _ => .inl rfl
def wireOf (i : Nat) : Wire := (i / 8, i % 8)
theorem wireOf_ix (i : Nat) : (wireOf i).ix = i := by simp only [wireOf, Wire.ix]; omega
theorem wireOf_ok {i : Nat} (h : i < 200) : (wireOf i).Ok := ⟨by simp only [wireOf]; omega, by simp only [wireOf]; omega⟩
/-- The wires from number i on. -/
def wiresFrom (i : Nat) : List Wire := ((List.range 200).drop i).map wireOf
theorem wiresFrom_cons {i : Nat} (h : i < 200) : wiresFrom i = wireOf i :: wiresFrom (i + 1) := by
  unfold wiresFrom
  rw [List.drop_eq_getElem_cons (by simpa using h)]
  simp
theorem wiresFrom_end : wiresFrom 200 = [] := by simp [wiresFrom]
def mark0 : Marks := fun _ => 0
/-- No wire rests on itself. -/
noncomputable def acyV (k : Conf) : Bool := confB k && (visL k 201 (wiresFrom 0) mark0).1
end Go.Proofs.Ytkdiniaddnhkdaa
