/- Plain: the values of the wires of a configuration without cycles; one clock cycle of the fabric. -/
import Derived.Test.YtkdiniaddnhkdaaAcy0
namespace Go.Proofs.Ytkdiniaddnhkdaa
open Go.RowKit
set_option maxRecDepth 100000
set_option linter.unusedVariables false
/-- All that a wire rests on ends within n steps. -/
def FinN (k : Conf) : Nat → Wire → Prop
  | 0, _ => False
  | n + 1, x => ∀ y ∈ needW k x, FinN k n y
theorem FinN.succ {k : Conf} : ∀ {n : Nat} {x : Wire}, FinN k n x → FinN k (n + 1) x
  | 0, _, h => h.elim
  | n + 1, _, h => fun y hy => FinN.succ (h y hy)
theorem FinN.mono {k : Conf} {n m : Nat} {x : Wire} (h : FinN k n x) (hle : n ≤ m) : FinN k m x := by
  induction m with
  | zero => have : n = 0 := by omega
            subst this; exact h
  | succ m ih =>
    rcases Nat.lt_or_ge n (m + 1) with h2 | h2
    · exact (ih (by omega)).succ
    · have : n = m + 1 := by omega
      subst this; exact h
theorem finAll {k : Conf} : ∀ (xs : List Wire), (∀ y ∈ xs, ∃ n, FinN k n y) → ∃ N, ∀ y ∈ xs, FinN k N y
  | [], _ => ⟨0, fun y hy => by cases hy⟩
  | x :: xs, h => by
    obtain ⟨n, hn⟩ := h x (by simp)
    obtain ⟨N, hN⟩ := finAll xs (fun y hy => h y (by simp [hy]))
    refine ⟨max n N, fun y hy => ?_⟩
    rcases List.mem_cons.1 hy with rfl | hy
    · exact hn.mono (Nat.le_max_left _ _)
    · exact (hN y hy).mono (Nat.le_max_right _ _)
mutual
theorem vis_keep (k : Conf) (i : Nat) : ∀ (n : Nat) (m : Marks) (x : Wire), m i ≠ 0 → (vis k n m x).2 i = m i
  | 0, m, x, h => by simp [vis]
  | n + 1, m, x, h => by
    by_cases h0 : m x.ix = 0
    · have hne : i ≠ x.ix := fun e => h (e ▸ h0)
      have hu : upd m x.ix 1 i = m i := upd_ne _ _ hne
      have ih := visL_keep k i n (needW k x) (upd m x.ix 1) (by rw [hu]; exact h)
      rw [hu] at ih
      cases hb : visL k n (needW k x) (upd m x.ix 1) with
      | mk b m' =>
        rw [hb] at ih
        cases b
        · rw [vis_bad h0 hb]; exact ih
        · rw [vis_ok h0 hb]
          show upd m' x.ix 2 i = m i
          rw [upd_ne _ _ hne]; exact ih
    · rw [vis_seen h0]
theorem visL_keep (k : Conf) (i : Nat) : ∀ (n : Nat) (xs : List Wire) (m : Marks), m i ≠ 0 → (visL k n xs m).2 i = m i
  | n, [], m, h => by rw [visL_nil]
  | n, x :: xs, m, h => by
    have h1 := vis_keep k i n m x h
    cases hb : (vis k n m x).1
    · rw [visL_bad hb]; exact h1
    · rw [visL_ok hb, visL_keep k i n xs _ (by rw [h1]; exact h)]; exact h1
end
def InvF (k : Conf) (m : Marks) : Prop := ∀ x : Wire, x.Ok → m x.ix = 2 → ∃ n, FinN k n x
theorem InvF.upd {k : Conf} {m : Marks} (h : InvF k m) {x : Wire} (hx : x.Ok) {v : Int} (hv : v = 2 → ∃ n, FinN k n x) : InvF k (Proofs.Ytkdiniaddnhkdaa.upd m x.ix v) := by
  intro y hy h2
  by_cases e : y = x
  · subst e; rw [upd_same] at h2; exact hv h2
  · rw [upd_ne _ _ (fun e2 => e (Wire.ix_inj hy hx e2))] at h2
    exact h y hy h2
mutual
theorem vis_fin {k : Conf} (hok : k.Ok) : ∀ (n : Nat) (m : Marks) (x : Wire), x.Ok → InvF k m → InvF k (vis k n m x).2 ∧ ((vis k n m x).1 = true → (vis k n m x).2 x.ix = 2)
  | 0, m, x, hx, h => ⟨by simpa [vis] using h, by simp [vis]⟩
  | n + 1, m, x, hx, h => by
    by_cases h0 : m x.ix = 0
    · have ih := visL_fin hok n (needW k x) (upd m x.ix 1) (hok.need hx) (h.upd hx (fun e => by cases e))
      cases hb : visL k n (needW k x) (upd m x.ix 1) with
      | mk b m' =>
        rw [hb] at ih
        cases b
        · rw [vis_bad h0 hb]; exact ⟨ih.1, fun e => by cases e⟩
        · rw [vis_ok h0 hb]
          have h2 := ih.2 rfl
          refine ⟨ih.1.upd hx (fun _ => ?_), fun _ => upd_same _ _ _⟩
          obtain ⟨N, hN⟩ := finAll (needW k x) (fun y hy => ih.1 y (hok.need hx y hy) (h2 y hy))
          exact ⟨N + 1, hN⟩
    · rw [vis_seen h0]
      exact ⟨h, fun e => by simpa using e⟩
theorem visL_fin {k : Conf} (hok : k.Ok) : ∀ (n : Nat) (xs : List Wire) (m : Marks), (∀ y ∈ xs, y.Ok) → InvF k m → InvF k (visL k n xs m).2 ∧ ((visL k n xs m).1 = true → ∀ y ∈ xs, (visL k n xs m).2 y.ix = 2)
  | n, [], m, _, h => by rw [visL_nil]; exact ⟨h, fun _ y hy => by cases hy⟩
  | n, x :: xs, m, hxs, h => by
    have h1 := vis_fin hok n m x (hxs x (by simp)) h
    cases hb : (vis k n m x).1
    · rw [visL_bad hb]; exact ⟨h1.1, fun e => by cases e⟩
    · rw [visL_ok hb]
      have h2 := visL_fin hok n xs (vis k n m x).2 (fun y hy => hxs y (by simp [hy])) h1.1
      refine ⟨h2.1, fun e y hy => ?_⟩
      rcases List.mem_cons.1 hy with rfl | hy
      · rw [visL_keep k y.ix n xs _ (by rw [h1.2 hb]; decide)]; exact h1.2 hb
      · exact h2.2 e y hy
end
theorem wireOf_of (x : Wire) (hx : x.Ok) : wireOf x.ix = x := by
  obtain ⟨a, b⟩ := x
  have := hx.2
  simp only [wireOf, Wire.ix] at *
  congr 1 <;> omega
theorem mem_wires {x : Wire} (hx : x.Ok) : x ∈ wiresFrom 0 := by
  unfold wiresFrom
  rw [List.drop_zero, List.mem_map]
  exact ⟨x.ix, by rw [List.mem_range]; exact hx.ix, wireOf_of x hx⟩
theorem wires_ok : ∀ y ∈ wiresFrom 0, y.Ok := by
  intro y hy
  unfold wiresFrom at hy
  rw [List.drop_zero, List.mem_map] at hy
  obtain ⟨i, hi, rfl⟩ := hy
  rw [List.mem_range] at hi
  exact wireOf_ok hi
theorem acy_ok {k : Conf} (h : acyV k = true) : k.Ok := by
  unfold acyV at h
  rw [Bool.and_eq_true] at h
  exact confB_iff.1 h.1
theorem acy_fin {k : Conf} (h : acyV k = true) {x : Wire} (hx : x.Ok) : ∃ n, FinN k n x := by
  have hok := acy_ok h
  unfold acyV at h
  rw [Bool.and_eq_true] at h
  have := visL_fin hok 201 (wiresFrom 0) mark0 wires_ok (fun y hy e => by cases e)
  exact this.1 x hx (this.2 h.2 x (mem_wires hx))
theorem least_ex {P : Nat → Prop} (h : ∃ n, P n) : ∃ n, P n ∧ ∀ m, P m → n ≤ m := by
  obtain ⟨n, hn⟩ := h
  induction n using Nat.strongRecOn with
  | _ n ih =>
    by_cases hs : ∃ m, m < n ∧ P m
    · obtain ⟨m, hm, hP⟩ := hs
      exact ih m hm hP
    · exact ⟨n, hn, fun m hm => by
        rcases Nat.lt_or_ge m n with h | h
        · exact absurd ⟨m, h, hm⟩ hs
        · exact h⟩
open Classical in
/-- How many steps a wire needs. -/
noncomputable def rk (k : Conf) (x : Wire) : Nat := if h : ∃ n, FinN k n x then Classical.choose (least_ex h) else 0
theorem rk_fin {k : Conf} {x : Wire} (h : ∃ n, FinN k n x) : FinN k (rk k x) x := by
  unfold rk
  rw [dif_pos h]
  exact (Classical.choose_spec (least_ex h)).1
theorem rk_le {k : Conf} {x : Wire} {n : Nat} (h : FinN k n x) : rk k x ≤ n := by
  unfold rk
  rw [dif_pos ⟨n, h⟩]
  exact (Classical.choose_spec (least_ex ⟨n, h⟩)).2 n h
theorem rk_lt {k : Conf} {x y : Wire} (h : ∃ n, FinN k n x) (hy : y ∈ needW k x) : rk k y < rk k x := by
  have h1 := rk_fin h
  cases hr : rk k x with
  | zero => rw [hr] at h1; exact h1.elim
  | succ r =>
    rw [hr] at h1
    have := rk_le (h1 y hy)
    omega
/-- The number that the inputs of a lookup table make, up to input j. -/
def ixT (rd : Int → Bool) (sl : List Int) : Nat → Nat
  | 0 => 0
  | j + 1 => ixT rd sl j + if rd (sl.getD j 0) then 2 ^ j else 0
theorem ixT_lt (rd : Int → Bool) (sl : List Int) : ∀ j, ixT rd sl j < 2 ^ j
  | 0 => by simp [ixT]
  | j + 1 => by
    have := ixT_lt rd sl j
    unfold ixT
    rw [Nat.pow_succ]
    split <;> omega
theorem ixT_congr {rd rd' : Int → Bool} {sl : List Int} : ∀ j, j ≤ sl.length → (∀ s ∈ sl, rd s = rd' s) → ixT rd sl j = ixT rd' sl j
  | 0, _, _ => rfl
  | j + 1, hj, h => by
    unfold ixT
    rw [ixT_congr j (by omega) h, h (sl.getD j 0) (by rw [List.getD_eq_getElem?_getD, List.getElem?_eq_getElem (by omega)]; exact List.getElem_mem _)]
def rdV (g : Wire → Bool) (t : Nat) (s : Int) : Bool := s != 15 && g (t, s.toNat)
def tabV (k : Conf) (g : Wire → Bool) (t : Nat) : Bool := ((tileAt k t).tb / 2 ^ ixT (rdV g t) (tileAt k t).sl 3) % 2 == 1
def bodyW (k : Conf) (regs ins : List Bool) (g : Wire → Bool) (x : Wire) : Bool :=
  if drvAt k x = 0 then false else if drvAt k x = 6 then decide (x.1 / 5 < ins.length) && ins.getD (x.1 / 5) false
  else if drvAt k x = 1 then (if (tileAt k x.1).rg then regs.getD x.1 false else tabV k g x.1)
  else g ((nbV x.1 (drvAt k x)).toNat, x.2)
theorem mem_selW {t : Nat} {ss : List Int} {s : Int} (h : s ∈ ss) (hne : s ≠ 15) : (t, s.toNat) ∈ selW t ss := by
  unfold selW
  exact List.mem_map.2 ⟨s, List.mem_filter.2 ⟨h, by simpa using hne⟩, rfl⟩
theorem rdV_congr {g g' : Wire → Bool} {t : Nat} {ss : List Int} (h : ∀ y ∈ selW t ss, g y = g' y) : ∀ s ∈ ss, rdV g t s = rdV g' t s := by
  intro s hs
  unfold rdV
  by_cases e : s = 15
  · simp [e]
  · rw [h _ (mem_selW hs e)]
theorem tabV_congr {k : Conf} {t : Nat} {g g' : Wire → Bool} (hl : 3 ≤ (tileAt k t).sl.length) (h : ∀ y ∈ selW t (tileAt k t).sl, g y = g' y) : tabV k g t = tabV k g' t := by
  unfold tabV
  rw [ixT_congr 3 hl (rdV_congr h)]
theorem Conf.Ok.sl3 {k : Conf} (h : k.Ok) {t : Nat} (ht : t < 25) : (tileAt k t).sl.length = 3 := (tileB_iff.1 (h.ts t ht)).ls
theorem Conf.Ok.drvR {k : Conf} (h : k.Ok) {x : Wire} (hx : x.Ok) : 0 ≤ drvAt k x ∧ drvAt k x ≤ 6 := by
  have hd := h.drv hx
  rcases (by omega : (drvAt k x < 0 ∨ 6 < drvAt k x) ∨ (0 ≤ drvAt k x ∧ drvAt k x ≤ 6)) with h2 | h2
  · rw [drvB_low h2] at hd; cases hd
  · exact h2
theorem bodyW_congr {k : Conf} (hok : k.Ok) {regs ins : List Bool} {g g' : Wire → Bool} {x : Wire} (hx : x.Ok) (h : ∀ y ∈ needW k x, g y = g' y) : bodyW k regs ins g x = bodyW k regs ins g' x := by
  have hd := hok.drvR hx
  unfold needW at h
  unfold bodyW
  by_cases h0 : drvAt k x = 0
  · rw [if_pos h0, if_pos h0]
  rw [if_neg h0, if_neg h0]
  by_cases h6 : drvAt k x = 6
  · rw [if_pos h6, if_pos h6]
  rw [if_neg h6, if_neg h6]
  by_cases h1 : drvAt k x = 1
  · rw [if_pos h1, if_pos h1]
    cases hr : (tileAt k x.1).rg
    · rw [if_neg (by omega), if_pos ⟨h1, hr⟩] at h
      rw [if_neg (by decide), if_neg (by decide)]
      exact tabV_congr (by rw [hok.sl3 hx.1]; exact Nat.le_refl _) h
    · rfl
  · rw [if_neg h1, if_neg h1]
    rw [if_pos (by omega)] at h
    exact h _ (by simp)
/-- The value of a wire, within n steps. -/
def wv (k : Conf) (regs ins : List Bool) : Nat → Wire → Bool
  | 0 => fun _ => false
  | n + 1 => bodyW k regs ins (wv k regs ins n)
theorem wv_fin {k : Conf} (hok : k.Ok) {regs ins : List Bool} : ∀ (n : Nat) (x : Wire), x.Ok → FinN k n x → ∀ f, n ≤ f → wv k regs ins f x = wv k regs ins n x
  | 0, x, _, h, _, _ => h.elim
  | n + 1, x, hx, h, f, hf => by
    obtain ⟨f, rfl⟩ : ∃ f', f = f' + 1 := ⟨f - 1, by omega⟩
    show bodyW k regs ins (wv k regs ins f) x = bodyW k regs ins (wv k regs ins n) x
    exact bodyW_congr hok hx (fun y hy => wv_fin hok n y (hok.need hx y hy) (h y hy) f (by omega))
noncomputable def valW (k : Conf) (regs ins : List Bool) (x : Wire) : Bool := wv k regs ins (rk k x) x
theorem valW_eq {k : Conf} (hok : k.Ok) (hf : ∀ x : Wire, x.Ok → ∃ n, FinN k n x) {regs ins : List Bool} {x : Wire} (hx : x.Ok) : valW k regs ins x = bodyW k regs ins (valW k regs ins) x := by
  unfold valW
  have h1 := rk_fin (hf x hx)
  cases hr : rk k x with
  | zero => rw [hr] at h1; exact h1.elim
  | succ r =>
    show bodyW k regs ins (wv k regs ins r) x = _
    refine bodyW_congr hok hx (fun y hy => ?_)
    have hy2 := hok.need hx y hy
    have hlt := rk_lt (hf x hx) hy
    exact wv_fin hok (rk k y) y hy2 (rk_fin (hf y hy2)) r (by omega)
/-- One clock cycle: the pads' values, the next state. -/
noncomputable def outsV (k : Conf) (regs ins : List Bool) (n : Nat) : List Bool := (List.range n).map fun o => (rdV (valW k regs ins) (o * 5 + 4) (k.ps.getD o (0, false)).1) != (k.ps.getD o (0, false)).2
noncomputable def nextV (k : Conf) (regs ins : List Bool) (n : Nat) : List Bool := (List.range n).map fun t => (tileAt k t).rg && tabV k (valW k regs ins) t
end Go.Proofs.Ytkdiniaddnhkdaa
