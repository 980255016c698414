/- Plain: the configuration that a bitstream encodes; bytes as strings. -/
import Derived.Test.YtkdiniaddnhkdaaEncC
import Derived.Laws.BytesArg
namespace Go.Proofs.Ytkdiniaddnhkdaa
open Go.RowKit
set_option maxRecDepth 100000
set_option linter.unusedVariables false
set_option linter.unusedSimpArgs false
/-- n bytes, from number p on; 0 where there is none. -/
def getN (bs : List Int) (p n : Nat) : List Int := (List.range n).map fun i => bs.getD (p + i) 0
theorem getN_succ (bs : List Int) (p n : Nat) : getN bs p (n + 1) = getN bs p n ++ [bs.getD (p + n) 0] := by simp [getN, List.range_succ]
theorem getN_len (bs : List Int) (p n : Nat) : (getN bs p n).length = n := by simp [getN]
def pT (bs : List Int) (p : Nat) : Tile := ⟨bs.getD p 0, getN bs (p + 1) 3, bs.getD (p + 4) 0 == 1, getN bs (p + 5) 8⟩
def pP (bs : List Int) (p : Nat) : Int × Bool := (bs.getD p 0, bs.getD (p + 1) 0 == 1)
def pTs (bs : List Int) (n : Nat) : List Tile := (List.range n).map fun i => pT bs (13 * i)
def pPs (bs : List Int) (n : Nat) : List (Int × Bool) := (List.range n).map fun o => pP bs (325 + 2 * o)
theorem pTs_succ (bs : List Int) (n : Nat) : pTs bs (n + 1) = pTs bs n ++ [pT bs (13 * n)] := by simp [pTs, List.range_succ]
theorem pPs_succ (bs : List Int) (n : Nat) : pPs bs (n + 1) = pPs bs n ++ [pP bs (325 + 2 * n)] := by simp [pPs, List.range_succ]
theorem pTs_len (bs : List Int) (n : Nat) : (pTs bs n).length = n := by simp [pTs]
theorem pPs_len (bs : List Int) (n : Nat) : (pPs bs n).length = n := by simp [pPs]
def pK (bs : List Int) : Conf := ⟨pTs bs 25, pPs bs 3⟩
def conf0 : Conf := ⟨[], []⟩
/-- Does the bitstream decode? -/
noncomputable def decB (bs : List Int) : Bool := encV (pK bs) == bs && bs.length == 333
noncomputable def decV (bs : List Int) : Conf := if decB bs then pK bs else conf0
theorem encV_len (k : Conf) : (encV k).length = 0 ∨ (encV k).length = 333 := by
  by_cases h : confB k = true
  · right
    have e : encV k = bodyV k ++ [sumV (bodyV k) / 256, sumV (bodyV k) % 256] := by unfold encV; rw [if_pos h]
    have := (confB_iff.1 h).body.2
    rw [e]; simp; omega
  · left
    have e : encV k = [] := by unfold encV; rw [if_neg h]
    rw [e]; rfl
theorem encV_all (k : Conf) : AllB (encV k) := by
  by_cases h : confB k = true
  · have e : encV k = bodyV k ++ [sumV (bodyV k) / 256, sumV (bodyV k) % 256] := by unfold encV; rw [if_pos h]
    have h1 := (confB_iff.1 h).body.1
    obtain ⟨s0, s1⟩ := sumV_lt (bodyV k)
    rw [e]
    exact h1.app (.cons (by omega) (by omega) (.cons (by omega) (by omega) .nil))
  · have e : encV k = [] := by unfold encV; rw [if_neg h]
    rw [e]; exact .nil
theorem confAt_pK_lens (bs : List Int) : ∀ j, j < (pK bs).ts.length → ((pK bs).ts.getD j tile0).sl.length ≤ 1048576 ∧ ((pK bs).ts.getD j tile0).dr.length ≤ 1048576 := by
  intro j hj
  have hj2 : j < 25 := by rw [show (pK bs).ts = pTs bs 25 from rfl, pTs_len] at hj; exact hj
  have e : (pK bs).ts.getD j tile0 = pT bs (13 * j) := by
    show (pTs bs 25).getD j tile0 = _
    simp [pTs, List.getD_eq_getElem?_getD, hj2]
  rw [e]
  simp [pT, getN_len]
/-- The program's test says the same. -/
theorem dec_test (bs : List Int) : (decide (331 ≤ bs.length) && encV (pK bs) == bs) = decB bs := by
  unfold decB
  rcases encV_len (pK bs) with h | h
  · by_cases e : encV (pK bs) = bs
    · rw [e] at h
      have h1 : decide (331 ≤ bs.length) = false := by simp; omega
      have h2 : (bs.length == 333) = false := by simp; omega
      rw [h1, h2, Bool.and_false, Bool.false_and]
    · have : (encV (pK bs) == bs) = false := by simpa using e
      rw [this, Bool.and_false, Bool.false_and]
  · by_cases e : encV (pK bs) = bs
    · rw [e] at h
      have h1 : decide (331 ≤ bs.length) = true := by simp; omega
      have h2 : (bs.length == 333) = true := by simp; omega
      rw [h1, h2, Bool.and_true, Bool.true_and]
    · have : (encV (pK bs) == bs) = false := by simpa using e
      rw [this, Bool.and_false, Bool.false_and]
theorem strOf_inj : ∀ {xs ys : List Int}, AllB xs → AllB ys → strOfNums xs = strOfNums ys → xs = ys := by
  intro xs ys hx hy h
  have h1 : xs.map (fun n => UInt8.ofNat n.toNat) = ys.map (fun n => UInt8.ofNat n.toNat) := by
    have := congrArg (fun s : ByteArray => s.data.toList) h
    simpa [strOfNums_data] using this
  clear h
  induction xs generalizing ys with
  | nil => cases ys with
    | nil => rfl
    | cons y ys => simp at h1
  | cons x xs ih => cases ys with
    | nil => simp at h1
    | cons y ys =>
      simp only [List.map_cons, List.cons.injEq] at h1
      have a := hx x (by simp)
      have b := hy y (by simp)
      have e1 := congrArg UInt8.toNat h1.1
      have a1 := a.1; have a2 := a.2; have b1 := b.1; have b2 := b.2
      have hx2 : (UInt8.ofNat x.toNat).toNat = x.toNat := by simp [UInt8.toNat_ofNat']; omega
      have hy2 : (UInt8.ofNat y.toNat).toNat = y.toNat := by simp [UInt8.toNat_ofNat']; omega
      rw [hx2, hy2] at e1
      have e2 : x = y := by omega
      rw [e2, ih (fun z hz => hx z (by simp [hz])) (fun z hz => hy z (by simp [hz])) h1.2]
theorem byteArr_beq (x y : ByteArray) : (x == y) = decide (x = y) := by
  obtain ⟨a⟩ := x
  obtain ⟨b⟩ := y
  show (a == b) = _
  by_cases h : a = b
  · subst h; simp
  · have : ¬ (ByteArray.mk a = ByteArray.mk b) := fun e => h (ByteArray.mk.inj e)
    simp [h, this]
theorem str_beq {xs ys : List Int} (hx : AllB xs) (hy : AllB ys) : (strOfNums xs == strOfNums ys) = (xs == ys) := by
  rw [byteArr_beq]
  by_cases h : xs = ys
  · subst h; simp
  · have h2 : strOfNums xs ≠ strOfNums ys := fun e => h (strOf_inj hx hy e)
    have e2 : (xs == ys) = false := by simpa using h
    rw [e2]; simpa using h2
theorem conv_byt {w : World} {a : Option Addr} {n c : Nat} {xs : List Int} (h : BytAt w a xs) (hx : xs.length = n) : (convert 38 9 (.slice a n c)).run Try.prog w = .ok (.string (strOfNums xs)) w := by
  rcases h with rfl | ⟨b, o, rfl, hb, hc⟩
  · obtain rfl : n = 0 := by simpa using hx.symm
    rw [run_convert_bytes_string w 38 9 5 a 0 c Try.underlying38 Try.underlying5 Try.underlying9]
    cases a with
    | none => simp [Conv.bytesToString]; rfl
    | some x =>
      rw [run_bytesToString w x 0 c [] (by simp [loadCells, loadCellsFrom])]
      rfl
  · exact run_convert_bytes_arg w 38 5 Try.underlying38 Try.underlying5 b o n c xs hx (fun i hi => hc i (by omega)) 9 Try.underlying9
end Go.Proofs.Ytkdiniaddnhkdaa
