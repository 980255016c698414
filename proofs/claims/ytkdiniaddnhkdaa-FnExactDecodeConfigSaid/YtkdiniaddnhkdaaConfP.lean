/- Configurations that a call has made or given back, as the exact laws compare and mark them. -/
import Derived.Test.YtkdiniaddnhkdaaConfQ
import Derived.Test.YtkdiniaddnhkdaaConfS
import Derived.Test.YtkdiniaddnhkdaaConfU
namespace Go.Proofs.Ytkdiniaddnhkdaa
open Go.RowKit
set_option maxRecDepth 100000
set_option linter.unusedVariables false
set_option linter.unusedSimpArgs false
theorem OwnK.blk {w : World} {base : Nat} {tv pv : Value} {us : List Value} {K : Conf} (h : OwnK w base tv pv us K) {q : Nat} (hq : BlkK tv pv us K.ts.length q) : base ≤ q ∧ q < w.heap.size := by
  rcases hq with h1 | h1
  · exact h.ts.blk h1
  · exact World.ownsRow.lt h.ps q h1
theorem OwnK.only {S : Nat → Prop} {w w' : World} {base : Nat} {tv pv : Value} {us : List Value} {K : Conf} (h : OwnK w base tv pv us K) (m : OnlyIn S w w') (hs : ∀ q, BlkK tv pv us K.ts.length q → ¬ S q) : OwnK w' base tv pv us K :=
  { h with
    ts := { h.ts with
      row := ownsRow_only h.ts.row m (fun q hq => hs q (.inl (.inl hq)))
      els := { h.ts.els with el := fun j hj => ownsRow_only (h.ts.els.el j hj) m (fun q hq => hs q (.inl (.inr ⟨j, by rw [flT_length] at hj; exact hj, hq⟩))) } }
    ps := ownsRow_only h.ps m (fun q hq => hs q (.inr hq)) }
theorem OnlyIn.ofMid {b N : Nat} {w w' : World} (h : Mid b N w w') : OnlyIn (fun q => b ≤ q ∧ q < N) w w' :=
  ⟨h.os, h.tape, h.output, h.size, fun k hk hn => h.block k hk (by omega)⟩
theorem ConfIn.ext {w w' : World} {k : Conf} {ta pa : Option Addr} {tc pc : Nat} (h : ConfIn w k ta tc pa pc) (e : Ext w w') : ConfIn w' k ta tc pa pc := { h with ts := h.ts.ext e, ps := h.ps.ext e }
structure SmallK (K : Conf) : Prop where
  lt : K.ts.length ≤ 1048576
  lp : K.ps.length ≤ 1048576
  ls : ∀ j, j < K.ts.length → (K.ts.getD j tile0).sl.length ≤ 1048576 ∧ (K.ts.getD j tile0).dr.length ≤ 1048576
  tm : totM K.ts ≤ 10000000
theorem szTl_tot : ∀ (ts : List Tile) (l : Int), ¬ szTl ts l < 0 → (totM ts : Int) ≤ 2 * ts.length + (l - szTl ts l)
  | [], l, _ => by simp [totM, szTl]
  | x :: xs, l, h => by
    unfold szTl at *
    split at h <;> rename_i h1
    · omega
    · rw [if_neg h1]
      have h2 := szT_ok h1
      have h3 := szTl_tot xs (szT x l) h
      have e : totM (x :: xs) = szM x + totM xs := rfl
      rw [e]; unfold szM
      simp only [List.length_cons]
      omega
theorem szK_small {k : Conf} {l : Int} (h : ¬ szK k l < 0) (hl : l ≤ 1048576) : SmallK k ∧ 0 ≤ szK k l ∧ szK k l ≤ l := by
  obtain ⟨a, b, c, d, e⟩ := szK_ok h hl
  refine ⟨⟨c, d, e, ?_⟩, a, b⟩
  unfold szK at h
  split at h <;> rename_i h1
  · omega
  · unfold szTs at h1 h
    split at h1 <;> rename_i h3
    · omega
    · have h4 := szTl_ok k.ts _ (by omega) h1
      have h5 := szTl_tot k.ts _ h1
      omega
structure RepConf (w : World) (b N : Nat) (tv pv : Value) (K : Conf) : Prop where
  ex : ∃ us, OwnK w b tv pv us K ∧ ∀ q, BlkK tv pv us K.ts.length q → q < N
  s : SmallK K
section
variable {w w' : World} {b b2 N : Nat} {tv pv : Value} {K : Conf}
theorem RepConf.ext (h : RepConf w b N tv pv K) (e : Ext w w') : RepConf w' b N tv pv K := by
  obtain ⟨⟨us, h1, h2⟩, h3⟩ := h
  exact ⟨⟨us, h1.ext e, h2⟩, h3⟩
theorem RepConf.le (h : RepConf w b N tv pv K) (hb : b2 ≤ b) : RepConf w b2 N tv pv K := by
  obtain ⟨⟨us, h1, h2⟩, h3⟩ := h
  exact ⟨⟨us, h1.le hb, h2⟩, h3⟩
theorem RepConf.hi {n m : Nat} (h : RepConf w b N tv pv K) (g : Mid n m w w') (hb : m ≤ b) : RepConf w' b N tv pv K := by
  obtain ⟨⟨us, h1, h2⟩, h3⟩ := h
  exact ⟨⟨us, h1.only (OnlyIn.ofMid g) (fun q hq e => by have := (h1.blk hq).1; omega), h2⟩, h3⟩
theorem RepConf.mid {n m : Nat} (h : RepConf w b N tv pv K) (g : Mid n m w w') (hb : b < n ∨ m ≤ b) (hx : m ≤ b := by omega) : RepConf w' b N tv pv K := h.hi g hx
theorem RepConf.sl (h : RepConf w b N tv pv K) : ∃ ta tc pa pc, tv = .slice ta K.ts.length tc ∧ pv = .slice pa K.ps.length pc := by
  obtain ⟨⟨us, h1, h2⟩, h3⟩ := h
  exact h1.sl
theorem RepConf.at_ {ta pa : Option Addr} {n m tc pc : Nat} (h : RepConf w b N (.slice ta n tc) (.slice pa m pc) K) : ConfAt w K ta pa := by
  obtain ⟨⟨us, h1, h2⟩, h3⟩ := h
  exact h1.at_ h3.lt h3.lp h3.ls
theorem GiveConf.rep {e : Ending} (h : GiveK w K e w') (hs : SmallK K := by assumption) : ∃ ta n tc pa m pc, e = .returned (.agg #[.slice ta n tc, .slice pa m pc]) ∧ RepConf w' w.heap.size w'.heap.size (.slice ta n tc) (.slice pa m pc) K ∧ Ext w w' := by
  obtain ⟨tv, pv, us, h1, h2, h3⟩ := h
  obtain ⟨ta, tc, pa, pc, rfl, rfl⟩ := h2.sl
  exact ⟨ta, _, tc, pa, _, pc, h1, ⟨⟨us, h2, fun q hq => (h2.blk hq).2⟩, hs⟩, h3⟩
theorem toConfig_r (K : Conf) (ta pa : Option Addr) (tc pc : Nat) (w : World) (hk : ConfAt w K ta pa) (hs : SmallK K) :
    Calls Try.prog 19 #[.agg #[.slice ta K.ts.length tc, .slice pa K.ps.length pc]] w fun e w' => ∃ ta' tc' pa' pc', e = .returned (.agg #[.slice ta' K.ts.length tc', .slice pa' K.ps.length pc']) ∧ RepConf w' w.heap.size w'.heap.size (.slice ta' K.ts.length tc') (.slice pa' K.ps.length pc') K ∧ Ext w w' := by
  refine (toConfig_c K ta pa tc pc w hk).mono ?_
  rintro e w' ⟨tv, pv, us, rfl, h2, h3⟩
  obtain ⟨ta', tc', pa', pc', rfl, rfl⟩ := h2.sl
  exact ⟨ta', tc', pa', pc', rfl, ⟨⟨us, h2, fun q hq => (h2.blk hq).2⟩, hs⟩, h3⟩
theorem eqConfig_R {b3 N3 : Nat} {ta pa ta' pa' : Option Addr} {n m tc pc n' m' tc' pc' : Nat} (h : RepConf w b N (.slice ta n tc) (.slice pa m pc) K) (h' : RepConf w b3 N3 (.slice ta' n' tc') (.slice pa' m' pc') K) :
    Calls Try.prog 14 #[.agg #[.slice ta n tc, .slice pa m pc], .agg #[.slice ta' n' tc', .slice pa' m' pc']] w fun e w' => e = .returned (.bool true) ∧ Ext w w' := by
  obtain ⟨_, _, _, _, e1, e2⟩ := h.sl
  obtain ⟨_, _, _, _, e3, e4⟩ := h'.sl
  cases e1; cases e2; cases e3; cases e4
  exact eqConfig_c K _ _ _ _ _ _ _ _ w h.at_ h'.at_
theorem markConfig_k {ta pa : Option Addr} {n m tc pc : Nat} (h : RepConf w b N (.slice ta n tc) (.slice pa m pc) K) (k : Int) (h0 : 0 ≤ k) (h1 : k ≤ 50000000) :
    Calls Try.prog 15 #[.agg #[.slice ta n tc, .slice pa m pc], .int .i64 k] w fun e w' => (∃ k', e = .returned (.int .i64 k') ∧ k ≤ k' ∧ k' ≤ k + 20000000) ∧ Mid b N w w' := by
  obtain ⟨_, _, _, _, e1, e2⟩ := h.sl
  cases e1; cases e2
  obtain ⟨⟨us, g1, g2⟩, g3⟩ := h
  have := g3.tm; have := g3.lp
  refine (markConfig_c b ta pa tc pc us K k w g1 h0 (by omega) g3.lt g3.lp g3.ls).mono ?_
  rintro e w' ⟨rfl, o, m⟩
  exact ⟨⟨_, rfl, by omega, by omega⟩, m.mid (fun q hq => ⟨(g1.blk hq).1, g2 q hq⟩)⟩
def MkConf (w : World) (tv pv : Value) (km : Int) : Prop := ∃ K, km = 1 + totM K.ts + 2 * K.ps.length ∧ (∃ ta tc pa pc, tv = .slice ta K.ts.length tc ∧ pv = .slice pa K.ps.length pc ∧ TilesAt w ta (mkTs 1 K.ts) ∧ PadsAt w pa (mksP (1 + totM K.ts) K.ps.length)) ∧ SmallK K
theorem MkConf.ext {k : Int} (h : MkConf w tv pv k) (e : Ext w w') : MkConf w' tv pv k := by
  obtain ⟨K, h1, ⟨ta, tc, pa, pc, e1, e2, h2, h3⟩, h4⟩ := h
  exact ⟨K, h1, ⟨ta, tc, pa, pc, e1, e2, h2.ext e, h3.ext e⟩, h4⟩
theorem MkConf.kb {k : Int} (h : MkConf w tv pv k) : 0 ≤ k ∧ k ≤ 100000000 := by
  obtain ⟨K, rfl, _, h4⟩ := h
  have := h4.tm; have := h4.lp
  omega
theorem markConf_R {ta pa : Option Addr} {n m tc pc : Nat} (h : RepConf w b N (.slice ta n tc) (.slice pa m pc) K) : Calls Try.prog 15 #[.agg #[.slice ta n tc, .slice pa m pc], .int .i64 1] w fun e w' => ∃ km, e = .returned (.int .i64 km) ∧ MkConf w' (.slice ta n tc) (.slice pa m pc) km ∧ Mid b N w w' := by
  obtain ⟨_, _, _, _, e1, e2⟩ := h.sl
  cases e1; cases e2
  obtain ⟨⟨us, g1, g2⟩, g3⟩ := h
  have := g3.tm; have := g3.lp
  refine (markConfig_c b ta pa tc pc us K 1 w g1 (by omega) (by omega) g3.lt g3.lp g3.ls).mono ?_
  rintro e w' ⟨rfl, o, m⟩
  refine ⟨_, rfl, ⟨K, rfl, ⟨_, _, _, _, rfl, rfl, o.ts.tiles, ?_⟩, g3⟩, m.mid (fun q hq => ⟨(g1.blk hq).1, g2 q hq⟩)⟩
  have hps := o.ps
  rw [show (mkK 1 K).ps.length = K.ps.length from mksP_length _ _] at hps
  exact padsAt_of_row (ownsRow_at hps)
theorem heldConf_R {ta pa : Option Addr} {n m tc pc : Nat} {km : Int} (h : MkConf w (.slice ta n tc) (.slice pa m pc) km) : Calls Try.prog 16 #[.agg #[.slice ta n tc, .slice pa m pc], .int .i64 1] w fun e w' => e = .returned (.int .i64 km) ∧ Ext w w' := by
  obtain ⟨K, rfl, ⟨_, _, _, _, e1, e2, h2, h3⟩, h4⟩ := h
  cases e1; cases e2
  have := h4.tm; have := h4.lp
  exact heldConfig_c ta pa tc pc K 1 w h2 h3 (by omega) (by omega) h4.lt h4.lp h4.ls
end
end Go.Proofs.Ytkdiniaddnhkdaa
