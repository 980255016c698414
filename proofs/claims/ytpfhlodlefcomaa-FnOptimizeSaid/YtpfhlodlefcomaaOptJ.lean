/- Contracts: a new builder; the literals of a circuit's own variables. -/
import Derived.Test.YtpfhlodlefcomaaOptI0
import Derived.Test.YtpfhlodlefcomaaDepth
namespace Go.Proofs.Ytpfhlodlefcomaa
open Go.RowKit Go.Maps
set_option maxRecDepth 100000
set_option linter.unusedVariables false
set_option linter.unusedSimpArgs false
def NewBu (w : World) (F : Nat) (e : Ending) (w' : World) : Prop := ∃ bb mb lv ls, e = .returned (.pointer (some ⟨bb, 0, none⟩)) ∧ Bu w' w.heap.size bb mb F [] [] (.slice none 0 0) lv ls ∧ ls.length = F ∧ Ext w w'
theorem newBuilder_c (i n : Int) (F : Nat) (w : World) (h0 : 0 ≤ i) (h1 : i ≤ 4) (h2 : 0 ≤ n) (h3 : n ≤ 3) (hF : 1 + i + n = F) :
    Calls Try.prog 71 #[.int .i64 i, .int .i64 n] w (NewBu w F) := by
  have hm := run_zeros' (P := Try.prog) 23 3 (.int .i64 0) [.int .i64 0] 8 Try.underlying23 intInfo rfl (by decide) (by decide) F (by omega) w
  have hmm := @run_makeMap Try.prog
  have L0 := Blk.at w (zeros [Value.int .i64 0] F) 3 rfl
  have hz : zeros [Value.int .i64 0] F = (List.replicate F (0 : Int)).map (Value.int .i64) := by rw [zeros_one, List.map_replicate]
  have k1 : KnownAt ((w.alloc (.cells (zeros [Value.int .i64 0] F).toArray 3)).alloc (.map #[] 0)) (w.heap.size + 1) F [] := by
    have := KnownAt.made (w.alloc (.cells (zeros [Value.int .i64 0] F).toArray 3)) F
    simpa using this
  have B1 := Blk.at ((w.alloc (.cells (zeros [Value.int .i64 0] F).toArray 3)).alloc (.map #[] 0)) [.int .i64 F, .slice none 0 0, .slice (some ⟨w.heap.size, 0, none⟩) F F, .map (some (w.heap.size + 1))] 91 (B := w.heap.size + 2) (by simp)
  have L1 : Blk ((w.alloc (.cells (zeros [Value.int .i64 0] F).toArray 3)).alloc (.map #[] 0)) w.heap.size 3 ((List.replicate F (0 : Int)).map (Value.int .i64)) := by rw [← hz]; exact L0.alloc _
  have E3 : Ext w (((w.alloc (.cells (zeros [Value.int .i64 0] F).toArray 3)).alloc (.map #[] 0)).alloc (.cells #[.int .i64 F, .slice none 0 0, .slice (some ⟨w.heap.size, 0, none⟩) F F, .map (some (w.heap.size + 1))] 91)) := (((Ext.refl w).alloc _).alloc _).alloc _
  have L2 := L1.alloc (.cells #[.int .i64 F, .slice none 0 0, .slice (some ⟨w.heap.size, 0, none⟩) F F, .map (some (w.heap.size + 1))] 91)
  have k2 := k1.ext ((Ext.refl _).alloc (.cells #[.int .i64 F, .slice none 0 0, .slice (some ⟨w.heap.size, 0, none⟩) F F, .map (some (w.heap.size + 1))] 91))
  have HB := Lib.hid B1
  have HL := Lib.hid L2
  have HK := Lib.hid k2
  clear L0 hz k1 B1 L1 L2 k2
  go_enter Try.func71, Try.ntmps71
  go_wp2
  go_ret
  refine ⟨w.heap.size + 2, w.heap.size + 1, .slice (some ⟨w.heap.size, 0, none⟩) F F, List.replicate F 0, rfl, ?_, by simp, E3⟩
  refine ⟨HB.out, by omega, by omega, by omega, HK.out, ownsRow_nil, ?_, by simp [Value.ownBlock], by simp [Value.ownBlock], by simp [Value.ownBlock], by simp [Value.ownBlock], by simp [Value.ownBlock]⟩
  have := HL.out.owns (n := F) (size := 1) (base := w.heap.size) (by simp) (Nat.le_refl _) (by unfold maxLen; omega)
  simpa using this
theorem own0_take (k : Nat) : own0 (k + 1) = own0 k ++ [2 * (k : Int)] := own0_snoc k
theorem ownLits_c (b : Nat) (c : Circ) (p : Where3) (w : World) (hb : CircBox w b c p) (h0 : 0 ≤ c.inputs) (h1 : c.inputs ≤ 1000) (h2 : c.next.length ≤ 1000) (F : Nat) (hF : c.first = F) :
    Calls Try.prog 72 #[.pointer (some ⟨b, 0, none⟩)] w fun e w' => ∃ v, e = .returned v ∧ w'.ownsRow w.heap.size 3 1 v F ((own0 F).map (Value.int .i64)) ∧ Ext w w' := by
  have hF2 : F ≤ 3000 := by unfold Circ.first at hF; omega
  go_enter Try.func72, Try.ntmps72
  go_wp2_with fail
  refine (firstGate_c b c p _ hb h0 h1 h2).mono ?_
  rw [hF]
  rintro e w1 ⟨rfl, nd, rfl⟩
  have HF := Lib.hid hF
  clear hF
  have E1 : Ext w (w.drewN nd) := Ext.drewN w nd
  generalize w.drewN nd = W1 at *
  go_wp2_with fail
  go_loopw [3, 7] (fun u3 u7 wr => ∃ (k : Nat), k ≤ F ∧ u7 = .int .i64 k ∧ wr.ownsRow w.heap.size 3 1 u3 k ((own0 k).map (Value.int .i64)) ∧ Ext w wr) (fun _ i _ => F - (intOf i).toNat)
  case atStart => exact ⟨0, Nat.zero_le _, rfl, ownsRow_nil, E1⟩
  case round =>
    clear E1
    obtain ⟨k, hk, rfl, hO, hE⟩ := hrel
    obtain ⟨oa, oc, rfl, _⟩ := ownsRow_row hO
    have sE := hE.size
    by_cases hlt : k < F
    · go_wp2_with (at_builtin; refine wpList_app tyInts (ownsRow_ext hO ((Ext.refl _).alloc _)) (RowAt.new wr _ _) rfl (oneCell_int1 _) (by omega) (by simp; omega) rfl rfl rfl rfl ?_; intro v7 w7 o7 g7 m7; obtain ⟨a7, c7, rfl, _⟩ := ownsRow_row o7)
      go_roundw
      case rel =>
        refine ⟨k + 1, by omega, by go_num, ?_, ext_grown (hE.alloc _) g7 (fun k hk => (hO.lt k hk).1)⟩
        rw [own0_take, List.map_append]; exact o7
      case measure => simp [intOf]; omega
    · have hk2 : k = F := by omega
      subst hk2
      go_wp2
      go_ret
      exact ⟨_, rfl, hO, hE⟩
end Go.Proofs.Ytpfhlodlefcomaa
