/-
  Slices of whole numbers that read alike: gleanerref01.Same.
-/
import Derived.Test.YthmjjmimmbgpaaaHeap
import Derived.Test.YthmjjmimmbgpaaaRows
set_option linter.unusedVariables false
set_option linter.unusedSimpArgs false
namespace Go.Proofs.Ythmjjmimmbgpaaa
open Go.RowKit

/-- a slice that reads as these numbers -/
def Reads (w : World) (v : Value) (zs : List Int) : Prop :=
  ∃ (A : Option Addr) (cap : Nat), v = .slice A zs.length cap ∧ (zs.length = 0 ∨ ∃ g o, A = some ⟨g, o, none⟩ ∧ g < w.heap.size ∧ ∀ j, j < zs.length → w.cell? ⟨g, o + j, none⟩ = some (.int .i64 (zs.getD j 0)))

theorem Reads.drewN {w : World} {v : Value} {zs : List Int} (h : Reads w v zs) (k : Nat) : Reads (w.drewN k) v zs := h
theorem Reads.chg {S : Nat → Prop} {w w' : World} {v : Value} {zs : List Int} (h : Reads w v zs) (c : Chg S w w') (hn : ∀ k, v.ownBlock = some k → ¬ S k) : Reads w' v zs := by
  obtain ⟨A, cap, rfl, h⟩ := h
  refine ⟨A, cap, rfl, ?_⟩
  rcases h with h | ⟨g, o, rfl, hg, h⟩
  · exact .inl h
  · exact .inr ⟨g, o, rfl, Nat.lt_of_lt_of_le hg c.size, fun j hj => (c.cell hg (hn g rfl)).trans (h j hj)⟩

set_option maxRecDepth 100000 in
set_option maxHeartbeats 1000000 in
theorem same_true (w : World) (a b : Value) (zs : List Int) (ha : Reads w a zs) (hb : Reads w b zs) (hl : zs.length ≤ 9223372036854775807) :
    Calls Try.prog 15 #[a, b] w fun e w' => e = .returned (.bool true) ∧ ∃ k, w' = w.drewN k := by
  obtain ⟨A, c, rfl, hA⟩ := ha
  obtain ⟨B, d, rfl, hB⟩ := hb
  have HA := hid hA
  have HB := hid hB
  clear hA hB
  go_enter Try.func15, Try.ntmps15
  go_wp2
  go_loopw [5] (fun i wr => ∃ (k n : Nat), k ≤ zs.length ∧ i = .int .i64 k ∧ wr = w.drewN n) (fun i _ => zs.length - (intOf i).toNat)
  case atStart => exact ⟨0, 0, by omega, rfl, rfl⟩
  case round =>
    obtain ⟨k, n, hk, rfl, rfl⟩ := hrel
    by_cases hlt : k < zs.length
    · rcases HA.out with h0 | ⟨g, o, rfl, _, hg⟩
      · omega
      rcases HB.out with h0 | ⟨g', o', rfl, _, hg'⟩
      · omega
      have hg := hg k hlt
      have hg' := hg' k hlt
      revert hg hg'
      generalize zs.getD k 0 = z
      intro hg hg'
      have hlt' : (k : Int) < (zs.length : Int) := by omega
      go_wp2
      go_quiet (fail)
      go_wp2
      go_roundw
      case rel => exact ⟨k + 1, n + nq, by omega, by go_num, rfl⟩
      case measure => simp [intOf]; omega
    · obtain rfl : k = zs.length := by omega
      go_wp2
      go_ret
      exact ⟨rfl, _, rfl⟩
end Go.Proofs.Ythmjjmimmbgpaaa
