/-
  Graphs (layer 13): lists that are alike; a script's weight; the calls that the layer's statements make first; GraphNil.
-/
import Derived.Test.YtcdllelbdcacjaaGraph14
import Derived.Test.YtcdllelbdcacjaaOpen2
set_option linter.unusedVariables false
set_option linter.unusedSimpArgs false
namespace Go.Proofs.Ytcdllelbdcacjaa
open Go.RowKit Go.Maps

set_option maxRecDepth 100000 in
set_option maxHeartbeats 1000000 in
theorem same13_true (w : World) (a b : Value) (zs : List Int) (ha : IntsIn .u64 w a zs) (hb : IntsIn .u64 w b zs) (hl : zs.length ≤ 9223372036854775807) :
    Calls Try.prog 31 #[a, b] w fun e w' => e = .returned (.bool true) ∧ ∃ k, w' = w.drewN k := by
  obtain ⟨A, c, rfl, hA⟩ := ha
  obtain ⟨B, d, rfl, hB⟩ := hb
  have HA := hid hA
  have HB := hid hB
  clear hA hB
  go_enter Try.func31, Try.ntmps31
  go_wp2
  go_loopw [5] (fun i wr => ∃ (k n : Nat), k ≤ zs.length ∧ i = .int .i64 k ∧ wr = w.drewN n) (fun i _ => zs.length - (intOf i).toNat)
  case atStart => exact ⟨0, 0, by omega, rfl, rfl⟩
  case round =>
    obtain ⟨k, n, hk, rfl, rfl⟩ := hrel
    by_cases hlt : k < zs.length
    · obtain ⟨g, rfl, hg⟩ := HA.out k hlt
      obtain ⟨g', rfl, hg'⟩ := HB.out k hlt
      revert hg hg'
      generalize zs.getD k 0 = z
      intro hg hg'
      have hlt' : (k : Int) < (zs.length : Int) := by omega
      go_wp2
      go_quiet (fail)
      go_wp2
      go_roundw
      case rel => exact ⟨k + 1, n + nq, by omega, by go_num, rfl⟩
      case measure => simp [intOf]; omega
    · obtain rfl : k = zs.length := by omega
      go_wp2
      go_ret
      exact ⟨rfl, _, rfl⟩

/-- a slice of acts that came in -/
abbrev Acts (w : World) (a : Option Addr) (len : Nat) (z : Nat → Nat → Int) : Prop := IsTab [.i64, .i64, .i64, .i64, .i64, .u64] w a len z

theorem acts_cells {w : World} {a : Option Addr} {len : Nat} {z : Nat → Nat → Int} (h : Acts w a len z) {i : Nat} (hi : i < len) : ∃ b off : Nat, a = some ⟨b, off, none⟩ ∧ b < w.heap.size ∧ len ≤ 9223372036854775807 ∧
    w.cell? ⟨b, off + i * 6, none⟩ = some (.int .i64 (z i 0)) ∧ w.cell? ⟨b, off + i * 6 + 1, none⟩ = some (.int .i64 (z i 1)) ∧ w.cell? ⟨b, off + i * 6 + 2, none⟩ = some (.int .i64 (z i 2)) ∧
    w.cell? ⟨b, off + i * 6 + 3, none⟩ = some (.int .i64 (z i 3)) ∧ w.cell? ⟨b, off + i * 6 + 4, none⟩ = some (.int .i64 (z i 4)) ∧ w.cell? ⟨b, off + i * 6 + 5, none⟩ = some (.int .u64 (z i 5)) := by
  rcases h with h | ⟨b, off, rfl, hb, h0, hl, hc⟩
  · omega
  · exact ⟨b, off, rfl, hb, hl, (hc i hi 0 _ rfl).1, (hc i hi 1 _ rfl).1, (hc i hi 2 _ rfl).1, (hc i hi 3 _ rfl).1, (hc i hi 4 _ rfl).1, (hc i hi 5 _ rfl).1⟩

set_option maxRecDepth 100000 in
set_option maxHeartbeats 2000000 in
theorem heavy_any (w : World) (a : Option Addr) (len cap : Nat) (z : Nat → Nat → Int) (h : Acts w a len z) :
    Calls Try.prog 26 #[.slice a len cap] w fun e w' => ∃ (c : Bool) (n : Nat), e = .returned (.bool c) ∧ w' = w.drewN n := by
  have H := hid h
  clear h
  go_enter Try.func26, Try.ntmps26
  go_wp2
  go_loopw [3, 4] (fun s3 i wr => ∃ (k n : Nat) (s : Int), k ≤ len ∧ i = .int .i64 k ∧ s3 = .int .i64 s ∧ wr = w.drewN n) (fun _ i _ => len - (intOf i).toNat)
  case atStart => exact ⟨0, 0, 0, by omega, rfl, rfl, rfl⟩
  case round =>
    obtain ⟨k, n, s, hk, rfl, rfl, rfl⟩ := hrel
    by_cases hlt : k < len
    · obtain ⟨b, off, rfl, hb, hl, c0, c1, c2, c3, c4, c5⟩ := acts_cells H.out hlt
      have hlt' : (k : Int) < (len : Int) := by omega
      clear c0 c4 c5
      revert c1 c2 c3
      generalize z k 1 = z1
      generalize z k 2 = z2
      generalize z k 3 = z3
      intro c1 c2 c3
      by_cases h1 : z1 = 1
      · subst h1
        go_wp2
        go_quiet (fail)
        go_wp2
        go_roundw
        case rel => exact ⟨k + 1, n + nq, _, by omega, by go_num, rfl, rfl⟩
        case measure => simp [intOf]; omega
      · go_wp2
        go_roundw
        case rel => exact ⟨k + 1, n, _, by omega, by go_num, rfl, rfl⟩
        case measure => simp [intOf]; omega
    · obtain rfl : k = len := by omega
      go_wp2
      go_ret
      exact ⟨_, _, rfl, rfl⟩
end Go.Proofs.Ytcdllelbdcacjaa
