/-
  Contracts of slices.Grow (of nil) and slices.Concat, at words.
-/
import Derived.Test.YtcdllelbdcacjaaGraph13
import Derived.Lib.AppendZerosOnto
import Derived.Lib.AppendZeros
import Derived.Laws.AppendOwnNone
set_option linter.unusedVariables false
set_option linter.unusedSimpArgs false
namespace Go.Proofs.Ytcdllelbdcacjaa
open Go.RowKit

/-- a slice that reads as these numbers -/
def ReadsU (w : World) (v : Value) (zs : List Int) : Prop :=
  ∃ (A : Option Addr) (cap : Nat), v = .slice A zs.length cap ∧ (zs.length = 0 ∨ ∃ g o, A = some ⟨g, o, none⟩ ∧ g < w.heap.size ∧ ∀ j, j < zs.length → w.cell? ⟨g, o + j, none⟩ = some (.int .u64 (zs.getD j 0)))

/-- a slice of whole numbers that lies in a block of the call's own -/
def OwnU (base : Nat) (w : World) (t : Value) (l : List Int) : Prop := w.ownsRow base 29 1 t l.length (l.map (Value.int .u64))

theorem ownU_nil (base : Nat) (w : World) : OwnU base w (.slice none 0 0) [] := World.ownsRow_nil _ _ _ _
theorem OwnU.chg {S : Nat → Prop} {base : Nat} {w w' : World} {t : Value} {l : List Int} (h : OwnU base w t l) (c : Chg S w w') (hn : ∀ k, t.ownBlock = some k → ¬ S k) : OwnU base w' t l := c.owns h hn

/-- a list of some length: where it lies, and its numbers -/
theorem OwnU.at {base : Nat} {w : World} {t : Value} {l : List Int} (h : OwnU base w t l) (hl : 0 < l.length) : ∃ (g c : Nat), t = .slice (some ⟨g, 0, none⟩) l.length c ∧ base ≤ g ∧ g < w.heap.size ∧ ∀ j, j < l.length → w.cell? ⟨g, j, none⟩ = some (.int .u64 (l.getD j 0)) := by
  obtain ⟨g, c, hv, hg1, hg2⟩ := World.ownsRow.form h hl
  refine ⟨g, c, hv, hg1, hg2, fun j hj => ?_⟩
  have := World.ownsRow.cells h (g := g) (by rw [hv]; rfl) j (.int .u64 (l.getD j 0)) (by simp [hj])
  rw [Go.WideShapes.add_plain, Nat.zero_add] at this
  exact this
theorem OwnU.shape {base : Nat} {w : World} {t : Value} {l : List Int} (h : OwnU base w t l) : ∃ (A : Option Addr) (c : Nat), t = .slice A l.length c := by
  rcases h.2 with ⟨hv, hn⟩ | ⟨g, cap, cur, hv, _⟩
  · exact ⟨none, 0, by rw [hv, hn]⟩
  · exact ⟨_, cap, hv⟩

theorem ownU_reads {base : Nat} {w : World} {t : Value} {l : List Int} (h : OwnU base w t l) : ReadsU w t l := by
  by_cases h0 : l.length = 0
  · obtain ⟨A, c, rfl⟩ := h.shape
    exact ⟨A, c, rfl, .inl h0⟩
  · obtain ⟨g, c, rfl, hg1, hg2, hg3⟩ := h.at (by omega)
    exact ⟨_, c, rfl, .inr ⟨g, 0, rfl, hg2, fun j hj => by rw [Nat.zero_add]; exact hg3 j hj⟩⟩

/-- a slice that reads as these numbers: nil, or somewhere in a block -/
def SrcU (w : World) (v : Value) (zs : List Int) : Prop :=
  (v = .slice none 0 0 ∧ zs = []) ∨ ∃ g o cap, v = .slice (some ⟨g, o, none⟩) zs.length cap ∧ g < w.heap.size ∧ ∀ j, j < zs.length → w.cell? ⟨g, o + j, none⟩ = some (.int .u64 (zs.getD j 0))
theorem SrcU.reads {w : World} {v : Value} {zs : List Int} (h : SrcU w v zs) : ReadsU w v zs := by
  rcases h with ⟨rfl, rfl⟩ | ⟨g, o, cap, rfl, hg, hc⟩
  · exact ⟨none, 0, rfl, .inl rfl⟩
  · exact ⟨_, cap, rfl, .inr ⟨g, o, rfl, hg, hc⟩⟩
theorem SrcU.chg {S : Nat → Prop} {w w' : World} {v : Value} {zs : List Int} (h : SrcU w v zs) (c : Chg S w w') (hn : ∀ k, v.ownBlock = some k → ¬ S k) : SrcU w' v zs := by
  rcases h with h | ⟨g, o, cap, rfl, hg, hc⟩
  · exact .inl h
  · exact .inr ⟨g, o, cap, rfl, Nat.lt_of_lt_of_le hg c.size, fun j hj => (c.cell hg (hn g rfl)).trans (hc j hj)⟩
theorem ownU_src {base : Nat} {w : World} {t : Value} {l : List Int} (h : OwnU base w t l) : SrcU w t l := by
  rcases h.2 with ⟨hv, hn⟩ | ⟨g, cap, cur, hv, _⟩
  · exact .inl ⟨hv, List.length_eq_zero_iff.1 hn⟩
  · refine .inr ⟨g, 0, cap, hv, ?_, fun j hj => ?_⟩
    · exact (World.ownsRow.lt h g (by rw [hv]; rfl)).2
    · have := World.ownsRow.cells h (g := g) (by rw [hv]; rfl) j (.int .u64 (l.getD j 0)) (by simp [hj])
      rw [Go.WideShapes.add_plain] at this
      exact this
theorem ownU_base {B D : Nat} {w : World} {t : Value} {l : List Int} (h : OwnU B w t l) (hD : D ≤ B) : OwnU D w t l := by
  obtain ⟨h1, h2⟩ := h
  refine ⟨h1, ?_⟩
  rcases h2 with h2 | ⟨g, cap, cur, hv, hg, r⟩
  · exact .inl h2
  · exact .inr ⟨g, cap, cur, hv, Nat.le_trans hD hg, r⟩
/-- lists one behind the other -/
def joins (X : Nat → List Int) : Nat → List Int
  | 0 => []
  | m + 1 => joins X m ++ X m

theorem joins_le (X : Nat → List Int) : ∀ {j m : Nat}, j ≤ m → (joins X j).length ≤ (joins X m).length
  | j, 0, h => by obtain rfl : j = 0 := by omega
                  exact Nat.le_refl _
  | j, m + 1, h => by
    by_cases e : j = m + 1
    · subst e; exact Nat.le_refl _
    · have := joins_le X (j := j) (m := m) (by omega)
      show _ ≤ (joins X m ++ X m).length
      rw [List.length_append]
      omega

set_option maxRecDepth 100000 in
set_option maxHeartbeats 1000000 in
theorem growU_nil (w : World) (n : Nat) (hn : n ≤ 17592186044416) :
    Calls Try.prog 53 #[.slice none 0 0, .int .i64 n] w fun e w' => ∃ t, e = .returned t ∧ OwnU w.heap.size w' t [] ∧ Chg (fun _ => False) w w' := by
  by_cases h0 : n = 0
  · subst h0
    go_enter Try.func53, Try.ntmps53
    go_wp2
    go_ret
    exact ⟨_, rfl, ownU_nil _ _, Chg.refl _ _⟩
  · obtain ⟨i0, hi, hz0, hz1, hz2⟩ := info_parts info64
    have hold : (Builtin.firstCells i0.size 0 (.slice none 0 0)).run Try.prog w.drew = .ok ([] : List Value).toArray w.drew := run_firstCells_none w.drew i0.size 0 0 0
    have hfit : Builtin.nextslicecap (0 + n) 0 * i0.bytes ≤ 281474976710656 := growslice_fits (by omega) (by rw [hz2]; omega)
    have hr := fun ty => Lib.run_append_grow_zeros (P := Try.prog) w 71 3 ty 29 i0 (.int .u64 0) .i64 .i64 Try.underlying71 Try.underlying3 hi hz0 none 0 0 [] hold n (by omega) (by rw [hz1]; decide) (by omega) (by omega) (by rw [hz2]; omega) hfit
    have hge := grownCap_ge w (0 + n) 0 29
    have hle := grownCap_le_maxLen w (0 + n) 0 29 (by unfold maxLen; omega)
    rw [Nat.zero_add] at hr hge hle
    obtain ⟨G, hG⟩ : ∃ G, G = grownCap w n 0 29 := ⟨_, rfl⟩
    rw [← hG] at hr hge hle
    have hn0 : (0 : Int) < (n : Int) := by omega
    have hG63 : G ≤ 9223372036854775807 := by unfold maxLen at hle; omega
    have HLE := hid hle
    clear hG hle hold hfit
    go_enter Try.func53, Try.ntmps53
    go_wp2_with (at_builtin; refine Lib.wpList_append_run _ rfl _ _ _ _ rfl _ _ rfl rfl _ _ (hr _) ?_)
    all_goals (go_ret; refine ⟨_, rfl, ?_, ((Chg.refl _ w).drew.alloc _)⟩)
    exact World.ownsRow_made w.drew _ G (Nat.le_refl _) HLE.out (by
      simp only [Array.size_append, size_zeroCells]
      simp [Value.cells]
      omega)

set_option maxRecDepth 100000 in
set_option maxHeartbeats 2000000 in
theorem concat_u (w : World) (b m cap : Nat) (S : Nat → Value) (X : Nat → List Int) (hb : ∀ j, j < m → w.cell? ⟨b, j, none⟩ = some (S j)) (hr : ∀ j, j < m → SrcU w (S j) (X j)) (hbl : b < w.heap.size) (hm : m ≤ 65536) (htot : (joins X m).length ≤ 17592186044416) :
    Calls Try.prog 42 #[.slice (some ⟨b, 0, none⟩) m cap] w fun e w' => ∃ t, e = .returned t ∧ Chg (fun _ => False) w w' ∧ OwnU w.heap.size w' t (joins X m) := by
  obtain ⟨i0, hi, hz0, hz1, hz2⟩ := info_parts info64
  have HB := hid hb
  have HR := hid hr
  have HT := hid htot
  obtain ⟨B, hB⟩ : ∃ B : Nat, B = w.heap.size := ⟨_, rfl⟩
  have HBB := hid hB
  rw [← hB]
  clear hB
  clear hb hr htot
  go_enter Try.func42, Try.ntmps42
  go_upto_block 0 with fail
  go_cut [3, 5, 11] (fun s3 s5 s11 wx => s3 = .int .i64 ((joins X m).length : Int) ∧ w = wx)
  case first =>
    go_wp2_with fail
    go_loopw [3, 5, 11] (fun s3 s5 i wr => ∃ k : Nat, k ≤ m ∧ i = .int .i64 k ∧ s3 = .int .i64 ((joins X k).length : Int) ∧ w = wr) (fun _ _ i _ => m - (intOf i).toNat)
    case atStart => exact ⟨0, by omega, rfl, rfl, rfl⟩
    case round =>
      obtain ⟨k, hk, rfl, rfl, rfl⟩ := hrel
      by_cases hlt : k < m
      · have hlt' : (k : Int) < (m : Int) := by omega
        have hc := HB.out k hlt
        obtain ⟨A, c, hS, _⟩ := (HR.out k hlt).reads
        rw [hS] at hc
        have h1 := joins_le X (j := k + 1) (m := m) (by omega)
        have h2 : (joins X (k + 1)).length = (joins X k).length + (X k).length := by show (joins X k ++ X k).length = _; rw [List.length_append]
        have h3 := HT.out
        have H2 := hid h2
        have h4 : (joins X k).length + (X k).length ≤ 17592186044416 := by omega
        clear hS h1 h2 h3
        revert h4 H2
        generalize (joins X k).length = a
        generalize (X k).length = d at hc ⊢
        intro H2 h4
        go_wp2_with fail
        go_roundw
        case rel => exact ⟨k + 1, by omega, by go_num, by rw [H2.out]; go_num, by first | trivial | rfl⟩
        case measure => simp [intOf]; omega
      · obtain rfl : k = m := by omega
        go_wp2_with fail
        go_meet
        exact ⟨rfl, rfl⟩
  case rest =>
  obtain ⟨rfl, rfl⟩ := hcut
  have hT2 := HT.out
  have HG := hid (growU_nil w (joins X m).length HT.out)
  go_wp2_with (go_at_call 53; refine HG.out.mono ?_; rintro e w1 ⟨t1, rfl, hown, hc1⟩; have HO1 := hid hown; have HC1 := hid hc1; clear hown hc1)
  go_loopw [6, 8, 27] (fun v s8 i wr => ∃ k : Nat, k ≤ m ∧ i = .int .i64 k ∧ OwnU B wr v (joins X k) ∧ Chg (fun _ => False) w wr) (fun _ _ i _ => m - (intOf i).toNat)
  case atStart => exact ⟨0, by omega, rfl, by rw [HBB.out]; exact HO1.out, HC1.out⟩
  case round =>
    obtain ⟨k, hk, rfl, hown, hcw⟩ := hrel
    have hO := hid hown
    have HC := hid hcw
    have hsz : B ≤ wr.heap.size := by rw [HBB.out]; exact hcw.size
    have hbw : wr.cell? ⟨b, k, none⟩ = w.cell? ⟨b, k, none⟩ := hcw.cell hbl (by simp)
    clear hown hcw
    by_cases hlt : k < m
    · have hlt' : (k : Int) < (m : Int) := by omega
      have hc := hbw.trans (HB.out k hlt)
      have h1 := joins_le X (j := k + 1) (m := m) (by omega)
      have h2 : (joins X (k + 1)).length = (joins X k).length + (X k).length := by show (joins X k ++ X k).length = _; rw [List.length_append]
      have h4 := hid (show (joins X k).length + (X k).length ≤ 17592186044416 by omega)
      clear h1 h2 hbw
      rcases HR.out k hlt with ⟨hS, hX⟩ | ⟨g, o, c, hS, hg, hX⟩
      · rw [hS] at hc
        clear hS
        go_wp2_with (at_builtin; refine wpList_append_own_none rfl _ _ 71 rfl B 29 i0 1 Try.underlying71 hi _ _ _ rfl hO.out rfl ?_)
        go_roundw
        case rel =>
          refine ⟨k + 1, by omega, by go_num, ?_, HC.out⟩
          have e : joins X (k + 1) = joins X k := by show joins X k ++ X k = _; rw [hX, List.append_nil]
          rw [e]
          exact hO.out
        case measure => simp [intOf]; omega
      · rw [hS] at hc
        have hX2 := hid (fun (j : Nat) (u : Value) (hu : ((X k).map (Value.int .u64))[j]? = some u) => (show wr.cell? ((⟨g, o, none⟩ : Addr).add j) = some u by
          have hj : j < (X k).length := by
            have := (List.getElem?_eq_some_iff.1 hu).1
            rwa [List.length_map] at this
          rw [Go.WideShapes.add_plain, HC.out.cell hg (by simp), hX j hj, ← hu]
          simp [hj]))
        clear hS hX
        go_wp2_with (at_builtin; refine wpList_append_own _ rfl _ _ 71 rfl B 29 i0 (.int .u64 0) 1 8 Try.underlying71 hi hz0 hz1 hz2 rfl (by decide) _ _ _ rfl hO.out ⟨g, o, none⟩ (X k).length c ((X k).map (Value.int .u64)) rfl (by simp) hX2.out ?c2 ?c3 ?c4 hsz ?_)
        case c2 => intro u hu; rw [List.mem_map] at hu; obtain ⟨x, _, rfl⟩ := hu; rfl
        case c3 => have := h4.out; unfold maxLen; omega
        case c4 => have := h4.out; omega
        intro v' w2 hown' hgrow _
        have hO' := hid hown'
        have hG := hid hgrow
        clear hown' hgrow
        go_wp2_with fail
        go_roundw
        case rel =>
          refine ⟨k + 1, by omega, by go_num, ?_, ?_⟩
          · have := hO'.out
            show OwnU B w2 v' (joins X k ++ X k)
            unfold OwnU
            rw [List.map_append, List.length_append]
            exact this
          · have hg2 : Chg (fun x => B ≤ x) wr w2 := (Chg.refl (fun x => B ≤ x) wr).grown hG.out (fun x hx => .inl (hO.out.lt x hx).1)
            exact HC.out.next hg2 (fun x hx hx2 => by have := HBB.out; omega)
        case measure => simp [intOf]; omega
    · obtain rfl : k = m := by omega
      go_wp2_with fail
      go_ret
      exact ⟨_, rfl, HC.out, hO.out⟩
end Go.Proofs.Ytcdllelbdcacjaa
