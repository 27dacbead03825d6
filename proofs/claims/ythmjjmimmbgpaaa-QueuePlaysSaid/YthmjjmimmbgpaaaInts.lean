/-
  Slices of whole numbers that lie in a block of the call's own. No function of the program in sight.
-/
import Derived.Test.YthmjjmimmbgpaaaHeap
import Derived.Test.YthmjjmimmbgpaaaSame
import Derived.Laws.OwnMore
set_option linter.unusedVariables false
set_option linter.unusedSimpArgs false
namespace Go.Proofs.Ythmjjmimmbgpaaa
open Go.RowKit

theorem infoInt : (Try.prog.info? 3).map (fun i => (i.zero, i.size, i.bytes)) = some (some (.int .i64 0), 1, 8) := by kernel_rfl

theorem Chg.next {S T : Nat → Prop} {w w1 w2 : World} (h : Chg S w w1) (k : Chg T w1 w2) (hT : ∀ i, i < w.heap.size → T i → S i) : Chg S w w2 :=
  ⟨k.os.trans h.os, k.tape.trans h.tape, k.output.trans h.output, Nat.le_trans h.size k.size, fun i hi hn => (k.block i (Nat.lt_of_lt_of_le hi h.size) (fun ht => hn (hT i hi ht))).trans (h.block i hi hn)⟩

theorem one_lies {w : World} {v : Value} {T : TypeId} {n : Nat} (hn : w.heap.size = n) : ∀ (j : Nat) (u : Value), [v][j]? = some u → (w.alloc (.cells #[v] T)).cell? ((⟨n, 0, none⟩ : Addr).add j) = some u := by
  subst hn
  intro j u hj
  match j, hj with
  | 0, hj => simp at hj; subst hj; simp [Addr.add]

theorem owns_drewN {w : World} {base : Nat} {e : TypeId} {size : Nat} {v : Value} {n : Nat} {xs : List Value} (h : w.ownsRow base e size v n xs) (k : Nat) : (w.drewN k).ownsRow base e size v n xs := h

/-- a slice of whole numbers that lies in a block of the call's own -/
def OwnInts (base : Nat) (w : World) (t : Value) (l : List Int) : Prop := w.ownsRow base 3 1 t l.length (l.map (Value.int .i64))

theorem ownInts_nil (base : Nat) (w : World) : OwnInts base w (.slice none 0 0) [] := World.ownsRow_nil _ _ _ _
theorem OwnInts.chg {S : Nat → Prop} {base : Nat} {w w' : World} {t : Value} {l : List Int} (h : OwnInts base w t l) (c : Chg S w w') (hn : ∀ k, t.ownBlock = some k → ¬ S k) : OwnInts base w' t l := c.owns h hn

/-- a list of some length: where it lies, and its numbers -/
theorem OwnInts.at {base : Nat} {w : World} {t : Value} {l : List Int} (h : OwnInts base w t l) (hl : 0 < l.length) : ∃ (g c : Nat), t = .slice (some ⟨g, 0, none⟩) l.length c ∧ base ≤ g ∧ g < w.heap.size ∧ ∀ j, j < l.length → w.cell? ⟨g, j, none⟩ = some (.int .i64 (l.getD j 0)) := by
  obtain ⟨g, c, hv, hg1, hg2⟩ := World.ownsRow.form h hl
  refine ⟨g, c, hv, hg1, hg2, fun j hj => ?_⟩
  have := World.ownsRow.cells h (g := g) (by rw [hv]; rfl) j (.int .i64 (l.getD j 0)) (by simp [hj])
  rw [Go.WideShapes.add_plain, Nat.zero_add] at this
  exact this
theorem OwnInts.shape {base : Nat} {w : World} {t : Value} {l : List Int} (h : OwnInts base w t l) : ∃ (A : Option Addr) (c : Nat), t = .slice A l.length c := by
  rcases h.2 with ⟨hv, hn⟩ | ⟨g, cap, cur, hv, _⟩
  · exact ⟨none, 0, by rw [hv, hn]⟩
  · exact ⟨_, cap, hv⟩

theorem ownInts_reads {base : Nat} {w : World} {t : Value} {l : List Int} (h : OwnInts base w t l) : Reads w t l := by
  by_cases h0 : l.length = 0
  · obtain ⟨A, c, rfl⟩ := h.shape
    exact ⟨A, c, rfl, .inl h0⟩
  · obtain ⟨g, c, rfl, hg1, hg2, hg3⟩ := h.at (by omega)
    exact ⟨_, c, rfl, .inr ⟨g, 0, rfl, hg2, fun j hj => by rw [Nat.zero_add]; exact hg3 j hj⟩⟩

/-- a slice that reads as these numbers: nil, or somewhere in a block -/
def Src (w : World) (v : Value) (zs : List Int) : Prop :=
  (v = .slice none 0 0 ∧ zs = []) ∨ ∃ g o cap, v = .slice (some ⟨g, o, none⟩) zs.length cap ∧ g < w.heap.size ∧ ∀ j, j < zs.length → w.cell? ⟨g, o + j, none⟩ = some (.int .i64 (zs.getD j 0))
theorem Src.reads {w : World} {v : Value} {zs : List Int} (h : Src w v zs) : Reads w v zs := by
  rcases h with ⟨rfl, rfl⟩ | ⟨g, o, cap, rfl, hg, hc⟩
  · exact ⟨none, 0, rfl, .inl rfl⟩
  · exact ⟨_, cap, rfl, .inr ⟨g, o, rfl, hg, hc⟩⟩
theorem Src.chg {S : Nat → Prop} {w w' : World} {v : Value} {zs : List Int} (h : Src w v zs) (c : Chg S w w') (hn : ∀ k, v.ownBlock = some k → ¬ S k) : Src w' v zs := by
  rcases h with h | ⟨g, o, cap, rfl, hg, hc⟩
  · exact .inl h
  · exact .inr ⟨g, o, cap, rfl, Nat.lt_of_lt_of_le hg c.size, fun j hj => (c.cell hg (hn g rfl)).trans (hc j hj)⟩
theorem ownInts_src {base : Nat} {w : World} {t : Value} {l : List Int} (h : OwnInts base w t l) : Src w t l := by
  rcases h.2 with ⟨hv, hn⟩ | ⟨g, cap, cur, hv, _⟩
  · exact .inl ⟨hv, List.length_eq_zero_iff.1 hn⟩
  · refine .inr ⟨g, 0, cap, hv, ?_, fun j hj => ?_⟩
    · exact (World.ownsRow.lt h g (by rw [hv]; rfl)).2
    · have := World.ownsRow.cells h (g := g) (by rw [hv]; rfl) j (.int .i64 (l.getD j 0)) (by simp [hj])
      rw [Go.WideShapes.add_plain] at this
      exact this
theorem ownInts_base {B D : Nat} {w : World} {t : Value} {l : List Int} (h : OwnInts B w t l) (hD : D ≤ B) : OwnInts D w t l := by
  obtain ⟨h1, h2⟩ := h
  refine ⟨h1, ?_⟩
  rcases h2 with h2 | ⟨g, cap, cur, hv, hg, r⟩
  · exact .inl h2
  · exact .inr ⟨g, cap, cur, hv, Nat.le_trans hD hg, r⟩
end Go.Proofs.Ythmjjmimmbgpaaa
