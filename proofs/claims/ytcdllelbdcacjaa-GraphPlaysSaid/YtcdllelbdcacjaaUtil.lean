/-
  Small plain lemmas on worlds: what is below a block's number stays; no program in sight.
-/
import Derived.WalkKit
import Derived.WalkSpells
import Derived.WalkLawsBesides
import Derived.Deep.QuietTactic
import Derived.BigQuiet
import Derived.Deep.RegionWith
import Derived.Deep.LoopGhost
import Derived.Deep.DeepCutAuto
import Derived.OpenShut
namespace Go.Proofs.Ytcdllelbdcacjaa
open Go.RowKit

theorem hid {p : Prop} (h : p) : Hid p := h

theorem bel_drewN {B : Nat} {a w : World} {n : Nat} : Below B a (w.drewN n) ↔ Below B a w :=
  ⟨fun h => ⟨h.os, h.tape, h.output, by simpa using h.size, fun k hk => h.block k hk⟩, fun h => ⟨h.os, h.tape, h.output, by simpa using h.size, fun k hk => h.block k hk⟩⟩

theorem bel_drew {B : Nat} {a w : World} : Below B a w.drew ↔ Below B a w :=
  ⟨fun h => ⟨h.os, h.tape, h.output, by simpa using h.size, fun k hk => h.block k hk⟩, fun h => ⟨h.os, h.tape, h.output, by simpa using h.size, fun k hk => h.block k hk⟩⟩

theorem bel_refl {B : Nat} {w : World} : Below B w w ↔ True := ⟨fun _ => trivial, fun _ => Below.refl _ _⟩

theorem bel_step {B : Nat} {a W w' : World} (h : Below W.heap.size W w') (hB : B ≤ W.heap.size) (h0 : Below B a W) : Below B a w' := h0.trans (h.mono hB)

theorem bel_cells {W w1 : World} (hb : Below W.heap.size W w1) : (∀ b o, b < W.heap.size → w1.cell? ⟨b, o, none⟩ = W.cell? ⟨b, o, none⟩) ∧ (∀ b o, b < W.heap.size → w1.frozen? ⟨b, o, none⟩ = W.frozen? ⟨b, o, none⟩) :=
  ⟨fun b o h => hb.cell (p := ⟨b, o, none⟩) h, fun b o h => hb.frozen (p := ⟨b, o, none⟩) h⟩

/-- what 'x % m + m) % m' comes to -/
theorem tmod_bounds (a m : Int) (hm : 0 < m) : -m < a.tmod m ∧ a.tmod m < m := by
  constructor
  · have := Int.lt_tmod_of_pos a hm
    omega
  · exact Int.tmod_lt_of_pos a hm

/-- a slice of whole numbers that came in -/
def IsRow (k : IntKind) (w : World) (a : Option Addr) (len cap : Nat) (zs : List Int) : Prop :=
  (a = none ∧ len = 0 ∧ cap = 0 ∧ zs = []) ∨
  ∃ x, a = some x ∧ len ≤ cap ∧ cap ≤ maxLen ∧ zs.length = cap ∧ (∀ i, i < zs.length → w.cell? (x.add i) = some (.int k (zs.getD i 0))) ∧ ∀ n ∈ zs, (Lit.int k n).wf = true

theorem cell_lt {w : World} {b o : Nat} {v : Value} (h : w.cell? ⟨b, o, none⟩ = some v) : b < w.heap.size := by
  apply Classical.byContradiction
  intro hn
  have : w.heap[b]? = none := by simp; omega
  simp [World.cell?, this] at h

/-- nothing in it, or where its numbers lie -/
theorem row_cases {k : IntKind} {w : World} {a : Option Addr} {len cap : Nat} {zs : List Int} (h : IsRow k w a len cap zs) :
    len = 0 ∨ (∃ b off : Nat, a = some ⟨b, off, none⟩ ∧ b < w.heap.size ∧ 0 < len ∧ len ≤ 9223372036854775807 ∧ ∀ j, j < len → w.cell? ⟨b, off + j, none⟩ = some (.int k (zs.getD j 0)) ∧ (Lit.int k (zs.getD j 0)).wf = true) := by
  rcases h with ⟨_, h, _⟩ | ⟨⟨b, off, spot⟩, rfl, hl, hm, hz, hc, hwf⟩
  · exact .inl h
  · by_cases h0 : len = 0
    · exact .inl h0
    · unfold maxLen at hm
      have h1 := hc 0 (by omega)
      have hspot : spot = none := by simpa [Addr.add] using World.cell?_spot h1
      subst hspot
      have hcc : ∀ j, j < len → w.cell? ⟨b, off + j, none⟩ = some (.int k (zs.getD j 0)) := fun j hj => by
        rw [← Go.WideShapes.add_plain]
        exact hc j (by omega)
      refine .inr ⟨b, off, rfl, cell_lt (hcc 0 (by omega)), by omega, by omega, fun j hj => ⟨hcc j hj, ?_⟩⟩
      apply hwf
      rw [List.getD_eq_getElem?_getD, List.getElem?_eq_getElem (by omega)]
      simp

end Go.Proofs.Ytcdllelbdcacjaa
