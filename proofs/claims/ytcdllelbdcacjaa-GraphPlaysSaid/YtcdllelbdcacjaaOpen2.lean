/-
  An argument that is a struct of a whole number and a struct of whole numbers, or a slice of such, opened to its cells.
-/
import Derived.Test.YtcdllelbdcacjaaOpen
set_option linter.unusedVariables false
namespace Go.Proofs.Ytcdllelbdcacjaa
open Go.RowKit Go.ChangeShapes Go.WideShapes Go.Deep

section
variable {H : Type} {enc : TypeId × Value → H} {P : Program} {w : World} {base : Nat} {spare : Nat → Bool} {held : Bool}

theorem cells_of_nest {t : TypeId} {f0 f1 : Field} {k0 : IntKind} {fs1 : Array Field} {ks1 : List IntKind} {n : Nat} {cs : List Value} {x : DataW H × List MemPlace} (ht : P.underlying t = some (.struct #[f0, f1]))
    (hu0 : P.underlying f0.type = some (.int k0)) (ho0 : f0.offset = 0) (hc0 : P.cellsOf f0.type = 1) (hu1 : P.underlying f1.type = some (.struct fs1)) (ho1 : f1.offset = 1) (hone1 : oneCellFields P fs1 = true) (hC1 : P.cellsOf f1.type = fs1.size)
    (hks1 : intFields P fs1 ks1) (hC : P.cellsOf t = 1 + fs1.size) (h : DataW.trod enc P w base spare held n t cs = some x) : ∃ zs, IntCells (k0 :: ks1) cs zs := by
  obtain ⟨y0, y1, n', _, hl, h0, h1⟩ := trod_struct2 ht h
  rw [hC] at hl
  rw [ho0, hc0] at h0
  rw [ho1, hC1] at h1
  match cs, hl with
  | c :: cs, hl =>
    have e1 : ((c :: cs).drop 1).take fs1.size = cs := by
      rw [List.drop_one, List.tail_cons, List.take_of_length_le]
      simp at hl; omega
    rw [e1] at h1
    obtain ⟨zs, hz⟩ := cells_of_struct hu1 hone1 hC1 hks1 (by simp at hl; omega) h1
    obtain ⟨z, hz0, _, hwf⟩ := DataW.trod_int hu0 h0
    refine ⟨z :: zs, ?_, hwf, hz⟩
    simpa using hz0
  | [], hl => simp at hl; omega

/-- a struct, by value, of which all cells are whole numbers -/
theorem open_struct_of {r : Reach} {b0 : Nat} {t : TypeId} {fs : Array Field} {ks : List IntKind} {v : Value} {d : DataW H} {p : List MemPlace} (hs : P.underlying t = some (.struct fs))
    (hcells : ∀ (n : Nat) (cs : List Value) (x : DataW H × List MemPlace), DataW.trod enc P w base spare held n t cs = some x → ∃ zs, IntCells ks cs zs)
    (hv : Value.okWide P w r b0 t v) (h : DataW.Trod enc P w base spare held t v d p) : ∃ (cs : Array Value) (zs : List Int), v = .agg cs ∧ IntCells ks cs.toList zs := by
  obtain ⟨cs, rfl, hsz⟩ := okWide_struct hs hv
  obtain ⟨fuel, hf⟩ := h
  obtain ⟨zs, hz⟩ := hcells _ _ _ hf
  exact ⟨cs, zs, rfl, by simpa [Value.cells] using hz⟩

theorem open_tab_of {t e : TypeId} {ks : List IntKind} {fuel : Nat} {a : Option Addr} {len cap : Nat} {x : DataW H × List MemPlace} (ht : P.underlying t = some (.slice e)) (hC : P.cellsOf e = ks.length)
    (hcells : ∀ (n : Nat) (cs : List Value) (x : DataW H × List MemPlace), DataW.trod enc P w base spare held n e cs = some x → ∃ zs, IntCells ks cs zs)
    (hk0 : 0 < ks.length) (h : DataW.trod enc P w base spare held fuel t [.slice a len cap] = some x) : ∃ z, IsTab ks w a len z := by
  rcases open_slice ht h with ⟨hcs, _⟩ | ⟨a', len', cap', m, n, D, Pl, hcs, hb, hl, hm, hmm, hx, hi⟩
  · simp at hcs
    exact ⟨fun _ _ => 0, .inl hcs.2.1⟩
  · simp at hcs
    obtain ⟨rfl, rfl, rfl⟩ := hcs
    by_cases h0 : len = 0
    · exact ⟨fun _ _ => 0, .inl h0⟩
    have hlm : len ≤ m := by rw [hmm]; split <;> omega
    have hcell : ∀ i, i < len → ∃ zs : List Int, ∀ (j : Nat) (k : IntKind), ks[j]? = some k → w.cell? (a'.add (i * ks.length + j)) = some (.int k (zs.getD j 0)) ∧ (Lit.int k (zs.getD j 0)).wf = true := by
      intro i hil
      obtain ⟨cs', hc, ht'⟩ := hi i (by omega)
      rw [hC] at hc
      obtain ⟨_, hcl, hat⟩ := World.cells?_some hc
      obtain ⟨zs, hz⟩ := hcells _ _ _ ht'
      refine ⟨zs, fun j k hj => ?_⟩
      obtain ⟨h1, h2⟩ := intCells_get hz j k hj
      have hjl : j < ks.length := (List.getElem?_eq_some_iff.1 hj).1
      refine ⟨?_, h2⟩
      rw [← h1, ← hat j hjl, Go.Deep.add_add]
    obtain ⟨Z, hZ⟩ := choose_lt (α := List Int) hcell
    obtain ⟨b, off, spot⟩ := a'
    obtain ⟨k0, hk0'⟩ : ∃ k, ks[0]? = some k := ⟨ks[0], List.getElem?_eq_getElem hk0⟩
    have h1 := (hZ 0 (by omega) 0 k0 hk0').1
    have hspot : spot = none := by simpa [Addr.add] using World.cell?_spot h1
    subst hspot
    have hcc : ∀ i, i < len → ∀ (j : Nat) (k : IntKind), ks[j]? = some k → w.cell? ⟨b, off + (i * ks.length + j), none⟩ = some (.int k ((Z i).getD j 0)) ∧ (Lit.int k ((Z i).getD j 0)).wf = true := by
      intro i hil j k hj
      rw [← Go.WideShapes.add_plain]
      exact hZ i hil j k hj
    unfold maxLen at hm
    have hlt := cell_lt (hcc 0 (by omega) 0 k0 hk0').1
    exact ⟨fun i j => (Z i).getD j 0, .inr ⟨b, off, rfl, hlt, by omega, by omega, hcc⟩⟩
end
end Go.Proofs.Ytcdllelbdcacjaa
