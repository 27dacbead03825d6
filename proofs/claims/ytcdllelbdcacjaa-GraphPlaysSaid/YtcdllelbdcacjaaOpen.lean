/-
  An argument that is a struct of whole numbers, or a slice of such structs, opened to its cells.
-/
import Derived.Test.YtcdllelbdcacjaaUtil
import Derived.ProofKit
import Derived.Deep.Slices
import Derived.Deep.Fields
import Derived.ChangeSame
import Derived.Lib.SmallJoins
set_option linter.unusedVariables false
namespace Go.Proofs.Ytcdllelbdcacjaa
open Go.RowKit Go.ChangeShapes Go.WideShapes Go.Deep

/-- cells of whole numbers, kind by kind -/
def IntCells : List IntKind → List Value → List Int → Prop
  | [], [], [] => True
  | k :: ks, v :: vs, z :: zs => v = .int k z ∧ (Lit.int k z).wf = true ∧ IntCells ks vs zs
  | _, _, _ => False

theorem intCells_get {ks : List IntKind} {vs : List Value} {zs : List Int} (h : IntCells ks vs zs) : ∀ (j : Nat) (k : IntKind), ks[j]? = some k → vs[j]? = some (.int k (zs.getD j 0)) ∧ (Lit.int k (zs.getD j 0)).wf = true := by
  induction ks generalizing vs zs with
  | nil => intro j k hj; simp at hj
  | cons k0 ks ih =>
    match vs, zs, h with
    | v :: vs, z :: zs, ⟨h1, h2, h3⟩ =>
      intro j k hj
      cases j with
      | zero => simp at hj; subst hj; exact ⟨by simp [h1], by simpa using h2⟩
      | succ j => simpa using ih h3 j k (by simpa using hj)

theorem intCells_of : ∀ (ks : List IntKind) (vs : List Value), vs.length = ks.length → (∀ (j : Nat) (k : IntKind), ks[j]? = some k → ∃ z : Int, vs[j]? = some (.int k z) ∧ (Lit.int k z).wf = true) →
    ∃ zs, IntCells ks vs zs
  | [], [], _, _ => ⟨[], trivial⟩
  | k :: ks, v :: vs, hl, h => by
    obtain ⟨z, h1, h2⟩ := h 0 k rfl
    obtain ⟨zs, h3⟩ := intCells_of ks vs (by simpa using hl) (fun j k' hj => by simpa using h (j + 1) k' (by simpa using hj))
    exact ⟨z :: zs, by simpa using h1, h2, h3⟩
  | [], _ :: _, hl, _ => by simp at hl
  | _ :: _, [], hl, _ => by simp at hl

theorem intCells_cons {k : IntKind} {ks : List IntKind} {l : List Value} {zs : List Int} (h : IntCells (k :: ks) l zs) : ∃ (z : Int) (l' : List Value) (zs' : List Int), l = .int k z :: l' ∧ (Lit.int k z).wf = true ∧ IntCells ks l' zs' := by
  match l, zs, h with
  | v :: vs, z :: zs, ⟨h1, h2, h3⟩ => exact ⟨z, vs, zs, by rw [h1], h2, h3⟩
theorem intCells_nil {l : List Value} {zs : List Int} (h : IntCells [] l zs) : l = [] := by
  match l, zs, h with
  | [], [], _ => rfl

theorem intCells2 {k0 k1 : IntKind} {cs : Array Value} {zs : List Int} (h : IntCells [k0, k1] cs.toList zs) :
    ∃ z0 z1 : Int, cs = #[.int k0 z0, .int k1 z1] ∧ (Lit.int k0 z0).wf = true ∧ (Lit.int k1 z1).wf = true := by
  obtain ⟨l⟩ := cs
  obtain ⟨z0, l0, y0, e0, w0, h0⟩ := intCells_cons h
  obtain ⟨z1, l1, y1, e1, w1, h1⟩ := intCells_cons h0
  obtain rfl := intCells_nil h1
  subst e1 e0
  exact ⟨z0, z1, rfl, w0, w1⟩

theorem intCells3 {k0 k1 k2 : IntKind} {cs : Array Value} {zs : List Int} (h : IntCells [k0, k1, k2] cs.toList zs) :
    ∃ z0 z1 z2 : Int, cs = #[.int k0 z0, .int k1 z1, .int k2 z2] ∧ (Lit.int k0 z0).wf = true ∧ (Lit.int k1 z1).wf = true ∧ (Lit.int k2 z2).wf = true := by
  obtain ⟨l⟩ := cs
  obtain ⟨z0, l0, y0, e0, w0, h0⟩ := intCells_cons h
  obtain ⟨z1, l1, y1, e1, w1, h1⟩ := intCells_cons h0
  obtain ⟨z2, l2, y2, e2, w2, h2⟩ := intCells_cons h1
  obtain rfl := intCells_nil h2
  subst e2 e1 e0
  exact ⟨z0, z1, z2, rfl, w0, w1, w2⟩

theorem intCells4 {k0 k1 k2 k3 : IntKind} {cs : Array Value} {zs : List Int} (h : IntCells [k0, k1, k2, k3] cs.toList zs) :
    ∃ z0 z1 z2 z3 : Int, cs = #[.int k0 z0, .int k1 z1, .int k2 z2, .int k3 z3] ∧ (Lit.int k0 z0).wf = true ∧ (Lit.int k1 z1).wf = true ∧ (Lit.int k2 z2).wf = true ∧ (Lit.int k3 z3).wf = true := by
  obtain ⟨l⟩ := cs
  obtain ⟨z0, l0, y0, e0, w0, h0⟩ := intCells_cons h
  obtain ⟨z1, l1, y1, e1, w1, h1⟩ := intCells_cons h0
  obtain ⟨z2, l2, y2, e2, w2, h2⟩ := intCells_cons h1
  obtain ⟨z3, l3, y3, e3, w3, h3⟩ := intCells_cons h2
  obtain rfl := intCells_nil h3
  subst e3 e2 e1 e0
  exact ⟨z0, z1, z2, z3, rfl, w0, w1, w2, w3⟩

theorem intCells5 {k0 k1 k2 k3 k4 : IntKind} {cs : Array Value} {zs : List Int} (h : IntCells [k0, k1, k2, k3, k4] cs.toList zs) :
    ∃ z0 z1 z2 z3 z4 : Int, cs = #[.int k0 z0, .int k1 z1, .int k2 z2, .int k3 z3, .int k4 z4] ∧ (Lit.int k0 z0).wf = true ∧ (Lit.int k1 z1).wf = true ∧ (Lit.int k2 z2).wf = true ∧ (Lit.int k3 z3).wf = true ∧ (Lit.int k4 z4).wf = true := by
  obtain ⟨l⟩ := cs
  obtain ⟨z0, l0, y0, e0, w0, h0⟩ := intCells_cons h
  obtain ⟨z1, l1, y1, e1, w1, h1⟩ := intCells_cons h0
  obtain ⟨z2, l2, y2, e2, w2, h2⟩ := intCells_cons h1
  obtain ⟨z3, l3, y3, e3, w3, h3⟩ := intCells_cons h2
  obtain ⟨z4, l4, y4, e4, w4, h4⟩ := intCells_cons h3
  obtain rfl := intCells_nil h4
  subst e4 e3 e2 e1 e0
  exact ⟨z0, z1, z2, z3, z4, rfl, w0, w1, w2, w3, w4⟩

theorem intCells6 {k0 k1 k2 k3 k4 k5 : IntKind} {cs : Array Value} {zs : List Int} (h : IntCells [k0, k1, k2, k3, k4, k5] cs.toList zs) :
    ∃ z0 z1 z2 z3 z4 z5 : Int, cs = #[.int k0 z0, .int k1 z1, .int k2 z2, .int k3 z3, .int k4 z4, .int k5 z5] ∧ (Lit.int k0 z0).wf = true ∧ (Lit.int k1 z1).wf = true ∧ (Lit.int k2 z2).wf = true ∧ (Lit.int k3 z3).wf = true ∧ (Lit.int k4 z4).wf = true ∧ (Lit.int k5 z5).wf = true := by
  obtain ⟨l⟩ := cs
  obtain ⟨z0, l0, y0, e0, w0, h0⟩ := intCells_cons h
  obtain ⟨z1, l1, y1, e1, w1, h1⟩ := intCells_cons h0
  obtain ⟨z2, l2, y2, e2, w2, h2⟩ := intCells_cons h1
  obtain ⟨z3, l3, y3, e3, w3, h3⟩ := intCells_cons h2
  obtain ⟨z4, l4, y4, e4, w4, h4⟩ := intCells_cons h3
  obtain ⟨z5, l5, y5, e5, w5, h5⟩ := intCells_cons h4
  obtain rfl := intCells_nil h5
  subst e5 e4 e3 e2 e1 e0
  exact ⟨z0, z1, z2, z3, z4, z5, rfl, w0, w1, w2, w3, w4, w5⟩

/-- the fields are whole numbers of these kinds -/
def intFields (P : Program) (fs : Array Field) (ks : List IntKind) : Prop :=
  fs.size = ks.length ∧ ∀ (j : Nat) (f : Field), fs[j]? = some f → ∃ k, ks[j]? = some k ∧ P.underlying f.type = some (.int k)

section
variable {H : Type} {enc : TypeId × Value → H} {P : Program} {w : World} {base : Nat} {spare : Nat → Bool} {held : Bool}

theorem cells_of_struct {fs : Array Field} {ks : List IntKind} {e : TypeId} {n : Nat} {cs : List Value} {x : DataW H × List MemPlace} (he : P.underlying e = some (.struct fs)) (hone : oneCellFields P fs = true) (hC : P.cellsOf e = fs.size)
    (hks : intFields P fs ks) (hlen : cs.length = fs.size) (h : DataW.trod enc P w base spare held n e cs = some x) : ∃ zs, IntCells ks cs zs := by
  obtain ⟨ys, n', hn', hy, _, hyl, hf⟩ := DataW.trod_struct he h
  apply intCells_of ks cs (by rw [hlen, hks.1])
  intro j k hj
  have hjk : j < ks.length := (List.getElem?_eq_some_iff.1 hj).1
  have hjs : j < fs.size := by rw [hks.1]; exact hjk
  obtain ⟨k', hk', hu⟩ := hks.2 j fs[j] (by simp [hjs])
  obtain rfl : k = k' := by rw [hj] at hk'; exact Option.some.inj hk'
  obtain ⟨ho, hk⟩ := hone_of hone j fs[j] (by simp [hjs])
  have h1 := hf j fs[j] (by simp [hjs])
  rw [ho, hk] at h1
  have hone' : (cs.drop j).take 1 = [cs[j]'(by omega)] := by
    rw [List.drop_eq_getElem_cons (by omega)]
    rfl
  rw [hone'] at h1
  have hys : ys[j]? = some (ys[j]'(by omega)) := List.getElem?_eq_getElem (by omega)
  rw [hys] at h1
  obtain ⟨z, hz, _, hwf⟩ := DataW.trod_int hu h1
  refine ⟨z, ?_, hwf⟩
  rw [List.getElem?_eq_getElem (by omega)]
  simp at hz
  rw [hz]

/-- a struct of whole numbers, by value -/
theorem open_struct {r : Reach} {b0 : Nat} {t : TypeId} {fs : Array Field} {ks : List IntKind} {v : Value} {d : DataW H} {p : List MemPlace} (hs : P.underlying t = some (.struct fs)) (hone : oneCellFields P fs = true) (hC : P.cellsOf t = fs.size)
    (hks : intFields P fs ks) (hv : Value.okWide P w r b0 t v) (h : DataW.Trod enc P w base spare held t v d p) : ∃ (cs : Array Value) (zs : List Int), v = .agg cs ∧ IntCells ks cs.toList zs := by
  obtain ⟨cs, rfl, hsz⟩ := okWide_struct hs hv
  obtain ⟨fuel, hf⟩ := h
  have hsz' := hsz.trans hC
  obtain ⟨zs, hz⟩ := cells_of_struct hs hone hC hks (by simpa [Value.cells] using hsz') hf
  exact ⟨cs, zs, rfl, by simpa [Value.cells] using hz⟩

end

/-- a slice of structs of whole numbers that came in: nothing in it, or where its numbers lie -/
def IsTab (ks : List IntKind) (w : World) (a : Option Addr) (len : Nat) (z : Nat → Nat → Int) : Prop :=
  len = 0 ∨ ∃ b off : Nat, a = some ⟨b, off, none⟩ ∧ b < w.heap.size ∧ 0 < len ∧ len ≤ 9223372036854775807 ∧
    ∀ i, i < len → ∀ (j : Nat) (k : IntKind), ks[j]? = some k → w.cell? ⟨b, off + (i * ks.length + j), none⟩ = some (.int k (z i j)) ∧ (Lit.int k (z i j)).wf = true

section
variable {H : Type} {enc : TypeId × Value → H} {P : Program} {w : World} {base : Nat} {spare : Nat → Bool} {held : Bool}

theorem open_tab {t e : TypeId} {fs : Array Field} {ks : List IntKind} {fuel : Nat} {a : Option Addr} {len cap : Nat} {x : DataW H × List MemPlace} (ht : P.underlying t = some (.slice e)) (he : P.underlying e = some (.struct fs))
    (hone : oneCellFields P fs = true) (hC : P.cellsOf e = fs.size) (hks : intFields P fs ks) (hk0 : 0 < ks.length) (h : DataW.trod enc P w base spare held fuel t [.slice a len cap] = some x) : ∃ z, IsTab ks w a len z := by
  rcases open_slice ht h with ⟨hcs, _⟩ | ⟨a', len', cap', m, n, D, Pl, hcs, hb, hl, hm, hmm, hx, hi⟩
  · simp at hcs
    exact ⟨fun _ _ => 0, .inl hcs.2.1⟩
  · simp at hcs
    obtain ⟨rfl, rfl, rfl⟩ := hcs
    by_cases h0 : len = 0
    · exact ⟨fun _ _ => 0, .inl h0⟩
    have hlm : len ≤ m := by rw [hmm]; split <;> omega
    have hcell : ∀ i, i < len → ∃ zs : List Int, ∀ (j : Nat) (k : IntKind), ks[j]? = some k → w.cell? (a'.add (i * ks.length + j)) = some (.int k (zs.getD j 0)) ∧ (Lit.int k (zs.getD j 0)).wf = true := by
      intro i hil
      obtain ⟨cs', hc, ht'⟩ := hi i (by omega)
      rw [hC] at hc
      obtain ⟨_, hcl, hat⟩ := World.cells?_some hc
      obtain ⟨zs, hz⟩ := cells_of_struct he hone hC hks hcl ht'
      refine ⟨zs, fun j k hj => ?_⟩
      obtain ⟨h1, h2⟩ := intCells_get hz j k hj
      have hjl : j < fs.size := by rw [hks.1]; exact (List.getElem?_eq_some_iff.1 hj).1
      refine ⟨?_, h2⟩
      rw [← h1, ← hat j hjl, Go.Deep.add_add, hks.1]
    obtain ⟨Z, hZ⟩ := choose_lt (α := List Int) hcell
    obtain ⟨b, off, spot⟩ := a'
    obtain ⟨k0, hk0'⟩ : ∃ k, ks[0]? = some k := ⟨ks[0], List.getElem?_eq_getElem hk0⟩
    have h1 := (hZ 0 (by omega) 0 k0 hk0').1
    have hspot : spot = none := by simpa [Addr.add] using World.cell?_spot h1
    subst hspot
    have hcc : ∀ i, i < len → ∀ (j : Nat) (k : IntKind), ks[j]? = some k → w.cell? ⟨b, off + (i * ks.length + j), none⟩ = some (.int k ((Z i).getD j 0)) ∧ (Lit.int k ((Z i).getD j 0)).wf = true := by
      intro i hil j k hj
      rw [← Go.WideShapes.add_plain]
      exact hZ i hil j k hj
    unfold maxLen at hm
    have hlt := cell_lt (hcc 0 (by omega) 0 k0 hk0').1
    exact ⟨fun i j => (Z i).getD j 0, .inr ⟨b, off, rfl, hlt, by omega, by omega, hcc⟩⟩
end

/-- a slice of bools that came in: nothing in it, or where they lie -/
def IsBools (w : World) (a : Option Addr) (len : Nat) (z : Nat → Bool) : Prop :=
  len = 0 ∨ ∃ b off : Nat, a = some ⟨b, off, none⟩ ∧ b < w.heap.size ∧ 0 < len ∧ len ≤ 9223372036854775807 ∧ ∀ i, i < len → w.cell? ⟨b, off + i, none⟩ = some (.bool (z i))

section
variable {H : Type} {enc : TypeId × Value → H} {P : Program} {w : World} {base : Nat} {spare : Nat → Bool} {held : Bool}

theorem open_bools {t e : TypeId} {fuel : Nat} {a : Option Addr} {len cap : Nat} {x : DataW H × List MemPlace} (ht : P.underlying t = some (.slice e)) (he : P.underlying e = some .bool) (hC : P.cellsOf e = 1)
    (h : DataW.trod enc P w base spare held fuel t [.slice a len cap] = some x) : ∃ z, IsBools w a len z := by
  rcases open_slice ht h with ⟨hcs, _⟩ | ⟨a', len', cap', m, n, D, Pl, hcs, hb, hl, hm, hmm, hx, hi⟩
  · simp at hcs
    exact ⟨fun _ => false, .inl hcs.2.1⟩
  · simp at hcs
    obtain ⟨rfl, rfl, rfl⟩ := hcs
    by_cases h0 : len = 0
    · exact ⟨fun _ => false, .inl h0⟩
    have hlm : len ≤ m := by rw [hmm]; split <;> omega
    have hcell : ∀ i, i < len → ∃ v : Bool, w.cell? (a'.add i) = some (.bool v) := by
      intro i hil
      obtain ⟨cs', hc, ht'⟩ := hi i (by omega)
      rw [hC] at hc
      obtain ⟨v, rfl, _⟩ := DataW.trod_bool he ht'
      obtain ⟨_, _, hat⟩ := World.cells?_some hc
      refine ⟨v, ?_⟩
      have := hat 0 (by omega)
      rw [Go.Deep.add_add] at this
      simpa using this
    obtain ⟨Z, hZ⟩ := choose_lt (α := Bool) hcell
    obtain ⟨b, off, spot⟩ := a'
    have h1 := hZ 0 (by omega)
    have hspot : spot = none := by simpa [Addr.add] using World.cell?_spot h1
    subst hspot
    have hcc : ∀ i, i < len → w.cell? ⟨b, off + i, none⟩ = some (.bool (Z i)) := by
      intro i hil
      rw [← Go.WideShapes.add_plain]
      exact hZ i hil
    unfold maxLen at hm
    exact ⟨Z, .inr ⟨b, off, rfl, cell_lt (hcc 0 (by omega)), by omega, by omega, hcc⟩⟩
end
end Go.Proofs.Ytcdllelbdcacjaa
