/-
  Two stacks beside each other: the program's and the reference's (layer 12).
-/
import Derived.Test.YtcdllelbdcacjaaRootsLaws
set_option linter.unusedVariables false
set_option linter.unusedSimpArgs false
namespace Go.Proofs.Ytcdllelbdcacjaa
open Go.RowKit

theorem nil_or_snoc (l : List Int) : l = [] ∨ ∃ l0 r, l = l0 ++ [r] := by
  rcases List.eq_nil_or_concat l with h | ⟨l0, r, h⟩
  · exact .inl h
  · exact .inr ⟨l0, r, by rw [h, List.concat_eq_append]⟩

/-- two stacks, in blocks of their own -/
structure Two (w : World) (p q : Nat) (v u : Value) (b : Nat) (l m : List Int) : Prop where
  a : StackAt w p v b l
  c : StackAt w q u b m
  ne : p ≠ q
  d1 : v.ownBlock ≠ some q
  d2 : u.ownBlock ≠ some p
  d3 : ∀ g, v.ownBlock = some g → u.ownBlock = some g → False

theorem Two.lt {w : World} {p q : Nat} {v u : Value} {b : Nat} {l m : List Int} (h : Two w p q v u b l m) :
    p < w.heap.size ∧ q < w.heap.size ∧ (∀ g, v.ownBlock = some g → g < w.heap.size) ∧ (∀ g, u.ownBlock = some g → g < w.heap.size) :=
  ⟨h.a.lt, h.c.lt, fun g hg => (h.a.own.lt g hg).2, fun g hg => (h.c.own.lt g hg).2⟩

theorem Two.swap {w : World} {p q : Nat} {v u : Value} {b : Nat} {l m : List Int} (h : Two w p q v u b l m) : Two w q p u v b m l :=
  ⟨h.c, h.a, fun e => h.ne e.symm, h.d2, h.d1, fun g h1 h2 => h.d3 g h2 h1⟩

theorem Two.left {w w1 : World} {p q : Nat} {v u v1 : Value} {b : Nat} {l m l1 : List Int} (h : Two w p q v u b l m) (hc : Chg (fun k => k = p ∨ v.ownBlock = some k) w w1)
    (hv : v1.ownBlock = v.ownBlock ∨ ∃ g, v1.ownBlock = some g ∧ w.heap.size ≤ g) (hs : StackAt w1 p v1 b l1) : Two w1 p q v1 u b l1 m := by
  obtain ⟨e1, e2, e3, e4⟩ := h.lt
  refine ⟨hs, h.c.chg hc ?_ ?_, h.ne, ?_, h.d2, ?_⟩
  · rintro (e | e)
    · exact h.ne e.symm
    · exact h.d1 e
  · rintro g hg (e | e)
    · subst e; exact h.d2 hg
    · exact h.d3 g e hg
  · intro e
    rcases hv with hv | ⟨g, hv, hg⟩
    · exact h.d1 (hv ▸ e)
    · rw [hv] at e; injection e with e; omega
  · intro g h1 h2
    rcases hv with hv | ⟨g', hv, hg⟩
    · exact h.d3 g (hv ▸ h1) h2
    · rw [hv] at h1; injection h1 with h1; have := e4 g h2; omega

theorem Two.right {w w1 : World} {p q : Nat} {v u u1 : Value} {b : Nat} {l m m1 : List Int} (h : Two w p q v u b l m) (hc : Chg (fun k => k = q ∨ u.ownBlock = some k) w w1)
    (hu : u1.ownBlock = u.ownBlock ∨ ∃ g, u1.ownBlock = some g ∧ w.heap.size ≤ g) (hs : StackAt w1 q u1 b m1) : Two w1 p q v u1 b l m1 := (h.swap.left hc hu hs).swap

theorem Two.chg {S : Nat → Prop} {w w1 : World} {p q : Nat} {v u : Value} {b : Nat} {l m : List Int} (h : Two w p q v u b l m) (hc : Chg S w w1)
    (hp : ¬ S p) (hq : ¬ S q) (hv : ∀ g, v.ownBlock = some g → ¬ S g) (hu : ∀ g, u.ownBlock = some g → ¬ S g) : Two w1 p q v u b l m :=
  ⟨h.a.chg hc hp hv, h.c.chg hc hq hu, h.ne, h.d1, h.d2, h.d3⟩

/-- new blocks alone -/
theorem Two.below {w w1 : World} {p q : Nat} {v u : Value} {b : Nat} {l m : List Int} (h : Two w p q v u b l m) (hb : Below w.heap.size w w1) : Two w1 p q v u b l m := by
  obtain ⟨e1, e2, e3, e4⟩ := h.lt
  exact h.chg (Chg.of_below (S := fun k => w.heap.size ≤ k) hb (fun k _ hk => hk)) (by omega) (by omega) (fun g hg => by have := e3 g hg; omega) (fun g hg => by have := e4 g hg; omega)

theorem Two.drewN {w : World} {p q : Nat} {v u : Value} {b : Nat} {l m : List Int} (h : Two w p q v u b l m) (k : Nat) : Two (w.drewN k) p q v u b l m := h.below (by (repeat (first | exact Below.refl _ _ | exact Below.refl _ _ | apply bel_drewN.2 | apply bel_drew.2 | refine Below.setCell ?_ (by first | omega | (simp; done) | (simp; omega)) _ | refine Below.alloc ?_ (by first | omega | (simp; done) | (simp; omega)) _ | refine bel_step (by assumption) (by first | omega | (simp; done) | (simp; omega)) ?_)))
theorem Two.drew {w : World} {p q : Nat} {v u : Value} {b : Nat} {l m : List Int} (h : Two w p q v u b l m) : Two w.drew p q v u b l m := h.below (by (repeat (first | exact Below.refl _ _ | exact Below.refl _ _ | apply bel_drewN.2 | apply bel_drew.2 | refine Below.setCell ?_ (by first | omega | (simp; done) | (simp; omega)) _ | refine Below.alloc ?_ (by first | omega | (simp; done) | (simp; omega)) _ | refine bel_step (by assumption) (by first | omega | (simp; done) | (simp; omega)) ?_)))
theorem Two.alloc {w : World} {p q : Nat} {v u : Value} {b : Nat} {l m : List Int} (h : Two w p q v u b l m) (o : Obj) : Two (w.alloc o) p q v u b l m := h.below (by (repeat (first | exact Below.refl _ _ | exact Below.refl _ _ | apply bel_drewN.2 | apply bel_drew.2 | refine Below.setCell ?_ (by first | omega | (simp; done) | (simp; omega)) _ | refine Below.alloc ?_ (by first | omega | (simp; done) | (simp; omega)) _ | refine bel_step (by assumption) (by first | omega | (simp; done) | (simp; omega)) ?_)))

/-- an operation of the left stack, or of the right one, leaves what lies below both as it was -/
theorem Two.bel_left {w w0 w1 : World} {p q B : Nat} {v u : Value} {b : Nat} {l m : List Int} (h : Two w p q v u b l m) (hc : Chg (fun k => k = p ∨ v.ownBlock = some k) w w1) (hb : Below B w0 w) (hB : B ≤ w.heap.size) (hp : B ≤ p) : Below B w0 w1 :=
  hc.below hb (fun k _ hk => by rcases hk with hk | hk; omega; have := h.a.own.lt k hk; omega) hB
theorem Two.bel_right {w w0 w1 : World} {p q B : Nat} {v u : Value} {b : Nat} {l m : List Int} (h : Two w p q v u b l m) (hc : Chg (fun k => k = q ∨ u.ownBlock = some k) w w1) (hb : Below B w0 w) (hB : B ≤ w.heap.size) (hq : B ≤ q) : Below B w0 w1 :=
  h.swap.bel_left hc hb hB hq
end Go.Proofs.Ytcdllelbdcacjaa
