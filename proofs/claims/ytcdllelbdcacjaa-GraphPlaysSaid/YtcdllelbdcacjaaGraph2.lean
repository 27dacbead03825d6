/-
  Graphs (layer 13): what a graph is behind a change of one of its parts. No function of the program in sight.
-/
import Derived.Test.YtcdllelbdcacjaaGraph
set_option linter.unusedVariables false
set_option linter.unusedSimpArgs false
namespace Go.Proofs.Ytcdllelbdcacjaa
open Go.RowKit

def upd {α : Type} (f : Nat → α) (t : Nat) (x : α) : Nat → α := fun s => if s = t then x else f s
theorem upd_same {α : Type} (f : Nat → α) (t : Nat) (x : α) : upd f t x t = x := if_pos rfl
theorem upd_other {α : Type} (f : Nat → α) {s t : Nat} (x : α) (h : ¬ s = t) : upd f t x s = f s := if_neg h

section
variable {w w1 : World} {b : GB} {g : GS}

/-- two names of one block are one name: what lies in one lies not in the other -/
theorem GAt.ne (h : GAt w b g) {a c : Lab} {k : Nat} (ha : b.blk g.n g.m a = some k) (hac : a ≠ c) : b.blk g.n g.m c ≠ some k := fun hc => hac (h.inj a c k ha hc)

/-- a thread's stack is another -/
theorem GAt.restack (h : GAt w b g) (t : Nat) (ht : t < g.n) (v' : Value) (l' : List Int) (c : Chg (fun k => k = b.S t ∨ (b.sv t).ownBlock = some k) w w1) (hs : StackAt w1 (b.S t) v' g.bound l')
    (hv : v'.ownBlock = (b.sv t).ownBlock ∨ ∃ q, v'.ownBlock = some q ∧ w.heap.size ≤ q) (hl : ∀ r, r ∈ l' → 0 ≤ r ∧ r ≤ g.m) :
    GAt w1 { b with sv := upd b.sv t v' } { g with st := upd g.st t l' } := by
  have hS : b.blk g.n g.m (.st t) = some (b.S t) := if_pos ht
  have hL : b.blk g.n g.m (.ls t) = (b.sv t).ownBlock := if_pos ht
  have off : ∀ a k, b.blk g.n g.m a = some k → a ≠ .st t → a ≠ .ls t → ¬ (k = b.S t ∨ (b.sv t).ownBlock = some k) := fun a k ha h1 h2 hk => by
    rcases hk with hk | hk
    · subst hk; exact h1 (h.inj a (.st t) _ ha hS)
    · exact h2 (h.inj a (.ls t) k ha (by rw [hL]; exact hk))
  have hpl := h.lt .p b.p rfl
  have hp := off .p b.p rfl (by simp) (by simp)
  obtain ⟨T, hT1, hT2⟩ := h.thr
  obtain ⟨O, hO1, hO2⟩ := h.obj
  refine { h with
    mx := (c.cell hpl hp).trans h.mx
    obs := (c.cell hpl hp).trans h.obs
    ths := (c.cell hpl hp).trans h.ths
    fz1 := (c.frozen hpl hp).trans h.fz1
    fz2 := (c.frozen hpl hp).trans h.fz2
    thr := ⟨T, c.owns hT1 (fun k hk => off .th k hk (by simp) (by simp)), hT2⟩
    stk := fun s hs' => ?_
    obj := ⟨O, c.owns hO1 (fun k hk => off .ob k hk (by simp) (by simp)), hO2⟩
    rfs := fun i hi => c.row (h.rfs i hi) (off (.rf i) _ (if_pos hi) (by simp) (by simp))
    dts := fun i hi => c.row (h.dts i hi) (off (.dt i) _ (if_pos hi) (by simp) (by simp))
    inj := ?_
    okS := fun s hs' r hr => ?_ }
  · by_cases e : s = t
    · subst e
      show StackAt w1 (b.S s) (upd b.sv s v' s) g.bound (upd g.st s l' s)
      rw [upd_same, upd_same]; exact hs
    · show StackAt w1 (b.S s) (upd b.sv t v' s) g.bound (upd g.st t l' s)
      rw [upd_other _ _ e, upd_other _ _ e]
      exact (h.stk s hs').chg c (off (.st s) _ (if_pos hs') (by simp; exact e) (by simp)) (fun k hk => off (.ls s) k (by rw [show b.blk g.n g.m (.ls s) = (b.sv s).ownBlock from if_pos hs']; exact hk) (by simp) (by simp; exact e))
  · refine h.inj.upd h.lt (.ls t) (fun a ha => ?_) (fun k hk => ?_)
    · cases a with
      | ls s =>
        have e : ¬ s = t := fun e => ha (by rw [e])
        simp only [GB.blk, upd_other _ _ e]
      | _ => rfl
    · have hk' : v'.ownBlock = some k := by
        have : (if t < g.n then (upd b.sv t v' t).ownBlock else none) = some k := hk
        rw [if_pos ht, upd_same] at this
        exact this
      rcases hv with hv | ⟨q, hq, hql⟩
      · left; rw [hL, ← hv]; exact hk'
      · right; rw [hq] at hk'; injection hk' with e; omega
  · by_cases e : s = t
    · subst e
      have hr' : r ∈ upd g.st s l' s := hr
      rw [upd_same] at hr'; exact hl r hr'
    · have hr' : r ∈ upd g.st t l' s := hr
      rw [upd_other _ _ e] at hr'; exact h.okS s hs' r hr'

/-- a reference of an object becomes another -/
theorem GAt.setRef (h : GAt w b g) (i j : Nat) (r : Int) (hi : i < g.m) (hj : j < (g.rf i).length) (hr : 0 ≤ r ∧ r ≤ g.m) :
    GAt (w.setCell ⟨b.R i, j, none⟩ (.int .u64 r)) b { g with rf := upd g.rf i ((g.rf i).set j r) } := by
  have hR : b.blk g.n g.m (.rf i) = some (b.R i) := if_pos hi
  have c : Chg (fun k => k = b.R i) w (w.setCell ⟨b.R i, j, none⟩ (.int .u64 r)) := by (repeat (first | with_reducible exact Chg.refl _ _ | with_reducible apply Chg.drewN | with_reducible apply Chg.drew | with_reducible apply Chg.alloc | (with_reducible refine Chg.setCell ?_ ?_ _; rotate_left; focus (first | (refine Or.inr ?_; first | omega | (simp; done) | (simp; omega)) | exact Or.inl (by assumption) | with_reducible exact Or.inl rfl | exact Or.inl (by simp))) | refine Chg.trans ?_ (Chg.of_below (by with_reducible assumption) (fun k h1 h2 => absurd h1 (by first | omega | (simp; omega)))) | refine Chg.trans ?_ (by with_reducible assumption)))
  have off : ∀ a k, b.blk g.n g.m a = some k → a ≠ .rf i → ¬ k = b.R i := fun a k ha h1 hk => by subst hk; exact h1 (h.inj a (.rf i) _ ha hR)
  have hpl := h.lt .p b.p rfl
  have hp := off .p b.p rfl (by simp)
  obtain ⟨T, hT1, hT2⟩ := h.thr
  obtain ⟨O, hO1, hO2⟩ := h.obj
  have hlen : ∀ s, (upd g.rf i ((g.rf i).set j r) s).length = (g.rf s).length := fun s => by
    by_cases e : s = i
    · subst e; rw [upd_same, List.length_set]
    · rw [upd_other _ _ e]
  refine { h with
    mx := (c.cell hpl hp).trans h.mx
    obs := (c.cell hpl hp).trans h.obs
    ths := (c.cell hpl hp).trans h.ths
    fz1 := (c.frozen hpl hp).trans h.fz1
    fz2 := (c.frozen hpl hp).trans h.fz2
    thr := ⟨T, c.owns hT1 (fun k hk => off .th k hk (by simp)), hT2⟩
    stk := fun s hs' => (h.stk s hs').chg c (off (.st s) _ (if_pos hs') (by simp)) (fun k hk => off (.ls s) k (by rw [show b.blk g.n g.m (.ls s) = (b.sv s).ownBlock from if_pos hs']; exact hk) (by simp))
    obj := ⟨O, c.owns hO1 (fun k hk => off .ob k hk (by simp)), fun s hs' => ?_⟩
    rfs := fun s hs' => ?_
    dts := fun s hs' => c.row (h.dts s hs') (off (.dt s) _ (if_pos hs') (by simp))
    okR := fun s hs' x hx => ?_
    small := fun s hs' => ?_ }
  · show O[s * 2]? = some (.slice (some ⟨b.R s, 0, none⟩) (upd g.rf i ((g.rf i).set j r) s).length (upd g.rf i ((g.rf i).set j r) s).length) ∧ _
    rw [hlen s]
    exact hO2 s hs'
  · show (w.setCell ⟨b.R i, j, none⟩ (.int .u64 r)).rowIs (b.R s) 30 (upd g.rf i ((g.rf i).set j r) s).length (fun j' => .int .u64 ((upd g.rf i ((g.rf i).set j r) s).getD j' 0))
    rw [hlen s]
    by_cases e : s = i
    · subst e
      rw [upd_same]
      refine ((h.rfs s hs').set j _).congr (fun x hx => ?_)
      by_cases e2 : x = j
      · subst e2
        simp [hj]
      · have e3 : ¬ j = x := fun e => e2 e.symm
        simp [e2, e3, List.getElem?_set]
    · rw [upd_other _ _ e]
      exact c.row (h.rfs s hs') (off (.rf s) _ (if_pos hs') (by simp; exact e))
  · have hx' : x ∈ upd g.rf i ((g.rf i).set j r) s := hx
    by_cases e : s = i
    · subst e
      rw [upd_same] at hx'
      rcases List.mem_or_eq_of_mem_set hx' with h1 | h1
      · exact h.okR s hs' x h1
      · rw [h1]; exact hr
    · rw [upd_other _ _ e] at hx'
      exact h.okR s hs' x hx'
  · show (upd g.rf i ((g.rf i).set j r) s).length ≤ 1048576 ∧ _
    rw [hlen s]
    exact h.small s hs'

/-- a data word of an object becomes another -/
theorem GAt.setData (h : GAt w b g) (i j : Nat) (r : Int) (hi : i < g.m) (hj : j < (g.dt i).length) :
    GAt (w.setCell ⟨b.D i, j, none⟩ (.int .u64 r)) b { g with dt := upd g.dt i ((g.dt i).set j r) } := by
  have hR : b.blk g.n g.m (.dt i) = some (b.D i) := if_pos hi
  have c : Chg (fun k => k = b.D i) w (w.setCell ⟨b.D i, j, none⟩ (.int .u64 r)) := by (repeat (first | with_reducible exact Chg.refl _ _ | with_reducible apply Chg.drewN | with_reducible apply Chg.drew | with_reducible apply Chg.alloc | (with_reducible refine Chg.setCell ?_ ?_ _; rotate_left; focus (first | (refine Or.inr ?_; first | omega | (simp; done) | (simp; omega)) | exact Or.inl (by assumption) | with_reducible exact Or.inl rfl | exact Or.inl (by simp))) | refine Chg.trans ?_ (Chg.of_below (by with_reducible assumption) (fun k h1 h2 => absurd h1 (by first | omega | (simp; omega)))) | refine Chg.trans ?_ (by with_reducible assumption)))
  have off : ∀ a k, b.blk g.n g.m a = some k → a ≠ .dt i → ¬ k = b.D i := fun a k ha h1 hk => by subst hk; exact h1 (h.inj a (.dt i) _ ha hR)
  have hpl := h.lt .p b.p rfl
  have hp := off .p b.p rfl (by simp)
  obtain ⟨T, hT1, hT2⟩ := h.thr
  obtain ⟨O, hO1, hO2⟩ := h.obj
  have hlen : ∀ s, (upd g.dt i ((g.dt i).set j r) s).length = (g.dt s).length := fun s => by
    by_cases e : s = i
    · subst e; rw [upd_same, List.length_set]
    · rw [upd_other _ _ e]
  refine { h with
    mx := (c.cell hpl hp).trans h.mx
    obs := (c.cell hpl hp).trans h.obs
    ths := (c.cell hpl hp).trans h.ths
    fz1 := (c.frozen hpl hp).trans h.fz1
    fz2 := (c.frozen hpl hp).trans h.fz2
    thr := ⟨T, c.owns hT1 (fun k hk => off .th k hk (by simp)), hT2⟩
    stk := fun s hs' => (h.stk s hs').chg c (off (.st s) _ (if_pos hs') (by simp)) (fun k hk => off (.ls s) k (by rw [show b.blk g.n g.m (.ls s) = (b.sv s).ownBlock from if_pos hs']; exact hk) (by simp))
    obj := ⟨O, c.owns hO1 (fun k hk => off .ob k hk (by simp)), fun s hs' => ?_⟩
    rfs := fun s hs' => c.row (h.rfs s hs') (off (.rf s) _ (if_pos hs') (by simp))
    dts := fun s hs' => ?_
    small := fun s hs' => ?_ }
  · show _ ∧ O[s * 2 + 1]? = some (.slice (some ⟨b.D s, 0, none⟩) (upd g.dt i ((g.dt i).set j r) s).length (upd g.dt i ((g.dt i).set j r) s).length)
    rw [hlen s]
    exact hO2 s hs'
  · show (w.setCell ⟨b.D i, j, none⟩ (.int .u64 r)).rowIs (b.D s) 29 (upd g.dt i ((g.dt i).set j r) s).length (fun j' => .int .u64 ((upd g.dt i ((g.dt i).set j r) s).getD j' 0))
    rw [hlen s]
    by_cases e : s = i
    · subst e
      rw [upd_same]
      refine ((h.dts s hs').set j _).congr (fun x hx => ?_)
      by_cases e2 : x = j
      · subst e2
        simp [hj]
      · have e3 : ¬ j = x := fun e => e2 e.symm
        simp [e2, e3, List.getElem?_set]
    · rw [upd_other _ _ e]
      exact c.row (h.dts s hs') (off (.dt s) _ (if_pos hs') (by simp; exact e))
  · show _ ∧ (upd g.dt i ((g.dt i).set j r) s).length ≤ 1048576
    rw [hlen s]
    exact h.small s hs'
end
end Go.Proofs.Ytcdllelbdcacjaa
