/-
  The document's graph (layer 13): where it lies, and what it is behind a change of one of its parts. No function of the program in sight but a stack's Push.
-/
import Derived.Test.YtcdllelbdcacjaaGraph21
set_option linter.unusedVariables false
set_option linter.unusedSimpArgs false
namespace Go.Proofs.Ytcdllelbdcacjaa.R
open Go.RowKit

/-- where it lies: its struct, the threads' slice, the stacks' structs and slices, the objects' slice, the objects' references and data -/
structure GB where
  p : Nat
  tv : Value
  dn : Nat
  S : Nat → Nat
  sv : Nat → Value
  ov : Value
  R : Nat → Nat
  D : Nat → Nat

/-- the names of a graph's blocks -/
inductive Lab where
  | p | th | ob | dn
  | st (t : Nat) | ls (t : Nat) | rf (i : Nat) | dt (i : Nat)

instance labDec : DecidableEq Lab := fun a c => by
  cases a <;> cases c <;> first
    | exact isTrue rfl
    | exact isFalse (fun e => Lab.noConfusion e)
    | (rename_i s t; exact if h : s = t then isTrue (h ▸ rfl) else isFalse (fun e => h (by injection e)))

/-- the block of a name -/
def GB.blk (b : GB) (n m : Nat) : Lab → Option Nat
  | .p => some b.p
  | .th => b.tv.ownBlock
  | .ob => b.ov.ownBlock
  | .dn => some b.dn
  | .st t => if t < n then some (b.S t) else none
  | .ls t => if t < n then (b.sv t).ownBlock else none
  | .rf i => if i < m then some (b.R i) else none
  | .dt i => if i < m then some (b.D i) else none

/-- no two names have one block -/
def Inj (f : Lab → Option Nat) : Prop := ∀ a c k, f a = some k → f c = some k → a = c

/-- one name's block becomes another: its own again, or a new one -/
theorem Inj.upd {f f' : Lab → Option Nat} {N : Nat} (h : Inj f) (lt : ∀ a k, f a = some k → k < N) (a0 : Lab) (same : ∀ a, a ≠ a0 → f' a = f a) (new : ∀ k, f' a0 = some k → f a0 = some k ∨ N ≤ k) : Inj f' := by
  intro a c k ha hc
  by_cases h1 : a = a0
  · by_cases h2 : c = a0
    · rw [h1, h2]
    · rw [same c h2] at hc
      subst h1
      rcases new k ha with h3 | h3
      · exact absurd (h a c k h3 hc).symm h2
      · have := lt c k hc; omega
  · rw [same a h1] at ha
    by_cases h2 : c = a0
    · subst h2
      rcases new k hc with h3 | h3
      · exact absurd (h a c k ha h3) h1
      · have := lt a k ha; omega
    · rw [same c h2] at hc
      exact h a c k ha hc

/-- a graph lies there -/
structure GAt (dcap : Nat) (w : World) (b : GB) (g : GS) : Prop where
  mx : w.cell? ⟨b.p, 0, none⟩ = some (.int .i64 g.max)
  obs : w.cell? ⟨b.p, 1, none⟩ = some b.ov
  ths : w.cell? ⟨b.p, 2, none⟩ = some b.tv
  fz1 : w.frozen? ⟨b.p, 1, none⟩ = false
  fz2 : w.frozen? ⟨b.p, 2, none⟩ = false
  thr : ∃ T : List Value, w.ownsRow 0 36 1 b.tv g.n T ∧ ∀ t, t < g.n → T[t]? = some (.pointer (some ⟨b.S t, 0, none⟩))
  dns : w.cell? ⟨b.p, 3, none⟩ = some (.slice (some ⟨b.dn, 0, none⟩) dcap dcap)
  dnl : g.n ≤ dcap ∧ dcap ≤ 64
  dnr : w.rowIs b.dn 3 dcap (fun t => .int .i64 (g.done t))
  stk : ∀ t, t < g.n → StackAt w (b.S t) (b.sv t) g.bound (g.st t)
  obj : ∃ O : List Value, w.ownsRow 0 109 2 b.ov g.m O ∧ ∀ i, i < g.m → O[i * 2]? = some (.slice (some ⟨b.R i, 0, none⟩) (g.rf i).length (g.rf i).length) ∧ O[i * 2 + 1]? = some (.slice (some ⟨b.D i, 0, none⟩) (g.dt i).length (g.dt i).length)
  rfs : ∀ i, i < g.m → w.rowIs (b.R i) 30 (g.rf i).length (fun j => .int .u64 ((g.rf i).getD j 0))
  dts : ∀ i, i < g.m → w.rowIs (b.D i) 29 (g.dt i).length (fun j => .int .u64 ((g.dt i).getD j 0))
  inj : Inj (b.blk g.n g.m)
  okS : ∀ t, t < g.n → ∀ r, r ∈ g.st t → 0 ≤ r ∧ r ≤ g.m
  okR : ∀ i, i < g.m → ∀ r, r ∈ g.rf i → 0 ≤ r ∧ r ≤ g.m
  small : ∀ i, i < g.m → (g.rf i).length ≤ 1048576 ∧ (g.dt i).length ≤ 1048576
  mmax : g.max ≤ 1048576
  n64 : g.n ≤ 64
  objs : g.m ≤ 1048576

/-- a block of the graph -/
def GB.has (b : GB) (n m : Nat) (k : Nat) : Prop := ∃ a, b.blk n m a = some k

section
variable {dcap : Nat} {w w' : World} {b : GB} {g : GS}
theorem GAt.lt (h : GAt dcap w b g) : ∀ a k, b.blk g.n g.m a = some k → k < w.heap.size := by
  intro a k hk
  cases a with
  | p => simp [GB.blk] at hk; subst hk; exact cell_lt h.mx
  | th => obtain ⟨T, hT, _⟩ := h.thr; exact (hT.lt k hk).2
  | ob => obtain ⟨O, hO, _⟩ := h.obj; exact (hO.lt k hk).2
  | dn => simp [GB.blk] at hk; subst hk; exact h.dnr.lt
  | st t =>
    simp only [GB.blk] at hk
    split at hk
    · rename_i ht; injection hk with hk; subst hk; exact (h.stk t ht).lt
    · cases hk
  | ls t =>
    simp only [GB.blk] at hk
    split at hk
    · rename_i ht; exact ((h.stk t ht).own.lt k hk).2
    · cases hk
  | rf i =>
    simp only [GB.blk] at hk
    split at hk
    · rename_i hi; injection hk with hk; subst hk; exact (h.rfs i hi).lt
    · cases hk
  | dt i =>
    simp only [GB.blk] at hk
    split at hk
    · rename_i hi; injection hk with hk; subst hk; exact (h.dts i hi).lt
    · cases hk
theorem GAt.chg {S : Nat → Prop} (h : GAt dcap w b g) (c : Chg S w w') (hn : ∀ k, b.has g.n g.m k → ¬ S k) : GAt dcap w' b g := by
  have hp : ¬ S b.p := hn b.p ⟨.p, rfl⟩
  have hpl := h.lt .p b.p rfl
  have hst : ∀ t, t < g.n → ¬ S (b.S t) := fun t ht => hn _ ⟨.st t, if_pos ht⟩
  have hls : ∀ t, t < g.n → ∀ k, (b.sv t).ownBlock = some k → ¬ S k := fun t ht k hk => hn k ⟨.ls t, by simp [GB.blk, ht, hk]⟩
  have hrf : ∀ i, i < g.m → ¬ S (b.R i) := fun i hi => hn _ ⟨.rf i, if_pos hi⟩
  have hdt : ∀ i, i < g.m → ¬ S (b.D i) := fun i hi => hn _ ⟨.dt i, if_pos hi⟩
  obtain ⟨T, hT1, hT2⟩ := h.thr
  obtain ⟨O, hO1, hO2⟩ := h.obj
  exact { h with
    mx := (c.cell hpl hp).trans h.mx
    obs := (c.cell hpl hp).trans h.obs
    ths := (c.cell hpl hp).trans h.ths
    fz1 := (c.frozen hpl hp).trans h.fz1
    fz2 := (c.frozen hpl hp).trans h.fz2
    thr := ⟨T, c.owns hT1 (fun k hk => hn k ⟨.th, hk⟩), hT2⟩
    stk := fun t ht => (h.stk t ht).chg c (hst t ht) (hls t ht)
    obj := ⟨O, c.owns hO1 (fun k hk => hn k ⟨.ob, hk⟩), hO2⟩
    dns := (c.cell hpl hp).trans h.dns
    dnr := c.row h.dnr (hn _ ⟨.dn, rfl⟩)
    rfs := fun i hi => c.row (h.rfs i hi) (hrf i hi)
    dts := fun i hi => c.row (h.dts i hi) (hdt i hi) }
theorem GAt.quiet (h : GAt dcap w b g) (c : Chg (fun _ => False) w w') : GAt dcap w' b g := h.chg c (by simp)
end

/-- an object, out of the objects' slice -/
theorem GAt.objAt {dcap : Nat} {w : World} {b : GB} {g : GS} (h : GAt dcap w b g) {i : Nat} (hi : i < g.m) : ∃ q cap, b.ov = .slice (some ⟨q, 0, none⟩) g.m cap ∧ q < w.heap.size ∧ w.cell? ⟨q, i * 2, none⟩ = some (.slice (some ⟨b.R i, 0, none⟩) (g.rf i).length (g.rf i).length) ∧
    w.cell? ⟨q, i * 2 + 1, none⟩ = some (.slice (some ⟨b.D i, 0, none⟩) (g.dt i).length (g.dt i).length) := by
  obtain ⟨O, hO1, hO2⟩ := h.obj
  obtain ⟨q, cap, hv, hq1, hq2⟩ := hO1.form (by omega)
  have hl := hO1.1
  refine ⟨q, cap, hv, hq2, ?_, ?_⟩
  · have := hO1.cells (g := q) (by rw [hv]; rfl) (i * 2) _ (hO2 i hi).1
    rw [Go.WideShapes.add_plain, Nat.zero_add] at this
    exact this
  · have := hO1.cells (g := q) (by rw [hv]; rfl) (i * 2 + 1) _ (hO2 i hi).2
    rw [Go.WideShapes.add_plain, Nat.zero_add] at this
    exact this

section
variable {dcap : Nat} {w w1 : World} {b : GB} {g : GS}

/-- two names of one block are one name: what lies in one lies not in the other -/
theorem GAt.ne (h : GAt dcap w b g) {a c : Lab} {k : Nat} (ha : b.blk g.n g.m a = some k) (hac : a ≠ c) : b.blk g.n g.m c ≠ some k := fun hc => hac (h.inj a c k ha hc)

/-- a thread's stack is another -/
theorem GAt.restack (h : GAt dcap w b g) (t : Nat) (ht : t < g.n) (v' : Value) (l' : List Int) (c : Chg (fun k => k = b.S t ∨ (b.sv t).ownBlock = some k) w w1) (hs : StackAt w1 (b.S t) v' g.bound l')
    (hv : v'.ownBlock = (b.sv t).ownBlock ∨ ∃ q, v'.ownBlock = some q ∧ w.heap.size ≤ q) (hl : ∀ r, r ∈ l' → 0 ≤ r ∧ r ≤ g.m) :
    GAt dcap w1 { b with sv := upd b.sv t v' } { g with st := upd g.st t l' } := by
  have hS : b.blk g.n g.m (.st t) = some (b.S t) := if_pos ht
  have hL : b.blk g.n g.m (.ls t) = (b.sv t).ownBlock := if_pos ht
  have off : ∀ a k, b.blk g.n g.m a = some k → a ≠ .st t → a ≠ .ls t → ¬ (k = b.S t ∨ (b.sv t).ownBlock = some k) := fun a k ha h1 h2 hk => by
    rcases hk with hk | hk
    · subst hk; exact h1 (h.inj a (.st t) _ ha hS)
    · exact h2 (h.inj a (.ls t) k ha (by rw [hL]; exact hk))
  have hpl := h.lt .p b.p rfl
  have hp := off .p b.p rfl (by simp) (by simp)
  obtain ⟨T, hT1, hT2⟩ := h.thr
  obtain ⟨O, hO1, hO2⟩ := h.obj
  refine { h with
    mx := (c.cell hpl hp).trans h.mx
    obs := (c.cell hpl hp).trans h.obs
    ths := (c.cell hpl hp).trans h.ths
    fz1 := (c.frozen hpl hp).trans h.fz1
    fz2 := (c.frozen hpl hp).trans h.fz2
    thr := ⟨T, c.owns hT1 (fun k hk => off .th k hk (by simp) (by simp)), hT2⟩
    stk := fun s hs' => ?_
    dns := (c.cell hpl hp).trans h.dns
    dnr := c.row h.dnr (off .dn _ rfl (by simp) (by simp))
    obj := ⟨O, c.owns hO1 (fun k hk => off .ob k hk (by simp) (by simp)), hO2⟩
    rfs := fun i hi => c.row (h.rfs i hi) (off (.rf i) _ (if_pos hi) (by simp) (by simp))
    dts := fun i hi => c.row (h.dts i hi) (off (.dt i) _ (if_pos hi) (by simp) (by simp))
    inj := ?_
    okS := fun s hs' r hr => ?_ }
  · by_cases e : s = t
    · subst e
      show StackAt w1 (b.S s) (upd b.sv s v' s) g.bound (upd g.st s l' s)
      rw [upd_same, upd_same]; exact hs
    · show StackAt w1 (b.S s) (upd b.sv t v' s) g.bound (upd g.st t l' s)
      rw [upd_other _ _ e, upd_other _ _ e]
      exact (h.stk s hs').chg c (off (.st s) _ (if_pos hs') (by simp; exact e) (by simp)) (fun k hk => off (.ls s) k (by rw [show b.blk g.n g.m (.ls s) = (b.sv s).ownBlock from if_pos hs']; exact hk) (by simp) (by simp; exact e))
  · refine h.inj.upd h.lt (.ls t) (fun a ha => ?_) (fun k hk => ?_)
    · cases a with
      | ls s =>
        have e : ¬ s = t := fun e => ha (by rw [e])
        simp only [GB.blk, upd_other _ _ e]
      | _ => rfl
    · have hk' : v'.ownBlock = some k := by
        have : (if t < g.n then (upd b.sv t v' t).ownBlock else none) = some k := hk
        rw [if_pos ht, upd_same] at this
        exact this
      rcases hv with hv | ⟨q, hq, hql⟩
      · left; rw [hL, ← hv]; exact hk'
      · right; rw [hq] at hk'; injection hk' with e; omega
  · by_cases e : s = t
    · subst e
      have hr' : r ∈ upd g.st s l' s := hr
      rw [upd_same] at hr'; exact hl r hr'
    · have hr' : r ∈ upd g.st t l' s := hr
      rw [upd_other _ _ e] at hr'; exact h.okS s hs' r hr'

/-- a reference of an object becomes another -/
theorem GAt.setRef (h : GAt dcap w b g) (i j : Nat) (r : Int) (hi : i < g.m) (hj : j < (g.rf i).length) (hr : 0 ≤ r ∧ r ≤ g.m) :
    GAt dcap (w.setCell ⟨b.R i, j, none⟩ (.int .u64 r)) b { g with rf := upd g.rf i ((g.rf i).set j r) } := by
  have hR : b.blk g.n g.m (.rf i) = some (b.R i) := if_pos hi
  have c : Chg (fun k => k = b.R i) w (w.setCell ⟨b.R i, j, none⟩ (.int .u64 r)) := by (repeat (first | with_reducible exact Chg.refl _ _ | with_reducible apply Chg.drewN | with_reducible apply Chg.drew | with_reducible apply Chg.alloc | (with_reducible refine Chg.setCell ?_ ?_ _; rotate_left; focus (first | (refine Or.inr ?_; first | omega | (simp; done) | (simp; omega)) | exact Or.inl (by assumption) | with_reducible exact Or.inl rfl | exact Or.inl (by simp))) | refine Chg.trans ?_ (Chg.of_below (by with_reducible assumption) (fun k h1 h2 => absurd h1 (by first | omega | (simp; omega)))) | refine Chg.trans ?_ (by with_reducible assumption)))
  have off : ∀ a k, b.blk g.n g.m a = some k → a ≠ .rf i → ¬ k = b.R i := fun a k ha h1 hk => by subst hk; exact h1 (h.inj a (.rf i) _ ha hR)
  have hpl := h.lt .p b.p rfl
  have hp := off .p b.p rfl (by simp)
  obtain ⟨T, hT1, hT2⟩ := h.thr
  obtain ⟨O, hO1, hO2⟩ := h.obj
  have hlen : ∀ s, (upd g.rf i ((g.rf i).set j r) s).length = (g.rf s).length := fun s => by
    by_cases e : s = i
    · subst e; rw [upd_same, List.length_set]
    · rw [upd_other _ _ e]
  refine { h with
    mx := (c.cell hpl hp).trans h.mx
    obs := (c.cell hpl hp).trans h.obs
    ths := (c.cell hpl hp).trans h.ths
    fz1 := (c.frozen hpl hp).trans h.fz1
    fz2 := (c.frozen hpl hp).trans h.fz2
    thr := ⟨T, c.owns hT1 (fun k hk => off .th k hk (by simp)), hT2⟩
    stk := fun s hs' => (h.stk s hs').chg c (off (.st s) _ (if_pos hs') (by simp)) (fun k hk => off (.ls s) k (by rw [show b.blk g.n g.m (.ls s) = (b.sv s).ownBlock from if_pos hs']; exact hk) (by simp))
    dns := (c.cell hpl hp).trans h.dns
    dnr := c.row h.dnr (off .dn _ rfl (by simp))
    obj := ⟨O, c.owns hO1 (fun k hk => off .ob k hk (by simp)), fun s hs' => ?_⟩
    rfs := fun s hs' => ?_
    dts := fun s hs' => c.row (h.dts s hs') (off (.dt s) _ (if_pos hs') (by simp))
    okR := fun s hs' x hx => ?_
    small := fun s hs' => ?_ }
  · show O[s * 2]? = some (.slice (some ⟨b.R s, 0, none⟩) (upd g.rf i ((g.rf i).set j r) s).length (upd g.rf i ((g.rf i).set j r) s).length) ∧ _
    rw [hlen s]
    exact hO2 s hs'
  · show (w.setCell ⟨b.R i, j, none⟩ (.int .u64 r)).rowIs (b.R s) 30 (upd g.rf i ((g.rf i).set j r) s).length (fun j' => .int .u64 ((upd g.rf i ((g.rf i).set j r) s).getD j' 0))
    rw [hlen s]
    by_cases e : s = i
    · subst e
      rw [upd_same]
      refine ((h.rfs s hs').set j _).congr (fun x hx => ?_)
      by_cases e2 : x = j
      · subst e2
        simp [hj]
      · have e3 : ¬ j = x := fun e => e2 e.symm
        simp [e2, e3, List.getElem?_set]
    · rw [upd_other _ _ e]
      exact c.row (h.rfs s hs') (off (.rf s) _ (if_pos hs') (by simp; exact e))
  · have hx' : x ∈ upd g.rf i ((g.rf i).set j r) s := hx
    by_cases e : s = i
    · subst e
      rw [upd_same] at hx'
      rcases List.mem_or_eq_of_mem_set hx' with h1 | h1
      · exact h.okR s hs' x h1
      · rw [h1]; exact hr
    · rw [upd_other _ _ e] at hx'
      exact h.okR s hs' x hx'
  · show (upd g.rf i ((g.rf i).set j r) s).length ≤ 1048576 ∧ _
    rw [hlen s]
    exact h.small s hs'

/-- a data word of an object becomes another -/
theorem GAt.setData (h : GAt dcap w b g) (i j : Nat) (r : Int) (hi : i < g.m) (hj : j < (g.dt i).length) :
    GAt dcap (w.setCell ⟨b.D i, j, none⟩ (.int .u64 r)) b { g with dt := upd g.dt i ((g.dt i).set j r) } := by
  have hR : b.blk g.n g.m (.dt i) = some (b.D i) := if_pos hi
  have c : Chg (fun k => k = b.D i) w (w.setCell ⟨b.D i, j, none⟩ (.int .u64 r)) := by (repeat (first | with_reducible exact Chg.refl _ _ | with_reducible apply Chg.drewN | with_reducible apply Chg.drew | with_reducible apply Chg.alloc | (with_reducible refine Chg.setCell ?_ ?_ _; rotate_left; focus (first | (refine Or.inr ?_; first | omega | (simp; done) | (simp; omega)) | exact Or.inl (by assumption) | with_reducible exact Or.inl rfl | exact Or.inl (by simp))) | refine Chg.trans ?_ (Chg.of_below (by with_reducible assumption) (fun k h1 h2 => absurd h1 (by first | omega | (simp; omega)))) | refine Chg.trans ?_ (by with_reducible assumption)))
  have off : ∀ a k, b.blk g.n g.m a = some k → a ≠ .dt i → ¬ k = b.D i := fun a k ha h1 hk => by subst hk; exact h1 (h.inj a (.dt i) _ ha hR)
  have hpl := h.lt .p b.p rfl
  have hp := off .p b.p rfl (by simp)
  obtain ⟨T, hT1, hT2⟩ := h.thr
  obtain ⟨O, hO1, hO2⟩ := h.obj
  have hlen : ∀ s, (upd g.dt i ((g.dt i).set j r) s).length = (g.dt s).length := fun s => by
    by_cases e : s = i
    · subst e; rw [upd_same, List.length_set]
    · rw [upd_other _ _ e]
  refine { h with
    mx := (c.cell hpl hp).trans h.mx
    obs := (c.cell hpl hp).trans h.obs
    ths := (c.cell hpl hp).trans h.ths
    fz1 := (c.frozen hpl hp).trans h.fz1
    fz2 := (c.frozen hpl hp).trans h.fz2
    thr := ⟨T, c.owns hT1 (fun k hk => off .th k hk (by simp)), hT2⟩
    stk := fun s hs' => (h.stk s hs').chg c (off (.st s) _ (if_pos hs') (by simp)) (fun k hk => off (.ls s) k (by rw [show b.blk g.n g.m (.ls s) = (b.sv s).ownBlock from if_pos hs']; exact hk) (by simp))
    dns := (c.cell hpl hp).trans h.dns
    dnr := c.row h.dnr (off .dn _ rfl (by simp))
    obj := ⟨O, c.owns hO1 (fun k hk => off .ob k hk (by simp)), fun s hs' => ?_⟩
    rfs := fun s hs' => c.row (h.rfs s hs') (off (.rf s) _ (if_pos hs') (by simp))
    dts := fun s hs' => ?_
    small := fun s hs' => ?_ }
  · show _ ∧ O[s * 2 + 1]? = some (.slice (some ⟨b.D s, 0, none⟩) (upd g.dt i ((g.dt i).set j r) s).length (upd g.dt i ((g.dt i).set j r) s).length)
    rw [hlen s]
    exact hO2 s hs'
  · show (w.setCell ⟨b.D i, j, none⟩ (.int .u64 r)).rowIs (b.D s) 29 (upd g.dt i ((g.dt i).set j r) s).length (fun j' => .int .u64 ((upd g.dt i ((g.dt i).set j r) s).getD j' 0))
    rw [hlen s]
    by_cases e : s = i
    · subst e
      rw [upd_same]
      refine ((h.dts s hs').set j _).congr (fun x hx => ?_)
      by_cases e2 : x = j
      · subst e2
        simp [hj]
      · have e3 : ¬ j = x := fun e => e2 e.symm
        simp [e2, e3, List.getElem?_set]
    · rw [upd_other _ _ e]
      exact c.row (h.dts s hs') (off (.dt s) _ (if_pos hs') (by simp; exact e))
  · show _ ∧ (upd g.dt i ((g.dt i).set j r) s).length ≤ 1048576
    rw [hlen s]
    exact h.small s hs'
end
theorem Inj.fresh {f f' : Lab → Option Nat} (h : Inj f) (a0 : Lab) (same : ∀ a, a ≠ a0 → f' a = f a) (new : ∀ k, f' a0 = some k → f a0 = some k ∨ ∀ a, a ≠ a0 → f a ≠ some k) : Inj f' := by
  intro a c k ha hc
  by_cases h1 : a = a0
  · by_cases h2 : c = a0
    · rw [h1, h2]
    · rw [same c h2] at hc
      subst h1
      rcases new k ha with h3 | h3
      · exact absurd (h a c k h3 hc).symm h2
      · exact absurd hc (h3 c h2)
  · rw [same a h1] at ha
    by_cases h2 : c = a0
    · subst h2
      rcases new k hc with h3 | h3
      · exact absurd (h a c k ha h3) h1
      · exact absurd ha (h3 a h1)
    · rw [same c h2] at hc
      exact h a c k ha hc

section
variable {dcap : Nat} {w w1 : World} {b : GB} {g : GS}

/-- where a thread's cells lie -/
theorem GAt.thrAt (h : GAt dcap w b g) {t : Nat} (ht : t < g.n) : ∃ q cap, b.tv = .slice (some ⟨q, 0, none⟩) g.n cap ∧ q < w.heap.size ∧ b.blk g.n g.m .th = some q ∧ w.cell? ⟨q, t, none⟩ = some (.pointer (some ⟨b.S t, 0, none⟩)) := by
  obtain ⟨T, hT1, hT2⟩ := h.thr
  obtain ⟨q, cap, hv, hq1, hq2⟩ := hT1.form (by omega)
  refine ⟨q, cap, hv, hq2, by simp [GB.blk, hv, Value.ownBlock], ?_⟩
  have := hT1.cells (g := q) (by rw [hv]; rfl) t _ (hT2 t ht)
  rw [Go.WideShapes.add_plain, Nat.zero_add] at this
  exact this

/-- a thread's operations are counted -/
theorem GAt.count (h : GAt dcap w b g) (t : Nat) (d : Int) :
    GAt dcap (w.setCell ⟨b.dn, t, none⟩ (.int .i64 d)) b { g with done := upd g.done t d } := by
  have hq : b.blk g.n g.m .dn = some b.dn := rfl
  have c : Chg (fun k => k = b.dn) w (w.setCell ⟨b.dn, t, none⟩ (.int .i64 d)) := by (repeat (first | with_reducible exact Chg.refl _ _ | with_reducible apply Chg.drewN | with_reducible apply Chg.drew | with_reducible apply Chg.alloc | (with_reducible refine Chg.setCell ?_ ?_ _; rotate_left; focus (first | (refine Or.inr ?_; first | omega | (simp; done) | (simp; omega)) | exact Or.inl (by assumption) | with_reducible exact Or.inl rfl | exact Or.inl (by simp))) | refine Chg.trans ?_ (Chg.of_below (by with_reducible assumption) (fun k h1 h2 => absurd h1 (by first | omega | (simp; omega)))) | refine Chg.trans ?_ (by with_reducible assumption)))
  have off : ∀ a k, b.blk g.n g.m a = some k → a ≠ .dn → ¬ k = b.dn := fun a k ha h1 hk => by subst hk; exact h1 (h.inj a .dn _ ha hq)
  have hpl := h.lt .p b.p rfl
  have hp := off .p b.p rfl (by simp)
  obtain ⟨T, hT1, hT2⟩ := h.thr
  obtain ⟨O, hO1, hO2⟩ := h.obj
  exact { h with
    mx := (c.cell hpl hp).trans h.mx
    obs := (c.cell hpl hp).trans h.obs
    ths := (c.cell hpl hp).trans h.ths
    fz1 := (c.frozen hpl hp).trans h.fz1
    fz2 := (c.frozen hpl hp).trans h.fz2
    thr := ⟨T, c.owns hT1 (fun k hk => off .th k hk (by simp)), hT2⟩
    dns := (c.cell hpl hp).trans h.dns
    dnr := (h.dnr.set t _).congr (fun x hx => by
      show (if x = t then (Value.int .i64 d) else .int .i64 (g.done x)) = .int .i64 (upd g.done t d x)
      by_cases e : x = t
      · rw [if_pos e, e, upd_same]
      · rw [if_neg e, upd_other _ _ e])
    stk := fun s hs' => (h.stk s hs').chg c (off (.st s) _ (if_pos hs') (by simp)) (fun k hk => off (.ls s) k (by rw [show b.blk g.n g.m (.ls s) = (b.sv s).ownBlock from if_pos hs']; exact hk) (by simp))
    obj := ⟨O, c.owns hO1 (fun k hk => off .ob k hk (by simp)), hO2⟩
    rfs := fun i hi => c.row (h.rfs i hi) (off (.rf i) _ (if_pos hi) (by simp))
    dts := fun i hi => c.row (h.dts i hi) (off (.dt i) _ (if_pos hi) (by simp)) }

/-- an object more -/
theorem GAt.addObj (h : GAt dcap w b g) (ov' : Value) (R' D' : Nat) (rl dl : List Int) (O : List Value) (c : Chg (fun k => b.ov.ownBlock = some k) w w1) (hO1 : w.ownsRow 0 109 2 b.ov g.m O)
    (hO2 : ∀ i, i < g.m → O[i * 2]? = some (.slice (some ⟨b.R i, 0, none⟩) (g.rf i).length (g.rf i).length) ∧ O[i * 2 + 1]? = some (.slice (some ⟨b.D i, 0, none⟩) (g.dt i).length (g.dt i).length))
    (ho : w1.ownsRow 0 109 2 ov' (g.m + 1) (O ++ [.slice (some ⟨R', 0, none⟩) rl.length rl.length, .slice (some ⟨D', 0, none⟩) dl.length dl.length]))
    (hov : ∀ k, ov'.ownBlock = some k → b.ov.ownBlock = some k ∨ (w.heap.size ≤ k ∧ k ≠ R' ∧ k ≠ D'))
    (hR : w1.rowIs R' 30 rl.length (fun j => .int .u64 (rl.getD j 0))) (hD : w1.rowIs D' 29 dl.length (fun j => .int .u64 (dl.getD j 0))) (hR' : w.heap.size ≤ R') (hD' : w.heap.size ≤ D') (hRD : R' ≠ D')
    (hr : ∀ r, r ∈ rl → 0 ≤ r ∧ r ≤ g.m) (hl : rl.length ≤ 1048576 ∧ dl.length ≤ 1048576) (hm : g.m + 1 ≤ 1048576) :
    GAt dcap (w1.setCell ⟨b.p, 1, none⟩ ov') { b with ov := ov', R := upd b.R g.m R', D := upd b.D g.m D' } { g with m := g.m + 1, rf := upd g.rf g.m rl, dt := upd g.dt g.m dl } := by
  have hB : b.blk g.n g.m .ob = b.ov.ownBlock := rfl
  have off : ∀ a k, b.blk g.n g.m a = some k → a ≠ .ob → ¬ b.ov.ownBlock = some k := fun a k ha h1 hk => h1 (h.inj a .ob k ha hk)
  have hpl := h.lt .p b.p rfl
  have hp := off .p b.p rfl (by simp)
  have hpl1 : b.p < w1.heap.size := Nat.lt_of_lt_of_le hpl c.size
  have c2 : Chg (fun k => k = b.p) w1 (w1.setCell ⟨b.p, 1, none⟩ ov') := by (repeat (first | with_reducible exact Chg.refl _ _ | with_reducible apply Chg.drewN | with_reducible apply Chg.drew | with_reducible apply Chg.alloc | (with_reducible refine Chg.setCell ?_ ?_ _; rotate_left; focus (first | (refine Or.inr ?_; first | omega | (simp; done) | (simp; omega)) | exact Or.inl (by assumption) | with_reducible exact Or.inl rfl | exact Or.inl (by simp))) | refine Chg.trans ?_ (Chg.of_below (by with_reducible assumption) (fun k h1 h2 => absurd h1 (by first | omega | (simp; omega)))) | refine Chg.trans ?_ (by with_reducible assumption)))
  have offp : ∀ a k, b.blk g.n g.m a = some k → a ≠ .p → ¬ k = b.p := fun a k ha h1 hk => by subst hk; exact h1 (h.inj a .p _ ha rfl)
  have hobs : w1.cell? ⟨b.p, 1, none⟩ = some b.ov := (c.cell hpl hp).trans h.obs
  obtain ⟨T, hT1, hT2⟩ := h.thr
  have hOl : O.length = g.m * 2 := hO1.1
  have hovp : ∀ k, ov'.ownBlock = some k → ¬ k = b.p := fun k hk e => by
    subst e
    rcases hov _ hk with h1 | h1
    · exact hp h1
    · omega
  refine { h with
    mx := by rw [World.cell?_setCell_other _ _ _ _ (by simp)]; exact (c.cell hpl hp).trans h.mx
    obs := World.cell?_setCell_same' _ _ _ (by rw [hobs]; rfl)
    ths := by rw [World.cell?_setCell_other _ _ _ _ (by simp)]; exact (c.cell hpl hp).trans h.ths
    fz1 := by rw [World.frozen?_setCell]; exact (c.frozen hpl hp).trans h.fz1
    fz2 := by rw [World.frozen?_setCell]; exact (c.frozen hpl hp).trans h.fz2
    thr := ⟨T, c2.owns (c.owns hT1 (fun k hk => off .th k hk (by simp))) (fun k hk => offp .th k hk (by simp)), hT2⟩
    stk := fun s hs' => ((h.stk s hs').chg c (off (.st s) _ (if_pos hs') (by simp)) (fun k hk => off (.ls s) k (by rw [show b.blk g.n g.m (.ls s) = (b.sv s).ownBlock from if_pos hs']; exact hk) (by simp))).chg c2 (offp (.st s) _ (if_pos hs') (by simp)) (fun k hk => offp (.ls s) k (by rw [show b.blk g.n g.m (.ls s) = (b.sv s).ownBlock from if_pos hs']; exact hk) (by simp))
    dns := by rw [World.cell?_setCell_other _ _ _ _ (by simp)]; exact (c.cell hpl hp).trans h.dns
    dnr := c2.row (c.row h.dnr (off .dn _ rfl (by simp))) (offp .dn _ rfl (by simp))
    obj := ⟨_, c2.owns ho (fun k hk => hovp k hk), fun s hs' => ?_⟩
    rfs := fun s hs' => ?_
    dts := fun s hs' => ?_
    inj := ?_
    okS := fun s hs' r hr' => by have := h.okS s hs' r hr'; exact ⟨this.1, by show r ≤ ((g.m + 1 : Nat) : Int); omega⟩
    okR := fun s hs' r hr' => ?_
    small := fun s hs' => ?_
    objs := hm }
  · by_cases e : s = g.m
    · subst e
      show (O ++ _)[g.m * 2]? = some (.slice (some ⟨upd b.R g.m R' g.m, 0, none⟩) (upd g.rf g.m rl g.m).length (upd g.rf g.m rl g.m).length) ∧ (O ++ _)[g.m * 2 + 1]? = some (.slice (some ⟨upd b.D g.m D' g.m, 0, none⟩) (upd g.dt g.m dl g.m).length (upd g.dt g.m dl g.m).length)
      rw [upd_same, upd_same, upd_same, upd_same]
      constructor
      · rw [List.getElem?_append_right (by omega)]; simp [hOl]
      · rw [List.getElem?_append_right (by omega)]; simp [hOl]
    · have hs2 : s < g.m := by have : s < g.m + 1 := hs'; omega
      show (O ++ _)[s * 2]? = some (.slice (some ⟨upd b.R g.m R' s, 0, none⟩) (upd g.rf g.m rl s).length (upd g.rf g.m rl s).length) ∧ (O ++ _)[s * 2 + 1]? = some (.slice (some ⟨upd b.D g.m D' s, 0, none⟩) (upd g.dt g.m dl s).length (upd g.dt g.m dl s).length)
      rw [upd_other _ _ e, upd_other _ _ e, upd_other _ _ e, upd_other _ _ e, List.getElem?_append_left (by omega), List.getElem?_append_left (by omega)]
      exact hO2 s hs2
  · by_cases e : s = g.m
    · subst e
      show (w1.setCell ⟨b.p, 1, none⟩ ov').rowIs (upd b.R g.m R' g.m) _ (upd g.rf g.m rl g.m).length (fun j => .int .u64 ((upd g.rf g.m rl g.m).getD j 0))
      rw [upd_same, upd_same]
      exact c2.row hR (fun e => by have e' : R' = b.p := e; omega)
    · have hs2 : s < g.m := by have : s < g.m + 1 := hs'; omega
      show (w1.setCell ⟨b.p, 1, none⟩ ov').rowIs (upd b.R g.m R' s) _ (upd g.rf g.m rl s).length (fun j => .int .u64 ((upd g.rf g.m rl s).getD j 0))
      rw [upd_other _ _ e, upd_other _ _ e]
      exact c2.row (c.row (h.rfs s hs2) (off (.rf s) _ (if_pos hs2) (by simp))) (offp (.rf s) _ (if_pos hs2) (by simp))
  · by_cases e : s = g.m
    · subst e
      show (w1.setCell ⟨b.p, 1, none⟩ ov').rowIs (upd b.D g.m D' g.m) _ (upd g.dt g.m dl g.m).length (fun j => .int .u64 ((upd g.dt g.m dl g.m).getD j 0))
      rw [upd_same, upd_same]
      exact c2.row hD (fun e => by have e' : D' = b.p := e; omega)
    · have hs2 : s < g.m := by have : s < g.m + 1 := hs'; omega
      show (w1.setCell ⟨b.p, 1, none⟩ ov').rowIs (upd b.D g.m D' s) _ (upd g.dt g.m dl s).length (fun j => .int .u64 ((upd g.dt g.m dl s).getD j 0))
      rw [upd_other _ _ e, upd_other _ _ e]
      exact c2.row (c.row (h.dts s hs2) (off (.dt s) _ (if_pos hs2) (by simp))) (offp (.dt s) _ (if_pos hs2) (by simp))
  · -- the blocks
    have lt := h.lt
    have i1 : Inj (fun a => if a = .rf g.m then some R' else b.blk g.n g.m a) := h.inj.fresh (.rf g.m) (fun a ha => if_neg ha) (fun k hk => by
      have hk' : some R' = some k := by simpa using hk
      injection hk' with hk'
      exact .inr (fun a _ h2 => by have := lt a k h2; omega))
    have i2 : Inj (fun a => if a = .dt g.m then some D' else if a = .rf g.m then some R' else b.blk g.n g.m a) := i1.fresh (.dt g.m) (fun a ha => if_neg ha) (fun k hk => by
      have hk' : some D' = some k := by simpa using hk
      injection hk' with hk'
      refine .inr (fun a _ h2 => ?_)
      have h2' : (if a = .rf g.m then some R' else b.blk g.n g.m a) = some k := h2
      by_cases e : a = .rf g.m
      · rw [if_pos e] at h2'; injection h2' with h2'; omega
      · rw [if_neg e] at h2'; have := lt a k h2'; omega)
    have i3 : Inj (fun a => if a = .ob then ov'.ownBlock else if a = .dt g.m then some D' else if a = .rf g.m then some R' else b.blk g.n g.m a) := i2.fresh .ob (fun a ha => if_neg ha) (fun k hk => by
      have hk' : ov'.ownBlock = some k := by simpa using hk
      rcases hov k hk' with h1 | ⟨h1, h3, h4⟩
      · left
        show (if Lab.ob = .dt g.m then some D' else if Lab.ob = .rf g.m then some R' else b.blk g.n g.m .ob) = some k
        rw [if_neg (by simp), if_neg (by simp)]
        exact h1
      · refine .inr (fun a _ h2 => ?_)
        have h2' : (if a = .dt g.m then some D' else if a = .rf g.m then some R' else b.blk g.n g.m a) = some k := h2
        by_cases e : a = .dt g.m
        · rw [if_pos e] at h2'; injection h2' with h2'; exact h4 h2'.symm
        · rw [if_neg e] at h2'
          by_cases e2 : a = .rf g.m
          · rw [if_pos e2] at h2'; injection h2' with h2'; exact h3 h2'.symm
          · rw [if_neg e2] at h2'; have := lt a k h2'; omega)
    have e : GB.blk { b with ov := ov', R := upd b.R g.m R', D := upd b.D g.m D' } g.n (g.m + 1) = (fun a => if a = .ob then ov'.ownBlock else if a = .dt g.m then some D' else if a = .rf g.m then some R' else b.blk g.n g.m a) := by
      funext a
      cases a with
      | rf i =>
        simp only [GB.blk]
        by_cases h1 : i = g.m
        · subst h1; simp [upd_same]
        · simp only [upd_other _ _ h1]
          by_cases h2 : i < g.m
          · simp [h1, h2, show i < g.m + 1 by omega]
          · simp [h1, h2, show ¬ i < g.m + 1 by omega]
      | dt i =>
        simp only [GB.blk]
        by_cases h1 : i = g.m
        · subst h1; simp [upd_same]
        · simp only [upd_other _ _ h1]
          by_cases h2 : i < g.m
          · simp [h1, h2, show i < g.m + 1 by omega]
          · simp [h1, h2, show ¬ i < g.m + 1 by omega]
      | _ => simp [GB.blk]
    show Inj (GB.blk { b with ov := ov', R := upd b.R g.m R', D := upd b.D g.m D' } g.n (g.m + 1))
    rw [e]
    exact i3
  · have hr2 : r ∈ upd g.rf g.m rl s := hr'
    by_cases e : s = g.m
    · subst e
      rw [upd_same] at hr2
      have := hr r hr2
      exact ⟨this.1, by show r ≤ ((g.m + 1 : Nat) : Int); omega⟩
    · have hs2 : s < g.m := by have : s < g.m + 1 := hs'; omega
      rw [upd_other _ _ e] at hr2
      have := h.okR s hs2 r hr2
      exact ⟨this.1, by show r ≤ ((g.m + 1 : Nat) : Int); omega⟩
  · by_cases e : s = g.m
    · subst e
      show (upd g.rf g.m rl g.m).length ≤ _ ∧ (upd g.dt g.m dl g.m).length ≤ _
      rw [upd_same, upd_same]; exact hl
    · have hs2 : s < g.m := by have : s < g.m + 1 := hs'; omega
      show (upd g.rf g.m rl s).length ≤ _ ∧ (upd g.dt g.m dl s).length ≤ _
      rw [upd_other _ _ e, upd_other _ _ e]; exact h.small s hs2
end
/-- from one graph to the next: nothing but the graph's own blocks has changed, and what it has besides is new -/
structure Step (dcap : Nat) (w w' : World) (b b' : GB) (g g' : GS) : Prop where
  at_ : GAt dcap w' b' g'
  chg : Chg (b.has g.n g.m) w w'
  own : ∀ k, b'.has g'.n g'.m k → b.has g.n g.m k ∨ w.heap.size ≤ k
  p : b'.p = b.p
  S : b'.S = b.S
  n : g'.n = g.n
  tv : b'.tv = b.tv

theorem Step.refl {dcap : Nat} {w w' : World} {b : GB} {g : GS} (h : GAt dcap w b g) (c : Chg (fun _ => False) w w') : Step dcap w w' b b g g :=
  ⟨h.quiet c, c.mono (fun _ _ h => absurd h (by simp)), fun k hk => .inl hk, rfl, rfl, rfl, rfl⟩
theorem Step.trans {dcap : Nat} {w w1 w2 : World} {b b1 b2 : GB} {g g1 g2 : GS} (h : Step dcap w w1 b b1 g g1) (k : Step dcap w1 w2 b1 b2 g1 g2) : Step dcap w w2 b b2 g g2 := by
  have hs := h.chg.size
  refine ⟨k.at_, h.chg.next k.chg (fun i hi hk => ?_), fun x hx => ?_, k.p.trans h.p, k.S.trans h.S, k.n.trans h.n, k.tv.trans h.tv⟩
  · rcases h.own i hk with h1 | h1
    · exact h1
    · omega
  · rcases k.own x hx with h1 | h1
    · exact h.own x h1
    · right; omega
theorem Step.quiet {dcap : Nat} {w w1 w2 : World} {b b1 : GB} {g g1 : GS} (h : Step dcap w w1 b b1 g g1) (c : Chg (fun _ => False) w1 w2) : Step dcap w w2 b b1 g g1 := h.trans (Step.refl h.at_ c)

theorem GB.has_st {b : GB} {n m t : Nat} (ht : t < n) : b.has n m (b.S t) := ⟨.st t, if_pos ht⟩
theorem GB.has_ls {b : GB} {n m t k : Nat} (ht : t < n) (hk : (b.sv t).ownBlock = some k) : b.has n m k := ⟨.ls t, by show (if t < n then _ else none) = _; rw [if_pos ht]; exact hk⟩

/-- a stack's call -/
theorem step_stack {dcap : Nat} {w w1 : World} {b : GB} {g : GS} (h : GAt dcap w b g) (t : Nat) (ht : t < g.n) (v' : Value) (l' : List Int) (c : Chg (fun k => k = b.S t ∨ (b.sv t).ownBlock = some k) w w1) (hs : StackAt w1 (b.S t) v' g.bound l')
    (hv : v'.ownBlock = (b.sv t).ownBlock ∨ ∃ q, v'.ownBlock = some q ∧ w.heap.size ≤ q) (hl : ∀ r, r ∈ l' → 0 ≤ r ∧ r ≤ g.m) : Step dcap w w1 b { b with sv := upd b.sv t v' } g { g with st := upd g.st t l' } := by
  refine ⟨h.restack t ht v' l' c hs hv hl, c.mono (fun k _ hk => ?_), fun k hk => ?_, rfl, rfl, rfl, rfl⟩
  · rcases hk with rfl | hk
    · exact GB.has_st ht
    · exact GB.has_ls ht hk
  · obtain ⟨a, ha⟩ := hk
    cases a with
    | ls s =>
      have ha' : (if s < g.n then (upd b.sv t v' s).ownBlock else none) = some k := ha
      split at ha'
      · rename_i hs'
        by_cases e : s = t
        · subst e
          rw [upd_same] at ha'
          rcases hv with hv | ⟨q, hq, hql⟩
          · exact .inl (GB.has_ls hs' (by rw [← hv]; exact ha'))
          · rw [hq] at ha'; injection ha' with e; exact .inr (by omega)
        · rw [upd_other _ _ e] at ha'
          exact .inl (GB.has_ls hs' ha')
      · cases ha'
    | p => exact .inl ⟨.p, ha⟩
    | th => exact .inl ⟨.th, ha⟩
    | ob => exact .inl ⟨.ob, ha⟩
    | dn => exact .inl ⟨.dn, ha⟩
    | st s => exact .inl ⟨.st s, ha⟩
    | rf s => exact .inl ⟨.rf s, ha⟩
    | dt s => exact .inl ⟨.dt s, ha⟩

/-- a push -/
theorem step_push {dcap : Nat} (w : World) (b : GB) (g : GS) (t : Nat) (r : Int) (h : GAt dcap w b g) (ht : t < g.n) (hl : (g.st t).length < g.bound) (hr : 0 ≤ r ∧ r ≤ g.m) :
    Calls Try.prog 21 #[.pointer (some ⟨b.S t, 0, none⟩), .int .u64 r] w fun e w' => e = .returned (.int .i64 0) ∧ ∃ v', Step dcap w w' b { b with sv := upd b.sv t v' } g { g with st := upd g.st t (g.st t ++ [r]) } := by
  refine (rroots_push w (b.S t) (b.sv t) g.bound (g.st t) r (h.stk t ht) hl).mono ?_
  rintro e w' ⟨rfl, hc, v', hv, hs⟩
  refine ⟨rfl, v', step_stack h t ht v' _ hc hs hv (fun x hx => ?_)⟩
  rcases List.mem_append.1 hx with h1 | h1
  · exact h.okS t ht x h1
  · simp at h1; subst h1; exact hr
theorem step_push_full {dcap : Nat} (w : World) (b : GB) (g : GS) (t : Nat) (r : Int) (h : GAt dcap w b g) (ht : t < g.n) (hl : (g.st t).length = g.bound) :
    Calls Try.prog 21 #[.pointer (some ⟨b.S t, 0, none⟩), .int .u64 r] w fun e w' => e = .returned (.int .i64 15) ∧ Step dcap w w' b b g g := by
  refine (rroots_push_full w (b.S t) (b.sv t) g.bound (g.st t) r (h.stk t ht) hl).mono ?_
  rintro e w' ⟨rfl, k, rfl⟩
  exact ⟨rfl, Step.refl h ((Chg.refl _ _).drewN k)⟩

theorem step_obj {dcap : Nat} {w w1 : World} {b : GB} {g : GS} (h : GAt dcap w b g) (ov' : Value) (R' D' : Nat) (rl dl : List Int) (O : List Value) (c : Chg (fun k => b.ov.ownBlock = some k) w w1) (hO1 : w.ownsRow 0 109 2 b.ov g.m O)
    (hO2 : ∀ i, i < g.m → O[i * 2]? = some (.slice (some ⟨b.R i, 0, none⟩) (g.rf i).length (g.rf i).length) ∧ O[i * 2 + 1]? = some (.slice (some ⟨b.D i, 0, none⟩) (g.dt i).length (g.dt i).length))
    (ho : w1.ownsRow 0 109 2 ov' (g.m + 1) (O ++ [.slice (some ⟨R', 0, none⟩) rl.length rl.length, .slice (some ⟨D', 0, none⟩) dl.length dl.length]))
    (hov : ∀ k, ov'.ownBlock = some k → b.ov.ownBlock = some k ∨ (w.heap.size ≤ k ∧ k ≠ R' ∧ k ≠ D'))
    (hR : w1.rowIs R' 30 rl.length (fun j => .int .u64 (rl.getD j 0))) (hD : w1.rowIs D' 29 dl.length (fun j => .int .u64 (dl.getD j 0))) (hR' : w.heap.size ≤ R') (hD' : w.heap.size ≤ D') (hRD : R' ≠ D')
    (hr : ∀ r, r ∈ rl → 0 ≤ r ∧ r ≤ g.m) (hl : rl.length ≤ 1048576 ∧ dl.length ≤ 1048576) (hm : g.m + 1 ≤ 1048576) :
    Step dcap w (w1.setCell ⟨b.p, 1, none⟩ ov') b { b with ov := ov', R := upd b.R g.m R', D := upd b.D g.m D' } g (g.more rl dl) := by
  refine ⟨h.addObj ov' R' D' rl dl O c hO1 hO2 ho hov hR hD hR' hD' hRD hr hl hm, ?_, fun k hk => ?_, rfl, rfl, rfl, rfl⟩
  · have c1 : Chg (b.has g.n g.m) w w1 := c.mono (fun k _ hk => ⟨.ob, hk⟩)
    exact c1.setCell (.inl ⟨.p, rfl⟩) _
  · obtain ⟨a, ha⟩ := hk
    cases a with
    | ob =>
      rcases hov k ha with h1 | h1
      · exact .inl ⟨.ob, h1⟩
      · exact .inr h1.1
    | rf i =>
      have ha' : (if i < g.m + 1 then some (upd b.R g.m R' i) else none) = some k := ha
      split at ha'
      · injection ha' with ha'
        by_cases e : i = g.m
        · subst e; rw [upd_same] at ha'; exact .inr (by omega)
        · rw [upd_other _ _ e] at ha'
          exact .inl ⟨.rf i, by show (if i < g.m then some (b.R i) else none) = some k; rw [if_pos (by omega), ha']⟩
      · cases ha'
    | dt i =>
      have ha' : (if i < g.m + 1 then some (upd b.D g.m D' i) else none) = some k := ha
      split at ha'
      · injection ha' with ha'
        by_cases e : i = g.m
        · subst e; rw [upd_same] at ha'; exact .inr (by omega)
        · rw [upd_other _ _ e] at ha'
          exact .inl ⟨.dt i, by show (if i < g.m then some (b.D i) else none) = some k; rw [if_pos (by omega), ha']⟩
      · cases ha'
    | p => exact .inl ⟨.p, ha⟩
    | th => exact .inl ⟨.th, ha⟩
    | dn => exact .inl ⟨.dn, ha⟩
    | st s => exact .inl ⟨.st s, ha⟩
    | ls s => exact .inl ⟨.ls s, ha⟩


/-- a thread more -/
theorem GAt.addThr {dcap : Nat} {w w1 : World} {b : GB} {g : GS} (h : GAt dcap w b g) (tv' : Value) (S' : Nat) (T : List Value) (c : Chg (fun k => b.tv.ownBlock = some k) w w1) (hT1 : w.ownsRow 0 36 1 b.tv g.n T)
    (hT2 : ∀ t, t < g.n → T[t]? = some (.pointer (some ⟨b.S t, 0, none⟩)))
    (ho : w1.ownsRow 0 36 1 tv' (g.n + 1) (T ++ [.pointer (some ⟨S', 0, none⟩)])) (hov : ∀ k, tv'.ownBlock = some k → b.tv.ownBlock = some k ∨ (w.heap.size ≤ k ∧ k ≠ S'))
    (hS : StackAt w1 S' (.slice none 0 0) g.bound []) (hS' : w.heap.size ≤ S') (hn : g.n + 1 ≤ dcap) :
    GAt dcap (w1.setCell ⟨b.p, 2, none⟩ tv') { b with tv := tv', S := upd b.S g.n S', sv := upd b.sv g.n (.slice none 0 0) } { g with n := g.n + 1, st := upd g.st g.n [] } := by
  have off : ∀ a k, b.blk g.n g.m a = some k → a ≠ .th → ¬ b.tv.ownBlock = some k := fun a k ha h1 hk => h1 (h.inj a .th k ha hk)
  have hpl := h.lt .p b.p rfl
  have hp := off .p b.p rfl (by simp)
  have hpl1 : b.p < w1.heap.size := Nat.lt_of_lt_of_le hpl c.size
  have c2 : Chg (fun k => k = b.p) w1 (w1.setCell ⟨b.p, 2, none⟩ tv') := by (repeat (first | with_reducible exact Chg.refl _ _ | with_reducible apply Chg.drewN | with_reducible apply Chg.drew | with_reducible apply Chg.alloc | (with_reducible refine Chg.setCell ?_ ?_ _; rotate_left; focus (first | (refine Or.inr ?_; first | omega | (simp; done) | (simp; omega)) | exact Or.inl (by assumption) | with_reducible exact Or.inl rfl | exact Or.inl (by simp))) | refine Chg.trans ?_ (Chg.of_below (by with_reducible assumption) (fun k h1 h2 => absurd h1 (by first | omega | (simp; omega)))) | refine Chg.trans ?_ (by with_reducible assumption)))
  have offp : ∀ a k, b.blk g.n g.m a = some k → a ≠ .p → ¬ k = b.p := fun a k ha h1 hk => by subst hk; exact h1 (h.inj a .p _ ha rfl)
  have hths : w1.cell? ⟨b.p, 2, none⟩ = some b.tv := (c.cell hpl hp).trans h.ths
  obtain ⟨O, hO1, hO2⟩ := h.obj
  have hTl : T.length = g.n := by have := hT1.1; omega
  have hovp : ∀ k, tv'.ownBlock = some k → ¬ k = b.p := fun k hk e => by
    subst e
    rcases hov _ hk with h1 | h1
    · exact hp h1
    · omega
  refine { h with
    mx := by rw [World.cell?_setCell_other _ _ _ _ (by simp)]; exact (c.cell hpl hp).trans h.mx
    obs := by rw [World.cell?_setCell_other _ _ _ _ (by simp)]; exact (c.cell hpl hp).trans h.obs
    ths := World.cell?_setCell_same' _ _ _ (by rw [hths]; rfl)
    fz1 := by rw [World.frozen?_setCell]; exact (c.frozen hpl hp).trans h.fz1
    fz2 := by rw [World.frozen?_setCell]; exact (c.frozen hpl hp).trans h.fz2
    thr := ⟨_, c2.owns ho (fun k hk => hovp k hk), fun s hs' => ?_⟩
    stk := fun s hs' => ?_
    dns := by rw [World.cell?_setCell_other _ _ _ _ (by simp)]; exact (c.cell hpl hp).trans h.dns
    dnr := c2.row (c.row h.dnr (off .dn _ rfl (by simp))) (offp .dn _ rfl (by simp))
    obj := ⟨O, c2.owns (c.owns hO1 (fun k hk => off .ob k hk (by simp))) (fun k hk => offp .ob k hk (by simp)), hO2⟩
    rfs := fun i hi => c2.row (c.row (h.rfs i hi) (off (.rf i) _ (if_pos hi) (by simp))) (offp (.rf i) _ (if_pos hi) (by simp))
    dts := fun i hi => c2.row (c.row (h.dts i hi) (off (.dt i) _ (if_pos hi) (by simp))) (offp (.dt i) _ (if_pos hi) (by simp))
    inj := ?_
    okS := fun s hs' r hr' => ?_
    n64 := by show g.n + 1 ≤ 64; have := h.dnl.2; omega
    dnl := ⟨hn, h.dnl.2⟩ }
  · by_cases e : s = g.n
    · subst e
      show (T ++ _)[g.n]? = some (.pointer (some ⟨upd b.S g.n S' g.n, 0, none⟩))
      rw [upd_same, List.getElem?_append_right (by omega)]
      simp [hTl]
    · have hs2 : s < g.n := by have : s < g.n + 1 := hs'; omega
      show (T ++ _)[s]? = some (.pointer (some ⟨upd b.S g.n S' s, 0, none⟩))
      rw [upd_other _ _ e, List.getElem?_append_left (by omega)]
      exact hT2 s hs2
  · by_cases e : s = g.n
    · subst e
      show StackAt (w1.setCell ⟨b.p, 2, none⟩ tv') (upd b.S g.n S' g.n) (upd b.sv g.n (.slice none 0 0) g.n) g.bound (upd g.st g.n [] g.n)
      rw [upd_same, upd_same, upd_same]
      exact hS.chg c2 (fun e => by have e' : S' = b.p := e; omega) (fun k hk => by simp [Value.ownBlock] at hk)
    · have hs2 : s < g.n := by have : s < g.n + 1 := hs'; omega
      show StackAt (w1.setCell ⟨b.p, 2, none⟩ tv') (upd b.S g.n S' s) (upd b.sv g.n (.slice none 0 0) s) g.bound (upd g.st g.n [] s)
      rw [upd_other _ _ e, upd_other _ _ e, upd_other _ _ e]
      exact ((h.stk s hs2).chg c (off (.st s) _ (if_pos hs2) (by simp)) (fun k hk => off (.ls s) k (by rw [show b.blk g.n g.m (.ls s) = (b.sv s).ownBlock from if_pos hs2]; exact hk) (by simp))).chg c2 (offp (.st s) _ (if_pos hs2) (by simp)) (fun k hk => offp (.ls s) k (by rw [show b.blk g.n g.m (.ls s) = (b.sv s).ownBlock from if_pos hs2]; exact hk) (by simp))
  · have lt := h.lt
    have i1 : Inj (fun a => if a = .st g.n then some S' else b.blk g.n g.m a) := h.inj.fresh (.st g.n) (fun a ha => if_neg ha) (fun k hk => by
      have hk' : some S' = some k := by simpa using hk
      injection hk' with hk'
      exact .inr (fun a _ h2 => by have := lt a k h2; omega))
    have i2 : Inj (fun a => if a = .th then tv'.ownBlock else if a = .st g.n then some S' else b.blk g.n g.m a) := i1.fresh .th (fun a ha => if_neg ha) (fun k hk => by
      have hk' : tv'.ownBlock = some k := by simpa using hk
      rcases hov k hk' with h1 | ⟨h1, h3⟩
      · left
        show (if Lab.th = .st g.n then some S' else b.blk g.n g.m .th) = some k
        rw [if_neg (by simp)]
        exact h1
      · refine .inr (fun a _ h2 => ?_)
        have h2' : (if a = .st g.n then some S' else b.blk g.n g.m a) = some k := h2
        by_cases e2 : a = .st g.n
        · rw [if_pos e2] at h2'; injection h2' with h2'; exact h3 h2'.symm
        · rw [if_neg e2] at h2'; have := lt a k h2'; omega)
    have e : GB.blk { b with tv := tv', S := upd b.S g.n S', sv := upd b.sv g.n (.slice none 0 0) } (g.n + 1) g.m = (fun a => if a = .th then tv'.ownBlock else if a = .st g.n then some S' else b.blk g.n g.m a) := by
      funext a
      cases a with
      | st i =>
        simp only [GB.blk]
        by_cases h1 : i = g.n
        · subst h1; simp [upd_same]
        · simp only [upd_other _ _ h1]
          by_cases h2 : i < g.n
          · simp [h1, h2, show i < g.n + 1 by omega]
          · simp [h1, h2, show ¬ i < g.n + 1 by omega]
      | ls i =>
        simp only [GB.blk]
        by_cases h1 : i = g.n
        · subst h1; simp [upd_same, Value.ownBlock]
        · simp only [upd_other _ _ h1]
          by_cases h2 : i < g.n
          · simp [h1, h2, show i < g.n + 1 by omega]
          · simp [h1, h2, show ¬ i < g.n + 1 by omega]
      | _ => simp [GB.blk]
    show Inj (GB.blk { b with tv := tv', S := upd b.S g.n S', sv := upd b.sv g.n (.slice none 0 0) } (g.n + 1) g.m)
    rw [e]
    exact i2
  · have hr2 : r ∈ upd g.st g.n [] s := hr'
    by_cases e : s = g.n
    · subst e; rw [upd_same] at hr2; simp at hr2
    · have hs2 : s < g.n := by have : s < g.n + 1 := hs'; omega
      rw [upd_other _ _ e] at hr2
      exact h.okS s hs2 r hr2

end Go.Proofs.Ytcdllelbdcacjaa.R
