/-
  Graphs (layer 13): where a graph lies; the short calls.
-/
import Derived.Test.YtcdllelbdcacjaaRootsLaws
import Derived.Deep.RegionHeld3
set_option linter.unusedVariables false
set_option linter.unusedSimpArgs false
namespace Go.Proofs.Ytcdllelbdcacjaa
open Go.RowKit

theorem Chg.next {S T : Nat → Prop} {w w1 w2 : World} (h : Chg S w w1) (k : Chg T w1 w2) (hT : ∀ i, i < w.heap.size → T i → S i) : Chg S w w2 :=
  ⟨k.os.trans h.os, k.tape.trans h.tape, k.output.trans h.output, Nat.le_trans h.size k.size, fun i hi hn => (k.block i (Nat.lt_of_lt_of_le hi h.size) (fun ht => hn (hT i hi ht))).trans (h.block i hi hn)⟩

/-- what a graph holds: n threads' stacks, how many operations each did, m objects' references and data -/
structure GS where
  max : Nat
  bound : Nat
  n : Nat
  st : Nat → List Int
  done : Nat → Int
  m : Nat
  rf : Nat → List Int
  dt : Nat → List Int

/-- where it lies: its struct, the threads' slice, the stacks' structs and slices, the objects' slice, the objects' references and data -/
structure GB where
  p : Nat
  tv : Value
  S : Nat → Nat
  sv : Nat → Value
  ov : Value
  R : Nat → Nat
  D : Nat → Nat

/-- the names of a graph's blocks -/
inductive Lab where
  | p | th | ob
  | st (t : Nat) | ls (t : Nat) | rf (i : Nat) | dt (i : Nat)

instance labDec : DecidableEq Lab := fun a c => by
  cases a <;> cases c <;> first
    | exact isTrue rfl
    | exact isFalse (fun e => Lab.noConfusion e)
    | (rename_i s t; exact if h : s = t then isTrue (h ▸ rfl) else isFalse (fun e => h (by injection e)))

/-- the block of a name -/
def GB.blk (b : GB) (n m : Nat) : Lab → Option Nat
  | .p => some b.p
  | .th => b.tv.ownBlock
  | .ob => b.ov.ownBlock
  | .st t => if t < n then some (b.S t) else none
  | .ls t => if t < n then (b.sv t).ownBlock else none
  | .rf i => if i < m then some (b.R i) else none
  | .dt i => if i < m then some (b.D i) else none

/-- no two names have one block -/
def Inj (f : Lab → Option Nat) : Prop := ∀ a c k, f a = some k → f c = some k → a = c

/-- one name's block becomes another: its own again, or a new one -/
theorem Inj.upd {f f' : Lab → Option Nat} {N : Nat} (h : Inj f) (lt : ∀ a k, f a = some k → k < N) (a0 : Lab) (same : ∀ a, a ≠ a0 → f' a = f a) (new : ∀ k, f' a0 = some k → f a0 = some k ∨ N ≤ k) : Inj f' := by
  intro a c k ha hc
  by_cases h1 : a = a0
  · by_cases h2 : c = a0
    · rw [h1, h2]
    · rw [same c h2] at hc
      subst h1
      rcases new k ha with h3 | h3
      · exact absurd (h a c k h3 hc).symm h2
      · have := lt c k hc; omega
  · rw [same a h1] at ha
    by_cases h2 : c = a0
    · subst h2
      rcases new k hc with h3 | h3
      · exact absurd (h a c k ha h3) h1
      · have := lt a k ha; omega
    · rw [same c h2] at hc
      exact h a c k ha hc

/-- a graph lies there -/
structure GAt (w : World) (b : GB) (g : GS) : Prop where
  mx : w.cell? ⟨b.p, 0, none⟩ = some (.int .i64 g.max)
  obs : w.cell? ⟨b.p, 1, none⟩ = some b.ov
  ths : w.cell? ⟨b.p, 2, none⟩ = some b.tv
  fz1 : w.frozen? ⟨b.p, 1, none⟩ = false
  fz2 : w.frozen? ⟨b.p, 2, none⟩ = false
  thr : ∃ T : List Value, w.ownsRow 0 88 2 b.tv g.n T ∧ ∀ t, t < g.n → T[t * 2]? = some (.pointer (some ⟨b.S t, 0, none⟩)) ∧ T[t * 2 + 1]? = some (.int .i64 (g.done t))
  stk : ∀ t, t < g.n → StackAt w (b.S t) (b.sv t) g.bound (g.st t)
  obj : ∃ O : List Value, w.ownsRow 0 104 2 b.ov g.m O ∧ ∀ i, i < g.m → O[i * 2]? = some (.slice (some ⟨b.R i, 0, none⟩) (g.rf i).length (g.rf i).length) ∧ O[i * 2 + 1]? = some (.slice (some ⟨b.D i, 0, none⟩) (g.dt i).length (g.dt i).length)
  rfs : ∀ i, i < g.m → w.rowIs (b.R i) 30 (g.rf i).length (fun j => .int .u64 ((g.rf i).getD j 0))
  dts : ∀ i, i < g.m → w.rowIs (b.D i) 29 (g.dt i).length (fun j => .int .u64 ((g.dt i).getD j 0))
  inj : Inj (b.blk g.n g.m)
  okS : ∀ t, t < g.n → ∀ r, r ∈ g.st t → 0 ≤ r ∧ r ≤ g.m
  okR : ∀ i, i < g.m → ∀ r, r ∈ g.rf i → 0 ≤ r ∧ r ≤ g.m
  small : ∀ i, i < g.m → (g.rf i).length ≤ 1048576 ∧ (g.dt i).length ≤ 1048576
  mmax : g.max ≤ 1048576
  n64 : g.n ≤ 64
  objs : g.m ≤ 1048576

/-- a block of the graph -/
def GB.has (b : GB) (n m : Nat) (k : Nat) : Prop := ∃ a, b.blk n m a = some k

section
variable {w w' : World} {b : GB} {g : GS}
theorem GAt.lt (h : GAt w b g) : ∀ a k, b.blk g.n g.m a = some k → k < w.heap.size := by
  intro a k hk
  cases a with
  | p => simp [GB.blk] at hk; subst hk; exact cell_lt h.mx
  | th => obtain ⟨T, hT, _⟩ := h.thr; exact (hT.lt k hk).2
  | ob => obtain ⟨O, hO, _⟩ := h.obj; exact (hO.lt k hk).2
  | st t =>
    simp only [GB.blk] at hk
    split at hk
    · rename_i ht; injection hk with hk; subst hk; exact (h.stk t ht).lt
    · cases hk
  | ls t =>
    simp only [GB.blk] at hk
    split at hk
    · rename_i ht; exact ((h.stk t ht).own.lt k hk).2
    · cases hk
  | rf i =>
    simp only [GB.blk] at hk
    split at hk
    · rename_i hi; injection hk with hk; subst hk; exact (h.rfs i hi).lt
    · cases hk
  | dt i =>
    simp only [GB.blk] at hk
    split at hk
    · rename_i hi; injection hk with hk; subst hk; exact (h.dts i hi).lt
    · cases hk
theorem GAt.chg {S : Nat → Prop} (h : GAt w b g) (c : Chg S w w') (hn : ∀ k, b.has g.n g.m k → ¬ S k) : GAt w' b g := by
  have hp : ¬ S b.p := hn b.p ⟨.p, rfl⟩
  have hpl := h.lt .p b.p rfl
  have hst : ∀ t, t < g.n → ¬ S (b.S t) := fun t ht => hn _ ⟨.st t, if_pos ht⟩
  have hls : ∀ t, t < g.n → ∀ k, (b.sv t).ownBlock = some k → ¬ S k := fun t ht k hk => hn k ⟨.ls t, by simp [GB.blk, ht, hk]⟩
  have hrf : ∀ i, i < g.m → ¬ S (b.R i) := fun i hi => hn _ ⟨.rf i, if_pos hi⟩
  have hdt : ∀ i, i < g.m → ¬ S (b.D i) := fun i hi => hn _ ⟨.dt i, if_pos hi⟩
  obtain ⟨T, hT1, hT2⟩ := h.thr
  obtain ⟨O, hO1, hO2⟩ := h.obj
  exact { h with
    mx := (c.cell hpl hp).trans h.mx
    obs := (c.cell hpl hp).trans h.obs
    ths := (c.cell hpl hp).trans h.ths
    fz1 := (c.frozen hpl hp).trans h.fz1
    fz2 := (c.frozen hpl hp).trans h.fz2
    thr := ⟨T, c.owns hT1 (fun k hk => hn k ⟨.th, hk⟩), hT2⟩
    stk := fun t ht => (h.stk t ht).chg c (hst t ht) (hls t ht)
    obj := ⟨O, c.owns hO1 (fun k hk => hn k ⟨.ob, hk⟩), hO2⟩
    rfs := fun i hi => c.row (h.rfs i hi) (hrf i hi)
    dts := fun i hi => c.row (h.dts i hi) (hdt i hi) }
theorem GAt.quiet (h : GAt w b g) (c : Chg (fun _ => False) w w') : GAt w' b g := h.chg c (by simp)
end

/-- 'field': a place of a list -/
theorem field_ref (w : World) (q n : Nat) (k : Nat) (hk : k < n) (hn : n ≤ 1048576) :
    Calls Try.prog 55 #[.slice (some ⟨q, 0, none⟩) n n, .int .i64 k] w fun e w' => e = .returned (.tuple #[.pointer (some ⟨q, k, none⟩), .int .i64 0]) ∧ w = w' := by
  have hk' : (k : Int) < (n : Int) := by omega
  go_enter Try.func55, Try.ntmps55
  go_wp2
  go_ret2
  exact ⟨rfl, rfl⟩
theorem field_ref_out (w : World) (A : Option Addr) (n : Nat) (k : Int) (hk : k < 0 ∨ (n : Int) ≤ k) :
    Calls Try.prog 55 #[.slice A n n, .int .i64 k] w fun e w' => e = .returned (.tuple #[.pointer none, .int .i64 11]) ∧ w = w' := by
  by_cases c1 : k < 0
  · clear hk
    go_enter Try.func55, Try.ntmps55
    go_wp2
    go_ret2
    exact ⟨rfl, rfl⟩
  · have d1 : 0 ≤ k := by omega
    have d2 : (n : Int) ≤ k := by omega
    clear hk c1
    go_enter Try.func55, Try.ntmps55
    go_wp2
    go_ret2
    exact ⟨rfl, rfl⟩
theorem field_data (w : World) (q n : Nat) (k : Nat) (hk : k < n) (hn : n ≤ 1048576) :
    Calls Try.prog 47 #[.slice (some ⟨q, 0, none⟩) n n, .int .i64 k] w fun e w' => e = .returned (.tuple #[.pointer (some ⟨q, k, none⟩), .int .i64 0]) ∧ w = w' := by
  have hk' : (k : Int) < (n : Int) := by omega
  go_enter Try.func47, Try.ntmps47
  go_wp2
  go_ret2
  exact ⟨rfl, rfl⟩
theorem field_data_out (w : World) (A : Option Addr) (n : Nat) (k : Int) (hk : k < 0 ∨ (n : Int) ≤ k) :
    Calls Try.prog 47 #[.slice A n n, .int .i64 k] w fun e w' => e = .returned (.tuple #[.pointer none, .int .i64 11]) ∧ w = w' := by
  by_cases c1 : k < 0
  · clear hk
    go_enter Try.func47, Try.ntmps47
    go_wp2
    go_ret2
    exact ⟨rfl, rfl⟩
  · have d1 : 0 ≤ k := by omega
    have d2 : (n : Int) ≤ k := by omega
    clear hk c1
    go_enter Try.func47, Try.ntmps47
    go_wp2
    go_ret2
    exact ⟨rfl, rfl⟩

/-- an object, out of the objects' slice -/
theorem GAt.objAt {w : World} {b : GB} {g : GS} (h : GAt w b g) {i : Nat} (hi : i < g.m) : ∃ q cap, b.ov = .slice (some ⟨q, 0, none⟩) g.m cap ∧ q < w.heap.size ∧ w.cell? ⟨q, i * 2, none⟩ = some (.slice (some ⟨b.R i, 0, none⟩) (g.rf i).length (g.rf i).length) ∧
    w.cell? ⟨q, i * 2 + 1, none⟩ = some (.slice (some ⟨b.D i, 0, none⟩) (g.dt i).length (g.dt i).length) := by
  obtain ⟨O, hO1, hO2⟩ := h.obj
  obtain ⟨q, cap, hv, hq1, hq2⟩ := hO1.form (by omega)
  have hl := hO1.1
  refine ⟨q, cap, hv, hq2, ?_, ?_⟩
  · have := hO1.cells (g := q) (by rw [hv]; rfl) (i * 2) _ (hO2 i hi).1
    rw [Go.WideShapes.add_plain, Nat.zero_add] at this
    exact this
  · have := hO1.cells (g := q) (by rw [hv]; rfl) (i * 2 + 1) _ (hO2 i hi).2
    rw [Go.WideShapes.add_plain, Nat.zero_add] at this
    exact this

set_option maxRecDepth 100000 in
set_option maxHeartbeats 1000000 in
/-- 'at': a handle's object -/
theorem graph_at (w : World) (b : GB) (g : GS) (t k i : Nat) (h : GAt w b g) (ht : t < g.n) (hk : k < (g.st t).length) (hr : (g.st t).getD k 0 = (i : Int) + 1) (hi : i < g.m) :
    Calls Try.prog 46 #[.pointer (some ⟨b.p, 0, none⟩), .pointer (some ⟨b.S t, 0, none⟩), .int .i64 k] w fun e w' =>
      e = .returned (.tuple #[.agg #[.slice (some ⟨b.R i, 0, none⟩) (g.rf i).length (g.rf i).length, .slice (some ⟨b.D i, 0, none⟩) (g.dt i).length (g.dt i).length], .int .i64 0]) ∧ Chg (fun _ => False) w w' := by
  obtain ⟨q, cap, hov, hql, hc1, hc2⟩ := h.objAt hi
  have hobs := h.obs
  rw [hov] at hobs
  have hpl := h.lt .p b.p rfl
  have hm : g.m ≤ 9223372036854775807 := Nat.le_trans h.objs (by decide)
  have HS := hid (h.stk t ht)
  have HR := hid hr
  have e1 : IntKind.u64.wrap ((i : Int) + 1 - 1) = (i : Int) := by rw [IntKind.wrap_u64]; omega
  have e2 : (i : Int) + 1 - 1 = (i : Int) := by omega
  have hne : (((i : Int) + 1) == 0) = false := by simp; omega
  have hig : (i : Int) < (g.m : Int) := by omega
  clear h hov hr
  go_enter Try.func46, Try.ntmps46
  go_wp2_with (go_at_call 17; refine (roots_at _ _ _ _ _ k (HS.out.chg ((Chg.refl (fun _ => False) _).alloc _) (by simp) (by simp)) hk).mono ?_; rw [HR.out]; rintro e w' ⟨rfl, rfl⟩)
  refine bodyPost_ret (v := .tuple #[.agg #[.slice (some ⟨b.R i, 0, none⟩) (g.rf i).length (g.rf i).length, .slice (some ⟨b.D i, 0, none⟩) (g.dt i).length (g.dt i).length], .int .i64 0]) (by simp [results, Try.results46, go_sem]) rfl ⟨rfl, ?_⟩
  (repeat (first | with_reducible exact Chg.refl _ _ | with_reducible apply Chg.drewN | with_reducible apply Chg.drew | with_reducible apply Chg.alloc | (with_reducible refine Chg.setCell ?_ ?_ _; rotate_left; focus (first | (refine Or.inr ?_; first | omega | (simp; done) | (simp; omega)) | exact Or.inl (by assumption) | with_reducible exact Or.inl rfl | exact Or.inl (by simp))) | refine Chg.trans ?_ (Chg.of_below (by with_reducible assumption) (fun k h1 h2 => absurd h1 (by first | omega | (simp; omega)))) | refine Chg.trans ?_ (by with_reducible assumption)))

set_option maxRecDepth 100000 in
set_option maxHeartbeats 1000000 in
theorem graph_at_nil (w : World) (b : GB) (g : GS) (t k : Nat) (h : GAt w b g) (ht : t < g.n) (hk : k < (g.st t).length) (hr : (g.st t).getD k 0 = 0) :
    Calls Try.prog 46 #[.pointer (some ⟨b.p, 0, none⟩), .pointer (some ⟨b.S t, 0, none⟩), .int .i64 k] w fun e w' =>
      e = .returned (.tuple #[.agg #[.slice none 0 0, .slice none 0 0], .int .i64 12]) ∧ Chg (fun _ => False) w w' := by
  have HS := hid (h.stk t ht)
  have HR := hid hr
  clear h hr
  go_enter Try.func46, Try.ntmps46
  go_wp2_with (go_at_call 17; refine (roots_at _ _ _ _ _ k (HS.out.chg ((Chg.refl (fun _ => False) _).alloc _) (by simp) (by simp)) hk).mono ?_; rw [HR.out]; rintro e w' ⟨rfl, rfl⟩)
  refine bodyPost_ret (v := .tuple #[.agg #[.slice none 0 0, .slice none 0 0], .int .i64 12]) (by simp [results, Try.results46, go_sem]) rfl ⟨rfl, ?_⟩
  (repeat (first | with_reducible exact Chg.refl _ _ | with_reducible apply Chg.drewN | with_reducible apply Chg.drew | with_reducible apply Chg.alloc | (with_reducible refine Chg.setCell ?_ ?_ _; rotate_left; focus (first | (refine Or.inr ?_; first | omega | (simp; done) | (simp; omega)) | exact Or.inl (by assumption) | with_reducible exact Or.inl rfl | exact Or.inl (by simp))) | refine Chg.trans ?_ (Chg.of_below (by with_reducible assumption) (fun k h1 h2 => absurd h1 (by first | omega | (simp; omega)))) | refine Chg.trans ?_ (by with_reducible assumption)))

set_option maxRecDepth 100000 in
set_option maxHeartbeats 1000000 in
theorem graph_at_out (w : World) (b : GB) (g : GS) (t : Nat) (k : Int) (h : GAt w b g) (ht : t < g.n) (hk : k < 0 ∨ ((g.st t).length : Int) ≤ k) :
    Calls Try.prog 46 #[.pointer (some ⟨b.p, 0, none⟩), .pointer (some ⟨b.S t, 0, none⟩), .int .i64 k] w fun e w' =>
      e = .returned (.tuple #[.agg #[.slice none 0 0, .slice none 0 0], .int .i64 10]) ∧ Chg (fun _ => False) w w' := by
  have HS := hid (h.stk t ht)
  clear h
  go_enter Try.func46, Try.ntmps46
  go_wp2_with (go_at_call 17; refine (roots_at_out _ _ _ _ _ k (HS.out.chg ((Chg.refl (fun _ => False) _).alloc _) (by simp) (by simp)) hk).mono ?_; rintro e w' ⟨rfl, rfl⟩)
  refine bodyPost_ret (v := .tuple #[.agg #[.slice none 0 0, .slice none 0 0], .int .i64 10]) (by simp [results, Try.results46, go_sem]) rfl ⟨rfl, ?_⟩
  (repeat (first | with_reducible exact Chg.refl _ _ | with_reducible apply Chg.drewN | with_reducible apply Chg.drew | with_reducible apply Chg.alloc | (with_reducible refine Chg.setCell ?_ ?_ _; rotate_left; focus (first | (refine Or.inr ?_; first | omega | (simp; done) | (simp; omega)) | exact Or.inl (by assumption) | with_reducible exact Or.inl rfl | exact Or.inl (by simp))) | refine Chg.trans ?_ (Chg.of_below (by with_reducible assumption) (fun k h1 h2 => absurd h1 (by first | omega | (simp; omega)))) | refine Chg.trans ?_ (by with_reducible assumption)))
end Go.Proofs.Ytcdllelbdcacjaa
