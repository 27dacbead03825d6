/-
  The document's graph (layer 13): 'step', kind by kind.
-/
import Derived.Test.YtcdllelbdcacjaaRGraph2
set_option linter.unusedVariables false
set_option linter.unusedSimpArgs false
namespace Go.Proofs.Ytcdllelbdcacjaa.R
open Go.RowKit

/-- behind an operation: the graph, the answer's word and bit -/
structure After (dcap : Nat) (w w' : World) (b b' : GB) (g g' : GS) (pA : Nat) (vt vo : Value) (word : Int) (bit : Bool) : Prop where
  at_ : GAt dcap w' b' g'
  chg : Chg (fun k => b.has g.n g.m k ∨ k = pA) w w'
  own : ∀ k, b'.has g'.n g'.m k → b.has g.n g.m k ∨ w.heap.size ≤ k
  p : b'.p = b.p
  S : b'.S = b.S
  n : g'.n = g.n
  tv : b'.tv = b.tv
  ans : Five w' pA vt vo (.int .i64 0) (.int .u64 word) (.bool bit)

theorem Five.chg' {w w1 : World} {S : Nat → Prop} {p : Nat} {v0 v1 v2 v3 v4 : Value} (h : Five w p v0 v1 v2 v3 v4) (c : Chg S w w1) (hp : ¬ S p) : Five w1 p v0 v1 v2 v3 v4 := h.chg c hp

section
variable {dcap : Nat} {w w1 : World} {b b1 : GB} {g g1 : GS} {pA : Nat} {vt vo : Value}
theorem After.of_step (s : Step dcap w w1 b b1 g g1) (f : Five w pA vt vo (.int .i64 0) (.int .u64 0) (.bool false)) (hn : ¬ b.has g.n g.m pA) : After dcap w w1 b b1 g g1 pA vt vo 0 false :=
  ⟨s.at_, s.chg.mono (fun _ _ h => .inl h), s.own, s.p, s.S, s.n, s.tv, f.chg s.chg hn⟩
theorem step_off (s : Step dcap w w1 b b1 g g1) (f : pA < w.heap.size) (hn : ¬ b.has g.n g.m pA) : ¬ b1.has g1.n g1.m pA := fun h => by
  rcases s.own pA h with h1 | h1
  · exact hn h1
  · omega
theorem After.word (s : Step dcap w w1 b b1 g g1) (f : Five w pA vt vo (.int .i64 0) (.int .u64 0) (.bool false)) (hn : ¬ b.has g.n g.m pA) (z : Int) : After dcap w (w1.setCell ⟨pA, 3, none⟩ (.int .u64 z)) b b1 g g1 pA vt vo z false := by
  have h1 := step_off s f.lt hn
  obtain ⟨a0, a1, a2, a3, a4, af⟩ := f.chg s.chg hn
  refine ⟨s.at_.chg ((Chg.refl (fun x => x = pA) w1).setCell (p := ⟨pA, 3, none⟩) (.inl rfl) _) (fun k hk e => h1 (e ▸ hk)), (s.chg.mono (fun _ _ h => .inl h)).setCell (.inl (.inr rfl)) _, s.own, s.p, s.S, s.n, s.tv, ⟨by go_simp, by go_simp, by go_simp, by go_simp, by go_simp, fun o => by go_simp⟩⟩
theorem After.bit (s : Step dcap w w1 b b1 g g1) (f : Five w pA vt vo (.int .i64 0) (.int .u64 0) (.bool false)) (hn : ¬ b.has g.n g.m pA) (z : Bool) : After dcap w (w1.setCell ⟨pA, 4, none⟩ (.bool z)) b b1 g g1 pA vt vo 0 z := by
  have h1 := step_off s f.lt hn
  obtain ⟨a0, a1, a2, a3, a4, af⟩ := f.chg s.chg hn
  refine ⟨s.at_.chg ((Chg.refl (fun x => x = pA) w1).setCell (p := ⟨pA, 4, none⟩) (.inl rfl) _) (fun k hk e => h1 (e ▸ hk)), (s.chg.mono (fun _ _ h => .inl h)).setCell (.inl (.inr rfl)) _, s.own, s.p, s.S, s.n, s.tv, ⟨by go_simp, by go_simp, by go_simp, by go_simp, by go_simp, fun o => by go_simp⟩⟩
end

/-- what the call of 'step' leaves -/
def SPost (dcap : Nat) (w : World) (b : GB) (g : GS) (pA : Nat) (vt vo : Value) (r : Out) (e : Ending) (w' : World) : Prop :=
  e = .returned (.int .i64 r.code) ∧ ∃ b', After dcap w w' b b' g r.g pA vt vo r.word r.bit

section
variable {dcap : Nat} (w : World) (b : GB) (g : GS) (t : Nat) (x y z v : Int) (pA : Nat) (vt vo : Value) (h : GAt dcap w b g) (ht : t < g.n) (f : Five w pA vt vo (.int .i64 0) (.int .u64 0) (.bool false)) (hn : ¬ b.has g.n g.m pA)
include h ht f hn

set_option maxRecDepth 100000 in
set_option maxHeartbeats 4000000 in
theorem step_6 : Calls Try.prog 39 #[.pointer (some ⟨b.p, 0, none⟩), .pointer (some ⟨b.S t, 0, none⟩), .agg #[.int .i64 6, .int .i64 x, .int .i64 y, .int .i64 z, .int .u64 v], .pointer (some ⟨pA, 0, none⟩)] w (SPost dcap w b g pA vt vo (g.act t ⟨6, x, y, z, v⟩)) := by
  have e0 : g.act t ⟨6, x, y, z, v⟩ = ⟨(g.push t 0).1, 0, false, (g.push t 0).2⟩ := (act_k g t _).2.2.2.2.2.1 rfl
  rw [e0]
  have H := hid h
  have F := hid f
  have HN := hid hn
  have HC := hid (fun w' (c : Chg (fun _ => False) w w') => push_gen w' b g t 0 (h.quiet c) ht ⟨by omega, by omega⟩)
  clear e0 h f hn
  revert HC
  generalize g.push t 0 = R
  intro HC
  obtain ⟨g1, c1⟩ := R
  go_enter Try.func39, Try.ntmps39
  go_wp2_with (go_at_call 21; refine (HC.out _ (by (repeat (first | with_reducible exact Chg.refl _ _ | with_reducible apply Chg.drewN | with_reducible apply Chg.drew | with_reducible apply Chg.alloc | (with_reducible refine Chg.setCell ?_ ?_ _; rotate_left; focus (first | (refine Or.inr ?_; first | omega | (simp; done) | (simp; omega)) | exact Or.inl (by assumption) | with_reducible exact Or.inl rfl | exact Or.inl (by simp))) | refine Chg.trans ?_ (Chg.of_below (by with_reducible assumption) (fun k h1 h2 => absurd h1 (by first | omega | (simp; omega)))) | refine Chg.trans ?_ (by with_reducible assumption))))).mono ?_; rintro e w1 ⟨rfl, b1, hs1⟩)
  go_ret
  exact ⟨rfl, b1, .of_step ((Step.refl H.out (by (repeat (first | with_reducible exact Chg.refl _ _ | with_reducible apply Chg.drewN | with_reducible apply Chg.drew | with_reducible apply Chg.alloc | (with_reducible refine Chg.setCell ?_ ?_ _; rotate_left; focus (first | (refine Or.inr ?_; first | omega | (simp; done) | (simp; omega)) | exact Or.inl (by assumption) | with_reducible exact Or.inl rfl | exact Or.inl (by simp))) | refine Chg.trans ?_ (Chg.of_below (by with_reducible assumption) (fun k h1 h2 => absurd h1 (by first | omega | (simp; omega)))) | refine Chg.trans ?_ (by with_reducible assumption))))).trans hs1) F.out HN.out⟩

set_option maxRecDepth 100000 in
set_option maxHeartbeats 4000000 in
theorem step_7 : Calls Try.prog 39 #[.pointer (some ⟨b.p, 0, none⟩), .pointer (some ⟨b.S t, 0, none⟩), .agg #[.int .i64 7, .int .i64 x, .int .i64 y, .int .i64 z, .int .u64 v], .pointer (some ⟨pA, 0, none⟩)] w (SPost dcap w b g pA vt vo (g.act t ⟨7, x, y, z, v⟩)) := by
  have e0 : g.act t ⟨7, x, y, z, v⟩ = ⟨(g.pop t).1, 0, false, (g.pop t).2⟩ := (act_k g t _).2.2.2.2.2.2.1 rfl
  rw [e0]
  have H := hid h
  have F := hid f
  have HN := hid hn
  have HC := hid (fun w' (c : Chg (fun _ => False) w w') => pop_gen w' b g t (h.quiet c) ht)
  clear e0 h f hn
  revert HC
  generalize g.pop t = R
  intro HC
  obtain ⟨g1, c1⟩ := R
  go_enter Try.func39, Try.ntmps39
  go_wp2_with (go_at_call 16; refine (HC.out _ (by (repeat (first | with_reducible exact Chg.refl _ _ | with_reducible apply Chg.drewN | with_reducible apply Chg.drew | with_reducible apply Chg.alloc | (with_reducible refine Chg.setCell ?_ ?_ _; rotate_left; focus (first | (refine Or.inr ?_; first | omega | (simp; done) | (simp; omega)) | exact Or.inl (by assumption) | with_reducible exact Or.inl rfl | exact Or.inl (by simp))) | refine Chg.trans ?_ (Chg.of_below (by with_reducible assumption) (fun k h1 h2 => absurd h1 (by first | omega | (simp; omega)))) | refine Chg.trans ?_ (by with_reducible assumption))))).mono ?_; rintro e w1 ⟨xx, rfl, b1, hs1⟩)
  go_ret
  exact ⟨rfl, b1, .of_step ((Step.refl H.out (by (repeat (first | with_reducible exact Chg.refl _ _ | with_reducible apply Chg.drewN | with_reducible apply Chg.drew | with_reducible apply Chg.alloc | (with_reducible refine Chg.setCell ?_ ?_ _; rotate_left; focus (first | (refine Or.inr ?_; first | omega | (simp; done) | (simp; omega)) | exact Or.inl (by assumption) | with_reducible exact Or.inl rfl | exact Or.inl (by simp))) | refine Chg.trans ?_ (Chg.of_below (by with_reducible assumption) (fun k h1 h2 => absurd h1 (by first | omega | (simp; omega)))) | refine Chg.trans ?_ (by with_reducible assumption))))).trans hs1) F.out HN.out⟩

set_option maxRecDepth 100000 in
set_option maxHeartbeats 4000000 in
theorem step_8 : Calls Try.prog 39 #[.pointer (some ⟨b.p, 0, none⟩), .pointer (some ⟨b.S t, 0, none⟩), .agg #[.int .i64 8, .int .i64 x, .int .i64 y, .int .i64 z, .int .u64 v], .pointer (some ⟨pA, 0, none⟩)] w (SPost dcap w b g pA vt vo (g.act t ⟨8, x, y, z, v⟩)) := by
  have e0 : g.act t ⟨8, x, y, z, v⟩ = ⟨(g.dup t x).1, 0, false, (g.dup t x).2⟩ := (act_k g t _).2.2.2.2.2.2.2.1 rfl
  rw [e0]
  have H := hid h
  have F := hid f
  have HN := hid hn
  have hA := fun w' (c : Chg (fun _ => False) w w') => at_gen w' b g t x (h.quiet c) ht
  have HC := hid (fun w' (c : Chg (fun _ => False) w w') => push_gen w' b g t (refAt (g.st t) x) (h.quiet c) ht (h.refAt_range ht x))
  unfold GS.dup
  rcases codeAt_cases (g.st t) x with ⟨q1, q2⟩ | ⟨q1, q2, q3⟩
  · rw [if_neg (by rw [q2]; decide)]
    rw [q2] at hA
    have HA := hid hA
    clear e0 h f hn hA q1 q2
    revert HC HA
    generalize refAt (g.st t) x = r
    intro HC HA
    revert HC
    generalize g.push t r = R
    intro HC
    obtain ⟨g1, c1⟩ := R
    go_enter Try.func39, Try.ntmps39
    go_wp2_with (first
      | (go_at_call 18; refine (HA.out _ (by (repeat (first | with_reducible exact Chg.refl _ _ | with_reducible apply Chg.drewN | with_reducible apply Chg.drew | with_reducible apply Chg.alloc | (with_reducible refine Chg.setCell ?_ ?_ _; rotate_left; focus (first | (refine Or.inr ?_; first | omega | (simp; done) | (simp; omega)) | exact Or.inl (by assumption) | with_reducible exact Or.inl rfl | exact Or.inl (by simp))) | refine Chg.trans ?_ (Chg.of_below (by with_reducible assumption) (fun k h1 h2 => absurd h1 (by first | omega | (simp; omega)))) | refine Chg.trans ?_ (by with_reducible assumption))))).mono ?_; rintro e w' ⟨rfl, rfl⟩)
      | (go_at_call 21; refine (HC.out _ (by (repeat (first | with_reducible exact Chg.refl _ _ | with_reducible apply Chg.drewN | with_reducible apply Chg.drew | with_reducible apply Chg.alloc | (with_reducible refine Chg.setCell ?_ ?_ _; rotate_left; focus (first | (refine Or.inr ?_; first | omega | (simp; done) | (simp; omega)) | exact Or.inl (by assumption) | with_reducible exact Or.inl rfl | exact Or.inl (by simp))) | refine Chg.trans ?_ (Chg.of_below (by with_reducible assumption) (fun k h1 h2 => absurd h1 (by first | omega | (simp; omega)))) | refine Chg.trans ?_ (by with_reducible assumption))))).mono ?_; rintro e w1 ⟨rfl, b1, hs1⟩))
    go_ret
    exact ⟨rfl, b1, .of_step ((Step.refl H.out (by (repeat (first | with_reducible exact Chg.refl _ _ | with_reducible apply Chg.drewN | with_reducible apply Chg.drew | with_reducible apply Chg.alloc | (with_reducible refine Chg.setCell ?_ ?_ _; rotate_left; focus (first | (refine Or.inr ?_; first | omega | (simp; done) | (simp; omega)) | exact Or.inl (by assumption) | with_reducible exact Or.inl rfl | exact Or.inl (by simp))) | refine Chg.trans ?_ (Chg.of_below (by with_reducible assumption) (fun k h1 h2 => absurd h1 (by first | omega | (simp; omega)))) | refine Chg.trans ?_ (by with_reducible assumption))))).trans hs1) F.out HN.out⟩
  · rw [if_pos q2]
    rw [q2] at hA
    have HA := hid hA
    clear e0 h f hn hA q1 q2 q3 HC
    go_enter Try.func39, Try.ntmps39
    go_wp2_with (go_at_call 18; refine (HA.out _ (by (repeat (first | with_reducible exact Chg.refl _ _ | with_reducible apply Chg.drewN | with_reducible apply Chg.drew | with_reducible apply Chg.alloc | (with_reducible refine Chg.setCell ?_ ?_ _; rotate_left; focus (first | (refine Or.inr ?_; first | omega | (simp; done) | (simp; omega)) | exact Or.inl (by assumption) | with_reducible exact Or.inl rfl | exact Or.inl (by simp))) | refine Chg.trans ?_ (Chg.of_below (by with_reducible assumption) (fun k h1 h2 => absurd h1 (by first | omega | (simp; omega)))) | refine Chg.trans ?_ (by with_reducible assumption))))).mono ?_; rintro e w' ⟨rfl, rfl⟩)
    go_ret
    exact ⟨rfl, b, .of_step (Step.refl H.out (by (repeat (first | with_reducible exact Chg.refl _ _ | with_reducible apply Chg.drewN | with_reducible apply Chg.drew | with_reducible apply Chg.alloc | (with_reducible refine Chg.setCell ?_ ?_ _; rotate_left; focus (first | (refine Or.inr ?_; first | omega | (simp; done) | (simp; omega)) | exact Or.inl (by assumption) | with_reducible exact Or.inl rfl | exact Or.inl (by simp))) | refine Chg.trans ?_ (Chg.of_below (by with_reducible assumption) (fun k h1 h2 => absurd h1 (by first | omega | (simp; omega)))) | refine Chg.trans ?_ (by with_reducible assumption))))) F.out HN.out⟩
end
end Go.Proofs.Ytcdllelbdcacjaa.R
