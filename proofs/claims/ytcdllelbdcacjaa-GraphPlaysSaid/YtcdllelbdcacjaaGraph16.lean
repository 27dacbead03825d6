/-
  Graphs (layer 13): the calls that the layer's statements make first; GraphNil.
-/
import Derived.Test.YtcdllelbdcacjaaGraph15
set_option linter.unusedVariables false
set_option linter.unusedSimpArgs false
namespace Go.Proofs.Ytcdllelbdcacjaa
open Go.RowKit Go.Maps

/-- a call of 'Do' whose answer is known -/
theorem graph_do_to (w : World) (p : Nat) (b : GB) (g g' : GS) (a : AnsS) (t k x y z v : Int) (hp : b.p = p) (h : GAt w b g) (hd : ∀ s, s < g.n → 0 ≤ g.done s ∧ g.done s ≤ 1000000) (hm : g.m + 1 ≤ 1048576) (hr : g.run t ⟨k, x, y, z, v⟩ = (g', a)) :
    Calls Try.prog 29 #[.pointer (some ⟨p, 0, none⟩), .int .i64 t, .agg #[.int .i64 k, .int .i64 x, .int .i64 y, .int .i64 z, .int .u64 v]] w fun e w' =>
      e = .returned (.agg #[.int .i64 a.thread, .int .i64 a.op, .int .i64 a.code, .int .u64 a.word, .bool a.bit]) ∧ ∃ b', Step w w' b b' g g' := by
  subst hp
  have := graph_do w b g t k x y z v h hd hm
  rw [hr] at this
  exact this

/-- a block that isn't the graph's is kept by a step -/
theorem Step.keep {w w' : World} {b b' : GB} {g g' : GS} (h : Step w w' b b' g g') {p : Nat} (hp : p < w.heap.size) (hn : ¬ b.has g.n g.m p) : (∀ o, w'.cell? ⟨p, o, none⟩ = w.cell? ⟨p, o, none⟩) ∧ ¬ b'.has g'.n g'.m p ∧ p < w'.heap.size := by
  refine ⟨fun o => h.chg.cell hp hn, fun hb => ?_, Nat.lt_of_lt_of_le hp h.chg.size⟩
  rcases h.own p hb with h1 | h1
  · exact hn h1
  · omega

theorem GAt.off {w : World} {b : GB} {g : GS} (h : GAt w b g) {k : Nat} (hk : w.heap.size ≤ k) : ¬ b.has g.n g.m k := fun ⟨a, ha⟩ => by
  have := h.lt a k ha
  omega

theorem ints8 {w : World} {n : Nat} {T : TypeId} {a0 a1 a2 a3 a4 a5 a6 a7 : Int} (hn : w.heap.size = n) : IntsIn .u64 (w.alloc (.cells #[.int .u64 a0, .int .u64 a1, .int .u64 a2, .int .u64 a3, .int .u64 a4, .int .u64 a5, .int .u64 a6, .int .u64 a7] T)) (.slice (some ⟨n, 0, none⟩) 8 8) [a0, a1, a2, a3, a4, a5, a6, a7] := by
  subst hn
  refine ⟨_, 8, rfl, fun j hj => ⟨_, rfl, ?_⟩⟩
  have hj' : j < 8 := hj
  rcases (by omega : j = 0 ∨ j = 1 ∨ j = 2 ∨ j = 3 ∨ j = 4 ∨ j = 5 ∨ j = 6 ∨ j = 7) with rfl | rfl | rfl | rfl | rfl | rfl | rfl | rfl <;> go_simp
theorem IntsIn.quiet {K : IntKind} {w w1 : World} {v : Value} {zs : List Int} (h : IntsIn K w v zs) (c : Chg (fun _ => False) w w1) : IntsIn K w1 v zs := by
  obtain ⟨A, cap, rfl, hc⟩ := h
  refine ⟨A, cap, rfl, fun j hj => ?_⟩
  obtain ⟨g, rfl, h1⟩ := hc j hj
  exact ⟨g, rfl, (c.cell (cell_lt h1) (by simp)).trans h1⟩

/-- what lay there before is as it was, and the graph lies behind it -/
structure Low (B : Nat) (a w : World) (b : GB) (g : GS) : Prop where
  bel : Below B a w
  low : ∀ k, b.has g.n g.m k → B ≤ k
  le : B ≤ a.heap.size
theorem Low.size {B : Nat} {a w : World} {b : GB} {g : GS} (h : Low B a w b g) : B ≤ w.heap.size := Nat.le_trans h.le h.bel.size
theorem Low.quiet {B : Nat} {a w w1 : World} {b : GB} {g : GS} (h : Low B a w b g) (c : Chg (fun _ => False) w w1) : Low B a w1 b g := ⟨c.below h.bel (by simp) h.size, h.low, h.le⟩
theorem Low.chg {B : Nat} {a w w1 : World} {b : GB} {g : GS} {S : Nat → Prop} (h : Low B a w b g) (c : Chg S w w1) (hS : ∀ k, k < w.heap.size → S k → B ≤ k) : Low B a w1 b g := ⟨c.below h.bel hS h.size, h.low, h.le⟩
theorem Low.step {B : Nat} {a w w1 : World} {b b1 : GB} {g g1 : GS} (h : Low B a w b g) (s : Step w w1 b b1 g g1) : Low B a w1 b1 g1 :=
  ⟨s.chg.below h.bel (fun k _ hk => h.low k hk) h.size, fun k hk => by
    rcases s.own k hk with h1 | h1
    · exact h.low k h1
    · have := h.size; omega, h.le⟩

theorem graph_shape_to (w : World) (p : Nat) (b : GB) (g : GS) (l : List Int) (hp : b.p = p) (h : GAt w b g) (hl : g.shape = l) :
    Calls Try.prog 32 #[.pointer (some ⟨p, 0, none⟩)] w fun e w' => ∃ (A : Option Addr) (c : Nat), e = .returned (.slice A l.length c) ∧ OwnU w.heap.size w' (.slice A l.length c) l ∧ Chg (fun _ => False) w w' := by
  subst hp
  subst hl
  refine (graph_shape w b g h).mono ?_
  rintro e w' ⟨v, rfl, ho, hc⟩
  obtain ⟨A, c, rfl⟩ := ho.shape
  exact ⟨A, c, rfl, ho, hc⟩
theorem graph_words_to (w : World) (p : Nat) (b : GB) (g : GS) (n : Int) (hp : b.p = p) (h : GAt w b g) (hl : g.words = n) :
    Calls Try.prog 34 #[.pointer (some ⟨p, 0, none⟩)] w fun e w' => e = .returned (.int .i64 n) ∧ Chg (fun _ => False) w w' := by
  subst hp
  subst hl
  exact graph_words w b g h

def aw0 : GS := GS.fresh 100 4 1
def aw1 : GS := (aw0.run 0 ⟨1, 2, 1, 0, 0⟩).1
def aw2 : GS := (aw1.run 0 ⟨5, 0, 0, 0, 7⟩).1
def aw3 : GS := (aw2.run 0 ⟨6, 0, 0, 0, 0⟩).1
def aw4 : GS := (aw3.run 0 ⟨3, 0, 1, 0, 0⟩).1
theorem aw_1 : aw0.run 0 ⟨1, 2, 1, 0, 0⟩ = (aw1, ⟨0, 0, 0, 0, false⟩) := rfl
theorem aw_2 : aw1.run 0 ⟨5, 0, 0, 0, 7⟩ = (aw2, ⟨0, 1, 0, 0, false⟩) := rfl
theorem aw_3 : aw2.run 0 ⟨6, 0, 0, 0, 0⟩ = (aw3, ⟨0, 2, 0, 0, false⟩) := rfl
theorem aw_4 : aw3.run 0 ⟨3, 0, 1, 0, 0⟩ = (aw4, ⟨0, 3, 0, 0, false⟩) := rfl
theorem aw_shape : aw4.shape = [2, 1, 0, 2, 1, 0, 1, 7] := by decide +kernel
theorem aw_words : aw4.words = 4 := by decide +kernel

theorem aw_d (g : GS) (hn : g.n = 1) (h0 : 0 ≤ g.done 0 ∧ g.done 0 ≤ 1000000) : ∀ s, s < g.n → 0 ≤ g.done s ∧ g.done s ≤ 1000000 := fun s hs => by
  obtain rfl : s = 0 := by omega
  exact h0

set_option maxRecDepth 100000 in
set_option maxHeartbeats 4000000 in
theorem awake13 (w : World) : Calls Try.prog 25 #[] w fun e w' => e = .returned (.bool true) ∧ Below w.heap.size w w' := by
  have tok1 : True := trivial
  have tok2 : True := trivial
  go_enter Try.func25, Try.ntmps25
  go_wp2_with (first
    | (go_at_call 27; refine (graph_new w 1 4 100 (by omega) (by omega) (by omega) (by omega) (by omega) (by omega)).mono ?_; rintro e w0 ⟨b0, rfl, hg0, hb0, hn0⟩; have G0 := hid hg0; have B0 := hid hb0; have N0 := hid hn0; clear hg0 hb0 hn0)
    | (go_at_call_of 29 (Value.agg #[Value.int .i64 1, Value.int .i64 2, Value.int .i64 1, Value.int .i64 0, Value.int .u64 0]); refine (graph_do_to _ b0.p b0 aw0 aw1 _ 0 1 2 1 0 0 rfl G0.out (aw_d _ rfl (by decide)) (by decide) aw_1).mono ?_; rintro e w1 ⟨rfl, b1, hs1⟩; have S1 := hid hs1; have P1 := hid hs1.p; have n1 := hid (hs1.at_.off (Nat.le_refl _)); clear hs1)
    | (go_at_call_of 29 (Value.agg #[Value.int .i64 5, Value.int .i64 0, Value.int .i64 0, Value.int .i64 0, Value.int .u64 7]); refine (graph_do_to _ b0.p b1 aw1 aw2 _ 0 5 0 0 0 7 P1.out (S1.out.at_.quiet (by (repeat (first | with_reducible exact Chg.refl _ _ | with_reducible apply Chg.drewN | with_reducible apply Chg.drew | with_reducible apply Chg.alloc | (with_reducible refine Chg.setCell ?_ ?_ _; rotate_left; focus (first | (refine Or.inr ?_; first | omega | (simp; done) | (simp; omega)) | exact Or.inl (by assumption) | with_reducible exact Or.inl rfl | exact Or.inl (by simp))) | refine Chg.trans ?_ (Chg.of_below (by with_reducible assumption) (fun k h1 h2 => absurd h1 (by first | omega | (simp; omega)))) | refine Chg.trans ?_ (by with_reducible assumption))))) (aw_d _ rfl (by decide)) (by decide) aw_2).mono ?_; rintro e w2 ⟨rfl, b2, hs2⟩; have S2 := hid hs2; have P2 := hid (hs2.p.trans P1.out); have F2 := hid ((five_new w1 _ _ _ _ _ _).chg hs2.chg n1.out); have m2 := hid ((hs2.keep (p := w1.heap.size) (by simp) n1.out).2.1); have n2 := hid (hs2.at_.off (Nat.le_refl _)); clear hs2)
    | (go_at_call_of 29 (Value.agg #[Value.int .i64 6, Value.int .i64 0, Value.int .i64 0, Value.int .i64 0, Value.int .u64 0]); refine (graph_do_to _ b0.p b2 aw2 aw3 _ 0 6 0 0 0 0 P2.out (S2.out.at_.quiet (by (repeat (first | with_reducible exact Chg.refl _ _ | with_reducible apply Chg.drewN | with_reducible apply Chg.drew | with_reducible apply Chg.alloc | (with_reducible refine Chg.setCell ?_ ?_ _; rotate_left; focus (first | (refine Or.inr ?_; first | omega | (simp; done) | (simp; omega)) | exact Or.inl (by assumption) | with_reducible exact Or.inl rfl | exact Or.inl (by simp))) | refine Chg.trans ?_ (Chg.of_below (by with_reducible assumption) (fun k h1 h2 => absurd h1 (by first | omega | (simp; omega)))) | refine Chg.trans ?_ (by with_reducible assumption))))) (aw_d _ rfl (by decide)) (by decide) aw_3).mono ?_; rintro e w3 ⟨rfl, b3, hs3⟩; have S3 := hid hs3; have P3 := hid (hs3.p.trans P2.out); have F3 := hid ((F2.out.chg (S := fun _ => False) ((Chg.refl _ w2).alloc _) (by simp)).chg hs3.chg m2.out); have E3 := hid ((five_new w2 _ _ _ _ _ _).chg hs3.chg n2.out); have m3 := hid ((hs3.keep (p := w1.heap.size) (by have := F2.out.lt; simp; omega) m2.out).2.1); have n3 := hid ((hs3.keep (p := w2.heap.size) (by simp) n2.out).2.1); clear hs3)
    | (go_at_call_of 29 (Value.agg #[Value.int .i64 3, Value.int .i64 0, Value.int .i64 1, Value.int .i64 0, Value.int .u64 0]); refine (graph_do_to _ b0.p b3 aw3 aw4 _ 0 3 0 1 0 0 P3.out S3.out.at_ (aw_d _ rfl (by decide)) (by decide) aw_4).mono ?_; rintro e w4 ⟨rfl, b4, hs4⟩; have S4 := hid hs4; have P4 := hid (hs4.p.trans P3.out); have F4 := F3.out.chg hs4.chg m3.out; have E4 := E3.out.chg hs4.chg n3.out; have l1 := F4.lt; have l2 := E4.lt; obtain ⟨x0, x1, x2, x3, x4, _⟩ := F4; obtain ⟨y0, y1, y2, y3, y4, _⟩ := E4; clear hs4)
    | (go_at_call 32; refine (graph_shape_to _ b0.p b4 aw4 _ P4.out (S4.out.at_.quiet (by (repeat (first | with_reducible exact Chg.refl _ _ | with_reducible apply Chg.drewN | with_reducible apply Chg.drew | with_reducible apply Chg.alloc | (with_reducible refine Chg.setCell ?_ ?_ _; rotate_left; focus (first | (refine Or.inr ?_; first | omega | (simp; done) | (simp; omega)) | exact Or.inl (by assumption) | with_reducible exact Or.inl rfl | exact Or.inl (by simp))) | refine Chg.trans ?_ (Chg.of_below (by with_reducible assumption) (fun k h1 h2 => absurd h1 (by first | omega | (simp; omega)))) | refine Chg.trans ?_ (by with_reducible assumption))))) aw_shape).mono ?_; rintro e w5 ⟨A5, c5, rfl, ho5, hc5⟩; have O5 := hid ho5; have C5 := hid hc5; clear ho5 hc5)
    | (go_at_call 31; refine (same13_true _ _ _ [2, 1, 0, 2, 1, 0, 1, 7] ((intsIn_of O5.out).quiet (by (repeat (first | with_reducible exact Chg.refl _ _ | with_reducible apply Chg.drewN | with_reducible apply Chg.drew | with_reducible apply Chg.alloc | (with_reducible refine Chg.setCell ?_ ?_ _; rotate_left; focus (first | (refine Or.inr ?_; first | omega | (simp; done) | (simp; omega)) | exact Or.inl (by assumption) | with_reducible exact Or.inl rfl | exact Or.inl (by simp))) | refine Chg.trans ?_ (Chg.of_below (by with_reducible assumption) (fun k h1 h2 => absurd h1 (by first | omega | (simp; omega)))) | refine Chg.trans ?_ (by with_reducible assumption))))) (ints8 rfl) (by decide)).mono ?_; rintro e w6 ⟨rfl, k6, rfl⟩)
    | (go_at_call 34; refine (graph_words_to _ b0.p b4 aw4 4 P4.out ((S4.out.at_.quiet ((Chg.refl _ _).alloc _)).quiet (C5.out.trans (by (repeat (first | with_reducible exact Chg.refl _ _ | with_reducible apply Chg.drewN | with_reducible apply Chg.drew | with_reducible apply Chg.alloc | (with_reducible refine Chg.setCell ?_ ?_ _; rotate_left; focus (first | (refine Or.inr ?_; first | omega | (simp; done) | (simp; omega)) | exact Or.inl (by assumption) | with_reducible exact Or.inl rfl | exact Or.inl (by simp))) | refine Chg.trans ?_ (Chg.of_below (by with_reducible assumption) (fun k h1 h2 => absurd h1 (by first | omega | (simp; omega)))) | refine Chg.trans ?_ (by with_reducible assumption)))))) aw_words).mono ?_; rintro e w7 ⟨rfl, hc7⟩; have C7 := hid hc7; clear hc7))
  go_ret
  have L0 : Low w.heap.size w w0 b0 aw0 := ⟨B0.out, N0.out, Nat.le_refl _⟩
  have L4 := ((((L0.step S1.out).quiet ((Chg.refl _ _).alloc _)).step S2.out |>.quiet ((Chg.refl _ _).alloc _)).step S3.out).step S4.out
  exact ⟨rfl, (((L4.quiet ((Chg.refl _ _).alloc _)).quiet (C5.out)).quiet (Chg.trans (by (repeat (first | with_reducible exact Chg.refl _ _ | with_reducible apply Chg.drewN | with_reducible apply Chg.drew | with_reducible apply Chg.alloc | (with_reducible refine Chg.setCell ?_ ?_ _; rotate_left; focus (first | (refine Or.inr ?_; first | omega | (simp; done) | (simp; omega)) | exact Or.inl (by assumption) | with_reducible exact Or.inl rfl | exact Or.inl (by simp))) | refine Chg.trans ?_ (Chg.of_below (by with_reducible assumption) (fun k h1 h2 => absurd h1 (by first | omega | (simp; omega)))) | refine Chg.trans ?_ (by with_reducible assumption)))) C7.out)).bel⟩

theorem graph_do_nil_to (w : World) (t k x y z v : Int) :
    Calls Try.prog 29 #[.pointer none, .int .i64 t, .agg #[.int .i64 k, .int .i64 x, .int .i64 y, .int .i64 z, .int .u64 v]] w fun e w' => e = .returned (.agg #[.int .i64 0, .int .i64 0, .int .i64 1, .int .u64 0, .bool false]) ∧ Below w.heap.size w w' :=
  graph_do_nil w t k x y z v

set_option maxRecDepth 100000 in
set_option maxHeartbeats 2000000 in
theorem graphNil (t k x y z v : Int) (w : World) (_ : (Lit.int .i64 t).wf = true) (_ : (Lit.int .i64 k).wf = true) (_ : (Lit.int .i64 x).wf = true) (_ : (Lit.int .i64 y).wf = true) (_ : (Lit.int .i64 z).wf = true) (_ : (Lit.int .u64 v).wf = true) :
    Calls Try.prog 9 #[.agg #[.int .i64 t, .int .i64 k, .int .i64 x, .int .i64 y, .int .i64 z, .int .u64 v]] w fun e w' => e = .returned (.bool true) ∧ Below w.heap.size w w' := by
  go_enter Try.func9, Try.ntmps9
  go_wp2_with (first
    | (go_at_call 25; refine (awake13 _).mono ?_; rintro e w' ⟨rfl, hb⟩; have hb_0 := fun o => (hb).cell (p := ⟨w.heap.size, o, none⟩) (by first | omega | (simp; done) | (simp; omega)); have hbf_0 := fun o => (hb).frozen (p := ⟨w.heap.size, o, none⟩) (by first | omega | (simp; done) | (simp; omega)); have hbl_0 : w.heap.size < w'.heap.size := (by have := (hb).size; (try simp at this); omega); have hbm_0 := Nat.le_of_lt hbl_0)
    | (go_at_call 29; refine (graph_do_nil_to _ t k x y z v).mono ?_; rintro e w2 ⟨rfl, hb2⟩)
    | (go_at_call 32; refine (graph_shape_nil _).mono ?_; rintro e w' ⟨rfl, rfl⟩)
    | (go_at_call 34; refine (graph_words_nil _).mono ?_; rintro e w' ⟨rfl, rfl⟩))
  go_ret
  exact ⟨rfl, by (repeat (first | exact Below.refl _ _ | exact Below.refl _ _ | apply bel_drewN.2 | apply bel_drew.2 | refine Below.setCell ?_ (by first | omega | (simp; done) | (simp; omega)) _ | refine Below.alloc ?_ (by first | omega | (simp; done) | (simp; omega)) _ | refine bel_step (by assumption) (by first | omega | (simp; done) | (simp; omega)) ?_))⟩
end Go.Proofs.Ytcdllelbdcacjaa
