/-
  Graphs (layer 13): GraphPlays.
-/
import Derived.Test.YtcdllelbdcacjaaRGraph16
set_option linter.unusedVariables false
set_option linter.unusedSimpArgs false
namespace Go.Proofs.Ytcdllelbdcacjaa
open Go.RowKit Go.Maps

/-- the graph, and the document's beside it -/
structure RDuo (B dcap : Nat) (a w : World) (p q : Nat) (b : GB) (c : R.GB) (g h : GS) : Prop where
  gb : GAt w b g
  gc : R.GAt dcap w c h
  bel : Below B a w
  le : B ≤ a.heap.size
  lb : ∀ k, b.has g.n g.m k → B ≤ k
  lc : ∀ k, c.has h.n h.m k → B ≤ k
  pb : b.p = p
  pc : c.p = q
  apart : ∀ x, b.has g.n g.m x → c.has h.n h.m x → False

theorem R.GAt.hlt {dcap : Nat} {w : World} {b : R.GB} {g : GS} (h : R.GAt dcap w b g) {x : Nat} (hx : b.has g.n g.m x) : x < w.heap.size := by
  obtain ⟨a, ha⟩ := hx
  exact h.lt a x ha
section
variable {B dcap : Nat} {a w w1 : World} {p q : Nat} {b b1 : GB} {c c1 : R.GB} {g g1 h h1 : GS}
theorem RDuo.size (d : RDuo B dcap a w p q b c g h) : B ≤ w.heap.size := Nat.le_trans d.le d.bel.size
theorem RDuo.quiet (d : RDuo B dcap a w p q b c g h) (k : Chg (fun _ => False) w w1) : RDuo B dcap a w1 p q b c g h :=
  ⟨d.gb.quiet k, d.gc.quiet k, k.below d.bel (by simp) d.size, d.le, d.lb, d.lc, d.pb, d.pc, d.apart⟩
theorem RDuo.left (d : RDuo B dcap a w p q b c g h) (s : Step w w1 b b1 g g1) : RDuo B dcap a w1 p q b1 c g1 h :=
  ⟨s.at_, d.gc.chg s.chg (fun x hx hb => d.apart x hb hx), s.chg.below d.bel (fun k _ hk => d.lb k hk) d.size, d.le, fun k hk => by
    rcases s.own k hk with h1 | h1
    · exact d.lb k h1
    · have := d.size; omega, d.lc, s.p.trans d.pb, d.pc, fun x hb hc => by
    rcases s.own x hb with h1 | h1
    · exact d.apart x h1 hc
    · have := d.gc.hlt hc; omega⟩
theorem RDuo.right (d : RDuo B dcap a w p q b c g h) (s : R.Step dcap w w1 c c1 h h1) : RDuo B dcap a w1 p q b c1 g h1 :=
  ⟨d.gb.chg s.chg (fun x hx hc => d.apart x hx hc), s.at_, s.chg.below d.bel (fun k _ hk => d.lc k hk) d.size, d.le, d.lb, fun k hk => by
    rcases s.own k hk with h2 | h2
    · exact d.lc k h2
    · have := d.size; omega, d.pb, s.p.trans d.pc, fun x hb hc => by
    rcases s.own x hc with h2 | h2
    · exact d.apart x hb h2
    · have := d.gb.hlt hb; omega⟩
theorem RDuo.kept (d : RDuo B dcap a w p q b c g h) {x : Nat} (hx : x < B) : ¬ b.has g.n g.m x ∧ ¬ c.has h.n h.m x :=
  ⟨fun e => by have := d.lb x e; omega, fun e => by have := d.lc x e; omega⟩
end

theorem rgraph_do_to {dcap : Nat} (w : World) (p : Nat) (b : R.GB) (g g' : GS) (a : AnsS) (t k x y z v : Int) (hp : b.p = p) (h : R.GAt dcap w b g) (hd : ∀ s, s < g.n → 0 ≤ g.done s ∧ g.done s ≤ 1000000) (hm : g.m + 1 ≤ 1048576) (hr : g.run t ⟨k, x, y, z, v⟩ = (g', a)) :
    Calls Try.prog 30 #[.pointer (some ⟨p, 0, none⟩), .int .i64 t, .agg #[.int .i64 k, .int .i64 x, .int .i64 y, .int .i64 z, .int .u64 v]] w fun e w' =>
      e = .returned (.agg #[.int .i64 a.thread, .int .i64 a.op, .int .i64 a.code, .int .u64 a.word, .bool a.bit]) ∧ ∃ b', R.Step dcap w w' b b' g g' := by
  subst hp
  have := R.graph_do w b g t k x y z v h hd hm
  rw [hr] at this
  exact this
theorem rgraph_shape_to {dcap : Nat} (w : World) (p : Nat) (b : R.GB) (g : GS) (l : List Int) (hp : b.p = p) (h : R.GAt dcap w b g) (hl : g.shape = l) :
    Calls Try.prog 33 #[.pointer (some ⟨p, 0, none⟩)] w fun e w' => ∃ (A : Option Addr) (c : Nat), e = .returned (.slice A l.length c) ∧ OwnU w.heap.size w' (.slice A l.length c) l ∧ Chg (fun _ => False) w w' := by
  subst hp
  subst hl
  refine (R.graph_shape w b g h).mono ?_
  rintro e w' ⟨v, rfl, ho, hc⟩
  obtain ⟨A, c, rfl⟩ := ho.shape
  exact ⟨A, c, rfl, ho, hc⟩
theorem rgraph_words_to {dcap : Nat} (w : World) (p : Nat) (b : R.GB) (g : GS) (n : Int) (hp : b.p = p) (h : R.GAt dcap w b g) (hl : g.words = n) :
    Calls Try.prog 35 #[.pointer (some ⟨p, 0, none⟩)] w fun e w' => e = .returned (.int .i64 n) ∧ Chg (fun _ => False) w w' := by
  subst hp
  subst hl
  exact R.graph_words w b g h

set_option maxRecDepth 100000 in
set_option maxHeartbeats 8000000 in
theorem graphPlays (tn rt sz : Int) (a : Option Addr) (len cap : Nat) (z : Nat → Nat → Int) (w : World) (_ : (Lit.int .i64 tn).wf = true) (_ : (Lit.int .i64 rt).wf = true) (_ : (Lit.int .i64 sz).wf = true) (w0 : Acts w a len z) :
    Calls Try.prog 6 #[.int .i64 tn, .int .i64 rt, .int .i64 sz, .slice a len cap] w fun e w' => e = .returned (.bool true) ∧ Below w.heap.size w w' := by
  have H := hid w0
  clear w0
  have tok1 : True := trivial
  by_cases hbad : tn < 1 ∨ 64 < tn ∨ rt < 1 ∨ 64 < rt ∨ sz < 1 ∨ 1048576 < sz
  · go_enter Try.func6, Try.ntmps6
    go_wp2_with (first
      | (go_at_call 25; refine (awake13 _).mono ?_; rintro e wa ⟨rfl, hba⟩; have BA := hid hba; clear hba)
      | (go_at_call 26; refine (heavy_any _ a len cap z (H.out.below BA.out)).mono ?_; rintro e w' ⟨c, nh, rfl, rfl⟩)
      | (go_at_call 27; refine (graph_new_bad _ tn rt sz hbad).mono ?_; rintro e w1 ⟨rfl, rfl⟩)
      | (go_at_call 28; refine (R.graph_new_bad _ tn rt sz hbad).mono ?_; rintro e w1 ⟨rfl, rfl⟩))
    all_goals (
      go_ret
      exact ⟨rfl, by (repeat (first | exact BA.out | exact Below.refl _ _ | apply bel_drewN.2 | apply bel_drew.2 | refine Below.setCell ?_ (by first | omega | (simp; done) | (simp; omega)) _ | refine Below.alloc ?_ (by first | omega | (simp; done) | (simp; omega)) _ | refine bel_step (by assumption) (by first | omega | (simp; done) | (simp; omega)) ?_))⟩)
  obtain ⟨n, rfl⟩ := Int.eq_ofNat_of_zero_le (show 0 ≤ tn by omega)
  obtain ⟨bd, rfl⟩ := Int.eq_ofNat_of_zero_le (show 0 ≤ rt by omega)
  obtain ⟨mx, rfl⟩ := Int.eq_ofNat_of_zero_le (show 0 ≤ sz by omega)
  go_enter Try.func6, Try.ntmps6
  go_wp2_with (first
    | (go_at_call 25; refine (awake13 _).mono ?_; rintro e wa ⟨rfl, hba⟩; have BA := hid hba; clear hba)
    | (go_at_call 26; refine (heavy_any _ a len cap z (H.out.below BA.out)).mono ?_; rintro e w' ⟨c, nh, rfl, rfl⟩)
    | (go_at_call 27; refine (graph_new _ n bd mx (by omega) (by omega) (by omega) (by omega) (by omega) (by omega)).mono ?_; rintro e wg ⟨b0, rfl, hg0, hb0, hn0⟩; have G0 := hid hg0; have B0 := hid hb0; have N0 := hid hn0; clear hg0 hb0 hn0)
    | (go_at_call 28; refine (R.graph_new wg n bd mx (by omega) (by omega) (by omega) (by omega) (by omega) (by omega)).mono ?_; rintro e wh ⟨c0, rfl, hg1, hb1, hn1⟩; have G1 := hid hg1; have B1 := hid hb1; have N1 := hid hn1; clear hg1 hb1 hn1))
  · go_ret
    exact ⟨rfl, by (repeat (first | exact BA.out | exact Below.refl _ _ | apply bel_drewN.2 | apply bel_drew.2 | refine Below.setCell ?_ (by first | omega | (simp; done) | (simp; omega)) _ | refine Below.alloc ?_ (by first | omega | (simp; done) | (simp; omega)) _ | refine bel_step (by assumption) (by first | omega | (simp; done) | (simp; omega)) ?_))⟩
  have hD : RDuo w.heap.size n w wh b0.p c0.p b0 c0 (GS.fresh mx bd n) (GS.fresh mx bd n) := by
    have s0 := BA.out.size
    have s1 := B0.out.size
    have s2 := B1.out.size
    simp at s1
    refine ⟨G0.out.chg (S := fun x => wg.heap.size ≤ x) (Chg.of_below B1.out (fun x _ h => h)) (fun x hx h => by have := G0.out.hlt hx; omega), G1.out, bel_step B1.out (by omega) (bel_step B0.out (by simp; omega) (by (repeat (first | exact BA.out | exact Below.refl _ _ | apply bel_drewN.2 | apply bel_drew.2 | refine Below.setCell ?_ (by first | omega | (simp; done) | (simp; omega)) _ | refine Below.alloc ?_ (by first | omega | (simp; done) | (simp; omega)) _ | refine bel_step (by assumption) (by first | omega | (simp; done) | (simp; omega)) ?_)))), Nat.le_refl _, fun x hx => by have := N0.out x hx; simp at this; omega, fun x hx => by have := N1.out x hx; omega, rfl, rfl, fun x hx hy => by have := G0.out.hlt hx; have := N1.out x hy; omega⟩
  have HDU := hid hD
  clear hD
  go_loopw [13] (fun i wr => ∃ (k : Nat) (b : GB) (c : R.GB) (g : GS), k ≤ len ∧ k ≤ 300 ∧ i = .int .i64 k ∧ RDuo w.heap.size n w wr b0.p c0.p b c g g ∧ g.m ≤ k ∧ ∀ s, s < g.n → 0 ≤ g.done s ∧ g.done s ≤ (k : Int)) (fun i _ => len - (intOf i).toNat)
  case atStart => exact ⟨0, b0, c0, _, by omega, by omega, rfl, HDU.out, by simp [GS.fresh], fun s hs => by simp [GS.fresh]⟩
  case round =>
    obtain ⟨k, b, c, g, hk, hk300, rfl, hD, hm, hd⟩ := hrel
    have D := hid hD
    have HD := hid hd
    clear hD hd
    by_cases hgo : k < len ∧ k < 300
    rotate_left
    · obtain ⟨l, hl⟩ : ∃ l, l = g.shape := ⟨_, rfl⟩
      obtain ⟨nw, hnw⟩ : ∃ nw, nw = g.words := ⟨_, rfl⟩
      have HL := hid hl
      have HNW := hid hnw
      clear hl hnw
      by_cases hlt : k < len
      · have h300' : decide ((k : Int) < 300) = false := by simp; omega
        have hnx : ¬ ((k : Int) < 300) := by omega
        have hlt' : (k : Int) < (len : Int) := by omega
        go_wp2_with (first
        | (go_at_call 32; refine (graph_shape_to _ b0.p b g l D.out.pb (D.out.gb.quiet (by (repeat (first | with_reducible exact Chg.refl _ _ | with_reducible apply Chg.drewN | with_reducible apply Chg.drew | with_reducible apply Chg.alloc | (with_reducible refine Chg.setCell ?_ ?_ _; rotate_left; focus (first | (refine Or.inr ?_; first | omega | (simp; done) | (simp; omega)) | exact Or.inl (by assumption) | with_reducible exact Or.inl rfl | exact Or.inl (by simp))) | refine Chg.trans ?_ (Chg.of_below (by with_reducible assumption) (fun k h1 h2 => absurd h1 (by first | omega | (simp; omega)))) | refine Chg.trans ?_ (by with_reducible assumption))))) HL.out.symm).mono ?_; rintro e w2 ⟨A2, k2, rfl, ho2, hc2⟩; have O2 := hid ho2; have C2 := hid hc2; clear ho2 hc2)
        | (go_at_call 33; refine (rgraph_shape_to _ c0.p c g l D.out.pc ((D.out.gc.quiet (by (repeat (first | with_reducible exact Chg.refl _ _ | with_reducible apply Chg.drewN | with_reducible apply Chg.drew | with_reducible apply Chg.alloc | (with_reducible refine Chg.setCell ?_ ?_ _; rotate_left; focus (first | (refine Or.inr ?_; first | omega | (simp; done) | (simp; omega)) | exact Or.inl (by assumption) | with_reducible exact Or.inl rfl | exact Or.inl (by simp))) | refine Chg.trans ?_ (Chg.of_below (by with_reducible assumption) (fun k h1 h2 => absurd h1 (by first | omega | (simp; omega)))) | refine Chg.trans ?_ (by with_reducible assumption))))).quiet C2.out) HL.out.symm).mono ?_; rintro e w3 ⟨A3, k3, rfl, ho3, hc3⟩; have O3 := hid ho3; have C3 := hid hc3; clear ho3 hc3)
        | (go_at_call 31; refine (same13_true _ _ _ l ((intsIn_of O2.out).quiet C3.out) (intsIn_of O3.out) (by have := O2.out.most; omega)).mono ?_; rintro e w4 ⟨rfl, k4, rfl⟩)
        | (go_at_call 34; refine (graph_words_to _ b0.p b g nw D.out.pb (((D.out.gb.quiet (by (repeat (first | with_reducible exact Chg.refl _ _ | with_reducible apply Chg.drewN | with_reducible apply Chg.drew | with_reducible apply Chg.alloc | (with_reducible refine Chg.setCell ?_ ?_ _; rotate_left; focus (first | (refine Or.inr ?_; first | omega | (simp; done) | (simp; omega)) | exact Or.inl (by assumption) | with_reducible exact Or.inl rfl | exact Or.inl (by simp))) | refine Chg.trans ?_ (Chg.of_below (by with_reducible assumption) (fun k h1 h2 => absurd h1 (by first | omega | (simp; omega)))) | refine Chg.trans ?_ (by with_reducible assumption))))).quiet C2.out).quiet (C3.out.trans (by (repeat (first | with_reducible exact Chg.refl _ _ | with_reducible apply Chg.drewN | with_reducible apply Chg.drew | with_reducible apply Chg.alloc | (with_reducible refine Chg.setCell ?_ ?_ _; rotate_left; focus (first | (refine Or.inr ?_; first | omega | (simp; done) | (simp; omega)) | exact Or.inl (by assumption) | with_reducible exact Or.inl rfl | exact Or.inl (by simp))) | refine Chg.trans ?_ (Chg.of_below (by with_reducible assumption) (fun k h1 h2 => absurd h1 (by first | omega | (simp; omega)))) | refine Chg.trans ?_ (by with_reducible assumption)))))) HNW.out.symm).mono ?_; rintro e w5 ⟨rfl, hc5⟩; have C5 := hid hc5; clear hc5)
        | (go_at_call 35; refine (rgraph_words_to _ c0.p c g nw D.out.pc ((((D.out.gc.quiet (by (repeat (first | with_reducible exact Chg.refl _ _ | with_reducible apply Chg.drewN | with_reducible apply Chg.drew | with_reducible apply Chg.alloc | (with_reducible refine Chg.setCell ?_ ?_ _; rotate_left; focus (first | (refine Or.inr ?_; first | omega | (simp; done) | (simp; omega)) | exact Or.inl (by assumption) | with_reducible exact Or.inl rfl | exact Or.inl (by simp))) | refine Chg.trans ?_ (Chg.of_below (by with_reducible assumption) (fun k h1 h2 => absurd h1 (by first | omega | (simp; omega)))) | refine Chg.trans ?_ (by with_reducible assumption))))).quiet C2.out).quiet (C3.out.trans (by (repeat (first | with_reducible exact Chg.refl _ _ | with_reducible apply Chg.drewN | with_reducible apply Chg.drew | with_reducible apply Chg.alloc | (with_reducible refine Chg.setCell ?_ ?_ _; rotate_left; focus (first | (refine Or.inr ?_; first | omega | (simp; done) | (simp; omega)) | exact Or.inl (by assumption) | with_reducible exact Or.inl rfl | exact Or.inl (by simp))) | refine Chg.trans ?_ (Chg.of_below (by with_reducible assumption) (fun k h1 h2 => absurd h1 (by first | omega | (simp; omega)))) | refine Chg.trans ?_ (by with_reducible assumption)))))).quiet C5.out) HNW.out.symm).mono ?_; rintro e w6 ⟨rfl, hc6⟩; have C6 := hid hc6; clear hc6))
        go_ret
        exact ⟨rfl, ((((D.out.quiet (Chg.refl _ _)).quiet C2.out).quiet (C3.out.trans ((Chg.refl _ _).drewN k4))).quiet (C5.out.trans C6.out)).bel⟩
      · obtain rfl : k = len := by omega
        go_wp2_with (first
        | (go_at_call 32; refine (graph_shape_to _ b0.p b g l D.out.pb (D.out.gb.quiet (by (repeat (first | with_reducible exact Chg.refl _ _ | with_reducible apply Chg.drewN | with_reducible apply Chg.drew | with_reducible apply Chg.alloc | (with_reducible refine Chg.setCell ?_ ?_ _; rotate_left; focus (first | (refine Or.inr ?_; first | omega | (simp; done) | (simp; omega)) | exact Or.inl (by assumption) | with_reducible exact Or.inl rfl | exact Or.inl (by simp))) | refine Chg.trans ?_ (Chg.of_below (by with_reducible assumption) (fun k h1 h2 => absurd h1 (by first | omega | (simp; omega)))) | refine Chg.trans ?_ (by with_reducible assumption))))) HL.out.symm).mono ?_; rintro e w2 ⟨A2, k2, rfl, ho2, hc2⟩; have O2 := hid ho2; have C2 := hid hc2; clear ho2 hc2)
        | (go_at_call 33; refine (rgraph_shape_to _ c0.p c g l D.out.pc ((D.out.gc.quiet (by (repeat (first | with_reducible exact Chg.refl _ _ | with_reducible apply Chg.drewN | with_reducible apply Chg.drew | with_reducible apply Chg.alloc | (with_reducible refine Chg.setCell ?_ ?_ _; rotate_left; focus (first | (refine Or.inr ?_; first | omega | (simp; done) | (simp; omega)) | exact Or.inl (by assumption) | with_reducible exact Or.inl rfl | exact Or.inl (by simp))) | refine Chg.trans ?_ (Chg.of_below (by with_reducible assumption) (fun k h1 h2 => absurd h1 (by first | omega | (simp; omega)))) | refine Chg.trans ?_ (by with_reducible assumption))))).quiet C2.out) HL.out.symm).mono ?_; rintro e w3 ⟨A3, k3, rfl, ho3, hc3⟩; have O3 := hid ho3; have C3 := hid hc3; clear ho3 hc3)
        | (go_at_call 31; refine (same13_true _ _ _ l ((intsIn_of O2.out).quiet C3.out) (intsIn_of O3.out) (by have := O2.out.most; omega)).mono ?_; rintro e w4 ⟨rfl, k4, rfl⟩)
        | (go_at_call 34; refine (graph_words_to _ b0.p b g nw D.out.pb (((D.out.gb.quiet (by (repeat (first | with_reducible exact Chg.refl _ _ | with_reducible apply Chg.drewN | with_reducible apply Chg.drew | with_reducible apply Chg.alloc | (with_reducible refine Chg.setCell ?_ ?_ _; rotate_left; focus (first | (refine Or.inr ?_; first | omega | (simp; done) | (simp; omega)) | exact Or.inl (by assumption) | with_reducible exact Or.inl rfl | exact Or.inl (by simp))) | refine Chg.trans ?_ (Chg.of_below (by with_reducible assumption) (fun k h1 h2 => absurd h1 (by first | omega | (simp; omega)))) | refine Chg.trans ?_ (by with_reducible assumption))))).quiet C2.out).quiet (C3.out.trans (by (repeat (first | with_reducible exact Chg.refl _ _ | with_reducible apply Chg.drewN | with_reducible apply Chg.drew | with_reducible apply Chg.alloc | (with_reducible refine Chg.setCell ?_ ?_ _; rotate_left; focus (first | (refine Or.inr ?_; first | omega | (simp; done) | (simp; omega)) | exact Or.inl (by assumption) | with_reducible exact Or.inl rfl | exact Or.inl (by simp))) | refine Chg.trans ?_ (Chg.of_below (by with_reducible assumption) (fun k h1 h2 => absurd h1 (by first | omega | (simp; omega)))) | refine Chg.trans ?_ (by with_reducible assumption)))))) HNW.out.symm).mono ?_; rintro e w5 ⟨rfl, hc5⟩; have C5 := hid hc5; clear hc5)
        | (go_at_call 35; refine (rgraph_words_to _ c0.p c g nw D.out.pc ((((D.out.gc.quiet (by (repeat (first | with_reducible exact Chg.refl _ _ | with_reducible apply Chg.drewN | with_reducible apply Chg.drew | with_reducible apply Chg.alloc | (with_reducible refine Chg.setCell ?_ ?_ _; rotate_left; focus (first | (refine Or.inr ?_; first | omega | (simp; done) | (simp; omega)) | exact Or.inl (by assumption) | with_reducible exact Or.inl rfl | exact Or.inl (by simp))) | refine Chg.trans ?_ (Chg.of_below (by with_reducible assumption) (fun k h1 h2 => absurd h1 (by first | omega | (simp; omega)))) | refine Chg.trans ?_ (by with_reducible assumption))))).quiet C2.out).quiet (C3.out.trans (by (repeat (first | with_reducible exact Chg.refl _ _ | with_reducible apply Chg.drewN | with_reducible apply Chg.drew | with_reducible apply Chg.alloc | (with_reducible refine Chg.setCell ?_ ?_ _; rotate_left; focus (first | (refine Or.inr ?_; first | omega | (simp; done) | (simp; omega)) | exact Or.inl (by assumption) | with_reducible exact Or.inl rfl | exact Or.inl (by simp))) | refine Chg.trans ?_ (Chg.of_below (by with_reducible assumption) (fun k h1 h2 => absurd h1 (by first | omega | (simp; omega)))) | refine Chg.trans ?_ (by with_reducible assumption)))))).quiet C5.out) HNW.out.symm).mono ?_; rintro e w6 ⟨rfl, hc6⟩; have C6 := hid hc6; clear hc6))
        go_ret
        exact ⟨rfl, ((((D.out.quiet (Chg.refl _ _)).quiet C2.out).quiet (C3.out.trans ((Chg.refl _ _).drewN k4))).quiet (C5.out.trans C6.out)).bel⟩
    obtain ⟨hlt, h300⟩ := hgo
    have hlt' : (k : Int) < (len : Int) := by omega
    have h300' : decide ((k : Int) < 300) = true := by simp; omega
    have hnx : ((k : Int) < 300) := by omega
    obtain ⟨bs, off, ha, hb, hl, d0, d1, d2, d3, d4, d5⟩ := acts_cells (H.out.below D.out.bel) hlt
    have hbs : bs < w.heap.size := by
      rcases H.out with h | ⟨b', o', h1, h2, _⟩
      · omega
      · rw [ha] at h1; injection h1 with h1; injection h1 with h1; omega
    subst ha
    have hK := run_kept g (z k 0) ⟨z k 1, z k 2, z k 3, z k 4, z k 5⟩
    obtain ⟨R, hR⟩ : ∃ R, R = g.run (z k 0) ⟨z k 1, z k 2, z k 3, z k 4, z k 5⟩ := ⟨_, rfl⟩
    rw [← hR] at hK
    obtain ⟨g2, an⟩ := R
    have HR := hid hR
    have HK := hid hK
    have offG := hid (D.out.kept hbs).1
    have offH := hid (D.out.kept hbs).2
    clear hR hK
    go_upto_region 14 with fail
    go_region_held3 (fun wX => wX.cell? ⟨bs, off + k * 6, none⟩ = some (.int .i64 (z k 0)) ∧ wX.cell? ⟨bs, off + k * 6 + 1, none⟩ = some (.int .i64 (z k 1)) ∧ wX.cell? ⟨bs, off + k * 6 + 2, none⟩ = some (.int .i64 (z k 2)) ∧ wX.cell? ⟨bs, off + k * 6 + 3, none⟩ = some (.int .i64 (z k 3)) ∧ wX.cell? ⟨bs, off + k * 6 + 4, none⟩ = some (.int .i64 (z k 4)) ∧ wX.cell? ⟨bs, off + k * 6 + 5, none⟩ = some (.int .u64 (z k 5)))
      (first | with_reducible exact ⟨d0, d1, d2, d3, d4, d5⟩ | with_reducible exact ⟨x0, x1, x2, x3, x4, x5⟩ | with_reducible exact ⟨y0, y1, y2, y3, y4, y5⟩ | go_keep)
      (first
        | (go_at_call 29; refine (graph_do_to _ b0.p b g g2 an (z k 0) (z k 1) (z k 2) (z k 3) (z k 4) (z k 5) D.out.pb (D.out.gb.quiet (by (repeat (first | with_reducible exact Chg.refl _ _ | with_reducible apply Chg.drewN | with_reducible apply Chg.drew | with_reducible apply Chg.alloc | (with_reducible refine Chg.setCell ?_ ?_ _; rotate_left; focus (first | (refine Or.inr ?_; first | omega | (simp; done) | (simp; omega)) | exact Or.inl (by assumption) | with_reducible exact Or.inl rfl | exact Or.inl (by simp))) | refine Chg.trans ?_ (Chg.of_below (by with_reducible assumption) (fun k h1 h2 => absurd h1 (by first | omega | (simp; omega)))) | refine Chg.trans ?_ (by with_reducible assumption))))) (fun s hs => (by have := HD.out s hs; omega)) (by omega) HR.out.symm).mono ?_; rintro e w4 ⟨rfl, b4, hs4⟩; have D4 := hid (RDuo.left (D.out.quiet (by (repeat (first | with_reducible exact Chg.refl _ _ | with_reducible apply Chg.drewN | with_reducible apply Chg.drew | with_reducible apply Chg.alloc | (with_reducible refine Chg.setCell ?_ ?_ _; rotate_left; focus (first | (refine Or.inr ?_; first | omega | (simp; done) | (simp; omega)) | exact Or.inl (by assumption) | with_reducible exact Or.inl rfl | exact Or.inl (by simp))) | refine Chg.trans ?_ (Chg.of_below (by with_reducible assumption) (fun k h1 h2 => absurd h1 (by first | omega | (simp; omega)))) | refine Chg.trans ?_ (by with_reducible assumption))))) hs4); have k4 : Chg (b.has g.n g.m) wr w4 := Chg.next (by (repeat (first | with_reducible exact Chg.refl _ _ | with_reducible apply Chg.drewN | with_reducible apply Chg.drew | with_reducible apply Chg.alloc | (with_reducible refine Chg.setCell ?_ ?_ _; rotate_left; focus (first | (refine Or.inr ?_; first | omega | (simp; done) | (simp; omega)) | exact Or.inl (by assumption) | with_reducible exact Or.inl rfl | exact Or.inl (by simp))) | refine Chg.trans ?_ (Chg.of_below (by with_reducible assumption) (fun k h1 h2 => absurd h1 (by first | omega | (simp; omega)))) | refine Chg.trans ?_ (by with_reducible assumption)))) hs4.chg (fun i hi h => h); have x0 := (k4.cell (o := off + k * 6) hb offG.out).trans d0; have x1 := (k4.cell (o := off + k * 6 + 1) hb offG.out).trans d1; have x2 := (k4.cell (o := off + k * 6 + 2) hb offG.out).trans d2; have x3 := (k4.cell (o := off + k * 6 + 3) hb offG.out).trans d3; have x4 := (k4.cell (o := off + k * 6 + 4) hb offG.out).trans d4; have x5 := (k4.cell (o := off + k * 6 + 5) hb offG.out).trans d5; have hb4 := Nat.lt_of_lt_of_le hb k4.size; clear hs4 k4)
        | (go_at_call 30; refine (rgraph_do_to _ c0.p c g g2 an (z k 0) (z k 1) (z k 2) (z k 3) (z k 4) (z k 5) D4.out.pc (D4.out.gc.quiet (by (repeat (first | with_reducible exact Chg.refl _ _ | with_reducible apply Chg.drewN | with_reducible apply Chg.drew | with_reducible apply Chg.alloc | (with_reducible refine Chg.setCell ?_ ?_ _; rotate_left; focus (first | (refine Or.inr ?_; first | omega | (simp; done) | (simp; omega)) | exact Or.inl (by assumption) | with_reducible exact Or.inl rfl | exact Or.inl (by simp))) | refine Chg.trans ?_ (Chg.of_below (by with_reducible assumption) (fun k h1 h2 => absurd h1 (by first | omega | (simp; omega)))) | refine Chg.trans ?_ (by with_reducible assumption))))) (fun s hs => (by have := HD.out s hs; omega)) (by omega) HR.out.symm).mono ?_; rintro e w5 ⟨rfl, c5, hs5⟩; have D5 := hid (RDuo.right (D4.out.quiet (by (repeat (first | with_reducible exact Chg.refl _ _ | with_reducible apply Chg.drewN | with_reducible apply Chg.drew | with_reducible apply Chg.alloc | (with_reducible refine Chg.setCell ?_ ?_ _; rotate_left; focus (first | (refine Or.inr ?_; first | omega | (simp; done) | (simp; omega)) | exact Or.inl (by assumption) | with_reducible exact Or.inl rfl | exact Or.inl (by simp))) | refine Chg.trans ?_ (Chg.of_below (by with_reducible assumption) (fun k h1 h2 => absurd h1 (by first | omega | (simp; omega)))) | refine Chg.trans ?_ (by with_reducible assumption))))) hs5); have k5 : Chg (c.has g.n g.m) w4 w5 := Chg.next (by (repeat (first | with_reducible exact Chg.refl _ _ | with_reducible apply Chg.drewN | with_reducible apply Chg.drew | with_reducible apply Chg.alloc | (with_reducible refine Chg.setCell ?_ ?_ _; rotate_left; focus (first | (refine Or.inr ?_; first | omega | (simp; done) | (simp; omega)) | exact Or.inl (by assumption) | with_reducible exact Or.inl rfl | exact Or.inl (by simp))) | refine Chg.trans ?_ (Chg.of_below (by with_reducible assumption) (fun k h1 h2 => absurd h1 (by first | omega | (simp; omega)))) | refine Chg.trans ?_ (by with_reducible assumption)))) hs5.chg (fun i hi h => h); have y0 := (k5.cell (o := off + k * 6) hb4 offH.out).trans x0; have y1 := (k5.cell (o := off + k * 6 + 1) hb4 offH.out).trans x1; have y2 := (k5.cell (o := off + k * 6 + 2) hb4 offH.out).trans x2; have y3 := (k5.cell (o := off + k * 6 + 3) hb4 offH.out).trans x3; have y4 := (k5.cell (o := off + k * 6 + 4) hb4 offH.out).trans x4; have y5 := (k5.cell (o := off + k * 6 + 5) hb4 offH.out).trans x5; clear hs5 k5))
    go_wp2_with fail
    go_roundw
    case rel =>
      obtain ⟨_, _, hn, hm2, hd2⟩ := HK.out
      refine ⟨k + 1, b4, c5, g2, by omega, by omega, by go_num, D5.out, by omega, fun s hs => ?_⟩
      have h1 := HD.out s (by omega)
      have h2 := hd2 s
      rcases h2 with h2 | h2 <;> rw [h2] <;> constructor <;> omega
    case measure => simp [intOf]; omega
end Go.Proofs.Ytcdllelbdcacjaa
