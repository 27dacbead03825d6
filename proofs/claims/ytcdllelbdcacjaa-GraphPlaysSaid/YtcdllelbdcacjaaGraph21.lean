/-
  Graphs (layer 13): GraphApart.
-/
import Derived.Test.YtcdllelbdcacjaaGraph18
import Derived.Test.YtcdllelbdcacjaaGraph20
set_option linter.unusedVariables false
set_option linter.unusedSimpArgs false
namespace Go.Proofs.Ytcdllelbdcacjaa
open Go.RowKit Go.Maps

/-- two graphs, one beside the other -/
structure Duo (B : Nat) (a w : World) (p q : Nat) (b c : GB) (g h : GS) : Prop where
  gb : GAt w b g
  gc : GAt w c h
  lb : Low B a w b g
  lc : Low B a w c h
  pb : b.p = p
  pc : c.p = q
  apart : ∀ x, b.has g.n g.m x → c.has h.n h.m x → False

theorem GAt.hlt {w : World} {b : GB} {g : GS} (h : GAt w b g) {x : Nat} (hx : b.has g.n g.m x) : x < w.heap.size := by
  obtain ⟨a, ha⟩ := hx
  exact h.lt a x ha
theorem Duo.quiet {B : Nat} {a w w1 : World} {p q : Nat} {b c : GB} {g h : GS} (d : Duo B a w p q b c g h) (k : Chg (fun _ => False) w w1) : Duo B a w1 p q b c g h :=
  ⟨d.gb.quiet k, d.gc.quiet k, d.lb.quiet k, d.lc.quiet k, d.pb, d.pc, d.apart⟩
theorem Duo.left {B : Nat} {a w w1 : World} {p q : Nat} {b b1 c : GB} {g g1 h : GS} (d : Duo B a w p q b c g h) (s : Step w w1 b b1 g g1) : Duo B a w1 p q b1 c g1 h :=
  ⟨s.at_, d.gc.chg s.chg (fun x hx hb => d.apart x hb hx), d.lb.step s, d.lc.chg s.chg (fun x _ hx => d.lb.low x hx), s.p.trans d.pb, d.pc, fun x hb hc => by
    rcases s.own x hb with h1 | h1
    · exact d.apart x h1 hc
    · have := d.gc.hlt hc; omega⟩
theorem Duo.right {B : Nat} {a w w1 : World} {p q : Nat} {b c c1 : GB} {g h h1 : GS} (d : Duo B a w p q b c g h) (s : Step w w1 c c1 h h1) : Duo B a w1 p q b c1 g h1 :=
  ⟨d.gb.chg s.chg (fun x hx hc => d.apart x hx hc), s.at_, d.lb.chg s.chg (fun x _ hx => d.lc.low x hx), d.lc.step s, d.pb, s.p.trans d.pc, fun x hb hc => by
    rcases s.own x hc with h2 | h2
    · exact d.apart x hb h2
    · have := d.gb.hlt hb; omega⟩
/-- a block that came in is kept -/
theorem Duo.kept {B : Nat} {a w : World} {p q : Nat} {b c : GB} {g h : GS} (d : Duo B a w p q b c g h) {x : Nat} (hx : x < B) : ¬ b.has g.n g.m x ∧ ¬ c.has h.n h.m x :=
  ⟨fun e => by have := d.lb.low x e; omega, fun e => by have := d.lc.low x e; omega⟩

abbrev Ops (w : World) (a : Option Addr) (len : Nat) (z : Nat → Nat → Int) : Prop := IsTab [.i64, .i64, .i64, .i64, .u64] w a len z
theorem ops_cells {w : World} {a : Option Addr} {len : Nat} {z : Nat → Nat → Int} (h : Ops w a len z) {i : Nat} (hi : i < len) : ∃ b off : Nat, a = some ⟨b, off, none⟩ ∧ b < w.heap.size ∧ len ≤ 9223372036854775807 ∧
    w.cell? ⟨b, off + i * 5, none⟩ = some (.int .i64 (z i 0)) ∧ w.cell? ⟨b, off + i * 5 + 1, none⟩ = some (.int .i64 (z i 1)) ∧ w.cell? ⟨b, off + i * 5 + 2, none⟩ = some (.int .i64 (z i 2)) ∧
    w.cell? ⟨b, off + i * 5 + 3, none⟩ = some (.int .i64 (z i 3)) ∧ w.cell? ⟨b, off + i * 5 + 4, none⟩ = some (.int .u64 (z i 4)) := by
  rcases h with h | ⟨b, off, rfl, hb, h0, hl, hc⟩
  · omega
  · exact ⟨b, off, rfl, hb, hl, (hc i hi 0 _ rfl).1, (hc i hi 1 _ rfl).1, (hc i hi 2 _ rfl).1, (hc i hi 3 _ rfl).1, (hc i hi 4 _ rfl).1⟩

/-- what stays bounded -/
structure Tame (g : GS) (k m : Nat) : Prop where
  n : g.n = 2
  m : g.m ≤ m
  d : ∀ s, s < g.n → 0 ≤ g.done s ∧ g.done s ≤ (k : Int)
theorem Tame.run {g : GS} {k m : Nat} (h : Tame g k m) (t : Int) (o : OpS) : Tame (g.run t o).1 (k + 1) (m + 1) := by
  obtain ⟨_, _, h3, h4, h5⟩ := run_kept g t o
  refine ⟨h3.trans h.n, by have := h.m; omega, fun s hs => ?_⟩
  rw [h3] at hs
  have := h.d s hs
  rcases h5 s with e | e <;> rw [e] <;> constructor <;> omega
theorem Tame.up {g : GS} {k m k' m' : Nat} (h : Tame g k m) (hk : k ≤ k') (hm : m ≤ m') : Tame g k' m' :=
  ⟨h.n, Nat.le_trans h.m hm, fun s hs => by have := h.d s hs; omega⟩
theorem Tame.done {g : GS} {k m : Nat} (h : Tame g k m) (hk : k ≤ 1000000) : ∀ s, s < g.n → 0 ≤ g.done s ∧ g.done s ≤ 1000000 := fun s hs => by have := h.d s hs; omega
theorem tame_fresh (max bound : Nat) : Tame (GS.fresh max bound 2) 0 0 := ⟨rfl, Nat.le_refl _, fun s _ => ⟨by simp [GS.fresh], by simp [GS.fresh]⟩⟩

set_option maxRecDepth 100000 in
set_option maxHeartbeats 8000000 in
theorem graphApart (a1 : Option Addr) (len1 cap1 : Nat) (z1 : Nat → Nat → Int) (a2 : Option Addr) (len2 cap2 : Nat) (z2 : Nat → Nat → Int) (w : World) (w1 : Ops w a1 len1 z1) (w2 : Ops w a2 len2 z2) :
    Calls Try.prog 8 #[.slice a1 len1 cap1, .slice a2 len2 cap2] w fun e w' => e = .returned (.bool true) ∧ Below w.heap.size w w' := by
  have H1 := hid w1
  have H2 := hid w2
  clear w1 w2
  have tok1 : True := trivial
  go_enter Try.func8, Try.ntmps8
  go_upto_block 0 with (first
    | (go_at_call 25; refine (awake13 _).mono ?_; rintro e wa ⟨rfl, hba⟩; have BA := hid hba; clear hba)
    | (go_at_call 27; have := G0; refine (graph_new wg 2 8 40 (by omega) (by omega) (by omega) (by omega) (by omega) (by omega)).mono ?_; rintro e wh ⟨c0, rfl, hg1, hb1, hn1⟩; have G1 := hid hg1; have B1 := hid hb1; have N1 := hid hn1; clear hg1 hb1 hn1 this)
    | (go_at_call 27; refine (graph_new wa 2 8 40 (by omega) (by omega) (by omega) (by omega) (by omega) (by omega)).mono ?_; rintro e wg ⟨b0, rfl, hg0, hb0, hn0⟩; have G0 := hid hg0; have B0 := hid hb0; have N0 := hid hn0; clear hg0 hb0 hn0))
  have hD : Duo w.heap.size w wh b0.p c0.p b0 c0 (GS.fresh 40 8 2) (GS.fresh 40 8 2) := by
    have s0 := BA.out.size
    have s1 := B0.out.size
    have s2 := B1.out.size
    refine ⟨G0.out.chg (S := fun x => wg.heap.size ≤ x) (Chg.of_below B1.out (fun x _ h => h)) (fun x hx h => by have := G0.out.hlt hx; omega), G1.out, ⟨bel_step B1.out (by omega) (bel_step B0.out (by omega) BA.out), fun x hx => by have := N0.out x hx; omega, Nat.le_refl _⟩, ⟨bel_step B1.out (by omega) (bel_step B0.out (by omega) BA.out), fun x hx => by have := N1.out x hx; omega, Nat.le_refl _⟩, rfl, rfl, fun x hx hy => by have := G0.out.hlt hx; have := N1.out x hy; omega⟩
  have HDU := hid hD
  clear hD
  go_wp2_with fail
  go_loopw [9] (fun i wr => ∃ (k : Nat) (b c : GB) (g h : GS) (f : Int → Int), k ≤ len1 ∧ k ≤ 100 ∧ i = .int .i64 k ∧ Duo w.heap.size w wr b0.p c0.p b c g h ∧ Iso g h f ∧ Tame g k (2 * k) ∧ Tame h (2 * k) (2 * k)) (fun i _ => len1 - (intOf i).toNat)
  case atStart => exact ⟨0, b0, c0, _, _, _, by omega, by omega, rfl, HDU.out, iso_fresh _ _ _, tame_fresh _ _, tame_fresh _ _⟩
  case round =>
    obtain ⟨k, b, c, g, h, f, hk, hk100, rfl, hd, hi, tg, th⟩ := hrel
    have D := hid hd
    have I := hid hi
    have TG := hid tg
    have TH := hid th
    clear hd hi tg th
    by_cases hlt : k < len1
    rotate_left
    · obtain rfl : k = len1 := by omega
      go_wp2_with fail
      go_ret
      exact ⟨rfl, D.out.lb.bel⟩
    by_cases h100 : k < 100
    rotate_left
    · have h100' : decide ((k : Int) < 100) = false := by simp; omega
      have hnx : ¬ ((k : Int) < 100) := by omega
      have hlt' : (k : Int) < (len1 : Int) := by omega
      go_wp2_with fail
      go_ret
      exact ⟨rfl, D.out.lb.bel⟩
    have hlt' : (k : Int) < (len1 : Int) := by omega
    have h100' : decide ((k : Int) < 100) = true := by simp; omega
    have hnx : ((k : Int) < 100) := by omega
    obtain ⟨bs, off, ha, hb, hl, c0', c1, c2, c3, c4⟩ := ops_cells (H1.out.below D.out.lb.bel) hlt
    have hbs : bs < w.heap.size := by
      rcases H1.out with h | ⟨b', o', h1, h2, _⟩
      · omega
      · rw [ha] at h1; injection h1 with h1; injection h1 with h1; omega
    subst ha
    have KEEP := hid (fun (x : Nat) (hx : x < w.heap.size) => D.out.kept hx)
    -- what the other thread does
    have hcases : (¬ k < len2) ∨ (k < len2 ∧ z2 k 0 = 13) ∨ (k < len2 ∧ z2 k 0 ≠ 13) := by
      by_cases e : k < len2
      · by_cases e2 : z2 k 0 = 13
        · exact .inr (.inl ⟨e, e2⟩)
        · exact .inr (.inr ⟨e, e2⟩)
      · exact .inl e
    rcases hcases with e2 | ⟨e2, e3⟩ | ⟨e2, e3⟩
    have hn2 : ¬ ((k : Int) < (len2 : Int)) := by omega
    have hn3 : decide ((k : Int) < (len2 : Int)) = false := by simp; omega
    focus (go_upto_region 12 with fail)
    have hq : ∃ (c' : GB) (h' : GS), Duo w.heap.size w wr b0.p c0.p b c' g h' ∧ Iso g h' f ∧ Tame h' (2 * k + 1) (2 * k + 1) := ⟨c, h, D.out, I.out, TH.out.up (by omega) (by omega)⟩
    obtain ⟨c', h', hd2, hi2, ht2⟩ := hq
    have hbw : bs < wr.heap.size := hb
    obtain ⟨wq, hwq⟩ : ∃ x, x = wr := ⟨_, rfl⟩
    subst hwq
    clear hn2 hn3 e2
    have d0 := c0'
    have d1 := c1
    have d2 := c2
    have d3 := c3
    have d4 := c4
    clear c0' c1 c2 c3 c4 D I TH KEEP hb
    rotate_left
    obtain ⟨bt, ot, ha2, hb2, hl2, f0, f1, f2, f3, f4⟩ := ops_cells (H2.out.below D.out.lb.bel) e2
    subst ha2
    rw [e3] at f0
    have hn2 : ((k : Int) < (len2 : Int)) := by omega
    focus (go_upto_region 12 with fail)
    have hq : ∃ (c' : GB) (h' : GS), Duo w.heap.size w wr b0.p c0.p b c' g h' ∧ Iso g h' f ∧ Tame h' (2 * k + 1) (2 * k + 1) := ⟨c, h, D.out, I.out, TH.out.up (by omega) (by omega)⟩
    obtain ⟨c', h', hd2, hi2, ht2⟩ := hq
    have hbw : bs < wr.heap.size := hb
    clear hn2 e2 e3 f0 f1 f2 f3 f4 hl2 hb2
    clear H2
    obtain ⟨wq, hwq⟩ : ∃ x, x = wr := ⟨_, rfl⟩
    subst hwq
    have d0 := c0'
    have d1 := c1
    have d2 := c2
    have d3 := c3
    have d4 := c4
    clear c0' c1 c2 c3 c4 D I TH KEEP hb
    rotate_left
    obtain ⟨bt, ot, ha2, hb2, hl2, f0, f1, f2, f3, f4⟩ := ops_cells (H2.out.below D.out.lb.bel) e2
    subst ha2
    have hn2 : ((k : Int) < (len2 : Int)) := by omega
    have hne : (z2 k 0 != 13) = true := ne_true_of_ne e3
    have hrun := I.out.run1 TH.out.n ⟨z2 k 0, z2 k 1, z2 k 2, z2 k 3, z2 k 4⟩ e3
    have htr := TH.out.run 1 ⟨z2 k 0, z2 k 1, z2 k 2, z2 k 3, z2 k 4⟩
    obtain ⟨R, hR⟩ : ∃ R, R = h.run 1 ⟨z2 k 0, z2 k 1, z2 k 2, z2 k 3, z2 k 4⟩ := ⟨_, rfl⟩
    rw [← hR] at hrun htr
    have HR := hid hR
    have HRUN := hid hrun
    have HTR := hid htr
    clear hR hrun htr
    revert f0 f1 f2 f3 f4 HR hne e3
    generalize z2 k 0 = y0
    generalize z2 k 1 = y1
    generalize z2 k 2 = y2
    generalize z2 k 3 = y3
    generalize z2 k 4 = y4
    intro e3 f0 f1 f2 f3 f4 hne HR
    focus (go_upto_region 12 with (go_at_call 29; refine (graph_do_to _ c0.p c h R.1 R.2 1 y0 y1 y2 y3 y4 D.out.pc (D.out.gc.quiet (by (repeat (first | with_reducible exact Chg.refl _ _ | with_reducible apply Chg.drewN | with_reducible apply Chg.drew | with_reducible apply Chg.alloc | (with_reducible refine Chg.setCell ?_ ?_ _; rotate_left; focus (first | (refine Or.inr ?_; first | omega | (simp; done) | (simp; omega)) | exact Or.inl (by assumption) | with_reducible exact Or.inl rfl | exact Or.inl (by simp))) | refine Chg.trans ?_ (Chg.of_below (by with_reducible assumption) (fun k h1 h2 => absurd h1 (by first | omega | (simp; omega)))) | refine Chg.trans ?_ (by with_reducible assumption))))) (TH.out.done (by omega)) (by have := TH.out.m; omega) HR.out.symm).mono ?_; rintro e w3 ⟨rfl, c3', hs3⟩; have S3 := hid hs3; clear hs3))
    have hq : ∃ (c' : GB) (h' : GS), Duo w.heap.size w w3 b0.p c0.p b c' g h' ∧ Iso g h' f ∧ Tame h' (2 * k + 1) (2 * k + 1) := ⟨c3', R.1, (D.out.quiet (by (repeat (first | with_reducible exact Chg.refl _ _ | with_reducible apply Chg.drewN | with_reducible apply Chg.drew | with_reducible apply Chg.alloc | (with_reducible refine Chg.setCell ?_ ?_ _; rotate_left; focus (first | (refine Or.inr ?_; first | omega | (simp; done) | (simp; omega)) | exact Or.inl (by assumption) | with_reducible exact Or.inl rfl | exact Or.inl (by simp))) | refine Chg.trans ?_ (Chg.of_below (by with_reducible assumption) (fun k h1 h2 => absurd h1 (by first | omega | (simp; omega)))) | refine Chg.trans ?_ (by with_reducible assumption))))).right S3.out, HRUN.out, HTR.out⟩
    obtain ⟨c', h', hd2, hi2, ht2⟩ := hq
    have kc := KEEP.out bs hbs
    have hc3 := S3.out.chg
    have d0 := (hc3.cell (o := off + k * 5) hb kc.2).trans c0'
    have d1 := (hc3.cell (o := off + k * 5 + 1) hb kc.2).trans c1
    have d2 := (hc3.cell (o := off + k * 5 + 2) hb kc.2).trans c2
    have d3 := (hc3.cell (o := off + k * 5 + 3) hb kc.2).trans c3
    have d4 := (hc3.cell (o := off + k * 5 + 4) hb kc.2).trans c4
    have hbw : bs < w3.heap.size := Nat.lt_of_lt_of_le hb hc3.size
    clear hn2 e2 e3 f0 f1 f2 f3 f4 hl2 hb2 hne HR HRUN HTR H2 kc hc3 c0' c1 c2 c3 c4 D I TH S3 KEEP hb
    obtain ⟨wq, hwq⟩ : ∃ x, x = w3 := ⟨_, rfl⟩
    subst hwq
    rotate_left
    all_goals (
      have D2 := hid hd2
      have I2 := hid hi2
      have T2 := hid ht2
      clear hd2 hi2 ht2
      by_cases e13 : z1 k 0 = 13
      · rw [e13] at d0
        go_wp2_with fail
        go_roundw
        case rel => exact ⟨k + 1, b, c', g, h', f, by omega, by omega, by go_num, D2.out, I2.out, TG.out.up (by omega) (by omega), T2.out.up (by omega) (by omega)⟩
        case measure => simp [intOf]; omega
      · have hne1 : (z1 k 0 == 13) = false := eq_false_of_ne e13
        have hr0 := I2.out.run0 TG.out.n T2.out.n ⟨z1 k 0, z1 k 1, z1 k 2, z1 k 3, z1 k 4⟩ e13
        have tg2 := TG.out.run 0 ⟨z1 k 0, z1 k 1, z1 k 2, z1 k 3, z1 k 4⟩
        have th2 := T2.out.run 0 ⟨z1 k 0, z1 k 1, z1 k 2, z1 k 3, z1 k 4⟩
        obtain ⟨he, f', hi3⟩ := hr0
        obtain ⟨R, hR⟩ : ∃ R, R = g.run 0 ⟨z1 k 0, z1 k 1, z1 k 2, z1 k 3, z1 k 4⟩ := ⟨_, rfl⟩
        obtain ⟨Q, hQ⟩ : ∃ Q, Q = h'.run 0 ⟨z1 k 0, z1 k 1, z1 k 2, z1 k 3, z1 k 4⟩ := ⟨_, rfl⟩
        rw [← hR, ← hQ] at he hi3
        rw [← hR] at tg2
        rw [← hQ] at th2
        obtain ⟨g2, an⟩ := R
        obtain ⟨h2, an2⟩ := Q
        simp only at he
        subst he
        have HRG := hid hR
        have HRH := hid hQ
        have I3 := hid hi3
        have TG2 := hid tg2
        have TH2 := hid th2
        clear hR hQ hi3 tg2 th2
        have offG := hid (D2.out.kept hbs).1
        have offH := hid (D2.out.kept hbs).2
        go_upto_region 13 with fail
        go_region_held3 (fun wX => wX.cell? ⟨bs, off + k * 5, none⟩ = some (.int .i64 (z1 k 0)) ∧ wX.cell? ⟨bs, off + k * 5 + 1, none⟩ = some (.int .i64 (z1 k 1)) ∧ wX.cell? ⟨bs, off + k * 5 + 2, none⟩ = some (.int .i64 (z1 k 2)) ∧ wX.cell? ⟨bs, off + k * 5 + 3, none⟩ = some (.int .i64 (z1 k 3)) ∧ wX.cell? ⟨bs, off + k * 5 + 4, none⟩ = some (.int .u64 (z1 k 4)))
          (first | with_reducible exact ⟨d0, d1, d2, d3, d4⟩ | with_reducible exact ⟨x0, x1, x2, x3, x4⟩ | with_reducible exact ⟨y0, y1, y2, y3, y4⟩ | go_keep)
          (first
            | (go_at_call_of 29 (Value.pointer (some ⟨b0.p, 0, none⟩)); refine (graph_do_to _ b0.p b g g2 an2 0 (z1 k 0) (z1 k 1) (z1 k 2) (z1 k 3) (z1 k 4) D2.out.pb (D2.out.gb.quiet (by (repeat (first | with_reducible exact Chg.refl _ _ | with_reducible apply Chg.drewN | with_reducible apply Chg.drew | with_reducible apply Chg.alloc | (with_reducible refine Chg.setCell ?_ ?_ _; rotate_left; focus (first | (refine Or.inr ?_; first | omega | (simp; done) | (simp; omega)) | exact Or.inl (by assumption) | with_reducible exact Or.inl rfl | exact Or.inl (by simp))) | refine Chg.trans ?_ (Chg.of_below (by with_reducible assumption) (fun k h1 h2 => absurd h1 (by first | omega | (simp; omega)))) | refine Chg.trans ?_ (by with_reducible assumption))))) (TG.out.done (by omega)) (by have := TG.out.m; omega) HRG.out.symm).mono ?_; rintro e w4 ⟨rfl, b4, hs4⟩; have D4 := hid (Duo.left (D2.out.quiet (by (repeat (first | with_reducible exact Chg.refl _ _ | with_reducible apply Chg.drewN | with_reducible apply Chg.drew | with_reducible apply Chg.alloc | (with_reducible refine Chg.setCell ?_ ?_ _; rotate_left; focus (first | (refine Or.inr ?_; first | omega | (simp; done) | (simp; omega)) | exact Or.inl (by assumption) | with_reducible exact Or.inl rfl | exact Or.inl (by simp))) | refine Chg.trans ?_ (Chg.of_below (by with_reducible assumption) (fun k h1 h2 => absurd h1 (by first | omega | (simp; omega)))) | refine Chg.trans ?_ (by with_reducible assumption))))) hs4); have k4 : Chg (b.has g.n g.m) wq w4 := Chg.next (by (repeat (first | with_reducible exact Chg.refl _ _ | with_reducible apply Chg.drewN | with_reducible apply Chg.drew | with_reducible apply Chg.alloc | (with_reducible refine Chg.setCell ?_ ?_ _; rotate_left; focus (first | (refine Or.inr ?_; first | omega | (simp; done) | (simp; omega)) | exact Or.inl (by assumption) | with_reducible exact Or.inl rfl | exact Or.inl (by simp))) | refine Chg.trans ?_ (Chg.of_below (by with_reducible assumption) (fun k h1 h2 => absurd h1 (by first | omega | (simp; omega)))) | refine Chg.trans ?_ (by with_reducible assumption)))) hs4.chg (fun i hi h => h); have x0 := (k4.cell (o := off + k * 5) hbw offG.out).trans d0; have x1 := (k4.cell (o := off + k * 5 + 1) hbw offG.out).trans d1; have x2 := (k4.cell (o := off + k * 5 + 2) hbw offG.out).trans d2; have x3 := (k4.cell (o := off + k * 5 + 3) hbw offG.out).trans d3; have x4 := (k4.cell (o := off + k * 5 + 4) hbw offG.out).trans d4; have hbw4 := Nat.lt_of_lt_of_le hbw k4.size; clear hs4 k4)
            | (go_at_call_of 29 (Value.pointer (some ⟨c0.p, 0, none⟩)); refine (graph_do_to _ c0.p c' h' h2 an2 0 (z1 k 0) (z1 k 1) (z1 k 2) (z1 k 3) (z1 k 4) D4.out.pc (D4.out.gc.quiet (by (repeat (first | with_reducible exact Chg.refl _ _ | with_reducible apply Chg.drewN | with_reducible apply Chg.drew | with_reducible apply Chg.alloc | (with_reducible refine Chg.setCell ?_ ?_ _; rotate_left; focus (first | (refine Or.inr ?_; first | omega | (simp; done) | (simp; omega)) | exact Or.inl (by assumption) | with_reducible exact Or.inl rfl | exact Or.inl (by simp))) | refine Chg.trans ?_ (Chg.of_below (by with_reducible assumption) (fun k h1 h2 => absurd h1 (by first | omega | (simp; omega)))) | refine Chg.trans ?_ (by with_reducible assumption))))) (T2.out.done (by omega)) (by have := T2.out.m; omega) HRH.out.symm).mono ?_; rintro e w5 ⟨rfl, c5, hs5⟩; have D5 := hid (Duo.right (D4.out.quiet (by (repeat (first | with_reducible exact Chg.refl _ _ | with_reducible apply Chg.drewN | with_reducible apply Chg.drew | with_reducible apply Chg.alloc | (with_reducible refine Chg.setCell ?_ ?_ _; rotate_left; focus (first | (refine Or.inr ?_; first | omega | (simp; done) | (simp; omega)) | exact Or.inl (by assumption) | with_reducible exact Or.inl rfl | exact Or.inl (by simp))) | refine Chg.trans ?_ (Chg.of_below (by with_reducible assumption) (fun k h1 h2 => absurd h1 (by first | omega | (simp; omega)))) | refine Chg.trans ?_ (by with_reducible assumption))))) hs5); have k5 : Chg (c'.has h'.n h'.m) w4 w5 := Chg.next (by (repeat (first | with_reducible exact Chg.refl _ _ | with_reducible apply Chg.drewN | with_reducible apply Chg.drew | with_reducible apply Chg.alloc | (with_reducible refine Chg.setCell ?_ ?_ _; rotate_left; focus (first | (refine Or.inr ?_; first | omega | (simp; done) | (simp; omega)) | exact Or.inl (by assumption) | with_reducible exact Or.inl rfl | exact Or.inl (by simp))) | refine Chg.trans ?_ (Chg.of_below (by with_reducible assumption) (fun k h1 h2 => absurd h1 (by first | omega | (simp; omega)))) | refine Chg.trans ?_ (by with_reducible assumption)))) hs5.chg (fun i hi h => h); have y0 := (k5.cell (o := off + k * 5) hbw4 offH.out).trans x0; have y1 := (k5.cell (o := off + k * 5 + 1) hbw4 offH.out).trans x1; have y2 := (k5.cell (o := off + k * 5 + 2) hbw4 offH.out).trans x2; have y3 := (k5.cell (o := off + k * 5 + 3) hbw4 offH.out).trans x3; have y4 := (k5.cell (o := off + k * 5 + 4) hbw4 offH.out).trans x4; clear hs5 k5))
        go_wp2_with fail
        go_roundw
        case rel => exact ⟨k + 1, b4, c5, g2, h2, f', by omega, by omega, by go_num, D5.out, I3.out, TG2.out.up (by omega) (by omega), TH2.out.up (by omega) (by omega)⟩
        case measure => simp [intOf]; omega)
end Go.Proofs.Ytcdllelbdcacjaa
