/-
  The document's graph (layer 13): 'step', kind by kind: what is sent, what is loaded.
-/
import Derived.Test.YtcdllelbdcacjaaRGraph3
set_option linter.unusedVariables false
set_option linter.unusedSimpArgs false
namespace Go.Proofs.Ytcdllelbdcacjaa.R
open Go.RowKit

/-- 'Push', and what it changes -/
theorem push_chg {dcap : Nat} (w : World) (b : GB) (g : GS) (t : Nat) (r : Int) (h : GAt dcap w b g) (ht : t < g.n) (hr : 0 ≤ r ∧ r ≤ g.m) :
    Calls Try.prog 21 #[.pointer (some ⟨b.S t, 0, none⟩), .int .u64 r] w fun e w' => e = .returned (.int .i64 (g.push t r).2) ∧ (∃ b', Step dcap w w' b b' g (g.push t r).1) ∧ Chg (fun k => k = b.S t ∨ (b.sv t).ownBlock = some k) w w' := by
  unfold GS.push
  by_cases hl : (g.st t).length < g.bound
  · rw [if_pos hl]
    refine (rroots_push w (b.S t) (b.sv t) g.bound (g.st t) r (h.stk t ht) hl).mono ?_
    rintro e w' ⟨rfl, hc, v', hv, hs⟩
    refine ⟨rfl, ⟨_, step_stack h t ht v' _ hc hs hv (fun x hx => ?_)⟩, hc⟩
    rcases List.mem_append.1 hx with h1 | h1
    · exact h.okS t ht x h1
    · simp at h1; subst h1; exact hr
  · rw [if_neg hl]
    have := (h.stk t ht).len
    refine (rroots_push_full w (b.S t) (b.sv t) g.bound (g.st t) r (h.stk t ht) (by omega)).mono ?_
    rintro e w' ⟨rfl, k, rfl⟩
    exact ⟨rfl, ⟨_, Step.refl h ((Chg.refl _ _).drewN k)⟩, (Chg.refl _ _).drewN k⟩

/-- a stack's blocks are no others' -/
theorem GAt.noStack {dcap : Nat} {w : World} {b : GB} {g : GS} (h : GAt dcap w b g) {t : Nat} (ht : t < g.n) {a : Lab} {k : Nat} (ha : b.blk g.n g.m a = some k) (h1 : a ≠ .st t) (h2 : a ≠ .ls t) : ¬ (k = b.S t ∨ (b.sv t).ownBlock = some k) := fun hk => by
  rcases hk with hk | hk
  · subst hk; exact h1 (h.inj a (.st t) _ ha (if_pos ht))
  · exact h2 (h.inj a (.ls t) k ha (by show (if t < g.n then _ else none) = _; rw [if_pos ht]; exact hk))
theorem GAt.offStack {dcap : Nat} {w : World} {b : GB} {g : GS} (h : GAt dcap w b g) {t : Nat} (ht : t < g.n) {k : Nat} (hk : w.heap.size ≤ k) : ¬ (k = b.S t ∨ (b.sv t).ownBlock = some k) := fun e => by
  rcases e with e | e
  · have := h.lt (.st t) (b.S t) (if_pos ht); omega
  · have := h.lt (.ls t) k (by show (if t < g.n then _ else none) = _; rw [if_pos ht]; exact e); omega

section
variable {dcap : Nat} (w : World) (b : GB) (g : GS) (t : Nat) (x y z v : Int) (pA : Nat) (vt vo : Value) (h : GAt dcap w b g) (ht : t < g.n) (f : Five w pA vt vo (.int .i64 0) (.int .u64 0) (.bool false)) (hn : ¬ b.has g.n g.m pA)
include h ht f hn

set_option maxRecDepth 100000 in
set_option maxHeartbeats 4000000 in
theorem step_13 : Calls Try.prog 39 #[.pointer (some ⟨b.p, 0, none⟩), .pointer (some ⟨b.S t, 0, none⟩), .agg #[.int .i64 13, .int .i64 x, .int .i64 y, .int .i64 z, .int .u64 v], .pointer (some ⟨pA, 0, none⟩)] w (SPost dcap w b g pA vt vo (g.act t ⟨13, x, y, z, v⟩)) := by
  have e0 : g.act t ⟨13, x, y, z, v⟩ = ⟨(g.send t x y).1, 0, false, (g.send t x y).2⟩ := (act_k g t _).2.2.2.2.2.2.2.2.2.2.2.2.1 rfl
  rw [e0]
  have H := hid h
  have F := hid f
  have HN := hid hn
  have hA := fun w' (c : Chg (fun _ => False) w w') => at_gen w' b g t x (h.quiet c) ht
  have hrr := h.refAt_range ht x
  have hths := h.ths
  have hpl := h.lt .p b.p rfl
  have hn64 : (g.n : Int) ≤ 64 := by have := h.n64; omega
  obtain ⟨q, cap, hv, hql, hqb, q1⟩ := h.thrAt ht
  rw [hv] at hths
  unfold GS.send
  rcases codeAt_cases (g.st t) x with ⟨p1, p2⟩ | ⟨p1, p2, p3⟩
  rotate_left
  · rw [if_pos p2]
    rw [p2] at hA
    have HA := hid hA
    clear e0 h f hn hA p1 p2 p3 hrr hths hv hqb q1
    go_enter Try.func39, Try.ntmps39
    go_wp2_with (go_at_call 18; refine (HA.out _ (by (repeat (first | with_reducible exact Chg.refl _ _ | with_reducible apply Chg.drewN | with_reducible apply Chg.drew | with_reducible apply Chg.alloc | (with_reducible refine Chg.setCell ?_ ?_ _; rotate_left; focus (first | (refine Or.inr ?_; first | omega | (simp; done) | (simp; omega)) | exact Or.inl (by assumption) | with_reducible exact Or.inl rfl | exact Or.inl (by simp))) | refine Chg.trans ?_ (Chg.of_below (by with_reducible assumption) (fun k h1 h2 => absurd h1 (by first | omega | (simp; omega)))) | refine Chg.trans ?_ (by with_reducible assumption))))).mono ?_; rintro e w' ⟨rfl, rfl⟩)
    go_ret
    exact ⟨rfl, b, .of_step (Step.refl H.out (by (repeat (first | with_reducible exact Chg.refl _ _ | with_reducible apply Chg.drewN | with_reducible apply Chg.drew | with_reducible apply Chg.alloc | (with_reducible refine Chg.setCell ?_ ?_ _; rotate_left; focus (first | (refine Or.inr ?_; first | omega | (simp; done) | (simp; omega)) | exact Or.inl (by assumption) | with_reducible exact Or.inl rfl | exact Or.inl (by simp))) | refine Chg.trans ?_ (Chg.of_below (by with_reducible assumption) (fun k h1 h2 => absurd h1 (by first | omega | (simp; omega)))) | refine Chg.trans ?_ (by with_reducible assumption))))) F.out HN.out⟩
  rw [if_neg (by rw [p2]; decide)]
  rw [p2] at hA
  have HA := hid hA
  by_cases hb : InL g.n y
  rotate_left
  · rw [if_neg hb]
    by_cases c1 : y < 0
    · clear e0 h f hn hA p1 p2 hrr hv hqb q1 hb
      go_enter Try.func39, Try.ntmps39
      go_upto_region 51 with (go_at_call 18; refine (HA.out _ (by (repeat (first | with_reducible exact Chg.refl _ _ | with_reducible apply Chg.drewN | with_reducible apply Chg.drew | with_reducible apply Chg.alloc | (with_reducible refine Chg.setCell ?_ ?_ _; rotate_left; focus (first | (refine Or.inr ?_; first | omega | (simp; done) | (simp; omega)) | exact Or.inl (by assumption) | with_reducible exact Or.inl rfl | exact Or.inl (by simp))) | refine Chg.trans ?_ (Chg.of_below (by with_reducible assumption) (fun k h1 h2 => absurd h1 (by first | omega | (simp; omega)))) | refine Chg.trans ?_ (by with_reducible assumption))))).mono ?_; rintro e w' ⟨rfl, rfl⟩)
      go_quiet (fail)
      go_wp2_with fail
      go_ret
      exact ⟨rfl, b, .of_step (Step.refl H.out (by (repeat (first | with_reducible exact Chg.refl _ _ | with_reducible apply Chg.drewN | with_reducible apply Chg.drew | with_reducible apply Chg.alloc | (with_reducible refine Chg.setCell ?_ ?_ _; rotate_left; focus (first | (refine Or.inr ?_; first | omega | (simp; done) | (simp; omega)) | exact Or.inl (by assumption) | with_reducible exact Or.inl rfl | exact Or.inl (by simp))) | refine Chg.trans ?_ (Chg.of_below (by with_reducible assumption) (fun k h1 h2 => absurd h1 (by first | omega | (simp; omega)))) | refine Chg.trans ?_ (by with_reducible assumption))))) F.out HN.out⟩
    · have d1 : 0 ≤ y := by omega
      have d2 : (g.n : Int) ≤ y := by unfold InL at hb; omega
      have d3 : decide (y < 0) = false := by simp; omega
      have d4 : decide ((g.n : Int) ≤ y) = true := by simp; omega
      clear e0 h f hn hA p1 p2 hrr hv hqb q1 hb
      go_enter Try.func39, Try.ntmps39
      go_upto_region 51 with (go_at_call 18; refine (HA.out _ (by (repeat (first | with_reducible exact Chg.refl _ _ | with_reducible apply Chg.drewN | with_reducible apply Chg.drew | with_reducible apply Chg.alloc | (with_reducible refine Chg.setCell ?_ ?_ _; rotate_left; focus (first | (refine Or.inr ?_; first | omega | (simp; done) | (simp; omega)) | exact Or.inl (by assumption) | with_reducible exact Or.inl rfl | exact Or.inl (by simp))) | refine Chg.trans ?_ (Chg.of_below (by with_reducible assumption) (fun k h1 h2 => absurd h1 (by first | omega | (simp; omega)))) | refine Chg.trans ?_ (by with_reducible assumption))))).mono ?_; rintro e w' ⟨rfl, rfl⟩)
      go_quiet (fail)
      go_wp2_with fail
      go_ret
      exact ⟨rfl, b, .of_step (Step.refl H.out (by (repeat (first | with_reducible exact Chg.refl _ _ | with_reducible apply Chg.drewN | with_reducible apply Chg.drew | with_reducible apply Chg.alloc | (with_reducible refine Chg.setCell ?_ ?_ _; rotate_left; focus (first | (refine Or.inr ?_; first | omega | (simp; done) | (simp; omega)) | exact Or.inl (by assumption) | with_reducible exact Or.inl rfl | exact Or.inl (by simp))) | refine Chg.trans ?_ (Chg.of_below (by with_reducible assumption) (fun k h1 h2 => absurd h1 (by first | omega | (simp; omega)))) | refine Chg.trans ?_ (by with_reducible assumption))))) F.out HN.out⟩
  · rw [if_pos hb]
    obtain ⟨s, rfl, hs⟩ := inL_nat hb
    rw [Int.toNat_natCast]
    obtain ⟨q', cap', hv', _, _, q2⟩ := h.thrAt hs
    rw [hv] at hv'
    injection hv' with hA1 _ _
    injection hA1 with hA1
    injection hA1 with hA1 _ _
    subst hA1
    have hC := fun w' (c : Chg (fun _ => False) w w') => push_chg w' b g s (refAt (g.st t) x) (h.quiet c) hs hrr
    have HC := hid hC
    have o1 := hid (h.noStack hs (a := .p) (k := b.p) rfl (by simp) (by simp))
    have o2 := hid (h.noStack hs (a := .th) (k := q) hqb (by simp) (by simp))
    have o3 := hid (h.offStack hs (Nat.le_refl _))
    have d1 : 0 ≤ (s : Int) := by omega
    have d2 : (s : Int) < (g.n : Int) := by omega
    have d3 : decide ((s : Int) < 0) = false := by simp
    have d4 : decide ((g.n : Int) ≤ (s : Int)) = false := by simp; omega
    have d5 : decide (g.n ≤ s) = false := by simp; omega
    clear e0 h f hn hA p1 p2 hv hqb q1 hb hrr hC
    revert HC HA
    generalize refAt (g.st t) x = r
    intro HA HC
    revert HC
    generalize g.push s r = R
    intro HC
    obtain ⟨g1, c1⟩ := R
    go_enter Try.func39, Try.ntmps39
    go_upto_region 51 with (go_at_call 18; refine (HA.out _ (by (repeat (first | with_reducible exact Chg.refl _ _ | with_reducible apply Chg.drewN | with_reducible apply Chg.drew | with_reducible apply Chg.alloc | (with_reducible refine Chg.setCell ?_ ?_ _; rotate_left; focus (first | (refine Or.inr ?_; first | omega | (simp; done) | (simp; omega)) | exact Or.inl (by assumption) | with_reducible exact Or.inl rfl | exact Or.inl (by simp))) | refine Chg.trans ?_ (Chg.of_below (by with_reducible assumption) (fun k h1 h2 => absurd h1 (by first | omega | (simp; omega)))) | refine Chg.trans ?_ (by with_reducible assumption))))).mono ?_; rintro e w' ⟨rfl, rfl⟩)
    go_quiet (fail)
    go_upto_region 53 with fail
    generalize hW : (World.drewN (World.alloc w (.cells #[.int .i64 13, .int .i64 x, .int .i64 s, .int .i64 z, .int .u64 v] 67)) nq) = W
    have hcW : Chg (fun _ => False) w W := by subst hW; (repeat (first | with_reducible exact Chg.refl _ _ | with_reducible apply Chg.drewN | with_reducible apply Chg.drew | with_reducible apply Chg.alloc | (with_reducible refine Chg.setCell ?_ ?_ _; rotate_left; focus (first | (refine Or.inr ?_; first | omega | (simp; done) | (simp; omega)) | exact Or.inl (by assumption) | with_reducible exact Or.inl rfl | exact Or.inl (by simp))) | refine Chg.trans ?_ (Chg.of_below (by with_reducible assumption) (fun k h1 h2 => absurd h1 (by first | omega | (simp; omega)))) | refine Chg.trans ?_ (by with_reducible assumption)))
    have m1 : W.cell? ⟨b.p, 2, none⟩ = some (.slice (some ⟨q, 0, none⟩) g.n cap) := by subst hW; go_simp
    have m2 : W.cell? ⟨q, s, none⟩ = some (.pointer (some ⟨b.S s, 0, none⟩)) := by subst hW; go_simp
    have m3 : W.cell? ⟨w.heap.size, 2, none⟩ = some (.int .i64 s) := by subst hW; go_simp
    have hpW : b.p < W.heap.size := Nat.lt_of_lt_of_le hpl hcW.size
    have hqW : q < W.heap.size := Nat.lt_of_lt_of_le hql hcW.size
    have hoW : w.heap.size < W.heap.size := by subst hW; simp
    have HCW := hid hcW
    clear hW hcW
    go_region_held3 (fun wX => wX.cell? ⟨b.p, 2, none⟩ = some (.slice (some ⟨q, 0, none⟩) g.n cap) ∧ wX.cell? ⟨q, s, none⟩ = some (.pointer (some ⟨b.S s, 0, none⟩)) ∧ wX.cell? ⟨w.heap.size, 2, none⟩ = some (.int .i64 s))
      (first | with_reducible exact ⟨m1, m2, m3⟩ | with_reducible exact ⟨k1, k2, k3⟩ | go_keep)
      (first | (go_at_call 21; refine (HC.out _ (Chg.trans HCW.out (by (repeat (first | with_reducible exact Chg.refl _ _ | with_reducible apply Chg.drewN | with_reducible apply Chg.drew | with_reducible apply Chg.alloc | (with_reducible refine Chg.setCell ?_ ?_ _; rotate_left; focus (first | (refine Or.inr ?_; first | omega | (simp; done) | (simp; omega)) | exact Or.inl (by assumption) | with_reducible exact Or.inl rfl | exact Or.inl (by simp))) | refine Chg.trans ?_ (Chg.of_below (by with_reducible assumption) (fun k h1 h2 => absurd h1 (by first | omega | (simp; omega)))) | refine Chg.trans ?_ (by with_reducible assumption)))))).mono ?_; rintro e w1 ⟨rfl, ⟨b1, hs1⟩, hc1⟩; have hc2 : Chg (fun k => k = b.S s ∨ (b.sv s).ownBlock = some k) W w1 := Chg.next (by (repeat (first | with_reducible exact Chg.refl _ _ | with_reducible apply Chg.drewN | with_reducible apply Chg.drew | with_reducible apply Chg.alloc | (with_reducible refine Chg.setCell ?_ ?_ _; rotate_left; focus (first | (refine Or.inr ?_; first | omega | (simp; done) | (simp; omega)) | exact Or.inl (by assumption) | with_reducible exact Or.inl rfl | exact Or.inl (by simp))) | refine Chg.trans ?_ (Chg.of_below (by with_reducible assumption) (fun k h1 h2 => absurd h1 (by first | omega | (simp; omega)))) | refine Chg.trans ?_ (by with_reducible assumption)))) hc1 (fun i hi h => h); have k1 := (hc2.cell (o := 2) hpW o1.out).trans m1; have k2 := (hc2.cell (o := s) hqW o2.out).trans m2; have k3 := (hc2.cell (o := 2) hoW o3.out).trans m3; have S1 := hid hs1; clear hs1 hc1 hc2))
    go_wp2_with fail
    go_ret
    exact ⟨rfl, b1, .of_step ((Step.refl H.out (HCW.out.trans (by (repeat (first | with_reducible exact Chg.refl _ _ | with_reducible apply Chg.drewN | with_reducible apply Chg.drew | with_reducible apply Chg.alloc | (with_reducible refine Chg.setCell ?_ ?_ _; rotate_left; focus (first | (refine Or.inr ?_; first | omega | (simp; done) | (simp; omega)) | exact Or.inl (by assumption) | with_reducible exact Or.inl rfl | exact Or.inl (by simp))) | refine Chg.trans ?_ (Chg.of_below (by with_reducible assumption) (fun k h1 h2 => absurd h1 (by first | omega | (simp; omega)))) | refine Chg.trans ?_ (by with_reducible assumption)))))).trans S1.out) F.out HN.out⟩
end
end Go.Proofs.Ytcdllelbdcacjaa.R
