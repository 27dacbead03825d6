/-
  The document's graph (layer 13): 'step', kind by kind: what is loaded.
-/
import Derived.Test.YtcdllelbdcacjaaRGraph4
set_option linter.unusedVariables false
set_option linter.unusedSimpArgs false
namespace Go.Proofs.Ytcdllelbdcacjaa.R
open Go.RowKit

section
variable {dcap : Nat} (w : World) (b : GB) (g : GS) (t : Nat) (x y z v : Int) (pA : Nat) (vt vo : Value) (h : GAt dcap w b g) (ht : t < g.n) (f : Five w pA vt vo (.int .i64 0) (.int .u64 0) (.bool false)) (hn : ¬ b.has g.n g.m pA)
include h ht f hn

set_option maxRecDepth 100000 in
set_option maxHeartbeats 4000000 in
theorem step_2 : Calls Try.prog 39 #[.pointer (some ⟨b.p, 0, none⟩), .pointer (some ⟨b.S t, 0, none⟩), .agg #[.int .i64 2, .int .i64 x, .int .i64 y, .int .i64 z, .int .u64 v], .pointer (some ⟨pA, 0, none⟩)] w (SPost dcap w b g pA vt vo (g.act t ⟨2, x, y, z, v⟩)) := by
  have e0 : g.act t ⟨2, x, y, z, v⟩ = ⟨(g.load t x y).1, 0, false, (g.load t x y).2⟩ := (act_k g t _).2.1 rfl
  rw [e0]
  have H := hid h
  have F := hid f
  have HN := hid hn
  by_cases h1 : refAt (g.st t) x = 0
  · have hG := fun w' (c : Chg (fun _ => False) w w') => obj_none w' b g t x (h.quiet c) ht h1
    have e1 : g.load t x y = (g, if codeAt (g.st t) x = 10 then 10 else 12) := by
      unfold GS.load
      by_cases h2 : codeAt (g.st t) x = 10
      · rw [if_pos h2, if_pos h2]
      · rw [if_neg h2, if_neg h2, if_pos h1]
    have hc : (if codeAt (g.st t) x = 10 then 10 else 12 : Int) = 10 ∨ (if codeAt (g.st t) x = 10 then 10 else 12 : Int) = 12 := by split <;> simp
    rw [e1]
    have HG := hid hG
    clear h e0 e1 f hn hG
    revert HG hc
    generalize (if codeAt (g.st t) x = 10 then 10 else 12 : Int) = c
    intro hc HG
    rcases hc with rfl | rfl
    all_goals (
      go_enter Try.func39, Try.ntmps39
      go_wp2_with (go_at_call 50; refine (HG.out _ (by (repeat (first | with_reducible exact Chg.refl _ _ | with_reducible apply Chg.drewN | with_reducible apply Chg.drew | with_reducible apply Chg.alloc | (with_reducible refine Chg.setCell ?_ ?_ _; rotate_left; focus (first | (refine Or.inr ?_; first | omega | (simp; done) | (simp; omega)) | exact Or.inl (by assumption) | with_reducible exact Or.inl rfl | exact Or.inl (by simp))) | refine Chg.trans ?_ (Chg.of_below (by with_reducible assumption) (fun k h1 h2 => absurd h1 (by first | omega | (simp; omega)))) | refine Chg.trans ?_ (by with_reducible assumption))))).mono ?_; rintro e w1 ⟨rfl, rfl⟩)
      go_ret
      exact ⟨rfl, b, .of_step (Step.refl H.out (by (repeat (first | with_reducible exact Chg.refl _ _ | with_reducible apply Chg.drewN | with_reducible apply Chg.drew | with_reducible apply Chg.alloc | (with_reducible refine Chg.setCell ?_ ?_ _; rotate_left; focus (first | (refine Or.inr ?_; first | omega | (simp; done) | (simp; omega)) | exact Or.inl (by assumption) | with_reducible exact Or.inl rfl | exact Or.inl (by simp))) | refine Chg.trans ?_ (Chg.of_below (by with_reducible assumption) (fun k h1 h2 => absurd h1 (by first | omega | (simp; omega)))) | refine Chg.trans ?_ (by with_reducible assumption))))) F.out HN.out⟩)
  · have hG := fun w' (c : Chg (fun _ => False) w w') => obj_some w' b g t x (h.quiet c) ht h1
    obtain ⟨i, q, cap, hi, hie, hov, _⟩ := obj_some w b g t x h ht h1
    have hO : ∀ w', Chg (fun _ => False) w w' → Calls Try.prog 50 #[.pointer (some ⟨b.p, 0, none⟩), .pointer (some ⟨b.S t, 0, none⟩), .int .i64 x] w' fun e w'' => e = .returned (.tuple #[.pointer (some ⟨q, i * 2, none⟩), .int .i64 0]) ∧ w' = w'' := fun w' c => by
      obtain ⟨i', q', cap', _, hie', hov', hC⟩ := hG w' c
      rw [hov] at hov'
      injection hov' with hA1 _ _
      injection hA1 with hA1
      injection hA1 with hA1 _ _
      rw [← hA1, ← hie', hie] at hC
      exact hC
    have HG := hid hO
    obtain ⟨q', cap', hov', hql, o1, o2⟩ := h.objAt hi
    rw [hov] at hov'
    injection hov' with hA1 _ _
    injection hA1 with hA1
    injection hA1 with hA1 _ _
    subst hA1
    have hne : codeAt (g.st t) x ≠ 10 := by
      rcases codeAt_cases (g.st t) x with ⟨_, h⟩ | ⟨_, _, h⟩
      · rw [h]; decide
      · exact absurd h h1
    have hln : ((g.rf i).length : Int) ≤ 1048576 := by have := (h.small i hi).1; omega
    by_cases hb : InL (g.rf i).length y
    rotate_left
    · have e1 : g.load t x y = (g, 11) := by
        unfold GS.load
        rw [if_neg hne, if_neg h1, hie, if_neg hb]
      rw [e1]
      by_cases c1 : y < 0
      · clear h e0 e1 f hn hG hO hb hne h1 hov hie o2
        go_enter Try.func39, Try.ntmps39
        go_upto_region 13 with (go_at_call 50; refine (HG.out _ (by (repeat (first | with_reducible exact Chg.refl _ _ | with_reducible apply Chg.drewN | with_reducible apply Chg.drew | with_reducible apply Chg.alloc | (with_reducible refine Chg.setCell ?_ ?_ _; rotate_left; focus (first | (refine Or.inr ?_; first | omega | (simp; done) | (simp; omega)) | exact Or.inl (by assumption) | with_reducible exact Or.inl rfl | exact Or.inl (by simp))) | refine Chg.trans ?_ (Chg.of_below (by with_reducible assumption) (fun k h1 h2 => absurd h1 (by first | omega | (simp; omega)))) | refine Chg.trans ?_ (by with_reducible assumption))))).mono ?_; rintro e w1 ⟨rfl, rfl⟩)
        go_quiet (fail)
        go_wp2_with fail
        go_ret
        exact ⟨rfl, b, .of_step (Step.refl H.out (by (repeat (first | with_reducible exact Chg.refl _ _ | with_reducible apply Chg.drewN | with_reducible apply Chg.drew | with_reducible apply Chg.alloc | (with_reducible refine Chg.setCell ?_ ?_ _; rotate_left; focus (first | (refine Or.inr ?_; first | omega | (simp; done) | (simp; omega)) | exact Or.inl (by assumption) | with_reducible exact Or.inl rfl | exact Or.inl (by simp))) | refine Chg.trans ?_ (Chg.of_below (by with_reducible assumption) (fun k h1 h2 => absurd h1 (by first | omega | (simp; omega)))) | refine Chg.trans ?_ (by with_reducible assumption))))) F.out HN.out⟩
      · have d3 : decide (y < 0) = false := by simp; omega
        have d2 : ((g.rf i).length : Int) ≤ y := by unfold InL at hb; omega
        clear h e0 e1 f hn hG hO hb hne h1 hov hie o2
        go_enter Try.func39, Try.ntmps39
        go_upto_region 13 with (go_at_call 50; refine (HG.out _ (by (repeat (first | with_reducible exact Chg.refl _ _ | with_reducible apply Chg.drewN | with_reducible apply Chg.drew | with_reducible apply Chg.alloc | (with_reducible refine Chg.setCell ?_ ?_ _; rotate_left; focus (first | (refine Or.inr ?_; first | omega | (simp; done) | (simp; omega)) | exact Or.inl (by assumption) | with_reducible exact Or.inl rfl | exact Or.inl (by simp))) | refine Chg.trans ?_ (Chg.of_below (by with_reducible assumption) (fun k h1 h2 => absurd h1 (by first | omega | (simp; omega)))) | refine Chg.trans ?_ (by with_reducible assumption))))).mono ?_; rintro e w1 ⟨rfl, rfl⟩)
        go_quiet (fail)
        go_wp2_with fail
        go_ret
        exact ⟨rfl, b, .of_step (Step.refl H.out (by (repeat (first | with_reducible exact Chg.refl _ _ | with_reducible apply Chg.drewN | with_reducible apply Chg.drew | with_reducible apply Chg.alloc | (with_reducible refine Chg.setCell ?_ ?_ _; rotate_left; focus (first | (refine Or.inr ?_; first | omega | (simp; done) | (simp; omega)) | exact Or.inl (by assumption) | with_reducible exact Or.inl rfl | exact Or.inl (by simp))) | refine Chg.trans ?_ (Chg.of_below (by with_reducible assumption) (fun k h1 h2 => absurd h1 (by first | omega | (simp; omega)))) | refine Chg.trans ?_ (by with_reducible assumption))))) F.out HN.out⟩
    · have e1 : g.load t x y = g.push t ((g.rf i).getD y.toNat 0) := by
        unfold GS.load
        rw [if_neg hne, if_neg h1, hie, if_pos hb]
      rw [e1]
      obtain ⟨j, rfl, hj⟩ := inL_nat hb
      rw [Int.toNat_natCast]
      have hcell := (h.rfs i hi).cell hj
      have hR : b.R i < w.heap.size := (h.rfs i hi).lt
      have hrr := h.rf_range hi j
      have hC := fun w' (c : Chg (fun _ => False) w w') => push_chg w' b g t ((g.rf i).getD j 0) (h.quiet c) ht hrr
      have HC := hid hC
      have r1 := hid (h.noStack ht (a := .ob) (k := q) (by show b.ov.ownBlock = _; rw [hov]; rfl) (by simp) (by simp))
      have r2 := hid (h.noStack ht (a := .rf i) (k := b.R i) (if_pos hi) (by simp) (by simp))
      have r3 := hid (h.offStack ht (Nat.le_refl _))
      have d2 : (j : Int) < ((g.rf i).length : Int) := by omega
      have d3 : decide ((j : Int) < 0) = false := by simp
      have d5 : decide ((g.rf i).length ≤ j) = false := by simp; omega
      clear h e0 e1 f hn hG hO hb hne h1 hov hie o2 hC hrr
      revert hcell HC
      generalize (g.rf i).getD j 0 = r
      intro hcell HC
      revert HC
      generalize g.push t r = R
      intro HC
      obtain ⟨g1, c1⟩ := R
      go_enter Try.func39, Try.ntmps39
      go_upto_region 13 with (go_at_call 50; refine (HG.out _ (by (repeat (first | with_reducible exact Chg.refl _ _ | with_reducible apply Chg.drewN | with_reducible apply Chg.drew | with_reducible apply Chg.alloc | (with_reducible refine Chg.setCell ?_ ?_ _; rotate_left; focus (first | (refine Or.inr ?_; first | omega | (simp; done) | (simp; omega)) | exact Or.inl (by assumption) | with_reducible exact Or.inl rfl | exact Or.inl (by simp))) | refine Chg.trans ?_ (Chg.of_below (by with_reducible assumption) (fun k h1 h2 => absurd h1 (by first | omega | (simp; omega)))) | refine Chg.trans ?_ (by with_reducible assumption))))).mono ?_; rintro e w1 ⟨rfl, rfl⟩)
      go_quiet (fail)
      go_upto_region 15 with fail
      generalize hW : (World.drewN (World.alloc w (.cells #[.int .i64 2, .int .i64 x, .int .i64 j, .int .i64 z, .int .u64 v] 67)) nq) = W
      have hcW : Chg (fun _ => False) w W := by subst hW; (repeat (first | with_reducible exact Chg.refl _ _ | with_reducible apply Chg.drewN | with_reducible apply Chg.drew | with_reducible apply Chg.alloc | (with_reducible refine Chg.setCell ?_ ?_ _; rotate_left; focus (first | (refine Or.inr ?_; first | omega | (simp; done) | (simp; omega)) | exact Or.inl (by assumption) | with_reducible exact Or.inl rfl | exact Or.inl (by simp))) | refine Chg.trans ?_ (Chg.of_below (by with_reducible assumption) (fun k h1 h2 => absurd h1 (by first | omega | (simp; omega)))) | refine Chg.trans ?_ (by with_reducible assumption)))
      have m1 : W.cell? ⟨q, i * 2, none⟩ = some (.slice (some ⟨b.R i, 0, none⟩) (g.rf i).length (g.rf i).length) := by subst hW; go_simp
      have m2 : W.cell? ⟨b.R i, j, none⟩ = some (.int .u64 r) := by subst hW; go_simp
      have m3 : W.cell? ⟨w.heap.size, 2, none⟩ = some (.int .i64 j) := by subst hW; go_simp
      have hqW : q < W.heap.size := Nat.lt_of_lt_of_le hql hcW.size
      have hRW : b.R i < W.heap.size := Nat.lt_of_lt_of_le hR hcW.size
      have hoW : w.heap.size < W.heap.size := by subst hW; simp
      have HCW := hid hcW
      clear hW hcW
      go_region_held3 (fun wX => wX.cell? ⟨q, i * 2, none⟩ = some (.slice (some ⟨b.R i, 0, none⟩) (g.rf i).length (g.rf i).length) ∧ wX.cell? ⟨b.R i, j, none⟩ = some (.int .u64 r) ∧ wX.cell? ⟨w.heap.size, 2, none⟩ = some (.int .i64 j))
        (first | with_reducible exact ⟨m1, m2, m3⟩ | with_reducible exact ⟨k1, k2, k3⟩ | go_keep)
        (first | (go_at_call 21; refine (HC.out _ (Chg.trans HCW.out (by (repeat (first | with_reducible exact Chg.refl _ _ | with_reducible apply Chg.drewN | with_reducible apply Chg.drew | with_reducible apply Chg.alloc | (with_reducible refine Chg.setCell ?_ ?_ _; rotate_left; focus (first | (refine Or.inr ?_; first | omega | (simp; done) | (simp; omega)) | exact Or.inl (by assumption) | with_reducible exact Or.inl rfl | exact Or.inl (by simp))) | refine Chg.trans ?_ (Chg.of_below (by with_reducible assumption) (fun k h1 h2 => absurd h1 (by first | omega | (simp; omega)))) | refine Chg.trans ?_ (by with_reducible assumption)))))).mono ?_; rintro e w1 ⟨rfl, ⟨b1, hs1⟩, hc1⟩; have hc2 : Chg (fun k => k = b.S t ∨ (b.sv t).ownBlock = some k) W w1 := Chg.next (by (repeat (first | with_reducible exact Chg.refl _ _ | with_reducible apply Chg.drewN | with_reducible apply Chg.drew | with_reducible apply Chg.alloc | (with_reducible refine Chg.setCell ?_ ?_ _; rotate_left; focus (first | (refine Or.inr ?_; first | omega | (simp; done) | (simp; omega)) | exact Or.inl (by assumption) | with_reducible exact Or.inl rfl | exact Or.inl (by simp))) | refine Chg.trans ?_ (Chg.of_below (by with_reducible assumption) (fun k h1 h2 => absurd h1 (by first | omega | (simp; omega)))) | refine Chg.trans ?_ (by with_reducible assumption)))) hc1 (fun i hi h => h); have k1 := (hc2.cell (o := i * 2) hqW r1.out).trans m1; have k2 := (hc2.cell (o := j) hRW r2.out).trans m2; have k3 := (hc2.cell (o := 2) hoW r3.out).trans m3; have S1 := hid hs1; clear hs1 hc1 hc2))
      go_wp2_with fail
      go_ret
      exact ⟨rfl, b1, .of_step ((Step.refl H.out (HCW.out.trans (by (repeat (first | with_reducible exact Chg.refl _ _ | with_reducible apply Chg.drewN | with_reducible apply Chg.drew | with_reducible apply Chg.alloc | (with_reducible refine Chg.setCell ?_ ?_ _; rotate_left; focus (first | (refine Or.inr ?_; first | omega | (simp; done) | (simp; omega)) | exact Or.inl (by assumption) | with_reducible exact Or.inl rfl | exact Or.inl (by simp))) | refine Chg.trans ?_ (Chg.of_below (by with_reducible assumption) (fun k h1 h2 => absurd h1 (by first | omega | (simp; omega)))) | refine Chg.trans ?_ (by with_reducible assumption)))))).trans S1.out) F.out HN.out⟩
end
end Go.Proofs.Ytcdllelbdcacjaa.R
