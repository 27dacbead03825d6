/-
  The document's graph (layer 13): 'step', kind by kind: what is stored, read, written.
-/
import Derived.Test.YtcdllelbdcacjaaRGraph5
set_option linter.unusedVariables false
set_option linter.unusedSimpArgs false
namespace Go.Proofs.Ytcdllelbdcacjaa.R
open Go.RowKit

/-- 'object', of an object, in every world that is as this one -/
theorem obj_got {dcap : Nat} (w : World) (b : GB) (g : GS) (t : Nat) (x : Int) (h : GAt dcap w b g) (ht : t < g.n) (h1 : refAt (g.st t) x ≠ 0) :
    ∃ i q : Nat, i < g.m ∧ (refAt (g.st t) x - 1).toNat = i ∧ b.blk g.n g.m .ob = some q ∧ q < w.heap.size ∧ w.cell? ⟨q, i * 2, none⟩ = some (.slice (some ⟨b.R i, 0, none⟩) (g.rf i).length (g.rf i).length) ∧
      w.cell? ⟨q, i * 2 + 1, none⟩ = some (.slice (some ⟨b.D i, 0, none⟩) (g.dt i).length (g.dt i).length) ∧ codeAt (g.st t) x = 0 ∧
      ∀ w', Chg (fun _ => False) w w' → Calls Try.prog 50 #[.pointer (some ⟨b.p, 0, none⟩), .pointer (some ⟨b.S t, 0, none⟩), .int .i64 x] w' fun e w'' => e = .returned (.tuple #[.pointer (some ⟨q, i * 2, none⟩), .int .i64 0]) ∧ w' = w'' := by
  have hG := fun w' (c : Chg (fun _ => False) w w') => obj_some w' b g t x (h.quiet c) ht h1
  obtain ⟨i, q, cap, hi, hie, hov, _⟩ := obj_some w b g t x h ht h1
  obtain ⟨q', cap', hov', hql, o1, o2⟩ := h.objAt hi
  rw [hov] at hov'
  injection hov' with hA1 _ _
  injection hA1 with hA1
  injection hA1 with hA1 _ _
  subst hA1
  refine ⟨i, q, hi, hie, by show b.ov.ownBlock = _; rw [hov]; rfl, hql, o1, o2, ?_, fun w' c => ?_⟩
  · rcases codeAt_cases (g.st t) x with ⟨_, h⟩ | ⟨_, _, h⟩
    · exact h
    · exact absurd h h1
  · obtain ⟨i', q', cap', _, hie', hov', hC⟩ := hG w' c
    rw [hov] at hov'
    injection hov' with hA1 _ _
    injection hA1 with hA1
    injection hA1 with hA1 _ _
    rw [← hA1, ← hie', hie] at hC
    exact hC

section
variable {dcap : Nat} (w : World) (b : GB) (g : GS) (t : Nat) (x y z v : Int) (pA : Nat) (vt vo : Value) (h : GAt dcap w b g) (ht : t < g.n) (f : Five w pA vt vo (.int .i64 0) (.int .u64 0) (.bool false)) (hn : ¬ b.has g.n g.m pA)
include h ht f hn

set_option maxRecDepth 100000 in
set_option maxHeartbeats 4000000 in
theorem step_3 : Calls Try.prog 39 #[.pointer (some ⟨b.p, 0, none⟩), .pointer (some ⟨b.S t, 0, none⟩), .agg #[.int .i64 3, .int .i64 x, .int .i64 y, .int .i64 z, .int .u64 v], .pointer (some ⟨pA, 0, none⟩)] w (SPost dcap w b g pA vt vo (g.act t ⟨3, x, y, z, v⟩)) := by
  have e0 : g.act t ⟨3, x, y, z, v⟩ = ⟨(g.store t x y z).1, 0, false, (g.store t x y z).2⟩ := (act_k g t _).2.2.1 rfl
  rw [e0]
  have H := hid h
  have F := hid f
  have HN := hid hn
  have hX := fun w' (c : Chg (fun _ => False) w w') => at_gen w' b g t x (h.quiet c) ht
  have hZ := fun w' (c : Chg (fun _ => False) w w') => at_gen w' b g t z (h.quiet c) ht
  have hzr := h.refAt_range ht z
  by_cases hbad : codeAt (g.st t) z = 10 ∨ codeAt (g.st t) x = 10
  · have e1 : g.store t x y z = (g, 10) := by
      unfold GS.store
      rcases hbad with hb | hb
      · rw [if_pos hb]
      · by_cases hc : codeAt (g.st t) z = 10
        · rw [if_pos hc]
        · rw [if_neg hc, if_pos hb]
    rw [e1]
    have hcs : (codeAt (g.st t) x = 0 ∧ codeAt (g.st t) z = 10) ∨ (codeAt (g.st t) x = 10 ∧ codeAt (g.st t) z = 0) ∨ (codeAt (g.st t) x = 10 ∧ codeAt (g.st t) z = 10) := by
      rcases codeAt_cases (g.st t) x with ⟨_, q⟩ | ⟨_, q, _⟩ <;> rcases codeAt_cases (g.st t) z with ⟨_, q'⟩ | ⟨_, q', _⟩ <;> omega
    clear h e0 e1 f hn hbad hzr
    rcases hcs with ⟨c1, c2⟩ | ⟨c1, c2⟩ | ⟨c1, c2⟩
    all_goals (
      rw [c1] at hX
      rw [c2] at hZ
      have HX := hid hX
      have HZ := hid hZ
      clear hX hZ c1 c2
      go_enter Try.func39, Try.ntmps39
      go_wp2_with (first
        | (go_at_call_of 18 (Value.int IntKind.i64 x); refine (HX.out _ (by (repeat (first | with_reducible exact Chg.refl _ _ | with_reducible apply Chg.drewN | with_reducible apply Chg.drew | with_reducible apply Chg.alloc | (with_reducible refine Chg.setCell ?_ ?_ _; rotate_left; focus (first | (refine Or.inr ?_; first | omega | (simp; done) | (simp; omega)) | exact Or.inl (by assumption) | with_reducible exact Or.inl rfl | exact Or.inl (by simp))) | refine Chg.trans ?_ (Chg.of_below (by with_reducible assumption) (fun k h1 h2 => absurd h1 (by first | omega | (simp; omega)))) | refine Chg.trans ?_ (by with_reducible assumption))))).mono ?_; rintro e w' ⟨rfl, rfl⟩)
        | (go_at_call_of 18 (Value.int IntKind.i64 z); refine (HZ.out _ (by (repeat (first | with_reducible exact Chg.refl _ _ | with_reducible apply Chg.drewN | with_reducible apply Chg.drew | with_reducible apply Chg.alloc | (with_reducible refine Chg.setCell ?_ ?_ _; rotate_left; focus (first | (refine Or.inr ?_; first | omega | (simp; done) | (simp; omega)) | exact Or.inl (by assumption) | with_reducible exact Or.inl rfl | exact Or.inl (by simp))) | refine Chg.trans ?_ (Chg.of_below (by with_reducible assumption) (fun k h1 h2 => absurd h1 (by first | omega | (simp; omega)))) | refine Chg.trans ?_ (by with_reducible assumption))))).mono ?_; rintro e w' ⟨rfl, rfl⟩))
      go_ret
      exact ⟨rfl, b, .of_step (Step.refl H.out (by (repeat (first | with_reducible exact Chg.refl _ _ | with_reducible apply Chg.drewN | with_reducible apply Chg.drew | with_reducible apply Chg.alloc | (with_reducible refine Chg.setCell ?_ ?_ _; rotate_left; focus (first | (refine Or.inr ?_; first | omega | (simp; done) | (simp; omega)) | exact Or.inl (by assumption) | with_reducible exact Or.inl rfl | exact Or.inl (by simp))) | refine Chg.trans ?_ (Chg.of_below (by with_reducible assumption) (fun k h1 h2 => absurd h1 (by first | omega | (simp; omega)))) | refine Chg.trans ?_ (by with_reducible assumption))))) F.out HN.out⟩)
  have c2 : codeAt (g.st t) z = 0 := by
    rcases codeAt_cases (g.st t) z with ⟨_, q⟩ | ⟨_, q, _⟩
    · exact q
    · exact absurd (.inl q) hbad
  have c1 : codeAt (g.st t) x = 0 := by
    rcases codeAt_cases (g.st t) x with ⟨_, q⟩ | ⟨_, q, _⟩
    · exact q
    · exact absurd (.inr q) hbad
  rw [c1] at hX
  rw [c2] at hZ
  have HX := hid hX
  have HZ := hid hZ
  clear hX hZ hbad
  by_cases h1 : refAt (g.st t) x = 0
  · have hG := fun w' (c : Chg (fun _ => False) w w') => obj_none w' b g t x (h.quiet c) ht h1
    rw [c1, if_neg (by decide)] at hG
    have e1 : g.store t x y z = (g, 12) := by
      unfold GS.store
      rw [if_neg (by rw [c2]; decide), if_neg (by rw [c1]; decide), if_pos h1]
    rw [e1]
    have HG := hid hG
    clear h e0 e1 f hn hG c1 c2 hzr
    go_enter Try.func39, Try.ntmps39
    go_wp2_with (first
      | (go_at_call_of 18 (Value.int IntKind.i64 x); refine (HX.out _ (by (repeat (first | with_reducible exact Chg.refl _ _ | with_reducible apply Chg.drewN | with_reducible apply Chg.drew | with_reducible apply Chg.alloc | (with_reducible refine Chg.setCell ?_ ?_ _; rotate_left; focus (first | (refine Or.inr ?_; first | omega | (simp; done) | (simp; omega)) | exact Or.inl (by assumption) | with_reducible exact Or.inl rfl | exact Or.inl (by simp))) | refine Chg.trans ?_ (Chg.of_below (by with_reducible assumption) (fun k h1 h2 => absurd h1 (by first | omega | (simp; omega)))) | refine Chg.trans ?_ (by with_reducible assumption))))).mono ?_; rintro e w' ⟨rfl, rfl⟩)
      | (go_at_call_of 18 (Value.int IntKind.i64 z); refine (HZ.out _ (by (repeat (first | with_reducible exact Chg.refl _ _ | with_reducible apply Chg.drewN | with_reducible apply Chg.drew | with_reducible apply Chg.alloc | (with_reducible refine Chg.setCell ?_ ?_ _; rotate_left; focus (first | (refine Or.inr ?_; first | omega | (simp; done) | (simp; omega)) | exact Or.inl (by assumption) | with_reducible exact Or.inl rfl | exact Or.inl (by simp))) | refine Chg.trans ?_ (Chg.of_below (by with_reducible assumption) (fun k h1 h2 => absurd h1 (by first | omega | (simp; omega)))) | refine Chg.trans ?_ (by with_reducible assumption))))).mono ?_; rintro e w' ⟨rfl, rfl⟩)
      | (go_at_call 50; refine (HG.out _ (by (repeat (first | with_reducible exact Chg.refl _ _ | with_reducible apply Chg.drewN | with_reducible apply Chg.drew | with_reducible apply Chg.alloc | (with_reducible refine Chg.setCell ?_ ?_ _; rotate_left; focus (first | (refine Or.inr ?_; first | omega | (simp; done) | (simp; omega)) | exact Or.inl (by assumption) | with_reducible exact Or.inl rfl | exact Or.inl (by simp))) | refine Chg.trans ?_ (Chg.of_below (by with_reducible assumption) (fun k h1 h2 => absurd h1 (by first | omega | (simp; omega)))) | refine Chg.trans ?_ (by with_reducible assumption))))).mono ?_; rintro e w1 ⟨rfl, rfl⟩))
    go_ret
    exact ⟨rfl, b, .of_step (Step.refl H.out (by (repeat (first | with_reducible exact Chg.refl _ _ | with_reducible apply Chg.drewN | with_reducible apply Chg.drew | with_reducible apply Chg.alloc | (with_reducible refine Chg.setCell ?_ ?_ _; rotate_left; focus (first | (refine Or.inr ?_; first | omega | (simp; done) | (simp; omega)) | exact Or.inl (by assumption) | with_reducible exact Or.inl rfl | exact Or.inl (by simp))) | refine Chg.trans ?_ (Chg.of_below (by with_reducible assumption) (fun k h1 h2 => absurd h1 (by first | omega | (simp; omega)))) | refine Chg.trans ?_ (by with_reducible assumption))))) F.out HN.out⟩
  · obtain ⟨i, q, hi, hie, hqb, hql, o1, o2, _, hO⟩ := obj_got w b g t x h ht h1
    have HG := hid hO
    have hln : ((g.rf i).length : Int) ≤ 1048576 := by have := (h.small i hi).1; omega
    by_cases hb : InL (g.rf i).length y
    rotate_left
    · have e1 : g.store t x y z = (g, 11) := by
        unfold GS.store
        rw [if_neg (by rw [c2]; decide), if_neg (by rw [c1]; decide), if_neg h1, hie, if_neg hb]
      rw [e1]
      by_cases hy : y < 0
      · clear h e0 e1 f hn hO hb h1 hie o2 hqb c1 c2 hzr
        go_enter Try.func39, Try.ntmps39
        go_upto_region 24 with (first
          | (go_at_call_of 18 (Value.int IntKind.i64 x); refine (HX.out _ (by (repeat (first | with_reducible exact Chg.refl _ _ | with_reducible apply Chg.drewN | with_reducible apply Chg.drew | with_reducible apply Chg.alloc | (with_reducible refine Chg.setCell ?_ ?_ _; rotate_left; focus (first | (refine Or.inr ?_; first | omega | (simp; done) | (simp; omega)) | exact Or.inl (by assumption) | with_reducible exact Or.inl rfl | exact Or.inl (by simp))) | refine Chg.trans ?_ (Chg.of_below (by with_reducible assumption) (fun k h1 h2 => absurd h1 (by first | omega | (simp; omega)))) | refine Chg.trans ?_ (by with_reducible assumption))))).mono ?_; rintro e w' ⟨rfl, rfl⟩)
          | (go_at_call_of 18 (Value.int IntKind.i64 z); refine (HZ.out _ (by (repeat (first | with_reducible exact Chg.refl _ _ | with_reducible apply Chg.drewN | with_reducible apply Chg.drew | with_reducible apply Chg.alloc | (with_reducible refine Chg.setCell ?_ ?_ _; rotate_left; focus (first | (refine Or.inr ?_; first | omega | (simp; done) | (simp; omega)) | exact Or.inl (by assumption) | with_reducible exact Or.inl rfl | exact Or.inl (by simp))) | refine Chg.trans ?_ (Chg.of_below (by with_reducible assumption) (fun k h1 h2 => absurd h1 (by first | omega | (simp; omega)))) | refine Chg.trans ?_ (by with_reducible assumption))))).mono ?_; rintro e w' ⟨rfl, rfl⟩)
          | (go_at_call 50; refine (HG.out _ (by (repeat (first | with_reducible exact Chg.refl _ _ | with_reducible apply Chg.drewN | with_reducible apply Chg.drew | with_reducible apply Chg.alloc | (with_reducible refine Chg.setCell ?_ ?_ _; rotate_left; focus (first | (refine Or.inr ?_; first | omega | (simp; done) | (simp; omega)) | exact Or.inl (by assumption) | with_reducible exact Or.inl rfl | exact Or.inl (by simp))) | refine Chg.trans ?_ (Chg.of_below (by with_reducible assumption) (fun k h1 h2 => absurd h1 (by first | omega | (simp; omega)))) | refine Chg.trans ?_ (by with_reducible assumption))))).mono ?_; rintro e w1 ⟨rfl, rfl⟩))
        go_quiet (fail)
        go_wp2_with fail
        go_ret
        exact ⟨rfl, b, .of_step (Step.refl H.out (by (repeat (first | with_reducible exact Chg.refl _ _ | with_reducible apply Chg.drewN | with_reducible apply Chg.drew | with_reducible apply Chg.alloc | (with_reducible refine Chg.setCell ?_ ?_ _; rotate_left; focus (first | (refine Or.inr ?_; first | omega | (simp; done) | (simp; omega)) | exact Or.inl (by assumption) | with_reducible exact Or.inl rfl | exact Or.inl (by simp))) | refine Chg.trans ?_ (Chg.of_below (by with_reducible assumption) (fun k h1 h2 => absurd h1 (by first | omega | (simp; omega)))) | refine Chg.trans ?_ (by with_reducible assumption))))) F.out HN.out⟩
      · have d3 : decide (y < 0) = false := by simp; omega
        have d2 : ((g.rf i).length : Int) ≤ y := by unfold InL at hb; omega
        clear h e0 e1 f hn hO hb h1 hie o2 hqb c1 c2 hzr
        go_enter Try.func39, Try.ntmps39
        go_upto_region 24 with (first
          | (go_at_call_of 18 (Value.int IntKind.i64 x); refine (HX.out _ (by (repeat (first | with_reducible exact Chg.refl _ _ | with_reducible apply Chg.drewN | with_reducible apply Chg.drew | with_reducible apply Chg.alloc | (with_reducible refine Chg.setCell ?_ ?_ _; rotate_left; focus (first | (refine Or.inr ?_; first | omega | (simp; done) | (simp; omega)) | exact Or.inl (by assumption) | with_reducible exact Or.inl rfl | exact Or.inl (by simp))) | refine Chg.trans ?_ (Chg.of_below (by with_reducible assumption) (fun k h1 h2 => absurd h1 (by first | omega | (simp; omega)))) | refine Chg.trans ?_ (by with_reducible assumption))))).mono ?_; rintro e w' ⟨rfl, rfl⟩)
          | (go_at_call_of 18 (Value.int IntKind.i64 z); refine (HZ.out _ (by (repeat (first | with_reducible exact Chg.refl _ _ | with_reducible apply Chg.drewN | with_reducible apply Chg.drew | with_reducible apply Chg.alloc | (with_reducible refine Chg.setCell ?_ ?_ _; rotate_left; focus (first | (refine Or.inr ?_; first | omega | (simp; done) | (simp; omega)) | exact Or.inl (by assumption) | with_reducible exact Or.inl rfl | exact Or.inl (by simp))) | refine Chg.trans ?_ (Chg.of_below (by with_reducible assumption) (fun k h1 h2 => absurd h1 (by first | omega | (simp; omega)))) | refine Chg.trans ?_ (by with_reducible assumption))))).mono ?_; rintro e w' ⟨rfl, rfl⟩)
          | (go_at_call 50; refine (HG.out _ (by (repeat (first | with_reducible exact Chg.refl _ _ | with_reducible apply Chg.drewN | with_reducible apply Chg.drew | with_reducible apply Chg.alloc | (with_reducible refine Chg.setCell ?_ ?_ _; rotate_left; focus (first | (refine Or.inr ?_; first | omega | (simp; done) | (simp; omega)) | exact Or.inl (by assumption) | with_reducible exact Or.inl rfl | exact Or.inl (by simp))) | refine Chg.trans ?_ (Chg.of_below (by with_reducible assumption) (fun k h1 h2 => absurd h1 (by first | omega | (simp; omega)))) | refine Chg.trans ?_ (by with_reducible assumption))))).mono ?_; rintro e w1 ⟨rfl, rfl⟩))
        go_quiet (fail)
        go_wp2_with fail
        go_ret
        exact ⟨rfl, b, .of_step (Step.refl H.out (by (repeat (first | with_reducible exact Chg.refl _ _ | with_reducible apply Chg.drewN | with_reducible apply Chg.drew | with_reducible apply Chg.alloc | (with_reducible refine Chg.setCell ?_ ?_ _; rotate_left; focus (first | (refine Or.inr ?_; first | omega | (simp; done) | (simp; omega)) | exact Or.inl (by assumption) | with_reducible exact Or.inl rfl | exact Or.inl (by simp))) | refine Chg.trans ?_ (Chg.of_below (by with_reducible assumption) (fun k h1 h2 => absurd h1 (by first | omega | (simp; omega)))) | refine Chg.trans ?_ (by with_reducible assumption))))) F.out HN.out⟩
    · have e1 : g.store t x y z = ({ g with rf := upd g.rf i ((g.rf i).set y.toNat (refAt (g.st t) z)) }, 0) := by
        unfold GS.store
        rw [if_neg (by rw [c2]; decide), if_neg (by rw [c1]; decide), if_neg h1, hie, if_pos hb]
      rw [e1]
      obtain ⟨j, rfl, hj⟩ := inL_nat hb
      rw [Int.toNat_natCast]
      have hcell := (h.rfs i hi).cell hj
      have hfz := (h.rfs i hi).frozen j
      have hR : b.R i < w.heap.size := (h.rfs i hi).lt
      have d2 : (j : Int) < ((g.rf i).length : Int) := by omega
      have d3 : decide ((j : Int) < 0) = false := by simp
      have d5 : decide ((g.rf i).length ≤ j) = false := by simp; omega
      have q1 : ¬ q = b.R i := fun e => by have := h.inj .ob (.rf i) q hqb (by rw [e]; exact if_pos hi); cases this
      have q2 : ¬ b.R i = q := fun e => q1 e.symm
      have q3 : ¬ w.heap.size = b.R i := by omega
      have q4 : ¬ b.R i = w.heap.size := by omega
      clear h e0 e1 f hn hO hb h1 hie o2 hqb c1 c2
      revert hzr HZ
      generalize refAt (g.st t) z = r
      intro hzr HZ
      go_enter Try.func39, Try.ntmps39
      go_upto_region 24 with (first
        | (go_at_call_of 18 (Value.int IntKind.i64 x); refine (HX.out _ (by (repeat (first | with_reducible exact Chg.refl _ _ | with_reducible apply Chg.drewN | with_reducible apply Chg.drew | with_reducible apply Chg.alloc | (with_reducible refine Chg.setCell ?_ ?_ _; rotate_left; focus (first | (refine Or.inr ?_; first | omega | (simp; done) | (simp; omega)) | exact Or.inl (by assumption) | with_reducible exact Or.inl rfl | exact Or.inl (by simp))) | refine Chg.trans ?_ (Chg.of_below (by with_reducible assumption) (fun k h1 h2 => absurd h1 (by first | omega | (simp; omega)))) | refine Chg.trans ?_ (by with_reducible assumption))))).mono ?_; rintro e w' ⟨rfl, rfl⟩)
        | (go_at_call_of 18 (Value.int IntKind.i64 z); refine (HZ.out _ (by (repeat (first | with_reducible exact Chg.refl _ _ | with_reducible apply Chg.drewN | with_reducible apply Chg.drew | with_reducible apply Chg.alloc | (with_reducible refine Chg.setCell ?_ ?_ _; rotate_left; focus (first | (refine Or.inr ?_; first | omega | (simp; done) | (simp; omega)) | exact Or.inl (by assumption) | with_reducible exact Or.inl rfl | exact Or.inl (by simp))) | refine Chg.trans ?_ (Chg.of_below (by with_reducible assumption) (fun k h1 h2 => absurd h1 (by first | omega | (simp; omega)))) | refine Chg.trans ?_ (by with_reducible assumption))))).mono ?_; rintro e w' ⟨rfl, rfl⟩)
        | (go_at_call 50; refine (HG.out _ (by (repeat (first | with_reducible exact Chg.refl _ _ | with_reducible apply Chg.drewN | with_reducible apply Chg.drew | with_reducible apply Chg.alloc | (with_reducible refine Chg.setCell ?_ ?_ _; rotate_left; focus (first | (refine Or.inr ?_; first | omega | (simp; done) | (simp; omega)) | exact Or.inl (by assumption) | with_reducible exact Or.inl rfl | exact Or.inl (by simp))) | refine Chg.trans ?_ (Chg.of_below (by with_reducible assumption) (fun k h1 h2 => absurd h1 (by first | omega | (simp; omega)))) | refine Chg.trans ?_ (by with_reducible assumption))))).mono ?_; rintro e w1 ⟨rfl, rfl⟩))
      go_quiet (fail)
      go_upto_region 26 with fail
      generalize hW : (World.drewN (World.alloc w (.cells #[.int .i64 3, .int .i64 x, .int .i64 j, .int .i64 z, .int .u64 v] 67)) nq) = W
      have hcW : Chg (fun _ => False) w W := by subst hW; (repeat (first | with_reducible exact Chg.refl _ _ | with_reducible apply Chg.drewN | with_reducible apply Chg.drew | with_reducible apply Chg.alloc | (with_reducible refine Chg.setCell ?_ ?_ _; rotate_left; focus (first | (refine Or.inr ?_; first | omega | (simp; done) | (simp; omega)) | exact Or.inl (by assumption) | with_reducible exact Or.inl rfl | exact Or.inl (by simp))) | refine Chg.trans ?_ (Chg.of_below (by with_reducible assumption) (fun k h1 h2 => absurd h1 (by first | omega | (simp; omega)))) | refine Chg.trans ?_ (by with_reducible assumption)))
      have m1 : W.cell? ⟨q, i * 2, none⟩ = some (.slice (some ⟨b.R i, 0, none⟩) (g.rf i).length (g.rf i).length) := by subst hW; go_simp
      have m2 : W.cell? ⟨w.heap.size, 2, none⟩ = some (.int .i64 j) := by subst hW; go_simp
      have m3 := (hcW.cell (o := j) hR (by simp)).trans hcell
      have m4 := (hcW.frozen (o := j) hR (by simp)).trans hfz
      have hqW : q < W.heap.size := Nat.lt_of_lt_of_le hql hcW.size
      have hRW : b.R i < W.heap.size := Nat.lt_of_lt_of_le hR hcW.size
      have hoW : w.heap.size < W.heap.size := by subst hW; simp
      have HCW := hid hcW
      clear hW hcW hcell hfz
      go_region_held3 (fun wX => wX.cell? ⟨q, i * 2, none⟩ = some (.slice (some ⟨b.R i, 0, none⟩) (g.rf i).length (g.rf i).length) ∧ wX.cell? ⟨w.heap.size, 2, none⟩ = some (.int .i64 j))
        (first | with_reducible exact ⟨m1, m2⟩ | go_keep)
        (first | fail)
      go_wp2_with fail
      go_ret
      have hst := Step.refl H.out (HCW.out.trans ((Chg.refl _ W).drew))
      exact ⟨rfl, b, .of_step (hst.trans (step_setRef hst.at_ i j r hi hj hzr)) F.out HN.out⟩
end
end Go.Proofs.Ytcdllelbdcacjaa.R
