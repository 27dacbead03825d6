/-
  The document's graph (layer 13): 'step', kind by kind: what is read, written.
-/
import Derived.Test.YtcdllelbdcacjaaRGraph6
set_option linter.unusedVariables false
set_option linter.unusedSimpArgs false
namespace Go.Proofs.Ytcdllelbdcacjaa.R
open Go.RowKit

section
variable {dcap : Nat} (w : World) (b : GB) (g : GS) (t : Nat) (x y z v : Int) (pA : Nat) (vt vo : Value) (h : GAt dcap w b g) (ht : t < g.n) (f : Five w pA vt vo (.int .i64 0) (.int .u64 0) (.bool false)) (hn : ¬ b.has g.n g.m pA)
include h ht f hn

set_option maxRecDepth 100000 in
set_option maxHeartbeats 4000000 in
theorem step_4 : Calls Try.prog 39 #[.pointer (some ⟨b.p, 0, none⟩), .pointer (some ⟨b.S t, 0, none⟩), .agg #[.int .i64 4, .int .i64 x, .int .i64 y, .int .i64 z, .int .u64 v], .pointer (some ⟨pA, 0, none⟩)] w (SPost dcap w b g pA vt vo (g.act t ⟨4, x, y, z, v⟩)) := by
  have e0 : g.act t ⟨4, x, y, z, v⟩ = ⟨g, (g.read t x y).1, false, (g.read t x y).2⟩ := (act_k g t _).2.2.2.1 rfl
  rw [e0]
  have H := hid h
  have F := hid f
  have HN := hid hn
  by_cases h1 : refAt (g.st t) x = 0
  · have hG := fun w' (c : Chg (fun _ => False) w w') => obj_none w' b g t x (h.quiet c) ht h1
    have e1 : g.read t x y = (0, if codeAt (g.st t) x = 10 then 10 else 12) := by
      unfold GS.read
      by_cases h2 : codeAt (g.st t) x = 10
      · rw [if_pos h2, if_pos h2]
      · rw [if_neg h2, if_neg h2, if_pos h1]
    have hc : (if codeAt (g.st t) x = 10 then 10 else 12 : Int) = 10 ∨ (if codeAt (g.st t) x = 10 then 10 else 12 : Int) = 12 := by split <;> simp
    rw [e1]
    have HG := hid hG
    clear h e0 e1 f hn hG
    revert HG hc
    generalize (if codeAt (g.st t) x = 10 then 10 else 12 : Int) = c
    intro hc HG
    rcases hc with rfl | rfl
    all_goals (
      go_enter Try.func39, Try.ntmps39
      go_wp2_with (go_at_call 50; refine (HG.out _ (by (repeat (first | with_reducible exact Chg.refl _ _ | with_reducible apply Chg.drewN | with_reducible apply Chg.drew | with_reducible apply Chg.alloc | (with_reducible refine Chg.setCell ?_ ?_ _; rotate_left; focus (first | (refine Or.inr ?_; first | omega | (simp; done) | (simp; omega)) | exact Or.inl (by assumption) | with_reducible exact Or.inl rfl | exact Or.inl (by simp))) | refine Chg.trans ?_ (Chg.of_below (by with_reducible assumption) (fun k h1 h2 => absurd h1 (by first | omega | (simp; omega)))) | refine Chg.trans ?_ (by with_reducible assumption))))).mono ?_; rintro e w1 ⟨rfl, rfl⟩)
      go_ret
      exact ⟨rfl, b, .of_step (Step.refl H.out (by (repeat (first | with_reducible exact Chg.refl _ _ | with_reducible apply Chg.drewN | with_reducible apply Chg.drew | with_reducible apply Chg.alloc | (with_reducible refine Chg.setCell ?_ ?_ _; rotate_left; focus (first | (refine Or.inr ?_; first | omega | (simp; done) | (simp; omega)) | exact Or.inl (by assumption) | with_reducible exact Or.inl rfl | exact Or.inl (by simp))) | refine Chg.trans ?_ (Chg.of_below (by with_reducible assumption) (fun k h1 h2 => absurd h1 (by first | omega | (simp; omega)))) | refine Chg.trans ?_ (by with_reducible assumption))))) F.out HN.out⟩)
  · obtain ⟨i, q, hi, hie, hqb, hql, o2, o1, c1, hO⟩ := obj_got w b g t x h ht h1
    have HG := hid hO
    have hln : ((g.dt i).length : Int) ≤ 1048576 := by have := (h.small i hi).2; omega
    by_cases hb : InL (g.dt i).length y
    rotate_left
    · have e1 : g.read t x y = (0, 11) := by
        unfold GS.read
        rw [if_neg (by rw [c1]; decide), if_neg h1, hie, if_neg hb]
      rw [e1]
      by_cases hy : y < 0
      · clear h e0 e1 f hn hO hb h1 hie o2 hqb c1
        go_enter Try.func39, Try.ntmps39
        go_upto_region 33 with (go_at_call 50; refine (HG.out _ (by (repeat (first | with_reducible exact Chg.refl _ _ | with_reducible apply Chg.drewN | with_reducible apply Chg.drew | with_reducible apply Chg.alloc | (with_reducible refine Chg.setCell ?_ ?_ _; rotate_left; focus (first | (refine Or.inr ?_; first | omega | (simp; done) | (simp; omega)) | exact Or.inl (by assumption) | with_reducible exact Or.inl rfl | exact Or.inl (by simp))) | refine Chg.trans ?_ (Chg.of_below (by with_reducible assumption) (fun k h1 h2 => absurd h1 (by first | omega | (simp; omega)))) | refine Chg.trans ?_ (by with_reducible assumption))))).mono ?_; rintro e w1 ⟨rfl, rfl⟩)
        go_quiet (fail)
        go_wp2_with fail
        go_ret
        exact ⟨rfl, b, .of_step (Step.refl H.out (by (repeat (first | with_reducible exact Chg.refl _ _ | with_reducible apply Chg.drewN | with_reducible apply Chg.drew | with_reducible apply Chg.alloc | (with_reducible refine Chg.setCell ?_ ?_ _; rotate_left; focus (first | (refine Or.inr ?_; first | omega | (simp; done) | (simp; omega)) | exact Or.inl (by assumption) | with_reducible exact Or.inl rfl | exact Or.inl (by simp))) | refine Chg.trans ?_ (Chg.of_below (by with_reducible assumption) (fun k h1 h2 => absurd h1 (by first | omega | (simp; omega)))) | refine Chg.trans ?_ (by with_reducible assumption))))) F.out HN.out⟩
      · have d3 : decide (y < 0) = false := by simp; omega
        have d2 : ((g.dt i).length : Int) ≤ y := by unfold InL at hb; omega
        clear h e0 e1 f hn hO hb h1 hie o2 hqb c1
        go_enter Try.func39, Try.ntmps39
        go_upto_region 33 with (go_at_call 50; refine (HG.out _ (by (repeat (first | with_reducible exact Chg.refl _ _ | with_reducible apply Chg.drewN | with_reducible apply Chg.drew | with_reducible apply Chg.alloc | (with_reducible refine Chg.setCell ?_ ?_ _; rotate_left; focus (first | (refine Or.inr ?_; first | omega | (simp; done) | (simp; omega)) | exact Or.inl (by assumption) | with_reducible exact Or.inl rfl | exact Or.inl (by simp))) | refine Chg.trans ?_ (Chg.of_below (by with_reducible assumption) (fun k h1 h2 => absurd h1 (by first | omega | (simp; omega)))) | refine Chg.trans ?_ (by with_reducible assumption))))).mono ?_; rintro e w1 ⟨rfl, rfl⟩)
        go_quiet (fail)
        go_wp2_with fail
        go_ret
        exact ⟨rfl, b, .of_step (Step.refl H.out (by (repeat (first | with_reducible exact Chg.refl _ _ | with_reducible apply Chg.drewN | with_reducible apply Chg.drew | with_reducible apply Chg.alloc | (with_reducible refine Chg.setCell ?_ ?_ _; rotate_left; focus (first | (refine Or.inr ?_; first | omega | (simp; done) | (simp; omega)) | exact Or.inl (by assumption) | with_reducible exact Or.inl rfl | exact Or.inl (by simp))) | refine Chg.trans ?_ (Chg.of_below (by with_reducible assumption) (fun k h1 h2 => absurd h1 (by first | omega | (simp; omega)))) | refine Chg.trans ?_ (by with_reducible assumption))))) F.out HN.out⟩
    · obtain ⟨j, rfl, hj⟩ := inL_nat hb
      have e1 : g.read t x j = ((g.dt i).getD j 0, 0) := by
        unfold GS.read
        rw [if_neg (by rw [c1]; decide), if_neg h1, hie, if_pos hb, Int.toNat_natCast]
      rw [e1]
      have hcell := (h.dts i hi).cell hj
      have hR : b.D i < w.heap.size := (h.dts i hi).lt
      have d2 : (j : Int) < ((g.dt i).length : Int) := by omega
      have d3 : decide ((j : Int) < 0) = false := by simp
      have d5 : decide ((g.dt i).length ≤ j) = false := by simp; omega
      have q1 : ¬ q = pA := fun e => hn ⟨.ob, by rw [← e]; exact hqb⟩
      have q2 : ¬ pA = q := fun e => q1 e.symm
      have hpA := f.lt
      have q3 : ¬ w.heap.size = pA := by omega
      have q4 : ¬ pA = w.heap.size := by omega
      have q5 : ¬ b.D i = pA := fun e => hn ⟨.dt i, by rw [← e]; exact if_pos hi⟩
      have q6 : ¬ pA = b.D i := fun e => q5 e.symm
      have g3 := f.c3
      have gf := f.fz
      clear h e0 e1 f hn hO hb h1 hie o2 hqb c1
      revert hcell
      generalize (g.dt i).getD j 0 = r
      intro hcell
      go_enter Try.func39, Try.ntmps39
      go_upto_region 33 with (go_at_call 50; refine (HG.out _ (by (repeat (first | with_reducible exact Chg.refl _ _ | with_reducible apply Chg.drewN | with_reducible apply Chg.drew | with_reducible apply Chg.alloc | (with_reducible refine Chg.setCell ?_ ?_ _; rotate_left; focus (first | (refine Or.inr ?_; first | omega | (simp; done) | (simp; omega)) | exact Or.inl (by assumption) | with_reducible exact Or.inl rfl | exact Or.inl (by simp))) | refine Chg.trans ?_ (Chg.of_below (by with_reducible assumption) (fun k h1 h2 => absurd h1 (by first | omega | (simp; omega)))) | refine Chg.trans ?_ (by with_reducible assumption))))).mono ?_; rintro e w1 ⟨rfl, rfl⟩)
      go_quiet (fail)
      go_upto_region 37 with fail
      generalize hW : (World.drewN (World.alloc w (.cells #[.int .i64 4, .int .i64 x, .int .i64 j, .int .i64 z, .int .u64 v] 67)) nq) = W
      have hcW : Chg (fun _ => False) w W := by subst hW; (repeat (first | with_reducible exact Chg.refl _ _ | with_reducible apply Chg.drewN | with_reducible apply Chg.drew | with_reducible apply Chg.alloc | (with_reducible refine Chg.setCell ?_ ?_ _; rotate_left; focus (first | (refine Or.inr ?_; first | omega | (simp; done) | (simp; omega)) | exact Or.inl (by assumption) | with_reducible exact Or.inl rfl | exact Or.inl (by simp))) | refine Chg.trans ?_ (Chg.of_below (by with_reducible assumption) (fun k h1 h2 => absurd h1 (by first | omega | (simp; omega)))) | refine Chg.trans ?_ (by with_reducible assumption)))
      have m1 : W.cell? ⟨q, i * 2 + 1, none⟩ = some (.slice (some ⟨b.D i, 0, none⟩) (g.dt i).length (g.dt i).length) := by subst hW; go_simp
      have m2 : W.cell? ⟨w.heap.size, 2, none⟩ = some (.int .i64 j) := by subst hW; go_simp
      have m3 := (hcW.cell (o := j) hR (by simp)).trans hcell
      have m4 := (hcW.cell (o := 3) hpA (by simp)).trans g3
      have m5 := (hcW.frozen (o := 3) hpA (by simp)).trans (gf 3)
      have hpW : pA < W.heap.size := Nat.lt_of_lt_of_le hpA hcW.size
      have hqW : q < W.heap.size := Nat.lt_of_lt_of_le hql hcW.size
      have hRW : b.D i < W.heap.size := Nat.lt_of_lt_of_le hR hcW.size
      have hoW : w.heap.size < W.heap.size := by subst hW; simp
      have HCW := hid hcW
      clear hW hcW hcell g3 gf
      go_region_held3 (fun wX => wX.cell? ⟨q, i * 2 + 1, none⟩ = some (.slice (some ⟨b.D i, 0, none⟩) (g.dt i).length (g.dt i).length) ∧ wX.cell? ⟨w.heap.size, 2, none⟩ = some (.int .i64 j) ∧ wX.cell? ⟨b.D i, j, none⟩ = some (.int .u64 r))
        (first | with_reducible exact ⟨m1, m2, m3⟩ | go_keep)
        (first | fail)
      go_wp2_with fail
      go_ret
      have hst := Step.refl H.out (HCW.out.trans ((Chg.refl _ W).drew))
      exact ⟨rfl, b, .word hst F.out HN.out r⟩

set_option maxRecDepth 100000 in
set_option maxHeartbeats 4000000 in
theorem step_5 : Calls Try.prog 39 #[.pointer (some ⟨b.p, 0, none⟩), .pointer (some ⟨b.S t, 0, none⟩), .agg #[.int .i64 5, .int .i64 x, .int .i64 y, .int .i64 z, .int .u64 v], .pointer (some ⟨pA, 0, none⟩)] w (SPost dcap w b g pA vt vo (g.act t ⟨5, x, y, z, v⟩)) := by
  have e0 : g.act t ⟨5, x, y, z, v⟩ = ⟨(g.write t x y v).1, 0, false, (g.write t x y v).2⟩ := (act_k g t _).2.2.2.2.1 rfl
  rw [e0]
  have H := hid h
  have F := hid f
  have HN := hid hn
  by_cases h1 : refAt (g.st t) x = 0
  · have hG := fun w' (c : Chg (fun _ => False) w w') => obj_none w' b g t x (h.quiet c) ht h1
    have e1 : g.write t x y v = (g, if codeAt (g.st t) x = 10 then 10 else 12) := by
      unfold GS.write
      by_cases h2 : codeAt (g.st t) x = 10
      · rw [if_pos h2, if_pos h2]
      · rw [if_neg h2, if_neg h2, if_pos h1]
    have hc : (if codeAt (g.st t) x = 10 then 10 else 12 : Int) = 10 ∨ (if codeAt (g.st t) x = 10 then 10 else 12 : Int) = 12 := by split <;> simp
    rw [e1]
    have HG := hid hG
    clear h e0 e1 f hn hG
    revert HG hc
    generalize (if codeAt (g.st t) x = 10 then 10 else 12 : Int) = c
    intro hc HG
    rcases hc with rfl | rfl
    all_goals (
      go_enter Try.func39, Try.ntmps39
      go_wp2_with (go_at_call 50; refine (HG.out _ (by (repeat (first | with_reducible exact Chg.refl _ _ | with_reducible apply Chg.drewN | with_reducible apply Chg.drew | with_reducible apply Chg.alloc | (with_reducible refine Chg.setCell ?_ ?_ _; rotate_left; focus (first | (refine Or.inr ?_; first | omega | (simp; done) | (simp; omega)) | exact Or.inl (by assumption) | with_reducible exact Or.inl rfl | exact Or.inl (by simp))) | refine Chg.trans ?_ (Chg.of_below (by with_reducible assumption) (fun k h1 h2 => absurd h1 (by first | omega | (simp; omega)))) | refine Chg.trans ?_ (by with_reducible assumption))))).mono ?_; rintro e w1 ⟨rfl, rfl⟩)
      go_ret
      exact ⟨rfl, b, .of_step (Step.refl H.out (by (repeat (first | with_reducible exact Chg.refl _ _ | with_reducible apply Chg.drewN | with_reducible apply Chg.drew | with_reducible apply Chg.alloc | (with_reducible refine Chg.setCell ?_ ?_ _; rotate_left; focus (first | (refine Or.inr ?_; first | omega | (simp; done) | (simp; omega)) | exact Or.inl (by assumption) | with_reducible exact Or.inl rfl | exact Or.inl (by simp))) | refine Chg.trans ?_ (Chg.of_below (by with_reducible assumption) (fun k h1 h2 => absurd h1 (by first | omega | (simp; omega)))) | refine Chg.trans ?_ (by with_reducible assumption))))) F.out HN.out⟩)
  · obtain ⟨i, q, hi, hie, hqb, hql, o2, o1, c1, hO⟩ := obj_got w b g t x h ht h1
    have HG := hid hO
    have hln : ((g.dt i).length : Int) ≤ 1048576 := by have := (h.small i hi).2; omega
    by_cases hb : InL (g.dt i).length y
    rotate_left
    · have e1 : g.write t x y v = (g, 11) := by
        unfold GS.write
        rw [if_neg (by rw [c1]; decide), if_neg h1, hie, if_neg hb]
      rw [e1]
      by_cases hy : y < 0
      · clear h e0 e1 f hn hO hb h1 hie o2 hqb c1
        go_enter Try.func39, Try.ntmps39
        go_upto_region 33 with (go_at_call 50; refine (HG.out _ (by (repeat (first | with_reducible exact Chg.refl _ _ | with_reducible apply Chg.drewN | with_reducible apply Chg.drew | with_reducible apply Chg.alloc | (with_reducible refine Chg.setCell ?_ ?_ _; rotate_left; focus (first | (refine Or.inr ?_; first | omega | (simp; done) | (simp; omega)) | exact Or.inl (by assumption) | with_reducible exact Or.inl rfl | exact Or.inl (by simp))) | refine Chg.trans ?_ (Chg.of_below (by with_reducible assumption) (fun k h1 h2 => absurd h1 (by first | omega | (simp; omega)))) | refine Chg.trans ?_ (by with_reducible assumption))))).mono ?_; rintro e w1 ⟨rfl, rfl⟩)
        go_quiet (fail)
        go_wp2_with fail
        go_ret
        exact ⟨rfl, b, .of_step (Step.refl H.out (by (repeat (first | with_reducible exact Chg.refl _ _ | with_reducible apply Chg.drewN | with_reducible apply Chg.drew | with_reducible apply Chg.alloc | (with_reducible refine Chg.setCell ?_ ?_ _; rotate_left; focus (first | (refine Or.inr ?_; first | omega | (simp; done) | (simp; omega)) | exact Or.inl (by assumption) | with_reducible exact Or.inl rfl | exact Or.inl (by simp))) | refine Chg.trans ?_ (Chg.of_below (by with_reducible assumption) (fun k h1 h2 => absurd h1 (by first | omega | (simp; omega)))) | refine Chg.trans ?_ (by with_reducible assumption))))) F.out HN.out⟩
      · have d3 : decide (y < 0) = false := by simp; omega
        have d2 : ((g.dt i).length : Int) ≤ y := by unfold InL at hb; omega
        clear h e0 e1 f hn hO hb h1 hie o2 hqb c1
        go_enter Try.func39, Try.ntmps39
        go_upto_region 33 with (go_at_call 50; refine (HG.out _ (by (repeat (first | with_reducible exact Chg.refl _ _ | with_reducible apply Chg.drewN | with_reducible apply Chg.drew | with_reducible apply Chg.alloc | (with_reducible refine Chg.setCell ?_ ?_ _; rotate_left; focus (first | (refine Or.inr ?_; first | omega | (simp; done) | (simp; omega)) | exact Or.inl (by assumption) | with_reducible exact Or.inl rfl | exact Or.inl (by simp))) | refine Chg.trans ?_ (Chg.of_below (by with_reducible assumption) (fun k h1 h2 => absurd h1 (by first | omega | (simp; omega)))) | refine Chg.trans ?_ (by with_reducible assumption))))).mono ?_; rintro e w1 ⟨rfl, rfl⟩)
        go_quiet (fail)
        go_wp2_with fail
        go_ret
        exact ⟨rfl, b, .of_step (Step.refl H.out (by (repeat (first | with_reducible exact Chg.refl _ _ | with_reducible apply Chg.drewN | with_reducible apply Chg.drew | with_reducible apply Chg.alloc | (with_reducible refine Chg.setCell ?_ ?_ _; rotate_left; focus (first | (refine Or.inr ?_; first | omega | (simp; done) | (simp; omega)) | exact Or.inl (by assumption) | with_reducible exact Or.inl rfl | exact Or.inl (by simp))) | refine Chg.trans ?_ (Chg.of_below (by with_reducible assumption) (fun k h1 h2 => absurd h1 (by first | omega | (simp; omega)))) | refine Chg.trans ?_ (by with_reducible assumption))))) F.out HN.out⟩
    · obtain ⟨j, rfl, hj⟩ := inL_nat hb
      have e1 : g.write t x j v = ({ g with dt := upd g.dt i ((g.dt i).set j v) }, 0) := by
        unfold GS.write
        rw [if_neg (by rw [c1]; decide), if_neg h1, hie, if_pos hb, Int.toNat_natCast]
      rw [e1]
      have hcell := (h.dts i hi).cell hj
      have hfz := (h.dts i hi).frozen j
      have hR : b.D i < w.heap.size := (h.dts i hi).lt
      have d2 : (j : Int) < ((g.dt i).length : Int) := by omega
      have d3 : decide ((j : Int) < 0) = false := by simp
      have d5 : decide ((g.dt i).length ≤ j) = false := by simp; omega
      have q1 : ¬ q = b.D i := fun e => by have := h.inj .ob (.dt i) q hqb (by rw [e]; exact if_pos hi); cases this
      have q2 : ¬ b.D i = q := fun e => q1 e.symm
      have q3 : ¬ w.heap.size = b.D i := by omega
      have q4 : ¬ b.D i = w.heap.size := by omega
      clear h e0 e1 f hn hO hb h1 hie o2 hqb c1
      go_enter Try.func39, Try.ntmps39
      go_upto_region 33 with (go_at_call 50; refine (HG.out _ (by (repeat (first | with_reducible exact Chg.refl _ _ | with_reducible apply Chg.drewN | with_reducible apply Chg.drew | with_reducible apply Chg.alloc | (with_reducible refine Chg.setCell ?_ ?_ _; rotate_left; focus (first | (refine Or.inr ?_; first | omega | (simp; done) | (simp; omega)) | exact Or.inl (by assumption) | with_reducible exact Or.inl rfl | exact Or.inl (by simp))) | refine Chg.trans ?_ (Chg.of_below (by with_reducible assumption) (fun k h1 h2 => absurd h1 (by first | omega | (simp; omega)))) | refine Chg.trans ?_ (by with_reducible assumption))))).mono ?_; rintro e w1 ⟨rfl, rfl⟩)
      go_quiet (fail)
      go_upto_region 36 with fail
      generalize hW : (World.drewN (World.alloc w (.cells #[.int .i64 5, .int .i64 x, .int .i64 j, .int .i64 z, .int .u64 v] 67)) nq) = W
      have hcW : Chg (fun _ => False) w W := by subst hW; (repeat (first | with_reducible exact Chg.refl _ _ | with_reducible apply Chg.drewN | with_reducible apply Chg.drew | with_reducible apply Chg.alloc | (with_reducible refine Chg.setCell ?_ ?_ _; rotate_left; focus (first | (refine Or.inr ?_; first | omega | (simp; done) | (simp; omega)) | exact Or.inl (by assumption) | with_reducible exact Or.inl rfl | exact Or.inl (by simp))) | refine Chg.trans ?_ (Chg.of_below (by with_reducible assumption) (fun k h1 h2 => absurd h1 (by first | omega | (simp; omega)))) | refine Chg.trans ?_ (by with_reducible assumption)))
      have m1 : W.cell? ⟨q, i * 2 + 1, none⟩ = some (.slice (some ⟨b.D i, 0, none⟩) (g.dt i).length (g.dt i).length) := by subst hW; go_simp
      have m2 : W.cell? ⟨w.heap.size, 2, none⟩ = some (.int .i64 j) := by subst hW; go_simp
      have m5 : W.cell? ⟨w.heap.size, 4, none⟩ = some (.int .u64 v) := by subst hW; go_simp
      have m3 := (hcW.cell (o := j) hR (by simp)).trans hcell
      have m4 := (hcW.frozen (o := j) hR (by simp)).trans hfz
      have hqW : q < W.heap.size := Nat.lt_of_lt_of_le hql hcW.size
      have hRW : b.D i < W.heap.size := Nat.lt_of_lt_of_le hR hcW.size
      have hoW : w.heap.size < W.heap.size := by subst hW; simp
      have HCW := hid hcW
      clear hW hcW hcell hfz
      go_region_held3 (fun wX => wX.cell? ⟨q, i * 2 + 1, none⟩ = some (.slice (some ⟨b.D i, 0, none⟩) (g.dt i).length (g.dt i).length) ∧ wX.cell? ⟨w.heap.size, 2, none⟩ = some (.int .i64 j) ∧ wX.cell? ⟨w.heap.size, 4, none⟩ = some (.int .u64 v))
        (first | with_reducible exact ⟨m1, m2, m5⟩ | go_keep)
        (first | fail)
      go_wp2_with fail
      go_ret
      have hst := Step.refl H.out (HCW.out.trans ((Chg.refl _ W).drew))
      exact ⟨rfl, b, .of_step (hst.trans (step_setData hst.at_ i j v hi hj)) F.out HN.out⟩

end
end Go.Proofs.Ytcdllelbdcacjaa.R
