/-
  The document's graph (layer 13): 'asks'; 'step' where it asks.
-/
import Derived.Test.YtcdllelbdcacjaaRGraph7
set_option linter.unusedVariables false
set_option linter.unusedSimpArgs false
namespace Go.Proofs.Ytcdllelbdcacjaa.R
open Go.RowKit

theorem After.quiet {dcap : Nat} {w w1 w2 : World} {b b1 : GB} {g g1 : GS} {pA : Nat} {vt vo : Value} {word : Int} {bit : Bool} (h : After dcap w w1 b b1 g g1 pA vt vo word bit) (c : Chg (fun _ => False) w1 w2) : After dcap w w2 b b1 g g1 pA vt vo word bit :=
  ⟨h.at_.quiet c, h.chg.next c (fun _ _ h => absurd h (by simp)), h.own, h.p, h.S, h.n, h.tv, h.ans.chg c (by simp)⟩

section
variable {dcap : Nat} (w : World) (b : GB) (g : GS) (t : Nat) (x y z v : Int) (pA : Nat) (vt vo : Value) (h : GAt dcap w b g) (ht : t < g.n) (f : Five w pA vt vo (.int .i64 0) (.int .u64 0) (.bool false)) (hn : ¬ b.has g.n g.m pA)
include h ht f hn

set_option maxRecDepth 100000 in
set_option maxHeartbeats 4000000 in
theorem asks_9 : Calls Try.prog 51 #[.pointer (some ⟨b.p, 0, none⟩), .pointer (some ⟨b.S t, 0, none⟩), .agg #[.int .i64 9, .int .i64 x, .int .i64 y, .int .i64 z, .int .u64 v], .pointer (some ⟨pA, 0, none⟩)] w (SPost dcap w b g pA vt vo (g.act t ⟨9, x, y, z, v⟩)) := by
  have e0 := (act_k g t ⟨9, x, y, z, v⟩).2.2.2.2.2.2.2.2.1 rfl
  rw [e0]
  have H := hid h
  have F := hid f
  have HN := hid hn
  have hX := fun w' (c : Chg (fun _ => False) w w') => at_gen w' b g t x (h.quiet c) ht
  have hZ := fun w' (c : Chg (fun _ => False) w w') => at_gen w' b g t y (h.quiet c) ht
  have g4 := f.c4
  have gf := f.fz
  have hpl := f.lt
  by_cases hbad : codeAt (g.st t) x = 10 ∨ codeAt (g.st t) y = 10
  · rw [if_pos hbad]
    have hcs : (codeAt (g.st t) x = 0 ∧ codeAt (g.st t) y = 10) ∨ (codeAt (g.st t) x = 10 ∧ codeAt (g.st t) y = 0) ∨ (codeAt (g.st t) x = 10 ∧ codeAt (g.st t) y = 10) := by
      rcases codeAt_cases (g.st t) x with ⟨_, q⟩ | ⟨_, q, _⟩ <;> rcases codeAt_cases (g.st t) y with ⟨_, q'⟩ | ⟨_, q', _⟩ <;> omega
    clear h e0 f hn hbad
    rcases hcs with ⟨c1, c2⟩ | ⟨c1, c2⟩ | ⟨c1, c2⟩
    all_goals (
      rw [c1] at hX
      rw [c2] at hZ
      have HX := hid hX
      have HZ := hid hZ
      clear hX hZ c1 c2
      go_enter Try.func51, Try.ntmps51
      go_wp2_with (first
        | (go_at_call_of 18 (Value.int IntKind.i64 x); refine (HX.out _ (by (repeat (first | with_reducible exact Chg.refl _ _ | with_reducible apply Chg.drewN | with_reducible apply Chg.drew | with_reducible apply Chg.alloc | (with_reducible refine Chg.setCell ?_ ?_ _; rotate_left; focus (first | (refine Or.inr ?_; first | omega | (simp; done) | (simp; omega)) | exact Or.inl (by assumption) | with_reducible exact Or.inl rfl | exact Or.inl (by simp))) | refine Chg.trans ?_ (Chg.of_below (by with_reducible assumption) (fun k h1 h2 => absurd h1 (by first | omega | (simp; omega)))) | refine Chg.trans ?_ (by with_reducible assumption))))).mono ?_; rintro e w' ⟨rfl, rfl⟩)
        | (go_at_call_of 18 (Value.int IntKind.i64 y); refine (HZ.out _ (by (repeat (first | with_reducible exact Chg.refl _ _ | with_reducible apply Chg.drewN | with_reducible apply Chg.drew | with_reducible apply Chg.alloc | (with_reducible refine Chg.setCell ?_ ?_ _; rotate_left; focus (first | (refine Or.inr ?_; first | omega | (simp; done) | (simp; omega)) | exact Or.inl (by assumption) | with_reducible exact Or.inl rfl | exact Or.inl (by simp))) | refine Chg.trans ?_ (Chg.of_below (by with_reducible assumption) (fun k h1 h2 => absurd h1 (by first | omega | (simp; omega)))) | refine Chg.trans ?_ (by with_reducible assumption))))).mono ?_; rintro e w' ⟨rfl, rfl⟩))
      go_ret
      exact ⟨rfl, b, .of_step (Step.refl H.out (by (repeat (first | with_reducible exact Chg.refl _ _ | with_reducible apply Chg.drewN | with_reducible apply Chg.drew | with_reducible apply Chg.alloc | (with_reducible refine Chg.setCell ?_ ?_ _; rotate_left; focus (first | (refine Or.inr ?_; first | omega | (simp; done) | (simp; omega)) | exact Or.inl (by assumption) | with_reducible exact Or.inl rfl | exact Or.inl (by simp))) | refine Chg.trans ?_ (Chg.of_below (by with_reducible assumption) (fun k h1 h2 => absurd h1 (by first | omega | (simp; omega)))) | refine Chg.trans ?_ (by with_reducible assumption))))) F.out HN.out⟩)
  · rw [if_neg hbad]
    have c2 : codeAt (g.st t) y = 0 := by
      rcases codeAt_cases (g.st t) y with ⟨_, q⟩ | ⟨_, q, _⟩
      · exact q
      · exact absurd (.inr q) hbad
    have c1 : codeAt (g.st t) x = 0 := by
      rcases codeAt_cases (g.st t) x with ⟨_, q⟩ | ⟨_, q, _⟩
      · exact q
      · exact absurd (.inl q) hbad
    rw [c1] at hX
    rw [c2] at hZ
    have HX := hid hX
    have HZ := hid hZ
    clear h e0 f hn hbad hX hZ c1 c2
    revert HX HZ
    generalize refAt (g.st t) x = r
    generalize refAt (g.st t) y = s
    intro HX HZ
    go_enter Try.func51, Try.ntmps51
    go_wp2_with (first
      | (go_at_call_of 18 (Value.int IntKind.i64 x); refine (HX.out _ (by (repeat (first | with_reducible exact Chg.refl _ _ | with_reducible apply Chg.drewN | with_reducible apply Chg.drew | with_reducible apply Chg.alloc | (with_reducible refine Chg.setCell ?_ ?_ _; rotate_left; focus (first | (refine Or.inr ?_; first | omega | (simp; done) | (simp; omega)) | exact Or.inl (by assumption) | with_reducible exact Or.inl rfl | exact Or.inl (by simp))) | refine Chg.trans ?_ (Chg.of_below (by with_reducible assumption) (fun k h1 h2 => absurd h1 (by first | omega | (simp; omega)))) | refine Chg.trans ?_ (by with_reducible assumption))))).mono ?_; rintro e w' ⟨rfl, rfl⟩)
      | (go_at_call_of 18 (Value.int IntKind.i64 y); refine (HZ.out _ (by (repeat (first | with_reducible exact Chg.refl _ _ | with_reducible apply Chg.drewN | with_reducible apply Chg.drew | with_reducible apply Chg.alloc | (with_reducible refine Chg.setCell ?_ ?_ _; rotate_left; focus (first | (refine Or.inr ?_; first | omega | (simp; done) | (simp; omega)) | exact Or.inl (by assumption) | with_reducible exact Or.inl rfl | exact Or.inl (by simp))) | refine Chg.trans ?_ (Chg.of_below (by with_reducible assumption) (fun k h1 h2 => absurd h1 (by first | omega | (simp; omega)))) | refine Chg.trans ?_ (by with_reducible assumption))))).mono ?_; rintro e w' ⟨rfl, rfl⟩))
    go_ret
    exact ⟨rfl, b, (After.bit (Step.refl H.out (Chg.refl _ _)) F.out HN.out _).quiet (by (repeat (first | with_reducible exact Chg.refl _ _ | with_reducible apply Chg.drewN | with_reducible apply Chg.drew | with_reducible apply Chg.alloc | (with_reducible refine Chg.setCell ?_ ?_ _; rotate_left; focus (first | (refine Or.inr ?_; first | omega | (simp; done) | (simp; omega)) | exact Or.inl (by assumption) | with_reducible exact Or.inl rfl | exact Or.inl (by simp))) | refine Chg.trans ?_ (Chg.of_below (by with_reducible assumption) (fun k h1 h2 => absurd h1 (by first | omega | (simp; omega)))) | refine Chg.trans ?_ (by with_reducible assumption))))⟩

set_option maxRecDepth 100000 in
set_option maxHeartbeats 4000000 in
theorem asks_10 : Calls Try.prog 51 #[.pointer (some ⟨b.p, 0, none⟩), .pointer (some ⟨b.S t, 0, none⟩), .agg #[.int .i64 10, .int .i64 x, .int .i64 y, .int .i64 z, .int .u64 v], .pointer (some ⟨pA, 0, none⟩)] w (SPost dcap w b g pA vt vo (g.act t ⟨10, x, y, z, v⟩)) := by
  have e0 := (act_k g t ⟨10, x, y, z, v⟩).2.2.2.2.2.2.2.2.2.1 rfl
  rw [e0]
  have H := hid h
  have F := hid f
  have HN := hid hn
  have hX := fun w' (c : Chg (fun _ => False) w w') => at_gen w' b g t x (h.quiet c) ht
  have g4 := f.c4
  have gf := f.fz
  have hpl := f.lt
  rcases codeAt_cases (g.st t) x with ⟨_, c1⟩ | ⟨_, c1, _⟩
  · rw [if_neg (by rw [c1]; decide)]
    rw [c1] at hX
    have HX := hid hX
    clear h e0 f hn hX c1
    revert HX
    generalize refAt (g.st t) x = r
    intro HX
    go_enter Try.func51, Try.ntmps51
    go_wp2_with (go_at_call 18; refine (HX.out _ (by (repeat (first | with_reducible exact Chg.refl _ _ | with_reducible apply Chg.drewN | with_reducible apply Chg.drew | with_reducible apply Chg.alloc | (with_reducible refine Chg.setCell ?_ ?_ _; rotate_left; focus (first | (refine Or.inr ?_; first | omega | (simp; done) | (simp; omega)) | exact Or.inl (by assumption) | with_reducible exact Or.inl rfl | exact Or.inl (by simp))) | refine Chg.trans ?_ (Chg.of_below (by with_reducible assumption) (fun k h1 h2 => absurd h1 (by first | omega | (simp; omega)))) | refine Chg.trans ?_ (by with_reducible assumption))))).mono ?_; rintro e w' ⟨rfl, rfl⟩)
    go_ret
    exact ⟨rfl, b, (After.bit (Step.refl H.out (Chg.refl _ _)) F.out HN.out _).quiet (by (repeat (first | with_reducible exact Chg.refl _ _ | with_reducible apply Chg.drewN | with_reducible apply Chg.drew | with_reducible apply Chg.alloc | (with_reducible refine Chg.setCell ?_ ?_ _; rotate_left; focus (first | (refine Or.inr ?_; first | omega | (simp; done) | (simp; omega)) | exact Or.inl (by assumption) | with_reducible exact Or.inl rfl | exact Or.inl (by simp))) | refine Chg.trans ?_ (Chg.of_below (by with_reducible assumption) (fun k h1 h2 => absurd h1 (by first | omega | (simp; omega)))) | refine Chg.trans ?_ (by with_reducible assumption))))⟩
  · rw [if_pos c1]
    rw [c1] at hX
    have HX := hid hX
    clear h e0 f hn hX c1
    go_enter Try.func51, Try.ntmps51
    go_wp2_with (go_at_call 18; refine (HX.out _ (by (repeat (first | with_reducible exact Chg.refl _ _ | with_reducible apply Chg.drewN | with_reducible apply Chg.drew | with_reducible apply Chg.alloc | (with_reducible refine Chg.setCell ?_ ?_ _; rotate_left; focus (first | (refine Or.inr ?_; first | omega | (simp; done) | (simp; omega)) | exact Or.inl (by assumption) | with_reducible exact Or.inl rfl | exact Or.inl (by simp))) | refine Chg.trans ?_ (Chg.of_below (by with_reducible assumption) (fun k h1 h2 => absurd h1 (by first | omega | (simp; omega)))) | refine Chg.trans ?_ (by with_reducible assumption))))).mono ?_; rintro e w' ⟨rfl, rfl⟩)
    go_ret
    exact ⟨rfl, b, .of_step (Step.refl H.out (by (repeat (first | with_reducible exact Chg.refl _ _ | with_reducible apply Chg.drewN | with_reducible apply Chg.drew | with_reducible apply Chg.alloc | (with_reducible refine Chg.setCell ?_ ?_ _; rotate_left; focus (first | (refine Or.inr ?_; first | omega | (simp; done) | (simp; omega)) | exact Or.inl (by assumption) | with_reducible exact Or.inl rfl | exact Or.inl (by simp))) | refine Chg.trans ?_ (Chg.of_below (by with_reducible assumption) (fun k h1 h2 => absurd h1 (by first | omega | (simp; omega)))) | refine Chg.trans ?_ (by with_reducible assumption))))) F.out HN.out⟩

set_option maxRecDepth 100000 in
set_option maxHeartbeats 4000000 in
theorem asks_11 : Calls Try.prog 51 #[.pointer (some ⟨b.p, 0, none⟩), .pointer (some ⟨b.S t, 0, none⟩), .agg #[.int .i64 11, .int .i64 x, .int .i64 y, .int .i64 z, .int .u64 v], .pointer (some ⟨pA, 0, none⟩)] w (SPost dcap w b g pA vt vo (g.act t ⟨11, x, y, z, v⟩)) := by
  have _ := ht
  have e0 := (act_k g t ⟨11, x, y, z, v⟩).2.2.2.2.2.2.2.2.2.2.1 rfl
  rw [e0]
  have H := hid h
  have F := hid f
  have HN := hid hn
  clear h e0 f hn
  go_enter Try.func51, Try.ntmps51
  go_wp2_with fail
  go_ret
  exact ⟨rfl, b, .of_step (Step.refl H.out (by (repeat (first | with_reducible exact Chg.refl _ _ | with_reducible apply Chg.drewN | with_reducible apply Chg.drew | with_reducible apply Chg.alloc | (with_reducible refine Chg.setCell ?_ ?_ _; rotate_left; focus (first | (refine Or.inr ?_; first | omega | (simp; done) | (simp; omega)) | exact Or.inl (by assumption) | with_reducible exact Or.inl rfl | exact Or.inl (by simp))) | refine Chg.trans ?_ (Chg.of_below (by with_reducible assumption) (fun k h1 h2 => absurd h1 (by first | omega | (simp; omega)))) | refine Chg.trans ?_ (by with_reducible assumption))))) F.out HN.out⟩

set_option maxRecDepth 100000 in
set_option maxHeartbeats 4000000 in
theorem asks_12 : Calls Try.prog 51 #[.pointer (some ⟨b.p, 0, none⟩), .pointer (some ⟨b.S t, 0, none⟩), .agg #[.int .i64 12, .int .i64 x, .int .i64 y, .int .i64 z, .int .u64 v], .pointer (some ⟨pA, 0, none⟩)] w (SPost dcap w b g pA vt vo (g.act t ⟨12, x, y, z, v⟩)) := by
  have _ := ht
  have e0 := (act_k g t ⟨12, x, y, z, v⟩).2.2.2.2.2.2.2.2.2.2.2.1 rfl
  rw [e0]
  have H := hid h
  have F := hid f
  have HN := hid hn
  clear h e0 f hn
  by_cases c1 : x < 0
  · rw [if_pos (.inl c1)]
    go_enter Try.func51, Try.ntmps51
    go_wp2_with fail
    go_ret
    exact ⟨rfl, b, .of_step (Step.refl H.out (by (repeat (first | with_reducible exact Chg.refl _ _ | with_reducible apply Chg.drewN | with_reducible apply Chg.drew | with_reducible apply Chg.alloc | (with_reducible refine Chg.setCell ?_ ?_ _; rotate_left; focus (first | (refine Or.inr ?_; first | omega | (simp; done) | (simp; omega)) | exact Or.inl (by assumption) | with_reducible exact Or.inl rfl | exact Or.inl (by simp))) | refine Chg.trans ?_ (Chg.of_below (by with_reducible assumption) (fun k h1 h2 => absurd h1 (by first | omega | (simp; omega)))) | refine Chg.trans ?_ (by with_reducible assumption))))) F.out HN.out⟩
  · by_cases c2 : 3 < x
    · rw [if_pos (.inr c2)]
      have d1 : 0 ≤ x := by omega
      clear c1
      go_enter Try.func51, Try.ntmps51
      go_wp2_with fail
      go_ret
      exact ⟨rfl, b, .of_step (Step.refl H.out (by (repeat (first | with_reducible exact Chg.refl _ _ | with_reducible apply Chg.drewN | with_reducible apply Chg.drew | with_reducible apply Chg.alloc | (with_reducible refine Chg.setCell ?_ ?_ _; rotate_left; focus (first | (refine Or.inr ?_; first | omega | (simp; done) | (simp; omega)) | exact Or.inl (by assumption) | with_reducible exact Or.inl rfl | exact Or.inl (by simp))) | refine Chg.trans ?_ (Chg.of_below (by with_reducible assumption) (fun k h1 h2 => absurd h1 (by first | omega | (simp; omega)))) | refine Chg.trans ?_ (by with_reducible assumption))))) F.out HN.out⟩
    · rw [if_neg (show ¬ (x < 0 ∨ 3 < x) by omega)]
      have d1 : 0 ≤ x := by omega
      have d2 : x ≤ 3 := by omega
      clear c1 c2
      go_enter Try.func51, Try.ntmps51
      go_wp2_with fail
      go_ret
      exact ⟨rfl, b, .of_step (Step.refl H.out (by (repeat (first | with_reducible exact Chg.refl _ _ | with_reducible apply Chg.drewN | with_reducible apply Chg.drew | with_reducible apply Chg.alloc | (with_reducible refine Chg.setCell ?_ ?_ _; rotate_left; focus (first | (refine Or.inr ?_; first | omega | (simp; done) | (simp; omega)) | exact Or.inl (by assumption) | with_reducible exact Or.inl rfl | exact Or.inl (by simp))) | refine Chg.trans ?_ (Chg.of_below (by with_reducible assumption) (fun k h1 h2 => absurd h1 (by first | omega | (simp; omega)))) | refine Chg.trans ?_ (by with_reducible assumption))))) F.out HN.out⟩

set_option maxRecDepth 100000 in
set_option maxHeartbeats 4000000 in
theorem asks_other (k : Int) (hk : k < 1 ∨ 13 < k) : Calls Try.prog 51 #[.pointer (some ⟨b.p, 0, none⟩), .pointer (some ⟨b.S t, 0, none⟩), .agg #[.int .i64 k, .int .i64 x, .int .i64 y, .int .i64 z, .int .u64 v], .pointer (some ⟨pA, 0, none⟩)] w (SPost dcap w b g pA vt vo (g.act t ⟨k, x, y, z, v⟩)) := by
  have _ := ht
  have e0 := (act_k g t ⟨k, x, y, z, v⟩).2.2.2.2.2.2.2.2.2.2.2.2.2 hk
  rw [e0]
  have H := hid h
  have F := hid f
  have HN := hid hn
  have n9 : (k == 9) = false := by simp; omega
  have n10 : (k == 10) = false := by simp; omega
  have n11 : (k == 11) = false := by simp; omega
  have n12 : (k == 12) = false := by simp; omega
  have m9 : ¬ k = 9 := by omega
  have m10 : ¬ k = 10 := by omega
  have m11 : ¬ k = 11 := by omega
  have m12 : ¬ k = 12 := by omega
  clear h e0 f hn hk
  go_enter Try.func51, Try.ntmps51
  go_wp2_with fail
  go_ret
  exact ⟨rfl, b, .of_step (Step.refl H.out (by (repeat (first | with_reducible exact Chg.refl _ _ | with_reducible apply Chg.drewN | with_reducible apply Chg.drew | with_reducible apply Chg.alloc | (with_reducible refine Chg.setCell ?_ ?_ _; rotate_left; focus (first | (refine Or.inr ?_; first | omega | (simp; done) | (simp; omega)) | exact Or.inl (by assumption) | with_reducible exact Or.inl rfl | exact Or.inl (by simp))) | refine Chg.trans ?_ (Chg.of_below (by with_reducible assumption) (fun k h1 h2 => absurd h1 (by first | omega | (simp; omega)))) | refine Chg.trans ?_ (by with_reducible assumption))))) F.out HN.out⟩
end

/-- the post of a call behind a quiet change -/
theorem SPost.from {dcap : Nat} {w w1 : World} {b : GB} {g : GS} {pA : Nat} {vt vo : Value} {r : Out} {e : Ending} {w' : World} (c : Chg (fun _ => False) w w1) (hb : ∀ k, b.has g.n g.m k → k < w.heap.size) (h : SPost dcap w1 b g pA vt vo r e w') (hp : pA < w.heap.size) : SPost dcap w b g pA vt vo r e w' := by
  obtain ⟨he, b', h⟩ := h
  refine ⟨he, b', h.at_, (c.mono (fun _ _ h => absurd h (by simp))).trans h.chg, fun k hk => ?_, h.p, h.S, h.n, h.tv, h.ans⟩
  · rcases h.own k hk with h1 | h1
    · exact .inl h1
    · right; have := c.size; omega
end Go.Proofs.Ytcdllelbdcacjaa.R
