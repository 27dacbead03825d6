/-
  Graphs (layer 13): what an operation does; loads and stores.
-/
import Derived.Test.YtcdllelbdcacjaaGraph5
set_option linter.unusedVariables false
set_option linter.unusedSimpArgs false
namespace Go.Proofs.Ytcdllelbdcacjaa
open Go.RowKit

/-- an operation -/
structure OpS where
  kind : Int
  a : Int
  b : Int
  c : Int
  v : Int

/-- is it a place of the list? -/
def InL (n : Nat) (i : Int) : Prop := 0 ≤ i ∧ i < (n : Int)
instance inLDec (n : Nat) (i : Int) : Decidable (InL n i) := by unfold InL; infer_instance

/-- what lies at a handle (0 where there is none), and its error -/
def refAt (l : List Int) (i : Int) : Int := if InL l.length i then l.getD i.toNat 0 else 0
def codeAt (l : List Int) (i : Int) : Int := if InL l.length i then 0 else 10

/-- a push -/
def GS.push (g : GS) (t : Nat) (r : Int) : GS × Int := if (g.st t).length < g.bound then ({ g with st := upd g.st t (g.st t ++ [r]) }, 0) else (g, 15)

/-- a load -/
def GS.load (g : GS) (t : Nat) (a b : Int) : GS × Int :=
  if codeAt (g.st t) a = 10 then (g, 10)
  else if refAt (g.st t) a = 0 then (g, 12)
  else if InL (g.rf (refAt (g.st t) a - 1).toNat).length b then g.push t ((g.rf (refAt (g.st t) a - 1).toNat).getD b.toNat 0) else (g, 11)

/-- a store -/
def GS.store (g : GS) (t : Nat) (a b c : Int) : GS × Int :=
  if codeAt (g.st t) c = 10 then (g, 10)
  else if codeAt (g.st t) a = 10 then (g, 10)
  else if refAt (g.st t) a = 0 then (g, 12)
  else if InL (g.rf (refAt (g.st t) a - 1).toNat).length b then ({ g with rf := upd g.rf (refAt (g.st t) a - 1).toNat ((g.rf (refAt (g.st t) a - 1).toNat).set b.toNat (refAt (g.st t) c)) }, 0) else (g, 11)

theorem inL_nat {n : Nat} {i : Int} (h : InL n i) : ∃ k : Nat, i = k ∧ k < n := by
  obtain ⟨h1, h2⟩ := h
  obtain ⟨k, rfl⟩ := Int.eq_ofNat_of_zero_le h1
  exact ⟨k, rfl, by omega⟩
theorem not_inL {n : Nat} {i : Int} (h : ¬ InL n i) : i < 0 ∨ (n : Int) ≤ i := by unfold InL at h; omega
theorem refAt_nat {l : List Int} {k : Nat} (h : k < l.length) : refAt l (k : Int) = l.getD k 0 := by
  unfold refAt
  rw [if_pos ⟨by omega, by omega⟩, Int.toNat_natCast]
theorem codeAt_cases (l : List Int) (i : Int) : (InL l.length i ∧ codeAt l i = 0) ∨ (¬ InL l.length i ∧ codeAt l i = 10 ∧ refAt l i = 0) := by
  by_cases h : InL l.length i
  · exact .inl ⟨h, if_pos h⟩
  · exact .inr ⟨h, if_neg h, if_neg h⟩

section
variable {w w1 : World} {b : GB} {g : GS}

theorem GAt.refAt_range (h : GAt w b g) {t : Nat} (ht : t < g.n) (i : Int) : 0 ≤ refAt (g.st t) i ∧ refAt (g.st t) i ≤ g.m := by
  unfold refAt
  split
  · rename_i hi
    obtain ⟨k, rfl, hk⟩ := inL_nat hi
    rw [Int.toNat_natCast, List.getD_eq_getElem?_getD, List.getElem?_eq_getElem hk]
    exact h.okS t ht _ (List.getElem_mem hk)
  · omega
theorem GAt.rf_range (h : GAt w b g) {i : Nat} (hi : i < g.m) (k : Nat) : 0 ≤ (g.rf i).getD k 0 ∧ (g.rf i).getD k 0 ≤ g.m := by
  rw [List.getD_eq_getElem?_getD]
  by_cases hk : k < (g.rf i).length
  · rw [List.getElem?_eq_getElem hk]
    exact h.okR i hi _ (List.getElem_mem hk)
  · rw [List.getElem?_eq_none (by omega)]
    simp
end

/-- 'At' -/
theorem at_gen (w : World) (b : GB) (g : GS) (t : Nat) (i : Int) (h : GAt w b g) (ht : t < g.n) :
    Calls Try.prog 17 #[.pointer (some ⟨b.S t, 0, none⟩), .int .i64 i] w fun e w' => e = .returned (.tuple #[.int .u64 (refAt (g.st t) i), .int .i64 (codeAt (g.st t) i)]) ∧ w = w' := by
  rcases codeAt_cases (g.st t) i with ⟨h1, h2⟩ | ⟨h1, h2, h3⟩
  · obtain ⟨k, rfl, hk⟩ := inL_nat h1
    rw [refAt_nat hk, h2]
    exact roots_at _ _ _ _ _ k (h.stk t ht) hk
  · rw [h2, h3]
    exact roots_at_out _ _ _ _ _ i (h.stk t ht) (not_inL h1)

/-- 'Push' -/
theorem push_gen (w : World) (b : GB) (g : GS) (t : Nat) (r : Int) (h : GAt w b g) (ht : t < g.n) (hr : 0 ≤ r ∧ r ≤ g.m) :
    Calls Try.prog 12 #[.pointer (some ⟨b.S t, 0, none⟩), .int .u64 r] w fun e w' => e = .returned (.int .i64 (g.push t r).2) ∧ ∃ b', Step w w' b b' g (g.push t r).1 := by
  unfold GS.push
  by_cases hl : (g.st t).length < g.bound
  · rw [if_pos hl]
    refine (step_push w b g t r h ht hl hr).mono ?_
    rintro e w' ⟨rfl, v', hs⟩
    exact ⟨rfl, _, hs⟩
  · rw [if_neg hl]
    have := (h.stk t ht).len
    refine (step_push_full w b g t r h ht (by omega)).mono ?_
    rintro e w' ⟨rfl, hs⟩
    exact ⟨rfl, _, hs⟩

/-- 'at', of an object -/
theorem gat_obj (w : World) (b : GB) (g : GS) (t : Nat) (a : Int) (h : GAt w b g) (ht : t < g.n) (h1 : refAt (g.st t) a ≠ 0) :
    ∃ i : Nat, i < g.m ∧ (refAt (g.st t) a - 1).toNat = i ∧ Calls Try.prog 46 #[.pointer (some ⟨b.p, 0, none⟩), .pointer (some ⟨b.S t, 0, none⟩), .int .i64 a] w fun e w' =>
      e = .returned (.tuple #[.agg #[.slice (some ⟨b.R i, 0, none⟩) (g.rf i).length (g.rf i).length, .slice (some ⟨b.D i, 0, none⟩) (g.dt i).length (g.dt i).length], .int .i64 0]) ∧ Chg (fun _ => False) w w' := by
  have hr := h.refAt_range ht a
  rcases codeAt_cases (g.st t) a with ⟨h2, h3⟩ | ⟨h2, h3, h4⟩
  · obtain ⟨k, rfl, hk⟩ := inL_nat h2
    rw [refAt_nat hk] at h1 hr ⊢
    refine ⟨((g.st t).getD k 0 - 1).toNat, by omega, rfl, ?_⟩
    exact graph_at w b g t k _ h ht hk (by omega) (by omega)
  · exact absurd h4 h1
theorem gat_out (w : World) (b : GB) (g : GS) (t : Nat) (a : Int) (h : GAt w b g) (ht : t < g.n) (h1 : refAt (g.st t) a = 0) :
    Calls Try.prog 46 #[.pointer (some ⟨b.p, 0, none⟩), .pointer (some ⟨b.S t, 0, none⟩), .int .i64 a] w fun e w' =>
      e = .returned (.tuple #[.agg #[.slice none 0 0, .slice none 0 0], .int .i64 (if codeAt (g.st t) a = 10 then 10 else 12)]) ∧ Chg (fun _ => False) w w' := by
  rcases codeAt_cases (g.st t) a with ⟨h2, h3⟩ | ⟨h2, h3, h4⟩
  · obtain ⟨k, rfl, hk⟩ := inL_nat h2
    rw [refAt_nat hk] at h1
    rw [h3, if_neg (by decide)]
    exact graph_at_nil w b g t k h ht hk h1
  · rw [h3, if_pos rfl]
    exact graph_at_out w b g t a h ht (not_inL h2)

/-- 'field', of references -/
theorem fref_gen (w : World) (q n : Nat) (k : Int) (hn : n ≤ 1048576) :
    Calls Try.prog 55 #[.slice (some ⟨q, 0, none⟩) n n, .int .i64 k] w fun e w' => e = .returned (.tuple #[.pointer (if InL n k then some ⟨q, k.toNat, none⟩ else none), .int .i64 (if InL n k then 0 else 11)]) ∧ w = w' := by
  by_cases h : InL n k
  · rw [if_pos h, if_pos h]
    obtain ⟨j, rfl, hj⟩ := inL_nat h
    exact field_ref w q n j hj hn
  · rw [if_neg h, if_neg h]
    exact field_ref_out w _ n k (not_inL h)
theorem fdata_gen (w : World) (q n : Nat) (k : Int) (hn : n ≤ 1048576) :
    Calls Try.prog 47 #[.slice (some ⟨q, 0, none⟩) n n, .int .i64 k] w fun e w' => e = .returned (.tuple #[.pointer (if InL n k then some ⟨q, k.toNat, none⟩ else none), .int .i64 (if InL n k then 0 else 11)]) ∧ w = w' := by
  by_cases h : InL n k
  · rw [if_pos h, if_pos h]
    obtain ⟨j, rfl, hj⟩ := inL_nat h
    exact field_data w q n j hj hn
  · rw [if_neg h, if_neg h]
    exact field_data_out w _ n k (not_inL h)

theorem step_setRef {w : World} {b : GB} {g : GS} (h : GAt w b g) (i j : Nat) (r : Int) (hi : i < g.m) (hj : j < (g.rf i).length) (hr : 0 ≤ r ∧ r ≤ g.m) :
    Step w (w.setCell ⟨b.R i, j, none⟩ (.int .u64 r)) b b g { g with rf := upd g.rf i ((g.rf i).set j r) } :=
  ⟨h.setRef i j r hi hj hr, (Chg.refl _ w).setCell (.inl ⟨.rf i, if_pos hi⟩) _, fun k hk => .inl hk, rfl, rfl, rfl, rfl⟩
theorem step_setData {w : World} {b : GB} {g : GS} (h : GAt w b g) (i j : Nat) (r : Int) (hi : i < g.m) (hj : j < (g.dt i).length) :
    Step w (w.setCell ⟨b.D i, j, none⟩ (.int .u64 r)) b b g { g with dt := upd g.dt i ((g.dt i).set j r) } :=
  ⟨h.setData i j r hi hj, (Chg.refl _ w).setCell (.inl ⟨.dt i, if_pos hi⟩) _, fun k hk => .inl hk, rfl, rfl, rfl, rfl⟩

/-- an operation that lies in the heap's newest block -/
theorem op_cells {w w1 : World} {k x y z v : Value} {T : TypeId} (hc : Chg (fun _ => False) (w.alloc (.cells #[k, x, y, z, v] T)) w1) :
    w1.cell? ⟨w.heap.size, 0, none⟩ = some k ∧ w1.cell? ⟨w.heap.size, 1, none⟩ = some x ∧ w1.cell? ⟨w.heap.size, 2, none⟩ = some y ∧ w1.cell? ⟨w.heap.size, 3, none⟩ = some z ∧ w1.cell? ⟨w.heap.size, 4, none⟩ = some v ∧ w.heap.size < w1.heap.size := by
  have hs := hc.size
  simp at hs
  have hb := fun o => hc.cell (b := w.heap.size) (o := o) (by simp) (by simp)
  refine ⟨(hb 0).trans (by go_simp), (hb 1).trans (by go_simp), (hb 2).trans (by go_simp), (hb 3).trans (by go_simp), (hb 4).trans (by go_simp), by omega⟩

set_option maxRecDepth 100000 in
set_option maxHeartbeats 4000000 in
theorem ref_load (w : World) (b : GB) (g : GS) (t : Nat) (x y z v : Int) (h : GAt w b g) (ht : t < g.n) :
    Calls Try.prog 45 #[.pointer (some ⟨b.p, 0, none⟩), .pointer (some ⟨b.S t, 0, none⟩), .agg #[.int .i64 2, .int .i64 x, .int .i64 y, .int .i64 z, .int .u64 v]] w fun e w' =>
      e = .returned (.int .i64 (g.load t x y).2) ∧ ∃ b', Step w w' b b' g (g.load t x y).1 := by
  have hgq := hid (h.quiet ((Chg.refl _ w).alloc (.cells #[.int .i64 2, .int .i64 x, .int .i64 y, .int .i64 z, .int .u64 v] 67)))
  have H := hid h
  by_cases h1 : refAt (g.st t) x = 0
  · have HG := hid (gat_out _ b g t x hgq.out ht h1)
    have e0 : g.load t x y = (g, if codeAt (g.st t) x = 10 then 10 else 12) := by
      unfold GS.load
      by_cases h2 : codeAt (g.st t) x = 10
      · rw [if_pos h2, if_pos h2]
      · rw [if_neg h2, if_neg h2, if_pos h1]
    have hc : (if codeAt (g.st t) x = 10 then 10 else 12 : Int) = 10 ∨ (if codeAt (g.st t) x = 10 then 10 else 12 : Int) = 12 := by split <;> simp
    rw [e0]
    clear h e0
    revert HG hc
    generalize (if codeAt (g.st t) x = 10 then 10 else 12 : Int) = c
    intro HG hc
    rcases hc with rfl | rfl
    all_goals (
      go_enter Try.func45, Try.ntmps45
      go_wp2_with (go_at_call 46; refine HG.out.mono ?_; rintro e w1 ⟨rfl, hc1⟩)
      go_ret
      exact ⟨rfl, _, Step.refl H.out (by (repeat (first | with_reducible exact Chg.refl _ _ | with_reducible apply Chg.drewN | with_reducible apply Chg.drew | with_reducible apply Chg.alloc | (with_reducible refine Chg.setCell ?_ ?_ _; rotate_left; focus (first | (refine Or.inr ?_; first | omega | (simp; done) | (simp; omega)) | exact Or.inl (by assumption) | with_reducible exact Or.inl rfl | exact Or.inl (by simp))) | refine Chg.trans ?_ (Chg.of_below (by with_reducible assumption) (fun k h1 h2 => absurd h1 (by first | omega | (simp; omega)))) | refine Chg.trans ?_ (by with_reducible assumption))))⟩)
  · obtain ⟨i, hi, hie, hG⟩ := gat_obj _ b g t x hgq.out ht h1
    have HG := hid hG
    have hne : codeAt (g.st t) x ≠ 10 := by
      rcases codeAt_cases (g.st t) x with ⟨_, h⟩ | ⟨_, _, h⟩
      · rw [h]; decide
      · exact absurd h h1
    have hF := fun w' => fref_gen w' (b.R i) (g.rf i).length y (h.small i hi).1
    by_cases hb : InL (g.rf i).length y
    · have e0 : g.load t x y = g.push t ((g.rf i).getD y.toNat 0) := by
        unfold GS.load
        rw [if_neg hne, if_neg h1, hie, if_pos hb]
      rw [e0]
      simp only [if_pos hb] at hF
      obtain ⟨j, rfl, hj⟩ := inL_nat hb
      rw [Int.toNat_natCast] at hF ⊢
      have HF := hid hF
      have hcell := (h.rfs i hi).cell hj
      have hR : b.R i < w.heap.size := (h.rfs i hi).lt
      have hrr := h.rf_range hi j
      generalize (g.rf i).getD j 0 = r at hcell hrr ⊢
      clear h e0 hb hF hG hne h1
      go_enter Try.func45, Try.ntmps45
      go_wp2_with (first
        | (go_at_call 46; refine HG.out.mono ?_; rintro e w1 ⟨rfl, hc1⟩; obtain ⟨o0, o1, o2, o3, o4, o5⟩ := op_cells hc1; have hq2 := (hc1.cell (b := b.R i) (o := j) (by simp; omega) (by simp)).trans ((World.cell?_alloc_lt w _ ⟨b.R i, j, none⟩ hR).trans hcell); have hR1 : b.R i < w1.heap.size := (by omega))
        | (go_at_call 55; refine (HF.out _).mono ?_; rintro e w' ⟨rfl, rfl⟩)
        | (go_at_call 12; refine (push_gen _ b g t r (H.out.quiet (by (repeat (first | with_reducible exact hc1.alloc | with_reducible exact Chg.refl _ _ | with_reducible apply Chg.drewN | with_reducible apply Chg.drew | with_reducible apply Chg.alloc | (with_reducible refine Chg.setCell ?_ ?_ _; rotate_left; focus (first | (refine Or.inr ?_; first | omega | (simp; done) | (simp; omega)) | exact Or.inl (by assumption) | with_reducible exact Or.inl rfl | exact Or.inl (by simp))) | refine Chg.trans ?_ (Chg.of_below (by with_reducible assumption) (fun k h1 h2 => absurd h1 (by first | omega | (simp; omega)))) | refine Chg.trans ?_ (by with_reducible assumption))))) ht hrr).mono ?_; rintro e w7 ⟨rfl, b7, hst7⟩))
      go_ret
      exact ⟨rfl, b7, (Step.refl H.out (by (repeat (first | with_reducible exact hc1.alloc | with_reducible exact Chg.refl _ _ | with_reducible apply Chg.drewN | with_reducible apply Chg.drew | with_reducible apply Chg.alloc | (with_reducible refine Chg.setCell ?_ ?_ _; rotate_left; focus (first | (refine Or.inr ?_; first | omega | (simp; done) | (simp; omega)) | exact Or.inl (by assumption) | with_reducible exact Or.inl rfl | exact Or.inl (by simp))) | refine Chg.trans ?_ (Chg.of_below (by with_reducible assumption) (fun k h1 h2 => absurd h1 (by first | omega | (simp; omega)))) | refine Chg.trans ?_ (by with_reducible assumption))))).trans hst7⟩
    · have e0 : g.load t x y = (g, 11) := by
        unfold GS.load
        rw [if_neg hne, if_neg h1, hie, if_neg hb]
      rw [e0]
      simp only [if_neg hb] at hF
      have HF := hid hF
      clear h e0 hb hF hG hne h1
      go_enter Try.func45, Try.ntmps45
      go_wp2_with (first
        | (go_at_call 46; refine HG.out.mono ?_; rintro e w1 ⟨rfl, hc1⟩; obtain ⟨o0, o1, o2, o3, o4, o5⟩ := op_cells hc1)
        | (go_at_call 55; refine (HF.out _).mono ?_; rintro e w' ⟨rfl, rfl⟩))
      go_ret
      exact ⟨rfl, b, Step.refl H.out (by (repeat (first | with_reducible exact hc1.alloc | with_reducible exact Chg.refl _ _ | with_reducible apply Chg.drewN | with_reducible apply Chg.drew | with_reducible apply Chg.alloc | (with_reducible refine Chg.setCell ?_ ?_ _; rotate_left; focus (first | (refine Or.inr ?_; first | omega | (simp; done) | (simp; omega)) | exact Or.inl (by assumption) | with_reducible exact Or.inl rfl | exact Or.inl (by simp))) | refine Chg.trans ?_ (Chg.of_below (by with_reducible assumption) (fun k h1 h2 => absurd h1 (by first | omega | (simp; omega)))) | refine Chg.trans ?_ (by with_reducible assumption))))⟩

set_option maxRecDepth 100000 in
set_option maxHeartbeats 4000000 in
theorem ref_store (w : World) (b : GB) (g : GS) (t : Nat) (x y z v : Int) (h : GAt w b g) (ht : t < g.n) :
    Calls Try.prog 45 #[.pointer (some ⟨b.p, 0, none⟩), .pointer (some ⟨b.S t, 0, none⟩), .agg #[.int .i64 3, .int .i64 x, .int .i64 y, .int .i64 z, .int .u64 v]] w fun e w' =>
      e = .returned (.int .i64 (g.store t x y z).2) ∧ ∃ b', Step w w' b b' g (g.store t x y z).1 := by
  have hgq := hid (h.quiet ((Chg.refl _ w).alloc (.cells #[.int .i64 3, .int .i64 x, .int .i64 y, .int .i64 z, .int .u64 v] 67)))
  have H := hid h
  have hX := at_gen _ b g t x hgq.out ht
  have hZ := at_gen _ b g t z hgq.out ht
  have hzr := h.refAt_range ht z
  rcases codeAt_cases (g.st t) z with ⟨q1, q2⟩ | ⟨q1, q2, q3⟩
  rotate_left
  · have e0 : g.store t x y z = (g, 10) := by unfold GS.store; rw [if_pos q2]
    rw [e0]
    rw [q2] at hZ
    clear h e0 q2
    rcases codeAt_cases (g.st t) x with ⟨p1, p2⟩ | ⟨p1, p2, p3⟩
    all_goals (
      rw [p2] at hX
      have HX := hid hX
      have HZ := hid hZ
      clear hX hZ p2
      go_enter Try.func45, Try.ntmps45
      go_wp2_with (first
        | (go_at_call 17; with_reducible refine HZ.out.mono ?_; rintro e w' ⟨rfl, rfl⟩)
        | (go_at_call 17; with_reducible refine HX.out.mono ?_; rintro e w' ⟨rfl, rfl⟩))
      go_ret
      exact ⟨rfl, _, Step.refl H.out (by (repeat (first | with_reducible exact Chg.refl _ _ | with_reducible apply Chg.drewN | with_reducible apply Chg.drew | with_reducible apply Chg.alloc | (with_reducible refine Chg.setCell ?_ ?_ _; rotate_left; focus (first | (refine Or.inr ?_; first | omega | (simp; done) | (simp; omega)) | exact Or.inl (by assumption) | with_reducible exact Or.inl rfl | exact Or.inl (by simp))) | refine Chg.trans ?_ (Chg.of_below (by with_reducible assumption) (fun k h1 h2 => absurd h1 (by first | omega | (simp; omega)))) | refine Chg.trans ?_ (by with_reducible assumption))))⟩)
  rw [q2] at hZ
  rcases codeAt_cases (g.st t) x with ⟨p1, p2⟩ | ⟨p1, p2, p3⟩
  rotate_left
  · have e0 : g.store t x y z = (g, 10) := by unfold GS.store; rw [if_neg (by rw [q2]; decide), if_pos p2]
    rw [e0]
    rw [p2] at hX
    have HX := hid hX
    have HZ := hid hZ
    clear h e0 hX hZ p2 q2
    go_enter Try.func45, Try.ntmps45
    go_wp2_with (first
      | (go_at_call 17; with_reducible refine HZ.out.mono ?_; rintro e w' ⟨rfl, rfl⟩)
      | (go_at_call 17; with_reducible refine HX.out.mono ?_; rintro e w' ⟨rfl, rfl⟩))
    go_ret
    exact ⟨rfl, _, Step.refl H.out (by (repeat (first | with_reducible exact Chg.refl _ _ | with_reducible apply Chg.drewN | with_reducible apply Chg.drew | with_reducible apply Chg.alloc | (with_reducible refine Chg.setCell ?_ ?_ _; rotate_left; focus (first | (refine Or.inr ?_; first | omega | (simp; done) | (simp; omega)) | exact Or.inl (by assumption) | with_reducible exact Or.inl rfl | exact Or.inl (by simp))) | refine Chg.trans ?_ (Chg.of_below (by with_reducible assumption) (fun k h1 h2 => absurd h1 (by first | omega | (simp; omega)))) | refine Chg.trans ?_ (by with_reducible assumption))))⟩
  have HX := hid hX
  have HZ := hid hZ
  rw [p2] at HX
  clear hX hZ
  by_cases h1 : refAt (g.st t) x = 0
  · have HG := hid (gat_out _ b g t x hgq.out ht h1)
    have e0 : g.store t x y z = (g, 12) := by
      unfold GS.store
      rw [if_neg (by rw [q2]; decide), if_neg (by rw [p2]; decide), if_pos h1]
    rw [p2, if_neg (by decide)] at HG
    rw [e0]
    clear h e0 p2 q2
    go_enter Try.func45, Try.ntmps45
    go_wp2_with (first
      | (go_at_call 17; with_reducible refine HZ.out.mono ?_; rintro e w' ⟨rfl, rfl⟩)
      | (go_at_call 17; with_reducible refine HX.out.mono ?_; rintro e w' ⟨rfl, rfl⟩)
      | (go_at_call 46; refine HG.out.mono ?_; rintro e w1 ⟨rfl, hc1⟩))
    go_ret
    exact ⟨rfl, _, Step.refl H.out (by (repeat (first | with_reducible exact Chg.refl _ _ | with_reducible apply Chg.drewN | with_reducible apply Chg.drew | with_reducible apply Chg.alloc | (with_reducible refine Chg.setCell ?_ ?_ _; rotate_left; focus (first | (refine Or.inr ?_; first | omega | (simp; done) | (simp; omega)) | exact Or.inl (by assumption) | with_reducible exact Or.inl rfl | exact Or.inl (by simp))) | refine Chg.trans ?_ (Chg.of_below (by with_reducible assumption) (fun k h1 h2 => absurd h1 (by first | omega | (simp; omega)))) | refine Chg.trans ?_ (by with_reducible assumption))))⟩
  · obtain ⟨i, hi, hie, hG⟩ := gat_obj _ b g t x hgq.out ht h1
    have HG := hid hG
    have hF := fun w' => fref_gen w' (b.R i) (g.rf i).length y (h.small i hi).1
    by_cases hb : InL (g.rf i).length y
    · have e0 : g.store t x y z = ({ g with rf := upd g.rf i ((g.rf i).set y.toNat (refAt (g.st t) z)) }, 0) := by
        unfold GS.store
        rw [if_neg (by rw [q2]; decide), if_neg (by rw [p2]; decide), if_neg h1, hie, if_pos hb]
      rw [e0]
      simp only [if_pos hb] at hF
      obtain ⟨j, rfl, hj⟩ := inL_nat hb
      rw [Int.toNat_natCast] at hF ⊢
      have HF := hid hF
      have hcell := (h.rfs i hi).cell hj
      have hfz := (h.rfs i hi).frozen j
      have hR : b.R i < w.heap.size := (h.rfs i hi).lt
      clear h e0 hb hF hG h1 p2 q2
      revert HZ hzr
      generalize refAt (g.st t) z = r
      intro hzr HZ
      go_enter Try.func45, Try.ntmps45
      go_wp2_with (first
        | (go_at_call 17; with_reducible refine HZ.out.mono ?_; rintro e w' ⟨rfl, rfl⟩)
        | (go_at_call 17; with_reducible refine HX.out.mono ?_; rintro e w' ⟨rfl, rfl⟩)
        | (go_at_call 46; refine HG.out.mono ?_; rintro e w1 ⟨rfl, hc1⟩; obtain ⟨o0, o1, o2, o3, o4, o5⟩ := op_cells hc1; have hq2 := (hc1.cell (b := b.R i) (o := j) (by simp; omega) (by simp)).trans ((World.cell?_alloc_lt w _ ⟨b.R i, j, none⟩ hR).trans hcell); have hq3 := (hc1.frozen (b := b.R i) (o := j) (by simp; omega) (by simp)).trans ((((Chg.refl (fun _ => False) w).alloc _).frozen hR (by simp)).trans hfz); have hR1 : b.R i < w1.heap.size := (by omega))
        | (go_at_call 55; refine (HF.out _).mono ?_; rintro e w' ⟨rfl, rfl⟩))
      go_ret
      have hst := Step.refl (w' := w1) H.out (by (repeat (first | with_reducible exact Chg.refl _ _ | with_reducible apply Chg.drewN | with_reducible apply Chg.drew | with_reducible apply Chg.alloc | (with_reducible refine Chg.setCell ?_ ?_ _; rotate_left; focus (first | (refine Or.inr ?_; first | omega | (simp; done) | (simp; omega)) | exact Or.inl (by assumption) | with_reducible exact Or.inl rfl | exact Or.inl (by simp))) | refine Chg.trans ?_ (Chg.of_below (by with_reducible assumption) (fun k h1 h2 => absurd h1 (by first | omega | (simp; omega)))) | refine Chg.trans ?_ (by with_reducible assumption))))
      exact ⟨rfl, b, (hst.trans (step_setRef hst.at_ i j r hi hj hzr)).quiet ((Chg.refl _ _).alloc _)⟩
    · have e0 : g.store t x y z = (g, 11) := by
        unfold GS.store
        rw [if_neg (by rw [q2]; decide), if_neg (by rw [p2]; decide), if_neg h1, hie, if_neg hb]
      rw [e0]
      simp only [if_neg hb] at hF
      have HF := hid hF
      clear h e0 hb hF hG h1 p2 q2
      go_enter Try.func45, Try.ntmps45
      go_wp2_with (first
        | (go_at_call 17; with_reducible refine HZ.out.mono ?_; rintro e w' ⟨rfl, rfl⟩)
        | (go_at_call 17; with_reducible refine HX.out.mono ?_; rintro e w' ⟨rfl, rfl⟩)
        | (go_at_call 46; refine HG.out.mono ?_; rintro e w1 ⟨rfl, hc1⟩; obtain ⟨o0, o1, o2, o3, o4, o5⟩ := op_cells hc1)
        | (go_at_call 55; refine (HF.out _).mono ?_; rintro e w' ⟨rfl, rfl⟩))
      go_ret
      exact ⟨rfl, b, Step.refl H.out (by (repeat (first | with_reducible exact hc1.alloc | with_reducible exact Chg.refl _ _ | with_reducible apply Chg.drewN | with_reducible apply Chg.drew | with_reducible apply Chg.alloc | (with_reducible refine Chg.setCell ?_ ?_ _; rotate_left; focus (first | (refine Or.inr ?_; first | omega | (simp; done) | (simp; omega)) | exact Or.inl (by assumption) | with_reducible exact Or.inl rfl | exact Or.inl (by simp))) | refine Chg.trans ?_ (Chg.of_below (by with_reducible assumption) (fun k h1 h2 => absurd h1 (by first | omega | (simp; omega)))) | refine Chg.trans ?_ (by with_reducible assumption))))⟩
end Go.Proofs.Ytcdllelbdcacjaa
