/-
  The document's graph (layer 13): the short calls.
-/
import Derived.Test.YtcdllelbdcacjaaRGraph
set_option linter.unusedVariables false
set_option linter.unusedSimpArgs false
namespace Go.Proofs.Ytcdllelbdcacjaa.R
open Go.RowKit

section
variable {dcap : Nat} {w w1 : World} {b : GB} {g : GS}
theorem GAt.refAt_range (h : GAt dcap w b g) {t : Nat} (ht : t < g.n) (i : Int) : 0 ≤ refAt (g.st t) i ∧ refAt (g.st t) i ≤ g.m := by
  unfold refAt
  split
  · rename_i hi
    obtain ⟨k, rfl, hk⟩ := inL_nat hi
    rw [Int.toNat_natCast, List.getD_eq_getElem?_getD, List.getElem?_eq_getElem hk]
    exact h.okS t ht _ (List.getElem_mem hk)
  · omega
theorem GAt.rf_range (h : GAt dcap w b g) {i : Nat} (hi : i < g.m) (k : Nat) : 0 ≤ (g.rf i).getD k 0 ∧ (g.rf i).getD k 0 ≤ g.m := by
  rw [List.getD_eq_getElem?_getD]
  by_cases hk : k < (g.rf i).length
  · rw [List.getElem?_eq_getElem hk]
    exact h.okR i hi _ (List.getElem_mem hk)
  · rw [List.getElem?_eq_none (by omega)]
    simp
theorem step_setRef (h : GAt dcap w b g) (i j : Nat) (r : Int) (hi : i < g.m) (hj : j < (g.rf i).length) (hr : 0 ≤ r ∧ r ≤ g.m) :
    Step dcap w (w.setCell ⟨b.R i, j, none⟩ (.int .u64 r)) b b g { g with rf := upd g.rf i ((g.rf i).set j r) } :=
  ⟨h.setRef i j r hi hj hr, (Chg.refl _ w).setCell (.inl ⟨.rf i, if_pos hi⟩) _, fun k hk => .inl hk, rfl, rfl, rfl, rfl⟩
theorem step_setData (h : GAt dcap w b g) (i j : Nat) (r : Int) (hi : i < g.m) (hj : j < (g.dt i).length) :
    Step dcap w (w.setCell ⟨b.D i, j, none⟩ (.int .u64 r)) b b g { g with dt := upd g.dt i ((g.dt i).set j r) } :=
  ⟨h.setData i j r hi hj, (Chg.refl _ w).setCell (.inl ⟨.dt i, if_pos hi⟩) _, fun k hk => .inl hk, rfl, rfl, rfl, rfl⟩
theorem step_count (h : GAt dcap w b g) (t : Nat) (d : Int) : Step dcap w (w.setCell ⟨b.dn, t, none⟩ (.int .i64 d)) b b g { g with done := upd g.done t d } :=
  ⟨h.count t d, (Chg.refl _ w).setCell (.inl ⟨.dn, rfl⟩) _, fun k hk => .inl hk, rfl, rfl, rfl, rfl⟩
end

variable {dcap : Nat}
/-- 'At' -/
theorem at_gen (w : World) (b : GB) (g : GS) (t : Nat) (i : Int) (h : GAt dcap w b g) (ht : t < g.n) :
    Calls Try.prog 18 #[.pointer (some ⟨b.S t, 0, none⟩), .int .i64 i] w fun e w' => e = .returned (.tuple #[.int .u64 (refAt (g.st t) i), .int .i64 (codeAt (g.st t) i)]) ∧ w = w' := by
  rcases codeAt_cases (g.st t) i with ⟨h1, h2⟩ | ⟨h1, h2, h3⟩
  · obtain ⟨k, rfl, hk⟩ := inL_nat h1
    rw [refAt_nat hk, h2]
    exact rroots_at _ _ _ _ _ k (h.stk t ht) hk
  · rw [h2, h3]
    exact rroots_at_out _ _ _ _ _ i (h.stk t ht) (not_inL h1)

/-- 'Push' -/
theorem push_gen (w : World) (b : GB) (g : GS) (t : Nat) (r : Int) (h : GAt dcap w b g) (ht : t < g.n) (hr : 0 ≤ r ∧ r ≤ g.m) :
    Calls Try.prog 21 #[.pointer (some ⟨b.S t, 0, none⟩), .int .u64 r] w fun e w' => e = .returned (.int .i64 (g.push t r).2) ∧ ∃ b', Step dcap w w' b b' g (g.push t r).1 := by
  unfold GS.push
  by_cases hl : (g.st t).length < g.bound
  · rw [if_pos hl]
    refine (step_push w b g t r h ht hl hr).mono ?_
    rintro e w' ⟨rfl, v', hs⟩
    exact ⟨rfl, _, hs⟩
  · rw [if_neg hl]
    have := (h.stk t ht).len
    refine (step_push_full w b g t r h ht (by omega)).mono ?_
    rintro e w' ⟨rfl, hs⟩
    exact ⟨rfl, _, hs⟩

/-- 'Pop' -/
theorem pop_gen (w : World) (b : GB) (g : GS) (t : Nat) (h : GAt dcap w b g) (ht : t < g.n) :
    Calls Try.prog 16 #[.pointer (some ⟨b.S t, 0, none⟩)] w fun e w' => ∃ x : Int, e = .returned (.tuple #[.int .u64 x, .int .i64 (g.pop t).2]) ∧ ∃ b', Step dcap w w' b b' g (g.pop t).1 := by
  unfold GS.pop
  have hs := h.stk t ht
  by_cases hl : g.st t = []
  · rw [if_pos hl]
    rw [hl] at hs
    refine (rroots_pop_empty w _ _ _ hs).mono ?_
    rintro e w' ⟨rfl, rfl⟩
    exact ⟨_, rfl, _, Step.refl h (Chg.refl _ _)⟩
  · rw [if_neg hl]
    obtain ⟨l0, r, e⟩ : ∃ l0 r, g.st t = l0 ++ [r] := ⟨_, _, (List.dropLast_concat_getLast hl).symm⟩
    rw [e] at hs
    refine (rroots_pop w _ _ _ _ _ hs).mono ?_
    rintro e1 w' ⟨rfl, hc, v', hv, hs'⟩
    rw [e, List.dropLast_concat]
    exact ⟨_, rfl, _, step_stack h t ht v' _ (hc.mono (fun k _ hk => .inl hk)) hs' (.inl hv) (fun x hx => h.okS t ht x (by rw [e]; exact List.mem_append_left _ hx))⟩

set_option maxRecDepth 100000 in
set_option maxHeartbeats 1000000 in
/-- 'object' -/
theorem obj_some (w : World) (b : GB) (g : GS) (t : Nat) (a : Int) (h : GAt dcap w b g) (ht : t < g.n) (h1 : refAt (g.st t) a ≠ 0) :
    ∃ i q cap : Nat, i < g.m ∧ (refAt (g.st t) a - 1).toNat = i ∧ b.ov = .slice (some ⟨q, 0, none⟩) g.m cap ∧ Calls Try.prog 50 #[.pointer (some ⟨b.p, 0, none⟩), .pointer (some ⟨b.S t, 0, none⟩), .int .i64 a] w fun e w' =>
      e = .returned (.tuple #[.pointer (some ⟨q, i * 2, none⟩), .int .i64 0]) ∧ w = w' := by
  have hr := h.refAt_range ht a
  have hca : codeAt (g.st t) a = 0 := by
    rcases codeAt_cases (g.st t) a with ⟨_, h3⟩ | ⟨_, _, h4⟩
    · exact h3
    · exact absurd h4 h1
  have hAT := at_gen w b g t a h ht
  rw [hca] at hAT
  obtain ⟨i, hi⟩ : ∃ i : Nat, refAt (g.st t) a = (i : Int) + 1 := ⟨(refAt (g.st t) a - 1).toNat, by omega⟩
  rw [hi] at hAT hr ⊢
  have him : i < g.m := by omega
  obtain ⟨q, cap, hov, hql, o1, o2⟩ := h.objAt him
  have hobs := h.obs
  rw [hov] at hobs
  have hpl := h.lt .p b.p rfl
  have HAT := hid hAT
  have hm : g.m ≤ 9223372036854775807 := Nat.le_trans h.objs (by decide)
  have e1 : IntKind.u64.wrap ((i : Int) + 1 - 1) = (i : Int) := by rw [IntKind.wrap_u64]; omega
  have e2 : (i : Int) + 1 - 1 = (i : Int) := by omega
  have e3 : IntKind.u64.wrap (i : Int) = (i : Int) := by rw [IntKind.wrap_u64]; omega
  have hne : (((i : Int) + 1) == 0) = false := by simp; omega
  have hig : (i : Int) < (g.m : Int) := by omega
  refine ⟨i, q, cap, him, by omega, hov, ?_⟩
  clear h hov hAT hca h1 hi
  go_enter Try.func50, Try.ntmps50
  go_wp2_with (go_at_call 18; refine HAT.out.mono ?_; rintro e w' ⟨rfl, rfl⟩)
  go_ret2
  exact ⟨rfl, rfl⟩
set_option maxRecDepth 100000 in
set_option maxHeartbeats 1000000 in
theorem obj_none (w : World) (b : GB) (g : GS) (t : Nat) (a : Int) (h : GAt dcap w b g) (ht : t < g.n) (h1 : refAt (g.st t) a = 0) :
    Calls Try.prog 50 #[.pointer (some ⟨b.p, 0, none⟩), .pointer (some ⟨b.S t, 0, none⟩), .int .i64 a] w fun e w' =>
      e = .returned (.tuple #[.pointer none, .int .i64 (if codeAt (g.st t) a = 10 then 10 else 12)]) ∧ w = w' := by
  have hAT := at_gen w b g t a h ht
  rw [h1] at hAT
  rcases codeAt_cases (g.st t) a with ⟨h2, h3⟩ | ⟨h2, h3, h4⟩
  · rw [h3, if_neg (by decide)]
    rw [h3] at hAT
    have HAT := hid hAT
    clear h hAT
    go_enter Try.func50, Try.ntmps50
    go_wp2_with (go_at_call 18; refine HAT.out.mono ?_; rintro e w' ⟨rfl, rfl⟩)
    go_ret2
    exact ⟨rfl, rfl⟩
  · rw [h3, if_pos rfl]
    rw [h3] at hAT
    have HAT := hid hAT
    clear h hAT
    go_enter Try.func50, Try.ntmps50
    go_wp2_with (go_at_call 18; refine HAT.out.mono ?_; rintro e w' ⟨rfl, rfl⟩)
    go_ret2
    exact ⟨rfl, rfl⟩

set_option maxRecDepth 100000 in
set_option maxHeartbeats 1000000 in
/-- 'full' -/
theorem full_gen (w : World) (b : GB) (g : GS) (t : Nat) (h : GAt dcap w b g) (ht : t < g.n) :
    Calls Try.prog 49 #[.pointer (some ⟨b.S t, 0, none⟩)] w fun e w' => e = .returned (.bool (decide (g.bound ≤ (g.st t).length))) ∧ ∃ n, w' = w.drewN n := by
  have hs := h.stk t ht
  obtain ⟨A, c, hv⟩ := hs.shape
  have h1 := hs.val
  rw [hv] at h1
  have h2 := hs.bnd
  have hm := hs.most
  have hl := hs.len
  clear h hv hs
  go_enter Try.func49, Try.ntmps49
  go_wp2
  go_quiet (fail)
  go_wp2
  go_ret
  exact ⟨rfl, _, rfl⟩

set_option maxRecDepth 100000 in
set_option maxHeartbeats 1000000 in
/-- 'size' -/
theorem size_bad (w : World) (b : GB) (g : GS) (a c : Int) (h : GAt dcap w b g) (hx : a < 0 ∨ c < 0 ∨ (g.max : Int) < a ∨ (g.max : Int) < c ∨ a + c = 0 ∨ (g.max : Int) ≤ a + c) :
    Calls Try.prog 48 #[.pointer (some ⟨b.p, 0, none⟩), .int .i64 a, .int .i64 c] w fun e w' => e = .returned (.bool false) ∧ w = w' := by
  have h1 := h.mx
  have hm := h.mmax
  clear h
  by_cases c1 : a < 0
  · clear hx
    have c2 : ¬ 0 ≤ a := by omega
    go_enter Try.func48, Try.ntmps48
    go_wp2
    go_ret
    exact ⟨rfl, rfl⟩
  have d1 : 0 ≤ a := by omega
  by_cases c2 : c < 0
  · clear hx c1
    have c3 : ¬ 0 ≤ c := by omega
    go_enter Try.func48, Try.ntmps48
    go_wp2
    go_ret
    exact ⟨rfl, rfl⟩
  have d2 : 0 ≤ c := by omega
  by_cases c3 : 1048576 < a
  · clear hx c1 c2
    have c4 : ¬ a ≤ 1048576 := by omega
    go_enter Try.func48, Try.ntmps48
    go_wp2
    go_ret
    exact ⟨rfl, rfl⟩
  have d3 : a ≤ 1048576 := by omega
  by_cases c4 : 1048576 < c
  · clear hx c1 c2 c3
    have c5 : ¬ c ≤ 1048576 := by omega
    go_enter Try.func48, Try.ntmps48
    go_wp2
    go_ret
    exact ⟨rfl, rfl⟩
  have d4 : c ≤ 1048576 := by omega
  by_cases c5 : a + c = 0
  · have e2 : a = 0 := by omega
    have e3 : c = 0 := by omega
    subst e2 e3
    clear hx c1 c2 c3 c4 c5
    go_enter Try.func48, Try.ntmps48
    go_wp2
    go_ret
    exact ⟨rfl, rfl⟩
  · have d5 : ¬ 1 + a + c ≤ (g.max : Int) := by omega
    have d6 : 0 < a + c := by omega
    have d7 : (g.max : Int) < 1 + a + c := by omega
    clear hx c1 c2 c3 c4
    go_enter Try.func48, Try.ntmps48
    go_wp2
    go_ret
    exact ⟨rfl, rfl⟩
set_option maxRecDepth 100000 in
set_option maxHeartbeats 1000000 in
theorem size_ok (w : World) (b : GB) (g : GS) (a c : Nat) (h : GAt dcap w b g) (h0 : 0 < a + c) (h1 : a + c < g.max) :
    Calls Try.prog 48 #[.pointer (some ⟨b.p, 0, none⟩), .int .i64 a, .int .i64 c] w fun e w' => e = .returned (.bool true) ∧ w = w' := by
  have b1 := h.mx
  have hm := h.mmax
  have d1 : (a : Int) ≤ 1048576 := by omega
  have d2 : (c : Int) ≤ 1048576 := by omega
  have d3 : 1 + (a : Int) + (c : Int) ≤ (g.max : Int) := by omega
  have d4 : 0 < (a : Int) + (c : Int) := by omega
  clear h
  go_enter Try.func48, Try.ntmps48
  go_wp2
  go_ret
  exact ⟨rfl, rfl⟩
end Go.Proofs.Ytcdllelbdcacjaa.R
