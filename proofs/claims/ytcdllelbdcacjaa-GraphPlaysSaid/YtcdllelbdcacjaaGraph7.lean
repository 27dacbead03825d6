/-
  Graphs (layer 13): an operation.
-/
import Derived.Test.YtcdllelbdcacjaaGraph6
import Derived.BigQuiet
set_option linter.unusedVariables false
set_option linter.unusedSimpArgs false
namespace Go.Proofs.Ytcdllelbdcacjaa
open Go.RowKit

/-- an allocation -/
def GS.alloc (g : GS) (t : Nat) (a c : Int) : GS × Int :=
  if a < 0 ∨ c < 0 ∨ (g.max : Int) < a ∨ (g.max : Int) < c ∨ a + c = 0 ∨ (g.max : Int) ≤ a + c then (g, 13)
  else if (g.st t).length < g.bound then ({ (g.more (List.replicate a.toNat 0) (List.replicate c.toNat 0)) with st := upd g.st t (g.st t ++ [((g.m + 1 : Nat) : Int)]) }, 0)
  else (g, 15)

/-- a word is read; is written -/
def GS.read (g : GS) (t : Nat) (a b : Int) : Int × Int :=
  if codeAt (g.st t) a = 10 then (0, 10)
  else if refAt (g.st t) a = 0 then (0, 12)
  else if InL (g.dt (refAt (g.st t) a - 1).toNat).length b then ((g.dt (refAt (g.st t) a - 1).toNat).getD b.toNat 0, 0) else (0, 11)
def GS.write (g : GS) (t : Nat) (a b v : Int) : GS × Int :=
  if codeAt (g.st t) a = 10 then (g, 10)
  else if refAt (g.st t) a = 0 then (g, 12)
  else if InL (g.dt (refAt (g.st t) a - 1).toNat).length b then ({ g with dt := upd g.dt (refAt (g.st t) a - 1).toNat ((g.dt (refAt (g.st t) a - 1).toNat).set b.toNat v) }, 0) else (g, 11)

/-- a pop -/
def GS.pop (g : GS) (t : Nat) : GS × Int := if g.st t = [] then (g, 14) else ({ g with st := upd g.st t (g.st t).dropLast }, 0)

/-- a handle is doubled; is sent -/
def GS.dup (g : GS) (t : Nat) (a : Int) : GS × Int := if codeAt (g.st t) a = 10 then (g, 10) else g.push t (refAt (g.st t) a)
def GS.send (g : GS) (t : Nat) (a b : Int) : GS × Int :=
  if codeAt (g.st t) a = 10 then (g, 10) else if InL g.n b then g.push b.toNat (refAt (g.st t) a) else (g, 2)

/-- what an operation answers, and what is left -/
structure Out where
  g : GS
  word : Int
  bit : Bool
  code : Int

def GS.act (g : GS) (t : Nat) (o : OpS) : Out :=
  if o.kind = 1 then ⟨(g.alloc t o.a o.b).1, 0, false, (g.alloc t o.a o.b).2⟩
  else if o.kind = 2 then ⟨(g.load t o.a o.b).1, 0, false, (g.load t o.a o.b).2⟩
  else if o.kind = 3 then ⟨(g.store t o.a o.b o.c).1, 0, false, (g.store t o.a o.b o.c).2⟩
  else if o.kind = 4 then ⟨g, (g.read t o.a o.b).1, false, (g.read t o.a o.b).2⟩
  else if o.kind = 5 then ⟨(g.write t o.a o.b o.v).1, 0, false, (g.write t o.a o.b o.v).2⟩
  else if o.kind = 6 then ⟨(g.push t 0).1, 0, false, (g.push t 0).2⟩
  else if o.kind = 7 then ⟨(g.pop t).1, 0, false, (g.pop t).2⟩
  else if o.kind = 8 then ⟨(g.dup t o.a).1, 0, false, (g.dup t o.a).2⟩
  else if o.kind = 9 then
    if codeAt (g.st t) o.a = 10 ∨ codeAt (g.st t) o.b = 10 then ⟨g, 0, false, 10⟩ else ⟨g, 0, refAt (g.st t) o.a == refAt (g.st t) o.b, 0⟩
  else if o.kind = 10 then
    if codeAt (g.st t) o.a = 10 then ⟨g, 0, false, 10⟩ else ⟨g, 0, refAt (g.st t) o.a == 0, 0⟩
  else if o.kind = 11 then ⟨g, 0, false, 0⟩
  else if o.kind = 12 then ⟨g, 0, false, if o.a < 0 ∨ 3 < o.a then 17 else 0⟩
  else if o.kind = 13 then ⟨(g.send t o.a o.b).1, 0, false, (g.send t o.a o.b).2⟩
  else ⟨g, 0, false, 17⟩

/-- what the call of 'act' leaves -/
def ActPost (w : World) (b : GB) (g : GS) (r : Out) (e : Ending) (w' : World) : Prop :=
  e = .returned (.tuple #[.int .u64 r.word, .bool r.bit, .int .i64 r.code]) ∧ ∃ b', Step w w' b b' g r.g

/-- 'Pop' -/
theorem pop_gen (w : World) (b : GB) (g : GS) (t : Nat) (h : GAt w b g) (ht : t < g.n) :
    Calls Try.prog 13 #[.pointer (some ⟨b.S t, 0, none⟩)] w fun e w' => ∃ x : Int, e = .returned (.tuple #[.int .u64 x, .int .i64 (g.pop t).2]) ∧ ∃ b', Step w w' b b' g (g.pop t).1 := by
  unfold GS.pop
  have hs := h.stk t ht
  by_cases hl : g.st t = []
  · rw [if_pos hl]
    rw [hl] at hs
    refine (roots_pop_empty w _ _ _ hs).mono ?_
    rintro e w' ⟨rfl, rfl⟩
    exact ⟨_, rfl, _, Step.refl h (Chg.refl _ _)⟩
  · rw [if_neg hl]
    obtain ⟨l0, r, e⟩ : ∃ l0 r, g.st t = l0 ++ [r] := ⟨_, _, (List.dropLast_concat_getLast hl).symm⟩
    rw [e] at hs
    refine (roots_pop w _ _ _ _ _ hs).mono ?_
    rintro e1 w' ⟨rfl, hc, v', hv, hs'⟩
    rw [e, List.dropLast_concat]
    exact ⟨_, rfl, _, step_stack h t ht v' _ (hc.mono (fun k _ hk => .inl hk)) hs' (.inl hv) (fun x hx => h.okS t ht x (by rw [e]; exact List.mem_append_left _ hx))⟩

/-- 'alloc' -/
theorem alloc_gen (w : World) (b : GB) (g : GS) (t : Nat) (x y : Int) (h : GAt w b g) (ht : t < g.n) (hm : g.m + 1 ≤ 1048576) :
    Calls Try.prog 44 #[.pointer (some ⟨b.p, 0, none⟩), .pointer (some ⟨b.S t, 0, none⟩), .int .i64 x, .int .i64 y] w fun e w' => e = .returned (.int .i64 (g.alloc t x y).2) ∧ ∃ b', Step w w' b b' g (g.alloc t x y).1 := by
  unfold GS.alloc
  by_cases hx : x < 0 ∨ y < 0 ∨ (g.max : Int) < x ∨ (g.max : Int) < y ∨ x + y = 0 ∨ (g.max : Int) ≤ x + y
  · rw [if_pos hx]
    refine (graph_alloc_bad w b g t x y h hx).mono ?_
    rintro e w' ⟨rfl, rfl⟩
    exact ⟨rfl, _, Step.refl h (Chg.refl _ _)⟩
  · rw [if_neg hx]
    obtain ⟨a, rfl⟩ := Int.eq_ofNat_of_zero_le (show 0 ≤ x by omega)
    obtain ⟨c, rfl⟩ := Int.eq_ofNat_of_zero_le (show 0 ≤ y by omega)
    rw [Int.toNat_natCast, Int.toNat_natCast]
    by_cases hl : (g.st t).length < g.bound
    · rw [if_pos hl]
      refine (graph_alloc w b g t a c h ht (by omega) (by omega) hl hm).mono ?_
      rintro e w' ⟨rfl, hs⟩
      exact ⟨rfl, hs⟩
    · rw [if_neg hl]
      have := (h.stk t ht).len
      refine (graph_alloc_full w b g t a c h ht (by omega) (by omega) (by omega)).mono ?_
      rintro e w' ⟨rfl, hc⟩
      exact ⟨rfl, _, Step.refl h hc⟩

section
variable (w : World) (b : GB) (g : GS) (t : Nat) (x y z v : Int) (h : GAt w b g) (ht : t < g.n)
include h ht

set_option maxRecDepth 100000 in
set_option maxHeartbeats 4000000 in
theorem act_1 (hm : g.m + 1 ≤ 1048576) : Calls Try.prog 38 #[.pointer (some ⟨b.p, 0, none⟩), .pointer (some ⟨b.S t, 0, none⟩), .agg #[.int .i64 1, .int .i64 x, .int .i64 y, .int .i64 z, .int .u64 v]] w (ActPost w b g (g.act t ⟨1, x, y, z, v⟩)) := by
  have e0 : g.act t ⟨1, x, y, z, v⟩ = ⟨(g.alloc t x y).1, 0, false, (g.alloc t x y).2⟩ := by simp [GS.act]
  rw [e0]
  have hgq := h.quiet ((Chg.refl _ w).alloc (.cells #[.int .i64 1, .int .i64 x, .int .i64 y, .int .i64 z, .int .u64 v] 67))
  have H := hid h
  have HC := hid (alloc_gen _ b g t x y hgq ht hm)
  clear e0 hgq h
  revert HC
  generalize g.alloc t x y = R
  intro HC
  obtain ⟨g1, c1⟩ := R
  go_enter Try.func38, Try.ntmps38
  go_wp2_with (go_at_call 44; refine HC.out.mono ?_; rintro e w1 ⟨rfl, b1, hs1⟩)
  refine bodyPost_ret (v := .tuple #[.int .u64 0, .bool false, .int .i64 c1]) (by simp [results, Try.results38, go_sem]) rfl ⟨rfl, ?_⟩
  exact ⟨b1, (Step.refl H.out (by (repeat (first | with_reducible exact Chg.refl _ _ | with_reducible apply Chg.drewN | with_reducible apply Chg.drew | with_reducible apply Chg.alloc | (with_reducible refine Chg.setCell ?_ ?_ _; rotate_left; focus (first | (refine Or.inr ?_; first | omega | (simp; done) | (simp; omega)) | exact Or.inl (by assumption) | with_reducible exact Or.inl rfl | exact Or.inl (by simp))) | refine Chg.trans ?_ (Chg.of_below (by with_reducible assumption) (fun k h1 h2 => absurd h1 (by first | omega | (simp; omega)))) | refine Chg.trans ?_ (by with_reducible assumption))))).trans hs1⟩

set_option maxRecDepth 100000 in
set_option maxHeartbeats 4000000 in
theorem act_2  : Calls Try.prog 38 #[.pointer (some ⟨b.p, 0, none⟩), .pointer (some ⟨b.S t, 0, none⟩), .agg #[.int .i64 2, .int .i64 x, .int .i64 y, .int .i64 z, .int .u64 v]] w (ActPost w b g (g.act t ⟨2, x, y, z, v⟩)) := by
  have e0 : g.act t ⟨2, x, y, z, v⟩ = ⟨(g.load t x y).1, 0, false, (g.load t x y).2⟩ := by simp [GS.act]
  rw [e0]
  have hgq := h.quiet ((Chg.refl _ w).alloc (.cells #[.int .i64 2, .int .i64 x, .int .i64 y, .int .i64 z, .int .u64 v] 67))
  have H := hid h
  have HC := hid (ref_load _ b g t x y z v hgq ht)
  clear e0 hgq h
  revert HC
  generalize g.load t x y = R
  intro HC
  obtain ⟨g1, c1⟩ := R
  go_enter Try.func38, Try.ntmps38
  go_wp2_with (go_at_call 45; refine HC.out.mono ?_; rintro e w1 ⟨rfl, b1, hs1⟩)
  refine bodyPost_ret (v := .tuple #[.int .u64 0, .bool false, .int .i64 c1]) (by simp [results, Try.results38, go_sem]) rfl ⟨rfl, ?_⟩
  exact ⟨b1, (Step.refl H.out (by (repeat (first | with_reducible exact Chg.refl _ _ | with_reducible apply Chg.drewN | with_reducible apply Chg.drew | with_reducible apply Chg.alloc | (with_reducible refine Chg.setCell ?_ ?_ _; rotate_left; focus (first | (refine Or.inr ?_; first | omega | (simp; done) | (simp; omega)) | exact Or.inl (by assumption) | with_reducible exact Or.inl rfl | exact Or.inl (by simp))) | refine Chg.trans ?_ (Chg.of_below (by with_reducible assumption) (fun k h1 h2 => absurd h1 (by first | omega | (simp; omega)))) | refine Chg.trans ?_ (by with_reducible assumption))))).trans hs1⟩

set_option maxRecDepth 100000 in
set_option maxHeartbeats 4000000 in
theorem act_3  : Calls Try.prog 38 #[.pointer (some ⟨b.p, 0, none⟩), .pointer (some ⟨b.S t, 0, none⟩), .agg #[.int .i64 3, .int .i64 x, .int .i64 y, .int .i64 z, .int .u64 v]] w (ActPost w b g (g.act t ⟨3, x, y, z, v⟩)) := by
  have e0 : g.act t ⟨3, x, y, z, v⟩ = ⟨(g.store t x y z).1, 0, false, (g.store t x y z).2⟩ := by simp [GS.act]
  rw [e0]
  have hgq := h.quiet ((Chg.refl _ w).alloc (.cells #[.int .i64 3, .int .i64 x, .int .i64 y, .int .i64 z, .int .u64 v] 67))
  have H := hid h
  have HC := hid (ref_store _ b g t x y z v hgq ht)
  clear e0 hgq h
  revert HC
  generalize g.store t x y z = R
  intro HC
  obtain ⟨g1, c1⟩ := R
  go_enter Try.func38, Try.ntmps38
  go_wp2_with (go_at_call 45; refine HC.out.mono ?_; rintro e w1 ⟨rfl, b1, hs1⟩)
  refine bodyPost_ret (v := .tuple #[.int .u64 0, .bool false, .int .i64 c1]) (by simp [results, Try.results38, go_sem]) rfl ⟨rfl, ?_⟩
  exact ⟨b1, (Step.refl H.out (by (repeat (first | with_reducible exact Chg.refl _ _ | with_reducible apply Chg.drewN | with_reducible apply Chg.drew | with_reducible apply Chg.alloc | (with_reducible refine Chg.setCell ?_ ?_ _; rotate_left; focus (first | (refine Or.inr ?_; first | omega | (simp; done) | (simp; omega)) | exact Or.inl (by assumption) | with_reducible exact Or.inl rfl | exact Or.inl (by simp))) | refine Chg.trans ?_ (Chg.of_below (by with_reducible assumption) (fun k h1 h2 => absurd h1 (by first | omega | (simp; omega)))) | refine Chg.trans ?_ (by with_reducible assumption))))).trans hs1⟩

set_option maxRecDepth 100000 in
set_option maxHeartbeats 4000000 in
theorem act_6  : Calls Try.prog 38 #[.pointer (some ⟨b.p, 0, none⟩), .pointer (some ⟨b.S t, 0, none⟩), .agg #[.int .i64 6, .int .i64 x, .int .i64 y, .int .i64 z, .int .u64 v]] w (ActPost w b g (g.act t ⟨6, x, y, z, v⟩)) := by
  have e0 : g.act t ⟨6, x, y, z, v⟩ = ⟨(g.push t 0).1, 0, false, (g.push t 0).2⟩ := by simp [GS.act]
  rw [e0]
  have hgq := h.quiet ((Chg.refl _ w).alloc (.cells #[.int .i64 6, .int .i64 x, .int .i64 y, .int .i64 z, .int .u64 v] 67))
  have H := hid h
  have HC := hid (push_gen _ b g t 0 hgq ht ⟨by omega, by omega⟩)
  clear e0 hgq h
  revert HC
  generalize g.push t 0 = R
  intro HC
  obtain ⟨g1, c1⟩ := R
  go_enter Try.func38, Try.ntmps38
  go_wp2_with (go_at_call 12; refine HC.out.mono ?_; rintro e w1 ⟨rfl, b1, hs1⟩)
  refine bodyPost_ret (v := .tuple #[.int .u64 0, .bool false, .int .i64 c1]) (by simp [results, Try.results38, go_sem]) rfl ⟨rfl, ?_⟩
  exact ⟨b1, (Step.refl H.out (by (repeat (first | with_reducible exact Chg.refl _ _ | with_reducible apply Chg.drewN | with_reducible apply Chg.drew | with_reducible apply Chg.alloc | (with_reducible refine Chg.setCell ?_ ?_ _; rotate_left; focus (first | (refine Or.inr ?_; first | omega | (simp; done) | (simp; omega)) | exact Or.inl (by assumption) | with_reducible exact Or.inl rfl | exact Or.inl (by simp))) | refine Chg.trans ?_ (Chg.of_below (by with_reducible assumption) (fun k h1 h2 => absurd h1 (by first | omega | (simp; omega)))) | refine Chg.trans ?_ (by with_reducible assumption))))).trans hs1⟩

set_option maxRecDepth 100000 in
set_option maxHeartbeats 4000000 in
theorem act_7  : Calls Try.prog 38 #[.pointer (some ⟨b.p, 0, none⟩), .pointer (some ⟨b.S t, 0, none⟩), .agg #[.int .i64 7, .int .i64 x, .int .i64 y, .int .i64 z, .int .u64 v]] w (ActPost w b g (g.act t ⟨7, x, y, z, v⟩)) := by
  have e0 : g.act t ⟨7, x, y, z, v⟩ = ⟨(g.pop t).1, 0, false, (g.pop t).2⟩ := by simp [GS.act]
  rw [e0]
  have hgq := h.quiet ((Chg.refl _ w).alloc (.cells #[.int .i64 7, .int .i64 x, .int .i64 y, .int .i64 z, .int .u64 v] 67))
  have H := hid h
  have HC := hid (pop_gen _ b g t hgq ht)
  clear e0 hgq h
  revert HC
  generalize g.pop t = R
  intro HC
  obtain ⟨g1, c1⟩ := R
  go_enter Try.func38, Try.ntmps38
  go_wp2_with (go_at_call 13; refine HC.out.mono ?_; rintro e w1 ⟨x1, rfl, b1, hs1⟩)
  refine bodyPost_ret (v := .tuple #[.int .u64 0, .bool false, .int .i64 c1]) (by simp [results, Try.results38, go_sem]) rfl ⟨rfl, ?_⟩
  exact ⟨b1, (Step.refl H.out (by (repeat (first | with_reducible exact Chg.refl _ _ | with_reducible apply Chg.drewN | with_reducible apply Chg.drew | with_reducible apply Chg.alloc | (with_reducible refine Chg.setCell ?_ ?_ _; rotate_left; focus (first | (refine Or.inr ?_; first | omega | (simp; done) | (simp; omega)) | exact Or.inl (by assumption) | with_reducible exact Or.inl rfl | exact Or.inl (by simp))) | refine Chg.trans ?_ (Chg.of_below (by with_reducible assumption) (fun k h1 h2 => absurd h1 (by first | omega | (simp; omega)))) | refine Chg.trans ?_ (by with_reducible assumption))))).trans hs1⟩

set_option maxRecDepth 100000 in
set_option maxHeartbeats 4000000 in
theorem act_11  : Calls Try.prog 38 #[.pointer (some ⟨b.p, 0, none⟩), .pointer (some ⟨b.S t, 0, none⟩), .agg #[.int .i64 11, .int .i64 x, .int .i64 y, .int .i64 z, .int .u64 v]] w (ActPost w b g (g.act t ⟨11, x, y, z, v⟩)) := by
  have _ := ht
  have e0 : g.act t ⟨11, x, y, z, v⟩ = ⟨g, 0, false, 0⟩ := by simp [GS.act]
  rw [e0]
  have hgq := h.quiet ((Chg.refl _ w).alloc (.cells #[.int .i64 11, .int .i64 x, .int .i64 y, .int .i64 z, .int .u64 v] 67))
  have H := hid h
  clear e0 hgq h
  go_enter Try.func38, Try.ntmps38
  go_wp2
  refine bodyPost_ret (v := .tuple #[.int .u64 0, .bool false, .int .i64 0]) (by simp [results, Try.results38, go_sem]) rfl ⟨rfl, ?_⟩
  exact ⟨b, Step.refl H.out (by (repeat (first | with_reducible exact Chg.refl _ _ | with_reducible apply Chg.drewN | with_reducible apply Chg.drew | with_reducible apply Chg.alloc | (with_reducible refine Chg.setCell ?_ ?_ _; rotate_left; focus (first | (refine Or.inr ?_; first | omega | (simp; done) | (simp; omega)) | exact Or.inl (by assumption) | with_reducible exact Or.inl rfl | exact Or.inl (by simp))) | refine Chg.trans ?_ (Chg.of_below (by with_reducible assumption) (fun k h1 h2 => absurd h1 (by first | omega | (simp; omega)))) | refine Chg.trans ?_ (by with_reducible assumption))))⟩

set_option maxRecDepth 100000 in
set_option maxHeartbeats 4000000 in
theorem act_12  : Calls Try.prog 38 #[.pointer (some ⟨b.p, 0, none⟩), .pointer (some ⟨b.S t, 0, none⟩), .agg #[.int .i64 12, .int .i64 x, .int .i64 y, .int .i64 z, .int .u64 v]] w (ActPost w b g (g.act t ⟨12, x, y, z, v⟩)) := by
  have _ := ht
  have H := hid h
  by_cases c1 : x < 0
  · have e0 : g.act t ⟨12, x, y, z, v⟩ = ⟨g, 0, false, 17⟩ := by simp [GS.act, c1]
    rw [e0]
    clear e0 h
    go_enter Try.func38, Try.ntmps38
    go_wp2
    refine bodyPost_ret (v := .tuple #[.int .u64 0, .bool false, .int .i64 17]) (by simp [results, Try.results38, go_sem]) rfl ⟨rfl, ?_⟩
    exact ⟨b, Step.refl H.out (by (repeat (first | with_reducible exact Chg.refl _ _ | with_reducible apply Chg.drewN | with_reducible apply Chg.drew | with_reducible apply Chg.alloc | (with_reducible refine Chg.setCell ?_ ?_ _; rotate_left; focus (first | (refine Or.inr ?_; first | omega | (simp; done) | (simp; omega)) | exact Or.inl (by assumption) | with_reducible exact Or.inl rfl | exact Or.inl (by simp))) | refine Chg.trans ?_ (Chg.of_below (by with_reducible assumption) (fun k h1 h2 => absurd h1 (by first | omega | (simp; omega)))) | refine Chg.trans ?_ (by with_reducible assumption))))⟩
  · by_cases c2 : 3 < x
    · have e0 : g.act t ⟨12, x, y, z, v⟩ = ⟨g, 0, false, 17⟩ := by simp [GS.act, c2]
      rw [e0]
      clear e0 h
      have d1 : 0 ≤ x := by omega
      go_enter Try.func38, Try.ntmps38
      go_wp2
      refine bodyPost_ret (v := .tuple #[.int .u64 0, .bool false, .int .i64 17]) (by simp [results, Try.results38, go_sem]) rfl ⟨rfl, ?_⟩
      exact ⟨b, Step.refl H.out (by (repeat (first | with_reducible exact Chg.refl _ _ | with_reducible apply Chg.drewN | with_reducible apply Chg.drew | with_reducible apply Chg.alloc | (with_reducible refine Chg.setCell ?_ ?_ _; rotate_left; focus (first | (refine Or.inr ?_; first | omega | (simp; done) | (simp; omega)) | exact Or.inl (by assumption) | with_reducible exact Or.inl rfl | exact Or.inl (by simp))) | refine Chg.trans ?_ (Chg.of_below (by with_reducible assumption) (fun k h1 h2 => absurd h1 (by first | omega | (simp; omega)))) | refine Chg.trans ?_ (by with_reducible assumption))))⟩
    · have e0 : g.act t ⟨12, x, y, z, v⟩ = ⟨g, 0, false, 0⟩ := by
        have c3 : ¬ (x < 0 ∨ 3 < x) := by omega
        simp [GS.act, c3]
      rw [e0]
      clear e0 h
      have d1 : 0 ≤ x := by omega
      have d2 : x ≤ 3 := by omega
      go_enter Try.func38, Try.ntmps38
      go_wp2
      refine bodyPost_ret (v := .tuple #[.int .u64 0, .bool false, .int .i64 0]) (by simp [results, Try.results38, go_sem]) rfl ⟨rfl, ?_⟩
      exact ⟨b, Step.refl H.out (by (repeat (first | with_reducible exact Chg.refl _ _ | with_reducible apply Chg.drewN | with_reducible apply Chg.drew | with_reducible apply Chg.alloc | (with_reducible refine Chg.setCell ?_ ?_ _; rotate_left; focus (first | (refine Or.inr ?_; first | omega | (simp; done) | (simp; omega)) | exact Or.inl (by assumption) | with_reducible exact Or.inl rfl | exact Or.inl (by simp))) | refine Chg.trans ?_ (Chg.of_below (by with_reducible assumption) (fun k h1 h2 => absurd h1 (by first | omega | (simp; omega)))) | refine Chg.trans ?_ (by with_reducible assumption))))⟩

set_option maxRecDepth 100000 in
set_option maxHeartbeats 4000000 in
theorem act_other (k : Int) (hk : k < 1 ∨ 13 < k) : Calls Try.prog 38 #[.pointer (some ⟨b.p, 0, none⟩), .pointer (some ⟨b.S t, 0, none⟩), .agg #[.int .i64 k, .int .i64 x, .int .i64 y, .int .i64 z, .int .u64 v]] w (ActPost w b g (g.act t ⟨k, x, y, z, v⟩)) := by
  have _ := ht
  have m1 : ¬ k = 1 := by omega
  have m2 : ¬ k = 2 := by omega
  have m3 : ¬ k = 3 := by omega
  have m4 : ¬ k = 4 := by omega
  have m5 : ¬ k = 5 := by omega
  have m6 : ¬ k = 6 := by omega
  have m7 : ¬ k = 7 := by omega
  have m8 : ¬ k = 8 := by omega
  have m9 : ¬ k = 9 := by omega
  have m10 : ¬ k = 10 := by omega
  have m11 : ¬ k = 11 := by omega
  have m12 : ¬ k = 12 := by omega
  have m13 : ¬ k = 13 := by omega
  have n1 : (k == 1) = false := by simp; omega
  have n2 : (k == 2) = false := by simp; omega
  have n3 : (k == 3) = false := by simp; omega
  have n4 : (k == 4) = false := by simp; omega
  have n5 : (k == 5) = false := by simp; omega
  have n6 : (k == 6) = false := by simp; omega
  have n7 : (k == 7) = false := by simp; omega
  have n8 : (k == 8) = false := by simp; omega
  have n9 : (k == 9) = false := by simp; omega
  have n10 : (k == 10) = false := by simp; omega
  have n11 : (k == 11) = false := by simp; omega
  have n12 : (k == 12) = false := by simp; omega
  have n13 : (k == 13) = false := by simp; omega
  have e0 : g.act t ⟨k, x, y, z, v⟩ = ⟨g, 0, false, 17⟩ := by simp [GS.act, m1, m2, m3, m4, m5, m6, m7, m8, m9, m10, m11, m12, m13]
  rw [e0]
  have H := hid h
  clear e0 h hk
  go_enter Try.func38, Try.ntmps38
  go_wp2
  refine bodyPost_ret (v := .tuple #[.int .u64 0, .bool false, .int .i64 17]) (by simp [results, Try.results38, go_sem]) rfl ⟨rfl, ?_⟩
  exact ⟨b, Step.refl H.out (by (repeat (first | with_reducible exact Chg.refl _ _ | with_reducible apply Chg.drewN | with_reducible apply Chg.drew | with_reducible apply Chg.alloc | (with_reducible refine Chg.setCell ?_ ?_ _; rotate_left; focus (first | (refine Or.inr ?_; first | omega | (simp; done) | (simp; omega)) | exact Or.inl (by assumption) | with_reducible exact Or.inl rfl | exact Or.inl (by simp))) | refine Chg.trans ?_ (Chg.of_below (by with_reducible assumption) (fun k h1 h2 => absurd h1 (by first | omega | (simp; omega)))) | refine Chg.trans ?_ (by with_reducible assumption))))⟩

set_option maxRecDepth 100000 in
set_option maxHeartbeats 4000000 in
theorem act_10  : Calls Try.prog 38 #[.pointer (some ⟨b.p, 0, none⟩), .pointer (some ⟨b.S t, 0, none⟩), .agg #[.int .i64 10, .int .i64 x, .int .i64 y, .int .i64 z, .int .u64 v]] w (ActPost w b g (g.act t ⟨10, x, y, z, v⟩)) := by
  have hgq := h.quiet ((Chg.refl _ w).alloc (.cells #[.int .i64 10, .int .i64 x, .int .i64 y, .int .i64 z, .int .u64 v] 67))
  have H := hid h
  have hX := at_gen _ b g t x hgq ht
  rcases codeAt_cases (g.st t) x with ⟨p1, p2⟩ | ⟨p1, p2, p3⟩
  · have e0 : g.act t ⟨10, x, y, z, v⟩ = ⟨g, 0, refAt (g.st t) x == 0, 0⟩ := by simp [GS.act, p2]
    rw [e0]
    rw [p2] at hX
    have HX := hid hX
    clear e0 hX hgq h p2
    revert HX
    generalize refAt (g.st t) x = r
    intro HX
    by_cases hr : r = 0
    · subst hr
      go_enter Try.func38, Try.ntmps38
      go_wp2_with (go_at_call 17; refine HX.out.mono ?_; rintro e w1 ⟨rfl, rfl⟩)
      refine bodyPost_ret (v := .tuple #[.int .u64 0, .bool true, .int .i64 0]) (by simp [results, Try.results38, go_sem]) rfl ⟨rfl, ?_⟩
      exact ⟨b, Step.refl H.out (by (repeat (first | with_reducible exact Chg.refl _ _ | with_reducible apply Chg.drewN | with_reducible apply Chg.drew | with_reducible apply Chg.alloc | (with_reducible refine Chg.setCell ?_ ?_ _; rotate_left; focus (first | (refine Or.inr ?_; first | omega | (simp; done) | (simp; omega)) | exact Or.inl (by assumption) | with_reducible exact Or.inl rfl | exact Or.inl (by simp))) | refine Chg.trans ?_ (Chg.of_below (by with_reducible assumption) (fun k h1 h2 => absurd h1 (by first | omega | (simp; omega)))) | refine Chg.trans ?_ (by with_reducible assumption))))⟩
    · have hr1 : (r == 0) = false := by simpa using hr
      rw [hr1]
      go_enter Try.func38, Try.ntmps38
      go_wp2_with (go_at_call 17; refine HX.out.mono ?_; rintro e w1 ⟨rfl, rfl⟩)
      refine bodyPost_ret (v := .tuple #[.int .u64 0, .bool false, .int .i64 0]) (by simp [results, Try.results38, go_sem, hr1]) rfl ⟨rfl, ?_⟩
      exact ⟨b, Step.refl H.out (by (repeat (first | with_reducible exact Chg.refl _ _ | with_reducible apply Chg.drewN | with_reducible apply Chg.drew | with_reducible apply Chg.alloc | (with_reducible refine Chg.setCell ?_ ?_ _; rotate_left; focus (first | (refine Or.inr ?_; first | omega | (simp; done) | (simp; omega)) | exact Or.inl (by assumption) | with_reducible exact Or.inl rfl | exact Or.inl (by simp))) | refine Chg.trans ?_ (Chg.of_below (by with_reducible assumption) (fun k h1 h2 => absurd h1 (by first | omega | (simp; omega)))) | refine Chg.trans ?_ (by with_reducible assumption))))⟩
  · have e0 : g.act t ⟨10, x, y, z, v⟩ = ⟨g, 0, false, 10⟩ := by simp [GS.act, p2]
    rw [e0]
    rw [p2] at hX
    have HX := hid hX
    clear e0 hX hgq h p2 p3
    go_enter Try.func38, Try.ntmps38
    go_wp2_with (go_at_call 17; refine HX.out.mono ?_; rintro e w1 ⟨rfl, rfl⟩)
    refine bodyPost_ret (v := .tuple #[.int .u64 0, .bool false, .int .i64 10]) (by simp [results, Try.results38, go_sem]) rfl ⟨rfl, ?_⟩
    exact ⟨b, Step.refl H.out (by (repeat (first | with_reducible exact Chg.refl _ _ | with_reducible apply Chg.drewN | with_reducible apply Chg.drew | with_reducible apply Chg.alloc | (with_reducible refine Chg.setCell ?_ ?_ _; rotate_left; focus (first | (refine Or.inr ?_; first | omega | (simp; done) | (simp; omega)) | exact Or.inl (by assumption) | with_reducible exact Or.inl rfl | exact Or.inl (by simp))) | refine Chg.trans ?_ (Chg.of_below (by with_reducible assumption) (fun k h1 h2 => absurd h1 (by first | omega | (simp; omega)))) | refine Chg.trans ?_ (by with_reducible assumption))))⟩

set_option maxRecDepth 100000 in
set_option maxHeartbeats 4000000 in
theorem act_9  : Calls Try.prog 38 #[.pointer (some ⟨b.p, 0, none⟩), .pointer (some ⟨b.S t, 0, none⟩), .agg #[.int .i64 9, .int .i64 x, .int .i64 y, .int .i64 z, .int .u64 v]] w (ActPost w b g (g.act t ⟨9, x, y, z, v⟩)) := by
  have hgq := h.quiet ((Chg.refl _ w).alloc (.cells #[.int .i64 9, .int .i64 x, .int .i64 y, .int .i64 z, .int .u64 v] 67))
  have H := hid h
  have hX := at_gen _ b g t x hgq ht
  have hY := at_gen _ b g t y hgq ht
  rcases codeAt_cases (g.st t) x with ⟨p1, p2⟩ | ⟨p1, p2, p3⟩ <;> rcases codeAt_cases (g.st t) y with ⟨q1, q2⟩ | ⟨q1, q2, q3⟩
  · have e0 : g.act t ⟨9, x, y, z, v⟩ = ⟨g, 0, refAt (g.st t) x == refAt (g.st t) y, 0⟩ := by simp [GS.act, p2, q2]
    rw [e0]
    rw [p2] at hX
    rw [q2] at hY
    have HX := hid hX
    have HY := hid hY
    clear e0 hX hY hgq h p2 q2
    revert HX HY
    generalize refAt (g.st t) x = r
    generalize refAt (g.st t) y = s
    intro HX HY
    go_enter Try.func38, Try.ntmps38
    go_wp2_with (first
      | (go_at_call 17; with_reducible refine HX.out.mono ?_; rintro e w1 ⟨rfl, rfl⟩)
      | (go_at_call 17; with_reducible refine HY.out.mono ?_; rintro e w1 ⟨rfl, rfl⟩))
    refine bodyPost_ret (v := .tuple #[.int .u64 0, .bool (r == s), .int .i64 0]) (by simp [results, Try.results38, go_sem]) rfl ⟨rfl, ?_⟩
    exact ⟨b, Step.refl H.out (by (repeat (first | with_reducible exact Chg.refl _ _ | with_reducible apply Chg.drewN | with_reducible apply Chg.drew | with_reducible apply Chg.alloc | (with_reducible refine Chg.setCell ?_ ?_ _; rotate_left; focus (first | (refine Or.inr ?_; first | omega | (simp; done) | (simp; omega)) | exact Or.inl (by assumption) | with_reducible exact Or.inl rfl | exact Or.inl (by simp))) | refine Chg.trans ?_ (Chg.of_below (by with_reducible assumption) (fun k h1 h2 => absurd h1 (by first | omega | (simp; omega)))) | refine Chg.trans ?_ (by with_reducible assumption))))⟩
  all_goals (
    have e0 : g.act t ⟨9, x, y, z, v⟩ = ⟨g, 0, false, 10⟩ := by simp [GS.act, p2, q2]
    rw [e0]
    rw [p2] at hX
    rw [q2] at hY
    have HX := hid hX
    have HY := hid hY
    clear e0 hX hY hgq h p2 q2
    go_enter Try.func38, Try.ntmps38
    go_wp2_with (first
      | (go_at_call 17; with_reducible refine HX.out.mono ?_; rintro e w1 ⟨rfl, rfl⟩)
      | (go_at_call 17; with_reducible refine HY.out.mono ?_; rintro e w1 ⟨rfl, rfl⟩))
    refine bodyPost_ret (v := .tuple #[.int .u64 0, .bool false, .int .i64 10]) (by simp [results, Try.results38, go_sem]) rfl ⟨rfl, ?_⟩
    exact ⟨b, Step.refl H.out (by (repeat (first | with_reducible exact Chg.refl _ _ | with_reducible apply Chg.drewN | with_reducible apply Chg.drew | with_reducible apply Chg.alloc | (with_reducible refine Chg.setCell ?_ ?_ _; rotate_left; focus (first | (refine Or.inr ?_; first | omega | (simp; done) | (simp; omega)) | exact Or.inl (by assumption) | with_reducible exact Or.inl rfl | exact Or.inl (by simp))) | refine Chg.trans ?_ (Chg.of_below (by with_reducible assumption) (fun k h1 h2 => absurd h1 (by first | omega | (simp; omega)))) | refine Chg.trans ?_ (by with_reducible assumption))))⟩)

end
end Go.Proofs.Ytcdllelbdcacjaa
