/-
  Graphs (layer 13): an object more, a thread more, an operation more. No function of the program in sight.
-/
import Derived.Test.YtcdllelbdcacjaaGraph2
set_option linter.unusedVariables false
set_option linter.unusedSimpArgs false
namespace Go.Proofs.Ytcdllelbdcacjaa
open Go.RowKit

theorem Inj.fresh {f f' : Lab → Option Nat} (h : Inj f) (a0 : Lab) (same : ∀ a, a ≠ a0 → f' a = f a) (new : ∀ k, f' a0 = some k → f a0 = some k ∨ ∀ a, a ≠ a0 → f a ≠ some k) : Inj f' := by
  intro a c k ha hc
  by_cases h1 : a = a0
  · by_cases h2 : c = a0
    · rw [h1, h2]
    · rw [same c h2] at hc
      subst h1
      rcases new k ha with h3 | h3
      · exact absurd (h a c k h3 hc).symm h2
      · exact absurd hc (h3 c h2)
  · rw [same a h1] at ha
    by_cases h2 : c = a0
    · subst h2
      rcases new k hc with h3 | h3
      · exact absurd (h a c k ha h3) h1
      · exact absurd ha (h3 a h1)
    · rw [same c h2] at hc
      exact h a c k ha hc

section
variable {w w1 : World} {b : GB} {g : GS}

/-- where a thread's cells lie -/
theorem GAt.thrAt (h : GAt w b g) {t : Nat} (ht : t < g.n) : ∃ q cap, b.tv = .slice (some ⟨q, 0, none⟩) g.n cap ∧ q < w.heap.size ∧ b.blk g.n g.m .th = some q ∧ w.cell? ⟨q, t * 2, none⟩ = some (.pointer (some ⟨b.S t, 0, none⟩)) ∧
    w.cell? ⟨q, t * 2 + 1, none⟩ = some (.int .i64 (g.done t)) ∧ w.frozen? ⟨q, t * 2 + 1, none⟩ = false := by
  obtain ⟨T, hT1, hT2⟩ := h.thr
  obtain ⟨q, cap, hv, hq1, hq2⟩ := hT1.form (by omega)
  refine ⟨q, cap, hv, hq2, by simp [GB.blk, hv, Value.ownBlock], ?_, ?_, ?_⟩
  · have := hT1.cells (g := q) (by rw [hv]; rfl) (t * 2) _ (hT2 t ht).1
    rw [Go.WideShapes.add_plain, Nat.zero_add] at this
    exact this
  · have := hT1.cells (g := q) (by rw [hv]; rfl) (t * 2 + 1) _ (hT2 t ht).2
    rw [Go.WideShapes.add_plain, Nat.zero_add] at this
    exact this
  · rw [hv] at hT1
    exact hT1.frozenAt _

/-- a thread's operations are counted -/
theorem GAt.count (h : GAt w b g) (t q cap : Nat) (ht : t < g.n) (hv : b.tv = .slice (some ⟨q, 0, none⟩) g.n cap) (d : Int) :
    GAt (w.setCell ⟨q, t * 2 + 1, none⟩ (.int .i64 d)) b { g with done := upd g.done t d } := by
  have hq : b.blk g.n g.m .th = some q := by simp [GB.blk, hv, Value.ownBlock]
  have c : Chg (fun k => k = q) w (w.setCell ⟨q, t * 2 + 1, none⟩ (.int .i64 d)) := by (repeat (first | with_reducible exact Chg.refl _ _ | with_reducible apply Chg.drewN | with_reducible apply Chg.drew | with_reducible apply Chg.alloc | (with_reducible refine Chg.setCell ?_ ?_ _; rotate_left; focus (first | (refine Or.inr ?_; first | omega | (simp; done) | (simp; omega)) | exact Or.inl (by assumption) | with_reducible exact Or.inl rfl | exact Or.inl (by simp))) | refine Chg.trans ?_ (Chg.of_below (by with_reducible assumption) (fun k h1 h2 => absurd h1 (by first | omega | (simp; omega)))) | refine Chg.trans ?_ (by with_reducible assumption)))
  have off : ∀ a k, b.blk g.n g.m a = some k → a ≠ .th → ¬ k = q := fun a k ha h1 hk => by subst hk; exact h1 (h.inj a .th _ ha hq)
  have hpl := h.lt .p b.p rfl
  have hp := off .p b.p rfl (by simp)
  obtain ⟨T, hT1, hT2⟩ := h.thr
  obtain ⟨O, hO1, hO2⟩ := h.obj
  rw [hv] at hT1
  have hTl : T.length = g.n * 2 := hT1.1
  exact { h with
    mx := (c.cell hpl hp).trans h.mx
    obs := (c.cell hpl hp).trans h.obs
    ths := (c.cell hpl hp).trans h.ths
    fz1 := (c.frozen hpl hp).trans h.fz1
    fz2 := (c.frozen hpl hp).trans h.fz2
    thr := ⟨T.set (t * 2 + 1) (.int .i64 d), by rw [hv]; exact (hT1.stored (t * 2 + 1) _).1, fun s hs' => by
      have h1 : ¬ t * 2 + 1 = s * 2 := by omega
      refine ⟨by rw [List.getElem?_set_ne h1]; exact (hT2 s hs').1, ?_⟩
      by_cases e : s = t
      · subst e
        show (T.set (s * 2 + 1) _)[s * 2 + 1]? = some (.int .i64 (upd g.done s d s))
        rw [upd_same, List.getElem?_set_self (by omega)]
      · show (T.set (t * 2 + 1) _)[s * 2 + 1]? = some (.int .i64 (upd g.done t d s))
        rw [upd_other _ _ e, List.getElem?_set_ne (by omega)]
        exact (hT2 s hs').2⟩
    stk := fun s hs' => (h.stk s hs').chg c (off (.st s) _ (if_pos hs') (by simp)) (fun k hk => off (.ls s) k (by rw [show b.blk g.n g.m (.ls s) = (b.sv s).ownBlock from if_pos hs']; exact hk) (by simp))
    obj := ⟨O, c.owns hO1 (fun k hk => off .ob k hk (by simp)), hO2⟩
    rfs := fun i hi => c.row (h.rfs i hi) (off (.rf i) _ (if_pos hi) (by simp))
    dts := fun i hi => c.row (h.dts i hi) (off (.dt i) _ (if_pos hi) (by simp)) }

/-- an object more -/
theorem GAt.addObj (h : GAt w b g) (ov' : Value) (R' D' : Nat) (rl dl : List Int) (O : List Value) (c : Chg (fun k => b.ov.ownBlock = some k) w w1) (hO1 : w.ownsRow 0 104 2 b.ov g.m O)
    (hO2 : ∀ i, i < g.m → O[i * 2]? = some (.slice (some ⟨b.R i, 0, none⟩) (g.rf i).length (g.rf i).length) ∧ O[i * 2 + 1]? = some (.slice (some ⟨b.D i, 0, none⟩) (g.dt i).length (g.dt i).length))
    (ho : w1.ownsRow 0 104 2 ov' (g.m + 1) (O ++ [.slice (some ⟨R', 0, none⟩) rl.length rl.length, .slice (some ⟨D', 0, none⟩) dl.length dl.length]))
    (hov : ∀ k, ov'.ownBlock = some k → b.ov.ownBlock = some k ∨ (w.heap.size ≤ k ∧ k ≠ R' ∧ k ≠ D'))
    (hR : w1.rowIs R' 30 rl.length (fun j => .int .u64 (rl.getD j 0))) (hD : w1.rowIs D' 29 dl.length (fun j => .int .u64 (dl.getD j 0))) (hR' : w.heap.size ≤ R') (hD' : w.heap.size ≤ D') (hRD : R' ≠ D')
    (hr : ∀ r, r ∈ rl → 0 ≤ r ∧ r ≤ g.m) (hl : rl.length ≤ 1048576 ∧ dl.length ≤ 1048576) (hm : g.m + 1 ≤ 1048576) :
    GAt (w1.setCell ⟨b.p, 1, none⟩ ov') { b with ov := ov', R := upd b.R g.m R', D := upd b.D g.m D' } { g with m := g.m + 1, rf := upd g.rf g.m rl, dt := upd g.dt g.m dl } := by
  have hB : b.blk g.n g.m .ob = b.ov.ownBlock := rfl
  have off : ∀ a k, b.blk g.n g.m a = some k → a ≠ .ob → ¬ b.ov.ownBlock = some k := fun a k ha h1 hk => h1 (h.inj a .ob k ha hk)
  have hpl := h.lt .p b.p rfl
  have hp := off .p b.p rfl (by simp)
  have hpl1 : b.p < w1.heap.size := Nat.lt_of_lt_of_le hpl c.size
  have c2 : Chg (fun k => k = b.p) w1 (w1.setCell ⟨b.p, 1, none⟩ ov') := by (repeat (first | with_reducible exact Chg.refl _ _ | with_reducible apply Chg.drewN | with_reducible apply Chg.drew | with_reducible apply Chg.alloc | (with_reducible refine Chg.setCell ?_ ?_ _; rotate_left; focus (first | (refine Or.inr ?_; first | omega | (simp; done) | (simp; omega)) | exact Or.inl (by assumption) | with_reducible exact Or.inl rfl | exact Or.inl (by simp))) | refine Chg.trans ?_ (Chg.of_below (by with_reducible assumption) (fun k h1 h2 => absurd h1 (by first | omega | (simp; omega)))) | refine Chg.trans ?_ (by with_reducible assumption)))
  have offp : ∀ a k, b.blk g.n g.m a = some k → a ≠ .p → ¬ k = b.p := fun a k ha h1 hk => by subst hk; exact h1 (h.inj a .p _ ha rfl)
  have hobs : w1.cell? ⟨b.p, 1, none⟩ = some b.ov := (c.cell hpl hp).trans h.obs
  obtain ⟨T, hT1, hT2⟩ := h.thr
  have hOl : O.length = g.m * 2 := hO1.1
  have hovp : ∀ k, ov'.ownBlock = some k → ¬ k = b.p := fun k hk e => by
    subst e
    rcases hov _ hk with h1 | h1
    · exact hp h1
    · omega
  refine { h with
    mx := by rw [World.cell?_setCell_other _ _ _ _ (by simp)]; exact (c.cell hpl hp).trans h.mx
    obs := World.cell?_setCell_same' _ _ _ (by rw [hobs]; rfl)
    ths := by rw [World.cell?_setCell_other _ _ _ _ (by simp)]; exact (c.cell hpl hp).trans h.ths
    fz1 := by rw [World.frozen?_setCell]; exact (c.frozen hpl hp).trans h.fz1
    fz2 := by rw [World.frozen?_setCell]; exact (c.frozen hpl hp).trans h.fz2
    thr := ⟨T, c2.owns (c.owns hT1 (fun k hk => off .th k hk (by simp))) (fun k hk => offp .th k hk (by simp)), hT2⟩
    stk := fun s hs' => ((h.stk s hs').chg c (off (.st s) _ (if_pos hs') (by simp)) (fun k hk => off (.ls s) k (by rw [show b.blk g.n g.m (.ls s) = (b.sv s).ownBlock from if_pos hs']; exact hk) (by simp))).chg c2 (offp (.st s) _ (if_pos hs') (by simp)) (fun k hk => offp (.ls s) k (by rw [show b.blk g.n g.m (.ls s) = (b.sv s).ownBlock from if_pos hs']; exact hk) (by simp))
    obj := ⟨_, c2.owns ho (fun k hk => hovp k hk), fun s hs' => ?_⟩
    rfs := fun s hs' => ?_
    dts := fun s hs' => ?_
    inj := ?_
    okS := fun s hs' r hr' => by have := h.okS s hs' r hr'; exact ⟨this.1, by show r ≤ ((g.m + 1 : Nat) : Int); omega⟩
    okR := fun s hs' r hr' => ?_
    small := fun s hs' => ?_
    objs := hm }
  · by_cases e : s = g.m
    · subst e
      show (O ++ _)[g.m * 2]? = some (.slice (some ⟨upd b.R g.m R' g.m, 0, none⟩) (upd g.rf g.m rl g.m).length (upd g.rf g.m rl g.m).length) ∧ (O ++ _)[g.m * 2 + 1]? = some (.slice (some ⟨upd b.D g.m D' g.m, 0, none⟩) (upd g.dt g.m dl g.m).length (upd g.dt g.m dl g.m).length)
      rw [upd_same, upd_same, upd_same, upd_same]
      constructor
      · rw [List.getElem?_append_right (by omega)]; simp [hOl]
      · rw [List.getElem?_append_right (by omega)]; simp [hOl]
    · have hs2 : s < g.m := by have : s < g.m + 1 := hs'; omega
      show (O ++ _)[s * 2]? = some (.slice (some ⟨upd b.R g.m R' s, 0, none⟩) (upd g.rf g.m rl s).length (upd g.rf g.m rl s).length) ∧ (O ++ _)[s * 2 + 1]? = some (.slice (some ⟨upd b.D g.m D' s, 0, none⟩) (upd g.dt g.m dl s).length (upd g.dt g.m dl s).length)
      rw [upd_other _ _ e, upd_other _ _ e, upd_other _ _ e, upd_other _ _ e, List.getElem?_append_left (by omega), List.getElem?_append_left (by omega)]
      exact hO2 s hs2
  · by_cases e : s = g.m
    · subst e
      show (w1.setCell ⟨b.p, 1, none⟩ ov').rowIs (upd b.R g.m R' g.m) _ (upd g.rf g.m rl g.m).length (fun j => .int .u64 ((upd g.rf g.m rl g.m).getD j 0))
      rw [upd_same, upd_same]
      exact c2.row hR (fun e => by have e' : R' = b.p := e; omega)
    · have hs2 : s < g.m := by have : s < g.m + 1 := hs'; omega
      show (w1.setCell ⟨b.p, 1, none⟩ ov').rowIs (upd b.R g.m R' s) _ (upd g.rf g.m rl s).length (fun j => .int .u64 ((upd g.rf g.m rl s).getD j 0))
      rw [upd_other _ _ e, upd_other _ _ e]
      exact c2.row (c.row (h.rfs s hs2) (off (.rf s) _ (if_pos hs2) (by simp))) (offp (.rf s) _ (if_pos hs2) (by simp))
  · by_cases e : s = g.m
    · subst e
      show (w1.setCell ⟨b.p, 1, none⟩ ov').rowIs (upd b.D g.m D' g.m) _ (upd g.dt g.m dl g.m).length (fun j => .int .u64 ((upd g.dt g.m dl g.m).getD j 0))
      rw [upd_same, upd_same]
      exact c2.row hD (fun e => by have e' : D' = b.p := e; omega)
    · have hs2 : s < g.m := by have : s < g.m + 1 := hs'; omega
      show (w1.setCell ⟨b.p, 1, none⟩ ov').rowIs (upd b.D g.m D' s) _ (upd g.dt g.m dl s).length (fun j => .int .u64 ((upd g.dt g.m dl s).getD j 0))
      rw [upd_other _ _ e, upd_other _ _ e]
      exact c2.row (c.row (h.dts s hs2) (off (.dt s) _ (if_pos hs2) (by simp))) (offp (.dt s) _ (if_pos hs2) (by simp))
  · -- the blocks
    have lt := h.lt
    have i1 : Inj (fun a => if a = .rf g.m then some R' else b.blk g.n g.m a) := h.inj.fresh (.rf g.m) (fun a ha => if_neg ha) (fun k hk => by
      have hk' : some R' = some k := by simpa using hk
      injection hk' with hk'
      exact .inr (fun a _ h2 => by have := lt a k h2; omega))
    have i2 : Inj (fun a => if a = .dt g.m then some D' else if a = .rf g.m then some R' else b.blk g.n g.m a) := i1.fresh (.dt g.m) (fun a ha => if_neg ha) (fun k hk => by
      have hk' : some D' = some k := by simpa using hk
      injection hk' with hk'
      refine .inr (fun a _ h2 => ?_)
      have h2' : (if a = .rf g.m then some R' else b.blk g.n g.m a) = some k := h2
      by_cases e : a = .rf g.m
      · rw [if_pos e] at h2'; injection h2' with h2'; omega
      · rw [if_neg e] at h2'; have := lt a k h2'; omega)
    have i3 : Inj (fun a => if a = .ob then ov'.ownBlock else if a = .dt g.m then some D' else if a = .rf g.m then some R' else b.blk g.n g.m a) := i2.fresh .ob (fun a ha => if_neg ha) (fun k hk => by
      have hk' : ov'.ownBlock = some k := by simpa using hk
      rcases hov k hk' with h1 | ⟨h1, h3, h4⟩
      · left
        show (if Lab.ob = .dt g.m then some D' else if Lab.ob = .rf g.m then some R' else b.blk g.n g.m .ob) = some k
        rw [if_neg (by simp), if_neg (by simp)]
        exact h1
      · refine .inr (fun a _ h2 => ?_)
        have h2' : (if a = .dt g.m then some D' else if a = .rf g.m then some R' else b.blk g.n g.m a) = some k := h2
        by_cases e : a = .dt g.m
        · rw [if_pos e] at h2'; injection h2' with h2'; exact h4 h2'.symm
        · rw [if_neg e] at h2'
          by_cases e2 : a = .rf g.m
          · rw [if_pos e2] at h2'; injection h2' with h2'; exact h3 h2'.symm
          · rw [if_neg e2] at h2'; have := lt a k h2'; omega)
    have e : GB.blk { b with ov := ov', R := upd b.R g.m R', D := upd b.D g.m D' } g.n (g.m + 1) = (fun a => if a = .ob then ov'.ownBlock else if a = .dt g.m then some D' else if a = .rf g.m then some R' else b.blk g.n g.m a) := by
      funext a
      cases a with
      | rf i =>
        simp only [GB.blk]
        by_cases h1 : i = g.m
        · subst h1; simp [upd_same]
        · simp only [upd_other _ _ h1]
          by_cases h2 : i < g.m
          · simp [h1, h2, show i < g.m + 1 by omega]
          · simp [h1, h2, show ¬ i < g.m + 1 by omega]
      | dt i =>
        simp only [GB.blk]
        by_cases h1 : i = g.m
        · subst h1; simp [upd_same]
        · simp only [upd_other _ _ h1]
          by_cases h2 : i < g.m
          · simp [h1, h2, show i < g.m + 1 by omega]
          · simp [h1, h2, show ¬ i < g.m + 1 by omega]
      | _ => simp [GB.blk]
    show Inj (GB.blk { b with ov := ov', R := upd b.R g.m R', D := upd b.D g.m D' } g.n (g.m + 1))
    rw [e]
    exact i3
  · have hr2 : r ∈ upd g.rf g.m rl s := hr'
    by_cases e : s = g.m
    · subst e
      rw [upd_same] at hr2
      have := hr r hr2
      exact ⟨this.1, by show r ≤ ((g.m + 1 : Nat) : Int); omega⟩
    · have hs2 : s < g.m := by have : s < g.m + 1 := hs'; omega
      rw [upd_other _ _ e] at hr2
      have := h.okR s hs2 r hr2
      exact ⟨this.1, by show r ≤ ((g.m + 1 : Nat) : Int); omega⟩
  · by_cases e : s = g.m
    · subst e
      show (upd g.rf g.m rl g.m).length ≤ _ ∧ (upd g.dt g.m dl g.m).length ≤ _
      rw [upd_same, upd_same]; exact hl
    · have hs2 : s < g.m := by have : s < g.m + 1 := hs'; omega
      show (upd g.rf g.m rl s).length ≤ _ ∧ (upd g.dt g.m dl s).length ≤ _
      rw [upd_other _ _ e, upd_other _ _ e]; exact h.small s hs2
end
end Go.Proofs.Ytcdllelbdcacjaa
