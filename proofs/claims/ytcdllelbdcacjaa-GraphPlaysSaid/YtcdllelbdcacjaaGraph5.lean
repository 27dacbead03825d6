/-
  Graphs (layer 13): a new graph.
-/
import Derived.Test.YtcdllelbdcacjaaGraph4
set_option linter.unusedVariables false
set_option linter.unusedSimpArgs false
namespace Go.Proofs.Ytcdllelbdcacjaa
open Go.RowKit

/-- a thread more -/
theorem GAt.addThr {w w1 : World} {b : GB} {g : GS} (h : GAt w b g) (tv' : Value) (S' : Nat) (T : List Value) (c : Chg (fun k => b.tv.ownBlock = some k) w w1) (hT1 : w.ownsRow 0 88 2 b.tv g.n T)
    (hT2 : ∀ t, t < g.n → T[t * 2]? = some (.pointer (some ⟨b.S t, 0, none⟩)) ∧ T[t * 2 + 1]? = some (.int .i64 (g.done t)))
    (ho : w1.ownsRow 0 88 2 tv' (g.n + 1) (T ++ [.pointer (some ⟨S', 0, none⟩), .int .i64 0])) (hov : ∀ k, tv'.ownBlock = some k → b.tv.ownBlock = some k ∨ (w.heap.size ≤ k ∧ k ≠ S'))
    (hS : StackAt w1 S' (.slice none 0 0) g.bound []) (hS' : w.heap.size ≤ S') (hn : g.n + 1 ≤ 64) :
    GAt (w1.setCell ⟨b.p, 2, none⟩ tv') { b with tv := tv', S := upd b.S g.n S', sv := upd b.sv g.n (.slice none 0 0) } { g with n := g.n + 1, st := upd g.st g.n [], done := upd g.done g.n 0 } := by
  have off : ∀ a k, b.blk g.n g.m a = some k → a ≠ .th → ¬ b.tv.ownBlock = some k := fun a k ha h1 hk => h1 (h.inj a .th k ha hk)
  have hpl := h.lt .p b.p rfl
  have hp := off .p b.p rfl (by simp)
  have hpl1 : b.p < w1.heap.size := Nat.lt_of_lt_of_le hpl c.size
  have c2 : Chg (fun k => k = b.p) w1 (w1.setCell ⟨b.p, 2, none⟩ tv') := by (repeat (first | with_reducible exact Chg.refl _ _ | with_reducible apply Chg.drewN | with_reducible apply Chg.drew | with_reducible apply Chg.alloc | (with_reducible refine Chg.setCell ?_ ?_ _; rotate_left; focus (first | (refine Or.inr ?_; first | omega | (simp; done) | (simp; omega)) | exact Or.inl (by assumption) | with_reducible exact Or.inl rfl | exact Or.inl (by simp))) | refine Chg.trans ?_ (Chg.of_below (by with_reducible assumption) (fun k h1 h2 => absurd h1 (by first | omega | (simp; omega)))) | refine Chg.trans ?_ (by with_reducible assumption)))
  have offp : ∀ a k, b.blk g.n g.m a = some k → a ≠ .p → ¬ k = b.p := fun a k ha h1 hk => by subst hk; exact h1 (h.inj a .p _ ha rfl)
  have hths : w1.cell? ⟨b.p, 2, none⟩ = some b.tv := (c.cell hpl hp).trans h.ths
  obtain ⟨O, hO1, hO2⟩ := h.obj
  have hTl : T.length = g.n * 2 := hT1.1
  have hovp : ∀ k, tv'.ownBlock = some k → ¬ k = b.p := fun k hk e => by
    subst e
    rcases hov _ hk with h1 | h1
    · exact hp h1
    · omega
  refine { h with
    mx := by rw [World.cell?_setCell_other _ _ _ _ (by simp)]; exact (c.cell hpl hp).trans h.mx
    obs := by rw [World.cell?_setCell_other _ _ _ _ (by simp)]; exact (c.cell hpl hp).trans h.obs
    ths := World.cell?_setCell_same' _ _ _ (by rw [hths]; rfl)
    fz1 := by rw [World.frozen?_setCell]; exact (c.frozen hpl hp).trans h.fz1
    fz2 := by rw [World.frozen?_setCell]; exact (c.frozen hpl hp).trans h.fz2
    thr := ⟨_, c2.owns ho (fun k hk => hovp k hk), fun s hs' => ?_⟩
    stk := fun s hs' => ?_
    obj := ⟨O, c2.owns (c.owns hO1 (fun k hk => off .ob k hk (by simp))) (fun k hk => offp .ob k hk (by simp)), hO2⟩
    rfs := fun i hi => c2.row (c.row (h.rfs i hi) (off (.rf i) _ (if_pos hi) (by simp))) (offp (.rf i) _ (if_pos hi) (by simp))
    dts := fun i hi => c2.row (c.row (h.dts i hi) (off (.dt i) _ (if_pos hi) (by simp))) (offp (.dt i) _ (if_pos hi) (by simp))
    inj := ?_
    okS := fun s hs' r hr' => ?_
    n64 := hn }
  · by_cases e : s = g.n
    · subst e
      show (T ++ _)[g.n * 2]? = some (.pointer (some ⟨upd b.S g.n S' g.n, 0, none⟩)) ∧ (T ++ _)[g.n * 2 + 1]? = some (.int .i64 (upd g.done g.n 0 g.n))
      rw [upd_same, upd_same]
      constructor
      · rw [List.getElem?_append_right (by omega)]; simp [hTl]
      · rw [List.getElem?_append_right (by omega)]; simp [hTl]
    · have hs2 : s < g.n := by have : s < g.n + 1 := hs'; omega
      show (T ++ _)[s * 2]? = some (.pointer (some ⟨upd b.S g.n S' s, 0, none⟩)) ∧ (T ++ _)[s * 2 + 1]? = some (.int .i64 (upd g.done g.n 0 s))
      rw [upd_other _ _ e, upd_other _ _ e, List.getElem?_append_left (by omega), List.getElem?_append_left (by omega)]
      exact hT2 s hs2
  · by_cases e : s = g.n
    · subst e
      show StackAt (w1.setCell ⟨b.p, 2, none⟩ tv') (upd b.S g.n S' g.n) (upd b.sv g.n (.slice none 0 0) g.n) g.bound (upd g.st g.n [] g.n)
      rw [upd_same, upd_same, upd_same]
      exact hS.chg c2 (fun e => by have e' : S' = b.p := e; omega) (fun k hk => by simp [Value.ownBlock] at hk)
    · have hs2 : s < g.n := by have : s < g.n + 1 := hs'; omega
      show StackAt (w1.setCell ⟨b.p, 2, none⟩ tv') (upd b.S g.n S' s) (upd b.sv g.n (.slice none 0 0) s) g.bound (upd g.st g.n [] s)
      rw [upd_other _ _ e, upd_other _ _ e, upd_other _ _ e]
      exact ((h.stk s hs2).chg c (off (.st s) _ (if_pos hs2) (by simp)) (fun k hk => off (.ls s) k (by rw [show b.blk g.n g.m (.ls s) = (b.sv s).ownBlock from if_pos hs2]; exact hk) (by simp))).chg c2 (offp (.st s) _ (if_pos hs2) (by simp)) (fun k hk => offp (.ls s) k (by rw [show b.blk g.n g.m (.ls s) = (b.sv s).ownBlock from if_pos hs2]; exact hk) (by simp))
  · have lt := h.lt
    have i1 : Inj (fun a => if a = .st g.n then some S' else b.blk g.n g.m a) := h.inj.fresh (.st g.n) (fun a ha => if_neg ha) (fun k hk => by
      have hk' : some S' = some k := by simpa using hk
      injection hk' with hk'
      exact .inr (fun a _ h2 => by have := lt a k h2; omega))
    have i2 : Inj (fun a => if a = .th then tv'.ownBlock else if a = .st g.n then some S' else b.blk g.n g.m a) := i1.fresh .th (fun a ha => if_neg ha) (fun k hk => by
      have hk' : tv'.ownBlock = some k := by simpa using hk
      rcases hov k hk' with h1 | ⟨h1, h3⟩
      · left
        show (if Lab.th = .st g.n then some S' else b.blk g.n g.m .th) = some k
        rw [if_neg (by simp)]
        exact h1
      · refine .inr (fun a _ h2 => ?_)
        have h2' : (if a = .st g.n then some S' else b.blk g.n g.m a) = some k := h2
        by_cases e2 : a = .st g.n
        · rw [if_pos e2] at h2'; injection h2' with h2'; exact h3 h2'.symm
        · rw [if_neg e2] at h2'; have := lt a k h2'; omega)
    have e : GB.blk { b with tv := tv', S := upd b.S g.n S', sv := upd b.sv g.n (.slice none 0 0) } (g.n + 1) g.m = (fun a => if a = .th then tv'.ownBlock else if a = .st g.n then some S' else b.blk g.n g.m a) := by
      funext a
      cases a with
      | st i =>
        simp only [GB.blk]
        by_cases h1 : i = g.n
        · subst h1; simp [upd_same]
        · simp only [upd_other _ _ h1]
          by_cases h2 : i < g.n
          · simp [h1, h2, show i < g.n + 1 by omega]
          · simp [h1, h2, show ¬ i < g.n + 1 by omega]
      | ls i =>
        simp only [GB.blk]
        by_cases h1 : i = g.n
        · subst h1; simp [upd_same, Value.ownBlock]
        · simp only [upd_other _ _ h1]
          by_cases h2 : i < g.n
          · simp [h1, h2, show i < g.n + 1 by omega]
          · simp [h1, h2, show ¬ i < g.n + 1 by omega]
      | _ => simp [GB.blk]
    show Inj (GB.blk { b with tv := tv', S := upd b.S g.n S', sv := upd b.sv g.n (.slice none 0 0) } (g.n + 1) g.m)
    rw [e]
    exact i2
  · have hr2 : r ∈ upd g.st g.n [] s := hr'
    by_cases e : s = g.n
    · subst e; rw [upd_same] at hr2; simp at hr2
    · have hs2 : s < g.n := by have : s < g.n + 1 := hs'; omega
      rw [upd_other _ _ e] at hr2
      exact h.okS s hs2 r hr2

/-- a graph without objects, of empty stacks -/
def GS.fresh (max bound n : Nat) : GS := ⟨max, bound, n, fun _ => [], fun _ => 0, 0, fun _ => [], fun _ => []⟩
theorem upd_const {α : Type} (x : α) (t : Nat) : upd (fun _ => x) t x = fun _ => x := by funext s; unfold upd; split <;> rfl

theorem graph_empty (w : World) (p max bound : Nat) (b0 : w.cell? ⟨p, 0, none⟩ = some (.int .i64 max)) (b1 : w.cell? ⟨p, 1, none⟩ = some (.slice none 0 0)) (b2 : w.cell? ⟨p, 2, none⟩ = some (.slice none 0 0))
    (f1 : w.frozen? ⟨p, 1, none⟩ = false) (f2 : w.frozen? ⟨p, 2, none⟩ = false) (hm : max ≤ 1048576) (S R D : Nat → Nat) (sv : Nat → Value) :
    GAt w ⟨p, .slice none 0 0, S, sv, .slice none 0 0, R, D⟩ (GS.fresh max bound 0) :=
  { mx := b0, obs := b1, ths := b2, fz1 := f1, fz2 := f2
    thr := ⟨[], World.ownsRow_nil _ _ _ _, fun t ht => absurd ht (Nat.not_lt_zero t)⟩
    stk := fun t ht => absurd ht (Nat.not_lt_zero t)
    obj := ⟨[], World.ownsRow_nil _ _ _ _, fun t ht => absurd ht (Nat.not_lt_zero t)⟩
    rfs := fun t ht => absurd ht (Nat.not_lt_zero t)
    dts := fun t ht => absurd ht (Nat.not_lt_zero t)
    inj := fun a c k ha hc => by cases a <;> cases c <;> simp [GB.blk, GS.fresh, Value.ownBlock] at ha hc ⊢
    okS := fun t ht => absurd ht (Nat.not_lt_zero t)
    okR := fun t ht => absurd ht (Nat.not_lt_zero t)
    small := fun t ht => absurd ht (Nat.not_lt_zero t)
    mmax := hm, n64 := by simp [GS.fresh], objs := by simp [GS.fresh] }

theorem infoThr : (Try.prog.info? 88).map (fun i => (i.zero, i.size, i.bytes)) = some (some (.agg #[.pointer none, .int .i64 0]), 2, 16) := by kernel_rfl

set_option maxRecDepth 100000 in
set_option maxHeartbeats 2000000 in
theorem graph_new (w : World) (n bound max : Nat) (h1 : 1 ≤ n) (h2 : n ≤ 64) (h3 : 1 ≤ bound) (h4 : bound ≤ 64) (h5 : 1 ≤ max) (h6 : max ≤ 1048576) :
    Calls Try.prog 27 #[.int .i64 n, .int .i64 bound, .int .i64 max] w fun e w' => ∃ b, e = .returned (.tuple #[.pointer (some ⟨b.p, 0, none⟩), .int .i64 0]) ∧ GAt w' b (GS.fresh max bound n) ∧ Below w.heap.size w w' ∧ ∀ k, b.has n 0 k → w.heap.size ≤ k := by
  obtain ⟨i0, hi, hz0, hz1, hz2⟩ := info_parts infoThr
  obtain ⟨B, hB⟩ : ∃ B : Nat, B = w.heap.size := ⟨_, rfl⟩
  have HB := hid hB
  rw [← hB]
  clear hB
  have c1 : (1 : Int) ≤ (n : Int) := by omega
  have c2 : (n : Int) ≤ 64 := by omega
  have c3 : (1 : Int) ≤ (bound : Int) := by omega
  have c4 : (bound : Int) ≤ 64 := by omega
  have c5 : (1 : Int) ≤ (max : Int) := by omega
  have c6 : (max : Int) ≤ 1048576 := by omega
  go_enter Try.func27, Try.ntmps27
  go_wp2_with fail
  go_loopw [37] (fun i wr => ∃ (k : Nat) (bk : GB), k ≤ n ∧ i = .int .i64 k ∧ bk.p = w.heap.size ∧ GAt wr bk (GS.fresh max bound k) ∧ Below B w wr ∧ ∀ x, bk.has k 0 x → B ≤ x) (fun i _ => n - (intOf i).toNat)
  case atStart =>
    refine ⟨0, ⟨w.heap.size, .slice none 0 0, fun _ => 0, fun _ => .slice none 0 0, .slice none 0 0, fun _ => 0, fun _ => 0⟩, by omega, rfl, rfl, graph_empty _ _ _ _ (by go_simp) (by go_simp) (by go_simp) (by go_simp) (by go_simp) h6 _ _ _ _, ?_, ?_⟩
    · have := HB.out
      (repeat (first | exact Below.refl _ _ | apply bel_drewN.2 | apply bel_drew.2 | refine Below.setCell ?_ (by first | omega | (simp; done) | (simp; omega)) _ | refine Below.alloc ?_ (by first | omega | (simp; done) | (simp; omega)) _ | refine bel_step (by assumption) (by first | omega | (simp; done) | (simp; omega)) ?_))
    · rintro x ⟨a, ha⟩
      have := HB.out
      cases a <;> simp [GB.blk, Value.ownBlock] at ha
      omega
  case round =>
    obtain ⟨k, bk, hk, rfl, hp, hg, hbw, hnew⟩ := hrel
    have HG := hid hg
    have HW := hid hbw
    have HN := hid hnew
    have HP := hid hp
    have hsz : B ≤ wr.heap.size := by have := hbw.size; have := HB.out; omega
    have g2 := hg.ths
    have g3 := hg.fz2
    have hpl := hg.lt .p bk.p rfl
    rw [hp] at g2 g3 hpl
    obtain ⟨T, hT1, hT2⟩ := hg.thr
    have HT1 := hid hT1
    have HT2 := hid hT2
    have hTl : T.length = k * 2 := hT1.1
    clear hg hbw hnew hp hT1 hT2
    by_cases hlt : k < n
    · have hlt' : (k : Int) < (n : Int) := by omega
      have HRN := hid (roots_new bound wr h3 h4)
      go_wp2_with (first
        | (go_at_call 11; refine HRN.out.mono ?_; rintro e w1 ⟨rfl, rfl⟩)
        | (at_builtin; refine wpList_append_lies _ rfl _ _ 84 rfl 0 88 i0 (.agg #[.pointer none, .int .i64 0]) 2 16 Try.underlying84 hi hz0 hz1 hz2 rfl (by decide) _ _ _ rfl ((HT1.out.alloc _).alloc _) ⟨wr.heap.size + 1, 0, none⟩ 1 1 [.pointer (some ⟨wr.heap.size, 0, none⟩), .int .i64 0] rfl rfl ?c1 ?c2 (by decide) ?c3 ?c4 (Nat.zero_le _) _ rfl ?_))
      case c1 => exact two_lies (by simp)
      case c2 => intro u hu; simp at hu; rcases hu with rfl | rfl <;> rfl
      case c3 => show k + 1 ≤ maxLen; unfold maxLen; omega
      case c4 => show (k + 1) * 16 ≤ _; omega
      intro g5 cap5 w5 hown5 hgrow5 hat5 hlt5
      have hc5 : Chg (fun x => bk.tv.ownBlock = some x) wr w5 := Chg.grown (by (repeat (first | with_reducible exact Chg.refl _ _ | with_reducible apply Chg.drewN | with_reducible apply Chg.drew | with_reducible apply Chg.alloc | (with_reducible refine Chg.setCell ?_ ?_ _; rotate_left; focus (first | (refine Or.inr ?_; first | omega | (simp; done) | (simp; omega)) | exact Or.inl (by assumption) | with_reducible exact Or.inl rfl | exact Or.inl (by simp))) | refine Chg.trans ?_ (Chg.of_below (by with_reducible assumption) (fun k h1 h2 => absurd h1 (by first | omega | (simp; omega)))) | refine Chg.trans ?_ (by with_reducible assumption)))) hgrow5 (fun x hx => .inl hx)
      have hoff : ¬ bk.tv.ownBlock = some w.heap.size := fun e => by
        have := HG.out.inj .p .th w.heap.size (by show some bk.p = _; rw [HP.out]) e
        cases this
      have hst0 : StackAt ((wr.alloc (.cells #[.int .i64 bound, .slice none 0 0] 78)).alloc (.cells #[.pointer (some ⟨wr.heap.size, 0, none⟩), .int .i64 0] 88)) wr.heap.size (.slice none 0 0) bound [] :=
        (stack_new bound wr h4 78).chg ((Chg.refl (fun _ => False) _).alloc _) (by simp) (by simp)
      have hst : StackAt w5 wr.heap.size (.slice none 0 0) bound [] := hst0.chg (Chg.grown (S := fun x => bk.tv.ownBlock = some x) (Chg.refl _ _) hgrow5 (fun x hx => .inl hx)) (fun e => by have := (HT1.out.lt _ e).2; omega) (fun x hx => by simp [Value.ownBlock] at hx)
      have e1 := (hc5.cell (o := 2) hpl hoff).trans g2
      have e2 := (hc5.frozen (o := 2) hpl hoff).trans g3
      have HC5 := hid hc5
      have HO5 := hid hown5
      have HA5 := hid hat5
      have HS5 := hid hst
      clear hc5 hown5 hgrow5 hat5 hst hst0 hoff
      go_wp2_with fail
      go_roundw
      case rel =>
        have hov : ∀ x, (Value.slice (some ⟨g5, 0, none⟩) (k + 1) cap5).ownBlock = some x → bk.tv.ownBlock = some x ∨ (wr.heap.size ≤ x ∧ x ≠ wr.heap.size) := fun x hx => by
          have e : g5 = x := by simpa [Value.ownBlock] using hx
          subst e
          rcases HA5.out with h | h
          · exact .inl h
          · exact .inr (by omega)
        have hga := HG.out.addThr (.slice (some ⟨g5, 0, none⟩) (k + 1) cap5) wr.heap.size T HC5.out HT1.out HT2.out HO5.out hov HS5.out (Nat.le_refl _) (show k + 1 ≤ 64 by omega)
        have e3 : ({ GS.fresh max bound k with n := (GS.fresh max bound k).n + 1, st := upd (GS.fresh max bound k).st (GS.fresh max bound k).n [], done := upd (GS.fresh max bound k).done (GS.fresh max bound k).n 0 } : GS) = GS.fresh max bound (k + 1) := by
          unfold GS.fresh
          simp only [upd_const]
        rw [e3, HP.out] at hga
        have hB := HB.out
        have hbl : Below B w (w5.setCell ⟨w.heap.size, 2, none⟩ (.slice (some ⟨g5, 0, none⟩) (k + 1) cap5)) :=
          Below.setCell (HC5.out.below HW.out (fun x _ hx => HN.out x ⟨.th, hx⟩) hsz) (by show B ≤ w.heap.size; omega) _
        refine ⟨k + 1, { p := w.heap.size, tv := .slice (some ⟨g5, 0, none⟩) (k + 1) cap5, S := upd bk.S k wr.heap.size, sv := upd bk.sv k (.slice none 0 0), ov := bk.ov, R := bk.R, D := bk.D }, by omega, by go_num, rfl, hga, hbl, ?_⟩
        rintro x ⟨a, ha⟩
        cases a with
        | p => exact HN.out x ⟨.p, by show some bk.p = _; rw [HP.out]; exact ha⟩
        | ob => exact HN.out x ⟨.ob, ha⟩
        | th =>
          rcases hov x ha with h | h
          · exact HN.out x ⟨.th, h⟩
          · omega
        | st s =>
          have ha' : (if s < k + 1 then some (upd bk.S k wr.heap.size s) else none) = some x := ha
          split at ha'
          · injection ha' with ha'
            by_cases e : s = k
            · subst e; rw [upd_same] at ha'; omega
            · rw [upd_other _ _ e] at ha'
              exact HN.out x ⟨.st s, by show (if s < k then some (bk.S s) else none) = some x; rw [if_pos (by omega), ha']⟩
          · cases ha'
        | ls s =>
          have ha' : (if s < k + 1 then (upd bk.sv k (.slice none 0 0) s).ownBlock else none) = some x := ha
          split at ha'
          · by_cases e : s = k
            · subst e; rw [upd_same] at ha'; simp [Value.ownBlock] at ha'
            · rw [upd_other _ _ e] at ha'
              exact HN.out x ⟨.ls s, by show (if s < k then (bk.sv s).ownBlock else none) = some x; rw [if_pos (by omega), ha']⟩
          · cases ha'
        | rf s => simp [GB.blk] at ha
        | dt s => simp [GB.blk] at ha
      case measure => simp [intOf]; omega
    · obtain rfl : k = n := by omega
      go_wp2_with fail
      go_ret2
      exact ⟨bk, by rw [HP.out]; rfl, HG.out, HW.out, HN.out⟩

set_option maxRecDepth 100000 in
set_option maxHeartbeats 2000000 in
theorem graph_new_bad (w : World) (n bound max : Int) (hx : n < 1 ∨ 64 < n ∨ bound < 1 ∨ 64 < bound ∨ max < 1 ∨ 1048576 < max) :
    Calls Try.prog 27 #[.int .i64 n, .int .i64 bound, .int .i64 max] w fun e w' => e = .returned (.tuple #[.pointer none, .int .i64 2]) ∧ w = w' := by
  by_cases c1 : n < 1
  · clear hx
    go_enter Try.func27, Try.ntmps27
    go_wp2
    go_ret2
    exact ⟨rfl, rfl⟩
  have d1 : 1 ≤ n := by omega
  by_cases c2 : 64 < n
  · clear hx
    go_enter Try.func27, Try.ntmps27
    go_wp2
    go_ret2
    exact ⟨rfl, rfl⟩
  have d2 : n ≤ 64 := by omega
  by_cases c3 : bound < 1
  · clear hx
    go_enter Try.func27, Try.ntmps27
    go_wp2
    go_ret2
    exact ⟨rfl, rfl⟩
  have d3 : 1 ≤ bound := by omega
  by_cases c4 : 64 < bound
  · clear hx
    go_enter Try.func27, Try.ntmps27
    go_wp2
    go_ret2
    exact ⟨rfl, rfl⟩
  have d4 : bound ≤ 64 := by omega
  by_cases c5 : max < 1
  · clear hx
    go_enter Try.func27, Try.ntmps27
    go_wp2
    go_ret2
    exact ⟨rfl, rfl⟩
  have d5 : 1 ≤ max := by omega
  have d6 : 1048576 < max := by omega
  clear hx
  go_enter Try.func27, Try.ntmps27
  go_wp2
  go_ret2
  exact ⟨rfl, rfl⟩
end Go.Proofs.Ytcdllelbdcacjaa
