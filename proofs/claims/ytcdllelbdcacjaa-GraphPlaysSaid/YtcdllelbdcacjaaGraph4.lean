/-
  Graphs (layer 13): steps; an object is made.
-/
import Derived.Test.YtcdllelbdcacjaaGraph3
import Derived.Deep.AppendLies
import Derived.Deep.RegionLaw
set_option linter.unusedVariables false
set_option linter.unusedSimpArgs false
namespace Go.Proofs.Ytcdllelbdcacjaa
open Go.RowKit

/-- from one graph to the next: nothing but the graph's own blocks has changed, and what it has besides is new -/
structure Step (w w' : World) (b b' : GB) (g g' : GS) : Prop where
  at_ : GAt w' b' g'
  chg : Chg (b.has g.n g.m) w w'
  own : ∀ k, b'.has g'.n g'.m k → b.has g.n g.m k ∨ w.heap.size ≤ k
  p : b'.p = b.p
  S : b'.S = b.S
  n : g'.n = g.n
  tv : b'.tv = b.tv

theorem Step.refl {w w' : World} {b : GB} {g : GS} (h : GAt w b g) (c : Chg (fun _ => False) w w') : Step w w' b b g g :=
  ⟨h.quiet c, c.mono (fun _ _ h => absurd h (by simp)), fun k hk => .inl hk, rfl, rfl, rfl, rfl⟩
theorem Step.trans {w w1 w2 : World} {b b1 b2 : GB} {g g1 g2 : GS} (h : Step w w1 b b1 g g1) (k : Step w1 w2 b1 b2 g1 g2) : Step w w2 b b2 g g2 := by
  have hs := h.chg.size
  refine ⟨k.at_, h.chg.next k.chg (fun i hi hk => ?_), fun x hx => ?_, k.p.trans h.p, k.S.trans h.S, k.n.trans h.n, k.tv.trans h.tv⟩
  · rcases h.own i hk with h1 | h1
    · exact h1
    · omega
  · rcases k.own x hx with h1 | h1
    · exact h.own x h1
    · right; omega
theorem Step.quiet {w w1 w2 : World} {b b1 : GB} {g g1 : GS} (h : Step w w1 b b1 g g1) (c : Chg (fun _ => False) w1 w2) : Step w w2 b b1 g g1 := h.trans (Step.refl h.at_ c)

theorem GB.has_st {b : GB} {n m t : Nat} (ht : t < n) : b.has n m (b.S t) := ⟨.st t, if_pos ht⟩
theorem GB.has_ls {b : GB} {n m t k : Nat} (ht : t < n) (hk : (b.sv t).ownBlock = some k) : b.has n m k := ⟨.ls t, by show (if t < n then _ else none) = _; rw [if_pos ht]; exact hk⟩

/-- a stack's call -/
theorem step_stack {w w1 : World} {b : GB} {g : GS} (h : GAt w b g) (t : Nat) (ht : t < g.n) (v' : Value) (l' : List Int) (c : Chg (fun k => k = b.S t ∨ (b.sv t).ownBlock = some k) w w1) (hs : StackAt w1 (b.S t) v' g.bound l')
    (hv : v'.ownBlock = (b.sv t).ownBlock ∨ ∃ q, v'.ownBlock = some q ∧ w.heap.size ≤ q) (hl : ∀ r, r ∈ l' → 0 ≤ r ∧ r ≤ g.m) : Step w w1 b { b with sv := upd b.sv t v' } g { g with st := upd g.st t l' } := by
  refine ⟨h.restack t ht v' l' c hs hv hl, c.mono (fun k _ hk => ?_), fun k hk => ?_, rfl, rfl, rfl, rfl⟩
  · rcases hk with rfl | hk
    · exact GB.has_st ht
    · exact GB.has_ls ht hk
  · obtain ⟨a, ha⟩ := hk
    cases a with
    | ls s =>
      have ha' : (if s < g.n then (upd b.sv t v' s).ownBlock else none) = some k := ha
      split at ha'
      · rename_i hs'
        by_cases e : s = t
        · subst e
          rw [upd_same] at ha'
          rcases hv with hv | ⟨q, hq, hql⟩
          · exact .inl (GB.has_ls hs' (by rw [← hv]; exact ha'))
          · rw [hq] at ha'; injection ha' with e; exact .inr (by omega)
        · rw [upd_other _ _ e] at ha'
          exact .inl (GB.has_ls hs' ha')
      · cases ha'
    | p => exact .inl ⟨.p, ha⟩
    | th => exact .inl ⟨.th, ha⟩
    | ob => exact .inl ⟨.ob, ha⟩
    | st s => exact .inl ⟨.st s, ha⟩
    | rf s => exact .inl ⟨.rf s, ha⟩
    | dt s => exact .inl ⟨.dt s, ha⟩

/-- a push -/
theorem step_push (w : World) (b : GB) (g : GS) (t : Nat) (r : Int) (h : GAt w b g) (ht : t < g.n) (hl : (g.st t).length < g.bound) (hr : 0 ≤ r ∧ r ≤ g.m) :
    Calls Try.prog 12 #[.pointer (some ⟨b.S t, 0, none⟩), .int .u64 r] w fun e w' => e = .returned (.int .i64 0) ∧ ∃ v', Step w w' b { b with sv := upd b.sv t v' } g { g with st := upd g.st t (g.st t ++ [r]) } := by
  refine (roots_push w (b.S t) (b.sv t) g.bound (g.st t) r (h.stk t ht) hl).mono ?_
  rintro e w' ⟨rfl, hc, v', hv, hs⟩
  refine ⟨rfl, v', step_stack h t ht v' _ hc hs hv (fun x hx => ?_)⟩
  rcases List.mem_append.1 hx with h1 | h1
  · exact h.okS t ht x h1
  · simp at h1; subst h1; exact hr
theorem step_push_full (w : World) (b : GB) (g : GS) (t : Nat) (r : Int) (h : GAt w b g) (ht : t < g.n) (hl : (g.st t).length = g.bound) :
    Calls Try.prog 12 #[.pointer (some ⟨b.S t, 0, none⟩), .int .u64 r] w fun e w' => e = .returned (.int .i64 15) ∧ Step w w' b b g g := by
  refine (roots_push_full w (b.S t) (b.sv t) g.bound (g.st t) r (h.stk t ht) hl).mono ?_
  rintro e w' ⟨rfl, k, rfl⟩
  exact ⟨rfl, Step.refl h ((Chg.refl _ _).drewN k)⟩

theorem infoObj : (Try.prog.info? 104).map (fun i => (i.zero, i.size, i.bytes)) = some (some (.agg #[.slice none 0 0, .slice none 0 0]), 2, 48) := by kernel_rfl
theorem info64 : (Try.prog.info? 29).map (fun i => (i.zero, i.size, i.bytes)) = some (some (.int .u64 0), 1, 8) := by kernel_rfl

theorem two_lies {w : World} {v1 v2 : Value} {T : TypeId} {n : Nat} (hn : w.heap.size = n) : ∀ (j : Nat) (u : Value), [v1, v2][j]? = some u → (w.alloc (.cells #[v1, v2] T)).cell? ((⟨n, 0, none⟩ : Addr).add j) = some u := by
  subst hn
  intro j u hj
  match j, hj with
  | 0, hj => simp at hj; subst hj; simp [Addr.add]
  | 1, hj => simp at hj; subst hj; simp [Addr.add]
theorem two_lies1 {w : World} {v1 v2 : Value} {T : TypeId} {n : Nat} (hn : w.heap.size = n) : ∀ (j : Nat) (u : Value), [v1, v2][j]? = some u → ((w.alloc (.cells #[v1, v2] T)).drew).cell? ((⟨n, 0, none⟩ : Addr).add j) = some u := two_lies hn
theorem two_liesN {w : World} {v1 v2 : Value} {T : TypeId} {n q : Nat} (hn : w.heap.size = n) : ∀ (j : Nat) (u : Value), [v1, v2][j]? = some u → ((w.alloc (.cells #[v1, v2] T)).drewN q).cell? ((⟨n, 0, none⟩ : Addr).add j) = some u := two_lies hn

theorem three_heap0 {w : World} {x y z : Obj} : (((w.alloc x).alloc y).alloc z).heap[w.heap.size]? = some x := by
  rw [Below.heap_alloc _ _ _ (by simp; omega), Below.heap_alloc _ _ _ (by simp)]
  exact heap_alloc_new w x
theorem three_heap1 {w : World} {x y z : Obj} : (((w.alloc x).alloc y).alloc z).heap[w.heap.size + 1]? = some y := by
  rw [Below.heap_alloc _ _ _ (by simp)]
  have : (w.alloc x).heap.size = w.heap.size + 1 := by simp
  rw [← this]
  exact heap_alloc_new (w.alloc x) y

/-- the graph with an object more -/
def GS.more (g : GS) (rl dl : List Int) : GS := { g with m := g.m + 1, rf := upd g.rf g.m rl, dt := upd g.dt g.m dl }

theorem step_obj {w w1 : World} {b : GB} {g : GS} (h : GAt w b g) (ov' : Value) (R' D' : Nat) (rl dl : List Int) (O : List Value) (c : Chg (fun k => b.ov.ownBlock = some k) w w1) (hO1 : w.ownsRow 0 104 2 b.ov g.m O)
    (hO2 : ∀ i, i < g.m → O[i * 2]? = some (.slice (some ⟨b.R i, 0, none⟩) (g.rf i).length (g.rf i).length) ∧ O[i * 2 + 1]? = some (.slice (some ⟨b.D i, 0, none⟩) (g.dt i).length (g.dt i).length))
    (ho : w1.ownsRow 0 104 2 ov' (g.m + 1) (O ++ [.slice (some ⟨R', 0, none⟩) rl.length rl.length, .slice (some ⟨D', 0, none⟩) dl.length dl.length]))
    (hov : ∀ k, ov'.ownBlock = some k → b.ov.ownBlock = some k ∨ (w.heap.size ≤ k ∧ k ≠ R' ∧ k ≠ D'))
    (hR : w1.rowIs R' 30 rl.length (fun j => .int .u64 (rl.getD j 0))) (hD : w1.rowIs D' 29 dl.length (fun j => .int .u64 (dl.getD j 0))) (hR' : w.heap.size ≤ R') (hD' : w.heap.size ≤ D') (hRD : R' ≠ D')
    (hr : ∀ r, r ∈ rl → 0 ≤ r ∧ r ≤ g.m) (hl : rl.length ≤ 1048576 ∧ dl.length ≤ 1048576) (hm : g.m + 1 ≤ 1048576) :
    Step w (w1.setCell ⟨b.p, 1, none⟩ ov') b { b with ov := ov', R := upd b.R g.m R', D := upd b.D g.m D' } g (g.more rl dl) := by
  refine ⟨h.addObj ov' R' D' rl dl O c hO1 hO2 ho hov hR hD hR' hD' hRD hr hl hm, ?_, fun k hk => ?_, rfl, rfl, rfl, rfl⟩
  · have c1 : Chg (b.has g.n g.m) w w1 := c.mono (fun k _ hk => ⟨.ob, hk⟩)
    exact c1.setCell (.inl ⟨.p, rfl⟩) _
  · obtain ⟨a, ha⟩ := hk
    cases a with
    | ob =>
      rcases hov k ha with h1 | h1
      · exact .inl ⟨.ob, h1⟩
      · exact .inr h1.1
    | rf i =>
      have ha' : (if i < g.m + 1 then some (upd b.R g.m R' i) else none) = some k := ha
      split at ha'
      · injection ha' with ha'
        by_cases e : i = g.m
        · subst e; rw [upd_same] at ha'; exact .inr (by omega)
        · rw [upd_other _ _ e] at ha'
          exact .inl ⟨.rf i, by show (if i < g.m then some (b.R i) else none) = some k; rw [if_pos (by omega), ha']⟩
      · cases ha'
    | dt i =>
      have ha' : (if i < g.m + 1 then some (upd b.D g.m D' i) else none) = some k := ha
      split at ha'
      · injection ha' with ha'
        by_cases e : i = g.m
        · subst e; rw [upd_same] at ha'; exact .inr (by omega)
        · rw [upd_other _ _ e] at ha'
          exact .inl ⟨.dt i, by show (if i < g.m then some (b.D i) else none) = some k; rw [if_pos (by omega), ha']⟩
      · cases ha'
    | p => exact .inl ⟨.p, ha⟩
    | th => exact .inl ⟨.th, ha⟩
    | st s => exact .inl ⟨.st s, ha⟩
    | ls s => exact .inl ⟨.ls s, ha⟩


set_option maxRecDepth 100000 in
set_option maxHeartbeats 2000000 in
theorem graph_alloc_bad (w : World) (b : GB) (g : GS) (t : Nat) (a c : Int) (h : GAt w b g) (hx : a < 0 ∨ c < 0 ∨ (g.max : Int) < a ∨ (g.max : Int) < c ∨ a + c = 0 ∨ (g.max : Int) ≤ a + c) :
    Calls Try.prog 44 #[.pointer (some ⟨b.p, 0, none⟩), .pointer (some ⟨b.S t, 0, none⟩), .int .i64 a, .int .i64 c] w fun e w' => e = .returned (.int .i64 13) ∧ w = w' := by
  have h1 := h.mx
  have hm := h.mmax
  clear h
  by_cases c1 : a < 0
  · clear hx
    go_enter Try.func44, Try.ntmps44
    go_wp2
    go_ret
    exact ⟨rfl, rfl⟩
  have d1 : 0 ≤ a := by omega
  by_cases c2 : c < 0
  · clear hx c1
    go_enter Try.func44, Try.ntmps44
    go_wp2
    go_ret
    exact ⟨rfl, rfl⟩
  have d2 : 0 ≤ c := by omega
  by_cases c3 : (g.max : Int) < a
  · clear hx c1 c2
    go_enter Try.func44, Try.ntmps44
    go_wp2
    go_ret
    exact ⟨rfl, rfl⟩
  have d3 : a ≤ (g.max : Int) := by omega
  by_cases c4 : (g.max : Int) < c
  · clear hx c1 c2 c3
    go_enter Try.func44, Try.ntmps44
    go_wp2
    go_ret
    exact ⟨rfl, rfl⟩
  have d4 : c ≤ (g.max : Int) := by omega
  by_cases c5 : a + c = 0
  · have e1 : (a + c == 0) = true := by simp; omega
    have e2 : a = 0 := by omega
    have e3 : c = 0 := by omega
    subst e2 e3
    clear hx c1 c2 c3 c4 c5
    go_enter Try.func44, Try.ntmps44
    go_wp2
    go_ret
    exact ⟨rfl, rfl⟩
  · have d5 : (g.max : Int) ≤ a + c := by omega
    have e1 : (a + c == 0) = false := by simp; omega
    clear hx c1 c2 c3 c4
    go_enter Try.func44, Try.ntmps44
    go_wp2
    go_ret
    exact ⟨rfl, rfl⟩

set_option maxRecDepth 100000 in
set_option maxHeartbeats 2000000 in
theorem graph_alloc_full (w : World) (b : GB) (g : GS) (t : Nat) (a c : Nat) (h : GAt w b g) (ht : t < g.n) (h0 : 0 < a + c) (h1 : a + c < g.max) (hl : (g.st t).length = g.bound) :
    Calls Try.prog 44 #[.pointer (some ⟨b.p, 0, none⟩), .pointer (some ⟨b.S t, 0, none⟩), .int .i64 a, .int .i64 c] w fun e w' => e = .returned (.int .i64 15) ∧ Chg (fun _ => False) w w' := by
  have b1 := h.mx
  have hm := h.mmax
  have HR := hid (roots_room w (b.S t) (b.sv t) g.bound (g.st t) (h.stk t ht))
  rw [hl] at HR
  have e0 : (g.bound : Int) - (g.bound : Int) = 0 := by omega
  rw [e0] at HR
  have d1 : (a : Int) ≤ (g.max : Int) := by omega
  have d2 : (c : Int) ≤ (g.max : Int) := by omega
  have d3 : (a : Int) + (c : Int) < (g.max : Int) := by omega
  have e1 : ((a : Int) + (c : Int) == 0) = false := by simp; omega
  clear h hl e0
  go_enter Try.func44, Try.ntmps44
  go_wp2_with (go_at_call 24; refine HR.out.mono ?_; rintro e w' ⟨rfl, k, rfl⟩)
  go_ret
  exact ⟨rfl, (Chg.refl _ _).drewN _⟩

set_option maxRecDepth 100000 in
set_option maxHeartbeats 4000000 in
theorem graph_alloc (w : World) (b : GB) (g : GS) (t : Nat) (a c : Nat) (h : GAt w b g) (ht : t < g.n) (h0 : 0 < a + c) (h1 : a + c < g.max) (hl : (g.st t).length < g.bound) (hm1 : g.m + 1 ≤ 1048576) :
    Calls Try.prog 44 #[.pointer (some ⟨b.p, 0, none⟩), .pointer (some ⟨b.S t, 0, none⟩), .int .i64 a, .int .i64 c] w fun e w' => e = .returned (.int .i64 0) ∧
      ∃ b', Step w w' b b' g { (g.more (List.replicate a 0) (List.replicate c 0)) with st := upd g.st t (g.st t ++ [((g.m + 1 : Nat) : Int)]) } := by
  obtain ⟨i0, hi, hz0, hz1, hz2⟩ := info_parts infoObj
  have H := hid h
  have b1 := h.mx
  have hm := h.mmax
  have hmk1 := run_make_row' (P := Try.prog) 22 30 (.int .u64 0) 8 Try.underlying22 infoRef rfl .i64 .i64 a (by omega) (by omega)
  have hmk2 := run_make_row' (P := Try.prog) 71 29 (.int .u64 0) 8 Try.underlying71 info64 rfl .i64 .i64 c (by omega) (by omega)
  have HR := hid (roots_room w (b.S t) (b.sv t) g.bound (g.st t) (h.stk t ht))
  obtain ⟨d, hd⟩ : ∃ d : Int, d = (g.bound : Int) - ((g.st t).length : Int) := ⟨_, rfl⟩
  rw [← hd] at HR
  have hd0 : (d == 0) = false := by simp; omega
  have hd1 : ¬ d = 0 := by omega
  have d1 : (a : Int) ≤ (g.max : Int) := by omega
  have d2 : (c : Int) ≤ (g.max : Int) := by omega
  have d3 : (a : Int) + (c : Int) < (g.max : Int) := by omega
  have e1 : ((a : Int) + (c : Int) == 0) = false := by simp; omega
  have HL := hid hl
  clear h hd
  go_enter Try.func44, Try.ntmps44
  go_upto_region 5 with (go_at_call 24; refine HR.out.mono ?_; rintro e w' ⟨rfl, k, rfl⟩)
  have hpl := H.out.lt .p b.p rfl
  have hpo : ¬ b.ov.ownBlock = some b.p := fun e => by have := H.out.inj .p .ob b.p rfl e; cases this
  have hobs := H.out.obs
  have hfz := H.out.fz1
  obtain ⟨O, hO1, hO2⟩ := H.out.obj
  have hob1 : ∀ q x, ((w.drewN q).alloc x).cell? ⟨b.p, 1, none⟩ = some b.ov := fun q x => (World.cell?_alloc_lt (w.drewN q) x ⟨b.p, 1, none⟩ hpl).trans hobs
  have hob2 : ∀ q x y, (((w.drewN q).alloc x).alloc y).cell? ⟨b.p, 1, none⟩ = some b.ov := fun q x y => (World.cell?_alloc_lt _ y ⟨b.p, 1, none⟩ (by simp; omega)).trans (hob1 q x)
  have hob3 : ∀ q x y z, ((((w.drewN q).alloc x).alloc y).alloc z).cell? ⟨b.p, 1, none⟩ = some b.ov := fun q x y z => (World.cell?_alloc_lt _ z ⟨b.p, 1, none⟩ (by simp; omega)).trans (hob2 q x y)
  go_cut [8] (fun s8 wx => s8 = .int .i64 0 ∧ ∃ b1', Step w wx b b1' g (g.more (List.replicate a 0) (List.replicate c 0)))
  case first =>
    go_region_law (first
      | (refine step_append_lies _ rfl (.tmp 54) (.tmp 60) 83 rfl 0 104 i0 (.agg #[.slice none 0 0, .slice none 0 0]) 2 48 Try.underlying83 hi hz0 hz1 hz2 rfl (by decide) b.ov g.m O (by simp [Act.eval, Act.put]) (Chg.owns (S := fun _ => False) (by (repeat (first | with_reducible exact Chg.refl _ _ | with_reducible apply Chg.drewN | with_reducible apply Chg.drew | with_reducible apply Chg.alloc | (with_reducible refine Chg.setCell ?_ ?_ _; rotate_left; focus (first | (refine Or.inr ?_; first | omega | (simp; done) | (simp; omega)) | exact Or.inl (by assumption) | with_reducible exact Or.inl rfl | exact Or.inl (by simp))) | refine Chg.trans ?_ (Chg.of_below (by with_reducible assumption) (fun k h1 h2 => absurd h1 (by first | omega | (simp; omega)))) | refine Chg.trans ?_ (by with_reducible assumption)))) hO1 (by simp)) ⟨w.heap.size + 2, 0, none⟩ 1 1 [.slice (some ⟨w.heap.size, 0, none⟩) a a, .slice (some ⟨w.heap.size + 1, 0, none⟩) c c] (by simp [Act.eval, Act.put]) rfl (by first | exact two_lies (by simp) | exact two_lies1 (by simp) | exact two_liesN (by simp)) (by intro u hu; simp at hu; rcases hu with rfl | rfl <;> rfl) (by decide) (by unfold maxLen; omega) (by omega) (Nat.zero_le _) _ rfl ?_; intro g5 cap5 w5 hown5 hgrow5 hat5 hlt5; have hc5 : Chg (fun x => b.ov.ownBlock = some x) w w5 := Chg.grown (by (repeat (first | with_reducible exact Chg.refl _ _ | with_reducible apply Chg.drewN | with_reducible apply Chg.drew | with_reducible apply Chg.alloc | (with_reducible refine Chg.setCell ?_ ?_ _; rotate_left; focus (first | (refine Or.inr ?_; first | omega | (simp; done) | (simp; omega)) | exact Or.inl (by assumption) | with_reducible exact Or.inl rfl | exact Or.inl (by simp))) | refine Chg.trans ?_ (Chg.of_below (by with_reducible assumption) (fun k h1 h2 => absurd h1 (by first | omega | (simp; omega)))) | refine Chg.trans ?_ (by with_reducible assumption)))) hgrow5 (fun x hx => .inl hx); have hx1 := (hc5.cell (o := 1) hpl hpo).trans hobs; have hx2 := (hc5.frozen (o := 1) hpl hpo).trans hfz; have hr1 : w5.heap[(w.heap.size)]? = some (.cells (madeCells #[.int .u64 0] a) 30 (0, 0)) := (hgrow5.block (w.heap.size) (by simp; try omega) (fun e => by have := (hO1.lt (w.heap.size) e.symm).2; omega)).trans (by first | exact three_heap0 (w := w.drewN _) | exact three_heap1 (w := w.drewN _) | exact three_heap0 | exact three_heap1); have hr2 : w5.heap[(w.heap.size + 1)]? = some (.cells (madeCells #[.int .u64 0] c) 29 (0, 0)) := (hgrow5.block (w.heap.size + 1) (by simp; try omega) (fun e => by have := (hO1.lt (w.heap.size + 1) e.symm).2; omega)).trans (by first | exact three_heap0 (w := w.drewN _) | exact three_heap1 (w := w.drewN _) | exact three_heap0 | exact three_heap1); have HC5 := hid hc5; have HO5 := hid hown5; have HA5 := hid hat5; have HR1 := hid hr1; have HR2 := hid hr2; clear hc5 hown5 hgrow5 hat5 hr1 hr2)
      | (refine step_append_lies _ rfl (.tmp 54) (.tmp 60) 83 rfl 0 104 i0 (.agg #[.slice none 0 0, .slice none 0 0]) 2 48 Try.underlying83 hi hz0 hz1 hz2 rfl (by decide) b.ov g.m O (by simp [Act.eval, Act.put]) (Chg.owns (S := fun _ => False) (by (repeat (first | with_reducible exact Chg.refl _ _ | with_reducible apply Chg.drewN | with_reducible apply Chg.drew | with_reducible apply Chg.alloc | (with_reducible refine Chg.setCell ?_ ?_ _; rotate_left; focus (first | (refine Or.inr ?_; first | omega | (simp; done) | (simp; omega)) | exact Or.inl (by assumption) | with_reducible exact Or.inl rfl | exact Or.inl (by simp))) | refine Chg.trans ?_ (Chg.of_below (by with_reducible assumption) (fun k h1 h2 => absurd h1 (by first | omega | (simp; omega)))) | refine Chg.trans ?_ (by with_reducible assumption)))) hO1 (by simp)) ⟨w.heap.size + 2, 0, none⟩ 1 1 [.slice (some ⟨w.heap.size + 1, 0, none⟩) a a, .slice (some ⟨w.heap.size, 0, none⟩) c c] (by simp [Act.eval, Act.put]) rfl (by first | exact two_lies (by simp) | exact two_lies1 (by simp) | exact two_liesN (by simp)) (by intro u hu; simp at hu; rcases hu with rfl | rfl <;> rfl) (by decide) (by unfold maxLen; omega) (by omega) (Nat.zero_le _) _ rfl ?_; intro g5 cap5 w5 hown5 hgrow5 hat5 hlt5; have hc5 : Chg (fun x => b.ov.ownBlock = some x) w w5 := Chg.grown (by (repeat (first | with_reducible exact Chg.refl _ _ | with_reducible apply Chg.drewN | with_reducible apply Chg.drew | with_reducible apply Chg.alloc | (with_reducible refine Chg.setCell ?_ ?_ _; rotate_left; focus (first | (refine Or.inr ?_; first | omega | (simp; done) | (simp; omega)) | exact Or.inl (by assumption) | with_reducible exact Or.inl rfl | exact Or.inl (by simp))) | refine Chg.trans ?_ (Chg.of_below (by with_reducible assumption) (fun k h1 h2 => absurd h1 (by first | omega | (simp; omega)))) | refine Chg.trans ?_ (by with_reducible assumption)))) hgrow5 (fun x hx => .inl hx); have hx1 := (hc5.cell (o := 1) hpl hpo).trans hobs; have hx2 := (hc5.frozen (o := 1) hpl hpo).trans hfz; have hr1 : w5.heap[(w.heap.size + 1)]? = some (.cells (madeCells #[.int .u64 0] a) 30 (0, 0)) := (hgrow5.block (w.heap.size + 1) (by simp; try omega) (fun e => by have := (hO1.lt (w.heap.size + 1) e.symm).2; omega)).trans (by first | exact three_heap0 (w := w.drewN _) | exact three_heap1 (w := w.drewN _) | exact three_heap0 | exact three_heap1); have hr2 : w5.heap[(w.heap.size)]? = some (.cells (madeCells #[.int .u64 0] c) 29 (0, 0)) := (hgrow5.block (w.heap.size) (by simp; try omega) (fun e => by have := (hO1.lt (w.heap.size) e.symm).2; omega)).trans (by first | exact three_heap0 (w := w.drewN _) | exact three_heap1 (w := w.drewN _) | exact three_heap0 | exact three_heap1); have HC5 := hid hc5; have HO5 := hid hown5; have HA5 := hid hat5; have HR1 := hid hr1; have HR2 := hid hr2; clear hc5 hown5 hgrow5 hat5 hr1 hr2))
    all_goals (
      go_wp2_with fail
      go_meet
      refine ⟨rfl, ?_⟩
      have hov : ∀ x, (Value.slice (some ⟨g5, 0, none⟩) (g.m + 1) cap5).ownBlock = some x → b.ov.ownBlock = some x ∨ (w.heap.size ≤ x ∧ x ≠ w.heap.size ∧ x ≠ w.heap.size + 1) := fun x hx => by
        have e : g5 = x := by simpa [Value.ownBlock] using hx
        subst e
        rcases HA5.out with h | h
        · exact .inl h
        · right
          have h' : g5 = w.heap.size + 3 := by first | omega | (simp at h; omega)
          omega
      have hrow1 : ∃ R' D', w5.heap[R']? = some (.cells (madeCells #[.int .u64 0] a) 30 (0, 0)) ∧ w5.heap[D']? = some (.cells (madeCells #[.int .u64 0] c) 29 (0, 0)) ∧
          w5.ownsRow 0 104 2 (.slice (some ⟨g5, 0, none⟩) (g.m + 1) cap5) (g.m + 1) (O ++ [.slice (some ⟨R', 0, none⟩) a a, .slice (some ⟨D', 0, none⟩) c c]) ∧ ((R' = w.heap.size ∧ D' = w.heap.size + 1) ∨ (R' = w.heap.size + 1 ∧ D' = w.heap.size)) :=
        ⟨_, _, HR1.out, HR2.out, HO5.out, by first | exact .inl ⟨rfl, rfl⟩ | exact .inr ⟨rfl, rfl⟩⟩
      obtain ⟨R', D', q1, q2, q3, q4⟩ := hrow1
      have hrd : ∀ (m : Nat) (bb : Nat) (T : TypeId), w5.heap[bb]? = some (.cells (madeCells #[.int .u64 0] m) T (0, 0)) → w5.rowIs bb T (List.replicate m (0 : Int)).length (fun j => .int .u64 ((List.replicate m (0 : Int)).getD j 0)) := fun m bb T hh => by
        refine ⟨_, hh, by rw [List.length_replicate]; exact size_madeCells _ _, fun j hj => ?_⟩
        rw [List.length_replicate] at hj
        simp [madeCells, hj, Nat.mod_one]
      exact ⟨_, step_obj H.out (.slice (some ⟨g5, 0, none⟩) (g.m + 1) cap5) R' D' (List.replicate a 0) (List.replicate c 0) O HC5.out hO1 hO2 (by rw [List.length_replicate, List.length_replicate]; exact q3)
        (fun x hx => by rcases hov x hx with h | ⟨h1, h2, h3⟩; exact .inl h; exact .inr ⟨h1, by omega, by omega⟩) (hrd a R' _ q1) (hrd c D' _ q2) (by omega) (by omega) (by omega) (fun r hr => by have := List.eq_of_mem_replicate hr; omega) ⟨by rw [List.length_replicate]; omega, by rw [List.length_replicate]; omega⟩ hm1⟩)
  case rest =>
  obtain ⟨rfl, b1', hst⟩ := hcut
  have HST := hid hst
  have HG := hid hst.at_
  have hp' := hst.p
  have hS' := hst.S
  have b5 := hst.at_.obs
  rw [hp'] at b5
  obtain ⟨O5, hO5, _⟩ := hst.at_.obj
  have hsh : ∃ (A5 : Option Addr) (c5 : Nat), b1'.ov = .slice A5 (g.m + 1) c5 := by
    rcases hO5.2 with ⟨_, hn⟩ | ⟨q, cap, cur, hv, _⟩
    · have : g.m + 1 = 0 := hn; omega
    · exact ⟨_, _, hv⟩
  obtain ⟨A5, c5, hA5⟩ := hsh
  rw [hA5] at b5
  have HP := hid (step_push _ b1' (g.more (List.replicate a 0) (List.replicate c 0)) t ((g.m : Int) + 1) hst.at_ ht HL.out (by show 0 ≤ (g.m : Int) + 1 ∧ (g.m : Int) + 1 ≤ ((g.m + 1 : Nat) : Int); omega))
  rw [hS'] at HP
  clear hst hO5 hA5 b1
  go_wp2_with (go_at_call 12; refine HP.out.mono ?_; rintro e w7 ⟨rfl, v7, hst7⟩; have HST7 := hid hst7; clear hst7)
  go_ret
  exact ⟨rfl, _, by simpa [GS.more] using HST.out.trans HST7.out⟩
end Go.Proofs.Ytcdllelbdcacjaa
