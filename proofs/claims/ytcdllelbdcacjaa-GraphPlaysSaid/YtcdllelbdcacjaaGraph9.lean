/-
  Graphs (layer 13): 'Do'.
-/
import Derived.Test.YtcdllelbdcacjaaGraph8
import Derived.Deep.RegionHeld3
set_option linter.unusedVariables false
set_option linter.unusedSimpArgs false
namespace Go.Proofs.Ytcdllelbdcacjaa
open Go.RowKit

theorem act_gen (w : World) (b : GB) (g : GS) (t : Nat) (k x y z v : Int) (h : GAt w b g) (ht : t < g.n) (hm : g.m + 1 ≤ 1048576) :
    Calls Try.prog 38 #[.pointer (some ⟨b.p, 0, none⟩), .pointer (some ⟨b.S t, 0, none⟩), .agg #[.int .i64 k, .int .i64 x, .int .i64 y, .int .i64 z, .int .u64 v]] w (ActPost w b g (g.act t ⟨k, x, y, z, v⟩)) := by
  by_cases hk : k < 1 ∨ 13 < k
  · exact act_other w b g t x y z v h ht k hk
  have hc : k = 1 ∨ k = 2 ∨ k = 3 ∨ k = 4 ∨ k = 5 ∨ k = 6 ∨ k = 7 ∨ k = 8 ∨ k = 9 ∨ k = 10 ∨ k = 11 ∨ k = 12 ∨ k = 13 := by omega
  rcases hc with rfl | rfl | rfl | rfl | rfl | rfl | rfl | rfl | rfl | rfl | rfl | rfl | rfl
  · exact act_1 w b g t x y z v h ht hm
  · exact act_2 w b g t x y z v h ht
  · exact act_3 w b g t x y z v h ht
  · exact act_4 w b g t x y z v h ht
  · exact act_5 w b g t x y z v h ht
  · exact act_6 w b g t x y z v h ht
  · exact act_7 w b g t x y z v h ht
  · exact act_8 w b g t x y z v h ht
  · exact act_9 w b g t x y z v h ht
  · exact act_10 w b g t x y z v h ht
  · exact act_11 w b g t x y z v h ht
  · exact act_12 w b g t x y z v h ht
  · exact act_13 w b g t x y z v h ht

/-- an answer -/
structure AnsS where
  thread : Int
  op : Int
  code : Int
  word : Int
  bit : Bool
def AnsS.val (a : AnsS) : Value := .agg #[.int .i64 a.thread, .int .i64 a.op, .int .i64 a.code, .int .u64 a.word, .bool a.bit]

/-- a thread's operation -/
def GS.run (g : GS) (t : Int) (o : OpS) : GS × AnsS :=
  if InL g.n t then
    ((({ g with done := upd g.done t.toNat (g.done t.toNat + 1) } : GS).act t.toNat o).g,
      ⟨t, g.done t.toNat, (({ g with done := upd g.done t.toNat (g.done t.toNat + 1) } : GS).act t.toNat o).code, (({ g with done := upd g.done t.toNat (g.done t.toNat + 1) } : GS).act t.toNat o).word, (({ g with done := upd g.done t.toNat (g.done t.toNat + 1) } : GS).act t.toNat o).bit⟩)
  else (g, ⟨0, 0, 2, 0, false⟩)

theorem step_count {w : World} {b : GB} {g : GS} (h : GAt w b g) (t q cap : Nat) (ht : t < g.n) (hv : b.tv = .slice (some ⟨q, 0, none⟩) g.n cap) (d : Int) :
    Step w (w.setCell ⟨q, t * 2 + 1, none⟩ (.int .i64 d)) b b g { g with done := upd g.done t d } :=
  ⟨h.count t q cap ht hv d, (Chg.refl _ w).setCell (.inl ⟨.th, by simp [GB.blk, hv, Value.ownBlock]⟩) _, fun k hk => .inl hk, rfl, rfl, rfl, rfl⟩

/-- a block of five cells -/
structure Five (w : World) (p : Nat) (v0 v1 v2 v3 v4 : Value) : Prop where
  c0 : w.cell? ⟨p, 0, none⟩ = some v0
  c1 : w.cell? ⟨p, 1, none⟩ = some v1
  c2 : w.cell? ⟨p, 2, none⟩ = some v2
  c3 : w.cell? ⟨p, 3, none⟩ = some v3
  c4 : w.cell? ⟨p, 4, none⟩ = some v4
  fz : ∀ o, w.frozen? ⟨p, o, none⟩ = false
theorem Five.lt {w : World} {p : Nat} {v0 v1 v2 v3 v4 : Value} (h : Five w p v0 v1 v2 v3 v4) : p < w.heap.size := cell_lt h.c0
theorem Five.chg {w w1 : World} {S : Nat → Prop} {p : Nat} {v0 v1 v2 v3 v4 : Value} (h : Five w p v0 v1 v2 v3 v4) (c : Chg S w w1) (hp : ¬ S p) : Five w1 p v0 v1 v2 v3 v4 :=
  ⟨(c.cell h.lt hp).trans h.c0, (c.cell h.lt hp).trans h.c1, (c.cell h.lt hp).trans h.c2, (c.cell h.lt hp).trans h.c3, (c.cell h.lt hp).trans h.c4, fun o => (c.frozen h.lt hp).trans (h.fz o)⟩
theorem Five.poke {w : World} {p k : Nat} {v0 v1 v2 v3 v4 : Value} (h : Five w p v0 v1 v2 v3 v4) (hk : k ≠ p) (o : Nat) (u : Value) : Five (w.setCell ⟨k, o, none⟩ u) p v0 v1 v2 v3 v4 :=
  h.chg ((Chg.refl (fun x => x = k) w).setCell (p := ⟨k, o, none⟩) (.inl rfl) u) (fun e => hk e.symm)
theorem Five.put {w : World} {p : Nat} {v0 v1 v2 v3 v4 : Value} (h : Five w p v0 v1 v2 v3 v4) (u0 u1 u2 u3 u4 : Value) :
    Five (((((w.setCell ⟨p, 0, none⟩ u0).setCell ⟨p, 1, none⟩ u1).setCell ⟨p, 2, none⟩ u2).setCell ⟨p, 3, none⟩ u3).setCell ⟨p, 4, none⟩ u4) p u0 u1 u2 u3 u4 := by
  obtain ⟨a0, a1, a2, a3, a4, af⟩ := h
  exact ⟨by go_simp, by go_simp, by go_simp, by go_simp, by go_simp, fun o => by go_simp⟩
theorem five_new (w : World) (v0 v1 v2 v3 v4 : Value) (T : TypeId) : Five (w.alloc (.cells #[v0, v1, v2, v3, v4] T)) w.heap.size v0 v1 v2 v3 v4 :=
  ⟨by go_simp, by go_simp, by go_simp, by go_simp, by go_simp, fun o => by go_simp⟩

theorem graph_do_nil (w : World) (t k x y z v : Int) :
    Calls Try.prog 29 #[.pointer none, .int .i64 t, .agg #[.int .i64 k, .int .i64 x, .int .i64 y, .int .i64 z, .int .u64 v]] w fun e w' => e = .returned (AnsS.val ⟨0, 0, 1, 0, false⟩) ∧ Below w.heap.size w w' := by
  go_enter Try.func29, Try.ntmps29
  go_wp2
  refine bodyPost_ret (v := .agg #[.int .i64 0, .int .i64 0, .int .i64 1, .int .u64 0, .bool false]) (by simp [results, Try.results29, go_sem]) rfl ⟨rfl, ?_⟩
  (repeat (first | with_reducible exact Below.refl _ _ | with_reducible apply bel_drewN.2 | with_reducible apply bel_drew.2 | (with_reducible refine Below.setCell ?_ ?_ _; rotate_left; focus (first | omega | (simp; done) | (simp; omega))) | (with_reducible refine Below.alloc ?_ ?_ _; rotate_left; focus (first | omega | (simp; done) | (simp; omega))) | refine bel_step (by with_reducible assumption) (by first | omega | (simp; done) | (simp; omega)) ?_))

theorem Step.poke {w w1 : World} {b b1 : GB} {g g1 : GS} (h : Step w w1 b b1 g g1) {k : Nat} (hk : w.heap.size ≤ k) (hn : ¬ b1.has g1.n g1.m k) (o : Nat) (u : Value) : Step w (w1.setCell ⟨k, o, none⟩ u) b b1 g g1 := by
  refine ⟨?_, h.chg.setCell (.inr hk) u, h.own, h.p, h.S, h.n, h.tv⟩
  exact h.at_.chg ((Chg.refl (fun x => x = k) w1).setCell (p := ⟨k, o, none⟩) (.inl rfl) u) (fun x hx e => hn (e ▸ hx))

set_option maxRecDepth 100000 in
set_option maxHeartbeats 4000000 in
theorem graph_do (w : World) (b : GB) (g : GS) (t k x y z v : Int) (h : GAt w b g) (hd : ∀ s, s < g.n → 0 ≤ g.done s ∧ g.done s ≤ 1000000) (hm : g.m + 1 ≤ 1048576) :
    Calls Try.prog 29 #[.pointer (some ⟨b.p, 0, none⟩), .int .i64 t, .agg #[.int .i64 k, .int .i64 x, .int .i64 y, .int .i64 z, .int .u64 v]] w fun e w' =>
      e = .returned (g.run t ⟨k, x, y, z, v⟩).2.val ∧ ∃ b', Step w w' b b' g (g.run t ⟨k, x, y, z, v⟩).1 := by
  have H := hid h
  have hths := h.ths
  have hpl := h.lt .p b.p rfl
  have hn : (g.n : Int) ≤ 64 := by have := h.n64; omega
  obtain ⟨A, cap, hsh⟩ : ∃ (A : Option Addr) (c : Nat), b.tv = .slice A g.n c := by
    obtain ⟨T, hT, _⟩ := h.thr
    rcases hT.2 with ⟨hv, hn⟩ | ⟨q, cap, cur, hv, _⟩
    · exact ⟨none, 0, by rw [hv, hn]⟩
    · exact ⟨_, _, hv⟩
  rw [hsh] at hths
  by_cases hin : InL g.n t
  rotate_left
  · have e0 : g.run t ⟨k, x, y, z, v⟩ = (g, ⟨0, 0, 2, 0, false⟩) := if_neg hin
    rw [e0]
    by_cases c1 : t < 0
    · clear h hsh hd hin e0
      go_enter Try.func29, Try.ntmps29
      go_wp2
      refine bodyPost_ret (v := .agg #[.int .i64 0, .int .i64 0, .int .i64 2, .int .u64 0, .bool false]) (by simp [results, Try.results29, go_sem]) rfl ⟨rfl, ?_⟩
      exact ⟨b, Step.refl H.out (by (repeat (first | with_reducible exact Chg.refl _ _ | with_reducible apply Chg.drewN | with_reducible apply Chg.drew | with_reducible apply Chg.alloc | (with_reducible refine Chg.setCell ?_ ?_ _; rotate_left; focus (first | (refine Or.inr ?_; first | omega | (simp; done) | (simp; omega)) | exact Or.inl (by assumption) | with_reducible exact Or.inl rfl | exact Or.inl (by simp))) | refine Chg.trans ?_ (Chg.of_below (by with_reducible assumption) (fun k h1 h2 => absurd h1 (by first | omega | (simp; omega)))) | refine Chg.trans ?_ (by with_reducible assumption))))⟩
    · have d0 : 0 ≤ t := by omega
      have d3 : (g.n : Int) ≤ t := by unfold InL at hin; omega
      clear h hsh hd hin e0
      go_enter Try.func29, Try.ntmps29
      go_wp2
      refine bodyPost_ret (v := .agg #[.int .i64 0, .int .i64 0, .int .i64 2, .int .u64 0, .bool false]) (by simp [results, Try.results29, go_sem]) rfl ⟨rfl, ?_⟩
      exact ⟨b, Step.refl H.out (by (repeat (first | with_reducible exact Chg.refl _ _ | with_reducible apply Chg.drewN | with_reducible apply Chg.drew | with_reducible apply Chg.alloc | (with_reducible refine Chg.setCell ?_ ?_ _; rotate_left; focus (first | (refine Or.inr ?_; first | omega | (simp; done) | (simp; omega)) | exact Or.inl (by assumption) | with_reducible exact Or.inl rfl | exact Or.inl (by simp))) | refine Chg.trans ?_ (Chg.of_below (by with_reducible assumption) (fun k h1 h2 => absurd h1 (by first | omega | (simp; omega)))) | refine Chg.trans ?_ (by with_reducible assumption))))⟩
  obtain ⟨s, rfl, hs⟩ := inL_nat hin
  have e0 : g.run (s : Int) ⟨k, x, y, z, v⟩ = ((({ g with done := upd g.done s (g.done s + 1) } : GS).act s ⟨k, x, y, z, v⟩).g,
      ⟨s, g.done s, (({ g with done := upd g.done s (g.done s + 1) } : GS).act s ⟨k, x, y, z, v⟩).code, (({ g with done := upd g.done s (g.done s + 1) } : GS).act s ⟨k, x, y, z, v⟩).word, (({ g with done := upd g.done s (g.done s + 1) } : GS).act s ⟨k, x, y, z, v⟩).bit⟩) := by
    unfold GS.run
    rw [if_pos hin, Int.toNat_natCast]
  rw [e0]
  clear e0 hin
  obtain ⟨q, cap', hv', hql, hqb, q1, q2, q3⟩ := h.thrAt hs
  rw [hsh] at hv'
  injection hv' with hA hnn hcap
  subst hA hcap
  clear hnn
  have d1 : decide ((s : Int) < 0) = false := by simp
  have d2 : decide ((g.n : Int) ≤ (s : Int)) = false := by simp; omega
  have d3 : decide (g.n ≤ s) = false := by simp; omega
  have HSH := hid hsh
  have hdd := hd s hs
  have hslt : (s : Int) < (g.n : Int) := by omega
  have hnb := hid (fun (k : Nat) (hk : w.heap.size ≤ k) (hb : b.has g.n g.m k) => (by obtain ⟨a, ha⟩ := hb; have := h.lt a k ha; omega : False))
  have HQ := hid q1
  obtain ⟨d, hde⟩ : ∃ d : Int, d = g.done s := ⟨_, rfl⟩
  rw [← hde] at q2 hdd ⊢
  obtain ⟨R, hR⟩ : ∃ R : Out, R = GS.act { g with done := upd g.done s (d + 1) } s ⟨k, x, y, z, v⟩ := ⟨_, rfl⟩
  rw [← hR]
  have HR := hid hR
  clear hR
  have HD := hid hde
  have r1 : q < w.heap.size + 1 := by omega
  have r2 : q < w.heap.size + 1 + 1 := by omega
  have r3 : q ≠ w.heap.size + 1 + 1 := by omega
  have r4 : q ≠ w.heap.size + 1 := by omega
  have r5 : q ≠ w.heap.size := by omega
  have r6 : ¬ q = w.heap.size + 2 := by omega
  have r7 : ¬ w.heap.size + 2 = q := by omega
  clear h hsh hd hde
  go_enter Try.func29, Try.ntmps29
  go_upto_region 7 with fail
  go_cut [5, 6, 7, 8] (fun s5 s6 s7 s8 wx => s5 = .pointer (some ⟨w.heap.size, 0, none⟩) ∧ s6 = .pointer (some ⟨w.heap.size + 1, 0, none⟩) ∧ s7 = .pointer (some ⟨q, s * 2, none⟩) ∧ s8 = .pointer (some ⟨w.heap.size + 2, 0, none⟩) ∧
    Step w wx b b g { g with done := upd g.done s (d + 1) } ∧ Five wx w.heap.size (.int .i64 k) (.int .i64 x) (.int .i64 y) (.int .i64 z) (.int .u64 v) ∧ Five wx (w.heap.size + 1) (.int .i64 0) (.int .i64 0) (.int .i64 0) (.int .u64 0) (.bool false) ∧
    Five wx (w.heap.size + 2) (.int .i64 s) (.int .i64 d) (.int .i64 0) (.int .u64 0) (.bool false) ∧ wx.heap.size = w.heap.size + 3)
  case first =>
    go_wp2
    go_meet
    refine ⟨rfl, rfl, rfl, rfl, ?_, ⟨by go_simp, by go_simp, by go_simp, by go_simp, by go_simp, fun o => by go_simp⟩, ⟨by go_simp, by go_simp, by go_simp, by go_simp, by go_simp, fun o => by go_simp⟩, ⟨by go_simp, by go_simp, by go_simp, by go_simp, by go_simp, fun o => by go_simp⟩, by simp⟩
    have hst := step_count H.out s q cap hs HSH.out (d + 1)
    exact hst.quiet ((((Chg.refl _ _).alloc _).alloc _).alloc _)
  case rest =>
  obtain ⟨rfl, rfl, rfl, rfl, hst, f0, f1, f2, hsz⟩ := hcut
  have HST := hid hst
  have HF1 := hid f1
  have HF2 := hid f2
  have HF0 := hid f0
  have hS := hst.tv
  have g1 := hst.at_.thrAt hs
  obtain ⟨q9, cap9, hv9, _, _, g2, _, _⟩ := g1
  rw [HSH.out] at hv9
  injection hv9 with hv9 _ _
  injection hv9 with hv9
  injection hv9 with hv9 _ _
  subst hv9
  have HNB := hid (fun (i : Nat) (hi : w.heap.size ≤ i) (hb : b.has g.n g.m i) => hnb.out i hi hb)
  have hact := act_gen wc.drew b { g with done := upd g.done s (d + 1) } s k x y z v (hst.at_.quiet ((Chg.refl _ _).drew)) hs hm
  rw [← HR.out] at hact
  have HACT := hid hact
  clear hact hst hS
  have o0 := f0.c0
  have o1 := f0.c1
  have o2 := f0.c2
  have o3 := f0.c3
  have o4 := f0.c4
  have p0 := f2.c0
  have p1 := f2.c1
  have p2 := f2.c2
  have p3 := f2.c3
  have p4 := f2.c4
  have pf := f2.fz
  clear f0 f1 f2
  go_upto_region 8 with fail
  go_cut [8] (fun s8 wx => s8 = .pointer (some ⟨w.heap.size + 2, 0, none⟩) ∧ ∃ b', Step w wx b b' g R.g ∧ ¬ b'.has R.g.n R.g.m (w.heap.size + 1) ∧
    Five wx (w.heap.size + 1) (.int .i64 0) (.int .i64 0) (.int .i64 0) (.int .u64 0) (.bool false) ∧ Five wx (w.heap.size + 2) (.int .i64 s) (.int .i64 d) (.int .i64 R.code) (.int .u64 R.word) (.bool R.bit))
  case first =>
    go_region_held3 (fun w' => w'.cell? ⟨q, s * 2, none⟩ = some (.pointer (some ⟨b.S s, 0, none⟩)) ∧ w'.cell? ⟨w.heap.size, 0, none⟩ = some (.int .i64 k) ∧ w'.cell? ⟨w.heap.size, 1, none⟩ = some (.int .i64 x) ∧ w'.cell? ⟨w.heap.size, 2, none⟩ = some (.int .i64 y) ∧ w'.cell? ⟨w.heap.size, 3, none⟩ = some (.int .i64 z) ∧ w'.cell? ⟨w.heap.size, 4, none⟩ = some (.int .u64 v))
      (first | exact ⟨g2, o0, o1, o2, o3, o4⟩ | exact ⟨z0, z1, z2, z3, z4, z5⟩ | go_keep)
      (first | (go_at_call 38; refine HACT.out.mono ?_; rintro e w1 ⟨rfl, b1, hs1⟩; obtain ⟨q7, cap7, hv7, _, _, z0, _, _⟩ := hs1.at_.thrAt (by rw [hs1.n]; exact hs); rw [hs1.tv, HSH.out] at hv7; (injection hv7 with hv7 _ _); (injection hv7 with hv7); (injection hv7 with hv7 _ _); subst hv7; rw [hs1.S] at z0; have y0 := HF0.out.chg ((Chg.refl (fun _ => False) _).drew) (by simp); have y1 := y0.chg hs1.chg (fun hb => HNB.out _ (Nat.le_refl _) hb); obtain ⟨z1, z2, z3, z4, z5, z6⟩ := y1; have y2 := HF2.out.chg ((Chg.refl (fun _ => False) _).drew) (by simp); have y3 := y2.chg hs1.chg (fun hb => HNB.out _ (by omega) hb); obtain ⟨x0, x1, x2, x3, x4, x5⟩ := y3; have HS1 := hid hs1; clear hs1 y0 y2))
    all_goals (
      go_wp2_with fail
      go_meet
      have hn2 : ∀ j : Nat, w.heap.size ≤ j → j < w.heap.size + 3 → ¬ b1.has R.g.n R.g.m j := fun j h1 h2 hb => by
        rcases HS1.out.own j hb with h3 | h3
        · exact HNB.out j h1 h3
        · have : wc.heap.size ≤ j := h3
          omega
      have hs3 := ((HST.out.quiet ((Chg.refl _ _).drew)).trans HS1.out)
      refine ⟨rfl, b1, ((hs3.poke (by omega) (hn2 _ (by omega) (by omega)) _ _).poke (by omega) (hn2 _ (by omega) (by omega)) _ _).poke (by omega) (hn2 _ (by omega) (by omega)) _ _, hn2 _ (by omega) (by omega), ?_, ⟨by go_simp, by go_simp, by go_simp, by go_simp, by go_simp, fun o => by go_simp⟩⟩
      have y2 := HF1.out.chg ((Chg.refl (fun _ => False) _).drew) (by simp)
      have y3 := y2.chg HS1.out.chg (fun hb => HNB.out _ (by omega) hb)
      exact ((y3.poke (by omega) _ _).poke (by omega) _ _).poke (by omega) _ _)
  case rest =>
  obtain ⟨rfl, b', hst, hnb', f1, f2⟩ := hcut
  have HST2 := hid hst
  have HN2 := hid hnb'
  have hput := hid (f1.put (.int .i64 s) (.int .i64 d) (.int .i64 R.code) (.int .u64 R.word) (.bool R.bit))
  obtain ⟨a0, a1, a2, a3, a4, af⟩ := f1
  obtain ⟨b0, b1, b2, b3, b4, bf⟩ := f2
  clear hst hnb' HACT HF0 HF1 HF2 o0 o1 o2 o3 o4 p0 p1 p2 p3 p4 pf g2
  go_wp2_with fail
  obtain ⟨y0, y1, y2, y3, y4, _⟩ := hput.out
  refine bodyPost_ret (v := .agg #[.int .i64 s, .int .i64 d, .int .i64 R.code, .int .u64 R.word, .bool R.bit]) (by simp [results, Try.results29, go_sem, y0, y1, y2, y3, y4]) rfl ⟨rfl, b', ?_⟩
  exact ((((HST2.out.poke (by omega) HN2.out _ _).poke (by omega) HN2.out _ _).poke (by omega) HN2.out _ _).poke (by omega) HN2.out _ _).poke (by omega) HN2.out _ _
end Go.Proofs.Ytcdllelbdcacjaa
