/-
  The document's graph (layer 13): 'Do'.
-/
import Derived.Test.YtcdllelbdcacjaaRGraph10
import Derived.Deep.RegionHeld3
set_option linter.unusedVariables false
set_option linter.unusedSimpArgs false
namespace Go.Proofs.Ytcdllelbdcacjaa.R
open Go.RowKit

theorem step_gen {dcap : Nat} (w : World) (b : GB) (g : GS) (t : Nat) (k x y z v : Int) (pA : Nat) (vt vo : Value) (h : GAt dcap w b g) (ht : t < g.n) (f : Five w pA vt vo (.int .i64 0) (.int .u64 0) (.bool false)) (hn : ¬ b.has g.n g.m pA) (hm : g.m + 1 ≤ 1048576) :
    Calls Try.prog 39 #[.pointer (some ⟨b.p, 0, none⟩), .pointer (some ⟨b.S t, 0, none⟩), .agg #[.int .i64 k, .int .i64 x, .int .i64 y, .int .i64 z, .int .u64 v], .pointer (some ⟨pA, 0, none⟩)] w (SPost dcap w b g pA vt vo (g.act t ⟨k, x, y, z, v⟩)) := by
  by_cases hk : k < 1 ∨ 13 < k
  · exact step_other w b g t x y z v pA vt vo h ht f hn k hk
  by_cases h13 : k = 13
  · subst h13; exact step_13 w b g t x y z v pA vt vo h ht f hn
  rcases kind_cases hk h13 with rfl | rfl | rfl | rfl | rfl | rfl | rfl | rfl | rfl | rfl | rfl | rfl
  · exact step_1 w b g t x y z v pA vt vo h ht f hn hm
  · exact step_2 w b g t x y z v pA vt vo h ht f hn
  · exact step_3 w b g t x y z v pA vt vo h ht f hn
  · exact step_4 w b g t x y z v pA vt vo h ht f hn
  · exact step_5 w b g t x y z v pA vt vo h ht f hn
  · exact step_6 w b g t x y z v pA vt vo h ht f hn
  · exact step_7 w b g t x y z v pA vt vo h ht f hn
  · exact step_8 w b g t x y z v pA vt vo h ht f hn
  · exact step_9 w b g t x y z v pA vt vo h ht f hn
  · exact step_10 w b g t x y z v pA vt vo h ht f hn
  · exact step_11 w b g t x y z v pA vt vo h ht f hn
  · exact step_12 w b g t x y z v pA vt vo h ht f hn

theorem Step.poke {dcap : Nat} {w w1 : World} {b b1 : GB} {g g1 : GS} (h : Step dcap w w1 b b1 g g1) {k : Nat} (hk : w.heap.size ≤ k) (hn : ¬ b1.has g1.n g1.m k) (o : Nat) (u : Value) : Step dcap w (w1.setCell ⟨k, o, none⟩ u) b b1 g g1 := by
  refine ⟨?_, h.chg.setCell (.inr hk) u, h.own, h.p, h.S, h.n, h.tv⟩
  exact h.at_.chg ((Chg.refl (fun x => x = k) w1).setCell (p := ⟨k, o, none⟩) (.inl rfl) u) (fun x hx e => hn (e ▸ hx))
theorem GAt.off {dcap : Nat} {w : World} {b : GB} {g : GS} (h : GAt dcap w b g) {k : Nat} (hk : w.heap.size ≤ k) : ¬ b.has g.n g.m k := fun ⟨a, ha⟩ => by
  have := h.lt a k ha
  omega

/-- an operation that was made beside a new block is a step -/
theorem After.toStep {dcap : Nat} {w w1 w2 : World} {b b1 : GB} {g g1 g2 : GS} {pA : Nat} {vt vo : Value} {word : Int} {bit : Bool} {bb : GB} (s : Step dcap w w1 b b1 g g1) (h : After dcap w1 w2 b1 bb g1 g2 pA vt vo word bit) (hp : w.heap.size ≤ pA) : Step dcap w w2 b bb g g2 := by
  have hs := s.chg.size
  refine ⟨h.at_, s.chg.next h.chg (fun i hi hk => ?_), fun x hx => ?_, h.p.trans s.p, h.S.trans s.S, h.n.trans s.n, h.tv.trans s.tv⟩
  · rcases hk with hk | hk
    · rcases s.own i hk with h1 | h1
      · exact h1
      · omega
    · omega
  · rcases h.own x hx with h1 | h1
    · exact s.own x h1
    · right; omega

theorem thr_cell {dcap : Nat} {w : World} {b : GB} {g : GS} (h : GAt dcap w b g) {t q n cap : Nat} (ht : t < g.n) (hv : b.tv = .slice (some ⟨q, 0, none⟩) n cap) : w.cell? ⟨q, t, none⟩ = some (.pointer (some ⟨b.S t, 0, none⟩)) := by
  obtain ⟨q7, cap7, hv7, _, _, z1⟩ := h.thrAt ht
  rw [hv] at hv7
  injection hv7 with hv7 _ _
  injection hv7 with hv7
  injection hv7 with hv7 _ _
  rw [hv7]; exact z1

set_option maxRecDepth 100000 in
set_option maxHeartbeats 4000000 in
theorem graph_do {dcap : Nat} (w : World) (b : GB) (g : GS) (t k x y z v : Int) (h : GAt dcap w b g) (hd : ∀ s, s < g.n → 0 ≤ g.done s ∧ g.done s ≤ 1000000) (hm : g.m + 1 ≤ 1048576) :
    Calls Try.prog 30 #[.pointer (some ⟨b.p, 0, none⟩), .int .i64 t, .agg #[.int .i64 k, .int .i64 x, .int .i64 y, .int .i64 z, .int .u64 v]] w fun e w' =>
      e = .returned (g.run t ⟨k, x, y, z, v⟩).2.val ∧ ∃ b', Step dcap w w' b b' g (g.run t ⟨k, x, y, z, v⟩).1 := by
  have H := hid h
  have hths := h.ths
  have hpl := h.lt .p b.p rfl
  have hn : (g.n : Int) ≤ 64 := by have := h.n64; omega
  obtain ⟨A, cap, hsh⟩ : ∃ (A : Option Addr) (c : Nat), b.tv = .slice A g.n c := by
    obtain ⟨T, hT, _⟩ := h.thr
    rcases hT.2 with ⟨hv, hn⟩ | ⟨q, cap, cur, hv, _⟩
    · exact ⟨none, 0, by rw [hv, hn]⟩
    · exact ⟨_, _, hv⟩
  rw [hsh] at hths
  by_cases hin : InL g.n t
  rotate_left
  · have e0 : g.run t ⟨k, x, y, z, v⟩ = (g, ⟨0, 0, 2, 0, false⟩) := if_neg hin
    rw [e0]
    by_cases c1 : t < 0
    · clear h hsh hd hin e0
      go_enter Try.func30, Try.ntmps30
      go_wp2
      refine bodyPost_ret (v := .agg #[.int .i64 0, .int .i64 0, .int .i64 2, .int .u64 0, .bool false]) (by simp [results, Try.results30, go_sem]) rfl ⟨rfl, ?_⟩
      exact ⟨b, Step.refl H.out (by (repeat (first | with_reducible exact Chg.refl _ _ | with_reducible apply Chg.drewN | with_reducible apply Chg.drew | with_reducible apply Chg.alloc | (with_reducible refine Chg.setCell ?_ ?_ _; rotate_left; focus (first | (refine Or.inr ?_; first | omega | (simp; done) | (simp; omega)) | exact Or.inl (by assumption) | with_reducible exact Or.inl rfl | exact Or.inl (by simp))) | refine Chg.trans ?_ (Chg.of_below (by with_reducible assumption) (fun k h1 h2 => absurd h1 (by first | omega | (simp; omega)))) | refine Chg.trans ?_ (by with_reducible assumption))))⟩
    · have d0 : 0 ≤ t := by omega
      have d3 : (g.n : Int) ≤ t := by unfold InL at hin; omega
      have d4 : decide ((g.n : Int) ≤ t) = true := by simp; omega
      clear h hsh hd hin e0
      go_enter Try.func30, Try.ntmps30
      go_wp2
      refine bodyPost_ret (v := .agg #[.int .i64 0, .int .i64 0, .int .i64 2, .int .u64 0, .bool false]) (by simp [results, Try.results30, go_sem]) rfl ⟨rfl, ?_⟩
      exact ⟨b, Step.refl H.out (by (repeat (first | with_reducible exact Chg.refl _ _ | with_reducible apply Chg.drewN | with_reducible apply Chg.drew | with_reducible apply Chg.alloc | (with_reducible refine Chg.setCell ?_ ?_ _; rotate_left; focus (first | (refine Or.inr ?_; first | omega | (simp; done) | (simp; omega)) | exact Or.inl (by assumption) | with_reducible exact Or.inl rfl | exact Or.inl (by simp))) | refine Chg.trans ?_ (Chg.of_below (by with_reducible assumption) (fun k h1 h2 => absurd h1 (by first | omega | (simp; omega)))) | refine Chg.trans ?_ (by with_reducible assumption))))⟩
  obtain ⟨s, rfl, hs⟩ := inL_nat hin
  have e0 : g.run (s : Int) ⟨k, x, y, z, v⟩ = ((({ g with done := upd g.done s (g.done s + 1) } : GS).act s ⟨k, x, y, z, v⟩).g,
      ⟨s, g.done s, (({ g with done := upd g.done s (g.done s + 1) } : GS).act s ⟨k, x, y, z, v⟩).code, (({ g with done := upd g.done s (g.done s + 1) } : GS).act s ⟨k, x, y, z, v⟩).word, (({ g with done := upd g.done s (g.done s + 1) } : GS).act s ⟨k, x, y, z, v⟩).bit⟩) := by
    unfold GS.run
    rw [if_pos hin, Int.toNat_natCast]
  rw [e0]
  clear e0 hin
  obtain ⟨q, cap', hv', hql, hqb, q1⟩ := h.thrAt hs
  rw [hsh] at hv'
  injection hv' with hA hnn hcap
  subst hA hcap
  clear hnn
  have hdns := h.dns
  have hdc1 : s < dcap := Nat.lt_of_lt_of_le hs h.dnl.1
  have hdc2 : (dcap : Int) ≤ 64 := by have := h.dnl.2; omega
  have hdc3 : (s : Int) < (dcap : Int) := by omega
  have hdcell := h.dnr.cell (i := s) hdc1
  have hdfz := h.dnr.frozen s
  have hdnl := h.dnr.lt
  have d1 : decide ((s : Int) < 0) = false := by simp
  have d2 : decide ((g.n : Int) ≤ (s : Int)) = false := by simp; omega
  have d3 : decide (g.n ≤ s) = false := by simp; omega
  have HSH := hid hsh
  have hdd := hd s hs
  have hslt : (s : Int) < (g.n : Int) := by omega
  have hnb := hid (fun (k : Nat) (hk : w.heap.size ≤ k) => h.off hk)
  have HQ := hid q1
  obtain ⟨d, hde⟩ : ∃ d : Int, d = g.done s := ⟨_, rfl⟩
  rw [← hde] at hdcell hdd ⊢
  obtain ⟨R, hR⟩ : ∃ R : Out, R = GS.act { g with done := upd g.done s (d + 1) } s ⟨k, x, y, z, v⟩ := ⟨_, rfl⟩
  rw [← hR]
  have HR := hid hR
  clear hR
  have HD := hid hde
  have l1 : b.p < w.heap.size + 1 := by omega
  have l2 : b.p < w.heap.size + 1 + 1 := by omega
  have l3 : b.dn < w.heap.size + 1 := by omega
  have l4 : b.dn < w.heap.size + 1 + 1 := by omega
  have r5 : b.dn ≠ w.heap.size := by omega
  have r4 : b.dn ≠ w.heap.size + 1 := by omega
  have r3 : b.dn ≠ w.heap.size + 1 + 1 := by omega
  have r6 : ¬ b.dn = w.heap.size + 2 := by omega
  have r7 : ¬ w.heap.size + 2 = b.dn := by omega
  clear h hsh hd hde
  go_enter Try.func30, Try.ntmps30
  go_upto_region 4 with fail
  go_cut [5, 6, 7] (fun s5 s6 s7 wx => s5 = .pointer (some ⟨w.heap.size, 0, none⟩) ∧ s6 = .pointer (some ⟨w.heap.size + 1, 0, none⟩) ∧ s7 = .pointer (some ⟨w.heap.size + 2, 0, none⟩) ∧
    Step dcap w wx b b g { g with done := upd g.done s (d + 1) } ∧ Five wx w.heap.size (.int .i64 k) (.int .i64 x) (.int .i64 y) (.int .i64 z) (.int .u64 v) ∧ Five wx (w.heap.size + 1) (.int .i64 0) (.int .i64 0) (.int .i64 0) (.int .u64 0) (.bool false) ∧
    Five wx (w.heap.size + 2) (.int .i64 s) (.int .i64 d) (.int .i64 0) (.int .u64 0) (.bool false) ∧ wx.heap.size = w.heap.size + 3)
  case first =>
    go_wp2
    go_meet
    refine ⟨rfl, rfl, rfl, ?_, ⟨by go_simp, by go_simp, by go_simp, by go_simp, by go_simp, fun o => by go_simp⟩, ⟨by go_simp, by go_simp, by go_simp, by go_simp, by go_simp, fun o => by go_simp⟩, ⟨by go_simp, by go_simp, by go_simp, by go_simp, by go_simp, fun o => by go_simp⟩, by simp⟩
    exact (step_count H.out s (d + 1)).quiet ((((Chg.refl _ _).alloc _).alloc _).alloc _)
  case rest =>
  obtain ⟨rfl, rfl, rfl, hst, f0, f1, f2, hsz⟩ := hcut
  have HST := hid hst
  have HF0 := hid f0
  have HF1 := hid f1
  have HF2 := hid f2
  have g1 := hst.at_.ths
  rw [HSH.out] at g1
  have g2 : wc.cell? ⟨q, s, none⟩ = some (.pointer (some ⟨b.S s, 0, none⟩)) ∧ q < wc.heap.size := by
    obtain ⟨q9, cap9, hv9, hq9, _, g2⟩ := hst.at_.thrAt hs
    rw [HSH.out] at hv9
    injection hv9 with hv9 _ _
    injection hv9 with hv9
    injection hv9 with hv9 _ _
    subst hv9
    exact ⟨g2, hq9⟩
  obtain ⟨g2, hq9⟩ := g2
  have hact := step_gen wc.drew b { g with done := upd g.done s (d + 1) } s k x y z v (w.heap.size + 2) (.int .i64 s) (.int .i64 d) (hst.at_.quiet ((Chg.refl _ _).drew)) hs (f2.chg (S := fun _ => False) ((Chg.refl _ _).drew) (by simp)) (hnb.out _ (by omega)) hm
  unfold SPost at hact
  rw [← HR.out] at hact
  have HACT := hid hact
  have o0 := f0.c0
  have o1 := f0.c1
  have o2 := f0.c2
  have o3 := f0.c3
  have o4 := f0.c4
  clear hact hst f0 f1 f2 hdns hdcell hdfz hdnl r3 r4 r5 r6 r7 l1 l2 l3 l4 hths hdc1 hdc2 hdc3 hdd
  go_upto_region 5 with fail
  go_cut [8] (fun s8 wx => s8 = .int .i64 R.code ∧ ∃ b', Step dcap w wx b b' g R.g ∧ ¬ b'.has R.g.n R.g.m (w.heap.size + 1) ∧ ¬ b'.has R.g.n R.g.m (w.heap.size + 2) ∧
    Five wx (w.heap.size + 1) (.int .i64 0) (.int .i64 0) (.int .i64 0) (.int .u64 0) (.bool false) ∧ Five wx (w.heap.size + 2) (.int .i64 s) (.int .i64 d) (.int .i64 0) (.int .u64 R.word) (.bool R.bit))
  case first =>
    go_region_held3 (fun w' => w'.cell? ⟨b.p, 2, none⟩ = some (.slice (some ⟨q, 0, none⟩) g.n cap) ∧ w'.cell? ⟨q, s, none⟩ = some (.pointer (some ⟨b.S s, 0, none⟩)) ∧ w'.cell? ⟨w.heap.size, 0, none⟩ = some (.int .i64 k) ∧ w'.cell? ⟨w.heap.size, 1, none⟩ = some (.int .i64 x) ∧ w'.cell? ⟨w.heap.size, 2, none⟩ = some (.int .i64 y) ∧ w'.cell? ⟨w.heap.size, 3, none⟩ = some (.int .i64 z) ∧ w'.cell? ⟨w.heap.size, 4, none⟩ = some (.int .u64 v))
      (first | exact ⟨g1, g2, o0, o1, o2, o3, o4⟩ | exact ⟨z0, z1, z2, z3, z4, z5, z6⟩ | go_keep)
      (first | (go_at_call 39; refine HACT.out.mono ?_; rintro e w1 ⟨rfl, b1, hs1⟩; have z0 := hs1.at_.ths; rw [hs1.p, hs1.tv, HSH.out] at z0; have z1 := thr_cell hs1.at_ (by rw [hs1.n]; exact hs) (hs1.tv.trans HSH.out); rw [hs1.S] at z1; have y0 := HF0.out.chg (S := fun _ => False) ((Chg.refl (fun _ => False) wc).drew) (by simp); have y1 := y0.chg hs1.chg (fun hb => (by rcases hb with hb | hb; exact hnb.out _ (Nat.le_refl _) hb; omega)); obtain ⟨z2, z3, z4, z5, z6, _⟩ := y1; have HS1 := hid hs1; clear hs1 y0))
    all_goals (
      go_wp2_with fail
      go_meet
      have hst1 := After.toStep (HST.out.quiet ((Chg.refl _ _).drew)) HS1.out (by omega)
      have hn2 : ∀ j : Nat, w.heap.size ≤ j → j < w.heap.size + 3 → ¬ b1.has R.g.n R.g.m j := fun j h1 h2 hb => by
        rcases HS1.out.own j hb with h3 | h3
        · exact hnb.out j h1 h3
        · have : wc.heap.size ≤ j := h3
          omega
      refine ⟨rfl, b1, hst1, hn2 _ (by omega) (by omega), hn2 _ (by omega) (by omega), ?_, HS1.out.ans⟩
      have y2 := HF1.out.chg (S := fun _ => False) ((Chg.refl (fun _ => False) wc).drew) (by simp)
      exact y2.chg HS1.out.chg (fun hb => by rcases hb with hb | hb; exact hnb.out _ (by omega) hb; omega))
  case rest =>
  obtain ⟨rfl, b', hst, hn1, hn2, f1, f2⟩ := hcut
  have HST2 := hid hst
  have HN1 := hid hn1
  have HN2 := hid hn2
  have hput := hid (f1.put (.int .i64 s) (.int .i64 d) (.int .i64 R.code) (.int .u64 R.word) (.bool R.bit))
  obtain ⟨a0, a1, a2, a3, a4, af⟩ := f1
  obtain ⟨b0, b1, b2, b3, b4, bf⟩ := f2
  clear hst hn1 hn2 HACT HF0 HF1 HF2 o0 o1 o2 o3 o4 g1 g2
  go_wp2_with fail
  obtain ⟨y0, y1, y2, y3, y4, _⟩ := hput.out
  refine bodyPost_ret (v := .agg #[.int .i64 s, .int .i64 d, .int .i64 R.code, .int .u64 R.word, .bool R.bit]) (by simp [results, Try.results30, go_sem, a0, a1, a2, a3, a4]) rfl ⟨rfl, b', ?_⟩
  exact (((((HST2.out.poke (by omega) HN2.out _ _).poke (by omega) HN1.out _ _).poke (by omega) HN1.out _ _).poke (by omega) HN1.out _ _).poke (by omega) HN1.out _ _).poke (by omega) HN1.out _ _
end Go.Proofs.Ytcdllelbdcacjaa.R
