/-
  The document's graph (layer 13): a new graph.
-/
import Derived.Test.YtcdllelbdcacjaaRGraph11
set_option linter.unusedVariables false
set_option linter.unusedSimpArgs false
namespace Go.Proofs.Ytcdllelbdcacjaa.R
open Go.RowKit

theorem infoInt : (Try.prog.info? 3).map (fun i => (i.zero, i.size, i.bytes)) = some (some (.int .i64 0), 1, 8) := by kernel_rfl
theorem infoPtr : (Try.prog.info? 36).map (fun i => (i.zero, i.size, i.bytes)) = some (some (.pointer none), 1, 8) := by kernel_rfl

theorem graph_empty (w : World) (p max bound n dn : Nat) (b0 : w.cell? ⟨p, 0, none⟩ = some (.int .i64 max)) (b1 : w.cell? ⟨p, 1, none⟩ = some (.slice none 0 0)) (b2 : w.cell? ⟨p, 2, none⟩ = some (.slice none 0 0))
    (b3 : w.cell? ⟨p, 3, none⟩ = some (.slice (some ⟨dn, 0, none⟩) n n)) (hr : w.rowIs dn 3 n (fun _ => .int .i64 0)) (hpd : p ≠ dn) (hn : n ≤ 64)
    (f1 : w.frozen? ⟨p, 1, none⟩ = false) (f2 : w.frozen? ⟨p, 2, none⟩ = false) (hm : max ≤ 1048576) (S R D : Nat → Nat) (sv : Nat → Value) :
    GAt n w ⟨p, .slice none 0 0, dn, S, sv, .slice none 0 0, R, D⟩ (GS.fresh max bound 0) :=
  { mx := b0, obs := b1, ths := b2, fz1 := f1, fz2 := f2
    thr := ⟨[], World.ownsRow_nil _ _ _ _, fun t ht => absurd ht (Nat.not_lt_zero t)⟩
    dns := b3
    dnl := ⟨Nat.zero_le _, hn⟩
    dnr := hr
    stk := fun t ht => absurd ht (Nat.not_lt_zero t)
    obj := ⟨[], World.ownsRow_nil _ _ _ _, fun t ht => absurd ht (Nat.not_lt_zero t)⟩
    rfs := fun t ht => absurd ht (Nat.not_lt_zero t)
    dts := fun t ht => absurd ht (Nat.not_lt_zero t)
    inj := fun a c k ha hc => by cases a <;> cases c <;> simp [GB.blk, GS.fresh, Value.ownBlock] at ha hc ⊢ <;> omega
    okS := fun t ht => absurd ht (Nat.not_lt_zero t)
    okR := fun t ht => absurd ht (Nat.not_lt_zero t)
    small := fun t ht => absurd ht (Nat.not_lt_zero t)
    mmax := hm, n64 := by simp [GS.fresh], objs := by simp [GS.fresh] }

theorem one_lies {w : World} {v : Value} {T : TypeId} {n : Nat} (hn : w.heap.size = n) : ∀ (j : Nat) (u : Value), [v][j]? = some u → (w.alloc (.cells #[v] T)).cell? ((⟨n, 0, none⟩ : Addr).add j) = some u := by
  intro j u hj
  match j, hj with
  | 0, hj => simp at hj; subst hj; exact one_new hn

set_option maxRecDepth 100000 in
set_option maxHeartbeats 2000000 in
theorem graph_new (w : World) (n bound max : Nat) (h1 : 1 ≤ n) (h2 : n ≤ 64) (h3 : 1 ≤ bound) (h4 : bound ≤ 64) (h5 : 1 ≤ max) (h6 : max ≤ 1048576) :
    Calls Try.prog 28 #[.int .i64 n, .int .i64 bound, .int .i64 max] w fun e w' => ∃ b, e = .returned (.tuple #[.pointer (some ⟨b.p, 0, none⟩), .int .i64 0]) ∧ GAt n w' b (GS.fresh max bound n) ∧ Below w.heap.size w w' ∧ ∀ k, b.has n 0 k → w.heap.size ≤ k := by
  obtain ⟨i0, hi, hz0, hz1, hz2⟩ := info_parts infoPtr
  have hmk := run_make_row' (P := Try.prog) 89 3 (.int .i64 0) 8 Try.underlying89 infoInt rfl .i64 .i64 n (by omega) (by omega)
  obtain ⟨B, hB⟩ : ∃ B : Nat, B = w.heap.size := ⟨_, rfl⟩
  have HB := hid hB
  rw [← hB]
  clear hB
  have c1 : (1 : Int) ≤ (n : Int) := by omega
  have c2 : (n : Int) ≤ 64 := by omega
  have c3 : (1 : Int) ≤ (bound : Int) := by omega
  have c4 : (bound : Int) ≤ 64 := by omega
  have c5 : (1 : Int) ≤ (max : Int) := by omega
  have c6 : (max : Int) ≤ 1048576 := by omega
  go_enter Try.func28, Try.ntmps28
  go_wp2_with fail
  go_loopw [9] (fun i wr => ∃ (k : Nat) (bk : GB), k ≤ n ∧ i = .int .i64 k ∧ bk.p = w.heap.size + 1 ∧ bk.dn = w.heap.size ∧ GAt n wr bk (GS.fresh max bound k) ∧ Below B w wr ∧ ∀ x, bk.has k 0 x → B ≤ x) (fun i _ => n - (intOf i).toNat)
  case atStart =>
    refine ⟨0, ⟨w.heap.size + 1, .slice none 0 0, w.heap.size, fun _ => 0, fun _ => .slice none 0 0, .slice none 0 0, fun _ => 0, fun _ => 0⟩, by omega, rfl, rfl, rfl, graph_empty _ _ _ _ _ _ (by go_simp) (by go_simp) (by go_simp) (by go_simp) ?_ (by omega) h2 (by go_simp) (by go_simp) h6 _ _ _ _, ?_, ?_⟩
    · refine ⟨_, two_heap0, size_madeCells _ _, fun j hj => ?_⟩
      simp [madeCells, hj, Nat.mod_one]
    · have := HB.out
      (repeat (first | exact Below.refl _ _ | apply bel_drewN.2 | apply bel_drew.2 | refine Below.setCell ?_ (by first | omega | (simp; done) | (simp; omega)) _ | refine Below.alloc ?_ (by first | omega | (simp; done) | (simp; omega)) _ | refine bel_step (by assumption) (by first | omega | (simp; done) | (simp; omega)) ?_))
    · rintro x ⟨a, ha⟩
      have := HB.out
      cases a <;> simp [GB.blk, Value.ownBlock] at ha <;> omega
  case round =>
    obtain ⟨k, bk, hk, rfl, hp, hpd, hg, hbw, hnew⟩ := hrel
    have HG := hid hg
    have HW := hid hbw
    have HN := hid hnew
    have HP := hid hp
    have HPD := hid hpd
    have hsz : B ≤ wr.heap.size := by have := hbw.size; have := HB.out; omega
    have g2 := hg.ths
    have g3 := hg.fz2
    have hpl := hg.lt .p bk.p rfl
    rw [hp] at g2 g3 hpl
    obtain ⟨T, hT1, hT2⟩ := hg.thr
    have HT1 := hid hT1
    have HT2 := hid hT2
    have hTl : T.length = k := by have h9 : T.length = k * 1 := hT1.1; omega
    clear hg hbw hnew hp hpd hT1 hT2
    by_cases hlt : k < n
    · have hlt' : (k : Int) < (n : Int) := by omega
      have HRN := hid (rroots_new bound wr h3 h4)
      have hpl1 : w.heap.size + 1 < wr.heap.size + 1 := by omega
      go_wp2_with (first
        | (go_at_call 15; refine HRN.out.mono ?_; rintro e w1 ⟨rfl, rfl⟩)
        | (at_builtin; refine wpList_append_lies _ rfl _ _ 91 rfl 0 36 i0 (.pointer none) 1 8 Try.underlying91 hi hz0 hz1 hz2 rfl (by decide) _ _ _ rfl ((HT1.out.alloc _).alloc _) ⟨wr.heap.size + 1, 0, none⟩ 1 1 [.pointer (some ⟨wr.heap.size, 0, none⟩)] rfl rfl ?c1 ?c2 (by decide) ?c3 ?c4 (Nat.zero_le _) _ rfl ?_))
      case c1 => exact one_lies (by simp)
      case c2 => intro u hu; simp at hu; subst hu; rfl
      case c3 => show k + 1 ≤ maxLen; unfold maxLen; omega
      case c4 => show (k + 1) * 8 ≤ _; omega
      intro g5 cap5 w5 hown5 hgrow5 hat5 hlt5
      have hc5 : Chg (fun x => bk.tv.ownBlock = some x) wr w5 := Chg.grown (by (repeat (first | with_reducible exact Chg.refl _ _ | with_reducible apply Chg.drewN | with_reducible apply Chg.drew | with_reducible apply Chg.alloc | (with_reducible refine Chg.setCell ?_ ?_ _; rotate_left; focus (first | (refine Or.inr ?_; first | omega | (simp; done) | (simp; omega)) | exact Or.inl (by assumption) | with_reducible exact Or.inl rfl | exact Or.inl (by simp))) | refine Chg.trans ?_ (Chg.of_below (by with_reducible assumption) (fun k h1 h2 => absurd h1 (by first | omega | (simp; omega)))) | refine Chg.trans ?_ (by with_reducible assumption)))) hgrow5 (fun x hx => .inl hx)
      have hoff : ¬ bk.tv.ownBlock = some (w.heap.size + 1) := fun e => by
        have := HG.out.inj .p .th (w.heap.size + 1) (by show some bk.p = _; rw [HP.out]) e
        cases this
      have hst0 : StackAt ((wr.alloc (.cells #[.int .i64 bound, .slice none 0 0] 51)).alloc (.cells #[.pointer (some ⟨wr.heap.size, 0, none⟩)] 36)) wr.heap.size (.slice none 0 0) bound [] :=
        (stack_new bound wr h4 51).chg ((Chg.refl (fun _ => False) _).alloc _) (by simp) (by simp)
      have hst : StackAt w5 wr.heap.size (.slice none 0 0) bound [] := hst0.chg (Chg.grown (S := fun x => bk.tv.ownBlock = some x) (Chg.refl _ _) hgrow5 (fun x hx => .inl hx)) (fun e => by have := (HT1.out.lt _ e).2; omega) (fun x hx => by simp [Value.ownBlock] at hx)
      have e1 := (hc5.cell (o := 2) hpl hoff).trans g2
      have e2 := (hc5.frozen (o := 2) hpl hoff).trans g3
      have HC5 := hid hc5
      have HO5 := hid hown5
      have HA5 := hid hat5
      have HS5 := hid hst
      clear hc5 hown5 hgrow5 hat5 hst hst0 hoff
      go_wp2_with fail
      go_roundw
      case rel =>
        have hov : ∀ x, (Value.slice (some ⟨g5, 0, none⟩) (k + 1) cap5).ownBlock = some x → bk.tv.ownBlock = some x ∨ (wr.heap.size ≤ x ∧ x ≠ wr.heap.size) := fun x hx => by
          have e : g5 = x := by simpa [Value.ownBlock] using hx
          subst e
          rcases HA5.out with h | h
          · exact .inl h
          · exact .inr (by omega)
        have hga := HG.out.addThr (.slice (some ⟨g5, 0, none⟩) (k + 1) cap5) wr.heap.size T HC5.out HT1.out HT2.out HO5.out hov HS5.out (Nat.le_refl _) (show k + 1 ≤ n by omega)
        have e3 : ({ GS.fresh max bound k with n := (GS.fresh max bound k).n + 1, st := upd (GS.fresh max bound k).st (GS.fresh max bound k).n [] } : GS) = GS.fresh max bound (k + 1) := by
          unfold GS.fresh
          simp only [upd_const]
        rw [e3, HP.out] at hga
        have hB := HB.out
        have hbl : Below B w (w5.setCell ⟨w.heap.size + 1, 2, none⟩ (.slice (some ⟨g5, 0, none⟩) (k + 1) cap5)) :=
          Below.setCell (HC5.out.below HW.out (fun x _ hx => HN.out x ⟨.th, hx⟩) hsz) (by show B ≤ w.heap.size + 1; omega) _
        refine ⟨k + 1, { p := w.heap.size + 1, tv := .slice (some ⟨g5, 0, none⟩) (k + 1) cap5, dn := bk.dn, S := upd bk.S k wr.heap.size, sv := upd bk.sv k (.slice none 0 0), ov := bk.ov, R := bk.R, D := bk.D }, by omega, by go_num, rfl, HPD.out, hga, hbl, ?_⟩
        rintro x ⟨a, ha⟩
        cases a with
        | dn => exact HN.out x ⟨.dn, ha⟩
        | p => exact HN.out x ⟨.p, by show some bk.p = _; rw [HP.out]; exact ha⟩
        | ob => exact HN.out x ⟨.ob, ha⟩
        | th =>
          rcases hov x ha with h | h
          · exact HN.out x ⟨.th, h⟩
          · omega
        | st s =>
          have ha' : (if s < k + 1 then some (upd bk.S k wr.heap.size s) else none) = some x := ha
          split at ha'
          · injection ha' with ha'
            by_cases e : s = k
            · subst e; rw [upd_same] at ha'; omega
            · rw [upd_other _ _ e] at ha'
              exact HN.out x ⟨.st s, by show (if s < k then some (bk.S s) else none) = some x; rw [if_pos (by omega), ha']⟩
          · cases ha'
        | ls s =>
          have ha' : (if s < k + 1 then (upd bk.sv k (.slice none 0 0) s).ownBlock else none) = some x := ha
          split at ha'
          · by_cases e : s = k
            · subst e; rw [upd_same] at ha'; simp [Value.ownBlock] at ha'
            · rw [upd_other _ _ e] at ha'
              exact HN.out x ⟨.ls s, by show (if s < k then (bk.sv s).ownBlock else none) = some x; rw [if_pos (by omega), ha']⟩
          · cases ha'
        | rf s => simp [GB.blk] at ha
        | dt s => simp [GB.blk] at ha
      case measure => simp [intOf]; omega
    · obtain rfl : k = n := by omega
      go_wp2_with fail
      go_ret2
      exact ⟨bk, by rw [HP.out]; rfl, HG.out, HW.out, HN.out⟩

set_option maxRecDepth 100000 in
set_option maxHeartbeats 2000000 in
theorem graph_new_bad (w : World) (n bound max : Int) (hx : n < 1 ∨ 64 < n ∨ bound < 1 ∨ 64 < bound ∨ max < 1 ∨ 1048576 < max) :
    Calls Try.prog 28 #[.int .i64 n, .int .i64 bound, .int .i64 max] w fun e w' => e = .returned (.tuple #[.pointer none, .int .i64 2]) ∧ w = w' := by
  by_cases c1 : n < 1
  · clear hx
    go_enter Try.func28, Try.ntmps28
    go_wp2
    go_ret2
    exact ⟨rfl, rfl⟩
  have d1 : 1 ≤ n := by omega
  by_cases c2 : 64 < n
  · clear hx
    go_enter Try.func28, Try.ntmps28
    go_wp2
    go_ret2
    exact ⟨rfl, rfl⟩
  have d2 : n ≤ 64 := by omega
  by_cases c3 : bound < 1
  · clear hx
    go_enter Try.func28, Try.ntmps28
    go_wp2
    go_ret2
    exact ⟨rfl, rfl⟩
  have d3 : 1 ≤ bound := by omega
  by_cases c4 : 64 < bound
  · clear hx
    go_enter Try.func28, Try.ntmps28
    go_wp2
    go_ret2
    exact ⟨rfl, rfl⟩
  have d4 : bound ≤ 64 := by omega
  by_cases c5 : max < 1
  · clear hx
    go_enter Try.func28, Try.ntmps28
    go_wp2
    go_ret2
    exact ⟨rfl, rfl⟩
  have d5 : 1 ≤ max := by omega
  have d6 : 1048576 < max := by omega
  clear hx
  go_enter Try.func28, Try.ntmps28
  go_wp2
  go_ret2
  exact ⟨rfl, rfl⟩
end Go.Proofs.Ytcdllelbdcacjaa.R
