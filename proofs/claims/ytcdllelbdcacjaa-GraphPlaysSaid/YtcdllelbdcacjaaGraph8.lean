/-
  Graphs (layer 13): an operation: words, handles that are doubled or sent.
-/
import Derived.Test.YtcdllelbdcacjaaGraph7
set_option linter.unusedVariables false
set_option linter.unusedSimpArgs false
namespace Go.Proofs.Ytcdllelbdcacjaa
open Go.RowKit

section
variable (w : World) (b : GB) (g : GS) (t : Nat) (x y z v : Int) (h : GAt w b g) (ht : t < g.n)
include h ht

set_option maxRecDepth 100000 in
set_option maxHeartbeats 4000000 in
theorem act_4  : Calls Try.prog 38 #[.pointer (some ⟨b.p, 0, none⟩), .pointer (some ⟨b.S t, 0, none⟩), .agg #[.int .i64 4, .int .i64 x, .int .i64 y, .int .i64 z, .int .u64 v]] w (ActPost w b g (g.act t ⟨4, x, y, z, v⟩)) := by
  have hgq := hid (h.quiet ((Chg.refl _ w).alloc (.cells #[.int .i64 4, .int .i64 x, .int .i64 y, .int .i64 z, .int .u64 v] 67)))
  have H := hid h
  by_cases h1 : refAt (g.st t) x = 0
  · have HG := hid (gat_out _ b g t x hgq.out ht h1)
    rcases codeAt_cases (g.st t) x with ⟨p1, p2⟩ | ⟨p1, p2, p3⟩
    · have e0 : g.act t ⟨4, x, y, z, v⟩ = ⟨g, 0, false, 12⟩ := by simp [GS.act, GS.read, p2, h1]
      rw [e0]
      rw [p2, if_neg (by decide)] at HG
      clear h e0 p2 h1
      go_enter Try.func38, Try.ntmps38
      go_wp2_with (go_at_call 46; refine HG.out.mono ?_; rintro e w1 ⟨rfl, hc1⟩)
      refine bodyPost_ret (v := .tuple #[.int .u64 0, .bool false, .int .i64 12]) (by simp [results, Try.results38, go_sem]) rfl ⟨rfl, ?_⟩
      exact ⟨b, Step.refl H.out (by (repeat (first | with_reducible exact Chg.refl _ _ | with_reducible apply Chg.drewN | with_reducible apply Chg.drew | with_reducible apply Chg.alloc | (with_reducible refine Chg.setCell ?_ ?_ _; rotate_left; focus (first | (refine Or.inr ?_; first | omega | (simp; done) | (simp; omega)) | exact Or.inl (by assumption) | with_reducible exact Or.inl rfl | exact Or.inl (by simp))) | refine Chg.trans ?_ (Chg.of_below (by with_reducible assumption) (fun k h1 h2 => absurd h1 (by first | omega | (simp; omega)))) | refine Chg.trans ?_ (by with_reducible assumption))))⟩
    · have e0 : g.act t ⟨4, x, y, z, v⟩ = ⟨g, 0, false, 10⟩ := by simp [GS.act, GS.read, p2]
      rw [e0]
      rw [p2, if_pos rfl] at HG
      clear h e0 p2 h1 p3
      go_enter Try.func38, Try.ntmps38
      go_wp2_with (go_at_call 46; refine HG.out.mono ?_; rintro e w1 ⟨rfl, hc1⟩)
      refine bodyPost_ret (v := .tuple #[.int .u64 0, .bool false, .int .i64 10]) (by simp [results, Try.results38, go_sem]) rfl ⟨rfl, ?_⟩
      exact ⟨b, Step.refl H.out (by (repeat (first | with_reducible exact Chg.refl _ _ | with_reducible apply Chg.drewN | with_reducible apply Chg.drew | with_reducible apply Chg.alloc | (with_reducible refine Chg.setCell ?_ ?_ _; rotate_left; focus (first | (refine Or.inr ?_; first | omega | (simp; done) | (simp; omega)) | exact Or.inl (by assumption) | with_reducible exact Or.inl rfl | exact Or.inl (by simp))) | refine Chg.trans ?_ (Chg.of_below (by with_reducible assumption) (fun k h1 h2 => absurd h1 (by first | omega | (simp; omega)))) | refine Chg.trans ?_ (by with_reducible assumption))))⟩
  · obtain ⟨i, hi, hie, hG⟩ := gat_obj _ b g t x hgq.out ht h1
    have HG := hid hG
    have hne : ¬ codeAt (g.st t) x = 10 := by
      rcases codeAt_cases (g.st t) x with ⟨_, h⟩ | ⟨_, _, h⟩
      · rw [h]; decide
      · exact absurd h h1
    have hF := fun w' => fdata_gen w' (b.D i) (g.dt i).length y (h.small i hi).2
    by_cases hb : InL (g.dt i).length y
    · have e0 : g.act t ⟨4, x, y, z, v⟩ = ⟨g, (g.dt i).getD y.toNat 0, false, 0⟩ := by simp [GS.act, GS.read, hne, h1, hie, hb]
      rw [e0]
      simp only [if_pos hb] at hF
      obtain ⟨j, rfl, hj⟩ := inL_nat hb
      rw [Int.toNat_natCast] at hF ⊢
      have HF := hid hF
      have hcell := (h.dts i hi).cell hj
      have hD : b.D i < w.heap.size := (h.dts i hi).lt
      generalize (g.dt i).getD j 0 = r at hcell ⊢
      clear h e0 hb hF hG hne h1
      go_enter Try.func38, Try.ntmps38
      go_wp2_with (first
        | (go_at_call 46; refine HG.out.mono ?_; rintro e w1 ⟨rfl, hc1⟩; obtain ⟨o0, o1, o2, o3, o4, o5⟩ := op_cells hc1; have hq2 := (hc1.cell (b := b.D i) (o := j) (by simp; omega) (by simp)).trans ((World.cell?_alloc_lt w _ ⟨b.D i, j, none⟩ hD).trans hcell); have hD1 : b.D i < w1.heap.size := (by omega))
        | (go_at_call 47; refine (HF.out _).mono ?_; rintro e w' ⟨rfl, rfl⟩))
      refine bodyPost_ret (v := .tuple #[.int .u64 r, .bool false, .int .i64 0]) (by simp [results, Try.results38, go_sem]) rfl ⟨rfl, ?_⟩
      exact ⟨b, Step.refl H.out (by (repeat (first | with_reducible exact hc1.alloc | with_reducible exact Chg.refl _ _ | with_reducible apply Chg.drewN | with_reducible apply Chg.drew | with_reducible apply Chg.alloc | (with_reducible refine Chg.setCell ?_ ?_ _; rotate_left; focus (first | (refine Or.inr ?_; first | omega | (simp; done) | (simp; omega)) | exact Or.inl (by assumption) | with_reducible exact Or.inl rfl | exact Or.inl (by simp))) | refine Chg.trans ?_ (Chg.of_below (by with_reducible assumption) (fun k h1 h2 => absurd h1 (by first | omega | (simp; omega)))) | refine Chg.trans ?_ (by with_reducible assumption))))⟩
    · have e0 : g.act t ⟨4, x, y, z, v⟩ = ⟨g, 0, false, 11⟩ := by simp [GS.act, GS.read, hne, h1, hie, hb]
      rw [e0]
      simp only [if_neg hb] at hF
      have HF := hid hF
      clear h e0 hb hF hG hne h1
      go_enter Try.func38, Try.ntmps38
      go_wp2_with (first
        | (go_at_call 46; refine HG.out.mono ?_; rintro e w1 ⟨rfl, hc1⟩; obtain ⟨o0, o1, o2, o3, o4, o5⟩ := op_cells hc1)
        | (go_at_call 47; refine (HF.out _).mono ?_; rintro e w' ⟨rfl, rfl⟩))
      refine bodyPost_ret (v := .tuple #[.int .u64 0, .bool false, .int .i64 11]) (by simp [results, Try.results38, go_sem]) rfl ⟨rfl, ?_⟩
      exact ⟨b, Step.refl H.out (by (repeat (first | with_reducible exact hc1.alloc | with_reducible exact Chg.refl _ _ | with_reducible apply Chg.drewN | with_reducible apply Chg.drew | with_reducible apply Chg.alloc | (with_reducible refine Chg.setCell ?_ ?_ _; rotate_left; focus (first | (refine Or.inr ?_; first | omega | (simp; done) | (simp; omega)) | exact Or.inl (by assumption) | with_reducible exact Or.inl rfl | exact Or.inl (by simp))) | refine Chg.trans ?_ (Chg.of_below (by with_reducible assumption) (fun k h1 h2 => absurd h1 (by first | omega | (simp; omega)))) | refine Chg.trans ?_ (by with_reducible assumption))))⟩

set_option maxRecDepth 100000 in
set_option maxHeartbeats 4000000 in
theorem act_5  : Calls Try.prog 38 #[.pointer (some ⟨b.p, 0, none⟩), .pointer (some ⟨b.S t, 0, none⟩), .agg #[.int .i64 5, .int .i64 x, .int .i64 y, .int .i64 z, .int .u64 v]] w (ActPost w b g (g.act t ⟨5, x, y, z, v⟩)) := by
  have hgq := hid (h.quiet ((Chg.refl _ w).alloc (.cells #[.int .i64 5, .int .i64 x, .int .i64 y, .int .i64 z, .int .u64 v] 67)))
  have H := hid h
  by_cases h1 : refAt (g.st t) x = 0
  · have HG := hid (gat_out _ b g t x hgq.out ht h1)
    rcases codeAt_cases (g.st t) x with ⟨p1, p2⟩ | ⟨p1, p2, p3⟩
    · have e0 : g.act t ⟨5, x, y, z, v⟩ = ⟨g, 0, false, 12⟩ := by simp [GS.act, GS.write, p2, h1]
      rw [e0]
      rw [p2, if_neg (by decide)] at HG
      clear h e0 p2 h1
      go_enter Try.func38, Try.ntmps38
      go_wp2_with (go_at_call 46; refine HG.out.mono ?_; rintro e w1 ⟨rfl, hc1⟩)
      refine bodyPost_ret (v := .tuple #[.int .u64 0, .bool false, .int .i64 12]) (by simp [results, Try.results38, go_sem]) rfl ⟨rfl, ?_⟩
      exact ⟨b, Step.refl H.out (by (repeat (first | with_reducible exact Chg.refl _ _ | with_reducible apply Chg.drewN | with_reducible apply Chg.drew | with_reducible apply Chg.alloc | (with_reducible refine Chg.setCell ?_ ?_ _; rotate_left; focus (first | (refine Or.inr ?_; first | omega | (simp; done) | (simp; omega)) | exact Or.inl (by assumption) | with_reducible exact Or.inl rfl | exact Or.inl (by simp))) | refine Chg.trans ?_ (Chg.of_below (by with_reducible assumption) (fun k h1 h2 => absurd h1 (by first | omega | (simp; omega)))) | refine Chg.trans ?_ (by with_reducible assumption))))⟩
    · have e0 : g.act t ⟨5, x, y, z, v⟩ = ⟨g, 0, false, 10⟩ := by simp [GS.act, GS.write, p2]
      rw [e0]
      rw [p2, if_pos rfl] at HG
      clear h e0 p2 h1 p3
      go_enter Try.func38, Try.ntmps38
      go_wp2_with (go_at_call 46; refine HG.out.mono ?_; rintro e w1 ⟨rfl, hc1⟩)
      refine bodyPost_ret (v := .tuple #[.int .u64 0, .bool false, .int .i64 10]) (by simp [results, Try.results38, go_sem]) rfl ⟨rfl, ?_⟩
      exact ⟨b, Step.refl H.out (by (repeat (first | with_reducible exact Chg.refl _ _ | with_reducible apply Chg.drewN | with_reducible apply Chg.drew | with_reducible apply Chg.alloc | (with_reducible refine Chg.setCell ?_ ?_ _; rotate_left; focus (first | (refine Or.inr ?_; first | omega | (simp; done) | (simp; omega)) | exact Or.inl (by assumption) | with_reducible exact Or.inl rfl | exact Or.inl (by simp))) | refine Chg.trans ?_ (Chg.of_below (by with_reducible assumption) (fun k h1 h2 => absurd h1 (by first | omega | (simp; omega)))) | refine Chg.trans ?_ (by with_reducible assumption))))⟩
  · obtain ⟨i, hi, hie, hG⟩ := gat_obj _ b g t x hgq.out ht h1
    have HG := hid hG
    have hne : ¬ codeAt (g.st t) x = 10 := by
      rcases codeAt_cases (g.st t) x with ⟨_, h⟩ | ⟨_, _, h⟩
      · rw [h]; decide
      · exact absurd h h1
    have hF := fun w' => fdata_gen w' (b.D i) (g.dt i).length y (h.small i hi).2
    by_cases hb : InL (g.dt i).length y
    · have e0 : g.act t ⟨5, x, y, z, v⟩ = ⟨{ g with dt := upd g.dt i ((g.dt i).set y.toNat v) }, 0, false, 0⟩ := by simp [GS.act, GS.write, hne, h1, hie, hb]
      rw [e0]
      simp only [if_pos hb] at hF
      obtain ⟨j, rfl, hj⟩ := inL_nat hb
      rw [Int.toNat_natCast] at hF ⊢
      have HF := hid hF
      have hcell := (h.dts i hi).cell hj
      have hfz := (h.dts i hi).frozen j
      have hD : b.D i < w.heap.size := (h.dts i hi).lt
      clear h e0 hb hF hG hne h1
      go_enter Try.func38, Try.ntmps38
      go_wp2_with (first
        | (go_at_call 46; refine HG.out.mono ?_; rintro e w1 ⟨rfl, hc1⟩; obtain ⟨o0, o1, o2, o3, o4, o5⟩ := op_cells hc1; have hq2 := (hc1.cell (b := b.D i) (o := j) (by simp; omega) (by simp)).trans ((World.cell?_alloc_lt w _ ⟨b.D i, j, none⟩ hD).trans hcell); have hq3 := (hc1.frozen (b := b.D i) (o := j) (by simp; omega) (by simp)).trans ((((Chg.refl (fun _ => False) w).alloc _).frozen hD (by simp)).trans hfz); have hD1 : b.D i < w1.heap.size := (by omega))
        | (go_at_call 47; refine (HF.out _).mono ?_; rintro e w' ⟨rfl, rfl⟩))
      refine bodyPost_ret (v := .tuple #[.int .u64 0, .bool false, .int .i64 0]) (by simp [results, Try.results38, go_sem]) rfl ⟨rfl, ?_⟩
      have hst := Step.refl (w' := w1) H.out (by (repeat (first | with_reducible exact Chg.refl _ _ | with_reducible apply Chg.drewN | with_reducible apply Chg.drew | with_reducible apply Chg.alloc | (with_reducible refine Chg.setCell ?_ ?_ _; rotate_left; focus (first | (refine Or.inr ?_; first | omega | (simp; done) | (simp; omega)) | exact Or.inl (by assumption) | with_reducible exact Or.inl rfl | exact Or.inl (by simp))) | refine Chg.trans ?_ (Chg.of_below (by with_reducible assumption) (fun k h1 h2 => absurd h1 (by first | omega | (simp; omega)))) | refine Chg.trans ?_ (by with_reducible assumption))))
      exact ⟨b, (hst.trans (step_setData hst.at_ i j v hi hj)).quiet ((Chg.refl _ _).alloc _)⟩
    · have e0 : g.act t ⟨5, x, y, z, v⟩ = ⟨g, 0, false, 11⟩ := by simp [GS.act, GS.write, hne, h1, hie, hb]
      rw [e0]
      simp only [if_neg hb] at hF
      have HF := hid hF
      clear h e0 hb hF hG hne h1
      go_enter Try.func38, Try.ntmps38
      go_wp2_with (first
        | (go_at_call 46; refine HG.out.mono ?_; rintro e w1 ⟨rfl, hc1⟩; obtain ⟨o0, o1, o2, o3, o4, o5⟩ := op_cells hc1)
        | (go_at_call 47; refine (HF.out _).mono ?_; rintro e w' ⟨rfl, rfl⟩))
      refine bodyPost_ret (v := .tuple #[.int .u64 0, .bool false, .int .i64 11]) (by simp [results, Try.results38, go_sem]) rfl ⟨rfl, ?_⟩
      exact ⟨b, Step.refl H.out (by (repeat (first | with_reducible exact hc1.alloc | with_reducible exact Chg.refl _ _ | with_reducible apply Chg.drewN | with_reducible apply Chg.drew | with_reducible apply Chg.alloc | (with_reducible refine Chg.setCell ?_ ?_ _; rotate_left; focus (first | (refine Or.inr ?_; first | omega | (simp; done) | (simp; omega)) | exact Or.inl (by assumption) | with_reducible exact Or.inl rfl | exact Or.inl (by simp))) | refine Chg.trans ?_ (Chg.of_below (by with_reducible assumption) (fun k h1 h2 => absurd h1 (by first | omega | (simp; omega)))) | refine Chg.trans ?_ (by with_reducible assumption))))⟩

set_option maxRecDepth 100000 in
set_option maxHeartbeats 4000000 in
theorem act_8  : Calls Try.prog 38 #[.pointer (some ⟨b.p, 0, none⟩), .pointer (some ⟨b.S t, 0, none⟩), .agg #[.int .i64 8, .int .i64 x, .int .i64 y, .int .i64 z, .int .u64 v]] w (ActPost w b g (g.act t ⟨8, x, y, z, v⟩)) := by
  have hgq := hid (h.quiet ((Chg.refl _ w).alloc (.cells #[.int .i64 8, .int .i64 x, .int .i64 y, .int .i64 z, .int .u64 v] 67)))
  have H := hid h
  have hX := at_gen _ b g t x hgq.out ht
  have hxr := h.refAt_range ht x
  rcases codeAt_cases (g.st t) x with ⟨p1, p2⟩ | ⟨p1, p2, p3⟩
  rotate_left
  · have e0 : g.act t ⟨8, x, y, z, v⟩ = ⟨g, 0, false, 10⟩ := by simp [GS.act, GS.dup, p2]
    rw [e0]
    rw [p2] at hX
    have HX := hid hX
    clear h e0 hX p2 p3 hxr
    go_enter Try.func38, Try.ntmps38
    go_wp2_with (go_at_call 17; refine HX.out.mono ?_; rintro e w1 ⟨rfl, rfl⟩)
    refine bodyPost_ret (v := .tuple #[.int .u64 0, .bool false, .int .i64 10]) (by simp [results, Try.results38, go_sem]) rfl ⟨rfl, ?_⟩
    exact ⟨b, Step.refl H.out (by (repeat (first | with_reducible exact Chg.refl _ _ | with_reducible apply Chg.drewN | with_reducible apply Chg.drew | with_reducible apply Chg.alloc | (with_reducible refine Chg.setCell ?_ ?_ _; rotate_left; focus (first | (refine Or.inr ?_; first | omega | (simp; done) | (simp; omega)) | exact Or.inl (by assumption) | with_reducible exact Or.inl rfl | exact Or.inl (by simp))) | refine Chg.trans ?_ (Chg.of_below (by with_reducible assumption) (fun k h1 h2 => absurd h1 (by first | omega | (simp; omega)))) | refine Chg.trans ?_ (by with_reducible assumption))))⟩
  rw [p2] at hX
  have HX := hid hX
  have e0 : g.act t ⟨8, x, y, z, v⟩ = ⟨(g.push t (refAt (g.st t) x)).1, 0, false, (g.push t (refAt (g.st t) x)).2⟩ := by simp [GS.act, GS.dup, p2]
  rw [e0]
  clear h e0 hX p2
  revert hxr HX
  generalize refAt (g.st t) x = r
  intro hxr HX
  go_enter Try.func38, Try.ntmps38
  go_upto_region 28 with (go_at_call 17; refine HX.out.mono ?_; rintro e w1 ⟨rfl, rfl⟩)
  go_quiet (fail)
  go_wp2_with (go_at_call 12; refine (push_gen _ b g t r (H.out.quiet (by (repeat (first | with_reducible exact Chg.refl _ _ | with_reducible apply Chg.drewN | with_reducible apply Chg.drew | with_reducible apply Chg.alloc | (with_reducible refine Chg.setCell ?_ ?_ _; rotate_left; focus (first | (refine Or.inr ?_; first | omega | (simp; done) | (simp; omega)) | exact Or.inl (by assumption) | with_reducible exact Or.inl rfl | exact Or.inl (by simp))) | refine Chg.trans ?_ (Chg.of_below (by with_reducible assumption) (fun k h1 h2 => absurd h1 (by first | omega | (simp; omega)))) | refine Chg.trans ?_ (by with_reducible assumption))))) ht hxr).mono ?_; rintro e w7 ⟨rfl, b7, hst7⟩)
  refine bodyPost_ret (v := .tuple #[.int .u64 0, .bool false, .int .i64 (g.push t r).2]) (by simp [results, Try.results38, go_sem]) rfl ⟨rfl, ?_⟩
  exact ⟨b7, (Step.refl H.out (by (repeat (first | with_reducible exact Chg.refl _ _ | with_reducible apply Chg.drewN | with_reducible apply Chg.drew | with_reducible apply Chg.alloc | (with_reducible refine Chg.setCell ?_ ?_ _; rotate_left; focus (first | (refine Or.inr ?_; first | omega | (simp; done) | (simp; omega)) | exact Or.inl (by assumption) | with_reducible exact Or.inl rfl | exact Or.inl (by simp))) | refine Chg.trans ?_ (Chg.of_below (by with_reducible assumption) (fun k h1 h2 => absurd h1 (by first | omega | (simp; omega)))) | refine Chg.trans ?_ (by with_reducible assumption))))).trans hst7⟩

set_option maxRecDepth 100000 in
set_option maxHeartbeats 4000000 in
theorem act_13  : Calls Try.prog 38 #[.pointer (some ⟨b.p, 0, none⟩), .pointer (some ⟨b.S t, 0, none⟩), .agg #[.int .i64 13, .int .i64 x, .int .i64 y, .int .i64 z, .int .u64 v]] w (ActPost w b g (g.act t ⟨13, x, y, z, v⟩)) := by
  have hgq := hid (h.quiet ((Chg.refl _ w).alloc (.cells #[.int .i64 13, .int .i64 x, .int .i64 y, .int .i64 z, .int .u64 v] 67)))
  have H := hid h
  have hX := at_gen _ b g t x hgq.out ht
  have hxr := h.refAt_range ht x
  rcases codeAt_cases (g.st t) x with ⟨p1, p2⟩ | ⟨p1, p2, p3⟩
  rotate_left
  · have e0 : g.act t ⟨13, x, y, z, v⟩ = ⟨g, 0, false, 10⟩ := by simp [GS.act, GS.send, p2]
    rw [e0]
    rw [p2] at hX
    have HX := hid hX
    clear h e0 hX p2 p3 hxr
    go_enter Try.func38, Try.ntmps38
    go_wp2_with (go_at_call 17; refine HX.out.mono ?_; rintro e w1 ⟨rfl, rfl⟩)
    refine bodyPost_ret (v := .tuple #[.int .u64 0, .bool false, .int .i64 10]) (by simp [results, Try.results38, go_sem]) rfl ⟨rfl, ?_⟩
    exact ⟨b, Step.refl H.out (by (repeat (first | with_reducible exact Chg.refl _ _ | with_reducible apply Chg.drewN | with_reducible apply Chg.drew | with_reducible apply Chg.alloc | (with_reducible refine Chg.setCell ?_ ?_ _; rotate_left; focus (first | (refine Or.inr ?_; first | omega | (simp; done) | (simp; omega)) | exact Or.inl (by assumption) | with_reducible exact Or.inl rfl | exact Or.inl (by simp))) | refine Chg.trans ?_ (Chg.of_below (by with_reducible assumption) (fun k h1 h2 => absurd h1 (by first | omega | (simp; omega)))) | refine Chg.trans ?_ (by with_reducible assumption))))⟩
  rw [p2] at hX
  have HX := hid hX
  obtain ⟨q, cap, hv, hq1, hq2, hq3, hq4, hq5⟩ := h.thrAt ht
  have hths := h.ths
  rw [hv] at hths
  have hpl := h.lt .p b.p rfl
  have hn := h.n64
  have hnn : ((g.n : Int)) ≤ 64 := by omega
  by_cases hy : InL g.n y
  · obtain ⟨s, rfl, hs⟩ := inL_nat hy
    have e0 : g.act t ⟨13, x, (s : Int), z, v⟩ = ⟨(g.push s (refAt (g.st t) x)).1, 0, false, (g.push s (refAt (g.st t) x)).2⟩ := by simp [GS.act, GS.send, p2, hy]
    rw [e0]
    obtain ⟨q', cap', hv', _, _, k3, _, _⟩ := h.thrAt hs
    rw [hv] at hv'
    injection hv' with hv' _ _
    injection hv' with hv'
    injection hv' with hv' _ _
    subst hv'
    have d1 : decide ((s : Int) < 0) = false := by simp
    have d2 : decide ((g.n : Int) ≤ (s : Int)) = false := by simp; omega
    have d3 : (s : Int) < (g.n : Int) := by omega
    clear h e0 hX p2 hy hv
    revert hxr HX
    generalize refAt (g.st t) x = r
    intro hxr HX
    go_enter Try.func38, Try.ntmps38
    go_upto_region 28 with (go_at_call 17; refine HX.out.mono ?_; rintro e w1 ⟨rfl, rfl⟩)
    go_quiet (fail)
    go_upto_region 32 with fail
    go_quiet (fail)
    go_wp2_with (go_at_call 12; refine (push_gen _ b g s r (H.out.quiet (by (repeat (first | with_reducible exact Chg.refl _ _ | with_reducible apply Chg.drewN | with_reducible apply Chg.drew | with_reducible apply Chg.alloc | (with_reducible refine Chg.setCell ?_ ?_ _; rotate_left; focus (first | (refine Or.inr ?_; first | omega | (simp; done) | (simp; omega)) | exact Or.inl (by assumption) | with_reducible exact Or.inl rfl | exact Or.inl (by simp))) | refine Chg.trans ?_ (Chg.of_below (by with_reducible assumption) (fun k h1 h2 => absurd h1 (by first | omega | (simp; omega)))) | refine Chg.trans ?_ (by with_reducible assumption))))) hs hxr).mono ?_; rintro e w7 ⟨rfl, b7, hst7⟩)
    refine bodyPost_ret (v := .tuple #[.int .u64 0, .bool false, .int .i64 (g.push s r).2]) (by simp [results, Try.results38, go_sem]) rfl ⟨rfl, ?_⟩
    exact ⟨b7, (Step.refl H.out (by (repeat (first | with_reducible exact Chg.refl _ _ | with_reducible apply Chg.drewN | with_reducible apply Chg.drew | with_reducible apply Chg.alloc | (with_reducible refine Chg.setCell ?_ ?_ _; rotate_left; focus (first | (refine Or.inr ?_; first | omega | (simp; done) | (simp; omega)) | exact Or.inl (by assumption) | with_reducible exact Or.inl rfl | exact Or.inl (by simp))) | refine Chg.trans ?_ (Chg.of_below (by with_reducible assumption) (fun k h1 h2 => absurd h1 (by first | omega | (simp; omega)))) | refine Chg.trans ?_ (by with_reducible assumption))))).trans hst7⟩
  · have e0 : g.act t ⟨13, x, y, z, v⟩ = ⟨g, 0, false, 2⟩ := by simp [GS.act, GS.send, p2, hy]
    rw [e0]
    by_cases hy0 : y < 0
    · have d1 : decide (y < 0) = true := by simpa using hy0
      clear h e0 hX p2 hy
      revert hxr HX
      generalize refAt (g.st t) x = r
      intro hxr HX
      go_enter Try.func38, Try.ntmps38
      go_upto_region 28 with (go_at_call 17; refine HX.out.mono ?_; rintro e w1 ⟨rfl, rfl⟩)
      go_quiet (fail)
      go_wp2
      refine bodyPost_ret (v := .tuple #[.int .u64 0, .bool false, .int .i64 2]) (by simp [results, Try.results38, go_sem]) rfl ⟨rfl, ?_⟩
      exact ⟨b, Step.refl H.out (by (repeat (first | with_reducible exact Chg.refl _ _ | with_reducible apply Chg.drewN | with_reducible apply Chg.drew | with_reducible apply Chg.alloc | (with_reducible refine Chg.setCell ?_ ?_ _; rotate_left; focus (first | (refine Or.inr ?_; first | omega | (simp; done) | (simp; omega)) | exact Or.inl (by assumption) | with_reducible exact Or.inl rfl | exact Or.inl (by simp))) | refine Chg.trans ?_ (Chg.of_below (by with_reducible assumption) (fun k h1 h2 => absurd h1 (by first | omega | (simp; omega)))) | refine Chg.trans ?_ (by with_reducible assumption))))⟩
    · have d1 : decide (y < 0) = false := by simpa using hy0
      have d0 : 0 ≤ y := by omega
      have d3 : (g.n : Int) ≤ y := by unfold InL at hy; omega
      have d2 : decide ((g.n : Int) ≤ y) = true := by simpa using d3
      clear h e0 hX p2 hy
      revert hxr HX
      generalize refAt (g.st t) x = r
      intro hxr HX
      go_enter Try.func38, Try.ntmps38
      go_upto_region 28 with (go_at_call 17; refine HX.out.mono ?_; rintro e w1 ⟨rfl, rfl⟩)
      go_quiet (fail)
      go_wp2
      refine bodyPost_ret (v := .tuple #[.int .u64 0, .bool false, .int .i64 2]) (by simp [results, Try.results38, go_sem]) rfl ⟨rfl, ?_⟩
      exact ⟨b, Step.refl H.out (by (repeat (first | with_reducible exact Chg.refl _ _ | with_reducible apply Chg.drewN | with_reducible apply Chg.drew | with_reducible apply Chg.alloc | (with_reducible refine Chg.setCell ?_ ?_ _; rotate_left; focus (first | (refine Or.inr ?_; first | omega | (simp; done) | (simp; omega)) | exact Or.inl (by assumption) | with_reducible exact Or.inl rfl | exact Or.inl (by simp))) | refine Chg.trans ?_ (Chg.of_below (by with_reducible assumption) (fun k h1 h2 => absurd h1 (by first | omega | (simp; omega)))) | refine Chg.trans ?_ (by with_reducible assumption))))⟩

end
end Go.Proofs.Ytcdllelbdcacjaa
