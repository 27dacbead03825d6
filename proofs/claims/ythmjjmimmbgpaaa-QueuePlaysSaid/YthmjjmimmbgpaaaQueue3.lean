/-
  Queues of cards (layer 10): a thread's list is full: its cards go over to the common list.
-/
import Derived.Test.YthmjjmimmbgpaaaQueue2
set_option linter.unusedVariables false
set_option linter.unusedSimpArgs false
namespace Go.Proofs.Ythmjjmimmbgpaaa
open Go.RowKit

theorem upd_upd {α : Type} (f : Nat → α) (t : Nat) (x y : α) : upd (upd f t x) t y = upd f t y := by
  funext s
  unfold upd
  by_cases h : s = t
  · rw [if_pos h, if_pos h]
  · rw [if_neg h, if_neg h, if_neg h]

/-- what stands behind the last two stores -/
theorem push_end {w w2 w3 : World} {p o n bound : Nat} {cv cv' tv gv : Value} {C l : List Int} {V : Nat → Value} {L : Nat → List Int} {t R : Nat} (HCC : Chg (QB p o n cv V) w w2) (HQ : QAt w2 p o n bound cv C (upd V t gv) (upd L t l)) (ht : t < n)
    (hc3 : Chg (fun b => cv.ownBlock = some b) w2 w3) (hs3 : Sl w3 0 3 cv' (cs (C ++ l.take R))) (hb3 : cv'.ownBlock = cv.ownBlock ∨ cv'.ownBlock = some w2.heap.size) (hR : (C ++ l.take R).length ≤ bound)
    (htv : Sl w2 0 3 tv (cs (l.drop R))) (htb : ∀ x, tv.ownBlock = some x → gv.ownBlock = some x) (hgb : ∀ x, gv.ownBlock = some x → (V t).ownBlock = some x ∨ w.heap.size ≤ x) :
    Chg (QB p o n cv V) w ((w3.setCell ⟨p, 1, none⟩ cv').setCell ⟨o, t, none⟩ (.slice none 0 0)) ∧ QAt ((w3.setCell ⟨p, 1, none⟩ cv').setCell ⟨o, t, none⟩ (.slice none 0 0)) p o n bound cv' (C ++ l.take R) (upd V t (.slice none 0 0)) (upd L t []) ∧
      (cv'.ownBlock = cv.ownBlock ∨ ∀ g, cv'.ownBlock = some g → w.heap.size ≤ g) ∧ Sl ((w3.setCell ⟨p, 1, none⟩ cv').setCell ⟨o, t, none⟩ (.slice none 0 0)) 0 3 tv (cs (l.drop R)) ∧
      ∀ g, tv.ownBlock = some g → ((V t).ownBlock = some g ∨ w.heap.size ≤ g) ∧ ¬ QB p o n cv' (upd V t (.slice none 0 0)) g := by
  have hsz := HCC.size
  have hq3 := HQ.recommon hc3 cv' _ hs3 hR (by
    rcases hb3 with h | h
    · exact .inl h
    · exact .inr (fun g hg => by rw [h] at hg; injection hg with hg; omega))
  have hq4 := hq3.relist t ht (Chg.refl _ _) (.slice none 0 0) [] (ownInts_nil _ _) (by simp [Value.ownBlock])
  rw [upd_upd, upd_upd] at hq4
  have gp : gv.ownBlock ≠ some p := by have := HQ.vp t ht; rwa [upd_same] at this
  have go : gv.ownBlock ≠ some o := by have := HQ.vo t ht; rwa [upd_same] at this
  have gc : ∀ g, gv.ownBlock = some g → cv.ownBlock ≠ some g := by have := HQ.vc t ht; rwa [upd_same] at this
  have gl : ∀ g, gv.ownBlock = some g → g < w2.heap.size := fun g hg => by have := HQ.lists t ht; rw [upd_same, upd_same] at this; exact (this.lt g hg).2
  refine ⟨?_, hq4, ?_, ?_, ?_⟩
  · have h3 : Chg (QB p o n cv V) w w3 := HCC.trans (hc3.mono (fun k _ hk => .inr (.inr (.inl hk))))
    exact (h3.setCell (.inl (.inl rfl)) _).setCell (.inl (.inr (.inl rfl))) _
  · rcases hb3 with h | h
    · exact .inl h
    · exact .inr (fun g hg => by rw [h] at hg; injection hg with hg; omega)
  · have h3 := htv.chg hc3 (fun k hk => gc k (htb k hk))
    have h4 := h3.chg ((Chg.refl (fun k => k = p) w3).setCell (p := ⟨p, 1, none⟩) (.inl rfl) cv') (fun k hk e => by subst e; exact gp (htb k hk))
    exact h4.chg ((Chg.refl (fun k => k = o) _).setCell (p := ⟨o, t, none⟩) (.inl rfl) (.slice none 0 0)) (fun k hk e => by subst e; exact go (htb k hk))
  · intro g hg
    have hgg := htb g hg
    refine ⟨hgb g hgg, ?_⟩
    rintro (e | e | e | ⟨s, hs, e⟩)
    · subst e; exact gp hgg
    · subst e; exact go hgg
    · rcases hb3 with h | h
      · rw [h] at e; exact gc g hgg e
      · rw [h] at e; injection e with e; have := gl g hgg; omega
    · by_cases hst : s = t
      · subst hst; rw [upd_same] at e; simp [Value.ownBlock] at e
      · rw [upd_other _ _ hst] at e
        have := HQ.vv s t hs ht hst g (by rw [upd_other _ _ hst]; exact e)
        rw [upd_same] at this
        exact this hgg

set_option maxRecDepth 100000 in
set_option maxHeartbeats 2000000 in
theorem queue_push_full (w : World) (p o n bound : Nat) (cv : Value) (C : List Int) (V : Nat → Value) (L : Nat → List Int) (t c R : Nat) (h : QAt w p o n bound cv C V L) (ht : t < n) (hl : (L t).length = 3) (hc : c ≤ 9223372036854775807) (hR : R = min (bound - C.length) 4) :
    Calls Try.prog 18 #[.pointer (some ⟨p, 0, none⟩), .int .i64 t, .int .i64 c] w fun e w' => ∃ tv, e = .returned (.tuple #[tv, .int .i64 0]) ∧ Chg (QB p o n cv V) w w' ∧
      ∃ cv', QAt w' p o n bound cv' (C ++ (L t ++ [(c : Int)]).take R) (upd V t (.slice none 0 0)) (upd L t []) ∧ (cv'.ownBlock = cv.ownBlock ∨ ∀ g, cv'.ownBlock = some g → w.heap.size ≤ g) ∧
        Sl w' 0 3 tv (cs ((L t ++ [(c : Int)]).drop R)) ∧ ∀ g, tv.ownBlock = some g → ((V t).ownBlock = some g ∨ w.heap.size ≤ g) ∧ ¬ QB p o n cv' (upd V t (.slice none 0 0)) g := by
  obtain ⟨i0, hi, hz0, hz1, hz2⟩ := info_parts infoInt
  have HL := hid hl
  have HR := hid hR
  clear hR
  have hl3 : (4 : Int) ≤ ((L t).length : Int) + 1 := by omega
  have hl9 : (L t).length ≤ 3 := by omega
  clear hl
  have H := hid h
  have h1 := h.own
  have h2 := h.row.cell ht
  have hpl : p < w.heap.size := cell_lt h.bnd
  have hol : o < w.heap.size := h.row.lt
  have htn : (t : Int) < (n : Int) := by omega
  have hlo := hid (h.lists t ht)
  obtain ⟨A, k, hv⟩ := hlo.out.shape
  have hvp := hid (h.vp t ht)
  have hvo := hid (h.vo t ht)
  rw [hv] at h2 hlo hvp hvo
  have HV := hid hv
  clear h hv
  go_enter Try.func18, Try.ntmps18
  go_wp2_with (at_builtin; refine wpList_append_lies _ rfl _ _ 38 rfl 0 3 i0 (.int .i64 0) 1 8 Try.underlying38 hi hz0 hz1 hz2 rfl (by decide) _ _ _ rfl (hlo.out.alloc _) ⟨w.heap.size, 0, none⟩ 1 1 [.int .i64 (c : Int)] rfl rfl ?c1 ?c2 (by decide) ?c3 ?c4 (Nat.zero_le _) _ rfl ?_)
  case c1 => exact one_lies rfl
  case c2 => intro u hu; simp at hu; subst hu; rfl
  case c3 => unfold maxLen; omega
  case c4 => omega
  intro g cap w1 hown hgrow hat hlt1
  have hc1 : Chg (fun b => (Value.slice A (L t).length k).ownBlock = some b) w w1 := (((Chg.refl _ w).alloc _).grown hgrow (fun b hb => .inl hb))
  have h1' : w1.cell? ⟨p, 2, none⟩ = some (.slice (some ⟨o, 0, none⟩) n n) := (hc1.cell hpl hvp.out).trans h1
  have hrow := hc1.row H.out.row hvo.out
  have h2' := hrow.cell ht
  have h3' := hrow.frozen t
  have HC := hid hc1
  have HO := hid hown
  have HAT := hid hat
  clear hc1 hown hgrow hat hrow
  go_upto_region 9 with fail
  have hv := HV.out
  have hc1 : Chg (fun b => (V t).ownBlock = some b) w w1 := by rw [hv]; exact HC.out
  have hown : OwnInts 0 w1 (.slice (some ⟨g, 0, none⟩) ((L t).length + 1) cap) (L t ++ [(c : Int)]) := by
    have := HO.out
    unfold OwnInts
    rw [List.map_append, List.length_append]
    exact this
  have hb : ∀ x, (Value.slice (some ⟨g, 0, none⟩) ((L t).length + 1) cap).ownBlock = some x → (V t).ownBlock = some x ∨ w.heap.size ≤ x := fun x hx => by
    have e : g = x := by simpa [Value.ownBlock] using hx
    subst e
    rw [hv]
    rcases HAT.out with h | h
    · exact .inl h
    · exact .inr (by first | omega | (simp at h; omega))
  have hcc : Chg (QB p o n cv V) w w1 := hc1.mono (fun k _ hk => .inr (.inr (.inr ⟨t, ht, hk⟩)))
  have hq2 := H.out.relist t ht hc1 _ _ hown hb
  have HCC := hid (hcc.setCell (p := ⟨o, t, none⟩) (.inl (.inr (.inl rfl))) (.slice (some ⟨g, 0, none⟩) ((L t).length + 1) cap))
  have HB := hid hb
  have HQ := hid hq2
  have hg4 : 4 ≤ cap := by
    rcases hown.2 with ⟨hx, _⟩ | ⟨_, _, _, hx, _, _, h4, _⟩
    · cases hx
    · injection hx with _ e2 e3
      have := HL.out
      simp at h4
      omega
  have hg5 : cap ≤ 9223372036854775807 := by
    rcases hown.2 with ⟨hx, _⟩ | ⟨_, _, _, hx, _, _, _, h4, _⟩
    · cases hx
    · injection hx with _ e2 e3
      unfold maxLen at h4
      omega
  have hlen := hq2.clen
  have hbm := hq2.bmax
  clear hq2 hown hc1 hb hcc hv h1' h2' h3' HC HO HAT hlt1 h1 h2 hlo hvp hvo
  revert HQ HCC HB
  rw [show (L t).length + 1 = 4 by rw [HL.out]]
  generalize w1.setCell ⟨o, t, none⟩ (.slice (some ⟨g, 0, none⟩) 4 cap) = w2
  intro HCC HB HQ
  obtain ⟨A', k', hcv, hk'⟩ := HQ.out.shape
  have b0 := HQ.out.bnd
  have b1 := HQ.out.com
  have b2 := HQ.out.own
  rw [hcv] at b1
  have HCV := hid hcv
  have e1 : IntKind.i64.wrap ((bound : Int) - (C.length : Int)) = (bound : Int) - (C.length : Int) := IntWalk.i64_in _ (by omega)
  clear hcv
  go_cut [9] (fun s9 wx => s9 = .int .i64 (R : Int) ∧ ∃ k, w2.drewN k = wx)
  case first =>
    go_region_held3 (fun w' => w'.cell? ⟨p, 0, none⟩ = some (.int .i64 bound) ∧ w'.cell? ⟨p, 1, none⟩ = some (.slice A' C.length k')) (first | exact ⟨b0, b1⟩) (first | fail)
    go_wp2_with fail
    all_goals (go_meet; exact ⟨by have := HR.out; congr 1; omega, _, rfl⟩)
  case rest =>
  obtain ⟨rfl, kd, rfl⟩ := hcut
  have hR4 : R ≤ 4 := by have := HR.out; omega
  have hRc : R ≤ cap := by omega
  have hne := HQ.out.po
  have hgt := HQ.out.lists t ht
  rw [upd_same, upd_same] at hgt
  have hsl := hid (sl_of_owns hgt)
  have HS := hid HQ.out.csl
  rw [HCV.out] at HS
  have hnews : ∀ j u, (cs ((L t ++ [(c : Int)]).take R))[j]? = some u → w2.cell? ((⟨g, 0, none⟩ : Addr).add j) = some u := fun j u hu => by
    have hj : j < ((L t ++ [(c : Int)]).take R).length := by
      have := (List.getElem?_eq_some_iff.1 hu).1
      rwa [cs_len] at this
    rw [List.length_take] at hj
    obtain ⟨g1, o1, cap1, he, _, _, hc1, _⟩ := hsl.out.cell (j := j) (by simp; omega)
    injection he with x1 x2 x3
    injection x1 with x4
    injection x4 with x5 x6 _
    subst x5 x6
    rw [Go.WideShapes.add_plain, hc1, ← hu]
    unfold cs
    rw [List.map_take, List.getElem?_take, if_pos (by omega)]
  have HN := hid hnews
  have hlt2 : (cs ((L t ++ [(c : Int)]).take R)).length = R := by rw [cs_len, List.length_take, List.length_append, HL.out]; simp; omega
  have HLT := hid hlt2
  have hclen : (cs C).length ≤ 65536 := by rw [cs_len]; omega
  have HCL := hid hclen
  clear hnews hlt2 hclen hgt
  have HONE := hid (cs_one ((L t ++ [(c : Int)]).take R))
  have hpl2 : p < w2.heap.size := cell_lt HQ.out.bnd
  have hol2 : o < w2.heap.size := HQ.out.row.lt
  have hcvp := hid HQ.out.cp
  have hcvo := hid HQ.out.co
  rw [HCV.out] at hcvp hcvo
  have hf1 := HQ.out.fz
  have htn2 : (t : Int) < (n : Int) := by omega
  have hRc' : (R : Int) ≤ (cap : Int) := by omega
  have hR4' : (R : Int) ≤ 4 := by omega
  by_cases hcR : cap = R
  · obtain rfl : R = 4 := by omega
    have HDR := hid (show (L t ++ [(c : Int)]).drop 4 = [] by rw [List.drop_eq_nil_iff, List.length_append, HL.out]; simp)
    have hdrop := hid hsl.out.dropAll
    subst hcR
    go_upto_region 10 with fail
    go_region_law (first
      | (refine step_append_sl _ rfl (.tmp 66) (.tmp 69) 38 rfl 0 3 i0 (.int .i64 0) 8 Try.underlying38 hi hz0 hz1 hz2 rfl (.slice A' C.length k') (cs C) (by simp [Act.eval, Act.put]) (HS.out.drewN _) ⟨g, 0, none⟩ 4 4 (cs ((L t ++ [(c : Int)]).take 4)) (by simp [Act.eval, Act.put]) HLT.out HN.out HONE.out (by have := HCL.out; unfold maxLen; omega) (by have := HCL.out; omega) (Nat.zero_le _) ?_; intro v' w3 hs3 hg3 hb3; obtain ⟨A2, k2, hv2, _⟩ := hs3.shape; subst hv2; have hc3 : Chg (fun b => (Value.slice A' C.length k').ownBlock = some b) w2 w3 := ⟨hg3.os, hg3.tape, hg3.output, hg3.size, fun k hk hn => hg3.block k hk (fun e => hn e.symm)⟩; have hx1 := (hc3.cell (o := 1) hpl2 hcvp.out).trans b1; have hx2 := (hc3.cell (o := 2) hpl2 hcvp.out).trans b2; have hx3 := (hc3.frozen (o := 1) hpl2 hcvp.out).trans hf1; have hrw := hc3.row HQ.out.row hcvo.out; have hx4 := hrw.cell ht; have hx5 := hrw.frozen t; have HC3 := hid hc3; have HS3 := hid hs3; have HB3 := hid hb3; clear hc3 hs3 hb3 hg3 hrw))
    go_wp2_with fail
    go_ret2
    have hlen2 : (C ++ (L t ++ [(c : Int)]).take 4).length ≤ bound := by have h1 := HR.out; rw [List.length_append, List.length_take]; omega
    obtain ⟨g1, g2, g3, g4, g5⟩ := push_end (l := L t ++ [(c : Int)]) (R := 4) (tv := .slice (some ⟨g, 0, none⟩) 0 0) HCC.out HQ.out ht (cv' := .slice A2 ((cs C).length + (cs ((L t ++ [(c : Int)]).take 4)).length) k2) (by rw [HCV.out]; exact HC3.out) (by have := HS3.out; unfold cs at this ⊢; rw [List.map_append]; simpa using this) (by have h := HB3.out; rw [List.length_append] at h; rw [HCV.out]; exact h) hlen2 (by have e := HDR.out; rw [e]; exact hdrop.out) (fun x hx => hx) HB.out
    exact ⟨_, rfl, g1, _, g2, g3, g4, g5⟩
  · have hcR' : ¬ (cap : Int) = (R : Int) := by omega
    go_upto_region 10 with fail
    go_region_law (first
      | (refine step_append_sl _ rfl (.tmp 66) (.tmp 69) 38 rfl 0 3 i0 (.int .i64 0) 8 Try.underlying38 hi hz0 hz1 hz2 rfl (.slice A' C.length k') (cs C) (by simp [Act.eval, Act.put]) (HS.out.drewN _) ⟨g, 0, none⟩ R cap (cs ((L t ++ [(c : Int)]).take R)) (by simp [Act.eval, Act.put]) HLT.out HN.out HONE.out (by have := HCL.out; unfold maxLen; omega) (by have := HCL.out; omega) (Nat.zero_le _) ?_; intro v' w3 hs3 hg3 hb3; obtain ⟨A2, k2, hv2, _⟩ := hs3.shape; subst hv2; have hc3 : Chg (fun b => (Value.slice A' C.length k').ownBlock = some b) w2 w3 := ⟨hg3.os, hg3.tape, hg3.output, hg3.size, fun k hk hn => hg3.block k hk (fun e => hn e.symm)⟩; have hx1 := (hc3.cell (o := 1) hpl2 hcvp.out).trans b1; have hx2 := (hc3.cell (o := 2) hpl2 hcvp.out).trans b2; have hx3 := (hc3.frozen (o := 1) hpl2 hcvp.out).trans hf1; have hrw := hc3.row HQ.out.row hcvo.out; have hx4 := hrw.cell ht; have hx5 := hrw.frozen t; have HC3 := hid hc3; have HS3 := hid hs3; have HB3 := hid hb3; clear hc3 hs3 hb3 hg3 hrw))
    go_wp2_with fail
    go_ret2
    have hlen2 : (C ++ (L t ++ [(c : Int)]).take R).length ≤ bound := by have h1 := HR.out; rw [List.length_append, List.length_take]; omega
    obtain ⟨g1, g2, g3, g4, g5⟩ := push_end (l := L t ++ [(c : Int)]) (R := R) (tv := .slice (some ⟨g, R, none⟩) (4 - R) (cap - R)) HCC.out HQ.out ht (cv' := .slice A2 ((cs C).length + (cs ((L t ++ [(c : Int)]).take R)).length) k2) (by rw [HCV.out]; exact HC3.out) (by have := HS3.out; unfold cs at this ⊢; rw [List.map_append]; simpa using this) (by have h := HB3.out; rw [List.length_append] at h; rw [HCV.out]; exact h) hlen2 (by have := hsl.out.drop R hR4; rw [Nat.zero_add] at this; unfold cs; rw [List.map_drop]; exact this) (fun x hx => hx) HB.out
    exact ⟨_, rfl, g1, _, g2, g3, g4, g5⟩
end Go.Proofs.Ythmjjmimmbgpaaa
