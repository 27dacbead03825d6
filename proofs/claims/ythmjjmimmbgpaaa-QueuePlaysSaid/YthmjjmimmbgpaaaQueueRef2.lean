/-
  Contracts of the reference of layer 10 (queues of cards): a thread's list is full.
-/
import Derived.Test.YthmjjmimmbgpaaaQueueRef
set_option linter.unusedVariables false
set_option linter.unusedSimpArgs false
namespace Go.Proofs.Ythmjjmimmbgpaaa
open Go.RowKit

set_option maxRecDepth 100000 in
set_option maxHeartbeats 4000000 in
theorem rqueue_push_full (w : World) (p o n bound : Nat) (cv : Value) (C : List Int) (V : Nat → Value) (L : Nat → List Int) (t c R B : Nat) (l : List Int) (h : QAt w p o n bound cv C V L) (ht : t < n) (hl : (L t).length = 3) (hc : c ≤ 9223372036854775807) (hR : R = min (bound - C.length) 4) (hll : l = L t ++ [(c : Int)]) (hB : B = w.heap.size) :
    Calls Try.prog 19 #[.pointer (some ⟨p, 0, none⟩), .int .i64 t, .int .i64 c] w fun e w' => ∃ tv, e = .returned (.tuple #[tv, .int .i64 0]) ∧ Chg (QB p o n cv V) w w' ∧
      ∃ cv', QAt w' p o n bound cv' (C ++ l.take R) (upd V t (.slice none 0 0)) (upd L t []) ∧ (cv'.ownBlock = cv.ownBlock ∨ ∀ g, cv'.ownBlock = some g → B ≤ g) ∧ OwnInts B w' tv (l.drop R) ∧
        ∀ g, tv.ownBlock = some g → ¬ QB p o n cv' (upd V t (.slice none 0 0)) g := by
  have HLL := hid hll
  have HBB := hid hB
  clear hll hB
  have HL := hid hl
  have HR := hid hR
  have hl3 : (4 : Int) ≤ ((L t).length : Int) + 1 := by omega
  have hl9 : (L t).length ≤ 3 := by omega
  clear hl hR
  obtain ⟨i0, hi, hz0, hz1, hz2⟩ := info_parts infoInt
  have H := hid h
  have h1 := h.own
  have h2 := h.row.cell ht
  have h3 := h.row.frozen t
  have hpl : p < w.heap.size := cell_lt h.bnd
  have hol : o < w.heap.size := h.row.lt
  have htn : (t : Int) < (n : Int) := by omega
  have hpo := h.po
  have hop : o ≠ p := fun e => hpo e.symm
  have hlo := hid (h.lists t ht)
  obtain ⟨A, k, hv⟩ := hlo.out.shape
  have hvp := hid (h.vp t ht)
  have hvo := hid (h.vo t ht)
  rw [hv] at h2 hlo hvp hvo
  have HV := hid hv
  clear h hv
  go_enter Try.func19, Try.ntmps19
  go_upto_region 3 with fail
  go_cut [6] (fun s6 wx => s6 = .slice none 0 0 ∧ ∃ g cap, QAt wx p o n bound cv C (upd V t (.slice (some ⟨g, 0, none⟩) ((L t).length + 1) cap)) (upd L t (L t ++ [(c : Int)])) ∧ Chg (QB p o n cv V) w wx ∧ ∀ x, (Value.slice (some ⟨g, 0, none⟩) ((L t).length + 1) cap).ownBlock = some x → (V t).ownBlock = some x ∨ w.heap.size ≤ x)
  case first =>
    go_region_law (first
      | (refine step_append_lies _ rfl (.tmp 36) (.tmp 38) 38 rfl 0 3 i0 (.int .i64 0) 1 8 Try.underlying38 hi hz0 hz1 hz2 rfl (by decide) (.slice A (L t).length k) (L t).length ((L t).map (Value.int .i64)) (by simp [Act.eval, Act.put]) (World.ownsRow.alloc (w := w.drew) hlo.out _) ⟨w.heap.size, 0, none⟩ 1 1 [.int .i64 (c : Int)] (by simp [Act.eval, Act.put]) rfl (one_lies rfl) (by intro u hu; simp at hu; subst hu; rfl) (by decide) (by unfold maxLen; omega) (by omega) (Nat.zero_le _) _ rfl ?_; intro g cap w1 hown hgrow hat hlt1; have hc1 : Chg (fun b => (Value.slice A (L t).length k).ownBlock = some b) w w1 := (((Chg.refl _ w).drew.alloc _).grown hgrow (fun b hb => .inl hb)); have h1' := (hc1.cell (o := 2) hpl hvp.out).trans h1; have hrow := hc1.row H.out.row hvo.out; have h2' := hrow.cell ht; have h3' := hrow.frozen t; have HC := hid hc1; have HO := hid hown; have HAT := hid hat; clear hc1 hown hgrow hat hrow))
    all_goals (
      go_wp2_with fail
      go_meet
      have hv := HV.out
      have hc1 : Chg (fun b => (V t).ownBlock = some b) w w1 := by rw [hv]; exact HC.out
      have hown : OwnInts 0 w1 (.slice (some ⟨g, 0, none⟩) ((L t).length + 1) cap) (L t ++ [(c : Int)]) := by
        have := HO.out
        unfold OwnInts
        rw [List.map_append, List.length_append]
        exact this
      have hb : ∀ x, (Value.slice (some ⟨g, 0, none⟩) ((L t).length + 1) cap).ownBlock = some x → (V t).ownBlock = some x ∨ w.heap.size ≤ x := fun x hx => by
        have e : g = x := by simpa [Value.ownBlock] using hx
        subst e
        rw [hv]
        rcases HAT.out with h | h
        · exact .inl h
        · exact .inr (by first | omega | (simp at h; omega))
      have hcc : Chg (QB p o n cv V) w w1 := hc1.mono (fun k _ hk => .inr (.inr (.inr ⟨t, ht, hk⟩)))
      exact ⟨rfl, _, _, H.out.relist t ht hc1 _ _ hown hb, hcc.setCell (.inl (.inr (.inl rfl))) _, hb⟩)
  case rest =>
  obtain ⟨rfl, g, cap, hq2, hcc2, hb⟩ := hcut
  have HQ := hid hq2
  have HCC := hid hcc2
  have HB := hid hb
  have b2 := hq2.own
  have b3 := hq2.row.cell ht
  rw [upd_same] at b3
  have hlen := hq2.clen
  have hbm := hq2.bmax
  clear hq2 hcc2 hb
  have hgt := HQ.out.lists t ht
  rw [upd_same, upd_same] at hgt
  have hl4 : l.length = 4 := by rw [HLL.out, List.length_append, HL.out]; rfl
  rw [show (L t).length + 1 = 4 by rw [HL.out]] at HQ HB b3 hgt
  rw [← HLL.out] at HQ hgt
  clear hgt
  go_upto_block 0 with fail
  clear b2 b3
  go_cut [8, 9] (fun v i wx => ∃ cv', QAt wx p o n bound cv' (C ++ l.take R) (upd V t (.slice (some ⟨g, 0, none⟩) 4 cap)) (upd L t l) ∧ (cv'.ownBlock = cv.ownBlock ∨ ∀ g, cv'.ownBlock = some g → B ≤ g) ∧ OwnInts B wx v (l.drop R) ∧ (∀ x, v.ownBlock = some x → ¬ QB p o n cv' (upd V t (.slice (some ⟨g, 0, none⟩) 4 cap)) x) ∧ Chg (QB p o n cv V) w wx)
  case first =>
    go_wp2_with fail
    go_loopw [8, 9] (fun v i wr => ∃ (j : Nat) (cvj : Value), j ≤ 4 ∧ i = .int .i64 j ∧ QAt wr p o n bound cvj (C ++ l.take (min j R)) (upd V t (.slice (some ⟨g, 0, none⟩) 4 cap)) (upd L t l) ∧ (cvj.ownBlock = cv.ownBlock ∨ ∀ g, cvj.ownBlock = some g → B ≤ g) ∧ OwnInts B wr v ((l.take j).drop R) ∧ (∀ x, v.ownBlock = some x → ¬ QB p o n cvj (upd V t (.slice (some ⟨g, 0, none⟩) 4 cap)) x) ∧ Chg (QB p o n cv V) w wr) (fun _ i _ => 4 - (intOf i).toNat)
    case atStart => exact ⟨0, cv, by omega, rfl, by simpa using HQ.out, .inl rfl, by simpa using ownInts_nil B _, by simp [Value.ownBlock], HCC.out⟩
    case round =>
      obtain ⟨j, cvj, hj, rfl, hq, hcv, hov, hap, hcw⟩ := hrel
      have HQJ := hid hq
      have HCV := hid hcv
      have HOV := hid hov
      have HAP := hid hap
      have HCW := hid hcw
      have hbsz : B ≤ wr.heap.size := by have := HBB.out; have := hcw.size; omega
      clear hq hcv hov hap hcw
      by_cases hlt : j < 4
      · have hlt' : (j : Int) < 4 := by omega
        have c0 := HQJ.out.bnd
        have c2 := HQJ.out.own
        have c3 := HQJ.out.row.cell ht
        rw [upd_same] at c3
        have hgt := HQJ.out.lists t ht
        rw [upd_same, upd_same] at hgt
        obtain ⟨g1, c1', hg1, _, hgl, hgc⟩ := hgt.at (by omega)
        injection hg1 with x1 x2 x3
        injection x1 with x4
        injection x4 with x5 _ _
        subst x5
        have c4 := hgc j (by omega)
        have hz := hid (show l.take (j + 1) = l.take j ++ [l.getD j 0] by
          rw [List.take_succ_eq_append_getElem (show j < l.length by omega), List.getD_eq_getElem?_getD, List.getElem?_eq_getElem (show j < l.length by omega)]
          rfl)
        have hdr := hid (show R ≤ j → (l.take (j + 1)).drop R = (l.take j).drop R ++ [l.getD j 0] from fun h => by rw [hz.out, List.drop_append_of_le_length (by rw [List.length_take]; omega)])
        have hdl := hid (show ((l.take j).drop R).length ≤ 4 by rw [List.length_drop, List.length_take]; omega)
        obtain ⟨A', k', hcvj, hk'⟩ := HQJ.out.shape
        have hcl : (C ++ l.take (min j R)).length = C.length + min j R := by rw [List.length_append, List.length_take]; omega
        rw [hcl] at hcvj hk'
        have c1 := HQJ.out.com
        rw [hcvj] at c1
        have HCVJ := hid hcvj
        clear x2 x3 hgc hgt hcvj hcl
        revert c4 hz hdr
        generalize l.getD j 0 = z
        intro c4 hz hdr
        have hRb := HR.out
        go_upto_block 1 with fail
        go_cut [8] (fun v wx => ∃ cvn, QAt wx p o n bound cvn (C ++ l.take (min (j + 1) R)) (upd V t (.slice (some ⟨g, 0, none⟩) 4 cap)) (upd L t l) ∧ (cvn.ownBlock = cv.ownBlock ∨ ∀ g, cvn.ownBlock = some g → B ≤ g) ∧ OwnInts B wx v ((l.take (j + 1)).drop R) ∧ (∀ x, v.ownBlock = some x → ¬ QB p o n cvn (upd V t (.slice (some ⟨g, 0, none⟩) 4 cap)) x) ∧ Chg (QB p o n cv V) w wx)
        case first =>
          by_cases hjR : j < R
          · have hm : min j R = j := by omega
            rw [hm] at HQJ c1 HCVJ hk'
            have hm1 := hid (show min (j + 1) R = j + 1 by omega)
            have hlb : (C.length : Int) + (j : Int) < (bound : Int) := by omega
            have HS := hid HQJ.out.csl
            rw [HCVJ.out] at HS
            have hcsl := hid (show (cs (C ++ l.take j)).length = C.length + j by rw [cs_len, List.length_append, List.length_take]; omega)
            have hvp := hid HQJ.out.cp
            have hpl2 : p < wr.heap.size := cell_lt HQJ.out.bnd
            rw [HCVJ.out] at hvp
            have hf1 := HQJ.out.fz
            have hbb : C.length + j ≤ 65536 := by omega
            clear hm hRb
            go_upto_region 10 with fail
            go_region_held3 (fun w' => w'.cell? ⟨p, 0, none⟩ = some (.int .i64 bound) ∧ w'.cell? ⟨p, 1, none⟩ = some (.slice A' (C.length + j) k')) (first | exact ⟨c0, c1⟩) (first | fail)
            go_upto_region 11 with fail
            go_region_law (first
              | (refine step_append_sl _ rfl (.tmp 68) (.tmp 79) 38 rfl 0 3 i0 (.int .i64 0) 8 Try.underlying38 hi hz0 hz1 hz2 rfl (.slice A' (C.length + j) k') (cs (C ++ l.take j)) (by simp [Act.eval, Act.put]) (by first | exact (HS.out.alloc _).drew.drew | exact Sl.alloc (HS.out.drewN _) _ | exact Sl.alloc HS.out _) ⟨wr.heap.size, 0, none⟩ 1 1 [.int .i64 z] (by simp [Act.eval, Act.put]) rfl (fun j u hu => one_lies (w := wr) rfl j u hu) (by intro u hu; simp at hu; subst hu; rfl) (by have := hcsl.out; unfold maxLen; omega) (by have := hcsl.out; omega) (Nat.zero_le _) ?_; intro v' w5 hs5 hg5 hb5; obtain ⟨A2, k2, hv2, _⟩ := hs5.shape; subst hv2; have hc5 : Chg (fun b => (Value.slice A' (C.length + j) k').ownBlock = some b) wr w5 := (by first | exact (((Chg.refl _ wr).alloc _).drew.drew).grown hg5 (fun b hb => .inl hb) | exact (((Chg.refl _ wr).drewN _).alloc _).grown hg5 (fun b hb => .inl hb)); have hx1 := (hc5.cell (o := 1) hpl2 hvp.out).trans c1; have hx3 := (hc5.frozen (o := 1) hpl2 hvp.out).trans hf1; have HC5 := hid hc5; have HS5 := hid hs5; have HB5 := hid hb5; clear hc5 hs5 hb5 hg5))
            all_goals (
              go_wp2_with fail
              go_meet
              have hs5 := HS5.out
              have hc5 : Chg (fun b => cvj.ownBlock = some b) wr w5 := by rw [HCVJ.out]; exact HC5.out
              have hfr : (Value.slice A2 ((cs (C ++ l.take j)).length + 1) k2).ownBlock = cvj.ownBlock ∨ ∀ x, (Value.slice A2 ((cs (C ++ l.take j)).length + 1) k2).ownBlock = some x → wr.heap.size ≤ x := by
                rw [HCVJ.out]
                have hb5 := HB5.out
                rw [List.length_append] at hb5
                rcases hb5 with h | h
                · exact .inl h
                · exact .inr (fun x hx => by
                    have h' : (Value.slice A2 ((cs (C ++ l.take j)).length + 1) k2).ownBlock = some (wr.heap.size + 1) := by first | exact h | simpa [Value.ownBlock] using h
                    rw [h'] at hx; injection hx with hx; omega)
              have hnew : Sl w5 0 3 (.slice A2 ((cs (C ++ l.take j)).length + 1) k2) (cs (C ++ l.take (j + 1))) := by
                have e : cs (C ++ l.take (j + 1)) = cs (C ++ l.take j) ++ [Value.int .i64 z] := by rw [hz.out, ← List.append_assoc]; unfold cs; rw [List.map_append (l₁ := C ++ l.take j)]; rfl
                rw [e]
                simpa using hs5
              have hq5 := HQJ.out.recommon hc5 _ (C ++ l.take (j + 1)) hnew (by rw [List.length_append, List.length_take]; omega) hfr
              rw [hm1.out]
              have hlist : (l.take (j + 1)).drop R = (l.take j).drop R := by
                rw [List.drop_eq_nil_iff.2 (by rw [List.length_take]; omega), List.drop_eq_nil_iff.2 (by rw [List.length_take]; omega)]
              have hst : Chg (fun x => x = p) w5 (w5.setCell ⟨p, 1, none⟩ (.slice A2 ((cs (C ++ l.take j)).length + 1) k2)) := by (repeat (first | with_reducible exact Chg.refl _ _ | with_reducible apply Chg.drewN | with_reducible apply Chg.drew | with_reducible apply Chg.alloc | (with_reducible refine Chg.setCell ?_ ?_ _; rotate_left; focus (first | (refine Or.inr ?_; first | omega | (simp; done) | (simp; omega)) | exact Or.inl (by assumption) | with_reducible exact Or.inl rfl | exact Or.inl (by simp))) | refine Chg.trans ?_ (Chg.of_below (by with_reducible assumption) (fun k h1 h2 => absurd h1 (by first | omega | (simp; omega)))) | refine Chg.trans ?_ (by with_reducible assumption)))
              refine ⟨_, hq5, ?_, ?_, ?_, ?_⟩
              · rcases hfr with h | h
                · rcases HCV.out with h2 | h2
                  · exact .inl (h.trans h2)
                  · exact .inr (fun x hx => h2 x (by rw [← h]; exact hx))
                · exact .inr (fun x hx => Nat.le_trans hbsz (h x hx))
              · rw [hlist]
                exact (HOV.out.chg hc5 (fun x hx e => HAP.out x hx (.inr (.inr (.inl e))))).chg hst (fun x hx e => HAP.out x hx (.inl e))
              · intro x hx hqb
                rcases QB.recommon (w := wr) hfr x hqb with h | h
                · exact HAP.out x hx h
                · have := (HOV.out.lt x hx).2; omega
              · have hc6 := (HCW.out.next hc5 (fun i hi h => by
                  rcases HCV.out with h2 | h2
                  · exact .inr (.inr (.inl (by rw [← h2]; exact h)))
                  · have := h2 i h; have := HBB.out; omega))
                exact hc6.setCell (.inl (.inl rfl)) _)
          · have hm : min j R = R := by omega
            have hm1 := hid (show min (j + 1) R = R by omega)
            have hbR : C.length + R = bound := by omega
            rw [hm, hbR] at c1 HCVJ hk'
            rw [hm] at HQJ
            have HD := hid (hdr.out (by omega))
            clear hm hRb hdr hbR
            revert HOV hdl HD
            generalize (l.take j).drop R = M
            intro HOV hdl HD
            go_upto_region 10 with fail
            go_region_held3 (fun w' => w'.cell? ⟨p, 0, none⟩ = some (.int .i64 bound) ∧ w'.cell? ⟨p, 1, none⟩ = some (.slice A' bound k')) (first | exact ⟨c0, c1⟩) (first | fail)
            go_wp2_with (at_builtin; refine wpList_append_lies _ rfl _ _ 38 rfl B 3 i0 (.int .i64 0) 1 8 Try.underlying38 hi hz0 hz1 hz2 rfl (by decide) _ _ _ rfl (World.ownsRow.alloc (owns_drewN HOV.out _) _) ⟨wr.heap.size, 0, none⟩ 1 1 [.int .i64 z] rfl rfl ?c1 ?c2 (by decide) ?c3 ?c4 ?c5 _ rfl ?_)
            case c2 => first | (intro u hu; simp at hu; subst hu; rfl) | rfl | trivial
            case c3 => have := hdl.out; unfold maxLen; omega
            case c4 => have := hdl.out; omega
            case c5 => first | omega | (simp; omega)
            intro g5 cap5 w5 hown5 hgrow5 hat5 hlt5
            have hc5 := hid (show Chg (fun b => u8.ownBlock = some b) wr w5 from (((Chg.refl _ wr).drewN _).alloc _).grown hgrow5 (fun b hb => .inl hb))
            have HO5 := hid hown5
            have HA5 := hid hat5
            clear hown5 hgrow5 hat5
            go_wp2_with fail
            go_meet
            rw [hm1.out]
            refine ⟨cvj, HQJ.out.chg hc5.out (fun k hk e => HAP.out k e hk), HCV.out, ?_, ?_, ?_⟩
            · have := HO5.out
              rw [HD.out]
              unfold OwnInts
              rw [List.map_append, List.length_append]
              exact this
            · intro x hx hqb
              have e : g5 = x := by simpa [Value.ownBlock] using hx
              subst e
              rcases HA5.out with h | h
              · exact HAP.out g5 h hqb
              · have := HQJ.out.lt g5 hqb
                first | omega | (simp at h; omega)
            · exact HCW.out.next hc5.out (fun i hi h => by have := (HOV.out.lt i h).1; have := HBB.out; omega)
        case rest =>
        obtain ⟨cvn, g1, g2, g3, g4, g5⟩ := hcut
        go_wp2_with fail
        go_roundw
        case rel => exact ⟨j + 1, cvn, by omega, by go_num, g1, g2, g3, g4, g5⟩
        case measure => simp [intOf]; omega
      · obtain rfl : j = 4 := by omega
        go_wp2_with fail
        go_meet
        have hR4 : min 4 R = R := by have := HR.out; omega
        have ht4 : l.take 4 = l := List.take_of_length_le (by omega)
        rw [hR4] at HQJ
        rw [ht4] at HOV
        exact ⟨cvj, HQJ.out, HCV.out, HOV.out, HAP.out, HCW.out⟩
  case rest =>
  obtain ⟨cv', hq, hcv, hov, hap, hcw⟩ := hcut
  have HQ3 := hid hq
  have b2 := hq.own
  have b3 := hq.row.cell ht
  rw [upd_same] at b3
  have b4 := hq.row.frozen t
  clear hq
  go_wp2_with fail
  go_ret2
  have hq4 := HQ3.out.relist t ht (Chg.refl _ _) (.slice none 0 0) [] (ownInts_nil _ _) (by simp [Value.ownBlock])
  rw [upd_upd, upd_upd] at hq4
  have hsubx : ∀ x, QB p o n cv' (upd V t (.slice none 0 0)) x → QB p o n cv' (upd V t (.slice (some ⟨g, 0, none⟩) 4 cap)) x := fun x hx => by
    rcases hx with h | h | h | ⟨s, hs, h⟩
    · exact .inl h
    · exact .inr (.inl h)
    · exact .inr (.inr (.inl h))
    · by_cases e : s = t
      · subst e; rw [upd_same] at h; simp [Value.ownBlock] at h
      · rw [upd_other _ _ e] at h
        exact .inr (.inr (.inr ⟨s, hs, by rw [upd_other _ _ e]; exact h⟩))
  refine ⟨_, rfl, hcw.setCell (.inl (.inr (.inl rfl))) _, cv', hq4, hcv, hov.chg (S := fun x => x = o) (by (repeat (first | with_reducible exact Chg.refl _ _ | with_reducible apply Chg.drewN | with_reducible apply Chg.drew | with_reducible apply Chg.alloc | (with_reducible refine Chg.setCell ?_ ?_ _; rotate_left; focus (first | (refine Or.inr ?_; first | omega | (simp; done) | (simp; omega)) | exact Or.inl (by assumption) | with_reducible exact Or.inl rfl | exact Or.inl (by simp))) | refine Chg.trans ?_ (Chg.of_below (by with_reducible assumption) (fun k h1 h2 => absurd h1 (by first | omega | (simp; omega)))) | refine Chg.trans ?_ (by with_reducible assumption)))) (fun x hx e => hap x hx (.inr (.inl e))), fun x hx h => hap x hx (hsubx x h)⟩
end Go.Proofs.Ythmjjmimmbgpaaa
