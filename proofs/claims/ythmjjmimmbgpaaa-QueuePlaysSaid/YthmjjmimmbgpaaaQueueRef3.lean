/-
  Contracts of the reference of layer 10 (queues of cards): all are taken.
-/
import Derived.Test.YthmjjmimmbgpaaaQueueRef2
set_option linter.unusedVariables false
set_option linter.unusedSimpArgs false
namespace Go.Proofs.Ythmjjmimmbgpaaa
open Go.RowKit

theorem QAt.congr {w : World} {p o n bound : Nat} {cv : Value} {C : List Int} {V V' : Nat → Value} {L L' : Nat → List Int} (h : QAt w p o n bound cv C V L) (hV : ∀ t, t < n → V t = V' t) (hL : ∀ t, t < n → L t = L' t) : QAt w p o n bound cv C V' L' :=
  { h with
    row := h.row.congr hV
    lists := fun t ht => by rw [← hV t ht, ← hL t ht]; exact h.lists t ht
    vp := fun t ht => by rw [← hV t ht]; exact h.vp t ht
    vo := fun t ht => by rw [← hV t ht]; exact h.vo t ht
    vc := fun t ht => by rw [← hV t ht]; exact h.vc t ht
    vv := fun s t hs ht => by rw [← hV s hs, ← hV t ht]; exact h.vv s t hs ht }

/-- the first k places are emptied -/
def gone {α : Type} (x : α) (k : Nat) (f : Nat → α) : Nat → α := fun s => if s < k then x else f s
theorem gone_succ {α : Type} (x : α) (k : Nat) (f : Nat → α) : upd (gone x k f) k x = gone x (k + 1) f := by
  funext s
  unfold upd gone
  by_cases h : s = k
  · rw [if_pos h, if_pos (by omega)]
  · rw [if_neg h]
    by_cases h2 : s < k
    · rw [if_pos h2, if_pos (by omega)]
    · rw [if_neg h2, if_neg (by omega)]
theorem gone_zero {α : Type} (x : α) (f : Nat → α) : gone x 0 f = f := by
  funext s; unfold gone; rw [if_neg (by omega)]
theorem gone_at {α : Type} (x : α) (k : Nat) (f : Nat → α) : gone x k f k = f k := by unfold gone; rw [if_neg (by omega)]

set_option maxRecDepth 100000 in
set_option maxHeartbeats 2000000 in
theorem rqueue_drain (w : World) (p o n bound : Nat) (cv : Value) (C : List Int) (V : Nat → Value) (L : Nat → List Int) (B : Nat) (h : QAt w p o n bound cv C V L) (hL : ∀ t, t < n → (L t).length ≤ 3) (hB : B = w.heap.size) :
    Calls Try.prog 17 #[.pointer (some ⟨p, 0, none⟩)] w fun e w' => ∃ t, e = .returned t ∧ OwnInts B w' t (C ++ joins L n) ∧ Chg (fun k => k = p ∨ k = o) w w' ∧
      QAt w' p o n bound (.slice none 0 0) [] (fun _ => .slice none 0 0) (fun _ => []) := by
  obtain ⟨i0, hi, hz0, hz1, hz2⟩ := info_parts infoInt
  have H := hid h
  have HB := hid hB
  have h2 := h.com
  have hc := h.clen
  have hbm := h.bmax
  have hn := h.n64
  have hpl : p < w.heap.size := cell_lt h.bnd
  have hol : o < w.heap.size := h.row.lt
  have hjs := joins_small hL
  have hsrc := hid h.csl.src
  clear h hL hB
  go_enter Try.func17, Try.ntmps17
  go_upto_region 2 with fail
  go_cut [3] (fun v wx => OwnInts B wx v C ∧ Chg (fun _ => False) w wx)
  case first =>
    rcases hsrc.out with ⟨hS, hX⟩ | ⟨g, oo, cc, hS, hg, hX⟩
    · rw [hS] at h2
      have HX := hid hX
      clear hS hX
      go_wp2_with (at_builtin; refine wpList_append_own_none rfl _ _ 38 rfl B 3 i0 1 Try.underlying38 hi _ 0 [] rfl (World.ownsRow_nil _ _ _ _) rfl ?_)
      go_meet
      rw [HX.out]
      exact ⟨ownInts_nil _ _, Chg.refl _ _⟩
    · rw [hS] at h2
      have hX2 := hid (fun (j : Nat) (u : Value) (hu : (C.map (Value.int .i64))[j]? = some u) => (show w.cell? ((⟨g, oo, none⟩ : Addr).add j) = some u by
        have hj : j < C.length := by
          have := (List.getElem?_eq_some_iff.1 hu).1
          rwa [List.length_map] at this
        rw [Go.WideShapes.add_plain, hX j hj, ← hu]
        simp [hj]))
      clear hS hX
      go_wp2_with (at_builtin; refine wpList_append_own _ rfl _ _ 38 rfl B 3 i0 (.int .i64 0) 1 8 Try.underlying38 hi hz0 hz1 hz2 rfl (by decide) _ 0 [] rfl (World.ownsRow_nil _ _ _ _) ⟨g, oo, none⟩ C.length cc (C.map (Value.int .i64)) rfl (by simp) hX2.out ?c2 ?c3 ?c4 (Nat.le_of_eq HB.out) ?_)
      case c2 => intro u hu; rw [List.mem_map] at hu; obtain ⟨x, _, rfl⟩ := hu; rfl
      case c3 => unfold maxLen; omega
      case c4 => omega
      intro v' w2 hown' hgrow _
      have hO' := hid hown'
      have hG := hid hgrow
      clear hown' hgrow
      go_wp2_with fail
      go_meet
      refine ⟨?_, (Chg.refl (fun _ => False) w).next ((Chg.refl (fun _ => False) w).grown hG.out (fun k hk => by simp [Value.ownBlock] at hk)) (fun _ _ h => h)⟩
      have := hO'.out
      unfold OwnInts
      simpa using this
  case rest =>
  obtain ⟨hov, hcw⟩ := hcut
  have HOV := hid hov
  have HCW := hid hcw
  clear hov hcw
  go_upto_block 0 with fail
  go_cut [3, 4] (fun v i wx => OwnInts B wx v (C ++ joins L n) ∧ Chg (fun x => x = o) w wx ∧ QAt wx p o n bound cv C (gone (.slice none 0 0) n V) (gone [] n L))
  case first =>
    go_wp2_with fail
    go_loopw [3, 4] (fun v i wr => ∃ k : Nat, k ≤ n ∧ i = .int .i64 k ∧ OwnInts B wr v (C ++ joins L k) ∧ Chg (fun x => x = o) w wr ∧ QAt wr p o n bound cv C (gone (.slice none 0 0) k V) (gone [] k L)) (fun _ i _ => n - (intOf i).toNat)
    case atStart => exact ⟨0, by omega, rfl, by simpa [joins] using HOV.out, HCW.out.mono (fun _ _ h => absurd h (by simp)), by rw [gone_zero, gone_zero]; exact H.out.chg HCW.out (by simp)⟩
    case round =>
      obtain ⟨k, hk, rfl, hov, hcw, hq⟩ := hrel
      have HO := hid hov
      have HC := hid hcw
      have HQ := hid hq
      have b2 := hq.own
      have hsz : B ≤ wr.heap.size := by rw [HB.out]; exact hcw.size
      have hplr : p < wr.heap.size := cell_lt hq.bnd
      have holr : o < wr.heap.size := hq.row.lt
      have hpo := hq.po
      clear hov hcw
      by_cases hlt : k < n
      · have hlt' : (k : Int) < (n : Int) := by omega
        have b3 := hq.row.cell hlt
        have b4 := hq.row.frozen k
        rw [gone_at] at b3
        have h1 := joins_le L (j := k + 1) (m := n) (by omega)
        have h3 : (joins L (k + 1)).length = (joins L k).length + (L k).length := by show (joins L k ++ L k).length = _; rw [List.length_append]
        have hlen := hid (show (C ++ joins L k).length + (L k).length ≤ 131072 by rw [List.length_append]; omega)
        have hls := hq.lists k hlt
        rw [gone_at, gone_at] at hls
        have hl := hid (ownInts_src hls)
        have hnew := hid (show C ++ joins L (k + 1) = (C ++ joins L k) ++ L k by show C ++ (joins L k ++ L k) = _; rw [List.append_assoc])
        clear h1 h3 hls hq
        revert HO hlen hnew
        generalize C ++ joins L k = M
        intro HO hlen hnew
        rcases hl.out with ⟨hS, hX⟩ | ⟨g, oo, cc, hS, hg, hX⟩
        · rw [hS] at b3
          have HX := hid hX
          clear hS hX
          go_wp2_with (at_builtin; refine wpList_append_own_none rfl _ _ 38 rfl B 3 i0 1 Try.underlying38 hi _ _ _ rfl HO.out rfl ?_)
          go_roundw
          case rel =>
            have hq4 := HQ.out.relist k hlt (Chg.refl _ _) (.slice none 0 0) [] (ownInts_nil _ _) (by simp [Value.ownBlock])
            rw [gone_succ, gone_succ] at hq4
            have hst : Chg (fun x => x = o) wr (wr.setCell ⟨o, k, none⟩ (.slice none 0 0)) := by (repeat (first | with_reducible exact Chg.refl _ _ | with_reducible apply Chg.drewN | with_reducible apply Chg.drew | with_reducible apply Chg.alloc | (with_reducible refine Chg.setCell ?_ ?_ _; rotate_left; focus (first | (refine Or.inr ?_; first | omega | (simp; done) | (simp; omega)) | exact Or.inl (by assumption) | with_reducible exact Or.inl rfl | exact Or.inl (by simp))) | refine Chg.trans ?_ (Chg.of_below (by with_reducible assumption) (fun k h1 h2 => absurd h1 (by first | omega | (simp; omega)))) | refine Chg.trans ?_ (by with_reducible assumption)))
            refine ⟨k + 1, by omega, by go_num, ?_, HC.out.trans hst, hq4⟩
            rw [hnew.out, HX.out, List.append_nil]
            exact HO.out.chg hst (fun x hx e => by have := (HO.out.lt x hx).1; have := HB.out; have e' : x = o := e; omega)
          case measure => simp [intOf]; omega
        · rw [hS] at b3
          have hX2 := hid (fun (j : Nat) (u : Value) (hu : ((L k).map (Value.int .i64))[j]? = some u) => (show wr.cell? ((⟨g, oo, none⟩ : Addr).add j) = some u by
            have hj : j < (L k).length := by
              have := (List.getElem?_eq_some_iff.1 hu).1
              rwa [List.length_map] at this
            rw [Go.WideShapes.add_plain, hX j hj, ← hu]
            simp [hj]))
          clear hS hX
          go_wp2_with (at_builtin; refine wpList_append_own _ rfl _ _ 38 rfl B 3 i0 (.int .i64 0) 1 8 Try.underlying38 hi hz0 hz1 hz2 rfl (by decide) _ _ _ rfl HO.out ⟨g, oo, none⟩ (L k).length cc ((L k).map (Value.int .i64)) rfl (by simp) hX2.out ?c2 ?c3 ?c4 hsz ?_)
          case c2 => intro u hu; rw [List.mem_map] at hu; obtain ⟨x, _, rfl⟩ := hu; rfl
          case c3 => have := hlen.out; unfold maxLen; omega
          case c4 => have := hlen.out; omega
          intro v' w2 hown' hgrow _
          have hO' := hid hown'
          have hg2 : Chg (fun x => B ≤ x) wr w2 := (Chg.refl (fun x => B ≤ x) wr).grown hgrow (fun x hx => .inl (HO.out.lt x hx).1)
          have hbo : ¬ B ≤ o := by rw [HB.out]; omega
          have hbp : ¬ B ≤ p := by rw [HB.out]; omega
          have b2' := (hg2.cell (o := 2) hplr hbp).trans b2
          have b3' := (hg2.cell (o := k) holr hbo).trans b3
          have b4' := (hg2.frozen (o := k) holr hbo).trans b4
          have HG := hid hg2
          clear hown' hgrow hg2
          go_wp2_with fail
          go_roundw
          case rel =>
            have hq3 := HQ.out.chg HG.out (fun x hx h => by
              have hx2 : x < w.heap.size := by
                rcases hx with e | e | e | ⟨s, hs, e⟩
                · omega
                · omega
                · exact (H.out.csl.lt x e).2
                · by_cases hsk : s < k
                  · rw [show gone (Value.slice none 0 0) k V s = .slice none 0 0 from if_pos hsk] at e; simp [Value.ownBlock] at e
                  · rw [show gone (Value.slice none 0 0) k V s = V s from if_neg hsk] at e; exact ((H.out.lists s hs).lt x e).2
              have := HB.out
              omega)
            have hq4 := hq3.relist k hlt (Chg.refl _ _) (.slice none 0 0) [] (ownInts_nil _ _) (by simp [Value.ownBlock])
            rw [gone_succ, gone_succ] at hq4
            have hst : Chg (fun x => x = o) w2 (w2.setCell ⟨o, k, none⟩ (.slice none 0 0)) := by (repeat (first | with_reducible exact Chg.refl _ _ | with_reducible apply Chg.drewN | with_reducible apply Chg.drew | with_reducible apply Chg.alloc | (with_reducible refine Chg.setCell ?_ ?_ _; rotate_left; focus (first | (refine Or.inr ?_; first | omega | (simp; done) | (simp; omega)) | exact Or.inl (by assumption) | with_reducible exact Or.inl rfl | exact Or.inl (by simp))) | refine Chg.trans ?_ (Chg.of_below (by with_reducible assumption) (fun k h1 h2 => absurd h1 (by first | omega | (simp; omega)))) | refine Chg.trans ?_ (by with_reducible assumption)))
            have hov2 : OwnInts B w2 v' (M ++ L k) := by
              have := hO'.out
              unfold OwnInts
              rw [List.map_append, List.length_append]
              exact this
            refine ⟨k + 1, by omega, by go_num, ?_, (HC.out.next HG.out (fun x hx h => by have := HB.out; omega)).trans hst, hq4⟩
            rw [hnew.out]
            exact hov2.chg hst (fun x hx e => by have := (hov2.lt x hx).1; have := HB.out; have e' : x = o := e; omega)
          case measure => simp [intOf]; omega
      · obtain rfl : k = n := by omega
        go_wp2_with fail
        go_meet
        exact ⟨HO.out, HC.out, HQ.out⟩
  case rest =>
  obtain ⟨hov, hcw, hq⟩ := hcut
  have HQ := hid hq
  have b1 := hq.com
  have b5 := hq.fz
  obtain ⟨A, k, hv, _⟩ := hq.shape
  rw [hv] at b1
  clear hq hv
  go_wp2_with fail
  go_ret
  have hst : Chg (fun x => x = p) wc (wc.setCell ⟨p, 1, none⟩ (.slice none 0 0)) := by (repeat (first | with_reducible exact Chg.refl _ _ | with_reducible apply Chg.drewN | with_reducible apply Chg.drew | with_reducible apply Chg.alloc | (with_reducible refine Chg.setCell ?_ ?_ _; rotate_left; focus (first | (refine Or.inr ?_; first | omega | (simp; done) | (simp; omega)) | exact Or.inl (by assumption) | with_reducible exact Or.inl rfl | exact Or.inl (by simp))) | refine Chg.trans ?_ (Chg.of_below (by with_reducible assumption) (fun k h1 h2 => absurd h1 (by first | omega | (simp; omega)))) | refine Chg.trans ?_ (by with_reducible assumption)))
  refine ⟨_, rfl, hov.chg hst (fun x hx e => by have := (hov.lt x hx).1; have := HB.out; have e' : x = p := e; omega), (hcw.mono (fun _ _ h => .inr h)).trans (hst.mono (fun _ _ h => .inl h)), ?_⟩
  exact (HQ.out.recommon (Chg.refl _ _) (.slice none 0 0) [] (sl_nil _ _ _) (by simp) (.inr (by simp [Value.ownBlock]))).congr (fun t ht => if_pos ht) (fun t ht => if_pos ht)
end Go.Proofs.Ythmjjmimmbgpaaa
