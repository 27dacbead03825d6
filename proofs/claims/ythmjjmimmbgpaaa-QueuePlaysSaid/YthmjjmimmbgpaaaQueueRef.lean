/-
  Contracts of the reference of layer 10 (queues of cards).
-/
import Derived.Test.YthmjjmimmbgpaaaQueueLaws
set_option linter.unusedVariables false
set_option linter.unusedSimpArgs false
namespace Go.Proofs.Ythmjjmimmbgpaaa
open Go.RowKit

theorem rqueue_pop_none (w : World) (p o n bound : Nat) (cv : Value) (V : Nat → Value) (L : Nat → List Int) (h : QAt w p o n bound cv [] V L) :
    Calls Try.prog 14 #[.pointer (some ⟨p, 0, none⟩)] w fun e w' => e = .returned (.tuple #[.int .i64 0, .int .i64 5]) ∧ w = w' := by
  obtain ⟨A, c, rfl, _⟩ := h.shape
  have h1 := h.com
  clear h
  go_enter Try.func14, Try.ntmps14
  go_wp2
  go_ret2
  exact ⟨rfl, rfl⟩

theorem rqueue_pop (w : World) (p o n bound : Nat) (cv : Value) (c : Int) (C : List Int) (V : Nat → Value) (L : Nat → List Int) (h : QAt w p o n bound cv (c :: C) V L) :
    Calls Try.prog 14 #[.pointer (some ⟨p, 0, none⟩)] w fun e w' => e = .returned (.tuple #[.int .i64 c, .int .i64 0]) ∧ Chg (· = p) w w' ∧ ∃ cv', QAt w' p o n bound cv' C V L ∧ cv'.ownBlock = cv.ownBlock := by
  obtain ⟨A, k, rfl, hk⟩ := h.shape
  simp only [List.length_cons] at hk
  obtain ⟨g, o', cap, he, _, hgl, hcell, _⟩ := h.csl.cell (j := 0) (by simp [cs])
  rw [cs_len] at he
  injection he with e1 e2 e3
  subst e1 e3
  have hcell' : w.cell? ⟨g, o', none⟩ = some (.int .i64 c) := by rw [Nat.add_zero] at hcell; rw [hcell]; rfl
  have h1 := h.com
  have h2 := h.fz
  simp only [List.length_cons] at h1
  have H := hid h
  have hm : C.length + 1 ≤ 65536 := by have := h.clen; have := h.bmax; simp at *; omega
  have hkm : k ≤ 9223372036854775807 := by
    rcases h.csl with ⟨hx, _⟩ | ⟨_, _, _, _, hx, _, _, _, h5, _⟩
    · cases hx
    · injection hx with _ _ e4
      unfold maxLen at h5
      omega
  clear h e2 hcell
  have hs0 := hid H.out.csl
  by_cases hk1 : k = 1
  · subst hk1
    have hC : C.length = 0 := by omega
    have hC' : C = [] := List.length_eq_zero_iff.1 hC
    subst hC'
    simp only [List.length_nil, Nat.zero_add] at h1
    go_enter Try.func14, Try.ntmps14
    go_wp2
    go_ret2
    exact ⟨rfl, by (repeat (first | with_reducible exact Chg.refl _ _ | with_reducible apply Chg.drewN | with_reducible apply Chg.drew | with_reducible apply Chg.alloc | (with_reducible refine Chg.setCell ?_ ?_ _; rotate_left; focus (first | (refine Or.inr ?_; first | omega | (simp; done) | (simp; omega)) | exact Or.inl (by assumption) | with_reducible exact Or.inl rfl | exact Or.inl (by simp))) | refine Chg.trans ?_ (Chg.of_below (by with_reducible assumption) (fun k h1 h2 => absurd h1 (by first | omega | (simp; omega)))) | refine Chg.trans ?_ (by with_reducible assumption))), _, H.out.recommon (Chg.refl _ _) _ [] hs0.out.dropAll (by simp) (.inl rfl), rfl⟩
  · have hk2 : 2 ≤ k := by omega
    go_enter Try.func14, Try.ntmps14
    go_wp2
    go_ret2
    have hn : Sl w 0 3 (.slice (some ⟨g, o' + 1, none⟩) C.length (k - 1)) (cs C) := by
      have := hs0.out.drop 1 (by simp)
      simpa [cs] using this
    exact ⟨rfl, by (repeat (first | with_reducible exact Chg.refl _ _ | with_reducible apply Chg.drewN | with_reducible apply Chg.drew | with_reducible apply Chg.alloc | (with_reducible refine Chg.setCell ?_ ?_ _; rotate_left; focus (first | (refine Or.inr ?_; first | omega | (simp; done) | (simp; omega)) | exact Or.inl (by assumption) | with_reducible exact Or.inl rfl | exact Or.inl (by simp))) | refine Chg.trans ?_ (Chg.of_below (by with_reducible assumption) (fun k h1 h2 => absurd h1 (by first | omega | (simp; omega)))) | refine Chg.trans ?_ (by with_reducible assumption))), _, H.out.recommon (Chg.refl _ _) _ C hn (by have := H.out.clen; simp at this; omega) (.inl rfl), rfl⟩

set_option maxRecDepth 100000 in
theorem rqueue_new (n bound : Nat) (w : World) (h1 : 1 ≤ n) (h2 : n ≤ 64) (h3 : bound ≤ 65536) :
    Calls Try.prog 12 #[.int .i64 n, .int .i64 bound] w fun e w' => ∃ p o : Nat, e = .returned (.tuple #[.pointer (some ⟨p, 0, none⟩), .int .i64 0]) ∧ w.heap.size ≤ p ∧ w.heap.size ≤ o ∧ Below w.heap.size w w' ∧
      QAt w' p o n bound (.slice none 0 0) [] (fun _ => .slice none 0 0) (fun _ => []) := by
  have hmk := run_make_row' (P := Try.prog) 45 38 (.slice none 0 0) 24 Try.underlying45 infoInts rfl .i64 .i64 n (by omega) (by omega)
  have h1' : (1 : Int) ≤ (n : Int) := by omega
  go_enter Try.func12, Try.ntmps12
  go_wp2
  go_ret2
  refine ⟨w.heap.size + 1, w.heap.size, rfl, by omega, by omega, by (repeat (first | with_reducible exact Below.refl _ _ | with_reducible apply bel_drewN.2 | with_reducible apply bel_drew.2 | (with_reducible refine Below.setCell ?_ ?_ _; rotate_left; focus (first | omega | (simp; done) | (simp; omega))) | (with_reducible refine Below.alloc ?_ ?_ _; rotate_left; focus (first | omega | (simp; done) | (simp; omega))) | refine bel_step (by with_reducible assumption) (by first | omega | (simp; done) | (simp; omega)) ?_)), queue_made _ _ _ n bound h1 h2 h3 (by omega) (by go_simp) (by go_simp) (by go_simp) (by go_simp) ?_⟩
  exact (World.rowIs_made w (.slice none 0 0) n 38).alloc _

theorem rqueue_new_bad (n bound : Int) (w : World) (h : n < 1 ∨ 64 < n ∨ bound < 0 ∨ 65536 < bound) :
    Calls Try.prog 12 #[.int .i64 n, .int .i64 bound] w fun e w' => e = .returned (.tuple #[.pointer none, .int .i64 2]) ∧ w = w' := by
  by_cases c1 : n < 1
  · clear h
    go_enter Try.func12, Try.ntmps12
    go_wp2
    go_ret2
    exact ⟨rfl, rfl⟩
  have d1 : 1 ≤ n := by omega
  by_cases c2 : 64 < n
  · clear h c1
    go_enter Try.func12, Try.ntmps12
    go_wp2
    go_ret2
    exact ⟨rfl, rfl⟩
  have d2 : n ≤ 64 := by omega
  by_cases c3 : bound < 0
  · clear h c1 c2
    go_enter Try.func12, Try.ntmps12
    go_wp2
    go_ret2
    exact ⟨rfl, rfl⟩
  have d3 : 0 ≤ bound := by omega
  have d4 : 65536 < bound := by omega
  clear h c1 c2 c3
  go_enter Try.func12, Try.ntmps12
  go_wp2
  go_ret2
  exact ⟨rfl, rfl⟩

theorem rqueue_push_out (w : World) (p o n bound : Nat) (cv : Value) (C : List Int) (V : Nat → Value) (L : Nat → List Int) (t c : Int) (h : QAt w p o n bound cv C V L) (hx : t < 0 ∨ (n : Int) ≤ t ∨ c < 0) :
    Calls Try.prog 19 #[.pointer (some ⟨p, 0, none⟩), .int .i64 t, .int .i64 c] w fun e w' => e = .returned (.tuple #[.slice none 0 0, .int .i64 2]) ∧ w = w' := by
  have h1 := h.own
  clear h
  by_cases c1 : t < 0
  · clear hx
    go_enter Try.func19, Try.ntmps19
    go_wp2
    go_ret2
    exact ⟨rfl, rfl⟩
  have d1 : 0 ≤ t := by omega
  by_cases c2 : (n : Int) ≤ t
  · clear hx c1
    go_enter Try.func19, Try.ntmps19
    go_wp2
    go_ret2
    exact ⟨rfl, rfl⟩
  have d2 : t < (n : Int) := by omega
  have d3 : c < 0 := by omega
  clear hx c1 c2
  go_enter Try.func19, Try.ntmps19
  go_wp2
  go_ret2
  exact ⟨rfl, rfl⟩


set_option maxRecDepth 100000 in
set_option maxHeartbeats 1000000 in
theorem rqueue_waiting (w : World) (p o n bound : Nat) (cv : Value) (C : List Int) (V : Nat → Value) (L : Nat → List Int) (h : QAt w p o n bound cv C V L) (hL : ∀ t, t < n → (L t).length ≤ 3) :
    Calls Try.prog 22 #[.pointer (some ⟨p, 0, none⟩)] w fun e w' => e = .returned (.int .i64 (C.length + (joins L n).length : Nat)) ∧ w = w' := by
  have H := hid h
  have h1 := h.own
  obtain ⟨A, k0, hcv, _⟩ := h.shape
  have h0 := h.com
  rw [hcv] at h0
  have hc := h.clen
  have hb := h.bmax
  have hn := h.n64
  have HL := hid hL
  have hj := joins_small hL
  clear h hL hcv
  go_enter Try.func22, Try.ntmps22
  go_wp2_with fail
  go_loopw [3, 4] (fun s3 i wr => ∃ k : Nat, k ≤ n ∧ i = .int .i64 k ∧ s3 = .int .i64 ((C.length + (joins L k).length : Nat) : Int) ∧ w = wr) (fun _ i _ => n - (intOf i).toNat)
  case atStart => exact ⟨0, by omega, rfl, rfl, rfl⟩
  case round =>
    obtain ⟨k, hk, rfl, rfl, rfl⟩ := hrel
    by_cases hlt : k < n
    · have hlt' : (k : Int) < (n : Int) := by omega
      have hcl := H.out.row.cell hlt
      obtain ⟨A, c, hv⟩ := (H.out.lists k hlt).shape
      rw [hv] at hcl
      have h2 := hid (show (joins L (k + 1)).length = (joins L k).length + (L k).length by show (joins L k ++ L k).length = _; rw [List.length_append])
      have h3 := joins_small (n := k) (fun t ht => HL.out t (by omega))
      have h4 := HL.out k hlt
      clear hv
      revert h2 h3 h4 hcl
      generalize (joins L k).length = a
      generalize (L k).length = d
      intro hcl h2 h3 h4
      go_wp2_with fail
      go_roundw
      case rel => exact ⟨k + 1, by omega, by go_num, by rw [h2.out]; go_num, by first | trivial | rfl⟩
      case measure => simp [intOf]; omega
    · obtain rfl : k = n := by omega
      go_wp2_with fail
      go_ret
      exact ⟨rfl, rfl⟩

set_option maxRecDepth 100000 in
set_option maxHeartbeats 2000000 in
theorem rqueue_push_short (w : World) (p o n bound : Nat) (cv : Value) (C : List Int) (V : Nat → Value) (L : Nat → List Int) (t c : Nat) (h : QAt w p o n bound cv C V L) (ht : t < n) (hl : (L t).length < 3) (hc : c ≤ 9223372036854775807) :
    Calls Try.prog 19 #[.pointer (some ⟨p, 0, none⟩), .int .i64 t, .int .i64 c] w fun e w' => e = .returned (.tuple #[.slice none 0 0, .int .i64 0]) ∧ Chg (QB p o n cv V) w w' ∧
      ∃ v', QAt w' p o n bound cv C (upd V t v') (upd L t (L t ++ [(c : Int)])) ∧ ∀ g, v'.ownBlock = some g → (V t).ownBlock = some g ∨ w.heap.size ≤ g := by
  have hl3 : ((L t).length : Int) + 1 < 4 := by omega
  obtain ⟨i0, hi, hz0, hz1, hz2⟩ := info_parts infoInt
  have H := hid h
  have h1 := h.own
  have h2 := h.row.cell ht
  have h3 := h.row.frozen t
  have hpl : p < w.heap.size := cell_lt h.bnd
  have hol : o < w.heap.size := h.row.lt
  have htn : (t : Int) < (n : Int) := by omega
  have hpo := h.po
  have hop : o ≠ p := fun e => hpo e.symm
  have hlo := hid (h.lists t ht)
  obtain ⟨A, k, hv⟩ := hlo.out.shape
  have hvp := hid (h.vp t ht)
  have hvo := hid (h.vo t ht)
  rw [hv] at h2 hlo hvp hvo
  have HV := hid hv
  clear h hv
  go_enter Try.func19, Try.ntmps19
  go_upto_region 3 with fail
  go_cut [6] (fun s6 wx => s6 = .slice none 0 0 ∧ ∃ g cap, QAt wx p o n bound cv C (upd V t (.slice (some ⟨g, 0, none⟩) ((L t).length + 1) cap)) (upd L t (L t ++ [(c : Int)])) ∧ Chg (QB p o n cv V) w wx ∧ ∀ x, (Value.slice (some ⟨g, 0, none⟩) ((L t).length + 1) cap).ownBlock = some x → (V t).ownBlock = some x ∨ w.heap.size ≤ x)
  case first =>
    go_region_law (first
      | (refine step_append_lies _ rfl (.tmp 36) (.tmp 38) 38 rfl 0 3 i0 (.int .i64 0) 1 8 Try.underlying38 hi hz0 hz1 hz2 rfl (by decide) (.slice A (L t).length k) (L t).length ((L t).map (Value.int .i64)) (by simp [Act.eval, Act.put]) (World.ownsRow.alloc (w := w.drew) hlo.out _) ⟨w.heap.size, 0, none⟩ 1 1 [.int .i64 (c : Int)] (by simp [Act.eval, Act.put]) rfl (one_lies rfl) (by intro u hu; simp at hu; subst hu; rfl) (by decide) (by unfold maxLen; omega) (by omega) (Nat.zero_le _) _ rfl ?_; intro g cap w1 hown hgrow hat hlt1; have hc1 : Chg (fun b => (Value.slice A (L t).length k).ownBlock = some b) w w1 := (((Chg.refl _ w).drew.alloc _).grown hgrow (fun b hb => .inl hb)); have h1' := (hc1.cell (o := 2) hpl hvp.out).trans h1; have hrow := hc1.row H.out.row hvo.out; have h2' := hrow.cell ht; have h3' := hrow.frozen t; have HC := hid hc1; have HO := hid hown; have HAT := hid hat; clear hc1 hown hgrow hat hrow))
    all_goals (
      go_wp2_with fail
      go_meet
      have hv := HV.out
      have hc1 : Chg (fun b => (V t).ownBlock = some b) w w1 := by rw [hv]; exact HC.out
      have hown : OwnInts 0 w1 (.slice (some ⟨g, 0, none⟩) ((L t).length + 1) cap) (L t ++ [(c : Int)]) := by
        have := HO.out
        unfold OwnInts
        rw [List.map_append, List.length_append]
        exact this
      have hb : ∀ x, (Value.slice (some ⟨g, 0, none⟩) ((L t).length + 1) cap).ownBlock = some x → (V t).ownBlock = some x ∨ w.heap.size ≤ x := fun x hx => by
        have e : g = x := by simpa [Value.ownBlock] using hx
        subst e
        rw [hv]
        rcases HAT.out with h | h
        · exact .inl h
        · exact .inr (by first | omega | (simp at h; omega))
      have hcc : Chg (QB p o n cv V) w w1 := hc1.mono (fun k _ hk => .inr (.inr (.inr ⟨t, ht, hk⟩)))
      exact ⟨rfl, _, _, H.out.relist t ht hc1 _ _ hown hb, hcc.setCell (.inl (.inr (.inl rfl))) _, hb⟩)
  case rest =>
  obtain ⟨rfl, g, cap, hq2, hcc2, hb⟩ := hcut
  have HQ := hid hq2
  have HCC := hid hcc2
  have HB := hid hb
  have b2 := hq2.own
  have b3 := hq2.row.cell ht
  rw [upd_same] at b3
  clear hq2 hcc2 hb
  go_wp2
  go_ret2
  exact ⟨rfl, HCC.out, _, HQ.out, HB.out⟩
end Go.Proofs.Ythmjjmimmbgpaaa
