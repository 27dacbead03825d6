/-
  Contracts of the reference of layer 5: references, objects, fillers.
-/
import Derived.Test.YthmjjmimmbgpaaaParseRef
set_option linter.unusedVariables false
set_option linter.unusedSimpArgs false
namespace Go.Proofs.Ythmjjmimmbgpaaa
open Go.RowKit

theorem ownInts_base {B D : Nat} {w : World} {t : Value} {l : List Int} (h : OwnInts B w t l) (hD : D ≤ B) : OwnInts D w t l := by
  obtain ⟨h1, h2⟩ := h
  refine ⟨h1, ?_⟩
  rcases h2 with h2 | ⟨g, cap, cur, hv, hg, r⟩
  · exact .inl h2
  · exact .inr ⟨g, cap, cur, hv, Nat.le_trans hD hg, r⟩

set_option maxRecDepth 100000 in
set_option maxHeartbeats 2000000 in
theorem ref_fields (w : World) (r n : Nat) (f : Nat → Int) (z : Int) (hz : (Lit.int .i64 z).wf = true) (h : Rw w r n f) :
    Calls Try.prog 43 #[.slice (some ⟨r, 0, none⟩) n n, .int .i64 z] w
      fun e w' => Chg (fun _ => False) w w' ∧ ∃ t, e = .returned (.tuple #[t, .int .i64 (fieldsOf n (atOf n f z) z).2]) ∧ OwnInts w.heap.size w' t (fieldsOf n (atOf n f z) z).1 := by
  have HP := hid (ref_at w r n f z hz h)
  have hn := h.2.2
  have hrl := h.lt
  clear h hz
  by_cases hin : 0 ≤ z ∧ z < n
  · obtain ⟨k, rfl⟩ := Int.eq_ofNat_of_zero_le hin.1
    have hk : k < n := by omega
    have hat : atOf n f k = inAt (f k) := by unfold atOf; rw [if_pos hin, Int.toNat_natCast]
    rw [hat] at HP ⊢
    have hc0 := hid (inAt_cases (f k))
    clear hat hin
    revert HP hc0
    generalize inAt (f k) = I
    generalize hdr (f k) = J
    intro HP hc0
    obtain ⟨jk, js, jp, ja, jt, je⟩ := J
    rcases hc0.out with ⟨rfl, g1, g2, g3, g4, g5, g6, g7⟩ | ⟨rfl, g1⟩
    · have g1' : je = 0 := g1
      subst g1'
      obtain ⟨S, rfl⟩ : ∃ S : Nat, js = S := ⟨js.toNat, by have : 1 ≤ js := g4; omega⟩
      obtain ⟨M, rfl⟩ : ∃ M : Nat, jp = M := ⟨jp.toNat, by have : 0 ≤ jp := g6; omega⟩
      have g5' : S ≤ 1048576 := by have : (S : Int) ≤ 1048576 := g5; omega
      have g7' : M < S := by have : (M : Int) < (S : Int) := g7; omega
      clear g1 g2 g3 g4 g5 g6 g7 hc0
      simp only [rets] at HP
      have hbad : ¬ (jk = 1 ∧ (S : Int) ≤ (n : Int) - (k : Int)) → fieldsOf n ⟨jk, S, M, ja, jt, 0⟩ k = ([], 30) := fun hx => by unfold fieldsOf; rw [if_pos rfl, if_neg hx]
      have HBAD := hid hbad
      have hgood : (jk = 1 ∧ (S : Int) ≤ (n : Int) - (k : Int)) → fieldsOf n ⟨jk, S, M, ja, jt, 0⟩ k = (refsOf k M, 0) := fun hx => by unfold fieldsOf; rw [if_pos rfl, if_pos hx, Int.toNat_natCast]
      have HGOOD := hid hgood
      clear hbad hgood
      by_cases hk1 : jk = 1
      · subst hk1
        by_cases hsz : (S : Int) ≤ (n : Int) - (k : Int)
        · rw [HGOOD.out ⟨rfl, hsz⟩]
          clear HGOOD HBAD
          obtain ⟨i0, hi, hz0, hz1, hz2⟩ := info_parts infoInt
          obtain ⟨D, hD⟩ : ∃ D : Nat, D = w.heap.size := ⟨_, rfl⟩
          have hrD : r < D := by omega
          have HD := hid hD
          rw [← hD]
          clear hD
          have HS := hid hsz
          clear hsz
          go_enter Try.func43, Try.ntmps43
          go_wp2_with (first
            | (go_at_call 42; refine HP.out.mono ?_; rintro e w1 ⟨rfl, hb1⟩; have HB1 := hid hb1; have hsz1 : D ≤ w1.heap.size := (by have h9 := hb1.size; have h8 := HD.out; omega); clear hb1)
            | (go_at_call 39; refine (ref_row_yes _ r n k S hn (by omega) (by omega) (by omega) HS.out).mono ?_; rintro e w' ⟨rfl, rfl⟩))
          obtain ⟨B, hB⟩ : ∃ B : Nat, B = w1.heap.size + 1 := ⟨_, rfl⟩
          have HB := hid hB
          clear hB
          go_loopw [8, 9] (fun v i wr => ∃ m : Nat, m ≤ M ∧ i = .int .i64 ((m : Int) + 1) ∧ OwnInts B wr v (refsOf k m) ∧ Chg (fun g => B ≤ g) (w1.alloc (.cells #[.int .i64 1, .int .i64 (S : Int), .int .i64 (M : Int), .int .i64 ja, .int .i64 jt] 73)) wr ∧ wr.cell? ⟨w1.heap.size, 2, none⟩ = some (.int .i64 (M : Int))) (fun _ i _ => M + 1 - (intOf i).toNat)
          case atStart => exact ⟨0, by omega, rfl, ownInts_nil _ _, Chg.refl _ _, by go_simp⟩
          case round =>
            obtain ⟨m, hm, rfl, hown0, hcw, hptr⟩ := hrel
            have hO := hid hown0
            have HC := hid hcw
            have hsw : B ≤ wr.heap.size := by have := hcw.size; simp only [World.size_alloc] at this; rw [HB.out]; exact this
            have hsw2 : w1.heap.size < wr.heap.size := by have := HB.out; omega
            clear hown0 hcw
            by_cases hlt : m < M
            · have hlt' : (m : Int) + 1 ≤ (M : Int) := by omega
              go_wp2_with (first
                | (at_builtin; refine wpList_append_own _ rfl _ _ 38 rfl B 3 i0 (.int .i64 0) 1 8 Try.underlying38 hi hz0 hz1 hz2 rfl (by decide) _ _ _ rfl ((hO.out.chg ((Chg.refl (fun _ => False) _).alloc _) (by simp))) ⟨wr.heap.size, 0, none⟩ 1 1 [.int .i64 ((k : Int) + ((m : Int) + 1))] rfl rfl ?c1 ?c2 ?c3 ?c4 ?c5 ?_))
              case c1 => exact one_lies (by simp)
              case c2 => intro u hu; simp at hu; subst hu; rfl
              case c3 => have hl9 := refs_length (k : Int) m; unfold maxLen; omega
              case c4 => have hl9 := refs_length (k : Int) m; omega
              case c5 => simp; omega
              intro v' w2 hown' hgrow hblk
              have hO' := hid hown'
              have HC2 := hid (HC.out.trans (((Chg.refl (fun g => B ≤ g) _).alloc _).grown hgrow (fun g hg => .inl (hO.out.lt g hg).1)))
              have hptr2 : w2.cell? ⟨w1.heap.size, 2, none⟩ = some (.int .i64 (M : Int)) := (World.cell?_of_block (a := ⟨w1.heap.size, 2, none⟩) (hgrow.block w1.heap.size (by simp; omega) (fun e => by have h9 := (hO.out.lt _ e.symm).1; have h8 := HB.out; omega))).trans (by go_simp)
              clear hown' hgrow hblk hptr
              go_wp2_with fail
              go_roundw
              case rel =>
                refine ⟨m + 1, by omega, by go_num, ?_, HC2.out, hptr2⟩
                have := hO'.out
                unfold OwnInts
                rw [refs_succ, List.map_append, List.length_append, Int.add_assoc, Int.add_comm 1]
                exact this
              case measure => simp [intOf]; omega
            · obtain rfl : m = M := by omega
              have hge : decide ((m : Int) + 1 ≤ (m : Int)) = false := by simp; omega
              go_wp2_with fail
              go_ret2
              exact ⟨((Chg.of_below HB1.out (fun k h1 h2 => by omega)).alloc _).next HC.out (fun g hg h => by have h9 := HD.out; have h8 := HB.out; omega), _, rfl, ownInts_base hO.out (by have h8 := HB.out; omega)⟩
        · rw [HBAD.out (fun h => hsz h.2)]
          have HS := hid (show (k : Int) < 0 ∨ (S : Int) < 0 ∨ (n : Int) < (k : Int) ∨ (n : Int) - (k : Int) < (S : Int) by omega)
          clear HGOOD HBAD hsz
          go_enter Try.func43, Try.ntmps43
          go_wp2_with (first
            | (go_at_call 42; refine HP.out.mono ?_; rintro e w1 ⟨rfl, hb1⟩; have HB1 := hid hb1; clear hb1)
            | (go_at_call 39; refine (ref_row_no _ r n k S hn HS.out).mono ?_; rintro e w' ⟨rfl, rfl⟩))
          go_ret2
          exact ⟨(Chg.of_below HB1.out (fun k h1 h2 => by omega)).alloc _, _, rfl, ownInts_nil _ _⟩
      · rw [HBAD.out (fun h => hk1 h.1)]
        have hd : (jk != 1) = true := by simp; omega
        have hd2 : (jk == 1) = false := eqb_false hk1
        clear HGOOD HBAD
        go_enter Try.func43, Try.ntmps43
        go_wp2_with (go_at_call 42; refine HP.out.mono ?_; rintro e w1 ⟨rfl, hb1⟩; have HB1 := hid hb1; clear hb1)
        go_ret2
        exact ⟨(Chg.of_below HB1.out (fun k h1 h2 => by omega)).alloc _, _, rfl, ownInts_nil _ _⟩
    · simp only [rets] at HP
      have e : fieldsOf n ⟨0, 0, 0, 0, 0, 30⟩ k = ([], 30) := by unfold fieldsOf; rw [if_neg (by simp)]
      rw [e]
      clear hc0 g1
      go_enter Try.func43, Try.ntmps43
      go_wp2_with (go_at_call 42; refine HP.out.mono ?_; rintro e w1 ⟨rfl, hb1⟩; have HB1 := hid hb1; clear hb1)
      go_ret2
      exact ⟨(Chg.of_below HB1.out (fun k h1 h2 => by omega)).alloc _, _, rfl, ownInts_nil _ _⟩
  · have hat : atOf n f z = ⟨0, 0, 0, 0, 0, 2⟩ := by unfold atOf; rw [if_neg hin]
    rw [hat] at HP ⊢
    simp only [rets] at HP
    have e : fieldsOf n ⟨0, 0, 0, 0, 0, 2⟩ z = ([], 2) := by unfold fieldsOf; rw [if_neg (by simp)]
    rw [e]
    clear hat hin
    go_enter Try.func43, Try.ntmps43
    go_wp2_with (go_at_call 42; refine HP.out.mono ?_; rintro e w1 ⟨rfl, hb1⟩; have HB1 := hid hb1; clear hb1)
    go_ret2
    exact ⟨(Chg.of_below HB1.out (fun k h1 h2 => by omega)).alloc _, _, rfl, ownInts_nil _ _⟩

set_option maxRecDepth 100000 in
set_option maxHeartbeats 1000000 in
theorem ref_make_shape (w : World) (r n : Nat) (z s pt : Int) (hR : ¬ Right 1 s pt 0 0) :
    Calls Try.prog 26 #[.slice (some ⟨r, 0, none⟩) n n, .int .i64 z, .int .i64 s, .int .i64 pt] w
      fun e w' => e = .returned (.int .i64 3) ∧ Chg (fun _ => False) w w' := by
  have HR := hid hR
  clear hR
  go_enter Try.func26, Try.ntmps26
  go_wp2_with (go_at_call 38; refine (rpack_wrong 1 s pt 0 0 _ HR.out).mono ?_; rintro e w' ⟨rfl, rfl⟩)
  go_ret
  exact ⟨rfl, by (repeat (first | with_reducible exact Chg.refl _ _ | with_reducible apply Chg.drewN | with_reducible apply Chg.drew | with_reducible apply Chg.alloc | (with_reducible refine Chg.setCell ?_ ?_ _; rotate_left; focus (first | (refine Or.inr ?_; first | omega | (simp; done) | (simp; omega)) | exact Or.inl (by assumption) | with_reducible exact Or.inl rfl | exact Or.inl (by simp))) | refine Chg.trans ?_ (Chg.of_below (by with_reducible assumption) (fun k h1 h2 => absurd h1 (by first | omega | (simp; omega)))) | refine Chg.trans ?_ (by with_reducible assumption)))⟩

set_option maxRecDepth 100000 in
set_option maxHeartbeats 1000000 in
theorem ref_make_range (w : World) (r n : Nat) (z s pt : Int) (hn : n ≤ 4194304) (hR : Right 1 s pt 0 0) (hk : z < 0 ∨ (n : Int) < z + s) :
    Calls Try.prog 26 #[.slice (some ⟨r, 0, none⟩) n n, .int .i64 z, .int .i64 s, .int .i64 pt] w
      fun e w' => e = .returned (.int .i64 2) ∧ Chg (fun _ => False) w w' := by
  have HX := hid (show z < 0 ∨ s < 0 ∨ (n : Int) < z ∨ (n : Int) - z < s by omega)
  have HR := hid hR
  clear hR hk
  go_enter Try.func26, Try.ntmps26
  go_wp2_with (first
    | (go_at_call 38; refine (rpack_right 1 s pt 0 0 _ HR.out).mono ?_; rintro e w' ⟨rfl, rfl⟩)
    | (go_at_call 39; refine (ref_row_no _ r n z s hn HX.out).mono ?_; rintro e w' ⟨rfl, rfl⟩))
  go_ret
  exact ⟨rfl, by (repeat (first | with_reducible exact Chg.refl _ _ | with_reducible apply Chg.drewN | with_reducible apply Chg.drew | with_reducible apply Chg.alloc | (with_reducible refine Chg.setCell ?_ ?_ _; rotate_left; focus (first | (refine Or.inr ?_; first | omega | (simp; done) | (simp; omega)) | exact Or.inl (by assumption) | with_reducible exact Or.inl rfl | exact Or.inl (by simp))) | refine Chg.trans ?_ (Chg.of_below (by with_reducible assumption) (fun k h1 h2 => absurd h1 (by first | omega | (simp; omega)))) | refine Chg.trans ?_ (by with_reducible assumption)))⟩

set_option maxRecDepth 100000 in
set_option maxHeartbeats 1000000 in
theorem ref_make (w : World) (r n : Nat) (f : Nat → Int) (k s : Nat) (pt : Int) (h : Rw w r n f) (hR : Right 1 s pt 0 0) (hk : k + s ≤ n) :
    Calls Try.prog 26 #[.slice (some ⟨r, 0, none⟩) n n, .int .i64 k, .int .i64 s, .int .i64 pt] w
      fun e w' => e = .returned (.int .i64 0) ∧ Chg (· = r) w w' ∧ Rw w' r n (made f k s pt) := by
  have hn := h.2.2
  have hrl := h.lt
  have hs1 : 1 ≤ s := by unfold Right at hR; omega
  have hs2 : s ≤ 1048576 := by unfold Right at hR; omega
  have hw := word_bounds hR
  have HR := hid hR
  have HA := hid h
  clear h hR
  revert hw HR
  generalize hW : wordOf 1 s pt 0 0 = W
  have HW := hid hW
  clear hW
  intro hw HR
  go_enter Try.func26, Try.ntmps26
  go_wp2_with (first
    | (go_at_call 38; refine (rpack_right 1 s pt 0 0 _ HR.out).mono ?_; rintro e w' ⟨rfl, rfl⟩)
    | (go_at_call 39; refine (ref_row_yes _ r n k s hn (by omega) (by omega) (by omega) (by omega)).mono ?_; rintro e w' ⟨rfl, rfl⟩))
  go_loopw [11] (fun i wr => ∃ j : Nat, j ≤ s ∧ i = .int .i64 j ∧ Rw wr r n (fun i => if k ≤ i ∧ i < k + j then 0 else f i) ∧ Chg (· = r) w wr) (fun i _ => s - (intOf i).toNat)
  case atStart => exact ⟨0, by omega, rfl, (HA.out.chg (S := fun _ => False) (by (repeat (first | with_reducible exact Chg.refl _ _ | with_reducible apply Chg.drewN | with_reducible apply Chg.drew | with_reducible apply Chg.alloc | (with_reducible refine Chg.setCell ?_ ?_ _; rotate_left; focus (first | (refine Or.inr ?_; first | omega | (simp; done) | (simp; omega)) | exact Or.inl (by assumption) | with_reducible exact Or.inl rfl | exact Or.inl (by simp))) | refine Chg.trans ?_ (Chg.of_below (by with_reducible assumption) (fun k h1 h2 => absurd h1 (by first | omega | (simp; omega)))) | refine Chg.trans ?_ (by with_reducible assumption)))) (by simp)).congr (fun i _ => by rw [if_neg (by omega)]), by (repeat (first | with_reducible exact Chg.refl _ _ | with_reducible apply Chg.drewN | with_reducible apply Chg.drew | with_reducible apply Chg.alloc | (with_reducible refine Chg.setCell ?_ ?_ _; rotate_left; focus (first | (refine Or.inr ?_; first | omega | (simp; done) | (simp; omega)) | exact Or.inl (by assumption) | with_reducible exact Or.inl rfl | exact Or.inl (by simp))) | refine Chg.trans ?_ (Chg.of_below (by with_reducible assumption) (fun k h1 h2 => absurd h1 (by first | omega | (simp; omega)))) | refine Chg.trans ?_ (by with_reducible assumption)))⟩
  case round =>
    obtain ⟨j, hj, rfl, hrw, hcw⟩ := hrel
    have HC := hid hcw
    have HRW := hid hrw
    by_cases hlt : j < s
    · have hcell := hrw.1.cell (show k + j < n by omega)
      have hfz := hrw.1.frozen (k + j)
      have hkj : (k : Int) + (j : Int) < (n : Int) := by omega
      clear hrw hcw
      go_wp2_with fail
      go_roundw
      case rel =>
        refine ⟨j + 1, by omega, by go_num, (HRW.out.store (k + j) 0 (by omega) (by omega)).congr (fun i _ => ?_), by (repeat (first | with_reducible exact HC.out | with_reducible exact Chg.refl _ _ | with_reducible apply Chg.drewN | with_reducible apply Chg.drew | with_reducible apply Chg.alloc | (with_reducible refine Chg.setCell ?_ ?_ _; rotate_left; focus (first | (refine Or.inr ?_; first | omega | (simp; done) | (simp; omega)) | exact Or.inl (by assumption) | with_reducible exact Or.inl rfl | exact Or.inl (by simp))) | refine Chg.trans ?_ (Chg.of_below (by with_reducible assumption) (fun k h1 h2 => absurd h1 (by first | omega | (simp; omega)))) | refine Chg.trans ?_ (by with_reducible assumption)))⟩
        by_cases e1 : i = k + j
        · rw [if_pos e1, if_pos (by omega)]
        · rw [if_neg e1]
          by_cases e2 : k ≤ i ∧ i < k + j
          · rw [if_pos e2, if_pos (by omega)]
          · rw [if_neg e2, if_neg (by omega)]
      case measure => simp [intOf]; omega
    · obtain rfl : j = s := by omega
      have hcell := hrw.1.cell (show k < n by omega)
      have hfz := hrw.1.frozen k
      clear hrw hcw
      go_wp2_with fail
      go_ret
      exact ⟨rfl, by (repeat (first | with_reducible exact HC.out | with_reducible exact Chg.refl _ _ | with_reducible apply Chg.drewN | with_reducible apply Chg.drew | with_reducible apply Chg.alloc | (with_reducible refine Chg.setCell ?_ ?_ _; rotate_left; focus (first | (refine Or.inr ?_; first | omega | (simp; done) | (simp; omega)) | exact Or.inl (by assumption) | with_reducible exact Or.inl rfl | exact Or.inl (by simp))) | refine Chg.trans ?_ (Chg.of_below (by with_reducible assumption) (fun k h1 h2 => absurd h1 (by first | omega | (simp; omega)))) | refine Chg.trans ?_ (by with_reducible assumption))), (HRW.out.store k (wordOf 1 j pt 0 0) (by rw [HW.out]; exact hw.1) (by rw [HW.out]; exact hw.2)).congr (fun i _ => rfl)⟩

set_option maxRecDepth 100000 in
set_option maxHeartbeats 1000000 in
theorem ref_fill (w : World) (r n : Nat) (f : Nat → Int) (a b : Nat) (h : Rw w r n f) (h1 : a ≤ b) (h2 : b ≤ n) (hn : n ≤ 1048576) :
    Calls Try.prog 28 #[.slice (some ⟨r, 0, none⟩) n n, .int .i64 a, .int .i64 b] w
      fun e w' => e = .returned (.int .i64 0) ∧ Chg (· = r) w w' ∧ Rw w' r n (filled f a b) := by
  have HA := hid h
  have hrl := h.lt
  have hba : decide (b < a) = false := by simp; omega
  have hnb : decide (n < b) = false := by simp; omega
  have hab : (a : Int) ≤ (b : Int) := by omega
  have hbn : (b : Int) ≤ (n : Int) := by omega
  clear h
  go_enter Try.func28, Try.ntmps28
  go_wp2_with fail
  go_loopw [1] (fun i wr => (i = .int .i64 a ∧ wr = w) ∨ (i = .int .i64 b ∧ a < b ∧ Chg (· = r) w wr ∧ Rw wr r n (filled f a b))) (fun i _ => b - (intOf i).toNat)
  case atStart => exact .inl ⟨rfl, rfl⟩
  case round =>
    rcases hrel with ⟨rfl, rfl⟩ | ⟨rfl, hlt, hc, har⟩
    · by_cases hlt : a < b
      · have hlt' : (a : Int) < (b : Int) := by omega
        obtain ⟨d, hd⟩ : ∃ d : Int, d = (b : Int) - (a : Int) := ⟨_, rfl⟩
        have hd1 : 1 ≤ d := by omega
        have hd2 : d ≤ 1048576 := by omega
        have e1 : IntKind.i64.wrap ((b : Int) - (a : Int)) = d := by rw [← hd]; exact IntWalk.i64_in _ (by omega)
        have e2 : IntKind.i64.wrap ((a : Int) + d) = (b : Int) := by rw [show (a : Int) + d = b by omega]; exact IntWalk.i64_in _ (by omega)
        have hR : Right 2 d 0 0 0 := .inr (.inr (.inl ⟨rfl, by omega, by omega, rfl, rfl, rfl⟩))
        have HR := hid hR
        have HW := hid (word_bounds hR)
        have HD := hid hd
        have hcell := HA.out.1.cell (show a < n by omega)
        have hfz := HA.out.1.frozen a
        have han : (a : Int) < (n : Int) := by omega
        clear hd hR
        go_wp2_with (first
          | (go_at_call 38; refine (rpack_right 2 d 0 0 0 _ HR.out).mono ?_; rintro e w' ⟨rfl, rfl⟩))
        go_roundw
        case rel =>
          refine .inr ⟨by first | rfl | go_num | simp [e2], hlt, by (repeat (first | with_reducible exact Chg.refl _ _ | with_reducible apply Chg.drewN | with_reducible apply Chg.drew | with_reducible apply Chg.alloc | (with_reducible refine Chg.setCell ?_ ?_ _; rotate_left; focus (first | (refine Or.inr ?_; first | omega | (simp; done) | (simp; omega)) | exact Or.inl (by assumption) | with_reducible exact Or.inl rfl | exact Or.inl (by simp))) | refine Chg.trans ?_ (Chg.of_below (by with_reducible assumption) (fun k h1 h2 => absurd h1 (by first | omega | (simp; omega)))) | refine Chg.trans ?_ (by with_reducible assumption))), ?_⟩
          have hs : Rw _ r n (filled f a b) := (HA.out.store a (wordOf 2 d 0 0 0) HW.out.1 HW.out.2).congr (fun i _ => by
            unfold filled
            rw [HD.out]
            by_cases hi : i = a
            · rw [if_pos hi, if_pos ⟨hi, hlt⟩]
            · rw [if_neg hi, if_neg (fun h => hi h.1)])
          exact hs.chg (S := fun _ => False) (by (repeat (first | with_reducible exact Chg.refl _ _ | with_reducible apply Chg.drewN | with_reducible apply Chg.drew | with_reducible apply Chg.alloc | (with_reducible refine Chg.setCell ?_ ?_ _; rotate_left; focus (first | (refine Or.inr ?_; first | omega | (simp; done) | (simp; omega)) | exact Or.inl (by assumption) | with_reducible exact Or.inl rfl | exact Or.inl (by simp))) | refine Chg.trans ?_ (Chg.of_below (by with_reducible assumption) (fun k h1 h2 => absurd h1 (by first | omega | (simp; omega)))) | refine Chg.trans ?_ (by with_reducible assumption)))) (by simp)
        case measure => simp [intOf]; omega
      · obtain rfl : a = b := by omega
        go_wp2_with fail
        go_ret
        refine ⟨rfl, Chg.refl _ _, ?_⟩
        have e : filled f a a = f := by funext i; unfold filled; rw [if_neg (by omega)]
        rw [e]; exact HA.out
    · go_wp2_with fail
      go_ret
      exact ⟨rfl, hc, har⟩
end Go.Proofs.Ythmjjmimmbgpaaa
