/-
  Contracts of the reference of layer 5.
-/
import Derived.Test.YthmjjmimmbgpaaaParse4
set_option linter.unusedVariables false
set_option linter.unusedSimpArgs false
namespace Go.Proofs.Ythmjjmimmbgpaaa
open Go.RowKit

/-- a row of words -/
def Rw (w : World) (r n : Nat) (f : Nat → Int) : Prop := w.rowIs r 57 n (fun i => .int .u64 (f i)) ∧ (∀ i, i < n → 0 ≤ f i ∧ f i ≤ 18446744073709551615) ∧ n ≤ 4194304
theorem Rw.chg {S : Nat → Prop} {w w' : World} {r n : Nat} {f : Nat → Int} (h : Rw w r n f) (c : Chg S w w') (hr : ¬ S r) : Rw w' r n f := ⟨c.row h.1 hr, h.2⟩
theorem Rw.lt {w : World} {r n : Nat} {f : Nat → Int} (h : Rw w r n f) : r < w.heap.size := h.1.lt
theorem Rw.same {w : World} {r n : Nat} {f : Nat → Int} (h : Rw w r n f) {w' : World} (c : Below w.heap.size w w') : Rw w' r n f := h.chg (Chg.of_below (S := fun _ => False) c (fun k h1 h2 => by omega)) (by simp)
theorem Rw.store {w : World} {r n : Nat} {f : Nat → Int} (h : Rw w r n f) (k : Nat) (v : Int) (h0 : 0 ≤ v) (h1 : v ≤ 18446744073709551615) : Rw (w.setCell ⟨r, k, none⟩ (.int .u64 v)) r n (fun i => if i = k then v else f i) := by
  refine ⟨(h.1.set k _).congr (fun j _ => by by_cases e : j = k <;> simp [e]), fun i hi => ?_, h.2.2⟩
  by_cases e : i = k
  · simp only [e, if_true]; exact ⟨h0, h1⟩
  · simp only [if_neg e]; exact h.2.1 i hi
theorem Rw.congr {w : World} {r n : Nat} {f g : Nat → Int} (h : Rw w r n f) (e : ∀ i, i < n → f i = g i) : Rw w r n g :=
  ⟨h.1.congr fun i hi => by rw [e i hi], fun i hi => by rw [← e i hi]; exact h.2.1 i hi, h.2.2⟩

theorem ref_row_yes (w : World) (r n : Nat) (z m : Int) (hn : n ≤ 4194304) (h0 : 0 ≤ z) (h1 : 0 ≤ m) (h2 : z ≤ n) (h3 : m ≤ n - z) :
    Calls Try.prog 39 #[.slice (some ⟨r, 0, none⟩) n n, .int .i64 z, .int .i64 m] w fun e w' => e = .returned (.bool true) ∧ w = w' := by
  have e1 : IntKind.i64.wrap ((n : Int) - z) = (n : Int) - z := IntWalk.i64_in _ (by omega)
  go_enter Try.func39, Try.ntmps39
  go_wp2
  go_ret
  exact ⟨rfl, rfl⟩
theorem ref_row_no (w : World) (r n : Nat) (z m : Int) (hn : n ≤ 4194304) (h : z < 0 ∨ m < 0 ∨ (n : Int) < z ∨ (n : Int) - z < m) :
    Calls Try.prog 39 #[.slice (some ⟨r, 0, none⟩) n n, .int .i64 z, .int .i64 m] w fun e w' => e = .returned (.bool false) ∧ w = w' := by
  by_cases c1 : z < 0
  · clear h
    go_enter Try.func39, Try.ntmps39
    go_wp2
    go_ret
    exact ⟨rfl, rfl⟩
  have d1 : 0 ≤ z := by omega
  by_cases c2 : m < 0
  · clear h c1
    go_enter Try.func39, Try.ntmps39
    go_wp2
    go_ret
    exact ⟨rfl, rfl⟩
  have d2 : 0 ≤ m := by omega
  by_cases c3 : (n : Int) < z
  · clear h c1 c2
    go_enter Try.func39, Try.ntmps39
    go_wp2
    go_ret
    exact ⟨rfl, rfl⟩
  have d3 : z ≤ (n : Int) := by omega
  have d4 : (n : Int) - z < m := by omega
  have e1 : IntKind.i64.wrap ((n : Int) - z) = (n : Int) - z := IntWalk.i64_in _ (by omega)
  have hd : decide (m ≤ (n : Int) - z) = false := by simp; omega
  clear h c1 c2 c3
  go_enter Try.func39, Try.ntmps39
  go_wp2
  go_ret
  exact ⟨rfl, rfl⟩

set_option maxRecDepth 100000 in
set_option maxHeartbeats 1000000 in
theorem ref_at (w : World) (r n : Nat) (f : Nat → Int) (z : Int) (hz : (Lit.int .i64 z).wf = true) (h : Rw w r n f) :
    Calls Try.prog 42 #[.slice (some ⟨r, 0, none⟩) n n, .int .i64 z] w fun e w' => e = rets (atOf n f z) ∧ Below w.heap.size w w' := by
  have hn := h.2.2
  by_cases hin : 0 ≤ z ∧ z < n
  · obtain ⟨k, rfl⟩ := Int.eq_ofNat_of_zero_le hin.1
    have hk : k < n := by omega
    have hrl := h.lt
    have hx := h.2.1 k hk
    have hcell : w.cell? ⟨r, k, none⟩ = some (.int .u64 (f k)) := h.1.cell hk
    have hat : atOf n f k = inAt (f k) := by unfold atOf; rw [if_pos hin, Int.toNat_natCast]
    rw [hat]
    have HU := hid (hdr_runpack (f k) hx.1 hx.2)
    have hc0 := hid (inAt_cases (f k))
    have hc1 := hid (hdr_cases (f k))
    clear hx hat hin hz h
    revert hcell HU hc0 hc1
    generalize inAt (f k) = I
    generalize hdr (f k) = J
    obtain ⟨jk, js, jp, ja, jt, je⟩ := J
    generalize f k = x
    intro hcell HU hc0 hc1
    rcases hc0.out with ⟨rfl, h1, h2, hjunk⟩ | ⟨rfl, h1⟩
    · have h1' : je = 0 := h1
      subst h1'
      have hb1 : (jk == 0) = false := eqb_false h2
      have hb2 : ¬ jk = 0 := h2
      clear h1 h2 hjunk hc0 hc1
      go_enter Try.func42, Try.ntmps42
      go_wp2_with (first
        | (go_at_call 39; refine (ref_row_yes _ r n k 1 hn (by omega) (by omega) (by omega) (by omega)).mono ?_; rintro e w' ⟨rfl, rfl⟩)
        | (go_at_call 50; refine (HU.out _).mono ?_; rintro e w1 ⟨rfl, hb⟩; have hb_0 := fun o => (hb).cell (p := ⟨w.heap.size, o, none⟩) (by first | omega | (simp; done) | (simp; omega)); have hbf_0 := fun o => (hb).frozen (p := ⟨w.heap.size, o, none⟩) (by first | omega | (simp; done) | (simp; omega)); have hbl_0 : w.heap.size < w1.heap.size := (by have := (hb).size; (try simp at this); omega); have hbm_0 := Nat.le_of_lt hbl_0))
      refine bodyPost_ret (v := .tuple #[.agg #[.int .i64 jk, .int .i64 js, .int .i64 jp, .int .i64 ja, .int .i64 jt], .int .i64 0]) (by simp [results, Try.results42, go_sem, hb_0, hbl_0, hbm_0]) rfl ⟨rfl, ?_⟩
      (repeat (first | with_reducible exact Below.refl _ _ | with_reducible apply bel_drewN.2 | with_reducible apply bel_drew.2 | (with_reducible refine Below.setCell ?_ ?_ _; rotate_left; focus (first | omega | (simp; done) | (simp; omega))) | (with_reducible refine Below.alloc ?_ ?_ _; rotate_left; focus (first | omega | (simp; done) | (simp; omega))) | refine bel_step (by with_reducible assumption) (by first | omega | (simp; done) | (simp; omega)) ?_))
    · have h1' : jk = 0 := h1
      subst h1'
      rcases hc1.out with ⟨h3, _⟩ | ⟨h3, _⟩
      · have h3' : je = 0 := h3
        subst h3'
        clear h1 h3 hc0 hc1
        go_enter Try.func42, Try.ntmps42
        go_wp2_with (first
          | (go_at_call 39; refine (ref_row_yes _ r n k 1 hn (by omega) (by omega) (by omega) (by omega)).mono ?_; rintro e w' ⟨rfl, rfl⟩)
          | (go_at_call 50; refine (HU.out _).mono ?_; rintro e w1 ⟨rfl, hb⟩; have hb_0 := fun o => (hb).cell (p := ⟨w.heap.size, o, none⟩) (by first | omega | (simp; done) | (simp; omega)); have hbf_0 := fun o => (hb).frozen (p := ⟨w.heap.size, o, none⟩) (by first | omega | (simp; done) | (simp; omega)); have hbl_0 : w.heap.size < w1.heap.size := (by have := (hb).size; (try simp at this); omega); have hbm_0 := Nat.le_of_lt hbl_0))
        refine bodyPost_ret (v := .tuple #[.agg #[.int .i64 0, .int .i64 0, .int .i64 0, .int .i64 0, .int .i64 0], .int .i64 30]) (by simp [results, Try.results42, go_sem, hb_0, hbl_0, hbm_0]) rfl ⟨rfl, ?_⟩
        (repeat (first | with_reducible exact Below.refl _ _ | with_reducible apply bel_drewN.2 | with_reducible apply bel_drew.2 | (with_reducible refine Below.setCell ?_ ?_ _; rotate_left; focus (first | omega | (simp; done) | (simp; omega))) | (with_reducible refine Below.alloc ?_ ?_ _; rotate_left; focus (first | omega | (simp; done) | (simp; omega))) | refine bel_step (by with_reducible assumption) (by first | omega | (simp; done) | (simp; omega)) ?_))
      · have h3' : je = 30 := h3
        subst h3'
        clear h1 h3 hc0 hc1
        go_enter Try.func42, Try.ntmps42
        go_wp2_with (first
          | (go_at_call 39; refine (ref_row_yes _ r n k 1 hn (by omega) (by omega) (by omega) (by omega)).mono ?_; rintro e w' ⟨rfl, rfl⟩)
          | (go_at_call 50; refine (HU.out _).mono ?_; rintro e w1 ⟨rfl, hb⟩; have hb_0 := fun o => (hb).cell (p := ⟨w.heap.size, o, none⟩) (by first | omega | (simp; done) | (simp; omega)); have hbf_0 := fun o => (hb).frozen (p := ⟨w.heap.size, o, none⟩) (by first | omega | (simp; done) | (simp; omega)); have hbl_0 : w.heap.size < w1.heap.size := (by have := (hb).size; (try simp at this); omega); have hbm_0 := Nat.le_of_lt hbl_0))
        refine bodyPost_ret (v := .tuple #[.agg #[.int .i64 0, .int .i64 0, .int .i64 0, .int .i64 0, .int .i64 0], .int .i64 30]) (by simp [results, Try.results42, go_sem, hb_0, hbl_0, hbm_0]) rfl ⟨rfl, ?_⟩
        (repeat (first | with_reducible exact Below.refl _ _ | with_reducible apply bel_drewN.2 | with_reducible apply bel_drew.2 | (with_reducible refine Below.setCell ?_ ?_ _; rotate_left; focus (first | omega | (simp; done) | (simp; omega))) | (with_reducible refine Below.alloc ?_ ?_ _; rotate_left; focus (first | omega | (simp; done) | (simp; omega))) | refine bel_step (by with_reducible assumption) (by first | omega | (simp; done) | (simp; omega)) ?_))
  · have hat : atOf n f z = ⟨0, 0, 0, 0, 0, 2⟩ := by unfold atOf; rw [if_neg hin]
    rw [hat]
    have HX := hid (show z < 0 ∨ (1 : Int) < 0 ∨ (n : Int) < z ∨ (n : Int) - z < 1 by omega)
    clear hat hin h hz
    go_enter Try.func42, Try.ntmps42
    go_wp2_with (go_at_call 39; refine (ref_row_no _ r n z 1 hn HX.out).mono ?_; rintro e w' ⟨rfl, rfl⟩)
    refine bodyPost_ret (v := .tuple #[.agg #[.int .i64 0, .int .i64 0, .int .i64 0, .int .i64 0, .int .i64 0], .int .i64 2]) (by simp [results, Try.results42, go_sem]) rfl ⟨rfl, ?_⟩
    (repeat (first | exact Below.refl _ _ | exact Below.refl _ _ | apply bel_drewN.2 | apply bel_drew.2 | refine Below.setCell ?_ (by first | omega | (simp; done) | (simp; omega)) _ | refine Below.alloc ?_ (by first | omega | (simp; done) | (simp; omega)) _ | refine bel_step (by assumption) (by first | omega | (simp; done) | (simp; omega)) ?_))

set_option maxRecDepth 100000 in
set_option maxHeartbeats 2000000 in
theorem ref_starts (w : World) (r n : Nat) (f : Nat → Int) (a b : Nat) (h : Rw w r n f) (h1 : a ≤ b) (h2 : b ≤ n) :
    Calls Try.prog 44 #[.slice (some ⟨r, 0, none⟩) n n, .int .i64 a, .int .i64 b] w
      fun e w' => Chg (fun _ => False) w w' ∧ ∃ t, e = .returned (.tuple #[t, .int .i64 (startsOf f a b).2]) ∧ OwnInts w.heap.size w' t (startsOf f a b).1 := by
  have HA := hid h
  have hn := h.2.2
  have hrl := h.lt
  clear h
  obtain ⟨i0, hi, hz0, hz1, hz2⟩ := info_parts infoInt
  obtain ⟨B, hB⟩ : ∃ B : Nat, B = w.heap.size := ⟨_, rfl⟩
  have hrB : r < B := by omega
  have HB := hid hB
  rw [← hB]
  clear hB
  have hab : (a : Int) ≤ (b : Int) := by omega
  have hbn : (b : Int) ≤ (n : Int) := by omega
  have hba : decide (b < a) = false := by simp; omega
  have hnb : decide (n < b) = false := by simp; omega
  go_enter Try.func44, Try.ntmps44
  go_wp2_with fail
  go_loopw [1, 8] (fun i v wr => ∃ (k m : Nat) (L : List Int), k ≤ b ∧ b ≤ k + m ∧ L.length ≤ k ∧ i = .int .i64 k ∧ walkFrom f b (b - a) a = (walkFrom f b m k).map (L ++ ·) ∧ OwnInts B wr v L ∧ Chg (fun _ => False) w wr) (fun i _ _ => b - (intOf i).toNat)
  case atStart => exact ⟨a, b - a, [], by omega, by omega, by simp, rfl, by simp, ownInts_nil _ _, Chg.refl _ _⟩
  case round =>
    obtain ⟨k, m, L, hk, hm, hL, rfl, hwalk, hown0, hcw⟩ := hrel
    have hO := hid hown0
    have hA := hid (HA.out.chg hcw (by simp))
    have HW := hid hwalk
    have HC := hid hcw
    have hsz : B ≤ wr.heap.size := by rw [HB.out]; exact hcw.size
    clear hown0 hwalk hcw
    by_cases hlt : k < b
    · obtain ⟨m, rfl⟩ : ∃ m', m = m' + 1 := ⟨m - 1, by omega⟩
      have hlt' : (k : Int) < (b : Int) := by omega
      have e1 : IntKind.i64.wrap ((b : Int) - (k : Int)) = (b : Int) - (k : Int) := IntWalk.i64_in _ (by omega)
      have hat : atOf n f k = inAt (f k) := by unfold atOf; rw [if_pos (by omega), Int.toNat_natCast]
      have HP := hid (ref_at wr r n f k (Go.WalkArith.wf_i64 ⟨by omega, by omega⟩) hA.out)
      rw [hat] at HP
      have Hstep := hid (fun s => walk_step f b m k s hlt)
      have Hstop := hid (walk_stop f b m k hlt)
      have hc0 := hid (inAt_cases (f k))
      clear hat
      revert HP Hstep Hstop hc0
      generalize inAt (f k) = I
      generalize hdr (f k) = J
      intro HP Hstep Hstop hc0
      obtain ⟨jk, js, jp, ja, jt, je⟩ := J
      rcases hc0.out with ⟨rfl, g1, g2, g3, g4, g5, _⟩ | ⟨rfl, g1⟩
      · have g1' : je = 0 := g1
        subst g1'
        obtain ⟨S, rfl⟩ : ∃ S : Nat, js = S := ⟨js.toNat, by have : 1 ≤ js := g4; omega⟩
        have g4' : 1 ≤ S := by have : (1 : Int) ≤ (S : Int) := g4; omega
        have g5' : S ≤ 1048576 := by have : (S : Int) ≤ 1048576 := g5; omega
        clear g1 g2 g3 g4 g5 hc0
        simp only [rets] at HP
        by_cases hk3 : jk = 3
        · subst hk3
          have Hs := hid (Hstop.out (fun h => h.2.1 rfl))
          clear Hstop Hstep
          go_wp2_with (go_at_call 42; refine HP.out.mono ?_; rintro e w1 ⟨rfl, hb1⟩; have HB1 := hid hb1; have hsz1 : B ≤ w1.heap.size := Nat.le_trans hsz hb1.size; clear hb1)
          go_ret2
          have hst : startsOf f a b = ([], 30) := by unfold startsOf; rw [HW.out, Hs.out]; rfl
          rw [hst]
          exact ⟨((Chg.trans HC.out (Chg.of_below HB1.out (fun k h1 h2 => by omega))).alloc _), _, rfl, ownInts_nil _ _⟩
        by_cases hov : k + S ≤ b
        · have Hs := hid (Hstep.out S rfl hk3 rfl hov)
          have hb3 : (jk == 3) = false := eqb_false hk3
          have hov' : (S : Int) ≤ (b : Int) - (k : Int) := by omega
          have hov2 : (k : Int) + (S : Int) ≤ (b : Int) := by omega
          clear Hstop Hstep
          go_wp2_with (first
            | (go_at_call 42; refine HP.out.mono ?_; rintro e w1 ⟨rfl, hb1⟩; have HB1 := hid hb1; have hsz1 : B ≤ w1.heap.size := Nat.le_trans hsz hb1.size; clear hb1)
            | (at_builtin; refine wpList_append_own _ rfl _ _ 38 rfl B 3 i0 (.int .i64 0) 1 8 Try.underlying38 hi hz0 hz1 hz2 rfl (by decide) _ _ _ rfl ((((Chg.of_below HB1.out (S := fun _ => False) (fun k h1 h2 => by omega)).owns hO.out (by simp)).alloc _).alloc _) ⟨w1.heap.size + 1, 0, none⟩ 1 1 [.int .i64 (k)] rfl rfl ?c1 ?c2 ?c3 ?c4 ?c5 ?_))
          case c1 => exact one_lies (by simp)
          case c2 => intro u hu; simp at hu; subst hu; rfl
          case c3 => unfold maxLen; omega
          case c4 => omega
          case c5 => simp; omega
          intro v' w2 hown' hgrow hblk
          have hO' := hid hown'
          have hG := hid hgrow
          clear hown' hgrow hblk
          have hlt1 : ∀ g, u8.ownBlock = some g → g < w1.heap.size := fun g hg => Nat.lt_of_lt_of_le (hO.out.lt g hg).2 HB1.out.size
          have HC2 := hid (((Chg.refl (fun g => B ≤ g) w1).alloc (.cells #[.int .i64 jk, .int .i64 (S : Int), .int .i64 jp, .int .i64 ja, .int .i64 jt] 73)).alloc (.cells #[.int .i64 (k : Int)] 3) |>.grown hG.out (fun g hg => .inl (hO.out.lt g hg).1))
          have hcell : w2.cell? ⟨w1.heap.size, 1, none⟩ = some (.int .i64 (S : Int)) := (World.cell?_of_block (a := ⟨w1.heap.size, 1, none⟩) (hG.out.block w1.heap.size (by simp; omega) (fun e => by have := hlt1 _ e.symm; omega))).trans (by go_simp)
          clear hlt1
          go_wp2_with fail
          go_roundw
          case rel =>
            refine ⟨k + S, m, L ++ [(k : Int)], by omega, by omega, by simp; omega, by go_num, ?_, ?_, ?_⟩
            · rw [HW.out, Hs.out, Option.map_map]
              congr 1
              funext l
              simp
            · have := hO'.out
              unfold OwnInts
              rw [List.map_append, List.length_append]
              exact this
            · exact (HC.out.trans (Chg.of_below HB1.out (fun k h1 h2 => by omega))).next HC2.out (fun g hg h => by have := HB.out; omega)
          case measure => simp [intOf]; omega
        · have Hs := hid (Hstop.out (fun h => hov (by have : (k : Int) + (S : Int) ≤ b := h.2.2; omega)))
          have hb3 : (jk == 3) = false := eqb_false hk3
          have hov' : (b : Int) - (k : Int) < (S : Int) := by omega
          clear Hstop Hstep
          go_wp2_with (go_at_call 42; refine HP.out.mono ?_; rintro e w1 ⟨rfl, hb1⟩; have HB1 := hid hb1; have hsz1 : B ≤ w1.heap.size := Nat.le_trans hsz hb1.size; clear hb1)
          go_ret2
          have hst : startsOf f a b = ([], 30) := by unfold startsOf; rw [HW.out, Hs.out]; rfl
          rw [hst]
          exact ⟨((Chg.trans HC.out (Chg.of_below HB1.out (fun k h1 h2 => by omega))).alloc _), _, rfl, ownInts_nil _ _⟩
      · have Hs := hid (Hstop.out (fun h => absurd h.1 (by simp)))
        clear Hstop Hstep g1 hc0
        simp only [rets] at HP
        go_wp2_with (go_at_call 42; refine HP.out.mono ?_; rintro e w1 ⟨rfl, hb1⟩; have HB1 := hid hb1; have hsz1 : B ≤ w1.heap.size := Nat.le_trans hsz hb1.size; clear hb1)
        go_ret2
        have hst : startsOf f a b = ([], 30) := by unfold startsOf; rw [HW.out, Hs.out]; rfl
        rw [hst]
        exact ⟨((Chg.trans HC.out (Chg.of_below HB1.out (fun k h1 h2 => by omega))).alloc _), _, rfl, ownInts_nil _ _⟩
    · obtain rfl : k = b := by omega
      go_wp2_with fail
      go_ret2
      have hst : startsOf f a k = (L, 0) := by unfold startsOf; rw [HW.out, walk_end f k m k (Nat.le_refl _)]; simp [outs]
      rw [hst]
      exact ⟨HC.out, _, rfl, hO.out⟩

theorem ref_starts_out (w : World) (r n : Nat) (a b : Int) (hn : n ≤ 4194304) (h1 : a < 0 ∨ b < a ∨ n < b) :
    Calls Try.prog 44 #[.slice (some ⟨r, 0, none⟩) n n, .int .i64 a, .int .i64 b] w fun e w' => e = .returned (.tuple #[.slice none 0 0, .int .i64 2]) ∧ w = w' := by
  by_cases c1 : a < 0
  · clear h1
    go_enter Try.func44, Try.ntmps44
    go_wp2
    go_ret2
    exact ⟨rfl, rfl⟩
  have d1 : 0 ≤ a := by omega
  by_cases c2 : b < a
  · clear h1 c1
    go_enter Try.func44, Try.ntmps44
    go_wp2
    go_ret2
    exact ⟨rfl, rfl⟩
  have d2 : a ≤ b := by omega
  have d3 : (n : Int) < b := by omega
  clear h1 c1 c2
  go_enter Try.func44, Try.ntmps44
  go_wp2
  go_ret2
  exact ⟨rfl, rfl⟩

theorem ref_fill_out (w : World) (r n : Nat) (a b : Int) (hn : n ≤ 4194304) (h1 : a < 0 ∨ b < a ∨ n < b) :
    Calls Try.prog 28 #[.slice (some ⟨r, 0, none⟩) n n, .int .i64 a, .int .i64 b] w fun e w' => e = .returned (.int .i64 2) ∧ w = w' := by
  by_cases c1 : a < 0
  · clear h1
    go_enter Try.func28, Try.ntmps28
    go_wp2
    go_ret
    exact ⟨rfl, rfl⟩
  have d1 : 0 ≤ a := by omega
  by_cases c2 : b < a
  · clear h1 c1
    go_enter Try.func28, Try.ntmps28
    go_wp2
    go_ret
    exact ⟨rfl, rfl⟩
  have d2 : a ≤ b := by omega
  have d3 : (n : Int) < b := by omega
  clear h1 c1 c2
  go_enter Try.func28, Try.ntmps28
  go_wp2
  go_ret
  exact ⟨rfl, rfl⟩
end Go.Proofs.Ythmjjmimmbgpaaa
