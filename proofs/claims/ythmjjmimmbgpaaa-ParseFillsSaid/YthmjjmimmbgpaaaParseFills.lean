/-
  The walk of ParseFills (layer 5).
-/
import Derived.Test.YthmjjmimmbgpaaaParse4
set_option linter.unusedVariables false
set_option linter.unusedSimpArgs false
namespace Go.Proofs.Ythmjjmimmbgpaaa
open Go.RowKit

theorem filled_at (f : Nat → Int) (a b : Nat) (h : a < b) (hb : b ≤ a + 1048576) : inAt (filled f a b a) = ⟨2, (b : Int) - (a : Int), 0, 0, 0, 0⟩ := by
  have e : filled f a b a = wordOf 2 ((b : Int) - (a : Int)) 0 0 0 := by unfold filled; rw [if_pos ⟨rfl, h⟩]
  rw [e]
  exact inAt_word (.inr (.inr (.inl ⟨rfl, by omega, by omega, rfl, rfl, rfl⟩))) (by decide)
theorem starts_filled (f : Nat → Int) (a b : Nat) (h : a < b) (hb : b ≤ a + 1048576) : startsOf (filled f a b) a b = ([(a : Int)], 0) := by
  obtain ⟨m, hm⟩ : ∃ m, b - a = m + 1 := ⟨b - a - 1, by omega⟩
  unfold startsOf
  have hx := filled_at f a b h hb
  rw [hm, walk_step (filled f a b) b m a (b - a) h (by rw [hx]) (by rw [hx]; show ¬ (2 : Int) = 3; decide) (by rw [hx]; show (b : Int) - (a : Int) = _; omega) (by omega), walk_end _ _ _ _ (by omega)]
  rfl
theorem starts_none (f : Nat → Int) (a : Nat) : startsOf f a a = ([], 0) := by
  unfold startsOf
  rw [walk_end _ _ _ _ (Nat.le_refl _)]
  rfl

set_option maxRecDepth 100000 in
set_option maxHeartbeats 2000000 in
theorem parseFills (a0 a1 : Int) (w : World) (_ : (Lit.int .i64 a0).wf = true) (_ : (Lit.int .i64 a1).wf = true) :
    Calls Try.prog 8 #[.int .i64 a0, .int .i64 a1] w fun e w' => e = .returned (.bool true) ∧ Below w.heap.size w w' := by
  go_enter Try.func8, Try.ntmps8
  go_upto_region 6 with (first
    | (go_at_call 23; refine (awake05 _).mono ?_; rintro e wa ⟨rfl, hb⟩; have hz := (hb).size; (try simp at hz))
    | (go_at_call 24; refine (arena_new 4096 _ (by omega)).mono ?_; rintro e wb ⟨p, q, rfl, hp, hq, hb1, har⟩; have hA := hid (fresh_arn har); clear har; have hz1 := (hb1).size; (try simp at hz1)))
  go_cut [0] (fun s0 wx => (∃ c : Int, 0 ≤ c ∧ c ≤ 4096 ∧ s0 = .int .i64 c) ∧ Arn wx p q 4096 (fun _ => 0) ∧ Below w.heap.size w wx ∧ w.heap.size ≤ p ∧ w.heap.size ≤ q)
  case first =>
    have t1 := tmod_bounds a0 4097 (by omega)
    go_wp2
    go_meet
    exact ⟨⟨_, by omega, by omega, rfl⟩, hA.out, by (repeat (first | exact Below.refl _ _ | exact Below.refl _ _ | apply bel_drewN.2 | apply bel_drew.2 | refine Below.setCell ?_ (by first | omega | (simp; done) | (simp; omega)) _ | refine Below.alloc ?_ (by first | omega | (simp; done) | (simp; omega)) _ | refine bel_step (by assumption) (by first | omega | (simp; done) | (simp; omega)) ?_)), by omega, by omega⟩
  case rest =>
  obtain ⟨⟨c, hc0, hc1, rfl⟩, har, hbx, hp1, hq1⟩ := hcut
  obtain ⟨A, rfl⟩ := Int.eq_ofNat_of_zero_le hc0
  have hA1 := hid har
  have hAn : A ≤ 4096 := by omega
  clear har hc0 hc1
  go_upto_region 7 with fail
  go_cut [1] (fun s1 wx => (∃ c : Int, 0 ≤ c ∧ c ≤ 4096 ∧ s1 = .int .i64 c) ∧ wc = wx)
  case first =>
    have t1 := tmod_bounds a1 4097 (by omega)
    go_wp2
    go_meet
    exact ⟨⟨_, by omega, by omega, rfl⟩, rfl⟩
  case rest =>
  obtain ⟨⟨c, hc0, hc1, rfl⟩, rfl⟩ := hcut
  obtain ⟨T, rfl⟩ := Int.eq_ofNat_of_zero_le hc0
  have hTn : T ≤ 4096 := by omega
  clear hc0 hc1
  by_cases hlt : T < A
  · have HX := hid (show (A : Int) < 0 ∨ (T : Int) < (A : Int) ∨ ((4096 : Nat) : Int) < (T : Int) by omega)
    have hlt' : (T : Int) < (A : Int) := by omega
    go_wp2_with (go_at_call 27; refine (parse_fill_out _ p q 4096 _ _ _ hA1.out HX.out).mono ?_; rintro e w' ⟨rfl, rfl⟩)
    go_ret
    exact ⟨rfl, hbx⟩
  have hle : A ≤ T := by omega
  have hle' : (A : Int) ≤ (T : Int) := by omega
  by_cases heq : A = T
  · subst heq
    have e9 : ((A : Int) == (A : Int)) = true := by simp
    go_wp2_with (first
      | (go_at_call 27; refine (parse_fill _ p q 4096 _ A A hA1.out (by omega) (by omega) (by omega)).mono ?_; rintro e w1 ⟨rfl, hc1, ha1⟩; have HA1 := hid ha1; have HC1 := hid hc1; clear ha1 hc1)
      | (go_at_call 33; refine (parse_starts _ p q 4096 _ A A HA1.out (by omega) (by omega)).mono ?_; rw [starts_none]; rintro e w2 ⟨hc2, ha2, t, rfl, hown⟩; obtain ⟨G, C, rfl⟩ := hown.shape; have HA2 := hid ha2; have HC2 := hid hc2; clear ha2 hc2 hown))
    go_loopw [10, 11] (fun s i wr => s = .int .i64 0 ∧ i = .int .i64 0 ∧ wr = w2) (fun _ _ _ => 0)
    case atStart => exact ⟨rfl, rfl, rfl⟩
    case round =>
      obtain ⟨rfl, rfl, rfl⟩ := hrel
      go_wp2_with fail
      go_ret
      have hb2 := HC1.out.below hbx (fun k _ hk => by rcases hk with rfl | rfl <;> omega) hbx.size
      have hb3 := HC2.out.below hb2 (fun k _ hk => by have : k = p := hk; omega) hb2.size
      exact ⟨rfl, hb3⟩
  · have hAT : A < T := by omega
    have e9 : ((A : Int) == (T : Int)) = false := by simp; omega
    have e8 : IntKind.i64.wrap ((T : Int) - (A : Int)) = (T : Int) - (A : Int) := IntWalk.i64_in _ (by omega)
    go_wp2_with (first
      | (go_at_call 27; refine (parse_fill _ p q 4096 _ A T hA1.out (by omega) (by omega) (by omega)).mono ?_; rintro e w1 ⟨rfl, hc1, ha1⟩; have HA1 := hid ha1; have HC1 := hid hc1; clear ha1 hc1)
      | (go_at_call 33; refine (parse_starts _ p q 4096 _ A T HA1.out (by omega) (by omega)).mono ?_; rw [starts_filled _ A T hAT (by omega)]; rintro e w2 ⟨hc2, ha2, t, rfl, hown⟩; obtain ⟨g, c, rfl, hg1, hg2, hg3⟩ := hown.at (by simp); have HA2 := hid ha2; have HC2 := hid hc2; have HG := hid (hg3 0 (by simp)); have HGP := hid (show g ≠ p from fun e => by have := HA1.out.lt.1; omega); clear ha2 hc2 hown hg3))
    have hb2 := HC1.out.below hbx (fun k _ hk => by rcases hk with rfl | rfl <;> omega) hbx.size
    have hb3 := HC2.out.below hb2 (fun k _ hk => by have : k = p := hk; omega) hb2.size
    go_loopw [10, 11] (fun s i wr => ((s = .int .i64 0 ∧ i = .int .i64 0) ∨ (s = .int .i64 ((T : Int) - (A : Int)) ∧ i = .int .i64 1)) ∧ Chg (· = p) w2 wr ∧ Arn wr p q 4096 (filled (fun _ => 0) A T)) (fun _ i _ => 1 - (intOf i).toNat)
    case atStart => exact ⟨.inl ⟨rfl, rfl⟩, Chg.refl _ _, HA2.out⟩
    case round =>
      obtain ⟨hsi, hcw, har⟩ := hrel
      have hbw := hcw.below hb3 (fun k _ hk => by have : k = p := hk; omega) hb3.size
      rcases hsi with ⟨rfl, rfl⟩ | ⟨rfl, rfl⟩
      · have hcell : wr.cell? ⟨g, 0, none⟩ = some (.int .i64 (A : Int)) := (hcw.cell hg2 HGP.out).trans HG.out
        have HP := hid (parse_at wr p q 4096 _ A (Go.WalkArith.wf_i64 ⟨by omega, by omega⟩) har)
        have hat : atOf 4096 (filled (fun _ => 0) A T) A = ⟨2, (T : Int) - (A : Int), 0, 0, 0, 0⟩ := by unfold atOf; rw [if_pos (by omega), Int.toNat_natCast, filled_at _ A T hAT (by omega)]
        rw [hat] at HP
        simp only [rets] at HP
        have HC := hid hcw
        clear hat har hcw hb2 hb3
        go_wp2_with (go_at_call 32; refine HP.out.mono ?_; rintro e w3 ⟨rfl, hc3, ha3⟩; have HC3 := hid hc3; have HA3 := hid ha3; clear hc3 ha3)
        go_roundw
        case rel =>
          exact ⟨.inr ⟨by first | rfl | (simp [e8]; done), rfl⟩, (HC.out.trans HC3.out).alloc _, HA3.out.chg ((Chg.refl (fun _ => False) _).alloc _) (by simp) (by simp)⟩
        case measure => simp [intOf]
      · go_wp2_with fail
        go_ret
        exact ⟨rfl, hbw⟩
end Go.Proofs.Ythmjjmimmbgpaaa
