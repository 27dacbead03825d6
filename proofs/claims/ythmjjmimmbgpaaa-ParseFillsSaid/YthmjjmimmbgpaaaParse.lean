/-
  Contracts of package parse (layer 5).
-/
import Derived.Test.YthmjjmimmbgpaaaHdr
import Derived.Test.YthmjjmimmbgpaaaArena2
set_option linter.unusedVariables false
set_option linter.unusedSimpArgs false
namespace Go.Proofs.Ythmjjmimmbgpaaa
open Go.RowKit

/-- an arena, whatever was counted, of words that are words -/
def Arn (w : World) (p q n : Nat) (f : Nat → Int) : Prop := (∃ acc, ArenaAt w p q n acc f) ∧ ∀ i, i < n → 0 ≤ f i ∧ f i ≤ 18446744073709551615
theorem Arn.chg {S : Nat → Prop} {w w' : World} {p q n : Nat} {f : Nat → Int} (h : Arn w p q n f) (c : Chg S w w') (hp : ¬ S p) (hq : ¬ S q) : Arn w' p q n f := by
  obtain ⟨⟨acc, h1⟩, h2⟩ := h
  exact ⟨⟨acc, h1.chg c hp hq⟩, h2⟩
theorem Arn.lt {w : World} {p q n : Nat} {f : Nat → Int} (h : Arn w p q n f) : p < w.heap.size ∧ q < w.heap.size := by
  obtain ⟨⟨acc, h1⟩, h2⟩ := h
  exact h1.lt
theorem Arn.bound {w : World} {p q n : Nat} {f : Nat → Int} (h : Arn w p q n f) : n ≤ 4194304 := by
  obtain ⟨⟨acc, h1⟩, h2⟩ := h
  exact h1.bound

/-- what 'At' answers -/
def rets (h : Hdr) : Ending := .returned (.tuple #[.agg #[.int .i64 h.k, .int .i64 h.s, .int .i64 h.p, .int .i64 h.a, .int .i64 h.t], .int .i64 h.e])

set_option maxRecDepth 100000 in
set_option maxHeartbeats 1000000 in
theorem parse_at (w : World) (p q n : Nat) (f : Nat → Int) (z : Int) (hz : (Lit.int .i64 z).wf = true) (h : Arn w p q n f) :
    Calls Try.prog 32 #[.pointer (some ⟨p, 0, none⟩), .int .i64 z] w fun e w' => e = rets (atOf n f z) ∧ Chg (· = p) w w' ∧ Arn w' p q n f := by
  obtain ⟨⟨acc, har⟩, hr⟩ := h
  have hpl := har.lt.1
  have hql := har.lt.2
  have HA := hid (har.chg ((Chg.refl (fun _ => False) w).alloc (.cells #[.int .i64 0, .int .i64 0, .int .i64 0, .int .i64 0, .int .i64 0] 73)) (by simp) (by simp))
  have HZ := hid hz
  clear hz
  by_cases hin : 0 ≤ z ∧ z < n
  · obtain ⟨k, rfl⟩ := Int.eq_ofNat_of_zero_le hin.1
    have hk : k < n := by omega
    have hx := hr k hk
    have hat : atOf n f k = inAt (f k) := by unfold atOf; rw [if_pos hin, Int.toNat_natCast]
    rw [hat]
    have HU := hid (hdr_unpack (f k) hx.1 hx.2)
    have HM := hid ((har.more (wrap64 (acc + 1))).chg ((Chg.refl (fun _ => False) _).alloc (.cells #[.int .i64 0, .int .i64 0, .int .i64 0, .int .i64 0, .int .i64 0] 73)) (by simp) (by simp))
    have HR := hid hr
    have hc0 := hid (inAt_cases (f k))
    have hc1 := hid (hdr_cases (f k))
    have HL := hid (arena_load _ p q n acc f k HA.out hk)
    revert HU hc0 HL hc1
    clear hx hat hin hr HZ har
    generalize inAt (f k) = I
    generalize hdr (f k) = J
    obtain ⟨jk, js, jp, ja, jt, je⟩ := J
    generalize f k = x
    intro HU hc0 hc1 HL
    rcases hc0.out with ⟨rfl, h1, h2, hjunk⟩ | ⟨rfl, h1⟩
    · have h1' : je = 0 := h1
      subst h1'
      have hb1 : (jk == 0) = false := eqb_false h2
      have hb2 : ¬ jk = 0 := h2
      clear h1 h2 hjunk hc0 hc1
      go_enter Try.func32, Try.ntmps32
      go_wp2_with (first
        | (go_at_call 31; refine HL.out.mono ?_; rintro e w' ⟨rfl, rfl⟩)
        | (go_at_call 45; refine (HU.out _).mono ?_; rintro e w1 ⟨rfl, hb⟩; have hb_0 := fun o => (hb).cell (p := ⟨w.heap.size, o, none⟩) (by first | omega | (simp; done) | (simp; omega)); have hbf_0 := fun o => (hb).frozen (p := ⟨w.heap.size, o, none⟩) (by first | omega | (simp; done) | (simp; omega)); have hbl_0 : w.heap.size < w1.heap.size := (by have := (hb).size; simp at this; omega); have hbm_0 := Nat.le_of_lt hbl_0))
      refine bodyPost_ret (v := .tuple #[.agg #[.int .i64 jk, .int .i64 js, .int .i64 jp, .int .i64 ja, .int .i64 jt], .int .i64 0]) (by simp [results, Try.results32, go_sem, hb_0, hbl_0, hbm_0]) rfl ⟨rfl, ?_, ?_⟩
      · (repeat (first | with_reducible exact Chg.refl _ _ | with_reducible apply Chg.drewN | with_reducible apply Chg.drew | with_reducible apply Chg.alloc | (with_reducible refine Chg.setCell ?_ ?_ _; rotate_left; focus (first | (refine Or.inr ?_; first | omega | (simp; done) | (simp; omega)) | exact Or.inl (by assumption) | with_reducible exact Or.inl rfl)) | refine Chg.trans ?_ (Chg.of_below (by with_reducible assumption) (fun k h1 h2 => absurd h1 (by first | omega | (simp; omega)))) | refine Chg.trans ?_ (by with_reducible assumption)))
      · exact ⟨⟨_, HM.out.chg (S := fun k => k = w.heap.size) (by (repeat (first | with_reducible exact Chg.refl _ _ | with_reducible apply Chg.drewN | with_reducible apply Chg.drew | with_reducible apply Chg.alloc | (with_reducible refine Chg.setCell ?_ ?_ _; rotate_left; focus (first | (refine Or.inr ?_; first | omega | (simp; done) | (simp; omega)) | exact Or.inl (by assumption) | with_reducible exact Or.inl rfl)) | refine Chg.trans ?_ (Chg.of_below (by with_reducible assumption) (fun k h1 h2 => absurd h1 (by first | omega | (simp; omega)))) | refine Chg.trans ?_ (by with_reducible assumption)))) (by omega) (by omega)⟩, HR.out⟩
    · have h1' : jk = 0 := h1
      subst h1'
      rcases hc1.out with ⟨h3, _⟩ | ⟨h3, _⟩
      · have h3' : je = 0 := h3
        subst h3'
        clear h1 h3 hc0 hc1
        go_enter Try.func32, Try.ntmps32
        go_wp2_with (first
          | (go_at_call 31; refine HL.out.mono ?_; rintro e w' ⟨rfl, rfl⟩)
          | (go_at_call 45; refine (HU.out _).mono ?_; rintro e w1 ⟨rfl, hb⟩; have hb_0 := fun o => (hb).cell (p := ⟨w.heap.size, o, none⟩) (by first | omega | (simp; done) | (simp; omega)); have hbf_0 := fun o => (hb).frozen (p := ⟨w.heap.size, o, none⟩) (by first | omega | (simp; done) | (simp; omega)); have hbl_0 : w.heap.size < w1.heap.size := (by have := (hb).size; simp at this; omega); have hbm_0 := Nat.le_of_lt hbl_0))
        refine bodyPost_ret (v := .tuple #[.agg #[.int .i64 0, .int .i64 0, .int .i64 0, .int .i64 0, .int .i64 0], .int .i64 30]) (by simp [results, Try.results32, go_sem, hb_0, hbl_0, hbm_0]) rfl ⟨rfl, ?_, ?_⟩
        · (repeat (first | with_reducible exact Chg.refl _ _ | with_reducible apply Chg.drewN | with_reducible apply Chg.drew | with_reducible apply Chg.alloc | (with_reducible refine Chg.setCell ?_ ?_ _; rotate_left; focus (first | (refine Or.inr ?_; first | omega | (simp; done) | (simp; omega)) | exact Or.inl (by assumption) | with_reducible exact Or.inl rfl)) | refine Chg.trans ?_ (Chg.of_below (by with_reducible assumption) (fun k h1 h2 => absurd h1 (by first | omega | (simp; omega)))) | refine Chg.trans ?_ (by with_reducible assumption)))
        · exact ⟨⟨_, HM.out.chg (S := fun k => k = w.heap.size) (by (repeat (first | with_reducible exact Chg.refl _ _ | with_reducible apply Chg.drewN | with_reducible apply Chg.drew | with_reducible apply Chg.alloc | (with_reducible refine Chg.setCell ?_ ?_ _; rotate_left; focus (first | (refine Or.inr ?_; first | omega | (simp; done) | (simp; omega)) | exact Or.inl (by assumption) | with_reducible exact Or.inl rfl)) | refine Chg.trans ?_ (Chg.of_below (by with_reducible assumption) (fun k h1 h2 => absurd h1 (by first | omega | (simp; omega)))) | refine Chg.trans ?_ (by with_reducible assumption)))) (by omega) (by omega)⟩, HR.out⟩
      · have h3' : je = 30 := h3
        subst h3'
        clear h1 h3 hc0 hc1
        go_enter Try.func32, Try.ntmps32
        go_wp2_with (first
          | (go_at_call 31; refine HL.out.mono ?_; rintro e w' ⟨rfl, rfl⟩)
          | (go_at_call 45; refine (HU.out _).mono ?_; rintro e w1 ⟨rfl, hb⟩; have hb_0 := fun o => (hb).cell (p := ⟨w.heap.size, o, none⟩) (by first | omega | (simp; done) | (simp; omega)); have hbf_0 := fun o => (hb).frozen (p := ⟨w.heap.size, o, none⟩) (by first | omega | (simp; done) | (simp; omega)); have hbl_0 : w.heap.size < w1.heap.size := (by have := (hb).size; simp at this; omega); have hbm_0 := Nat.le_of_lt hbl_0))
        refine bodyPost_ret (v := .tuple #[.agg #[.int .i64 0, .int .i64 0, .int .i64 0, .int .i64 0, .int .i64 0], .int .i64 30]) (by simp [results, Try.results32, go_sem, hb_0, hbl_0, hbm_0]) rfl ⟨rfl, ?_, ?_⟩
        · (repeat (first | with_reducible exact Chg.refl _ _ | with_reducible apply Chg.drewN | with_reducible apply Chg.drew | with_reducible apply Chg.alloc | (with_reducible refine Chg.setCell ?_ ?_ _; rotate_left; focus (first | (refine Or.inr ?_; first | omega | (simp; done) | (simp; omega)) | exact Or.inl (by assumption) | with_reducible exact Or.inl rfl)) | refine Chg.trans ?_ (Chg.of_below (by with_reducible assumption) (fun k h1 h2 => absurd h1 (by first | omega | (simp; omega)))) | refine Chg.trans ?_ (by with_reducible assumption)))
        · exact ⟨⟨_, HM.out.chg (S := fun k => k = w.heap.size) (by (repeat (first | with_reducible exact Chg.refl _ _ | with_reducible apply Chg.drewN | with_reducible apply Chg.drew | with_reducible apply Chg.alloc | (with_reducible refine Chg.setCell ?_ ?_ _; rotate_left; focus (first | (refine Or.inr ?_; first | omega | (simp; done) | (simp; omega)) | exact Or.inl (by assumption) | with_reducible exact Or.inl rfl)) | refine Chg.trans ?_ (Chg.of_below (by with_reducible assumption) (fun k h1 h2 => absurd h1 (by first | omega | (simp; omega)))) | refine Chg.trans ?_ (by with_reducible assumption)))) (by omega) (by omega)⟩, HR.out⟩
  · have hat : atOf n f z = ⟨0, 0, 0, 0, 0, 2⟩ := by unfold atOf; rw [if_neg hin]
    rw [hat]
    have HX := hid (show z < 0 ∨ (n : Int) ≤ z by omega)
    have HR := hid hr
    clear hat hin hr har
    go_enter Try.func32, Try.ntmps32
    go_wp2_with (go_at_call 31; refine (arena_load_out _ p q n acc f z HA.out HX.out HZ.out).mono ?_; rintro e w' ⟨rfl, rfl⟩)
    refine bodyPost_ret (v := .tuple #[.agg #[.int .i64 0, .int .i64 0, .int .i64 0, .int .i64 0, .int .i64 0], .int .i64 2]) (by simp [results, Try.results32, go_sem]) rfl ⟨rfl, ?_, ?_⟩
    · (repeat (first | with_reducible exact Chg.refl _ _ | with_reducible apply Chg.drewN | with_reducible apply Chg.drew | with_reducible apply Chg.alloc | (with_reducible refine Chg.setCell ?_ ?_ _; rotate_left; focus (first | (refine Or.inr ?_; first | omega | (simp; done) | (simp; omega)) | exact Or.inl (by assumption) | with_reducible exact Or.inl rfl)) | refine Chg.trans ?_ (Chg.of_below (by with_reducible assumption) (fun k h1 h2 => absurd h1 (by first | omega | (simp; omega)))) | refine Chg.trans ?_ (by with_reducible assumption)))
    · exact ⟨⟨_, HA.out.chg (S := fun k => k = w.heap.size) (by (repeat (first | with_reducible exact Chg.refl _ _ | with_reducible apply Chg.drewN | with_reducible apply Chg.drew | with_reducible apply Chg.alloc | (with_reducible refine Chg.setCell ?_ ?_ _; rotate_left; focus (first | (refine Or.inr ?_; first | omega | (simp; done) | (simp; omega)) | exact Or.inl (by assumption) | with_reducible exact Or.inl rfl)) | refine Chg.trans ?_ (Chg.of_below (by with_reducible assumption) (fun k h1 h2 => absurd h1 (by first | omega | (simp; omega)))) | refine Chg.trans ?_ (by with_reducible assumption)))) (by omega) (by omega)⟩, HR.out⟩

set_option maxRecDepth 100000 in
theorem parse_at_nil (w : World) (z : Int) :
    Calls Try.prog 32 #[.pointer none, .int .i64 z] w fun e w' => e = rets ⟨0, 0, 0, 0, 0, 1⟩ ∧ Below w.heap.size w w' := by
  go_enter Try.func32, Try.ntmps32
  go_wp2_with (go_at_call 31; refine (arena_load_nil _ z).mono ?_; rintro e w' ⟨rfl, rfl⟩)
  refine bodyPost_ret (v := .tuple #[.agg #[.int .i64 0, .int .i64 0, .int .i64 0, .int .i64 0, .int .i64 0], .int .i64 1]) (by simp [results, Try.results32, go_sem]) rfl ⟨rfl, ?_⟩
  (repeat (first | exact Below.refl _ _ | exact Below.refl _ _ | apply bel_drewN.2 | apply bel_drew.2 | refine Below.setCell ?_ (by first | omega | (simp; done) | (simp; omega)) _ | refine Below.alloc ?_ (by first | omega | (simp; done) | (simp; omega)) _ | refine bel_step (by assumption) (by first | omega | (simp; done) | (simp; omega)) ?_))

theorem parse_bounds (w : World) (p q n : Nat) (f : Nat → Int) (a b : Nat) (h : Arn w p q n f) (h1 : a ≤ b) (h2 : b ≤ n) :
    Calls Try.prog 40 #[.pointer (some ⟨p, 0, none⟩), .int .i64 a, .int .i64 b] w fun e w' => e = .returned (.int .i64 0) ∧ w = w' := by
  obtain ⟨⟨acc, har⟩, hr⟩ := h
  have HA := hid har
  have h3 : (a : Int) ≤ (b : Int) := by omega
  have h4 : (b : Int) ≤ (n : Int) := by omega
  clear har hr h1 h2
  go_enter Try.func40, Try.ntmps40
  go_wp2_with (go_at_call 46; refine (arena_len _ p q n acc f HA.out).mono ?_; rintro e w' ⟨rfl, rfl⟩)
  go_ret
  exact ⟨rfl, rfl⟩

theorem parse_bounds_out (w : World) (p q n : Nat) (f : Nat → Int) (a b : Int) (h : Arn w p q n f) (h1 : a < 0 ∨ b < a ∨ n < b) :
    Calls Try.prog 40 #[.pointer (some ⟨p, 0, none⟩), .int .i64 a, .int .i64 b] w fun e w' => e = .returned (.int .i64 2) ∧ w = w' := by
  obtain ⟨⟨acc, har⟩, hr⟩ := h
  have HA := hid har
  clear har hr
  by_cases c1 : a < 0
  · clear h1
    go_enter Try.func40, Try.ntmps40
    go_wp2_with (go_at_call 46; refine (arena_len _ p q n acc f HA.out).mono ?_; rintro e w' ⟨rfl, rfl⟩)
    go_ret
    exact ⟨rfl, rfl⟩
  have d1 : 0 ≤ a := by omega
  by_cases c2 : b < a
  · clear h1 c1
    go_enter Try.func40, Try.ntmps40
    go_wp2_with (go_at_call 46; refine (arena_len _ p q n acc f HA.out).mono ?_; rintro e w' ⟨rfl, rfl⟩)
    go_ret
    exact ⟨rfl, rfl⟩
  have d2 : a ≤ b := by omega
  have d3 : (n : Int) < b := by omega
  clear h1 c1 c2
  go_enter Try.func40, Try.ntmps40
  go_wp2_with (go_at_call 46; refine (arena_len _ p q n acc f HA.out).mono ?_; rintro e w' ⟨rfl, rfl⟩)
  go_ret
  exact ⟨rfl, rfl⟩

theorem parse_bounds_nil (w : World) (a b : Int) :
    Calls Try.prog 40 #[.pointer none, .int .i64 a, .int .i64 b] w fun e w' => e = .returned (.int .i64 1) ∧ w = w' := by
  go_enter Try.func40, Try.ntmps40
  go_wp2
  go_ret
  exact ⟨rfl, rfl⟩
end Go.Proofs.Ythmjjmimmbgpaaa
