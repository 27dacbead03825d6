/-
  Contracts of package parse (layer 5): objects and fillers are made; the references' addresses.
-/
import Derived.Test.YthmjjmimmbgpaaaParse2
set_option linter.unusedVariables false
set_option linter.unusedSimpArgs false
namespace Go.Proofs.Ythmjjmimmbgpaaa
open Go.RowKit

theorem parse_starts_out (w : World) (p q n : Nat) (f : Nat → Int) (a b : Int) (h : Arn w p q n f) (h1 : a < 0 ∨ b < a ∨ n < b) :
    Calls Try.prog 33 #[.pointer (some ⟨p, 0, none⟩), .int .i64 a, .int .i64 b] w fun e w' => e = .returned (.tuple #[.slice none 0 0, .int .i64 2]) ∧ w = w' := by
  go_enter Try.func33, Try.ntmps33
  go_wp2_with (go_at_call 40; refine (parse_bounds_out _ p q n f a b h h1).mono ?_; rintro e w' ⟨rfl, rfl⟩)
  go_ret2
  exact ⟨rfl, rfl⟩
theorem parse_starts_nil (w : World) (a b : Int) :
    Calls Try.prog 33 #[.pointer none, .int .i64 a, .int .i64 b] w fun e w' => e = .returned (.tuple #[.slice none 0 0, .int .i64 1]) ∧ w = w' := by
  go_enter Try.func33, Try.ntmps33
  go_wp2_with (go_at_call 40; refine (parse_bounds_nil _ a b).mono ?_; rintro e w' ⟨rfl, rfl⟩)
  go_ret2
  exact ⟨rfl, rfl⟩

theorem Arn.store {w : World} {p q n : Nat} {f : Nat → Int} (h : Arn w p q n f) (k : Nat) (v : Int) (h0 : 0 ≤ v) (h1 : v ≤ 18446744073709551615) (a : Int) :
    Arn ((w.setCell ⟨p, 1, none⟩ (.int .i64 a)).setCell ⟨q, k, none⟩ (.int .u64 v)) p q n (fun i => if i = k then v else f i) := by
  obtain ⟨⟨acc, har⟩, hr⟩ := h
  refine ⟨⟨_, (har.more a).store k v⟩, fun i hi => ?_⟩
  by_cases e : i = k
  · simp only [e, if_true]; exact ⟨h0, h1⟩
  · simp only [if_neg e]; exact hr i hi

theorem arn_len (w : World) (p q n : Nat) (f : Nat → Int) (h : Arn w p q n f) :
    Calls Try.prog 46 #[.pointer (some ⟨p, 0, none⟩)] w fun e w' => e = .returned (.int .i64 n) ∧ w = w' := by
  obtain ⟨⟨acc, har⟩, hr⟩ := h
  exact arena_len w p q n acc f har

theorem arn_store (w : World) (p q n : Nat) (f : Nat → Int) (k : Nat) (v : Int) (h : Arn w p q n f) (hk : k < n) (h0 : 0 ≤ v) (h1 : v ≤ 18446744073709551615) :
    Calls Try.prog 29 #[.pointer (some ⟨p, 0, none⟩), .int .i64 k, .int .u64 v] w
      fun e w' => e = .returned (.int .i64 0) ∧ Chg (fun g => g = p ∨ g = q) w w' ∧ Arn w' p q n (fun i => if i = k then v else f i) := by
  have H := h
  obtain ⟨⟨acc, har⟩, hr⟩ := h
  refine (arena_store w p q n acc f k v har hk).mono ?_
  rintro e w' ⟨rfl, rfl⟩
  exact ⟨rfl, by (repeat (first | with_reducible exact Chg.refl _ _ | with_reducible apply Chg.drewN | with_reducible apply Chg.drew | with_reducible apply Chg.alloc | (with_reducible refine Chg.setCell ?_ ?_ _; rotate_left; focus (first | (refine Or.inr ?_; first | omega | (simp; done) | (simp; omega)) | exact Or.inl (by assumption) | with_reducible exact Or.inl rfl | exact Or.inl (by simp))) | refine Chg.trans ?_ (Chg.of_below (by with_reducible assumption) (fun k h1 h2 => absurd h1 (by first | omega | (simp; omega)))) | refine Chg.trans ?_ (by with_reducible assumption))), H.store k v h0 h1 _⟩
theorem arn_store_out (w : World) (p q n : Nat) (f : Nat → Int) (k v : Int) (h : Arn w p q n f) (hk : k < 0 ∨ (n : Int) ≤ k) (hk0 : (Lit.int .i64 k).wf = true) :
    Calls Try.prog 29 #[.pointer (some ⟨p, 0, none⟩), .int .i64 k, .int .u64 v] w fun e w' => e = .returned (.int .i64 2) ∧ w = w' := by
  obtain ⟨⟨acc, har⟩, hr⟩ := h
  exact arena_store_out w p q n acc f k v har hk hk0
theorem arn_load (w : World) (p q n : Nat) (f : Nat → Int) (k : Nat) (h : Arn w p q n f) (hk : k < n) :
    Calls Try.prog 31 #[.pointer (some ⟨p, 0, none⟩), .int .i64 k] w
      fun e w' => e = .returned (.tuple #[.int .u64 (f k), .int .i64 0]) ∧ Chg (· = p) w w' ∧ Arn w' p q n f := by
  obtain ⟨⟨acc, har⟩, hr⟩ := h
  refine (arena_load w p q n acc f k har hk).mono ?_
  rintro e w' ⟨rfl, rfl⟩
  exact ⟨rfl, by (repeat (first | with_reducible exact Chg.refl _ _ | with_reducible apply Chg.drewN | with_reducible apply Chg.drew | with_reducible apply Chg.alloc | (with_reducible refine Chg.setCell ?_ ?_ _; rotate_left; focus (first | (refine Or.inr ?_; first | omega | (simp; done) | (simp; omega)) | exact Or.inl (by assumption) | with_reducible exact Or.inl rfl | exact Or.inl (by simp))) | refine Chg.trans ?_ (Chg.of_below (by with_reducible assumption) (fun k h1 h2 => absurd h1 (by first | omega | (simp; omega)))) | refine Chg.trans ?_ (by with_reducible assumption))), ⟨_, har.more _⟩, hr⟩

/-- the words behind a 'Make' -/
def made (f : Nat → Int) (k s : Nat) (pt : Int) : Nat → Int := fun i => if i = k then wordOf 1 s pt 0 0 else if k ≤ i ∧ i < k + s then 0 else f i
/-- the words behind a 'Fill' -/
def filled (f : Nat → Int) (a b : Nat) : Nat → Int := fun i => if i = a ∧ a < b then wordOf 2 ((b : Int) - (a : Int)) 0 0 0 else f i

set_option maxRecDepth 100000 in
set_option maxHeartbeats 1000000 in
theorem parse_make (w : World) (p q n : Nat) (f : Nat → Int) (k s : Nat) (pt : Int) (h : Arn w p q n f) (hR : Right 1 s pt 0 0) (hk : k + s ≤ n) :
    Calls Try.prog 25 #[.pointer (some ⟨p, 0, none⟩), .int .i64 k, .int .i64 s, .int .i64 pt] w
      fun e w' => e = .returned (.int .i64 0) ∧ Chg (fun g => g = p ∨ g = q) w w' ∧ Arn w' p q n (made f k s pt) := by
  obtain ⟨⟨acc, har⟩, hr⟩ := h
  have hpl := har.lt.1
  have hql := har.lt.2
  have hs1 : 1 ≤ s := by unfold Right at hR; omega
  have hw := word_bounds hR
  have HR := hid hR
  have HA := hid (har.chg (((Chg.refl (fun _ => False) w).alloc (.cells #[.int .i64 1, .int .i64 (s : Int), .int .i64 pt, .int .i64 0, .int .i64 0] 73)).alloc (.cells #[.int .i64 0, .int .i64 0, .int .i64 pt, .int .i64 0, .int .i64 0] 73)) (by simp) (by simp))
  have HF := hid hr
  clear har hr hR
  revert hw HR
  generalize hW : wordOf 1 s pt 0 0 = W
  have HW := hid hW
  clear hW
  intro hw HR
  go_enter Try.func25, Try.ntmps25
  go_wp2_with (first
    | (go_at_call 36; refine (pack_right 1 s pt 0 0 _ HR.out).mono ?_; rintro e w' ⟨rfl, rfl⟩)
    | (go_at_call 37; refine (arena_zero _ p q n acc f k s HA.out hk).mono ?_; rintro e w1 ⟨rfl, ha1, hc1⟩; have HA1 := hid ha1; have HC1 := hid hc1; clear ha1 hc1)
    | (go_at_call 29; refine (arena_store _ p q n acc _ k _ HA1.out (by omega)).mono ?_; rintro e w' ⟨rfl, rfl⟩))
  go_ret
  refine ⟨rfl, ?_, ?_⟩
  · have hc : Chg (fun g => g = p ∨ g = q) w w1 := (((Chg.refl _ w).alloc _).alloc _).trans (HC1.out.mono (fun g _ h => .inr h))
    (repeat (first | with_reducible exact hc | with_reducible exact Chg.refl _ _ | with_reducible apply Chg.drewN | with_reducible apply Chg.drew | with_reducible apply Chg.alloc | (with_reducible refine Chg.setCell ?_ ?_ _; rotate_left; focus (first | (refine Or.inr ?_; first | omega | (simp; done) | (simp; omega)) | exact Or.inl (by assumption) | with_reducible exact Or.inl rfl | exact Or.inl (by simp))) | refine Chg.trans ?_ (Chg.of_below (by with_reducible assumption) (fun k h1 h2 => absurd h1 (by first | omega | (simp; omega)))) | refine Chg.trans ?_ (by with_reducible assumption)))
  · refine ⟨⟨_, ((HA1.out.more _).store k _).congr fun i hi => ?_⟩, fun i hi => ?_⟩
    · rfl
    · unfold made
      rw [HW.out]
      split
      · exact hw
      · split
        · omega
        · exact HF.out i hi

set_option maxRecDepth 100000 in
set_option maxHeartbeats 1000000 in
theorem parse_make_shape (w : World) (p : Nat) (z s pt : Int) (hR : ¬ Right 1 s pt 0 0) :
    Calls Try.prog 25 #[.pointer (some ⟨p, 0, none⟩), .int .i64 z, .int .i64 s, .int .i64 pt] w
      fun e w' => e = .returned (.int .i64 3) ∧ Chg (fun _ => False) w w' := by
  have HR := hid hR
  clear hR
  go_enter Try.func25, Try.ntmps25
  go_wp2_with (go_at_call 36; refine (pack_wrong 1 s pt 0 0 _ HR.out).mono ?_; rintro e w' ⟨rfl, rfl⟩)
  go_ret
  exact ⟨rfl, by (repeat (first | with_reducible exact Chg.refl _ _ | with_reducible apply Chg.drewN | with_reducible apply Chg.drew | with_reducible apply Chg.alloc | (with_reducible refine Chg.setCell ?_ ?_ _; rotate_left; focus (first | (refine Or.inr ?_; first | omega | (simp; done) | (simp; omega)) | exact Or.inl (by assumption) | with_reducible exact Or.inl rfl | exact Or.inl (by simp))) | refine Chg.trans ?_ (Chg.of_below (by with_reducible assumption) (fun k h1 h2 => absurd h1 (by first | omega | (simp; omega)))) | refine Chg.trans ?_ (by with_reducible assumption)))⟩

set_option maxRecDepth 100000 in
set_option maxHeartbeats 1000000 in
theorem parse_make_range (w : World) (p q n : Nat) (f : Nat → Int) (z s pt : Int) (h : Arn w p q n f) (hR : Right 1 s pt 0 0) (hk : z < 0 ∨ (n : Int) < z + s) :
    Calls Try.prog 25 #[.pointer (some ⟨p, 0, none⟩), .int .i64 z, .int .i64 s, .int .i64 pt] w
      fun e w' => e = .returned (.int .i64 2) ∧ Chg (fun _ => False) w w' := by
  obtain ⟨⟨acc, har⟩, hr⟩ := h
  have HX := hid (show z < 0 ∨ s < 0 ∨ (n : Int) < z ∨ (n : Int) - z < s by omega)
  have HR := hid hR
  have HA := hid (har.chg (((Chg.refl (fun _ => False) w).alloc (.cells #[.int .i64 1, .int .i64 (s : Int), .int .i64 pt, .int .i64 0, .int .i64 0] 73)).alloc (.cells #[.int .i64 0, .int .i64 0, .int .i64 pt, .int .i64 0, .int .i64 0] 73)) (by simp) (by simp))
  clear har hr hR hk
  go_enter Try.func25, Try.ntmps25
  go_wp2_with (first
    | (go_at_call 36; refine (pack_right 1 s pt 0 0 _ HR.out).mono ?_; rintro e w' ⟨rfl, rfl⟩)
    | (go_at_call 37; refine (arena_zero_out _ p q n acc f z s HA.out HX.out).mono ?_; rintro e w' ⟨rfl, rfl⟩))
  go_ret
  exact ⟨rfl, by (repeat (first | with_reducible exact Chg.refl _ _ | with_reducible apply Chg.drewN | with_reducible apply Chg.drew | with_reducible apply Chg.alloc | (with_reducible refine Chg.setCell ?_ ?_ _; rotate_left; focus (first | (refine Or.inr ?_; first | omega | (simp; done) | (simp; omega)) | exact Or.inl (by assumption) | with_reducible exact Or.inl rfl | exact Or.inl (by simp))) | refine Chg.trans ?_ (Chg.of_below (by with_reducible assumption) (fun k h1 h2 => absurd h1 (by first | omega | (simp; omega)))) | refine Chg.trans ?_ (by with_reducible assumption)))⟩

theorem parse_make_nil (w : World) (z s pt : Int) :
    Calls Try.prog 25 #[.pointer none, .int .i64 z, .int .i64 s, .int .i64 pt] w fun e w' => e = .returned (.int .i64 1) ∧ w = w' := by
  go_enter Try.func25, Try.ntmps25
  go_wp2
  go_ret
  exact ⟨rfl, rfl⟩

theorem parse_fill_out (w : World) (p q n : Nat) (f : Nat → Int) (a b : Int) (h : Arn w p q n f) (h1 : a < 0 ∨ b < a ∨ n < b) :
    Calls Try.prog 27 #[.pointer (some ⟨p, 0, none⟩), .int .i64 a, .int .i64 b] w fun e w' => e = .returned (.int .i64 2) ∧ w = w' := by
  go_enter Try.func27, Try.ntmps27
  go_wp2_with (go_at_call 40; refine (parse_bounds_out _ p q n f a b h h1).mono ?_; rintro e w' ⟨rfl, rfl⟩)
  go_ret
  exact ⟨rfl, rfl⟩
theorem parse_fill_nil (w : World) (a b : Int) :
    Calls Try.prog 27 #[.pointer none, .int .i64 a, .int .i64 b] w fun e w' => e = .returned (.int .i64 1) ∧ w = w' := by
  go_enter Try.func27, Try.ntmps27
  go_wp2_with (go_at_call 40; refine (parse_bounds_nil _ a b).mono ?_; rintro e w' ⟨rfl, rfl⟩)
  go_ret
  exact ⟨rfl, rfl⟩

set_option maxRecDepth 100000 in
set_option maxHeartbeats 1000000 in
theorem parse_fill (w : World) (p q n : Nat) (f : Nat → Int) (a b : Nat) (h : Arn w p q n f) (h1 : a ≤ b) (h2 : b ≤ n) (hn : n ≤ 1048576) :
    Calls Try.prog 27 #[.pointer (some ⟨p, 0, none⟩), .int .i64 a, .int .i64 b] w
      fun e w' => e = .returned (.int .i64 0) ∧ Chg (fun g => g = p ∨ g = q) w w' ∧ Arn w' p q n (filled f a b) := by
  have HA := hid h
  clear h
  go_enter Try.func27, Try.ntmps27
  go_wp2_with (go_at_call 40; refine (parse_bounds _ p q n f a b HA.out h1 h2).mono ?_; rintro e w' ⟨rfl, rfl⟩)
  go_loopw [1] (fun i wr => (i = .int .i64 a ∧ wr = w) ∨ (i = .int .i64 b ∧ a < b ∧ Chg (fun g => g = p ∨ g = q) w wr ∧ Arn wr p q n (filled f a b))) (fun i _ => b - (intOf i).toNat)
  case atStart => exact .inl ⟨rfl, rfl⟩
  case round =>
    rcases hrel with ⟨rfl, rfl⟩ | ⟨rfl, hlt, hc, har⟩
    · by_cases hlt : a < b
      · have hlt' : (a : Int) < (b : Int) := by omega
        obtain ⟨d, hd⟩ : ∃ d : Int, d = (b : Int) - (a : Int) := ⟨_, rfl⟩
        have hd1 : 1 ≤ d := by omega
        have hd2 : d ≤ 1048576 := by omega
        have e1 : IntKind.i64.wrap ((b : Int) - (a : Int)) = d := by rw [← hd]; exact IntWalk.i64_in _ (by omega)
        have e2 : IntKind.i64.wrap ((a : Int) + d) = (b : Int) := by rw [show (a : Int) + d = b by omega]; exact IntWalk.i64_in _ (by omega)
        have hR : Right 2 d 0 0 0 := .inr (.inr (.inl ⟨rfl, by omega, by omega, rfl, rfl, rfl⟩))
        have HR := hid hR
        have HW := hid (word_bounds hR)
        have HD := hid hd
        clear hd hR
        go_wp2_with (first
          | (go_at_call 36; refine (pack_right 2 d 0 0 0 _ HR.out).mono ?_; rintro e w' ⟨rfl, rfl⟩)
          | (go_at_call 29; refine (arn_store _ p q n f a _ (HA.out.chg (((Chg.refl (fun _ => False) _).alloc _).alloc _) (by simp) (by simp)) (by omega) HW.out.1 HW.out.2).mono ?_; rintro e w1 ⟨rfl, hc1, ha1⟩; have HA1 := hid ha1; have HC1 := hid hc1; clear ha1 hc1))
        go_roundw
        case rel =>
          refine .inr ⟨by first | rfl | go_num | simp [e2], hlt, (((Chg.refl _ _).alloc _).alloc _).trans HC1.out, ?_⟩
          have := HA1.out
          rw [HD.out] at this
          have e : filled f a b = fun i => if i = a then wordOf 2 ((b : Int) - (a : Int)) 0 0 0 else f i := by
            funext i; unfold filled
            by_cases hi : i = a
            · rw [if_pos ⟨hi, hlt⟩, if_pos hi]
            · rw [if_neg (fun h => hi h.1), if_neg hi]
          rw [e]; exact this
        case measure => simp [intOf]; omega
      · obtain rfl : a = b := by omega
        go_wp2_with fail
        go_ret
        refine ⟨rfl, Chg.refl _ _, ?_⟩
        have e : filled f a a = f := by funext i; unfold filled; rw [if_neg (by omega)]
        rw [e]; exact HA.out
    · go_wp2_with fail
      go_ret
      exact ⟨rfl, hc, har⟩
end Go.Proofs.Ythmjjmimmbgpaaa
