/-
  ArenaNil (layer 3), and the calls that both statements of the layer make first.
-/
import Derived.Test.YtjpapbdoppidcaaArena2
set_option linter.unusedVariables false
set_option linter.unusedSimpArgs false
namespace Go.Proofs.Ytjpapbdoppidcaa
open Go.RowKit

theorem arena_swap (w : World) (p q n : Nat) (acc : Int) (f : Nat → Int) (k : Nat) (v u : Int) (h : ArenaAt w p q n acc f) (hk : k < n) (hv : f k = v) :
    Calls Try.prog 30 #[.pointer (some ⟨p, 0, none⟩), .int .i64 k, .int .u64 v, .int .u64 u] w
      fun e w' => e = .returned (.tuple #[.bool true, .int .i64 0]) ∧ (w.setCell ⟨p, 1, none⟩ (.int .i64 (wrap64 (acc + 1)))).setCell ⟨q, k, none⟩ (.int .u64 u) = w' := by
  have hq : (w.setCell ⟨p, 1, none⟩ (.int .i64 (wrap64 (acc + 1)))).cell? ⟨q, k, none⟩ = some (.int .u64 v) := by rw [← hv]; exact (h.more (wrap64 (acc + 1))).row.cell hk
  have hf : (w.setCell ⟨p, 1, none⟩ (.int .i64 (wrap64 (acc + 1)))).frozen? ⟨q, k, none⟩ = false := (h.more (wrap64 (acc + 1))).row.frozen k
  clear hv
  go_enter Try.func30, Try.ntmps30
  go_wp2_with (go_at_call 35; refine (arena_word w p q n acc f k h hk).mono ?_; rintro e w' ⟨rfl, rfl⟩)
  go_ret2
  exact ⟨rfl, rfl⟩

theorem arena_accesses (w : World) (p q n : Nat) (acc : Int) (f : Nat → Int) (h : ArenaAt w p q n acc f) :
    Calls Try.prog 32 #[.pointer (some ⟨p, 0, none⟩)] w fun e w' => e = .returned (.int .i64 acc) ∧ w = w' := by
  obtain ⟨h1, h2, h3, h4, h5, h6, h7⟩ := h
  clear h5
  go_enter Try.func32, Try.ntmps32
  go_wp2
  go_ret
  exact ⟨rfl, rfl⟩

theorem arena_accesses_nil (w : World) :
    Calls Try.prog 32 #[.pointer none] w fun e w' => e = .returned (.int .i64 0) ∧ w = w' := by
  go_enter Try.func32, Try.ntmps32
  go_wp2
  go_ret
  exact ⟨rfl, rfl⟩

set_option maxRecDepth 100000 in
set_option maxHeartbeats 1000000 in
theorem awake03 (w : World) : Calls Try.prog 24 #[] w fun e w' => e = .returned (.bool true) ∧ Below w.heap.size w w' := by
  have hw3 : (wrap64 (wrap64 (wrap64 1 + 1) + 1) == 3) = true := by simp [wrap64]
  go_enter Try.func24, Try.ntmps24
  go_wp2_with (first
    | (go_at_call 25; refine (arena_new 10 _ (by omega)).mono ?_; rintro e wa ⟨p, q, rfl, hp, hq, hb, har⟩; have hA := hid har; clear har)
    | (go_at_call 26; refine (arena_store _ p q 10 0 _ 9 7 hA.out (by omega)).mono ?_; rintro e w' ⟨rfl, rfl⟩; have hA2 := hid ((hA.out.more (wrap64 (0 + 1))).store 9 7))
    | (go_at_call 30; refine (arena_swap _ p q 10 (wrap64 (0 + 1)) _ 9 7 1 hA2.out (by omega) (by simp)).mono ?_; rintro e w' ⟨rfl, rfl⟩; have hA3 := hid ((hA2.out.more (wrap64 (wrap64 (0 + 1) + 1))).store 9 1))
    | (go_at_call 27; refine (arena_load _ p q 10 (wrap64 (wrap64 (0 + 1) + 1)) _ 9 hA3.out (by omega)).mono ?_; rintro e w' ⟨rfl, rfl⟩; have hA4 := hid (hA3.out.more (wrap64 (wrap64 (wrap64 (0 + 1) + 1) + 1))))
    | (go_at_call 31; refine (arena_len _ p q 10 _ _ hA4.out).mono ?_; rintro e w' ⟨rfl, rfl⟩)
    | (go_at_call 32; refine (arena_accesses _ p q 10 _ _ hA4.out).mono ?_; rintro e w' ⟨rfl, rfl⟩))
  go_ret
  exact ⟨rfl, by (repeat (first | exact Below.refl _ _ | exact Below.refl _ _ | apply bel_drewN.2 | apply bel_drew.2 | refine Below.setCell ?_ (by first | omega | (simp; done) | (simp; omega)) _ | refine Below.alloc ?_ (by first | omega | (simp; done) | (simp; omega)) _ | refine bel_step (by assumption) (by first | omega | (simp; done) | (simp; omega)) ?_))⟩

set_option maxRecDepth 100000 in
set_option maxHeartbeats 1000000 in
theorem arenaNil (k a b n v u : Int) (w : World) (_ : (Lit.int .i64 k).wf = true) (_ : (Lit.int .i64 a).wf = true) (_ : (Lit.int .i64 b).wf = true) (_ : (Lit.int .i64 n).wf = true) (_ : (Lit.int .u64 v).wf = true) (_ : (Lit.int .u64 u).wf = true) :
    Calls Try.prog 9 #[.agg #[.int .i64 k, .int .i64 a, .int .i64 b, .int .i64 n, .int .u64 v, .int .u64 u]] w fun e w' => e = .returned (.bool true) ∧ Below w.heap.size w w' := by
  go_enter Try.func9, Try.ntmps9
  go_wp2_with (first
    | (go_at_call 24; refine (awake03 _).mono ?_; rintro e w' ⟨rfl, hb⟩; have hb_0 := fun o => (hb).cell (p := ⟨w.heap.size, o, none⟩) (by first | omega | (simp; done) | (simp; omega)); have hbf_0 := fun o => (hb).frozen (p := ⟨w.heap.size, o, none⟩) (by first | omega | (simp; done) | (simp; omega)); have hbl_0 : w.heap.size < w'.heap.size := (by have := (hb).size; simp at this; omega); have hbm_0 := Nat.le_of_lt hbl_0)
    | (go_at_call 27; refine (arena_load_nil _ a).mono ?_; rintro e w' ⟨rfl, rfl⟩)
    | (go_at_call 30; refine (arena_swap_nil _ a v u).mono ?_; rintro e w' ⟨rfl, rfl⟩)
    | (go_at_call 26; refine (arena_store_nil _ a v).mono ?_; rintro e w' ⟨rfl, rfl⟩)
    | (go_at_call 29; refine (arena_zero_nil _ a n).mono ?_; rintro e w' ⟨rfl, rfl⟩)
    | (go_at_call 28; refine (arena_move_nil _ a b n).mono ?_; rintro e w' ⟨rfl, rfl⟩)
    | (go_at_call 31; refine (arena_len_nil _).mono ?_; rintro e w' ⟨rfl, rfl⟩)
    | (go_at_call 32; refine (arena_accesses_nil _).mono ?_; rintro e w' ⟨rfl, rfl⟩))
  go_ret
  exact ⟨rfl, by (repeat (first | exact Below.refl _ _ | exact Below.refl _ _ | apply bel_drewN.2 | apply bel_drew.2 | refine Below.setCell ?_ (by first | omega | (simp; done) | (simp; omega)) _ | refine Below.alloc ?_ (by first | omega | (simp; done) | (simp; omega)) _ | refine bel_step (by assumption) (by first | omega | (simp; done) | (simp; omega)) ?_))⟩
end Go.Proofs.Ytjpapbdoppidcaa
