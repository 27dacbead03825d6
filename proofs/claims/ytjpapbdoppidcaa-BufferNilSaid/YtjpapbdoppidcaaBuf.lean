/-
  Contracts of the functions of package buffer (layer 8) and of its reference.
-/
import Derived.Test.YtjpapbdoppidcaaRows
import Derived.Test.YtjpapbdoppidcaaUtil
namespace Go.Proofs.Ytjpapbdoppidcaa
open Go.RowKit

theorem rest_any (b o : Nat) (x y : Int) (w : World) (hx : w.cell? ⟨b, o, none⟩ = some (.int .i64 x)) (hy : w.cell? ⟨b, o + 1, none⟩ = some (.int .i64 y)) :
    Calls Try.prog 23 #[.pointer (some ⟨b, o, none⟩)] w fun e w' => e = .returned (.tuple #[.int .i64 x, .int .i64 y]) ∧ ∃ n, w' = w.drewN n := by
  go_enter Try.func23, Try.ntmps23
  go_wp2
  go_quiet (fail)
  go_wp2
  go_ret2
  exact ⟨rfl, _, rfl⟩

theorem rest_nil (w : World) :
    Calls Try.prog 23 #[.pointer none] w fun e w' => e = .returned (.tuple #[.int .i64 0, .int .i64 0]) ∧ w = w' := by
  go_enter Try.func23, Try.ntmps23
  go_wp2
  go_ret2
  exact ⟨rfl, rfl⟩

theorem left_any (b o : Nat) (x y : Int) (w : World) (hx : w.cell? ⟨b, o, none⟩ = some (.int .i64 x)) (hy : w.cell? ⟨b, o + 1, none⟩ = some (.int .i64 y))
    (h0 : 0 ≤ x) (h1 : x ≤ y) (h2 : y ≤ 4194304) :
    Calls Try.prog 12 #[.pointer (some ⟨b, o, none⟩)] w fun e w' => e = .returned (.int .i64 (y - x)) ∧ ∃ n, w' = w.drewN n := by
  go_enter Try.func12, Try.ntmps12
  go_wp2_with (go_at_call 23; refine (rest_any b o x y _ hx hy).mono ?_; rintro e w' ⟨rfl, n, rfl⟩)
  go_ret
  exact ⟨rfl, _, rfl⟩

theorem left_nil (w : World) :
    Calls Try.prog 12 #[.pointer none] w fun e w' => e = .returned (.int .i64 0) ∧ w = w' := by
  go_enter Try.func12, Try.ntmps12
  go_wp2_with (go_at_call 23; refine (rest_nil _).mono ?_; rintro e w' ⟨rfl, rfl⟩)
  go_ret
  exact ⟨rfl, rfl⟩

theorem take_ok (b o : Nat) (x y n : Int) (w : World) (hx : w.cell? ⟨b, o, none⟩ = some (.int .i64 x)) (hy : w.cell? ⟨b, o + 1, none⟩ = some (.int .i64 y))
    (hf : w.frozen? ⟨b, o, none⟩ = false) (h0 : 0 ≤ x) (h1 : x ≤ y) (h2 : y ≤ 4194304) (hn : 1 ≤ n) (hn2 : n ≤ y - x) :
    Calls Try.prog 13 #[.pointer (some ⟨b, o, none⟩), .int .i64 n] w fun e w' => e = .returned (.tuple #[.int .i64 x, .int .i64 0]) ∧ ∃ k, w' = (w.setCell ⟨b, o, none⟩ (.int .i64 (x + n))).drewN k := by
  go_enter Try.func13, Try.ntmps13
  go_wp2_with (go_at_call 12; refine (left_any b o x y _ hx hy h0 h1 h2).mono ?_; rintro e w' ⟨rfl, n, rfl⟩)
  go_ret2
  exact ⟨rfl, _, rfl⟩

theorem take_full (b o : Nat) (x y n : Int) (w : World) (hx : w.cell? ⟨b, o, none⟩ = some (.int .i64 x)) (hy : w.cell? ⟨b, o + 1, none⟩ = some (.int .i64 y))
    (h0 : 0 ≤ x) (h1 : x ≤ y) (h2 : y ≤ 4194304) (hn : 1 ≤ n) (hn2 : y - x < n) :
    Calls Try.prog 13 #[.pointer (some ⟨b, o, none⟩), .int .i64 n] w fun e w' => e = .returned (.tuple #[.int .i64 0, .int .i64 6]) ∧ ∃ k, w' = w.drewN k := by
  go_enter Try.func13, Try.ntmps13
  go_wp2_with (go_at_call 12; refine (left_any b o x y _ hx hy h0 h1 h2).mono ?_; rintro e w' ⟨rfl, n, rfl⟩)
  go_ret2
  exact ⟨rfl, _, rfl⟩

theorem take_range (b o : Nat) (n : Int) (w : World) (hn : n < 1) :
    Calls Try.prog 13 #[.pointer (some ⟨b, o, none⟩), .int .i64 n] w fun e w' => e = .returned (.tuple #[.int .i64 0, .int .i64 2]) ∧ w = w' := by
  go_enter Try.func13, Try.ntmps13
  go_wp2
  go_ret2
  exact ⟨rfl, rfl⟩

theorem take_nil (n : Int) (w : World) :
    Calls Try.prog 13 #[.pointer none, .int .i64 n] w fun e w' => e = .returned (.tuple #[.int .i64 0, .int .i64 1]) ∧ w = w' := by
  go_enter Try.func13, Try.ntmps13
  go_wp2
  go_ret2
  exact ⟨rfl, rfl⟩

theorem drop_any (b o : Nat) (x y : Int) (w : World) (hx : w.cell? ⟨b, o, none⟩ = some (.int .i64 x)) (hy : w.cell? ⟨b, o + 1, none⟩ = some (.int .i64 y))
    (hf : w.frozen? ⟨b, o, none⟩ = false) (hf1 : w.frozen? ⟨b, o + 1, none⟩ = false) :
    Calls Try.prog 20 #[.pointer (some ⟨b, o, none⟩)] w fun e w' => e = .returned (.tuple #[.int .i64 x, .int .i64 y]) ∧ ∃ k, w' = ((w.setCell ⟨b, o, none⟩ (.int .i64 0)).setCell ⟨b, o + 1, none⟩ (.int .i64 0)).drewN k := by
  go_enter Try.func20, Try.ntmps20
  go_wp2_with (go_at_call 23; refine (rest_any b o x y _ hx hy).mono ?_; rintro e w' ⟨rfl, n, rfl⟩)
  go_ret2
  exact ⟨rfl, _, rfl⟩

theorem drop_nil (w : World) :
    Calls Try.prog 20 #[.pointer none] w fun e w' => e = .returned (.tuple #[.int .i64 0, .int .i64 0]) ∧ w = w' := by
  go_enter Try.func20, Try.ntmps20
  go_wp2_with (go_at_call 23; refine (rest_nil _).mono ?_; rintro e w' ⟨rfl, rfl⟩)
  go_ret2
  exact ⟨rfl, rfl⟩



/-- what New answers: the words, or none -/
theorem new_ok (x y : Int) (w : World) (h0 : 0 ≤ x) (h1 : x < y) (h2 : y ≤ 4194304) :
    Calls Try.prog 11 #[.int .i64 x, .int .i64 y] w fun e w' => e = .returned (.tuple #[.agg #[.int .i64 x, .int .i64 y], .int .i64 0]) ∧ w.alloc (Obj.cells #[.int .i64 x, .int .i64 y] 25) = w' := by
  go_enter Try.func11, Try.ntmps11
  go_wp2
  exact bodyPost_ret (v := .tuple #[.agg #[.int .i64 x, .int .i64 y], .int .i64 0]) (by simp [results, Try.results11, go_sem]) rfl ⟨rfl, rfl⟩

theorem new_none (x : Int) (w : World) (h0 : 0 ≤ x) (h2 : x ≤ 4194304) :
    Calls Try.prog 11 #[.int .i64 x, .int .i64 x] w fun e w' => e = .returned (.tuple #[.agg #[.int .i64 0, .int .i64 0], .int .i64 0]) ∧ w.alloc (Obj.cells #[.int .i64 0, .int .i64 0] 25) = w' := by
  go_enter Try.func11, Try.ntmps11
  go_wp2
  exact bodyPost_ret (v := .tuple #[.agg #[.int .i64 0, .int .i64 0], .int .i64 0]) (by simp [results, Try.results11, go_sem]) rfl ⟨rfl, rfl⟩

theorem new_bad (x y : Int) (w : World) (h : x < 0 ∨ y < x ∨ 4194304 < y) :
    Calls Try.prog 11 #[.int .i64 x, .int .i64 y] w fun e w' => e = .returned (.tuple #[.agg #[.int .i64 0, .int .i64 0], .int .i64 2]) ∧ w.alloc (Obj.cells #[.int .i64 0, .int .i64 0] 25) = w' := by
  by_cases ha : x < 0
  · go_enter Try.func11, Try.ntmps11
    go_wp2
    exact bodyPost_ret (v := .tuple #[.agg #[.int .i64 0, .int .i64 0], .int .i64 2]) (by simp [results, Try.results11, go_sem]) rfl ⟨rfl, rfl⟩
  · by_cases hb : y < x
    · clear h
      go_enter Try.func11, Try.ntmps11
      go_wp2
      exact bodyPost_ret (v := .tuple #[.agg #[.int .i64 0, .int .i64 0], .int .i64 2]) (by simp [results, Try.results11, go_sem]) rfl ⟨rfl, rfl⟩
    · have hc : 4194304 < y := by omega
      clear h
      go_enter Try.func11, Try.ntmps11
      go_wp2
      exact bodyPost_ret (v := .tuple #[.agg #[.int .i64 0, .int .i64 0], .int .i64 2]) (by simp [results, Try.results11, go_sem]) rfl ⟨rfl, rfl⟩

set_option maxHeartbeats 1000000 in
theorem awake_any (w : World) :
    Calls Try.prog 10 #[] w fun e w' => e = .returned (.bool true) ∧ Below w.heap.size w w' := by
  go_enter Try.func10, Try.ntmps10
  go_wp2_with (first
    | (go_at_call 11; refine (new_ok _ _ _ (by omega) (by omega) (by omega)).mono ?_; rintro e w' ⟨rfl, rfl⟩)
    | (go_at_call_of 13 (Value.int IntKind.i64 4); refine (take_ok _ 0 64 74 4 _ (by go_simp) (by go_simp) (by go_simp) (by omega) (by omega) (by omega) (by omega) (by omega)).mono ?_; rintro e w' ⟨rfl, n, rfl⟩)
    | (go_at_call_of 13 (Value.int IntKind.i64 6); refine (take_ok _ 0 68 74 6 _ (by go_simp) (by go_simp) (by go_simp) (by omega) (by omega) (by omega) (by omega) (by omega)).mono ?_; rintro e w' ⟨rfl, n, rfl⟩)
    | (go_at_call 13; refine (take_full _ 0 74 74 1 _ (by go_simp) (by go_simp) (by omega) (by omega) (by omega) (by omega) (by omega)).mono ?_; rintro e w' ⟨rfl, n, rfl⟩))
  go_ret
  refine ⟨rfl, ?_⟩
  (repeat (first | exact Below.refl _ _ | exact Below.refl _ _ | apply bel_drewN.2 | apply bel_drew.2 | refine Below.setCell ?_ (by first | omega | (simp; done) | (simp; omega)) _ | refine Below.alloc ?_ (by first | omega | (simp; done) | (simp; omega)) _))

/-- New, of any words that may be: the words that are left, and where they begin unless there are none -/
theorem new_any (x y : Int) (w : World) (h0 : 0 ≤ x) (h1 : x ≤ y) (h2 : y ≤ 4194304) :
    Calls Try.prog 11 #[.int .i64 x, .int .i64 y] w fun e w' => ∃ u v : Int, e = .returned (.tuple #[.agg #[.int .i64 u, .int .i64 v], .int .i64 0]) ∧
      0 ≤ u ∧ u ≤ v ∧ v ≤ 4194304 ∧ v - u = y - x ∧ (u = x ∨ u = v) ∧ w.alloc (Obj.cells #[.int .i64 u, .int .i64 v] 25) = w' := by
  by_cases h : x = y
  · subst h
    refine (new_none x w h0 h2).mono ?_
    rintro e w' ⟨rfl, rfl⟩
    exact ⟨0, 0, rfl, by omega, by omega, by omega, by omega, .inr rfl, rfl⟩
  · refine (new_ok x y w h0 (by omega) h2).mono ?_
    rintro e w' ⟨rfl, rfl⟩
    exact ⟨x, y, rfl, by omega, by omega, by omega, by omega, .inl rfl, rfl⟩
end Go.Proofs.Ytjpapbdoppidcaa
