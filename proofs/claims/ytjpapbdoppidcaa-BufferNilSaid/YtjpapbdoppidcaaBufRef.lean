/-
  Contracts of the reference of layer 8 (buffer), beside the program's.
-/
import Derived.Test.YtjpapbdoppidcaaBuf
import Derived.IntWalk
set_option linter.unusedVariables false
set_option linter.unusedSimpArgs false
namespace Go.Proofs.Ytjpapbdoppidcaa
open Go.RowKit

theorem eqb_false {a b : Int} (h : ¬ a = b) : (a == b) = false := by simpa using h

theorem rdrop_any (b o : Nat) (x y : Int) (w : World) (hx : w.cell? ⟨b, o, none⟩ = some (.int .i64 x)) (hy : w.cell? ⟨b, o + 1, none⟩ = some (.int .i64 y))
    (hf : w.frozen? ⟨b, o, none⟩ = false) (hf1 : w.frozen? ⟨b, o + 1, none⟩ = false) :
    Calls Try.prog 21 #[.pointer (some ⟨b, o, none⟩)] w fun e w' => e = .returned (.tuple #[.int .i64 x, .int .i64 y]) ∧ (w.setCell ⟨b, o, none⟩ (.int .i64 0)).setCell ⟨b, o + 1, none⟩ (.int .i64 0) = w' := by
  go_enter Try.func21, Try.ntmps21
  go_wp2
  go_ret2
  exact ⟨rfl, rfl⟩

theorem rtake_range (b o : Nat) (n : Int) (w : World) (hn : n < 1) :
    Calls Try.prog 22 #[.pointer (some ⟨b, o, none⟩), .int .i64 n] w fun e w' => e = .returned (.tuple #[.int .i64 0, .int .i64 2]) ∧ w = w' := by
  go_enter Try.func22, Try.ntmps22
  go_wp2
  go_ret2
  exact ⟨rfl, rfl⟩

theorem rtake_full (b o : Nat) (x y n : Int) (w : World) (hx : w.cell? ⟨b, o, none⟩ = some (.int .i64 x)) (hy : w.cell? ⟨b, o + 1, none⟩ = some (.int .i64 y))
    (h0 : 0 ≤ x) (h1 : x ≤ y) (h2 : y ≤ 4194304) (hn : 1 ≤ n) (hn2 : y - x < n) :
    Calls Try.prog 22 #[.pointer (some ⟨b, o, none⟩), .int .i64 n] w fun e w' => e = .returned (.tuple #[.int .i64 0, .int .i64 6]) ∧ ∃ k, w' = w.drewN k := by
  have e1 : IntKind.i64.wrap (y - x) = y - x := IntWalk.i64_in _ (by omega)
  go_enter Try.func22, Try.ntmps22
  go_wp2
  go_quiet (fail)
  go_wp2
  go_ret2
  exact ⟨rfl, _, rfl⟩

theorem rtake_ok (b o : Nat) (x y n : Int) (w : World) (hx : w.cell? ⟨b, o, none⟩ = some (.int .i64 x)) (hy : w.cell? ⟨b, o + 1, none⟩ = some (.int .i64 y))
    (hf : w.frozen? ⟨b, o, none⟩ = false) (h0 : 0 ≤ x) (h1 : x ≤ y) (h2 : y ≤ 4194304) (hn : 1 ≤ n) (hn2 : n ≤ y - x) :
    Calls Try.prog 22 #[.pointer (some ⟨b, o, none⟩), .int .i64 n] w fun e w' => e = .returned (.tuple #[.int .i64 x, .int .i64 0]) ∧ ∃ k, w' = (w.setCell ⟨b, o, none⟩ (.int .i64 (x + n))).drewN k := by
  have e1 : IntKind.i64.wrap (y - x) = y - x := IntWalk.i64_in _ (by omega)
  go_enter Try.func22, Try.ntmps22
  go_wp2
  go_quiet (fail)
  go_wp2
  go_ret2
  exact ⟨rfl, _, rfl⟩

theorem rnew_ok (x y : Int) (w : World) (h0 : 0 ≤ x) (h1 : x < y) (h2 : y ≤ 4194304) :
    Calls Try.prog 19 #[.int .i64 x, .int .i64 y] w fun e w' => e = .returned (.tuple #[.agg #[.int .i64 x, .int .i64 y], .int .i64 0]) ∧ w.alloc (Obj.cells #[.int .i64 x, .int .i64 y] 48) = w' := by
  go_enter Try.func19, Try.ntmps19
  go_wp2
  exact bodyPost_ret (v := .tuple #[.agg #[.int .i64 x, .int .i64 y], .int .i64 0]) (by simp [results, Try.results19, go_sem]) rfl ⟨rfl, rfl⟩

theorem rnew_none (x : Int) (w : World) (h0 : 0 ≤ x) (h2 : x ≤ 4194304) :
    Calls Try.prog 19 #[.int .i64 x, .int .i64 x] w fun e w' => e = .returned (.tuple #[.agg #[.int .i64 0, .int .i64 0], .int .i64 0]) ∧ w.alloc (Obj.cells #[.int .i64 0, .int .i64 0] 48) = w' := by
  go_enter Try.func19, Try.ntmps19
  go_wp2
  exact bodyPost_ret (v := .tuple #[.agg #[.int .i64 0, .int .i64 0], .int .i64 0]) (by simp [results, Try.results19, go_sem]) rfl ⟨rfl, rfl⟩

theorem rnew_bad (x y : Int) (w : World) (h : x < 0 ∨ y < x ∨ 4194304 < y) :
    Calls Try.prog 19 #[.int .i64 x, .int .i64 y] w fun e w' => e = .returned (.tuple #[.agg #[.int .i64 0, .int .i64 0], .int .i64 2]) ∧ w.alloc (Obj.cells #[.int .i64 0, .int .i64 0] 48) = w' := by
  by_cases ha : x < 0
  · go_enter Try.func19, Try.ntmps19
    go_wp2
    exact bodyPost_ret (v := .tuple #[.agg #[.int .i64 0, .int .i64 0], .int .i64 2]) (by simp [results, Try.results19, go_sem]) rfl ⟨rfl, rfl⟩
  · by_cases hb : y < x
    · clear h
      go_enter Try.func19, Try.ntmps19
      go_wp2
      exact bodyPost_ret (v := .tuple #[.agg #[.int .i64 0, .int .i64 0], .int .i64 2]) (by simp [results, Try.results19, go_sem]) rfl ⟨rfl, rfl⟩
    · have hc : 4194304 < y := by omega
      clear h
      go_enter Try.func19, Try.ntmps19
      go_wp2
      exact bodyPost_ret (v := .tuple #[.agg #[.int .i64 0, .int .i64 0], .int .i64 2]) (by simp [results, Try.results19, go_sem]) rfl ⟨rfl, rfl⟩

/-- what both News answer -/
theorem both_new (x y : Int) : ∃ u v e : Int, 0 ≤ u ∧ u ≤ v ∧ v ≤ 4194304 ∧
    (∀ w, Calls Try.prog 11 #[.int .i64 x, .int .i64 y] w fun z w' => z = .returned (.tuple #[.agg #[.int .i64 u, .int .i64 v], .int .i64 e]) ∧ w.alloc (Obj.cells #[.int .i64 u, .int .i64 v] 25) = w') ∧
    (∀ w, Calls Try.prog 19 #[.int .i64 x, .int .i64 y] w fun z w' => z = .returned (.tuple #[.agg #[.int .i64 u, .int .i64 v], .int .i64 e]) ∧ w.alloc (Obj.cells #[.int .i64 u, .int .i64 v] 48) = w') := by
  by_cases h : x < 0 ∨ y < x ∨ 4194304 < y
  · exact ⟨0, 0, 2, by omega, by omega, by omega, fun w => new_bad x y w h, fun w => rnew_bad x y w h⟩
  · by_cases h' : x = y
    · subst h'
      exact ⟨0, 0, 0, by omega, by omega, by omega, fun w => new_none x w (by omega) (by omega), fun w => rnew_none x w (by omega) (by omega)⟩
    · exact ⟨x, y, 0, by omega, by omega, by omega, fun w => new_ok x y w (by omega) (by omega) (by omega), fun w => rnew_ok x y w (by omega) (by omega) (by omega)⟩

set_option maxRecDepth 100000 in
set_option maxHeartbeats 1000000 in
theorem bufferNil (n : Int) (w : World) (hn : (Lit.int .i64 n).wf = true) : Calls Try.prog 7 #[.int .i64 n] w fun e w' => e = .returned (.bool true) ∧ Below w.heap.size w w' := by
  by_cases h1 : 1 ≤ n
  · go_enter Try.func7, Try.ntmps7
    go_wp2_with (first
      | (go_at_call 10; refine (awake_any _).mono ?_; rintro e w' ⟨rfl, hb⟩; have hz := (hb).size; (try simp at hz))
      | (go_at_call_of 13 (Value.pointer none); refine (take_nil n _).mono ?_; rintro e w' ⟨rfl, rfl⟩)
      | (go_at_call 13; refine (take_full _ 0 0 0 n _ (by go_simp) (by go_simp) (by omega) (by omega) (by omega) (by omega) (by omega)).mono ?_; rintro e w' ⟨rfl, k, rfl⟩)
      | (go_at_call 23; refine (rest_nil _).mono ?_; rintro e w' ⟨rfl, rfl⟩)
      | (go_at_call 20; refine (drop_nil _).mono ?_; rintro e w' ⟨rfl, rfl⟩)
      | (go_at_call_of 12 (Value.pointer none); refine (left_nil _).mono ?_; rintro e w' ⟨rfl, rfl⟩)
      | (go_at_call 12; refine (left_any _ 0 0 0 _ (by go_simp) (by go_simp) (by omega) (by omega) (by omega)).mono ?_; rintro e w' ⟨rfl, k, rfl⟩))
    go_ret
    exact ⟨rfl, by (repeat (first | exact Below.refl _ _ | exact Below.refl _ _ | apply bel_drewN.2 | apply bel_drew.2 | refine Below.setCell ?_ (by first | omega | (simp; done) | (simp; omega)) _ | refine Below.alloc ?_ (by first | omega | (simp; done) | (simp; omega)) _ | refine bel_step (by assumption) (by first | omega | (simp; done) | (simp; omega)) ?_))⟩
  · have h2 : n < 1 := by omega
    go_enter Try.func7, Try.ntmps7
    go_wp2_with (first
      | (go_at_call 10; refine (awake_any _).mono ?_; rintro e w' ⟨rfl, hb⟩; have hz := (hb).size; (try simp at hz))
      | (go_at_call_of 13 (Value.pointer none); refine (take_nil n _).mono ?_; rintro e w' ⟨rfl, rfl⟩)
      | (go_at_call 13; refine (take_full _ 0 0 0 1 _ (by go_simp) (by go_simp) (by omega) (by omega) (by omega) (by omega) (by omega)).mono ?_; rintro e w' ⟨rfl, k, rfl⟩)
      | (go_at_call 23; refine (rest_nil _).mono ?_; rintro e w' ⟨rfl, rfl⟩)
      | (go_at_call 20; refine (drop_nil _).mono ?_; rintro e w' ⟨rfl, rfl⟩)
      | (go_at_call_of 12 (Value.pointer none); refine (left_nil _).mono ?_; rintro e w' ⟨rfl, rfl⟩)
      | (go_at_call 12; refine (left_any _ 0 0 0 _ (by go_simp) (by go_simp) (by omega) (by omega) (by omega)).mono ?_; rintro e w' ⟨rfl, k, rfl⟩))
    go_ret
    exact ⟨rfl, by (repeat (first | exact Below.refl _ _ | exact Below.refl _ _ | apply bel_drewN.2 | apply bel_drew.2 | refine Below.setCell ?_ (by first | omega | (simp; done) | (simp; omega)) _ | refine Below.alloc ?_ (by first | omega | (simp; done) | (simp; omega)) _ | refine bel_step (by assumption) (by first | omega | (simp; done) | (simp; omega)) ?_))⟩
end Go.Proofs.Ytjpapbdoppidcaa
