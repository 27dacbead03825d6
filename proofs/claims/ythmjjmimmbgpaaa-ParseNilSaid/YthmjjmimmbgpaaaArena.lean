/-
  Contracts of package arena (layer 3).
-/
import Derived.Test.YthmjjmimmbgpaaaHeap
import Derived.Test.YthmjjmimmbgpaaaRows
set_option linter.unusedVariables false
set_option linter.unusedSimpArgs false
namespace Go.Proofs.Ythmjjmimmbgpaaa
open Go.RowKit

/-- an arena: its struct is block p, its words are block q -/
structure ArenaAt (w : World) (p q n : Nat) (acc : Int) (f : Nat → Int) : Prop where
  words : w.cell? ⟨p, 0, none⟩ = some (.slice (some ⟨q, 0, none⟩) n n)
  accs : w.cell? ⟨p, 1, none⟩ = some (.int .i64 acc)
  fz0 : w.frozen? ⟨p, 0, none⟩ = false
  fz1 : w.frozen? ⟨p, 1, none⟩ = false
  row : w.rowIs q 57 n (fun i => .int .u64 (f i))
  ne : p ≠ q
  bound : n ≤ 4194304

theorem ArenaAt.lt {w : World} {p q n : Nat} {acc : Int} {f : Nat → Int} (h : ArenaAt w p q n acc f) : p < w.heap.size ∧ q < w.heap.size := ⟨cell_lt h.words, h.row.lt⟩
theorem ArenaAt.chg {S : Nat → Prop} {w w' : World} {p q n : Nat} {acc : Int} {f : Nat → Int} (h : ArenaAt w p q n acc f) (c : Chg S w w') (hp : ¬ S p) (hq : ¬ S q) : ArenaAt w' p q n acc f :=
  ⟨(c.cell h.lt.1 hp).trans h.words, (c.cell h.lt.1 hp).trans h.accs, (c.frozen h.lt.1 hp).trans h.fz0, (c.frozen h.lt.1 hp).trans h.fz1, c.row h.row hq, h.ne, h.bound⟩
theorem ArenaAt.congr {w : World} {p q n : Nat} {acc : Int} {f g : Nat → Int} (h : ArenaAt w p q n acc f) (e : ∀ i, i < n → f i = g i) : ArenaAt w p q n acc g :=
  ⟨h.words, h.accs, h.fz0, h.fz1, h.row.congr fun i hi => by rw [e i hi], h.ne, h.bound⟩
/-- one more access -/
theorem ArenaAt.more {w : World} {p q n : Nat} {acc : Int} {f : Nat → Int} (h : ArenaAt w p q n acc f) (a : Int) : ArenaAt (w.setCell ⟨p, 1, none⟩ (.int .i64 a)) p q n a f :=
  ⟨by rw [World.cell?_setCell_other _ _ _ _ (by simp)]; exact h.words, World.cell?_setCell_same' _ _ _ (by rw [h.accs]; rfl), by rw [World.frozen?_setCell]; exact h.fz0, by rw [World.frozen?_setCell]; exact h.fz1,
    h.row.setOther (fun e => h.ne e.symm) _, h.ne, h.bound⟩
/-- a word is stored -/
theorem ArenaAt.store {w : World} {p q n : Nat} {acc : Int} {f : Nat → Int} (h : ArenaAt w p q n acc f) (i : Nat) (v : Int) : ArenaAt (w.setCell ⟨q, i, none⟩ (.int .u64 v)) p q n acc (fun j => if j = i then v else f j) :=
  ⟨by rw [World.cell?_setCell_other _ _ _ _ (by simp; intro e; exact absurd e.symm h.ne)]; exact h.words, by rw [World.cell?_setCell_other _ _ _ _ (by simp; intro e; exact absurd e.symm h.ne)]; exact h.accs,
    by rw [World.frozen?_setCell]; exact h.fz0, by rw [World.frozen?_setCell]; exact h.fz1, (h.row.set i _).congr (fun j _ => by split <;> rfl), h.ne, h.bound⟩

theorem info64 : (Try.prog.info? 57).map (fun i => (i.zero, i.size, i.bytes)) = some (some (.int .u64 0), 1, 8) := by kernel_rfl

set_option maxRecDepth 100000 in
theorem arena_new (n : Nat) (w : World) (hn : n ≤ 4194304) :
    Calls Try.prog 24 #[.int .i64 n] w fun e w' => ∃ p q : Nat, e = .returned (.tuple #[.pointer (some ⟨p, 0, none⟩), .int .i64 0]) ∧ w.heap.size ≤ p ∧ w.heap.size ≤ q ∧ Below w.heap.size w w' ∧ ArenaAt w' p q n 0 (fun _ => 0) := by
  have hmk := run_make_row' (P := Try.prog) 56 57 (.int .u64 0) 8 Try.underlying56 info64 rfl .i64 .i64 n (by omega) (by omega)
  go_enter Try.func24, Try.ntmps24
  go_wp2
  go_ret2
  refine ⟨w.heap.size + 1, w.heap.size, rfl, by omega, by omega, by (repeat (first | exact Below.refl _ _ | exact Below.refl _ _ | apply bel_drewN.2 | apply bel_drew.2 | refine Below.setCell ?_ (by first | omega | (simp; done) | (simp; omega)) _ | refine Below.alloc ?_ (by first | omega | (simp; done) | (simp; omega)) _ | refine bel_step (by assumption) (by first | omega | (simp; done) | (simp; omega)) ?_)), by go_simp, by go_simp, by go_simp, by go_simp, ?_, by omega, hn⟩
  exact ((World.rowIs_made w (.int .u64 0) n 57).alloc _)

/-- 'word': where a word lies; the access is counted -/
theorem arena_word (w : World) (p q n : Nat) (acc : Int) (f : Nat → Int) (k : Nat) (h : ArenaAt w p q n acc f) (hk : k < n) :
    Calls Try.prog 41 #[.pointer (some ⟨p, 0, none⟩), .int .i64 k] w fun e w' => e = .returned (.tuple #[.pointer (some ⟨q, k, none⟩), .int .i64 0]) ∧ w.setCell ⟨p, 1, none⟩ (.int .i64 (wrap64 (acc + 1))) = w' := by
  obtain ⟨h1, h2, h3, h4, h5, h6, h7⟩ := h
  clear h5
  have hk' : (k : Int) < (n : Int) := by omega
  clear hk
  go_enter Try.func41, Try.ntmps41
  go_wp2
  go_ret2
  exact ⟨rfl, rfl⟩

/-- out of its bounds -/
theorem arena_word_out (w : World) (p q n : Nat) (acc : Int) (f : Nat → Int) (k : Int) (h : ArenaAt w p q n acc f) (hk : k < 0 ∨ (n : Int) ≤ k) (hk0 : (Lit.int .i64 k).wf = true) :
    Calls Try.prog 41 #[.pointer (some ⟨p, 0, none⟩), .int .i64 k] w fun e w' => e = .returned (.tuple #[.pointer none, .int .i64 2]) ∧ w = w' := by
  have hb := bounds_i64 hk0
  obtain ⟨h1, h2, h3, h4, h5, h6, h7⟩ := h
  clear h5 h2 h3 h4 hk0
  rcases hk with hk | hk
  · have e1 : IntKind.u64.wrap k = k + 18446744073709551616 := by rw [IntKind.wrap_u64]; omega
    obtain ⟨K, hK⟩ : ∃ K : Int, K = k + 18446744073709551616 := ⟨_, rfl⟩
    rw [← hK] at e1
    have hK1 : (n : Int) ≤ K := by omega
    have hK2 : K ≤ 18446744073709551615 := by omega
    have HK := hid hK
    clear hK hb
    go_enter Try.func41, Try.ntmps41
    go_wp2
    go_ret2
    exact ⟨rfl, rfl⟩
  · have hk1 : 0 ≤ k := by omega
    go_enter Try.func41, Try.ntmps41
    go_wp2
    go_ret2
    exact ⟨rfl, rfl⟩

theorem arena_word_nil (w : World) (k : Int) :
    Calls Try.prog 41 #[.pointer none, .int .i64 k] w fun e w' => e = .returned (.tuple #[.pointer none, .int .i64 1]) ∧ w = w' := by
  go_enter Try.func41, Try.ntmps41
  go_wp2
  go_ret2
  exact ⟨rfl, rfl⟩

theorem arena_load (w : World) (p q n : Nat) (acc : Int) (f : Nat → Int) (k : Nat) (h : ArenaAt w p q n acc f) (hk : k < n) :
    Calls Try.prog 31 #[.pointer (some ⟨p, 0, none⟩), .int .i64 k] w fun e w' => e = .returned (.tuple #[.int .u64 (f k), .int .i64 0]) ∧ w.setCell ⟨p, 1, none⟩ (.int .i64 (wrap64 (acc + 1))) = w' := by
  have hq : (w.setCell ⟨p, 1, none⟩ (.int .i64 (wrap64 (acc + 1)))).cell? ⟨q, k, none⟩ = some (.int .u64 (f k)) := (h.more (wrap64 (acc + 1))).row.cell hk
  go_enter Try.func31, Try.ntmps31
  go_wp2_with (go_at_call 41; refine (arena_word w p q n acc f k h hk).mono ?_; rintro e w' ⟨rfl, rfl⟩)
  go_ret2
  exact ⟨rfl, rfl⟩

theorem arena_load_out (w : World) (p q n : Nat) (acc : Int) (f : Nat → Int) (k : Int) (h : ArenaAt w p q n acc f) (hk : k < 0 ∨ (n : Int) ≤ k) (hk0 : (Lit.int .i64 k).wf = true) :
    Calls Try.prog 31 #[.pointer (some ⟨p, 0, none⟩), .int .i64 k] w fun e w' => e = .returned (.tuple #[.int .u64 0, .int .i64 2]) ∧ w = w' := by
  go_enter Try.func31, Try.ntmps31
  go_wp2_with (go_at_call 41; refine (arena_word_out w p q n acc f k h hk hk0).mono ?_; rintro e w' ⟨rfl, rfl⟩)
  go_ret2
  exact ⟨rfl, rfl⟩

theorem arena_load_nil (w : World) (k : Int) :
    Calls Try.prog 31 #[.pointer none, .int .i64 k] w fun e w' => e = .returned (.tuple #[.int .u64 0, .int .i64 1]) ∧ w = w' := by
  go_enter Try.func31, Try.ntmps31
  go_wp2_with (go_at_call 41; refine (arena_word_nil w k).mono ?_; rintro e w' ⟨rfl, rfl⟩)
  go_ret2
  exact ⟨rfl, rfl⟩

theorem arena_store (w : World) (p q n : Nat) (acc : Int) (f : Nat → Int) (k : Nat) (v : Int) (h : ArenaAt w p q n acc f) (hk : k < n) :
    Calls Try.prog 29 #[.pointer (some ⟨p, 0, none⟩), .int .i64 k, .int .u64 v] w fun e w' => e = .returned (.int .i64 0) ∧ (w.setCell ⟨p, 1, none⟩ (.int .i64 (wrap64 (acc + 1)))).setCell ⟨q, k, none⟩ (.int .u64 v) = w' := by
  have hq : (w.setCell ⟨p, 1, none⟩ (.int .i64 (wrap64 (acc + 1)))).cell? ⟨q, k, none⟩ = some (.int .u64 (f k)) := (h.more (wrap64 (acc + 1))).row.cell hk
  have hf : (w.setCell ⟨p, 1, none⟩ (.int .i64 (wrap64 (acc + 1)))).frozen? ⟨q, k, none⟩ = false := (h.more (wrap64 (acc + 1))).row.frozen k
  go_enter Try.func29, Try.ntmps29
  go_wp2_with (go_at_call 41; refine (arena_word w p q n acc f k h hk).mono ?_; rintro e w' ⟨rfl, rfl⟩)
  go_ret
  exact ⟨rfl, rfl⟩

theorem arena_store_out (w : World) (p q n : Nat) (acc : Int) (f : Nat → Int) (k : Int) (v : Int) (h : ArenaAt w p q n acc f) (hk : k < 0 ∨ (n : Int) ≤ k) (hk0 : (Lit.int .i64 k).wf = true) :
    Calls Try.prog 29 #[.pointer (some ⟨p, 0, none⟩), .int .i64 k, .int .u64 v] w fun e w' => e = .returned (.int .i64 2) ∧ w = w' := by
  go_enter Try.func29, Try.ntmps29
  go_wp2_with (go_at_call 41; refine (arena_word_out w p q n acc f k h hk hk0).mono ?_; rintro e w' ⟨rfl, rfl⟩)
  go_ret
  exact ⟨rfl, rfl⟩

theorem arena_store_nil (w : World) (k v : Int) :
    Calls Try.prog 29 #[.pointer none, .int .i64 k, .int .u64 v] w fun e w' => e = .returned (.int .i64 1) ∧ w = w' := by
  go_enter Try.func29, Try.ntmps29
  go_wp2_with (go_at_call 41; refine (arena_word_nil w k).mono ?_; rintro e w' ⟨rfl, rfl⟩)
  go_ret
  exact ⟨rfl, rfl⟩

theorem arena_len (w : World) (p q n : Nat) (acc : Int) (f : Nat → Int) (h : ArenaAt w p q n acc f) :
    Calls Try.prog 46 #[.pointer (some ⟨p, 0, none⟩)] w fun e w' => e = .returned (.int .i64 n) ∧ w = w' := by
  obtain ⟨h1, h2, h3, h4, h5, h6, h7⟩ := h
  clear h5
  go_enter Try.func46, Try.ntmps46
  go_wp2
  go_ret
  exact ⟨rfl, rfl⟩

theorem arena_len_nil (w : World) :
    Calls Try.prog 46 #[.pointer none] w fun e w' => e = .returned (.int .i64 0) ∧ w = w' := by
  go_enter Try.func46, Try.ntmps46
  go_wp2
  go_ret
  exact ⟨rfl, rfl⟩

end Go.Proofs.Ythmjjmimmbgpaaa
