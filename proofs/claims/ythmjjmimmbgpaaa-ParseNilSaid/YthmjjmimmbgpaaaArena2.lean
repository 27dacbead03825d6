/-
  Contracts of package arena (layer 3): rows of words.
-/
import Derived.Test.YthmjjmimmbgpaaaArena
set_option linter.unusedVariables false
set_option linter.unusedSimpArgs false
namespace Go.Proofs.Ythmjjmimmbgpaaa
open Go.RowKit

theorem ret2_slice {A : Option Addr} {l l' c : Nat} {e : Int} (h : l = l') : Ending.returned (.tuple #[.slice A l c, .int .i64 e]) = .returned (.tuple #[.slice A l' c, .int .i64 e]) := by rw [h]

theorem arena_row (w : World) (p q n : Nat) (acc : Int) (f : Nat → Int) (k m : Nat) (h : ArenaAt w p q n acc f) (hk : k + m ≤ n) (hm : 0 < m) :
    Calls Try.prog 48 #[.pointer (some ⟨p, 0, none⟩), .int .i64 k, .int .i64 m] w fun e w' => e = .returned (.tuple #[.slice (some ⟨q, k, none⟩) m (n - k), .int .i64 0]) ∧ w = w' := by
  obtain ⟨h1, h2, h3, h4, h5, h6, h7⟩ := h
  clear h5
  have hne : ¬ n = k := by omega
  have hle : (m : Int) ≤ (n : Int) - (k : Int) := by omega
  have hke : (k : Int) ≤ (n : Int) := by omega
  have hke2 : (k : Int) + (m : Int) ≤ (n : Int) := by omega
  go_enter Try.func48, Try.ntmps48
  go_wp2
  go_ret2
  exact ⟨ret2_slice (by omega), rfl⟩

theorem arena_row_none (w : World) (p q n : Nat) (acc : Int) (f : Nat → Int) (k : Nat) (h : ArenaAt w p q n acc f) (hk : k ≤ n) :
    Calls Try.prog 48 #[.pointer (some ⟨p, 0, none⟩), .int .i64 k, .int .i64 0] w fun e w' => (∃ (A : Option Addr) (c : Nat), e = .returned (.tuple #[.slice A 0 c, .int .i64 0])) ∧ w = w' := by
  obtain ⟨h1, h2, h3, h4, h5, h6, h7⟩ := h
  clear h5
  have hle : (0 : Int) ≤ (n : Int) - (k : Int) := by omega
  have hke : (k : Int) ≤ (n : Int) := by omega
  go_enter Try.func48, Try.ntmps48
  go_wp2
  all_goals (go_ret2; exact ⟨⟨_, _, ret2_slice (by omega)⟩, rfl⟩)

/-- such words are not there -/
theorem arena_row_out (w : World) (p q n : Nat) (acc : Int) (f : Nat → Int) (k m : Int) (h : ArenaAt w p q n acc f) (hk : k < 0 ∨ m < 0 ∨ (n : Int) < k ∨ (n : Int) - k < m) :
    Calls Try.prog 48 #[.pointer (some ⟨p, 0, none⟩), .int .i64 k, .int .i64 m] w fun e w' => e = .returned (.tuple #[.slice none 0 0, .int .i64 2]) ∧ w = w' := by
  obtain ⟨h1, h2, h3, h4, h5, h6, h7⟩ := h
  clear h5
  by_cases c1 : k < 0
  · clear hk
    go_enter Try.func48, Try.ntmps48
    go_wp2
    go_ret2
    exact ⟨rfl, rfl⟩
  by_cases c2 : m < 0
  · clear hk
    have d1 : 0 ≤ k := by omega
    clear c1
    go_enter Try.func48, Try.ntmps48
    go_wp2
    go_ret2
    exact ⟨rfl, rfl⟩
  by_cases c3 : (n : Int) < k
  · clear hk
    have d1 : 0 ≤ k := by omega
    have d2 : 0 ≤ m := by omega
    clear c1 c2
    go_enter Try.func48, Try.ntmps48
    go_wp2
    go_ret2
    exact ⟨rfl, rfl⟩
  have d1 : 0 ≤ k := by omega
  have d2 : 0 ≤ m := by omega
  have d3 : k ≤ (n : Int) := by omega
  have d4 : (n : Int) - k < m := by omega
  clear hk c1 c2 c3
  go_enter Try.func48, Try.ntmps48
  go_wp2
  go_ret2
  exact ⟨rfl, rfl⟩

theorem arena_row_nil (w : World) (k m : Int) :
    Calls Try.prog 48 #[.pointer none, .int .i64 k, .int .i64 m] w fun e w' => e = .returned (.tuple #[.slice none 0 0, .int .i64 1]) ∧ w = w' := by
  go_enter Try.func48, Try.ntmps48
  go_wp2
  go_ret2
  exact ⟨rfl, rfl⟩

theorem zero_u64 (w : World) : (zeroValue 57).run Try.prog w = .ok (.int .u64 0) w := by kernel_rfl

/-- 'clear' of nothing -/
theorem clear_none (w : World) (A : Option Addr) (c : Nat) : ∀ ty, (Builtin.clear_ #[56] ty #[.slice A 0 c]).run Try.prog w = .ok (.tuple #[]) w := fun ty => by
  cases A <;> simp [Builtin.clear_, run_underlying Try.underlying56]

theorem arena_zero (w : World) (p q n : Nat) (acc : Int) (f : Nat → Int) (k m : Nat) (h : ArenaAt w p q n acc f) (hk : k + m ≤ n) :
    Calls Try.prog 37 #[.pointer (some ⟨p, 0, none⟩), .int .i64 k, .int .i64 m] w
      fun e w' => e = .returned (.int .i64 0) ∧ ArenaAt w' p q n acc (fun i => if k ≤ i ∧ i < k + m then 0 else f i) ∧ Chg (· = q) w w' := by
  by_cases hm : m = 0
  · subst hm
    go_enter Try.func37, Try.ntmps37
    go_wp2_with (first
      | (go_at_call 48; refine (arena_row_none w p q n acc f k h (by omega)).mono ?_; rintro e w' ⟨⟨A, c, rfl⟩, rfl⟩; have hcl := clear_none w A c)
      | simp only [hcl])
    go_ret
    exact ⟨rfl, h.congr fun i _ => by rw [if_neg (by omega)], Chg.refl _ _⟩
  · have hcl : ∀ ty, (Builtin.clear_ #[56] ty #[.slice (some ⟨q, k, none⟩) m (n - k)]).run Try.prog w = .ok (.tuple #[]) (w.setCells q k (List.replicate m (.int .u64 0))) :=
      fun ty => Lib.run_clear_slice w 56 57 ty (.int .u64 0) Try.underlying56 zero_u64 rfl rfl q k m (n - k) (by omega) (fun j hj => by rw [h.row.cell (show k + j < n by omega)]; rfl) (fun j hj => h.row.frozen _)
    have H := hid h
    clear h
    go_enter Try.func37, Try.ntmps37
    go_wp2_with (first
      | (go_at_call 48; refine (arena_row w p q n acc f k m H.out hk (by omega)).mono ?_; rintro e w' ⟨rfl, rfl⟩)
      | simp only [hcl])
    go_ret
    have hc : Chg (· = q) w (w.setCells q k (List.replicate m (.int .u64 0))) := (Chg.refl (· = q) w).setCells (.inl rfl) _ _
    have h := H.out
    refine ⟨rfl, ⟨(hc.cell h.lt.1 h.ne).trans h.words, (hc.cell h.lt.1 h.ne).trans h.accs, (hc.frozen h.lt.1 h.ne).trans h.fz0, (hc.frozen h.lt.1 h.ne).trans h.fz1, ?_, h.ne, h.bound⟩, hc⟩
    refine (rowIs_setCells (fun _ => .int .u64 0) (List.replicate m (.int .u64 0)) k w _ h.row (by simpa using hk) (fun j hj => by simp at hj; simp [hj])).congr fun i hi => ?_
    simp only [List.length_replicate]
    split <;> rfl

theorem arena_zero_out (w : World) (p q n : Nat) (acc : Int) (f : Nat → Int) (k m : Int) (h : ArenaAt w p q n acc f) (hk : k < 0 ∨ m < 0 ∨ (n : Int) < k ∨ (n : Int) - k < m) :
    Calls Try.prog 37 #[.pointer (some ⟨p, 0, none⟩), .int .i64 k, .int .i64 m] w fun e w' => e = .returned (.int .i64 2) ∧ w = w' := by
  have hcl := clear_none w none 0
  go_enter Try.func37, Try.ntmps37
  go_wp2_with (first
    | (go_at_call 48; refine (arena_row_out w p q n acc f k m h hk).mono ?_; rintro e w' ⟨rfl, rfl⟩)
    | simp only [hcl])
  go_ret
  exact ⟨rfl, rfl⟩

theorem arena_zero_nil (w : World) (k m : Int) :
    Calls Try.prog 37 #[.pointer none, .int .i64 k, .int .i64 m] w fun e w' => e = .returned (.int .i64 1) ∧ w = w' := by
  have hcl := clear_none w none 0
  go_enter Try.func37, Try.ntmps37
  go_wp2_with (first
    | (go_at_call 48; refine (arena_row_nil w k m).mono ?_; rintro e w' ⟨rfl, rfl⟩)
    | simp only [hcl])
  go_ret
  exact ⟨rfl, rfl⟩
end Go.Proofs.Ythmjjmimmbgpaaa
