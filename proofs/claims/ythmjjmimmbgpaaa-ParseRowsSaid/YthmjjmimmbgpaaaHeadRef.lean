/-
  Contracts of the reference of package head (layer 4): Right, Pack.
-/
import Derived.Test.YthmjjmimmbgpaaaHead
set_option linter.unusedVariables false
namespace Go.Proofs.Ythmjjmimmbgpaaa
open Go.RowKit

def IsB (b : Bool) (k s p a t : Int) (w : World) (x : Ending) (w' : World) : Prop := x = .returned (.bool b) ∧ w.alloc (.cells #[.int .i64 k, .int .i64 s, .int .i64 p, .int .i64 a, .int .i64 t] 73) = w'

/-- what the reference's Pack answers -/
def RPacks (v e k s p a t : Int) (w : World) (x : Ending) (w' : World) : Prop := x = .returned (.tuple #[.int .u64 v, .int .i64 e]) ∧
  (w.alloc (.cells #[.int .i64 k, .int .i64 s, .int .i64 p, .int .i64 a, .int .i64 t] 73)).alloc (.cells #[.int .i64 k, .int .i64 s, .int .i64 p, .int .i64 a, .int .i64 t] 73) = w'

set_option maxRecDepth 100000 in
set_option maxHeartbeats 1000000 in
theorem right1 (s p a : Int) (w : World) (h0 : 1 ≤ s) (h1 : s ≤ 1048576) (h2 : 0 ≤ p) (h3 : p < s) (h4 : 0 ≤ a) (h5 : a ≤ 7) :
    Calls Try.prog 49 #[.agg #[.int .i64 1, .int .i64 s, .int .i64 p, .int .i64 a, .int .i64 0]] w (IsB true 1 s p a 0 w) := by
  go_enter Try.func49, Try.ntmps49
  go_wp2
  all_goals (go_ret; exact ⟨rfl, rfl⟩)

set_option maxRecDepth 100000 in
set_option maxHeartbeats 1000000 in
theorem right1n0 (s p a t : Int) (w : World) (h0 : s < 1) :
    Calls Try.prog 49 #[.agg #[.int .i64 1, .int .i64 s, .int .i64 p, .int .i64 a, .int .i64 t]] w (IsB false 1 s p a t w) := by
  go_enter Try.func49, Try.ntmps49
  go_wp2
  all_goals (go_ret; exact ⟨rfl, rfl⟩)

set_option maxRecDepth 100000 in
set_option maxHeartbeats 1000000 in
theorem right1n1 (s p a t : Int) (w : World) (h0 : 1 ≤ s) (h1 : 1048576 < s) :
    Calls Try.prog 49 #[.agg #[.int .i64 1, .int .i64 s, .int .i64 p, .int .i64 a, .int .i64 t]] w (IsB false 1 s p a t w) := by
  go_enter Try.func49, Try.ntmps49
  go_wp2
  all_goals (go_ret; exact ⟨rfl, rfl⟩)

set_option maxRecDepth 100000 in
set_option maxHeartbeats 1000000 in
theorem right1n2 (s p a t : Int) (w : World) (h0 : 1 ≤ s) (h1 : s ≤ 1048576) (h2 : p < 0) :
    Calls Try.prog 49 #[.agg #[.int .i64 1, .int .i64 s, .int .i64 p, .int .i64 a, .int .i64 t]] w (IsB false 1 s p a t w) := by
  go_enter Try.func49, Try.ntmps49
  go_wp2
  all_goals (go_ret; exact ⟨rfl, rfl⟩)

set_option maxRecDepth 100000 in
set_option maxHeartbeats 1000000 in
theorem right1n3 (s p a t : Int) (w : World) (h0 : 1 ≤ s) (h1 : s ≤ 1048576) (h2 : 0 ≤ p) (h3 : s ≤ p) :
    Calls Try.prog 49 #[.agg #[.int .i64 1, .int .i64 s, .int .i64 p, .int .i64 a, .int .i64 t]] w (IsB false 1 s p a t w) := by
  go_enter Try.func49, Try.ntmps49
  go_wp2
  all_goals (go_ret; exact ⟨rfl, rfl⟩)

set_option maxRecDepth 100000 in
set_option maxHeartbeats 1000000 in
theorem right1n4 (s p a t : Int) (w : World) (h0 : 1 ≤ s) (h1 : s ≤ 1048576) (h2 : 0 ≤ p) (h3 : p < s) (h4 : a < 0) :
    Calls Try.prog 49 #[.agg #[.int .i64 1, .int .i64 s, .int .i64 p, .int .i64 a, .int .i64 t]] w (IsB false 1 s p a t w) := by
  go_enter Try.func49, Try.ntmps49
  go_wp2
  all_goals (go_ret; exact ⟨rfl, rfl⟩)

set_option maxRecDepth 100000 in
set_option maxHeartbeats 1000000 in
theorem right1n5 (s p a t : Int) (w : World) (h0 : 1 ≤ s) (h1 : s ≤ 1048576) (h2 : 0 ≤ p) (h3 : p < s) (h4 : 0 ≤ a) (h5 : 7 < a) :
    Calls Try.prog 49 #[.agg #[.int .i64 1, .int .i64 s, .int .i64 p, .int .i64 a, .int .i64 t]] w (IsB false 1 s p a t w) := by
  go_enter Try.func49, Try.ntmps49
  go_wp2
  all_goals (go_ret; exact ⟨rfl, rfl⟩)

set_option maxRecDepth 100000 in
set_option maxHeartbeats 1000000 in
theorem right1n6 (s p a t : Int) (w : World) (h0 : 1 ≤ s) (h1 : s ≤ 1048576) (h2 : 0 ≤ p) (h3 : p < s) (h4 : 0 ≤ a) (h5 : a ≤ 7) (h6 : (t == 0) = false) :
    Calls Try.prog 49 #[.agg #[.int .i64 1, .int .i64 s, .int .i64 p, .int .i64 a, .int .i64 t]] w (IsB false 1 s p a t w) := by
  go_enter Try.func49, Try.ntmps49
  go_wp2
  all_goals (go_ret; exact ⟨rfl, rfl⟩)

set_option maxRecDepth 100000 in
set_option maxHeartbeats 1000000 in
theorem right2 (s : Int) (w : World) (h0 : 1 ≤ s) (h1 : s ≤ 1048576) :
    Calls Try.prog 49 #[.agg #[.int .i64 2, .int .i64 s, .int .i64 0, .int .i64 0, .int .i64 0]] w (IsB true 2 s 0 0 0 w) := by
  go_enter Try.func49, Try.ntmps49
  go_wp2
  all_goals (go_ret; exact ⟨rfl, rfl⟩)

set_option maxRecDepth 100000 in
set_option maxHeartbeats 1000000 in
theorem right2n0 (s p a t : Int) (w : World) (h0 : s < 1) :
    Calls Try.prog 49 #[.agg #[.int .i64 2, .int .i64 s, .int .i64 p, .int .i64 a, .int .i64 t]] w (IsB false 2 s p a t w) := by
  go_enter Try.func49, Try.ntmps49
  go_wp2
  all_goals (go_ret; exact ⟨rfl, rfl⟩)

set_option maxRecDepth 100000 in
set_option maxHeartbeats 1000000 in
theorem right2n1 (s p a t : Int) (w : World) (h0 : 1 ≤ s) (h1 : 1048576 < s) :
    Calls Try.prog 49 #[.agg #[.int .i64 2, .int .i64 s, .int .i64 p, .int .i64 a, .int .i64 t]] w (IsB false 2 s p a t w) := by
  go_enter Try.func49, Try.ntmps49
  go_wp2
  all_goals (go_ret; exact ⟨rfl, rfl⟩)

set_option maxRecDepth 100000 in
set_option maxHeartbeats 1000000 in
theorem right2n2 (s p a t : Int) (w : World) (h0 : 1 ≤ s) (h1 : s ≤ 1048576) (h2 : (p == 0) = false) :
    Calls Try.prog 49 #[.agg #[.int .i64 2, .int .i64 s, .int .i64 p, .int .i64 a, .int .i64 t]] w (IsB false 2 s p a t w) := by
  go_enter Try.func49, Try.ntmps49
  go_wp2
  all_goals (go_ret; exact ⟨rfl, rfl⟩)

set_option maxRecDepth 100000 in
set_option maxHeartbeats 1000000 in
theorem right2n3 (s a t : Int) (w : World) (h0 : 1 ≤ s) (h1 : s ≤ 1048576) (h2 : (a == 0) = false) :
    Calls Try.prog 49 #[.agg #[.int .i64 2, .int .i64 s, .int .i64 0, .int .i64 a, .int .i64 t]] w (IsB false 2 s 0 a t w) := by
  go_enter Try.func49, Try.ntmps49
  go_wp2
  all_goals (go_ret; exact ⟨rfl, rfl⟩)

set_option maxRecDepth 100000 in
set_option maxHeartbeats 1000000 in
theorem right2n4 (s t : Int) (w : World) (h0 : 1 ≤ s) (h1 : s ≤ 1048576) (h2 : (t == 0) = false) :
    Calls Try.prog 49 #[.agg #[.int .i64 2, .int .i64 s, .int .i64 0, .int .i64 0, .int .i64 t]] w (IsB false 2 s 0 0 t w) := by
  go_enter Try.func49, Try.ntmps49
  go_wp2
  all_goals (go_ret; exact ⟨rfl, rfl⟩)

set_option maxRecDepth 100000 in
set_option maxHeartbeats 1000000 in
theorem right3 (s t : Int) (w : World) (h0 : 1 ≤ s) (h1 : s ≤ 1048576) (h2 : 0 ≤ t) (h3 : t < 4194304) :
    Calls Try.prog 49 #[.agg #[.int .i64 3, .int .i64 s, .int .i64 0, .int .i64 0, .int .i64 t]] w (IsB true 3 s 0 0 t w) := by
  go_enter Try.func49, Try.ntmps49
  go_wp2
  all_goals (go_ret; exact ⟨rfl, rfl⟩)

set_option maxRecDepth 100000 in
set_option maxHeartbeats 1000000 in
theorem right3n0 (s p a t : Int) (w : World) (h0 : s < 1) :
    Calls Try.prog 49 #[.agg #[.int .i64 3, .int .i64 s, .int .i64 p, .int .i64 a, .int .i64 t]] w (IsB false 3 s p a t w) := by
  go_enter Try.func49, Try.ntmps49
  go_wp2
  all_goals (go_ret; exact ⟨rfl, rfl⟩)

set_option maxRecDepth 100000 in
set_option maxHeartbeats 1000000 in
theorem right3n1 (s p a t : Int) (w : World) (h0 : 1 ≤ s) (h1 : 1048576 < s) :
    Calls Try.prog 49 #[.agg #[.int .i64 3, .int .i64 s, .int .i64 p, .int .i64 a, .int .i64 t]] w (IsB false 3 s p a t w) := by
  go_enter Try.func49, Try.ntmps49
  go_wp2
  all_goals (go_ret; exact ⟨rfl, rfl⟩)

set_option maxRecDepth 100000 in
set_option maxHeartbeats 1000000 in
theorem right3n2 (s p a t : Int) (w : World) (h0 : 1 ≤ s) (h1 : s ≤ 1048576) (h2 : (p == 0) = false) :
    Calls Try.prog 49 #[.agg #[.int .i64 3, .int .i64 s, .int .i64 p, .int .i64 a, .int .i64 t]] w (IsB false 3 s p a t w) := by
  go_enter Try.func49, Try.ntmps49
  go_wp2
  all_goals (go_ret; exact ⟨rfl, rfl⟩)

set_option maxRecDepth 100000 in
set_option maxHeartbeats 1000000 in
theorem right3n3 (s a t : Int) (w : World) (h0 : 1 ≤ s) (h1 : s ≤ 1048576) (h2 : (a == 0) = false) :
    Calls Try.prog 49 #[.agg #[.int .i64 3, .int .i64 s, .int .i64 0, .int .i64 a, .int .i64 t]] w (IsB false 3 s 0 a t w) := by
  go_enter Try.func49, Try.ntmps49
  go_wp2
  all_goals (go_ret; exact ⟨rfl, rfl⟩)

set_option maxRecDepth 100000 in
set_option maxHeartbeats 1000000 in
theorem right3n4 (s t : Int) (w : World) (h0 : 1 ≤ s) (h1 : s ≤ 1048576) (h2 : t < 0) :
    Calls Try.prog 49 #[.agg #[.int .i64 3, .int .i64 s, .int .i64 0, .int .i64 0, .int .i64 t]] w (IsB false 3 s 0 0 t w) := by
  go_enter Try.func49, Try.ntmps49
  go_wp2
  all_goals (go_ret; exact ⟨rfl, rfl⟩)

set_option maxRecDepth 100000 in
set_option maxHeartbeats 1000000 in
theorem right3n5 (s t : Int) (w : World) (h0 : 1 ≤ s) (h1 : s ≤ 1048576) (h2 : 0 ≤ t) (h3 : decide (t < 4194304) = false) :
    Calls Try.prog 49 #[.agg #[.int .i64 3, .int .i64 s, .int .i64 0, .int .i64 0, .int .i64 t]] w (IsB false 3 s 0 0 t w) := by
  go_enter Try.func49, Try.ntmps49
  go_wp2
  all_goals (go_ret; exact ⟨rfl, rfl⟩)

set_option maxRecDepth 100000 in
set_option maxHeartbeats 1000000 in
theorem right0 (w : World)  :
    Calls Try.prog 49 #[.agg #[.int .i64 0, .int .i64 0, .int .i64 0, .int .i64 0, .int .i64 0]] w (IsB true 0 0 0 0 0 w) := by
  go_enter Try.func49, Try.ntmps49
  go_wp2
  all_goals (go_ret; exact ⟨rfl, rfl⟩)

set_option maxRecDepth 100000 in
set_option maxHeartbeats 1000000 in
theorem right0n0 (s p a t : Int) (w : World) (h0 : (s == 0) = false) :
    Calls Try.prog 49 #[.agg #[.int .i64 0, .int .i64 s, .int .i64 p, .int .i64 a, .int .i64 t]] w (IsB false 0 s p a t w) := by
  go_enter Try.func49, Try.ntmps49
  go_wp2
  all_goals (go_ret; exact ⟨rfl, rfl⟩)

set_option maxRecDepth 100000 in
set_option maxHeartbeats 1000000 in
theorem right0n1 (p a t : Int) (w : World) (h0 : (p == 0) = false) :
    Calls Try.prog 49 #[.agg #[.int .i64 0, .int .i64 0, .int .i64 p, .int .i64 a, .int .i64 t]] w (IsB false 0 0 p a t w) := by
  go_enter Try.func49, Try.ntmps49
  go_wp2
  all_goals (go_ret; exact ⟨rfl, rfl⟩)

set_option maxRecDepth 100000 in
set_option maxHeartbeats 1000000 in
theorem right0n2 (a t : Int) (w : World) (h0 : (a == 0) = false) :
    Calls Try.prog 49 #[.agg #[.int .i64 0, .int .i64 0, .int .i64 0, .int .i64 a, .int .i64 t]] w (IsB false 0 0 0 a t w) := by
  go_enter Try.func49, Try.ntmps49
  go_wp2
  all_goals (go_ret; exact ⟨rfl, rfl⟩)

set_option maxRecDepth 100000 in
set_option maxHeartbeats 1000000 in
theorem right0n3 (t : Int) (w : World) (h0 : (t == 0) = false) :
    Calls Try.prog 49 #[.agg #[.int .i64 0, .int .i64 0, .int .i64 0, .int .i64 0, .int .i64 t]] w (IsB false 0 0 0 0 t w) := by
  go_enter Try.func49, Try.ntmps49
  go_wp2
  all_goals (go_ret; exact ⟨rfl, rfl⟩)

set_option maxRecDepth 100000 in
set_option maxHeartbeats 1000000 in
theorem rightk (k s p a t : Int) (w : World) (h0 : (k == 0) = false) (h1 : (k == 1) = false) (h2 : (k == 2) = false) (h3 : (k == 3) = false) :
    Calls Try.prog 49 #[.agg #[.int .i64 k, .int .i64 s, .int .i64 p, .int .i64 a, .int .i64 t]] w (IsB false k s p a t w) := by
  go_enter Try.func49, Try.ntmps49
  go_wp2
  all_goals (go_ret; exact ⟨rfl, rfl⟩)

theorem right_yes (k s p a t : Int) (w : World) (h : Right k s p a t) :
    Calls Try.prog 49 #[.agg #[.int .i64 k, .int .i64 s, .int .i64 p, .int .i64 a, .int .i64 t]] w (IsB true k s p a t w) := by
  rcases h with ⟨rfl, rfl, rfl, rfl, rfl⟩ | ⟨rfl, h1, h2, h3, h4, h5, h6, rfl⟩ | ⟨rfl, h1, h2, rfl, rfl, rfl⟩ | ⟨rfl, h1, h2, rfl, rfl, h3, h4⟩
  · exact right0 w
  · exact right1 s p a w h1 h2 h3 h4 h5 h6
  · exact right2 s w h1 h2
  · exact right3 s t w h1 h2 h3 h4

theorem right_no (k s p a t : Int) (w : World) (h : ¬ Right k s p a t) :
    Calls Try.prog 49 #[.agg #[.int .i64 k, .int .i64 s, .int .i64 p, .int .i64 a, .int .i64 t]] w (IsB false k s p a t w) := by
  unfold Right at h
  by_cases h0 : k = 0
  · subst h0
    by_cases c0 : s = 0
    · subst c0
      by_cases c1 : p = 0
      · subst c1
        by_cases c2 : a = 0
        · subst c2
          exact right0n3 t w (eqb_false (by omega))
        · exact right0n2 a t w (eqb_false c2)
      · exact right0n1 p a t w (eqb_false c1)
    · exact right0n0 s p a t w (eqb_false c0)
  by_cases h1 : k = 1
  · subst h1
    by_cases c0 : 1 ≤ s
    · by_cases c1 : s ≤ 1048576
      · by_cases c2 : 0 ≤ p
        · by_cases c3 : p < s
          · by_cases c4 : 0 ≤ a
            · by_cases c5 : a ≤ 7
              · exact right1n6 s p a t w c0 c1 c2 c3 c4 c5 (eqb_false (by omega))
              · exact right1n5 s p a t w c0 c1 c2 c3 c4 (by omega)
            · exact right1n4 s p a t w c0 c1 c2 c3 (by omega)
          · exact right1n3 s p a t w c0 c1 c2 (by omega)
        · exact right1n2 s p a t w c0 c1 (by omega)
      · exact right1n1 s p a t w c0 (by omega)
    · exact right1n0 s p a t w (by omega)
  by_cases h2 : k = 2
  · subst h2
    by_cases c0 : 1 ≤ s
    · by_cases c1 : s ≤ 1048576
      · by_cases c2 : p = 0
        · subst c2
          by_cases c3 : a = 0
          · subst c3
            exact right2n4 s t w c0 c1 (eqb_false (by omega))
          · exact right2n3 s a t w c0 c1 (eqb_false c3)
        · exact right2n2 s p a t w c0 c1 (eqb_false c2)
      · exact right2n1 s p a t w c0 (by omega)
    · exact right2n0 s p a t w (by omega)
  by_cases h3 : k = 3
  · subst h3
    by_cases c0 : 1 ≤ s
    · by_cases c1 : s ≤ 1048576
      · by_cases c2 : p = 0
        · subst c2
          by_cases c3 : a = 0
          · subst c3
            by_cases c4 : 0 ≤ t
            · exact right3n5 s t w c0 c1 c4 (by simp; omega)
            · exact right3n4 s t w c0 c1 (by omega)
          · exact right3n3 s a t w c0 c1 (eqb_false c3)
        · exact right3n2 s p a t w c0 c1 (eqb_false c2)
      · exact right3n1 s p a t w c0 (by omega)
    · exact right3n0 s p a t w (by omega)
  exact rightk k s p a t w (eqb_false h0) (eqb_false h1) (eqb_false h2) (eqb_false h3)

theorem ret2_u64' {a b e : Int} (h : a = b) : Ending.returned (.tuple #[.int .u64 a, .int .i64 e]) = .returned (.tuple #[.int .u64 b, .int .i64 e]) := by rw [h]

set_option maxRecDepth 100000 in
set_option maxHeartbeats 1000000 in
theorem rpack_wrong (k s p a t : Int) (w : World) (h : ¬ Right k s p a t) :
    Calls Try.prog 38 #[.agg #[.int .i64 k, .int .i64 s, .int .i64 p, .int .i64 a, .int .i64 t]] w (RPacks 0 3 k s p a t w) := by
  have H := hid h
  clear h
  go_enter Try.func38, Try.ntmps38
  go_wp2_with (go_at_call 49; refine (right_no _ _ _ _ _ _ H.out).mono ?_; rintro e w' ⟨rfl, rfl⟩)
  go_ret2
  exact ⟨rfl, rfl⟩

theorem right_bounds {k s p a t : Int} (h : Right k s p a t) : 0 ≤ k ∧ k ≤ 3 ∧ 0 ≤ s ∧ s ≤ 1048576 ∧ 0 ≤ p ∧ p < 1048576 ∧ 0 ≤ a ∧ a ≤ 7 ∧ 0 ≤ t ∧ t < 4194304 := by
  unfold Right at h; omega

set_option maxRecDepth 100000 in
set_option maxHeartbeats 1000000 in
theorem rpack_right (k s p a t : Int) (w : World) (h : Right k s p a t) :
    Calls Try.prog 38 #[.agg #[.int .i64 k, .int .i64 s, .int .i64 p, .int .i64 a, .int .i64 t]] w (RPacks (wordOf k s p a t) 0 k s p a t w) := by
  have H := hid h
  obtain ⟨b1, b2, b3, b4, b5, b6, b7, b8, b9, b10⟩ := right_bounds h
  clear h
  go_enter Try.func38, Try.ntmps38
  go_wp2_with (go_at_call 49; refine (right_yes _ _ _ _ _ _ H.out).mono ?_; rintro e w' ⟨rfl, rfl⟩)
  go_ret2
  exact ⟨ret2_u64' (by unfold wordOf; omega), rfl⟩
end Go.Proofs.Ythmjjmimmbgpaaa
