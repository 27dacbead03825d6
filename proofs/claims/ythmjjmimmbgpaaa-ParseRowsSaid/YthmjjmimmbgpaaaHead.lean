/-
  Contracts of the functions of package head (layer 4) and of its reference.
-/
import Derived.Test.YthmjjmimmbgpaaaBits
import Derived.Test.YthmjjmimmbgpaaaRows
set_option linter.unusedVariables false
namespace Go.Proofs.Ythmjjmimmbgpaaa
open Go.RowKit

theorem ret2_u64 {a b e : Int} (h : a = b) : Ending.returned (.tuple #[.int .u64 a, .int .i64 e]) = .returned (.tuple #[.int .u64 b, .int .i64 e]) := by rw [h]
def Packs (v e k s p a t : Int) (w : World) (x : Ending) (w' : World) : Prop := x = .returned (.tuple #[.int .u64 v, .int .i64 e]) ∧
  (w.alloc (.cells #[.int .i64 k, .int .i64 s, .int .i64 p, .int .i64 a, .int .i64 t] 73)).alloc (.cells #[.int .i64 0, .int .i64 0, .int .i64 p, .int .i64 a, .int .i64 t] 73) = w'

set_option maxRecDepth 100000 in
set_option maxHeartbeats 1000000 in
theorem pack_object (s p a : Int) (w : World) (h1 : 1 ≤ s) (h2 : s ≤ 1048576) (h3 : 0 ≤ p) (h4 : p < s) (h5 : 0 ≤ a) (h6 : a ≤ 7) :
    Calls Try.prog 36 #[.agg #[.int .i64 1, .int .i64 s, .int .i64 p, .int .i64 a, .int .i64 0]] w (Packs (1 + 4 * s + 8388608 * p + 17592186044416 * a) 0 1 s p a 0 w) := by
  go_enter Try.func36, Try.ntmps36
  go_wp2
  go_ret2
  exact ⟨ret2_u64 (word_object s p a h1 h2 h3 (by omega) h5 h6), rfl⟩

set_option maxRecDepth 100000 in
set_option maxHeartbeats 1000000 in
theorem pack_filler (s : Int) (w : World) (h1 : 1 ≤ s) (h2 : s ≤ 1048576) :
    Calls Try.prog 36 #[.agg #[.int .i64 2, .int .i64 s, .int .i64 0, .int .i64 0, .int .i64 0]] w (Packs (2 + 4 * s) 0 2 s 0 0 0 w) := by
  go_enter Try.func36, Try.ntmps36
  go_wp2
  go_ret2
  exact ⟨ret2_u64 (word_filler s h1 h2), rfl⟩

set_option maxRecDepth 100000 in
set_option maxHeartbeats 1000000 in
theorem pack_forward (s t : Int) (w : World) (h1 : 1 ≤ s) (h2 : s ≤ 1048576) (h3 : 0 ≤ t) (h4 : t < 4194304) :
    Calls Try.prog 36 #[.agg #[.int .i64 3, .int .i64 s, .int .i64 0, .int .i64 0, .int .i64 t]] w (Packs (3 + 4 * s + 8388608 * t) 0 3 s 0 0 t w) := by
  go_enter Try.func36, Try.ntmps36
  go_wp2
  go_ret2
  exact ⟨ret2_u64 (word_forward s t h1 h2 h3 h4), rfl⟩

set_option maxRecDepth 100000 in
set_option maxHeartbeats 1000000 in
theorem pack_none (w : World) :
    Calls Try.prog 36 #[.agg #[.int .i64 0, .int .i64 0, .int .i64 0, .int .i64 0, .int .i64 0]] w (Packs 0 0 0 0 0 0 0 w) := by
  go_enter Try.func36, Try.ntmps36
  go_wp2
  go_ret2
  exact ⟨rfl, rfl⟩


theorem eqb_false {a b : Int} (h : ¬ a = b) : (a == b) = false := by simpa using h
theorem eqb_true {a b : Int} (h : (a == b) = true) : a = b := by simpa using h

set_option maxRecDepth 100000 in
set_option maxHeartbeats 1000000 in
theorem pack_bad1 (s p a t : Int) (w : World) (h : ¬ (1 ≤ s ∧ s ≤ 1048576 ∧ 0 ≤ p ∧ p < s ∧ 0 ≤ a ∧ a ≤ 7 ∧ t = 0)) :
    Calls Try.prog 36 #[.agg #[.int .i64 1, .int .i64 s, .int .i64 p, .int .i64 a, .int .i64 t]] w (Packs 0 3 1 s p a t w) := by
  have H := hid h
  clear h
  by_cases ht : t = 0
  · subst ht
    go_enter Try.func36, Try.ntmps36
    go_wp2
    all_goals first | (exact absurd (by first | omega | (simp; done) | (simp; omega)) (Hid.out H)) | (go_ret2; exact ⟨rfl, by first | rfl | (simp [*]; done)⟩)
  · have hb := eqb_false ht
    clear ht
    go_enter Try.func36, Try.ntmps36
    go_wp2
    all_goals (go_ret2; exact ⟨rfl, by first | rfl | (simp [*]; done)⟩)

set_option maxRecDepth 100000 in
set_option maxHeartbeats 1000000 in
theorem pack_bad0 (s p a t : Int) (w : World) (h : ¬ (s = 0 ∧ p = 0 ∧ a = 0 ∧ t = 0)) :
    Calls Try.prog 36 #[.agg #[.int .i64 0, .int .i64 s, .int .i64 p, .int .i64 a, .int .i64 t]] w (Packs 0 3 0 s p a t w) := by
  have H := hid h
  clear h
  go_enter Try.func36, Try.ntmps36
  go_wp2
  all_goals first | (exact absurd (by first | omega | (simp; done) | (simp; omega)) (Hid.out H)) | (go_ret2; exact ⟨rfl, by first | rfl | (simp [*]; done)⟩)

set_option maxRecDepth 100000 in
set_option maxHeartbeats 1000000 in
theorem pack_bad2 (s p a t : Int) (w : World) (h : ¬ (1 ≤ s ∧ s ≤ 1048576 ∧ p = 0 ∧ a = 0 ∧ t = 0)) :
    Calls Try.prog 36 #[.agg #[.int .i64 2, .int .i64 s, .int .i64 p, .int .i64 a, .int .i64 t]] w (Packs 0 3 2 s p a t w) := by
  have H := hid h
  clear h
  go_enter Try.func36, Try.ntmps36
  go_wp2
  all_goals first | (exact absurd (by first | omega | (simp; done) | (simp; omega)) (Hid.out H)) | (go_ret2; exact ⟨rfl, by first | rfl | (simp [*]; done)⟩)

set_option maxRecDepth 100000 in
set_option maxHeartbeats 1000000 in
theorem pack_bad3 (s p a t : Int) (w : World) (h : ¬ (1 ≤ s ∧ s ≤ 1048576 ∧ p = 0 ∧ a = 0 ∧ 0 ≤ t ∧ t < 4194304)) :
    Calls Try.prog 36 #[.agg #[.int .i64 3, .int .i64 s, .int .i64 p, .int .i64 a, .int .i64 t]] w (Packs 0 3 3 s p a t w) := by
  have H := hid h
  clear h
  by_cases hp : p = 0
  · by_cases ha : a = 0
    · subst hp ha
      go_enter Try.func36, Try.ntmps36
      go_wp2
      all_goals first | (exact absurd (by first | omega | (simp; done) | (simp; omega)) (Hid.out H)) | (go_ret2; exact ⟨rfl, by first | rfl | (simp [*]; done)⟩)
    · subst hp
      have hb := eqb_false ha
      clear ha
      go_enter Try.func36, Try.ntmps36
      go_wp2
      all_goals (go_ret2; exact ⟨rfl, by first | rfl | (simp [*]; done)⟩)
  · have hb := eqb_false hp
    clear hp
    go_enter Try.func36, Try.ntmps36
    go_wp2
    all_goals (go_ret2; exact ⟨rfl, by first | rfl | (simp [*]; done)⟩)

set_option maxRecDepth 100000 in
set_option maxHeartbeats 1000000 in
theorem pack_kind (k s p a t : Int) (w : World) (h0 : ¬ k = 0) (h1 : ¬ k = 1) (h2 : ¬ k = 2) (h3 : ¬ k = 3) :
    Calls Try.prog 36 #[.agg #[.int .i64 k, .int .i64 s, .int .i64 p, .int .i64 a, .int .i64 t]] w (Packs 0 3 k s p a t w) := by
  have b0 := eqb_false h0
  have b1 := eqb_false h1
  have b2 := eqb_false h2
  have b3 := eqb_false h3
  clear h0 h1 h2 h3
  go_enter Try.func36, Try.ntmps36
  go_wp2
  all_goals (go_ret2; exact ⟨rfl, by first | rfl | (simp [*]; done)⟩)

/-- a header that is right -/
def Right (k s p a t : Int) : Prop :=
  (k = 0 ∧ s = 0 ∧ p = 0 ∧ a = 0 ∧ t = 0) ∨ (k = 1 ∧ 1 ≤ s ∧ s ≤ 1048576 ∧ 0 ≤ p ∧ p < s ∧ 0 ≤ a ∧ a ≤ 7 ∧ t = 0) ∨
  (k = 2 ∧ 1 ≤ s ∧ s ≤ 1048576 ∧ p = 0 ∧ a = 0 ∧ t = 0) ∨ (k = 3 ∧ 1 ≤ s ∧ s ≤ 1048576 ∧ p = 0 ∧ a = 0 ∧ 0 ≤ t ∧ t < 4194304)
/-- its word -/
def wordOf (k s p a t : Int) : Int := k + 4 * s + 8388608 * (p + t) + 17592186044416 * a

theorem pack_right (k s p a t : Int) (w : World) (h : Right k s p a t) :
    Calls Try.prog 36 #[.agg #[.int .i64 k, .int .i64 s, .int .i64 p, .int .i64 a, .int .i64 t]] w (Packs (wordOf k s p a t) 0 k s p a t w) := by
  rcases h with ⟨rfl, rfl, rfl, rfl, rfl⟩ | ⟨rfl, h1, h2, h3, h4, h5, h6, rfl⟩ | ⟨rfl, h1, h2, rfl, rfl, rfl⟩ | ⟨rfl, h1, h2, rfl, rfl, h3, h4⟩
  · exact pack_none w
  · have := pack_object s p a w h1 h2 h3 h4 h5 h6
    rwa [show 1 + 4 * s + 8388608 * p + 17592186044416 * a = wordOf 1 s p a 0 by unfold wordOf; omega] at this
  · have := pack_filler s w h1 h2
    rwa [show 2 + 4 * s = wordOf 2 s 0 0 0 by unfold wordOf; omega] at this
  · have := pack_forward s t w h1 h2 h3 h4
    rwa [show 3 + 4 * s + 8388608 * t = wordOf 3 s 0 0 t by unfold wordOf; omega] at this

theorem pack_wrong (k s p a t : Int) (w : World) (h : ¬ Right k s p a t) :
    Calls Try.prog 36 #[.agg #[.int .i64 k, .int .i64 s, .int .i64 p, .int .i64 a, .int .i64 t]] w (Packs 0 3 k s p a t w) := by
  unfold Right at h
  by_cases h0 : k = 0
  · subst h0; exact pack_bad0 s p a t w (by omega)
  by_cases h1 : k = 1
  · subst h1; exact pack_bad1 s p a t w (by omega)
  by_cases h2 : k = 2
  · subst h2; exact pack_bad2 s p a t w (by omega)
  by_cases h3 : k = 3
  · subst h3; exact pack_bad3 s p a t w (by omega)
  exact pack_kind k s p a t w h0 h1 h2 h3

end Go.Proofs.Ythmjjmimmbgpaaa
