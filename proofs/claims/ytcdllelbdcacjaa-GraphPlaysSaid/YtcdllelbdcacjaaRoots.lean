/-
  Contracts of package roots (layer 12).
-/
import Derived.Test.YtcdllelbdcacjaaHeap
import Derived.Test.YtcdllelbdcacjaaRows
import Derived.Laws.OwnMore
import Derived.WalkSmall
set_option linter.unusedVariables false
set_option linter.unusedSimpArgs false
namespace Go.Proofs.Ytcdllelbdcacjaa
open Go.RowKit

theorem addr_ne {b b' o o' : Nat} (h : b ≠ b') : (⟨b, o, none⟩ : Addr) ≠ ⟨b', o', none⟩ := fun e => h (by injection e)

/-- a stack: its struct is block p, its list is the slice v, in a block behind p -/
structure StackAt (w : World) (p : Nat) (v : Value) (bound : Nat) (l : List Int) : Prop where
  bnd : w.cell? ⟨p, 0, none⟩ = some (.int .i64 bound)
  val : w.cell? ⟨p, 1, none⟩ = some v
  fz : w.frozen? ⟨p, 1, none⟩ = false
  own : w.ownsRow (p + 1) 30 1 v l.length (l.map (Value.int .u64))
  len : l.length ≤ bound
  most : bound ≤ 64

theorem infoRef : (Try.prog.info? 30).map (fun i => (i.zero, i.size, i.bytes)) = some (some (.int .u64 0), 1, 8) := by kernel_rfl

theorem StackAt.lt {w : World} {p : Nat} {v : Value} {bound : Nat} {l : List Int} (h : StackAt w p v bound l) : p < w.heap.size := cell_lt h.bnd
theorem StackAt.form {w : World} {p : Nat} {v : Value} {bound : Nat} {l : List Int} (h : StackAt w p v bound l) (hl : 0 < l.length) : ∃ g cap, v = .slice (some ⟨g, 0, none⟩) l.length cap ∧ p < g ∧ g < w.heap.size := by
  obtain ⟨g, cap, hv, h1, h2⟩ := h.own.form hl
  exact ⟨g, cap, hv, by omega, h2⟩
theorem StackAt.chg {S : Nat → Prop} {w w' : World} {p : Nat} {v : Value} {bound : Nat} {l : List Int} (h : StackAt w p v bound l) (c : Chg S w w') (hp : ¬ S p) (hq : ∀ g, v.ownBlock = some g → ¬ S g) : StackAt w' p v bound l :=
  ⟨(c.cell h.lt hp).trans h.bnd, (c.cell h.lt hp).trans h.val, (c.frozen h.lt hp).trans h.fz, c.owns h.own hq, h.len, h.most⟩

theorem roots_new (n : Nat) (w : World) (h1 : 1 ≤ n) (h2 : n ≤ 64) :
    Calls Try.prog 11 #[.int .i64 n] w fun e w' => e = .returned (.tuple #[.pointer (some ⟨w.heap.size, 0, none⟩), .int .i64 0]) ∧ w.alloc (.cells #[.int .i64 n, .slice none 0 0] 78) = w' := by
  have h3 : (1 : Int) ≤ (n : Int) := by omega
  go_enter Try.func11, Try.ntmps11
  go_wp2
  go_ret2
  exact ⟨rfl, rfl⟩

theorem stack_new (n : Nat) (w : World) (h2 : n ≤ 64) (T : TypeId) : StackAt (w.alloc (.cells #[.int .i64 n, .slice none 0 0] T)) w.heap.size (.slice none 0 0) n [] :=
  ⟨by go_simp, by go_simp, by go_simp, World.ownsRow_nil _ _ _ _, by simp, h2⟩

theorem roots_new_bad (n : Int) (w : World) (h : n < 1 ∨ 64 < n) :
    Calls Try.prog 11 #[.int .i64 n] w fun e w' => e = .returned (.tuple #[.pointer none, .int .i64 2]) ∧ w = w' := by
  by_cases h1 : n < 1
  · clear h
    go_enter Try.func11, Try.ntmps11
    go_wp2
    go_ret2
    exact ⟨rfl, rfl⟩
  · have h2 : 64 < n := by omega
    have h3 : 1 ≤ n := by omega
    clear h h1
    go_enter Try.func11, Try.ntmps11
    go_wp2
    go_ret2
    exact ⟨rfl, rfl⟩

/-- the list's length, as the walk reads it -/
theorem StackAt.shape {w : World} {p : Nat} {v : Value} {bound : Nat} {l : List Int} (h : StackAt w p v bound l) : ∃ (A : Option Addr) (c : Nat), v = .slice A l.length c := by
  rcases h.own.2 with ⟨hv, hn⟩ | ⟨g, cap, cur, hv, _⟩
  · exact ⟨none, 0, by rw [hv, hn]⟩
  · exact ⟨_, cap, hv⟩

theorem roots_len (w : World) (p : Nat) (v : Value) (bound : Nat) (l : List Int) (h : StackAt w p v bound l) :
    Calls Try.prog 14 #[.pointer (some ⟨p, 0, none⟩)] w fun e w' => e = .returned (.int .i64 l.length) ∧ w = w' := by
  obtain ⟨A, c, rfl⟩ := h.shape
  have h1 := h.val
  clear h
  go_enter Try.func14, Try.ntmps14
  go_wp2
  go_ret
  exact ⟨rfl, rfl⟩

theorem roots_len_nil (w : World) :
    Calls Try.prog 14 #[.pointer none] w fun e w' => e = .returned (.int .i64 0) ∧ w = w' := by
  go_enter Try.func14, Try.ntmps14
  go_wp2
  go_ret
  exact ⟨rfl, rfl⟩

theorem roots_room (w : World) (p : Nat) (v : Value) (bound : Nat) (l : List Int) (h : StackAt w p v bound l) :
    Calls Try.prog 24 #[.pointer (some ⟨p, 0, none⟩)] w fun e w' => e = .returned (.int .i64 ((bound : Int) - (l.length : Int))) ∧ ∃ k, w' = w.drewN k := by
  obtain ⟨A, c, rfl⟩ := h.shape
  have h1 := h.val
  have h2 := h.bnd
  have h3 := h.len
  have h4 := h.most
  have e1 : IntKind.i64.wrap ((bound : Int) - (l.length : Int)) = (bound : Int) - (l.length : Int) := IntWalk.i64_in _ (by omega)
  clear h
  go_enter Try.func24, Try.ntmps24
  go_wp2
  go_quiet (fail)
  go_wp2
  go_ret
  exact ⟨rfl, _, rfl⟩

theorem roots_room_nil (w : World) :
    Calls Try.prog 24 #[.pointer none] w fun e w' => e = .returned (.int .i64 0) ∧ w = w' := by
  go_enter Try.func24, Try.ntmps24
  go_wp2
  go_ret
  exact ⟨rfl, rfl⟩
end Go.Proofs.Ytcdllelbdcacjaa
