/-
  Contracts of package roots (layer 12): the list, copied.
-/
import Derived.Test.YtcdllelbdcacjaaRoots2
set_option linter.unusedVariables false
set_option linter.unusedSimpArgs false
namespace Go.Proofs.Ytcdllelbdcacjaa
open Go.RowKit

set_option maxRecDepth 100000 in
theorem clone_any (w : World) (base : Nat) (v : Value) (n : Nat) (xs : List Value) (h : w.ownsRow base 30 1 v n xs) (hn : n ≤ 1000000) (h1 : ∀ u ∈ xs, u.oneCell' = true) :
    Calls Try.prog 37 #[v] w fun e w' => Below w.heap.size w w' ∧ ∃ v' : Value, e = .returned v' ∧ w'.ownsRow w.heap.size 30 1 v' n xs := by
  obtain ⟨i0, hi, hz0, hz1, hz2⟩ := info_parts infoRef
  have hnil := fun (w : World) (a : Option Addr) (n c : Nat) => Lib.run_eql_slice_nil (P := Try.prog) w 22 30 a n c 0 0 Try.underlying22
  rcases h.2 with ⟨rfl, rfl⟩ | ⟨g, cap, cur, rfl, hg, hh, hcap, hm, hs, htake⟩
  · have hxs : xs = [] := by have := h.1; simpa using this
    subst hxs
    clear h
    go_enter Try.func37, Try.ntmps37
    go_wp2
    go_ret
    exact ⟨Below.refl _ _, _, rfl, World.ownsRow_nil _ _ _ _⟩
  · have hl := h.1
    have hcells := h.cells (g := g) rfl
    have hgl : g < w.heap.size := (Array.getElem?_eq_some_iff.1 hh).1
    have HC := hid hcells
    have HL := hid hl
    clear hcells htake hs hl h hh
    go_enter Try.func37, Try.ntmps37
    go_wp2_with (at_builtin; refine wpList_append_own _ rfl _ _ 22 rfl w.heap.size 30 i0 (.int .u64 0) 1 8 Try.underlying22 hi hz0 hz1 hz2 rfl (by decide) _ 0 [] rfl (World.ownsRow_lit w #[] 0 (Nat.le_refl _) (by decide) rfl) ⟨g, 0, none⟩ n cap xs rfl (by have := HL.out; simpa using this) ?c1 h1 ?c3 ?c4 ?c5 ?_)
    case c1 =>
      intro j u hj
      rw [World.cell?_alloc_lt w _ _ (by rw [Go.WideShapes.add_plain]; exact hgl)]
      exact HC.out j u hj
    case c3 => unfold maxLen; omega
    case c4 => omega
    case c5 => simp
    intro v' w1 hown hgrow _
    have HO := hid hown
    have HG := hid hgrow
    clear hown hgrow
    go_wp2
    go_ret
    refine ⟨?_, v', rfl, ?_⟩
    · exact Below.grown ((Below.refl _ _).alloc (Nat.le_refl _) _) HG.out (by simp) (fun k hk => by simp [Value.ownBlock] at hk; omega)
    · simpa using HO.out

theorem oneCells (l : List Int) : ∀ u ∈ l.map (Value.int .u64), u.oneCell' = true := by
  intro u hu
  simp at hu
  obtain ⟨x, _, rfl⟩ := hu
  rfl

theorem roots_list (w : World) (p : Nat) (v : Value) (bound : Nat) (l : List Int) (h : StackAt w p v bound l) :
    Calls Try.prog 22 #[.pointer (some ⟨p, 0, none⟩)] w fun e w' => Below w.heap.size w w' ∧ ∃ v' : Value, e = .returned v' ∧ w'.ownsRow w.heap.size 30 1 v' l.length (l.map (Value.int .u64)) := by
  have hl := h.len
  have hm := h.most
  have HC := hid (clone_any w (p + 1) v l.length (l.map (Value.int .u64)) h.own (by omega) (oneCells l))
  have h1 := h.val
  clear h
  go_enter Try.func22, Try.ntmps22
  go_wp2_with (go_at_call 37; refine HC.out.mono ?_; rintro e w1 ⟨hb, v', rfl, hown⟩; have HO := hid hown; clear hown)
  go_ret
  exact ⟨hb, v', rfl, HO.out⟩

theorem roots_list_nil (w : World) :
    Calls Try.prog 22 #[.pointer none] w fun e w' => e = .returned (.slice none 0 0) ∧ w = w' := by
  go_enter Try.func22, Try.ntmps22
  go_wp2
  go_ret
  exact ⟨rfl, rfl⟩
end Go.Proofs.Ytcdllelbdcacjaa
