/-
  Queues of cards (layer 10): a new queue; a card is pushed.
-/
import Derived.Test.YthmjjmimmbgpaaaQueue
set_option linter.unusedVariables false
set_option linter.unusedSimpArgs false
namespace Go.Proofs.Ythmjjmimmbgpaaa
open Go.RowKit

theorem queue_made (w : World) (p o n bound : Nat) (h1 : 1 ≤ n) (h2 : n ≤ 64) (h3 : bound ≤ 65536) (hpo : p ≠ o) (b0 : w.cell? ⟨p, 0, none⟩ = some (.int .i64 bound)) (b1 : w.cell? ⟨p, 1, none⟩ = some (.slice none 0 0))
    (b2 : w.cell? ⟨p, 2, none⟩ = some (.slice (some ⟨o, 0, none⟩) n n)) (b3 : w.frozen? ⟨p, 1, none⟩ = false) (hr : w.rowIs o 38 n (fun _ => .slice none 0 0)) :
    QAt w p o n bound (.slice none 0 0) [] (fun _ => .slice none 0 0) (fun _ => []) :=
  { bnd := b0, com := b1, own := b2, fz := b3, row := hr, csl := sl_nil _ _ _, lists := fun t _ => ownInts_nil _ _, clen := by simp, bmax := h3, n1 := h1, n64 := h2, po := hpo,
    cp := by simp [Value.ownBlock], co := by simp [Value.ownBlock], vp := fun t _ => by simp [Value.ownBlock], vo := fun t _ => by simp [Value.ownBlock], vc := fun t _ g h => by simp [Value.ownBlock] at h, vv := fun s t _ _ _ g h => by simp [Value.ownBlock] at h }

set_option maxRecDepth 100000 in
theorem queue_new (n bound : Nat) (w : World) (h1 : 1 ≤ n) (h2 : n ≤ 64) (h3 : bound ≤ 65536) :
    Calls Try.prog 11 #[.int .i64 n, .int .i64 bound] w fun e w' => ∃ p o : Nat, e = .returned (.tuple #[.pointer (some ⟨p, 0, none⟩), .int .i64 0]) ∧ w.heap.size ≤ p ∧ w.heap.size ≤ o ∧ Below w.heap.size w w' ∧
      QAt w' p o n bound (.slice none 0 0) [] (fun _ => .slice none 0 0) (fun _ => []) := by
  have hmk := run_make_row' (P := Try.prog) 45 38 (.slice none 0 0) 24 Try.underlying45 infoInts rfl .i64 .i64 n (by omega) (by omega)
  have h1' : (1 : Int) ≤ (n : Int) := by omega
  go_enter Try.func11, Try.ntmps11
  go_wp2
  go_ret2
  refine ⟨w.heap.size + 1, w.heap.size, rfl, by omega, by omega, by (repeat (first | with_reducible exact Below.refl _ _ | with_reducible apply bel_drewN.2 | with_reducible apply bel_drew.2 | (with_reducible refine Below.setCell ?_ ?_ _; rotate_left; focus (first | omega | (simp; done) | (simp; omega))) | (with_reducible refine Below.alloc ?_ ?_ _; rotate_left; focus (first | omega | (simp; done) | (simp; omega))) | refine bel_step (by with_reducible assumption) (by first | omega | (simp; done) | (simp; omega)) ?_)), queue_made _ _ _ n bound h1 h2 h3 (by omega) (by go_simp) (by go_simp) (by go_simp) (by go_simp) ?_⟩
  exact (World.rowIs_made w (.slice none 0 0) n 38).alloc _

theorem queue_new_bad (n bound : Int) (w : World) (h : n < 1 ∨ 64 < n ∨ bound < 0 ∨ 65536 < bound) :
    Calls Try.prog 11 #[.int .i64 n, .int .i64 bound] w fun e w' => e = .returned (.tuple #[.pointer none, .int .i64 2]) ∧ w = w' := by
  by_cases c1 : n < 1
  · clear h
    go_enter Try.func11, Try.ntmps11
    go_wp2
    go_ret2
    exact ⟨rfl, rfl⟩
  have d1 : 1 ≤ n := by omega
  by_cases c2 : 64 < n
  · clear h c1
    go_enter Try.func11, Try.ntmps11
    go_wp2
    go_ret2
    exact ⟨rfl, rfl⟩
  have d2 : n ≤ 64 := by omega
  by_cases c3 : bound < 0
  · clear h c1 c2
    go_enter Try.func11, Try.ntmps11
    go_wp2
    go_ret2
    exact ⟨rfl, rfl⟩
  have d3 : 0 ≤ bound := by omega
  have d4 : 65536 < bound := by omega
  clear h c1 c2 c3
  go_enter Try.func11, Try.ntmps11
  go_wp2
  go_ret2
  exact ⟨rfl, rfl⟩

theorem queue_push_nil (w : World) (t c : Int) :
    Calls Try.prog 18 #[.pointer none, .int .i64 t, .int .i64 c] w fun e w' => e = .returned (.tuple #[.slice none 0 0, .int .i64 1]) ∧ w = w' := by
  go_enter Try.func18, Try.ntmps18
  go_wp2
  go_ret2
  exact ⟨rfl, rfl⟩

theorem queue_push_out (w : World) (p o n bound : Nat) (cv : Value) (C : List Int) (V : Nat → Value) (L : Nat → List Int) (t c : Int) (h : QAt w p o n bound cv C V L) (hx : t < 0 ∨ (n : Int) ≤ t ∨ c < 0) :
    Calls Try.prog 18 #[.pointer (some ⟨p, 0, none⟩), .int .i64 t, .int .i64 c] w fun e w' => e = .returned (.tuple #[.slice none 0 0, .int .i64 2]) ∧ w = w' := by
  have h1 := h.own
  clear h
  by_cases c1 : t < 0
  · clear hx
    go_enter Try.func18, Try.ntmps18
    go_wp2
    go_ret2
    exact ⟨rfl, rfl⟩
  have d1 : 0 ≤ t := by omega
  by_cases c2 : (n : Int) ≤ t
  · clear hx c1
    go_enter Try.func18, Try.ntmps18
    go_wp2
    go_ret2
    exact ⟨rfl, rfl⟩
  have d2 : t < (n : Int) := by omega
  have d3 : c < 0 := by omega
  clear hx c1 c2
  go_enter Try.func18, Try.ntmps18
  go_wp2
  go_ret2
  exact ⟨rfl, rfl⟩

set_option maxRecDepth 100000 in
set_option maxHeartbeats 1000000 in
theorem queue_push_short (w : World) (p o n bound : Nat) (cv : Value) (C : List Int) (V : Nat → Value) (L : Nat → List Int) (t c : Nat) (h : QAt w p o n bound cv C V L) (ht : t < n) (hl : (L t).length < 3) (hc : c ≤ 9223372036854775807) :
    Calls Try.prog 18 #[.pointer (some ⟨p, 0, none⟩), .int .i64 t, .int .i64 c] w fun e w' => e = .returned (.tuple #[.slice none 0 0, .int .i64 0]) ∧ Chg (QB p o n cv V) w w' ∧
      ∃ v', QAt w' p o n bound cv C (upd V t v') (upd L t (L t ++ [(c : Int)])) ∧ ∀ g, v'.ownBlock = some g → (V t).ownBlock = some g ∨ w.heap.size ≤ g := by
  obtain ⟨i0, hi, hz0, hz1, hz2⟩ := info_parts infoInt
  have H := hid h
  have h1 := h.own
  have h2 := h.row.cell ht
  have hpl : p < w.heap.size := cell_lt h.bnd
  have hol : o < w.heap.size := h.row.lt
  have htn : (t : Int) < (n : Int) := by omega
  have hlo := hid (h.lists t ht)
  obtain ⟨A, k, hv⟩ := hlo.out.shape
  have hvp := hid (h.vp t ht)
  have hvo := hid (h.vo t ht)
  rw [hv] at h2 hlo hvp hvo
  have HV := hid hv
  have hl3 : ((L t).length : Int) + 1 < 4 := by omega
  clear h hv
  go_enter Try.func18, Try.ntmps18
  go_wp2_with (at_builtin; refine wpList_append_lies _ rfl _ _ 38 rfl 0 3 i0 (.int .i64 0) 1 8 Try.underlying38 hi hz0 hz1 hz2 rfl (by decide) _ _ _ rfl (hlo.out.alloc _) ⟨w.heap.size, 0, none⟩ 1 1 [.int .i64 (c : Int)] rfl rfl ?c1 ?c2 (by decide) ?c3 ?c4 (Nat.zero_le _) _ rfl ?_)
  case c1 => exact one_lies rfl
  case c2 => intro u hu; simp at hu; subst hu; rfl
  case c3 => unfold maxLen; omega
  case c4 => omega
  intro g cap w1 hown hgrow hat hlt1
  have hc1 : Chg (fun b => (Value.slice A (L t).length k).ownBlock = some b) w w1 := (((Chg.refl _ w).alloc _).grown hgrow (fun b hb => .inl hb))
  have h1' : w1.cell? ⟨p, 2, none⟩ = some (.slice (some ⟨o, 0, none⟩) n n) := (hc1.cell hpl hvp.out).trans h1
  have hrow := hc1.row H.out.row hvo.out
  have h2' := hrow.cell ht
  have h3' := hrow.frozen t
  have HC := hid hc1
  have HO := hid hown
  have HAT := hid hat
  clear hc1 hown hgrow hat hrow
  go_wp2
  go_ret2
  have hv := HV.out
  have hc1 : Chg (fun b => (V t).ownBlock = some b) w w1 := by rw [hv]; exact HC.out
  have hown : OwnInts 0 w1 (.slice (some ⟨g, 0, none⟩) ((L t).length + 1) cap) (L t ++ [(c : Int)]) := by
    have := HO.out
    unfold OwnInts
    rw [List.map_append, List.length_append]
    exact this
  have hb : ∀ x, (Value.slice (some ⟨g, 0, none⟩) ((L t).length + 1) cap).ownBlock = some x → (V t).ownBlock = some x ∨ w.heap.size ≤ x := fun x hx => by
    have e : g = x := by simpa [Value.ownBlock] using hx
    subst e
    rw [hv]
    rcases HAT.out with h | h
    · exact .inl h
    · exact .inr (by first | omega | (simp at h; omega))
  have hcc : Chg (QB p o n cv V) w w1 := hc1.mono (fun k _ hk => .inr (.inr (.inr ⟨t, ht, hk⟩)))
  exact ⟨rfl, hcc.setCell (.inl (.inr (.inl rfl))) _, _, H.out.relist t ht hc1 _ _ hown hb, hb⟩
end Go.Proofs.Ythmjjmimmbgpaaa
