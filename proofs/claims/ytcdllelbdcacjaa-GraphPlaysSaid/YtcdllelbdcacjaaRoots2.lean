/-
  Contracts of package roots (layer 12): what reads and writes the list.
-/
import Derived.Test.YtcdllelbdcacjaaRoots
set_option linter.unusedVariables false
set_option linter.unusedSimpArgs false
namespace Go.Proofs.Ytcdllelbdcacjaa
open Go.RowKit

theorem roots_slot (w : World) (p g cap bound : Nat) (l : List Int) (k : Nat) (h : StackAt w p (.slice (some ⟨g, 0, none⟩) l.length cap) bound l) (hk : k < l.length) :
    Calls Try.prog 36 #[.pointer (some ⟨p, 0, none⟩), .int .i64 k] w fun e w' => e = .returned (.tuple #[.pointer (some ⟨g, k, none⟩), .int .i64 0]) ∧ w = w' := by
  have h1 := h.val
  have h2 := h.len
  have h3 := h.most
  clear h
  go_enter Try.func36, Try.ntmps36
  go_wp2
  go_ret2
  exact ⟨rfl, rfl⟩

theorem roots_slot_out (w : World) (p : Nat) (v : Value) (bound : Nat) (l : List Int) (k : Int) (h : StackAt w p v bound l) (hk : k < 0 ∨ (l.length : Int) ≤ k) :
    Calls Try.prog 36 #[.pointer (some ⟨p, 0, none⟩), .int .i64 k] w fun e w' => e = .returned (.tuple #[.pointer none, .int .i64 10]) ∧ w = w' := by
  obtain ⟨A, c, rfl⟩ := h.shape
  have h1 := h.val
  clear h
  by_cases c1 : k < 0
  · clear hk
    go_enter Try.func36, Try.ntmps36
    go_wp2
    go_ret2
    exact ⟨rfl, rfl⟩
  · have c2 : (l.length : Int) ≤ k := by omega
    have c3 : 0 ≤ k := by omega
    clear hk c1
    go_enter Try.func36, Try.ntmps36
    go_wp2
    go_ret2
    exact ⟨rfl, rfl⟩

theorem roots_slot_nil (w : World) (k : Int) :
    Calls Try.prog 36 #[.pointer none, .int .i64 k] w fun e w' => e = .returned (.tuple #[.pointer none, .int .i64 1]) ∧ w = w' := by
  go_enter Try.func36, Try.ntmps36
  go_wp2
  go_ret2
  exact ⟨rfl, rfl⟩

theorem StackAt.cell {w : World} {p g cap bound : Nat} {l : List Int} (h : StackAt w p (.slice (some ⟨g, 0, none⟩) l.length cap) bound l) {k : Nat} (hk : k < l.length) : w.cell? ⟨g, k, none⟩ = some (.int .u64 (l.getD k 0)) := by
  rw [h.own.cellAt k (by omega)]
  simp [hk]

theorem roots_at (w : World) (p : Nat) (v : Value) (bound : Nat) (l : List Int) (k : Nat) (h : StackAt w p v bound l) (hk : k < l.length) :
    Calls Try.prog 17 #[.pointer (some ⟨p, 0, none⟩), .int .i64 k] w fun e w' => e = .returned (.tuple #[.int .u64 (l.getD k 0), .int .i64 0]) ∧ w = w' := by
  obtain ⟨g, cap, rfl, hg1, hg2⟩ := h.form (by omega)
  have hc := h.cell hk
  have HS := hid (roots_slot w p g cap bound l k h hk)
  clear h
  generalize l.getD k 0 = r at hc ⊢
  go_enter Try.func17, Try.ntmps17
  go_wp2_with (go_at_call 36; refine HS.out.mono ?_; rintro e w' ⟨rfl, rfl⟩)
  go_ret2
  exact ⟨rfl, rfl⟩

theorem roots_at_out (w : World) (p : Nat) (v : Value) (bound : Nat) (l : List Int) (k : Int) (h : StackAt w p v bound l) (hk : k < 0 ∨ (l.length : Int) ≤ k) :
    Calls Try.prog 17 #[.pointer (some ⟨p, 0, none⟩), .int .i64 k] w fun e w' => e = .returned (.tuple #[.int .u64 0, .int .i64 10]) ∧ w = w' := by
  have HS := hid (roots_slot_out w p v bound l k h hk)
  clear h hk
  go_enter Try.func17, Try.ntmps17
  go_wp2_with (go_at_call 36; refine HS.out.mono ?_; rintro e w' ⟨rfl, rfl⟩)
  go_ret2
  exact ⟨rfl, rfl⟩

theorem roots_at_nil (w : World) (k : Int) :
    Calls Try.prog 17 #[.pointer none, .int .i64 k] w fun e w' => e = .returned (.tuple #[.int .u64 0, .int .i64 1]) ∧ w = w' := by
  go_enter Try.func17, Try.ntmps17
  go_wp2_with (go_at_call 36; refine (roots_slot_nil w k).mono ?_; rintro e w' ⟨rfl, rfl⟩)
  go_ret2
  exact ⟨rfl, rfl⟩

/-- a handle is set: the stack's list, in its own block, changes at one place -/
theorem StackAt.set {w : World} {p g cap bound : Nat} {l : List Int} (h : StackAt w p (.slice (some ⟨g, 0, none⟩) l.length cap) bound l) (hg : p < g) (k : Nat) (r : Int) :
    StackAt (w.setCell ⟨g, k, none⟩ (.int .u64 r)) p (.slice (some ⟨g, 0, none⟩) (l.set k r).length cap) bound (l.set k r) := by
  have hn : g ≠ p := by omega
  refine ⟨by rw [World.cell?_setCell_other _ _ _ _ (addr_ne hn)]; exact h.bnd, by rw [World.cell?_setCell_other _ _ _ _ (addr_ne hn)]; rw [List.length_set]; exact h.val, by rw [World.frozen?_setCell]; exact h.fz, ?_, by rw [List.length_set]; exact h.len, h.most⟩
  have := (h.own.stored k (.int .u64 r)).1
  rw [List.length_set, List.map_set]
  exact this

theorem roots_set (w : World) (p : Nat) (v : Value) (bound : Nat) (l : List Int) (k : Nat) (r : Int) (h : StackAt w p v bound l) (hk : k < l.length) :
    Calls Try.prog 19 #[.pointer (some ⟨p, 0, none⟩), .int .i64 k, .int .u64 r] w fun e w' => e = .returned (.int .i64 0) ∧ StackAt w' p v bound (l.set k r) ∧ Chg (fun b => v.ownBlock = some b) w w' := by
  obtain ⟨g, cap, rfl, hg1, hg2⟩ := h.form (by omega)
  have hc := h.cell hk
  have hf := h.own.frozenAt k
  have HS := hid (roots_slot w p g cap bound l k h hk)
  have H := hid h
  clear h
  generalize l.getD k 0 = r0 at hc
  go_enter Try.func19, Try.ntmps19
  go_wp2_with (go_at_call 36; refine HS.out.mono ?_; rintro e w' ⟨rfl, rfl⟩)
  go_ret
  refine ⟨rfl, ?_, Chg.setCell (S := fun b => (Value.slice (some ⟨g, 0, none⟩) l.length cap).ownBlock = some b) (p := ⟨g, k, none⟩) (Chg.refl _ _) (.inl rfl) _⟩
  have := H.out.set hg1 k r
  rwa [List.length_set] at this

theorem roots_set_out (w : World) (p : Nat) (v : Value) (bound : Nat) (l : List Int) (k r : Int) (h : StackAt w p v bound l) (hk : k < 0 ∨ (l.length : Int) ≤ k) :
    Calls Try.prog 19 #[.pointer (some ⟨p, 0, none⟩), .int .i64 k, .int .u64 r] w fun e w' => e = .returned (.int .i64 10) ∧ w = w' := by
  have HS := hid (roots_slot_out w p v bound l k h hk)
  clear h hk
  go_enter Try.func19, Try.ntmps19
  go_wp2_with (go_at_call 36; refine HS.out.mono ?_; rintro e w' ⟨rfl, rfl⟩)
  go_ret
  exact ⟨rfl, rfl⟩

theorem roots_set_nil (w : World) (k r : Int) :
    Calls Try.prog 19 #[.pointer none, .int .i64 k, .int .u64 r] w fun e w' => e = .returned (.int .i64 1) ∧ w = w' := by
  go_enter Try.func19, Try.ntmps19
  go_wp2_with (go_at_call 36; refine (roots_slot_nil w k).mono ?_; rintro e w' ⟨rfl, rfl⟩)
  go_ret
  exact ⟨rfl, rfl⟩

/-- the last one goes -/
theorem StackAt.pop {w : World} {p g cap n bound : Nat} {l : List Int} {r : Int} (h : StackAt w p (.slice (some ⟨g, 0, none⟩) (n + 1) cap) bound (l ++ [r])) (hn : l.length = n) (hg : p < g) :
    StackAt (w.setCell ⟨p, 1, none⟩ (.slice (some ⟨g, 0, none⟩) n cap)) p (.slice (some ⟨g, 0, none⟩) n cap) bound l := by
  refine ⟨by rw [World.cell?_setCell_other _ _ _ _ (by simp)]; exact h.bnd, World.cell?_setCell_same' _ _ _ (by rw [h.val]; rfl), by rw [World.frozen?_setCell]; exact h.fz, ?_, by have := h.len; simp at this; omega, h.most⟩
  have h1 := h.own
  simp only [List.length_append, List.length_singleton, hn, List.map_append, List.map_singleton] at h1
  have h2 := ownsRow_pop (by simp [hn]) h1
  rw [hn]
  exact ownsRow_setCell_below h2 (by simp) _

theorem roots_pop (w : World) (p : Nat) (v : Value) (bound : Nat) (l : List Int) (r : Int) (h : StackAt w p v bound (l ++ [r])) :
    Calls Try.prog 13 #[.pointer (some ⟨p, 0, none⟩)] w fun e w' => e = .returned (.tuple #[.int .u64 r, .int .i64 0]) ∧ Chg (fun b => b = p) w w' ∧
      ∃ v' : Value, v'.ownBlock = v.ownBlock ∧ StackAt w' p v' bound l := by
  obtain ⟨g, cap, rfl, hg1, hg2⟩ := h.form (by simp)
  obtain ⟨n, hn⟩ : ∃ n, n = l.length := ⟨_, rfl⟩
  have e1 : (l ++ [r]).length = n + 1 := by simp [hn]
  rw [e1] at h
  have h1 := h.val
  have h2 := h.fz
  have hl := h.len
  have hm := h.most
  have hcap : n + 1 ≤ cap := by
    rcases h.own.2 with ⟨h', _⟩ | ⟨g', cap', cur, h', _, _, hnc, _⟩
    · simp at h'
    · simp at h'
      rw [e1] at hnc
      omega
  have hc : w.cell? ⟨g, n, none⟩ = some (.int .u64 r) := by
    have := h.own
    rw [e1] at this
    rw [this.cellAt n (by omega)]
    simp [hn]
  rw [e1] at hl
  have H := hid h
  have HN := hid hn
  clear h e1 hn
  rw [List.length_append, List.length_singleton, ← HN.out]
  go_enter Try.func13, Try.ntmps13
  go_wp2
  go_ret2
  exact ⟨rfl, (Chg.refl (fun b => b = p) w).setCell (.inl rfl) _, .slice (some ⟨g, 0, none⟩) n cap, rfl, H.out.pop HN.out.symm hg1⟩

theorem roots_pop_empty (w : World) (p : Nat) (v : Value) (bound : Nat) (h : StackAt w p v bound []) :
    Calls Try.prog 13 #[.pointer (some ⟨p, 0, none⟩)] w fun e w' => e = .returned (.tuple #[.int .u64 0, .int .i64 14]) ∧ w = w' := by
  obtain ⟨A, c, rfl⟩ := h.shape
  have h1 := h.val
  clear h
  simp at h1
  go_enter Try.func13, Try.ntmps13
  go_wp2
  go_ret2
  exact ⟨rfl, rfl⟩

theorem roots_pop_nil (w : World) :
    Calls Try.prog 13 #[.pointer none] w fun e w' => e = .returned (.tuple #[.int .u64 0, .int .i64 1]) ∧ w = w' := by
  go_enter Try.func13, Try.ntmps13
  go_wp2
  go_ret2
  exact ⟨rfl, rfl⟩

theorem one_new {w : World} {v : Value} {T : TypeId} {n : Nat} (hn : w.heap.size = n) : (w.alloc (.cells #[v] T)).cell? ((⟨n, 0, none⟩ : Addr).add 0) = some v := by
  subst hn
  simp [Addr.add]

theorem owns_drewN {w : World} {base : Nat} {e : TypeId} {size : Nat} {v : Value} {n : Nat} {xs : List Value} (h : w.ownsRow base e size v n xs) (k : Nat) : (w.drewN k).ownsRow base e size v n xs := h

set_option maxRecDepth 100000 in
theorem roots_push (w : World) (p : Nat) (v : Value) (bound : Nat) (l : List Int) (r : Int) (h : StackAt w p v bound l) (hl : l.length < bound) :
    Calls Try.prog 12 #[.pointer (some ⟨p, 0, none⟩), .int .u64 r] w fun e w' => e = .returned (.int .i64 0) ∧ Chg (fun b => b = p ∨ v.ownBlock = some b) w w' ∧
      ∃ v' : Value, (v'.ownBlock = v.ownBlock ∨ ∃ g, v'.ownBlock = some g ∧ w.heap.size ≤ g) ∧ StackAt w' p v' bound (l ++ [r]) := by
  obtain ⟨i0, hi, hz0, hz1, hz2⟩ := info_parts infoRef
  obtain ⟨A, c, rfl⟩ := h.shape
  have h1 := h.val
  have h2 := h.fz
  have hlt := h.lt
  have HR := hid (roots_room w p (.slice A l.length c) bound l h)
  have hm := h.most
  have H := hid h
  clear h
  go_enter Try.func12, Try.ntmps12
  go_wp2_with (first
    | (go_at_call 24; refine HR.out.mono ?_; rintro e w' ⟨rfl, k, rfl⟩)
    | (at_builtin; refine wpList_append_lies _ rfl _ _ 22 rfl (p + 1) 30 i0 (.int .u64 0) 1 8 Try.underlying22 hi hz0 hz1 hz2 rfl (by decide) _ _ _ rfl ((owns_drewN H.out.own k).alloc _) ⟨w.heap.size, 0, none⟩ 1 1 [.int .u64 r] rfl rfl ?c1 ?c2 (by decide) ?c3 ?c4 ?c5 _ rfl ?_))
  case c1 =>
    intro j u hj
    match j, hj with
    | 0, hj => simp at hj; subst hj; exact one_new rfl
  case c2 => intro u hu; simp at hu; subst hu; rfl
  case c3 => unfold maxLen; omega
  case c4 => omega
  case c5 => simp; omega
  intro g cap w1 hown hgrow hat hlt1
  have hne : ∀ b, (Value.slice A l.length c).ownBlock = some b → p < b ∧ b < w.heap.size := fun b hb => by have := H.out.own.lt b hb; omega
  have hc1 : Chg (fun b => (Value.slice A l.length c).ownBlock = some b) w w1 :=
    (((Chg.refl (fun b => (Value.slice A l.length c).ownBlock = some b) w).drewN k).alloc _).grown hgrow (fun b hb => .inl hb)
  have hp1 : w1.cell? ⟨p, 1, none⟩ = some (.slice A l.length c) := (hc1.cell hlt (fun hb => by have := hne p hb; omega)).trans h1
  have hp2 : w1.frozen? ⟨p, 1, none⟩ = false := (hc1.frozen hlt (fun hb => by have := hne p hb; omega)).trans h2
  have hp0 : w1.cell? ⟨p, 0, none⟩ = some (.int .i64 bound) := (hc1.cell hlt (fun hb => by have := hne p hb; omega)).trans H.out.bnd
  have hgp : p < g := by
    rcases hat with hat | hat
    · exact (hne g hat).1
    · first | omega | (simp at hat; omega)
  have hat' : (Value.slice A l.length c).ownBlock = some g ∨ w.heap.size ≤ g := by
    rcases hat with hat | hat
    · exact .inl hat
    · exact .inr (by first | omega | (simp at hat; omega))
  have HC := hid hc1
  have HO := hid hown
  have HP0 := hid hp0
  have HA := hid hat'
  clear hc1 hown hgrow hat hne hp0 hat'
  go_wp2
  go_ret
  refine ⟨rfl, ?_, .slice (some ⟨g, 0, none⟩) (l.length + 1) cap, ?_, ?_⟩
  · exact (HC.out.mono (fun b _ hb => .inr hb)).setCell (.inl (.inl rfl)) _
  · rcases HA.out with hA | hA
    · exact .inl (by rw [hA]; rfl)
    · exact .inr ⟨g, rfl, hA⟩
  · refine ⟨by rw [World.cell?_setCell_other _ _ _ _ (by simp)]; exact HP0.out, World.cell?_setCell_same' _ _ _ (by rw [hp1]; rfl), by rw [World.frozen?_setCell]; exact hp2, ?_, by simp; omega, hm⟩
    have := HO.out
    rw [List.length_append, List.length_singleton, List.map_append, List.map_singleton]
    exact ownsRow_setCell_below this (by simp) _

theorem roots_push_full (w : World) (p : Nat) (v : Value) (bound : Nat) (l : List Int) (r : Int) (h : StackAt w p v bound l) (hl : l.length = bound) :
    Calls Try.prog 12 #[.pointer (some ⟨p, 0, none⟩), .int .u64 r] w fun e w' => e = .returned (.int .i64 15) ∧ ∃ k, w' = w.drewN k := by
  have HR := hid (roots_room w p v bound l h)
  clear h
  rw [hl] at HR
  clear hl
  go_enter Try.func12, Try.ntmps12
  go_wp2_with (first
    | (go_at_call 24; refine HR.out.mono ?_; rintro e w' ⟨rfl, k, rfl⟩))
  go_ret
  exact ⟨rfl, _, rfl⟩

theorem roots_push_nil (w : World) (r : Int) :
    Calls Try.prog 12 #[.pointer none, .int .u64 r] w fun e w' => e = .returned (.int .i64 1) ∧ w = w' := by
  go_enter Try.func12, Try.ntmps12
  go_wp2
  go_ret
  exact ⟨rfl, rfl⟩
end Go.Proofs.Ytcdllelbdcacjaa
