/-
  Contracts of the reference of layer 12 (roots).
-/
import Derived.Test.YtcdllelbdcacjaaRoots3
set_option linter.unusedVariables false
set_option linter.unusedSimpArgs false
namespace Go.Proofs.Ytcdllelbdcacjaa
open Go.RowKit

theorem rroots_new (n : Nat) (w : World) (h1 : 1 ≤ n) (h2 : n ≤ 64) :
    Calls Try.prog 15 #[.int .i64 n] w fun e w' => e = .returned (.tuple #[.pointer (some ⟨w.heap.size, 0, none⟩), .int .i64 0]) ∧ w.alloc (.cells #[.int .i64 n, .slice none 0 0] 51) = w' := by
  have h3 : (1 : Int) ≤ (n : Int) := by omega
  go_enter Try.func15, Try.ntmps15
  go_wp2
  go_ret2
  exact ⟨rfl, rfl⟩

theorem rroots_new_bad (n : Int) (w : World) (h : n < 1 ∨ 64 < n) :
    Calls Try.prog 15 #[.int .i64 n] w fun e w' => e = .returned (.tuple #[.pointer none, .int .i64 2]) ∧ w = w' := by
  by_cases h1 : n < 1
  · clear h
    go_enter Try.func15, Try.ntmps15
    go_wp2
    go_ret2
    exact ⟨rfl, rfl⟩
  · have h2 : 64 < n := by omega
    have h3 : 1 ≤ n := by omega
    clear h h1
    go_enter Try.func15, Try.ntmps15
    go_wp2
    go_ret2
    exact ⟨rfl, rfl⟩

theorem rroots_at (w : World) (p : Nat) (v : Value) (bound : Nat) (l : List Int) (k : Nat) (h : StackAt w p v bound l) (hk : k < l.length) :
    Calls Try.prog 18 #[.pointer (some ⟨p, 0, none⟩), .int .i64 k] w fun e w' => e = .returned (.tuple #[.int .u64 (l.getD k 0), .int .i64 0]) ∧ w = w' := by
  obtain ⟨g, cap, rfl, hg1, hg2⟩ := h.form (by omega)
  have hc := h.cell hk
  have h1 := h.val
  have h2 := h.len
  have h3 := h.most
  clear h
  generalize l.getD k 0 = r at hc ⊢
  go_enter Try.func18, Try.ntmps18
  go_wp2
  go_ret2
  exact ⟨rfl, rfl⟩

theorem rroots_at_out (w : World) (p : Nat) (v : Value) (bound : Nat) (l : List Int) (k : Int) (h : StackAt w p v bound l) (hk : k < 0 ∨ (l.length : Int) ≤ k) :
    Calls Try.prog 18 #[.pointer (some ⟨p, 0, none⟩), .int .i64 k] w fun e w' => e = .returned (.tuple #[.int .u64 0, .int .i64 10]) ∧ w = w' := by
  obtain ⟨A, c, rfl⟩ := h.shape
  have h1 := h.val
  clear h
  by_cases c1 : k < 0
  · clear hk
    go_enter Try.func18, Try.ntmps18
    go_wp2
    go_ret2
    exact ⟨rfl, rfl⟩
  · have c2 : (l.length : Int) ≤ k := by omega
    have c3 : 0 ≤ k := by omega
    clear hk c1
    go_enter Try.func18, Try.ntmps18
    go_wp2
    go_ret2
    exact ⟨rfl, rfl⟩

theorem rroots_set (w : World) (p : Nat) (v : Value) (bound : Nat) (l : List Int) (k : Nat) (r : Int) (h : StackAt w p v bound l) (hk : k < l.length) :
    Calls Try.prog 20 #[.pointer (some ⟨p, 0, none⟩), .int .i64 k, .int .u64 r] w fun e w' => e = .returned (.int .i64 0) ∧ StackAt w' p v bound (l.set k r) ∧ Chg (fun b => v.ownBlock = some b) w w' := by
  obtain ⟨g, cap, rfl, hg1, hg2⟩ := h.form (by omega)
  have hc := h.cell hk
  have hf := h.own.frozenAt k
  have h1 := h.val
  have h2 := h.len
  have h3 := h.most
  have H := hid h
  clear h
  generalize l.getD k 0 = r0 at hc
  go_enter Try.func20, Try.ntmps20
  go_wp2
  go_ret
  refine ⟨rfl, ?_, Chg.setCell (S := fun b => (Value.slice (some ⟨g, 0, none⟩) l.length cap).ownBlock = some b) (p := ⟨g, k, none⟩) (Chg.refl _ _) (.inl rfl) _⟩
  have := H.out.set hg1 k r
  rwa [List.length_set] at this

theorem rroots_set_out (w : World) (p : Nat) (v : Value) (bound : Nat) (l : List Int) (k r : Int) (h : StackAt w p v bound l) (hk : k < 0 ∨ (l.length : Int) ≤ k) :
    Calls Try.prog 20 #[.pointer (some ⟨p, 0, none⟩), .int .i64 k, .int .u64 r] w fun e w' => e = .returned (.int .i64 10) ∧ w = w' := by
  obtain ⟨A, c, rfl⟩ := h.shape
  have h1 := h.val
  clear h
  by_cases c1 : k < 0
  · clear hk
    go_enter Try.func20, Try.ntmps20
    go_wp2
    go_ret
    exact ⟨rfl, rfl⟩
  · have c2 : (l.length : Int) ≤ k := by omega
    have c3 : 0 ≤ k := by omega
    clear hk c1
    go_enter Try.func20, Try.ntmps20
    go_wp2
    go_ret
    exact ⟨rfl, rfl⟩

theorem rroots_pop (w : World) (p : Nat) (v : Value) (bound : Nat) (l : List Int) (r : Int) (h : StackAt w p v bound (l ++ [r])) :
    Calls Try.prog 16 #[.pointer (some ⟨p, 0, none⟩)] w fun e w' => e = .returned (.tuple #[.int .u64 r, .int .i64 0]) ∧ Chg (fun b => b = p) w w' ∧
      ∃ v' : Value, v'.ownBlock = v.ownBlock ∧ StackAt w' p v' bound l := by
  obtain ⟨g, cap, rfl, hg1, hg2⟩ := h.form (by simp)
  obtain ⟨n, hn⟩ : ∃ n, n = l.length := ⟨_, rfl⟩
  have e1 : (l ++ [r]).length = n + 1 := by simp [hn]
  rw [e1] at h
  have h1 := h.val
  have h2 := h.fz
  have hl := h.len
  have hm := h.most
  have hcap : n + 1 ≤ cap := by
    rcases h.own.2 with ⟨h', _⟩ | ⟨g', cap', cur, h', _, _, hnc, _⟩
    · simp at h'
    · simp at h'
      rw [e1] at hnc
      omega
  have hc : w.cell? ⟨g, n, none⟩ = some (.int .u64 r) := by
    have := h.own
    rw [e1] at this
    rw [this.cellAt n (by omega)]
    simp [hn]
  rw [e1] at hl
  have H := hid h
  have HN := hid hn
  clear h e1 hn
  rw [List.length_append, List.length_singleton, ← HN.out]
  have hne : ((n : Int) + 1 == 0) = false := by simp; omega
  go_enter Try.func16, Try.ntmps16
  go_wp2
  go_ret2
  exact ⟨rfl, (Chg.refl (fun b => b = p) w).setCell (.inl rfl) _, .slice (some ⟨g, 0, none⟩) n cap, rfl, H.out.pop HN.out.symm hg1⟩

theorem rroots_pop_empty (w : World) (p : Nat) (v : Value) (bound : Nat) (h : StackAt w p v bound []) :
    Calls Try.prog 16 #[.pointer (some ⟨p, 0, none⟩)] w fun e w' => e = .returned (.tuple #[.int .u64 0, .int .i64 14]) ∧ w = w' := by
  obtain ⟨A, c, rfl⟩ := h.shape
  have h1 := h.val
  clear h
  simp at h1
  go_enter Try.func16, Try.ntmps16
  go_wp2
  go_ret2
  exact ⟨rfl, rfl⟩

set_option maxRecDepth 100000 in
theorem rroots_push (w : World) (p : Nat) (v : Value) (bound : Nat) (l : List Int) (r : Int) (h : StackAt w p v bound l) (hl : l.length < bound) :
    Calls Try.prog 21 #[.pointer (some ⟨p, 0, none⟩), .int .u64 r] w fun e w' => e = .returned (.int .i64 0) ∧ Chg (fun b => b = p ∨ v.ownBlock = some b) w w' ∧
      ∃ v' : Value, (v'.ownBlock = v.ownBlock ∨ ∃ g, v'.ownBlock = some g ∧ w.heap.size ≤ g) ∧ StackAt w' p v' bound (l ++ [r]) := by
  obtain ⟨i0, hi, hz0, hz1, hz2⟩ := info_parts infoRef
  obtain ⟨A, c, rfl⟩ := h.shape
  have h1 := h.val
  have h0 := h.bnd
  have h2 := h.fz
  have hlt := h.lt
  have hm := h.most
  have hl' : (l.length : Int) < (bound : Int) := by omega
  have H := hid h
  clear h
  go_enter Try.func21, Try.ntmps21
  go_wp2
  go_quiet (fail)
  go_wp2_with (first
    | (at_builtin; refine wpList_append_lies _ rfl _ _ 22 rfl (p + 1) 30 i0 (.int .u64 0) 1 8 Try.underlying22 hi hz0 hz1 hz2 rfl (by decide) _ _ _ rfl ((owns_drewN H.out.own nq).alloc _) ⟨w.heap.size, 0, none⟩ 1 1 [.int .u64 r] rfl rfl ?c1 ?c2 (by decide) ?c3 ?c4 ?c5 _ rfl ?_))
  case c1 =>
    intro j u hj
    match j, hj with
    | 0, hj => simp at hj; subst hj; exact one_new rfl
  case c2 => intro u hu; simp at hu; subst hu; rfl
  case c3 => unfold maxLen; omega
  case c4 => omega
  case c5 => simp; omega
  intro g cap w1 hown hgrow hat hlt1
  have hne : ∀ b, (Value.slice A l.length c).ownBlock = some b → p < b ∧ b < w.heap.size := fun b hb => by have := H.out.own.lt b hb; omega
  have hc1 : Chg (fun b => (Value.slice A l.length c).ownBlock = some b) w w1 :=
    (((Chg.refl (fun b => (Value.slice A l.length c).ownBlock = some b) w).drewN nq).alloc _).grown hgrow (fun b hb => .inl hb)
  have hp1 : w1.cell? ⟨p, 1, none⟩ = some (.slice A l.length c) := (hc1.cell hlt (fun hb => by have := hne p hb; omega)).trans h1
  have hp2 : w1.frozen? ⟨p, 1, none⟩ = false := (hc1.frozen hlt (fun hb => by have := hne p hb; omega)).trans h2
  have hp0 : w1.cell? ⟨p, 0, none⟩ = some (.int .i64 bound) := (hc1.cell hlt (fun hb => by have := hne p hb; omega)).trans H.out.bnd
  have hgp : p < g := by
    rcases hat with hat | hat
    · exact (hne g hat).1
    · first | omega | (simp at hat; omega)
  have hat' : (Value.slice A l.length c).ownBlock = some g ∨ w.heap.size ≤ g := by
    rcases hat with hat | hat
    · exact .inl hat
    · exact .inr (by first | omega | (simp at hat; omega))
  have HC := hid hc1
  have HO := hid hown
  have HP0 := hid hp0
  have HA := hid hat'
  clear hc1 hown hgrow hat hne hp0 hat'
  go_wp2
  go_ret
  refine ⟨rfl, ?_, .slice (some ⟨g, 0, none⟩) (l.length + 1) cap, ?_, ?_⟩
  · exact (HC.out.mono (fun b _ hb => .inr hb)).setCell (.inl (.inl rfl)) _
  · rcases HA.out with hA | hA
    · exact .inl (by rw [hA]; rfl)
    · exact .inr ⟨g, rfl, hA⟩
  · refine ⟨by rw [World.cell?_setCell_other _ _ _ _ (by simp)]; exact HP0.out, World.cell?_setCell_same' _ _ _ (by rw [hp1]; rfl), by rw [World.frozen?_setCell]; exact hp2, ?_, by simp; omega, hm⟩
    have := HO.out
    rw [List.length_append, List.length_singleton, List.map_append, List.map_singleton]
    exact ownsRow_setCell_below this (by simp) _

theorem rroots_push_full (w : World) (p : Nat) (v : Value) (bound : Nat) (l : List Int) (r : Int) (h : StackAt w p v bound l) (hl : l.length = bound) :
    Calls Try.prog 21 #[.pointer (some ⟨p, 0, none⟩), .int .u64 r] w fun e w' => e = .returned (.int .i64 15) ∧ ∃ k, w' = w.drewN k := by
  obtain ⟨A, c, rfl⟩ := h.shape
  have h1 := h.val
  have h0 := h.bnd
  rw [hl] at h1
  clear h hl
  go_enter Try.func21, Try.ntmps21
  go_wp2
  go_quiet (fail)
  go_wp2
  go_ret
  exact ⟨rfl, _, rfl⟩

/-- a slice that reads as these numbers -/
def IntsIn (K : IntKind) (w : World) (v : Value) (zs : List Int) : Prop :=
  ∃ (A : Option Addr) (cap : Nat), v = .slice A zs.length cap ∧ ∀ j, j < zs.length → ∃ g, A = some ⟨g, 0, none⟩ ∧ w.cell? ⟨g, j, none⟩ = some (.int K (zs.getD j 0))

theorem intsIn_of {K : IntKind} {w : World} {base : Nat} {e : TypeId} {v : Value} {zs : List Int} (h : w.ownsRow base e 1 v zs.length (zs.map (Value.int K))) : IntsIn K w v zs := by
  rcases h.2 with ⟨hv, hn⟩ | ⟨g, cap, cur, hv, _⟩
  · exact ⟨none, 0, by rw [hv, hn], fun j hj => by omega⟩
  · subst hv
    refine ⟨_, cap, rfl, fun j hj => ⟨g, rfl, ?_⟩⟩
    rw [h.cellAt j (by omega)]
    simp [hj]

set_option maxRecDepth 100000 in
set_option maxHeartbeats 1000000 in
theorem same_true (w : World) (a b : Value) (zs : List Int) (ha : IntsIn .u64 w a zs) (hb : IntsIn .u64 w b zs) (hl : zs.length ≤ 9223372036854775807) :
    Calls Try.prog 23 #[a, b] w fun e w' => e = .returned (.bool true) ∧ ∃ k, w' = w.drewN k := by
  obtain ⟨A, c, rfl, hA⟩ := ha
  obtain ⟨B, d, rfl, hB⟩ := hb
  have HA := hid hA
  have HB := hid hB
  clear hA hB
  go_enter Try.func23, Try.ntmps23
  go_wp2
  go_loopw [5] (fun i wr => ∃ (k n : Nat), k ≤ zs.length ∧ i = .int .i64 k ∧ wr = w.drewN n) (fun i _ => zs.length - (intOf i).toNat)
  case atStart => exact ⟨0, 0, by omega, rfl, rfl⟩
  case round =>
    obtain ⟨k, n, hk, rfl, rfl⟩ := hrel
    by_cases hlt : k < zs.length
    · obtain ⟨g, rfl, hg⟩ := HA.out k hlt
      obtain ⟨g', rfl, hg'⟩ := HB.out k hlt
      revert hg hg'
      generalize zs.getD k 0 = z
      intro hg hg'
      have hlt' : (k : Int) < (zs.length : Int) := by omega
      go_wp2
      go_quiet (fail)
      go_wp2
      go_roundw
      case rel => exact ⟨k + 1, n + nq, by omega, by go_num, rfl⟩
      case measure => simp [intOf]; omega
    · obtain rfl : k = zs.length := by omega
      go_wp2
      go_ret
      exact ⟨rfl, _, rfl⟩
end Go.Proofs.Ytcdllelbdcacjaa
