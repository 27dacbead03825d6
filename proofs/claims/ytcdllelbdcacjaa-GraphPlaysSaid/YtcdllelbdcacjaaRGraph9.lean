/-
  The document's graph (layer 13): 'step' where it asks.
-/
import Derived.Test.YtcdllelbdcacjaaRGraph8
set_option linter.unusedVariables false
set_option linter.unusedSimpArgs false
namespace Go.Proofs.Ytcdllelbdcacjaa.R
open Go.RowKit

section
variable {dcap : Nat} (w : World) (b : GB) (g : GS) (t : Nat) (x y z v : Int) (pA : Nat) (vt vo : Value) (h : GAt dcap w b g) (ht : t < g.n) (f : Five w pA vt vo (.int .i64 0) (.int .u64 0) (.bool false)) (hn : ¬ b.has g.n g.m pA)
include h ht f hn

set_option maxRecDepth 100000 in
set_option maxHeartbeats 4000000 in
theorem step_9 : Calls Try.prog 39 #[.pointer (some ⟨b.p, 0, none⟩), .pointer (some ⟨b.S t, 0, none⟩), .agg #[.int .i64 9, .int .i64 x, .int .i64 y, .int .i64 z, .int .u64 v], .pointer (some ⟨pA, 0, none⟩)] w (SPost dcap w b g pA vt vo (g.act t ⟨9, x, y, z, v⟩)) := by
  have hA := fun w' (c : Chg (fun _ => False) w w') => asks_9 w' b g t x y z v pA vt vo (h.quiet c) ht (f.chg c (by simp)) hn
  obtain ⟨R, hR⟩ : ∃ R, R = g.act t ⟨9, x, y, z, v⟩ := ⟨_, rfl⟩
  rw [← hR] at hA ⊢
  have HA := hid hA
  have hlt := hid (fun k (hk : b.has g.n g.m k) => (show k < w.heap.size by obtain ⟨a, ha⟩ := hk; exact h.lt a k ha))
  have hpA := f.lt
  clear h f hn hA hR
  go_enter Try.func39, Try.ntmps39
  go_wp2_with (go_at_call 51; refine (HA.out _ (by (repeat (first | with_reducible exact Chg.refl _ _ | with_reducible apply Chg.drewN | with_reducible apply Chg.drew | with_reducible apply Chg.alloc | (with_reducible refine Chg.setCell ?_ ?_ _; rotate_left; focus (first | (refine Or.inr ?_; first | omega | (simp; done) | (simp; omega)) | exact Or.inl (by assumption) | with_reducible exact Or.inl rfl | exact Or.inl (by simp))) | refine Chg.trans ?_ (Chg.of_below (by with_reducible assumption) (fun k h1 h2 => absurd h1 (by first | omega | (simp; omega)))) | refine Chg.trans ?_ (by with_reducible assumption))))).mono ?_; intro e w1 hp; have hp2 := SPost.from (by (repeat (first | with_reducible exact Chg.refl _ _ | with_reducible apply Chg.drewN | with_reducible apply Chg.drew | with_reducible apply Chg.alloc | (with_reducible refine Chg.setCell ?_ ?_ _; rotate_left; focus (first | (refine Or.inr ?_; first | omega | (simp; done) | (simp; omega)) | exact Or.inl (by assumption) | with_reducible exact Or.inl rfl | exact Or.inl (by simp))) | refine Chg.trans ?_ (Chg.of_below (by with_reducible assumption) (fun k h1 h2 => absurd h1 (by first | omega | (simp; omega)))) | refine Chg.trans ?_ (by with_reducible assumption)))) hlt.out hp hpA; obtain ⟨rfl, b1, ha1⟩ := hp2; have HA1 := hid ha1; clear ha1 hp)
  go_ret
  exact ⟨rfl, b1, HA1.out.quiet (by (repeat (first | with_reducible exact Chg.refl _ _ | with_reducible apply Chg.drewN | with_reducible apply Chg.drew | with_reducible apply Chg.alloc | (with_reducible refine Chg.setCell ?_ ?_ _; rotate_left; focus (first | (refine Or.inr ?_; first | omega | (simp; done) | (simp; omega)) | exact Or.inl (by assumption) | with_reducible exact Or.inl rfl | exact Or.inl (by simp))) | refine Chg.trans ?_ (Chg.of_below (by with_reducible assumption) (fun k h1 h2 => absurd h1 (by first | omega | (simp; omega)))) | refine Chg.trans ?_ (by with_reducible assumption))))⟩

set_option maxRecDepth 100000 in
set_option maxHeartbeats 4000000 in
theorem step_10 : Calls Try.prog 39 #[.pointer (some ⟨b.p, 0, none⟩), .pointer (some ⟨b.S t, 0, none⟩), .agg #[.int .i64 10, .int .i64 x, .int .i64 y, .int .i64 z, .int .u64 v], .pointer (some ⟨pA, 0, none⟩)] w (SPost dcap w b g pA vt vo (g.act t ⟨10, x, y, z, v⟩)) := by
  have hA := fun w' (c : Chg (fun _ => False) w w') => asks_10 w' b g t x y z v pA vt vo (h.quiet c) ht (f.chg c (by simp)) hn
  obtain ⟨R, hR⟩ : ∃ R, R = g.act t ⟨10, x, y, z, v⟩ := ⟨_, rfl⟩
  rw [← hR] at hA ⊢
  have HA := hid hA
  have hlt := hid (fun k (hk : b.has g.n g.m k) => (show k < w.heap.size by obtain ⟨a, ha⟩ := hk; exact h.lt a k ha))
  have hpA := f.lt
  clear h f hn hA hR
  go_enter Try.func39, Try.ntmps39
  go_wp2_with (go_at_call 51; refine (HA.out _ (by (repeat (first | with_reducible exact Chg.refl _ _ | with_reducible apply Chg.drewN | with_reducible apply Chg.drew | with_reducible apply Chg.alloc | (with_reducible refine Chg.setCell ?_ ?_ _; rotate_left; focus (first | (refine Or.inr ?_; first | omega | (simp; done) | (simp; omega)) | exact Or.inl (by assumption) | with_reducible exact Or.inl rfl | exact Or.inl (by simp))) | refine Chg.trans ?_ (Chg.of_below (by with_reducible assumption) (fun k h1 h2 => absurd h1 (by first | omega | (simp; omega)))) | refine Chg.trans ?_ (by with_reducible assumption))))).mono ?_; intro e w1 hp; have hp2 := SPost.from (by (repeat (first | with_reducible exact Chg.refl _ _ | with_reducible apply Chg.drewN | with_reducible apply Chg.drew | with_reducible apply Chg.alloc | (with_reducible refine Chg.setCell ?_ ?_ _; rotate_left; focus (first | (refine Or.inr ?_; first | omega | (simp; done) | (simp; omega)) | exact Or.inl (by assumption) | with_reducible exact Or.inl rfl | exact Or.inl (by simp))) | refine Chg.trans ?_ (Chg.of_below (by with_reducible assumption) (fun k h1 h2 => absurd h1 (by first | omega | (simp; omega)))) | refine Chg.trans ?_ (by with_reducible assumption)))) hlt.out hp hpA; obtain ⟨rfl, b1, ha1⟩ := hp2; have HA1 := hid ha1; clear ha1 hp)
  go_ret
  exact ⟨rfl, b1, HA1.out.quiet (by (repeat (first | with_reducible exact Chg.refl _ _ | with_reducible apply Chg.drewN | with_reducible apply Chg.drew | with_reducible apply Chg.alloc | (with_reducible refine Chg.setCell ?_ ?_ _; rotate_left; focus (first | (refine Or.inr ?_; first | omega | (simp; done) | (simp; omega)) | exact Or.inl (by assumption) | with_reducible exact Or.inl rfl | exact Or.inl (by simp))) | refine Chg.trans ?_ (Chg.of_below (by with_reducible assumption) (fun k h1 h2 => absurd h1 (by first | omega | (simp; omega)))) | refine Chg.trans ?_ (by with_reducible assumption))))⟩

set_option maxRecDepth 100000 in
set_option maxHeartbeats 4000000 in
theorem step_11 : Calls Try.prog 39 #[.pointer (some ⟨b.p, 0, none⟩), .pointer (some ⟨b.S t, 0, none⟩), .agg #[.int .i64 11, .int .i64 x, .int .i64 y, .int .i64 z, .int .u64 v], .pointer (some ⟨pA, 0, none⟩)] w (SPost dcap w b g pA vt vo (g.act t ⟨11, x, y, z, v⟩)) := by
  have hA := fun w' (c : Chg (fun _ => False) w w') => asks_11 w' b g t x y z v pA vt vo (h.quiet c) ht (f.chg c (by simp)) hn
  obtain ⟨R, hR⟩ : ∃ R, R = g.act t ⟨11, x, y, z, v⟩ := ⟨_, rfl⟩
  rw [← hR] at hA ⊢
  have HA := hid hA
  have hlt := hid (fun k (hk : b.has g.n g.m k) => (show k < w.heap.size by obtain ⟨a, ha⟩ := hk; exact h.lt a k ha))
  have hpA := f.lt
  clear h f hn hA hR
  go_enter Try.func39, Try.ntmps39
  go_wp2_with (go_at_call 51; refine (HA.out _ (by (repeat (first | with_reducible exact Chg.refl _ _ | with_reducible apply Chg.drewN | with_reducible apply Chg.drew | with_reducible apply Chg.alloc | (with_reducible refine Chg.setCell ?_ ?_ _; rotate_left; focus (first | (refine Or.inr ?_; first | omega | (simp; done) | (simp; omega)) | exact Or.inl (by assumption) | with_reducible exact Or.inl rfl | exact Or.inl (by simp))) | refine Chg.trans ?_ (Chg.of_below (by with_reducible assumption) (fun k h1 h2 => absurd h1 (by first | omega | (simp; omega)))) | refine Chg.trans ?_ (by with_reducible assumption))))).mono ?_; intro e w1 hp; have hp2 := SPost.from (by (repeat (first | with_reducible exact Chg.refl _ _ | with_reducible apply Chg.drewN | with_reducible apply Chg.drew | with_reducible apply Chg.alloc | (with_reducible refine Chg.setCell ?_ ?_ _; rotate_left; focus (first | (refine Or.inr ?_; first | omega | (simp; done) | (simp; omega)) | exact Or.inl (by assumption) | with_reducible exact Or.inl rfl | exact Or.inl (by simp))) | refine Chg.trans ?_ (Chg.of_below (by with_reducible assumption) (fun k h1 h2 => absurd h1 (by first | omega | (simp; omega)))) | refine Chg.trans ?_ (by with_reducible assumption)))) hlt.out hp hpA; obtain ⟨rfl, b1, ha1⟩ := hp2; have HA1 := hid ha1; clear ha1 hp)
  go_ret
  exact ⟨rfl, b1, HA1.out.quiet (by (repeat (first | with_reducible exact Chg.refl _ _ | with_reducible apply Chg.drewN | with_reducible apply Chg.drew | with_reducible apply Chg.alloc | (with_reducible refine Chg.setCell ?_ ?_ _; rotate_left; focus (first | (refine Or.inr ?_; first | omega | (simp; done) | (simp; omega)) | exact Or.inl (by assumption) | with_reducible exact Or.inl rfl | exact Or.inl (by simp))) | refine Chg.trans ?_ (Chg.of_below (by with_reducible assumption) (fun k h1 h2 => absurd h1 (by first | omega | (simp; omega)))) | refine Chg.trans ?_ (by with_reducible assumption))))⟩

set_option maxRecDepth 100000 in
set_option maxHeartbeats 4000000 in
theorem step_12 : Calls Try.prog 39 #[.pointer (some ⟨b.p, 0, none⟩), .pointer (some ⟨b.S t, 0, none⟩), .agg #[.int .i64 12, .int .i64 x, .int .i64 y, .int .i64 z, .int .u64 v], .pointer (some ⟨pA, 0, none⟩)] w (SPost dcap w b g pA vt vo (g.act t ⟨12, x, y, z, v⟩)) := by
  have hA := fun w' (c : Chg (fun _ => False) w w') => asks_12 w' b g t x y z v pA vt vo (h.quiet c) ht (f.chg c (by simp)) hn
  obtain ⟨R, hR⟩ : ∃ R, R = g.act t ⟨12, x, y, z, v⟩ := ⟨_, rfl⟩
  rw [← hR] at hA ⊢
  have HA := hid hA
  have hlt := hid (fun k (hk : b.has g.n g.m k) => (show k < w.heap.size by obtain ⟨a, ha⟩ := hk; exact h.lt a k ha))
  have hpA := f.lt
  clear h f hn hA hR
  go_enter Try.func39, Try.ntmps39
  go_wp2_with (go_at_call 51; refine (HA.out _ (by (repeat (first | with_reducible exact Chg.refl _ _ | with_reducible apply Chg.drewN | with_reducible apply Chg.drew | with_reducible apply Chg.alloc | (with_reducible refine Chg.setCell ?_ ?_ _; rotate_left; focus (first | (refine Or.inr ?_; first | omega | (simp; done) | (simp; omega)) | exact Or.inl (by assumption) | with_reducible exact Or.inl rfl | exact Or.inl (by simp))) | refine Chg.trans ?_ (Chg.of_below (by with_reducible assumption) (fun k h1 h2 => absurd h1 (by first | omega | (simp; omega)))) | refine Chg.trans ?_ (by with_reducible assumption))))).mono ?_; intro e w1 hp; have hp2 := SPost.from (by (repeat (first | with_reducible exact Chg.refl _ _ | with_reducible apply Chg.drewN | with_reducible apply Chg.drew | with_reducible apply Chg.alloc | (with_reducible refine Chg.setCell ?_ ?_ _; rotate_left; focus (first | (refine Or.inr ?_; first | omega | (simp; done) | (simp; omega)) | exact Or.inl (by assumption) | with_reducible exact Or.inl rfl | exact Or.inl (by simp))) | refine Chg.trans ?_ (Chg.of_below (by with_reducible assumption) (fun k h1 h2 => absurd h1 (by first | omega | (simp; omega)))) | refine Chg.trans ?_ (by with_reducible assumption)))) hlt.out hp hpA; obtain ⟨rfl, b1, ha1⟩ := hp2; have HA1 := hid ha1; clear ha1 hp)
  go_ret
  exact ⟨rfl, b1, HA1.out.quiet (by (repeat (first | with_reducible exact Chg.refl _ _ | with_reducible apply Chg.drewN | with_reducible apply Chg.drew | with_reducible apply Chg.alloc | (with_reducible refine Chg.setCell ?_ ?_ _; rotate_left; focus (first | (refine Or.inr ?_; first | omega | (simp; done) | (simp; omega)) | exact Or.inl (by assumption) | with_reducible exact Or.inl rfl | exact Or.inl (by simp))) | refine Chg.trans ?_ (Chg.of_below (by with_reducible assumption) (fun k h1 h2 => absurd h1 (by first | omega | (simp; omega)))) | refine Chg.trans ?_ (by with_reducible assumption))))⟩

set_option maxRecDepth 100000 in
set_option maxHeartbeats 4000000 in
theorem step_other (k : Int) (hk : k < 1 ∨ 13 < k) : Calls Try.prog 39 #[.pointer (some ⟨b.p, 0, none⟩), .pointer (some ⟨b.S t, 0, none⟩), .agg #[.int .i64 k, .int .i64 x, .int .i64 y, .int .i64 z, .int .u64 v], .pointer (some ⟨pA, 0, none⟩)] w (SPost dcap w b g pA vt vo (g.act t ⟨k, x, y, z, v⟩)) := by
  have hA := fun w' (c : Chg (fun _ => False) w w') => asks_other w' b g t x y z v pA vt vo (h.quiet c) ht (f.chg c (by simp)) hn k hk
  obtain ⟨R, hR⟩ : ∃ R, R = g.act t ⟨k, x, y, z, v⟩ := ⟨_, rfl⟩
  rw [← hR] at hA ⊢
  have HA := hid hA
  have hlt := hid (fun k (hk : b.has g.n g.m k) => (show k < w.heap.size by obtain ⟨a, ha⟩ := hk; exact h.lt a k ha))
  have hpA := f.lt
  have n1 : (k == 1) = false := by simp; omega
  have m1 : ¬ k = 1 := by omega
  have n2 : (k == 2) = false := by simp; omega
  have m2 : ¬ k = 2 := by omega
  have n3 : (k == 3) = false := by simp; omega
  have m3 : ¬ k = 3 := by omega
  have n4 : (k == 4) = false := by simp; omega
  have m4 : ¬ k = 4 := by omega
  have n5 : (k == 5) = false := by simp; omega
  have m5 : ¬ k = 5 := by omega
  have n6 : (k == 6) = false := by simp; omega
  have m6 : ¬ k = 6 := by omega
  have n7 : (k == 7) = false := by simp; omega
  have m7 : ¬ k = 7 := by omega
  have n8 : (k == 8) = false := by simp; omega
  have m8 : ¬ k = 8 := by omega
  have n9 : (k == 9) = false := by simp; omega
  have m9 : ¬ k = 9 := by omega
  have n10 : (k == 10) = false := by simp; omega
  have m10 : ¬ k = 10 := by omega
  have n11 : (k == 11) = false := by simp; omega
  have m11 : ¬ k = 11 := by omega
  have n12 : (k == 12) = false := by simp; omega
  have m12 : ¬ k = 12 := by omega
  have n13 : (k == 13) = false := by simp; omega
  have m13 : ¬ k = 13 := by omega
  clear h f hn hA hR hk
  go_enter Try.func39, Try.ntmps39
  go_wp2_with (go_at_call 51; refine (HA.out _ (by (repeat (first | with_reducible exact Chg.refl _ _ | with_reducible apply Chg.drewN | with_reducible apply Chg.drew | with_reducible apply Chg.alloc | (with_reducible refine Chg.setCell ?_ ?_ _; rotate_left; focus (first | (refine Or.inr ?_; first | omega | (simp; done) | (simp; omega)) | exact Or.inl (by assumption) | with_reducible exact Or.inl rfl | exact Or.inl (by simp))) | refine Chg.trans ?_ (Chg.of_below (by with_reducible assumption) (fun k h1 h2 => absurd h1 (by first | omega | (simp; omega)))) | refine Chg.trans ?_ (by with_reducible assumption))))).mono ?_; intro e w1 hp; have hp2 := SPost.from (by (repeat (first | with_reducible exact Chg.refl _ _ | with_reducible apply Chg.drewN | with_reducible apply Chg.drew | with_reducible apply Chg.alloc | (with_reducible refine Chg.setCell ?_ ?_ _; rotate_left; focus (first | (refine Or.inr ?_; first | omega | (simp; done) | (simp; omega)) | exact Or.inl (by assumption) | with_reducible exact Or.inl rfl | exact Or.inl (by simp))) | refine Chg.trans ?_ (Chg.of_below (by with_reducible assumption) (fun k h1 h2 => absurd h1 (by first | omega | (simp; omega)))) | refine Chg.trans ?_ (by with_reducible assumption)))) hlt.out hp hpA; obtain ⟨rfl, b1, ha1⟩ := hp2; have HA1 := hid ha1; clear ha1 hp)
  go_ret
  exact ⟨rfl, b1, HA1.out.quiet (by (repeat (first | with_reducible exact Chg.refl _ _ | with_reducible apply Chg.drewN | with_reducible apply Chg.drew | with_reducible apply Chg.alloc | (with_reducible refine Chg.setCell ?_ ?_ _; rotate_left; focus (first | (refine Or.inr ?_; first | omega | (simp; done) | (simp; omega)) | exact Or.inl (by assumption) | with_reducible exact Or.inl rfl | exact Or.inl (by simp))) | refine Chg.trans ?_ (Chg.of_below (by with_reducible assumption) (fun k h1 h2 => absurd h1 (by first | omega | (simp; omega)))) | refine Chg.trans ?_ (by with_reducible assumption))))⟩

end
end Go.Proofs.Ytcdllelbdcacjaa.R
