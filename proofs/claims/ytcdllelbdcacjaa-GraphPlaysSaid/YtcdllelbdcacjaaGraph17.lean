/-
  Graphs (layer 13): what is refused, and what is asked, changes nothing: the plain law. No function of the program in sight.
-/
import Derived.Test.YtcdllelbdcacjaaGraph16
set_option linter.unusedVariables false
set_option linter.unusedSimpArgs false
namespace Go.Proofs.Ytcdllelbdcacjaa
open Go.RowKit Go.Maps

theorem push_kept (g : GS) (t : Nat) (r : Int) : ((g.push t r).2 ≠ 0 → (g.push t r).1 = g) ∧ (g.push t r).1.n = g.n ∧ (g.push t r).1.m = g.m ∧ (g.push t r).1.done = g.done := by
  unfold GS.push; split <;> simp
theorem load_kept (g : GS) (t : Nat) (a b : Int) : ((g.load t a b).2 ≠ 0 → (g.load t a b).1 = g) ∧ (g.load t a b).1.n = g.n ∧ (g.load t a b).1.m = g.m ∧ (g.load t a b).1.done = g.done := by
  unfold GS.load; split; simp; split; simp; split; exact push_kept g t _; simp
theorem store_kept (g : GS) (t : Nat) (a b c : Int) : ((g.store t a b c).2 ≠ 0 → (g.store t a b c).1 = g) ∧ (g.store t a b c).1.n = g.n ∧ (g.store t a b c).1.m = g.m ∧ (g.store t a b c).1.done = g.done := by
  unfold GS.store; split; simp; split; simp; split; simp; split <;> simp
theorem write_kept (g : GS) (t : Nat) (a b c : Int) : ((g.write t a b c).2 ≠ 0 → (g.write t a b c).1 = g) ∧ (g.write t a b c).1.n = g.n ∧ (g.write t a b c).1.m = g.m ∧ (g.write t a b c).1.done = g.done := by
  unfold GS.write; split; simp; split; simp; split <;> simp
theorem pop_kept (g : GS) (t : Nat) : ((g.pop t).2 ≠ 0 → (g.pop t).1 = g) ∧ (g.pop t).1.n = g.n ∧ (g.pop t).1.m = g.m ∧ (g.pop t).1.done = g.done := by
  unfold GS.pop; split <;> simp
theorem dup_kept (g : GS) (t : Nat) (a : Int) : ((g.dup t a).2 ≠ 0 → (g.dup t a).1 = g) ∧ (g.dup t a).1.n = g.n ∧ (g.dup t a).1.m = g.m ∧ (g.dup t a).1.done = g.done := by
  unfold GS.dup; split; simp; exact push_kept g t _
theorem send_kept (g : GS) (t : Nat) (a b : Int) : ((g.send t a b).2 ≠ 0 → (g.send t a b).1 = g) ∧ (g.send t a b).1.n = g.n ∧ (g.send t a b).1.m = g.m ∧ (g.send t a b).1.done = g.done := by
  unfold GS.send; split; simp; split; exact push_kept g _ _; simp
theorem alloc_kept (g : GS) (t : Nat) (a b : Int) : ((g.alloc t a b).2 ≠ 0 → (g.alloc t a b).1 = g) ∧ (g.alloc t a b).1.n = g.n ∧ (g.alloc t a b).1.m ≤ g.m + 1 ∧ (g.alloc t a b).1.done = g.done := by
  unfold GS.alloc; split; simp; split <;> simp [GS.more]
theorem read_kept (g : GS) (t : Nat) (a b : Int) : (g.read t a b).2 ≠ 0 → (g.read t a b).1 = 0 := by
  unfold GS.read; split; simp; split; simp; split <;> simp

/-- what an operation may do: if it is refused or asks, nothing; it makes at most one object -/
theorem act_kept (g : GS) (t : Nat) (o : OpS) : ((g.act t o).code ≠ 0 → (g.act t o).g = g ∧ (g.act t o).word = 0 ∧ (g.act t o).bit = false) ∧
    (o.kind = 4 ∨ o.kind = 9 ∨ o.kind = 10 ∨ o.kind = 11 ∨ o.kind = 12 → (g.act t o).g = g) ∧ (g.act t o).g.n = g.n ∧ (g.act t o).g.m ≤ g.m + 1 ∧ (g.act t o).g.done = g.done := by
  obtain ⟨r, hr⟩ : ∃ r, r = g.act t o := ⟨_, rfl⟩
  rw [← hr]
  unfold GS.act at hr
  by_cases h1 : o.kind = 1
  · rw [if_pos h1] at hr
    subst hr
    obtain ⟨k1, k2, k3, k4⟩ := alloc_kept g t o.a o.b
    exact ⟨fun e => ⟨k1 e, rfl, rfl⟩, fun e => by omega, k2, k3, k4⟩
  rw [if_neg h1] at hr
  by_cases h2 : o.kind = 2
  · rw [if_pos h2] at hr
    subst hr
    obtain ⟨k1, k2, k3, k4⟩ := load_kept g t o.a o.b
    exact ⟨fun e => ⟨k1 e, rfl, rfl⟩, fun e => by omega, k2, Nat.le_succ_of_le (Nat.le_of_eq k3), k4⟩
  rw [if_neg h2] at hr
  by_cases h3 : o.kind = 3
  · rw [if_pos h3] at hr
    subst hr
    obtain ⟨k1, k2, k3, k4⟩ := store_kept g t o.a o.b o.c
    exact ⟨fun e => ⟨k1 e, rfl, rfl⟩, fun e => by omega, k2, Nat.le_succ_of_le (Nat.le_of_eq k3), k4⟩
  rw [if_neg h3] at hr
  by_cases h4 : o.kind = 4
  · rw [if_pos h4] at hr
    subst hr
    exact ⟨fun e => ⟨rfl, read_kept g t _ _ e, rfl⟩, fun _ => rfl, rfl, by simp, rfl⟩
  rw [if_neg h4] at hr
  by_cases h5 : o.kind = 5
  · rw [if_pos h5] at hr
    subst hr
    obtain ⟨k1, k2, k3, k4⟩ := write_kept g t o.a o.b o.v
    exact ⟨fun e => ⟨k1 e, rfl, rfl⟩, fun e => by omega, k2, Nat.le_succ_of_le (Nat.le_of_eq k3), k4⟩
  rw [if_neg h5] at hr
  by_cases h6 : o.kind = 6
  · rw [if_pos h6] at hr
    subst hr
    obtain ⟨k1, k2, k3, k4⟩ := push_kept g t 0
    exact ⟨fun e => ⟨k1 e, rfl, rfl⟩, fun e => by omega, k2, Nat.le_succ_of_le (Nat.le_of_eq k3), k4⟩
  rw [if_neg h6] at hr
  by_cases h7 : o.kind = 7
  · rw [if_pos h7] at hr
    subst hr
    obtain ⟨k1, k2, k3, k4⟩ := pop_kept g t 
    exact ⟨fun e => ⟨k1 e, rfl, rfl⟩, fun e => by omega, k2, Nat.le_succ_of_le (Nat.le_of_eq k3), k4⟩
  rw [if_neg h7] at hr
  by_cases h8 : o.kind = 8
  · rw [if_pos h8] at hr
    subst hr
    obtain ⟨k1, k2, k3, k4⟩ := dup_kept g t o.a
    exact ⟨fun e => ⟨k1 e, rfl, rfl⟩, fun e => by omega, k2, Nat.le_succ_of_le (Nat.le_of_eq k3), k4⟩
  rw [if_neg h8] at hr
  by_cases h9 : o.kind = 9
  · rw [if_pos h9] at hr
    split at hr <;> subst hr <;> exact ⟨fun e => ⟨rfl, rfl, by first | rfl | exact absurd rfl e⟩, fun _ => rfl, rfl, Nat.le_succ _, rfl⟩
  rw [if_neg h9] at hr
  by_cases h10 : o.kind = 10
  · rw [if_pos h10] at hr
    split at hr <;> subst hr <;> exact ⟨fun e => ⟨rfl, rfl, by first | rfl | exact absurd rfl e⟩, fun _ => rfl, rfl, Nat.le_succ _, rfl⟩
  rw [if_neg h10] at hr
  by_cases h11 : o.kind = 11
  · rw [if_pos h11] at hr
    subst hr
    exact ⟨fun e => ⟨rfl, rfl, rfl⟩, fun _ => rfl, rfl, Nat.le_succ _, rfl⟩
  rw [if_neg h11] at hr
  by_cases h12 : o.kind = 12
  · rw [if_pos h12] at hr
    subst hr
    exact ⟨fun e => ⟨rfl, rfl, rfl⟩, fun _ => rfl, rfl, Nat.le_succ _, rfl⟩
  rw [if_neg h12] at hr
  by_cases h13 : o.kind = 13
  · rw [if_pos h13] at hr
    subst hr
    obtain ⟨k1, k2, k3, k4⟩ := send_kept g t o.a o.b
    exact ⟨fun e => ⟨k1 e, rfl, rfl⟩, fun e => by omega, k2, Nat.le_succ_of_le (Nat.le_of_eq k3), k4⟩
  rw [if_neg h13] at hr
  subst hr
  exact ⟨fun e => ⟨rfl, rfl, rfl⟩, fun _ => rfl, rfl, Nat.le_succ _, rfl⟩

section
variable (g : GS) (d : Nat → Int)
def GS.counted : GS := { g with done := d }
theorem meetThreads_counted : ∀ k, meetThreads (g.counted d) k = meetThreads g k
  | 0 => rfl
  | k + 1 => by unfold meetThreads; rw [meetThreads_counted k]; rfl
theorem walkL_counted : ∀ f i L, walkL (g.counted d) f i L = walkL g f i L
  | 0, _, _ => rfl
  | f + 1, i, L => by unfold walkL; rw [walkL_counted f]; rfl
theorem reach_counted : (g.counted d).reach = g.reach := by
  unfold GS.reach
  rw [walkL_counted, meetThreads_counted]; rfl
theorem threadsOut_counted (L : List Int) : ∀ k, threadsOut (g.counted d) L k = threadsOut g L k
  | 0 => rfl
  | k + 1 => by unfold threadsOut; rw [threadsOut_counted L k]; rfl
theorem objsOut_counted (L : List Int) : ∀ X, objsOut (g.counted d) L X = objsOut g L X
  | [] => rfl
  | r :: X => by unfold objsOut; rw [objsOut_counted L X]; rfl
theorem wordsOf_counted : ∀ X, wordsOf (g.counted d) X = wordsOf g X
  | [] => rfl
  | r :: X => by unfold wordsOf; rw [wordsOf_counted X]; rfl
theorem shape_counted : (g.counted d).shape = g.shape := by
  unfold GS.shape
  rw [reach_counted, threadsOut_counted, objsOut_counted]; rfl
theorem words_counted : (g.counted d).words = g.words := by
  unfold GS.words
  rw [reach_counted, wordsOf_counted]
end

def asksB (k : Int) : Bool := k == 4 || k == 9 || k == 10 || k == 11 || k == 12

/-- an operation of a thread: refused or asking, it changes no shape; it makes at most one object and counts one -/
theorem run_kept (g : GS) (t : Int) (o : OpS) : ((g.run t o).2.code ≠ 0 ∨ asksB o.kind = true → (g.run t o).1.shape = g.shape ∧ (g.run t o).1.words = g.words) ∧ ((g.run t o).2.code ≠ 0 → (g.run t o).2.word = 0 ∧ (g.run t o).2.bit = false) ∧
    (g.run t o).1.n = g.n ∧ (g.run t o).1.m ≤ g.m + 1 ∧ ∀ s, (g.run t o).1.done s = g.done s ∨ (g.run t o).1.done s = g.done s + 1 := by
  unfold GS.run
  split
  · rename_i hin
    obtain ⟨h1, h2, h3, h4, h5⟩ := act_kept ({ g with done := upd g.done t.toNat (g.done t.toNat + 1) } : GS) t.toNat o
    refine ⟨fun e => ?_, fun e => (h1 e).2, h3, h4, fun s => ?_⟩
    · have hg : (({ g with done := upd g.done t.toNat (g.done t.toNat + 1) } : GS).act t.toNat o).g = g.counted (upd g.done t.toNat (g.done t.toNat + 1)) := by
        rcases e with e | e
        · exact (h1 e).1
        · refine h2 ?_
          simp [asksB] at e
          omega
      show (({ g with done := upd g.done t.toNat (g.done t.toNat + 1) } : GS).act t.toNat o).g.shape = _ ∧ (({ g with done := upd g.done t.toNat (g.done t.toNat + 1) } : GS).act t.toNat o).g.words = _
      rw [hg, shape_counted, words_counted]
      exact ⟨rfl, rfl⟩
    · show (({ g with done := upd g.done t.toNat (g.done t.toNat + 1) } : GS).act t.toNat o).g.done s = _ ∨ (({ g with done := upd g.done t.toNat (g.done t.toNat + 1) } : GS).act t.toNat o).g.done s = _
      rw [h5]
      show upd g.done t.toNat (g.done t.toNat + 1) s = _ ∨ upd g.done t.toNat (g.done t.toNat + 1) s = _
      by_cases hs : s = t.toNat
      · subst hs; right; rw [upd_same]
      · left; rw [upd_other _ _ hs]
  · simp
end Go.Proofs.Ytcdllelbdcacjaa
