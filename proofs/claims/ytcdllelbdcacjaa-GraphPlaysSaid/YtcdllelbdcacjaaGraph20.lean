/-
  Graphs (layer 13): what other threads do is not seen by a thread that shares nothing with them: the plain law, put together. No function of the program in sight.
-/
import Derived.Test.YtcdllelbdcacjaaGraph19
set_option linter.unusedVariables false
set_option linter.unusedSimpArgs false
namespace Go.Proofs.Ytcdllelbdcacjaa
open Go.RowKit Go.Maps

section
variable {g h : GS} {f : Int → Int}

theorem kind_cases {k : Int} (h : ¬ (k < 1 ∨ 13 < k)) (hk : k ≠ 13) : k = 1 ∨ k = 2 ∨ k = 3 ∨ k = 4 ∨ k = 5 ∨ k = 6 ∨ k = 7 ∨ k = 8 ∨ k = 9 ∨ k = 10 ∨ k = 11 ∨ k = 12 := by
  rcases (by omega : (1 ≤ k ∧ k ≤ 4) ∨ (5 ≤ k ∧ k ≤ 8) ∨ (9 ≤ k ∧ k ≤ 12)) with a | a | a
  · rcases (by omega : k = 1 ∨ k = 2 ∨ k = 3 ∨ k = 4) with e | e | e | e <;> simp [e]
  · rcases (by omega : k = 5 ∨ k = 6 ∨ k = 7 ∨ k = 8) with e | e | e | e <;> simp [e]
  · rcases (by omega : k = 9 ∨ k = 10 ∨ k = 11 ∨ k = 12) with e | e | e | e <;> simp [e]

theorem act_k (g : GS) (t : Nat) (o : OpS) :
    (o.kind = 1 → g.act t o = ⟨(g.alloc t o.a o.b).1, 0, false, (g.alloc t o.a o.b).2⟩) ∧
    (o.kind = 2 → g.act t o = ⟨(g.load t o.a o.b).1, 0, false, (g.load t o.a o.b).2⟩) ∧
    (o.kind = 3 → g.act t o = ⟨(g.store t o.a o.b o.c).1, 0, false, (g.store t o.a o.b o.c).2⟩) ∧
    (o.kind = 4 → g.act t o = ⟨g, (g.read t o.a o.b).1, false, (g.read t o.a o.b).2⟩) ∧
    (o.kind = 5 → g.act t o = ⟨(g.write t o.a o.b o.v).1, 0, false, (g.write t o.a o.b o.v).2⟩) ∧
    (o.kind = 6 → g.act t o = ⟨(g.push t 0).1, 0, false, (g.push t 0).2⟩) ∧
    (o.kind = 7 → g.act t o = ⟨(g.pop t).1, 0, false, (g.pop t).2⟩) ∧
    (o.kind = 8 → g.act t o = ⟨(g.dup t o.a).1, 0, false, (g.dup t o.a).2⟩) ∧
    (o.kind = 9 → g.act t o = if codeAt (g.st t) o.a = 10 ∨ codeAt (g.st t) o.b = 10 then ⟨g, 0, false, 10⟩ else ⟨g, 0, refAt (g.st t) o.a == refAt (g.st t) o.b, 0⟩) ∧
    (o.kind = 10 → g.act t o = if codeAt (g.st t) o.a = 10 then ⟨g, 0, false, 10⟩ else ⟨g, 0, refAt (g.st t) o.a == 0, 0⟩) ∧
    (o.kind = 11 → g.act t o = ⟨g, 0, false, 0⟩) ∧
    (o.kind = 12 → g.act t o = ⟨g, 0, false, if o.a < 0 ∨ 3 < o.a then 17 else 0⟩) ∧
    (o.kind = 13 → g.act t o = ⟨(g.send t o.a o.b).1, 0, false, (g.send t o.a o.b).2⟩) ∧
    (o.kind < 1 ∨ 13 < o.kind → g.act t o = ⟨g, 0, false, 17⟩) := by
  unfold GS.act
  exact ⟨(fun e => by rw [if_pos e]),
    (fun e => by rw [if_neg (by omega)]; rw [if_pos e]),
    (fun e => by rw [if_neg (by omega)]; rw [if_neg (by omega)]; rw [if_pos e]),
    (fun e => by rw [if_neg (by omega)]; rw [if_neg (by omega)]; rw [if_neg (by omega)]; rw [if_pos e]),
    (fun e => by rw [if_neg (by omega)]; rw [if_neg (by omega)]; rw [if_neg (by omega)]; rw [if_neg (by omega)]; rw [if_pos e]),
    (fun e => by rw [if_neg (by omega)]; rw [if_neg (by omega)]; rw [if_neg (by omega)]; rw [if_neg (by omega)]; rw [if_neg (by omega)]; rw [if_pos e]),
    (fun e => by rw [if_neg (by omega)]; rw [if_neg (by omega)]; rw [if_neg (by omega)]; rw [if_neg (by omega)]; rw [if_neg (by omega)]; rw [if_neg (by omega)]; rw [if_pos e]),
    (fun e => by rw [if_neg (by omega)]; rw [if_neg (by omega)]; rw [if_neg (by omega)]; rw [if_neg (by omega)]; rw [if_neg (by omega)]; rw [if_neg (by omega)]; rw [if_neg (by omega)]; rw [if_pos e]),
    (fun e => by rw [if_neg (by omega)]; rw [if_neg (by omega)]; rw [if_neg (by omega)]; rw [if_neg (by omega)]; rw [if_neg (by omega)]; rw [if_neg (by omega)]; rw [if_neg (by omega)]; rw [if_neg (by omega)]; rw [if_pos e]),
    (fun e => by rw [if_neg (by omega)]; rw [if_neg (by omega)]; rw [if_neg (by omega)]; rw [if_neg (by omega)]; rw [if_neg (by omega)]; rw [if_neg (by omega)]; rw [if_neg (by omega)]; rw [if_neg (by omega)]; rw [if_neg (by omega)]; rw [if_pos e]),
    (fun e => by rw [if_neg (by omega)]; rw [if_neg (by omega)]; rw [if_neg (by omega)]; rw [if_neg (by omega)]; rw [if_neg (by omega)]; rw [if_neg (by omega)]; rw [if_neg (by omega)]; rw [if_neg (by omega)]; rw [if_neg (by omega)]; rw [if_neg (by omega)]; rw [if_pos e]),
    (fun e => by rw [if_neg (by omega)]; rw [if_neg (by omega)]; rw [if_neg (by omega)]; rw [if_neg (by omega)]; rw [if_neg (by omega)]; rw [if_neg (by omega)]; rw [if_neg (by omega)]; rw [if_neg (by omega)]; rw [if_neg (by omega)]; rw [if_neg (by omega)]; rw [if_neg (by omega)]; rw [if_pos e]),
    (fun e => by rw [if_neg (by omega)]; rw [if_neg (by omega)]; rw [if_neg (by omega)]; rw [if_neg (by omega)]; rw [if_neg (by omega)]; rw [if_neg (by omega)]; rw [if_neg (by omega)]; rw [if_neg (by omega)]; rw [if_neg (by omega)]; rw [if_neg (by omega)]; rw [if_neg (by omega)]; rw [if_neg (by omega)]; rw [if_pos e]),
    (fun e => by rw [if_neg (by omega)]; rw [if_neg (by omega)]; rw [if_neg (by omega)]; rw [if_neg (by omega)]; rw [if_neg (by omega)]; rw [if_neg (by omega)]; rw [if_neg (by omega)]; rw [if_neg (by omega)]; rw [if_neg (by omega)]; rw [if_neg (by omega)]; rw [if_neg (by omega)]; rw [if_neg (by omega)]; rw [if_neg (by omega)])⟩

theorem Iso.act0 (i : Iso g h f) (o : OpS) (hk : o.kind ≠ 13) : (h.act 0 o).word = (g.act 0 o).word ∧ (h.act 0 o).bit = (g.act 0 o).bit ∧ (h.act 0 o).code = (g.act 0 o).code ∧ ∃ f', Iso (g.act 0 o).g (h.act 0 o).g f' := by
  obtain ⟨g1, g2, g3, g4, g5, g6, g7, g8, g9, g10, g11, g12, _, g14⟩ := act_k g 0 o
  obtain ⟨h1, h2, h3, h4, h5, h6, h7, h8, h9, h10, h11, h12, _, h14⟩ := act_k h 0 o
  by_cases ho : o.kind < 1 ∨ 13 < o.kind
  · rw [g14 ho, h14 ho]; exact ⟨rfl, rfl, rfl, f, i⟩
  rcases kind_cases ho hk with e | e | e | e | e | e | e | e | e | e | e | e
  · rw [g1 e, h1 e]
    obtain ⟨k1, f', k2⟩ := i.alloc o.a o.b
    exact ⟨rfl, rfl, k1, f', k2⟩
  · rw [g2 e, h2 e]
    obtain ⟨k1, k2⟩ := i.load o.a o.b
    exact ⟨rfl, rfl, k1, f, k2⟩
  · rw [g3 e, h3 e]
    obtain ⟨k1, k2⟩ := i.store o.a o.b o.c
    exact ⟨rfl, rfl, k1, f, k2⟩
  · rw [g4 e, h4 e, i.read o.a o.b]
    exact ⟨rfl, rfl, rfl, f, i⟩
  · rw [g5 e, h5 e]
    obtain ⟨k1, k2⟩ := i.write o.a o.b o.v
    exact ⟨rfl, rfl, k1, f, k2⟩
  · rw [g6 e, h6 e]
    obtain ⟨k1, k2⟩ := i.push 0 ⟨by omega, by omega⟩
    rw [i.zero] at k1 k2
    exact ⟨rfl, rfl, k1, f, k2⟩
  · rw [g7 e, h7 e]
    obtain ⟨k1, k2⟩ := i.pop
    exact ⟨rfl, rfl, k1, f, k2⟩
  · rw [g8 e, h8 e]
    obtain ⟨k1, k2⟩ := i.dup o.a
    exact ⟨rfl, rfl, k1, f, k2⟩
  · rw [g9 e, h9 e, i.code, i.code]
    by_cases c : codeAt (g.st 0) o.a = 10 ∨ codeAt (g.st 0) o.b = 10
    · rw [if_pos c, if_pos c]; exact ⟨rfl, rfl, rfl, f, i⟩
    · rw [if_neg c, if_neg c]
      refine ⟨rfl, ?_, rfl, f, i⟩
      show (refAt (h.st 0) o.a == refAt (h.st 0) o.b) = (refAt (g.st 0) o.a == refAt (g.st 0) o.b)
      rw [i.ref, i.ref, Bool.eq_iff_iff, beq_iff_eq, beq_iff_eq]
      exact i.eq (i.refOk _) (i.refOk _)
  · rw [g10 e, h10 e, i.code]
    by_cases c : codeAt (g.st 0) o.a = 10
    · rw [if_pos c, if_pos c]; exact ⟨rfl, rfl, rfl, f, i⟩
    · rw [if_neg c, if_neg c]
      refine ⟨rfl, ?_, rfl, f, i⟩
      show (refAt (h.st 0) o.a == 0) = (refAt (g.st 0) o.a == 0)
      rw [i.ref, Bool.eq_iff_iff, beq_iff_eq, beq_iff_eq]
      exact i.nil (i.refOk _)
  · rw [g11 e, h11 e]; exact ⟨rfl, rfl, rfl, f, i⟩
  · rw [g12 e, h12 e]; exact ⟨rfl, rfl, rfl, f, i⟩

theorem Iso.load1 (i : Iso g h f) (a b : Int) : Iso g (h.load 1 a b).1 f := by
  have hr := i.farRef a
  unfold GS.load
  by_cases c1 : codeAt (h.st 1) a = 10
  · rw [if_pos c1]; exact i
  rw [if_neg c1]
  by_cases c2 : refAt (h.st 1) a = 0
  · rw [if_pos c2]; exact i
  rw [if_neg c2]
  by_cases c3 : InL (h.rf (refAt (h.st 1) a - 1).toNat).length b
  · rw [if_pos c3]
    refine i.push1 _ ?_
    rcases getD_mem (h.rf (refAt (h.st 1) a - 1).toNat) b.toNat with h1 | h1
    · rw [h1]; exact i.farZero
    · exact i.farR _ (by have := hr.1; omega) hr _ h1
  · rw [if_neg c3]; exact i
theorem Iso.store1 (i : Iso g h f) (a b c : Int) : Iso g (h.store 1 a b c).1 f := by
  have hr := i.farRef a
  unfold GS.store
  by_cases c0 : codeAt (h.st 1) c = 10
  · rw [if_pos c0]; exact i
  rw [if_neg c0]
  by_cases c1 : codeAt (h.st 1) a = 10
  · rw [if_pos c1]; exact i
  rw [if_neg c1]
  by_cases c2 : refAt (h.st 1) a = 0
  · rw [if_pos c2]; exact i
  rw [if_neg c2]
  by_cases c3 : InL (h.rf (refAt (h.st 1) a - 1).toNat).length b
  · rw [if_pos c3]
    exact i.setR1 _ (by have := hr.1; omega) hr _ _ (i.farRef c)
  · rw [if_neg c3]; exact i
theorem Iso.write1 (i : Iso g h f) (a b v : Int) : Iso g (h.write 1 a b v).1 f := by
  have hr := i.farRef a
  unfold GS.write
  by_cases c1 : codeAt (h.st 1) a = 10
  · rw [if_pos c1]; exact i
  rw [if_neg c1]
  by_cases c2 : refAt (h.st 1) a = 0
  · rw [if_pos c2]; exact i
  rw [if_neg c2]
  by_cases c3 : InL (h.dt (refAt (h.st 1) a - 1).toNat).length b
  · rw [if_pos c3]
    exact i.setD1 _ (by have := hr.1; omega) hr _ _
  · rw [if_neg c3]; exact i
theorem Iso.pop1 (i : Iso g h f) : Iso g (h.pop 1).1 f := by
  unfold GS.pop
  by_cases c1 : h.st 1 = []
  · rw [if_pos c1]; exact i
  · rw [if_neg c1]
    exact i.restack1 _ (fun r hr => i.far r (List.dropLast_subset _ hr))
theorem Iso.dup1 (i : Iso g h f) (a : Int) : Iso g (h.dup 1 a).1 f := by
  unfold GS.dup
  by_cases c1 : codeAt (h.st 1) a = 10
  · rw [if_pos c1]; exact i
  · rw [if_neg c1]; exact i.push1 _ (i.farRef a)
theorem Iso.alloc1 (i : Iso g h f) (a c : Int) : Iso g (h.alloc 1 a c).1 f := by
  unfold GS.alloc
  by_cases c1 : a < 0 ∨ c < 0 ∨ (h.max : Int) < a ∨ (h.max : Int) < c ∨ a + c = 0 ∨ (h.max : Int) ≤ a + c
  · rw [if_pos c1]; exact i
  rw [if_neg c1]
  by_cases hb : (h.st 1).length < h.bound
  rotate_left
  · rw [if_neg hb]; exact i
  rw [if_pos hb]
  have hm2 : ((h.m + 1 : Nat) : Int) = (h.m : Int) + 1 := by omega
  have hz : ∀ (n : Nat) (x : Int), x ∈ List.replicate n 0 → x = 0 := fun n x hx => (List.mem_replicate.1 hx).2
  have far' : ∀ x, Far g h f x → 0 ≤ x ∧ x ≤ ((h.m + 1 : Nat) : Int) ∧ ∀ s : Int, 1 ≤ s → s ≤ (g.m : Int) → x ≠ f s := fun x hx => ⟨hx.1, by have := hx.2.1; omega, hx.2.2⟩
  exact { i with
    rng := fun r r1 r2 => by
      have := i.rng r r1 r2
      show 1 ≤ f r ∧ f r ≤ ((h.m + 1 : Nat) : Int)
      omega
    st := by
      show upd h.st 1 (h.st 1 ++ [((h.m + 1 : Nat) : Int)]) 0 = _
      rw [upd_other _ _ (by decide)]
      exact i.st
    objR := fun r r1 r2 => by
      have := i.rng r r1 r2
      show upd h.rf h.m (List.replicate a.toNat 0) (f r - 1).toNat = _
      rw [upd_other _ _ (by omega)]
      exact i.objR r r1 r2
    objD := fun r r1 r2 => by
      have := i.rng r r1 r2
      show upd h.dt h.m (List.replicate c.toNat 0) (f r - 1).toNat = _
      rw [upd_other _ _ (by omega)]
      exact i.objD r r1 r2
    far := fun r hr => by
      have hr' : r ∈ upd h.st 1 (h.st 1 ++ [((h.m + 1 : Nat) : Int)]) 1 := hr
      rw [upd_same] at hr'
      rcases List.mem_append.1 hr' with h1 | h1
      · exact far' r (i.far r h1)
      · simp at h1
        refine ⟨by omega, by show r ≤ ((h.m + 1 : Nat) : Int); omega, fun s s1 s2 => ?_⟩
        have := i.rng s s1 s2
        omega
    farR := fun r r1 hr x hx => by
      have hx' : x ∈ upd h.rf h.m (List.replicate a.toNat 0) (r - 1).toNat := hx
      have h2 : r ≤ ((h.m + 1 : Nat) : Int) := hr.2.1
      by_cases e : r = (h.m : Int) + 1
      · rw [show (r - 1).toNat = h.m by omega, upd_same] at hx'
        rw [hz _ x hx']
        exact far' 0 i.farZero
      · rw [upd_other _ _ (by omega)] at hx'
        exact far' x (i.farR r r1 ⟨hr.1, by omega, hr.2.2⟩ x hx') }

theorem Iso.act1 (i : Iso g h f) (o : OpS) (hk : o.kind ≠ 13) : Iso g (h.act 1 o).g f := by
  obtain ⟨h1, h2, h3, h4, h5, h6, h7, h8, h9, h10, h11, h12, _, h14⟩ := act_k h 1 o
  by_cases ho : o.kind < 1 ∨ 13 < o.kind
  · rw [h14 ho]; exact i
  rcases kind_cases ho hk with e | e | e | e | e | e | e | e | e | e | e | e
  · rw [h1 e]; exact i.alloc1 _ _
  · rw [h2 e]; exact i.load1 _ _
  · rw [h3 e]; exact i.store1 _ _ _
  · rw [h4 e]; exact i
  · rw [h5 e]; exact i.write1 _ _ _
  · rw [h6 e]; exact i.push1 _ i.farZero
  · rw [h7 e]; exact i.pop1
  · rw [h8 e]; exact i.dup1 _
  · rw [h9 e]; split <;> exact i
  · rw [h10 e]; split <;> exact i
  · rw [h11 e]; exact i
  · rw [h12 e]; exact i

/-- counts are no part of it -/
theorem Iso.count0 (i : Iso g h f) (d : Int) : Iso { g with done := upd g.done 0 d } { h with done := upd h.done 0 d } f := { i with done := by show upd h.done 0 d 0 = upd g.done 0 d 0; rw [upd_same, upd_same] }
theorem Iso.count1 (i : Iso g h f) (d : Int) : Iso g { h with done := upd h.done 1 d } f := { i with done := by show upd h.done 1 d 0 = _; rw [upd_other _ _ (by decide)]; exact i.done }

theorem act_done (g : GS) (t : Nat) (o : OpS) : (g.act t o).g.done = g.done := (act_kept g t o).2.2.2.2

theorem Iso.run0 (i : Iso g h f) (hg : g.n = 2) (hh : h.n = 2) (o : OpS) (hk : o.kind ≠ 13) : (h.run 0 o).2 = (g.run 0 o).2 ∧ ∃ f', Iso (g.run 0 o).1 (h.run 0 o).1 f' := by
  unfold GS.run
  rw [if_pos (c := InL h.n 0) (by rw [hh]; exact ⟨by decide, by decide⟩), if_pos (c := InL g.n 0) (by rw [hg]; exact ⟨by decide, by decide⟩)]
  have := (i.count0 (g.done 0 + 1)).act0 o hk
  rw [show (0 : Int).toNat = 0 from rfl, i.done]
  obtain ⟨k1, k2, k3, f', k4⟩ := this
  exact ⟨by rw [k1, k2, k3], f', k4⟩
theorem Iso.run1 (i : Iso g h f) (hh : h.n = 2) (o : OpS) (hk : o.kind ≠ 13) : Iso g (h.run 1 o).1 f := by
  unfold GS.run
  rw [if_pos (by rw [hh]; exact ⟨by decide, by decide⟩)]
  exact (i.count1 (h.done 1 + 1)).act1 o hk
theorem iso_fresh (max bound n : Nat) : Iso (GS.fresh max bound n) (GS.fresh max bound n) (fun r => r) :=
  { max := rfl, bound := rfl, done := rfl, zero := rfl
    rng := fun r h1 h2 => by have : r ≤ ((0 : Nat) : Int) := h2; omega
    inj := fun r s _ _ _ _ e => e
    st := rfl
    stOk := fun r hr => by cases hr
    objR := fun r h1 h2 => by have : r ≤ ((0 : Nat) : Int) := h2; omega
    objD := fun r h1 h2 => by have : r ≤ ((0 : Nat) : Int) := h2; omega
    rfOk := fun r h1 h2 => by have : r ≤ ((0 : Nat) : Int) := h2; omega
    far := fun r hr => by cases hr
    farR := fun r h1 hr x hx => by cases hx }
end
end Go.Proofs.Ytcdllelbdcacjaa
