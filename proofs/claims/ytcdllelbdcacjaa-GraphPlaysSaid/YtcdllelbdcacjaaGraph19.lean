/-
  Graphs (layer 13): what other threads do is not seen by a thread that shares nothing with them: the plain law. No function of the program in sight.
-/
import Derived.Test.YtcdllelbdcacjaaGraph17
set_option linter.unusedVariables false
set_option linter.unusedSimpArgs false
namespace Go.Proofs.Ytcdllelbdcacjaa
open Go.RowKit Go.Maps

/-- none of the first thread's objects -/
def Far (g h : GS) (f : Int → Int) (r : Int) : Prop := 0 ≤ r ∧ r ≤ (h.m : Int) ∧ ∀ s : Int, 1 ≤ s → s ≤ (g.m : Int) → r ≠ f s

/-- the first thread sees the same in both, by other numbers; the second one sees nothing of it -/
structure Iso (g h : GS) (f : Int → Int) : Prop where
  max : h.max = g.max
  bound : h.bound = g.bound
  done : h.done 0 = g.done 0
  zero : f 0 = 0
  rng : ∀ r : Int, 1 ≤ r → r ≤ (g.m : Int) → 1 ≤ f r ∧ f r ≤ (h.m : Int)
  inj : ∀ r s : Int, 1 ≤ r → r ≤ (g.m : Int) → 1 ≤ s → s ≤ (g.m : Int) → f r = f s → r = s
  st : h.st 0 = (g.st 0).map f
  stOk : ∀ r, r ∈ g.st 0 → 0 ≤ r ∧ r ≤ (g.m : Int)
  objR : ∀ r : Int, 1 ≤ r → r ≤ (g.m : Int) → h.rf (f r - 1).toNat = (g.rf (r - 1).toNat).map f
  objD : ∀ r : Int, 1 ≤ r → r ≤ (g.m : Int) → h.dt (f r - 1).toNat = g.dt (r - 1).toNat
  rfOk : ∀ r : Int, 1 ≤ r → r ≤ (g.m : Int) → ∀ x, x ∈ g.rf (r - 1).toNat → 0 ≤ x ∧ x ≤ (g.m : Int)
  far : ∀ r, r ∈ h.st 1 → Far g h f r
  farR : ∀ r : Int, 1 ≤ r → Far g h f r → ∀ x, x ∈ h.rf (r - 1).toNat → Far g h f x

theorem codeAt_map (l : List Int) (f : Int → Int) (i : Int) : codeAt (l.map f) i = codeAt l i := by
  unfold codeAt; rw [List.length_map]
theorem getD_map (l : List Int) (f : Int → Int) (h0 : f 0 = 0) (k : Nat) : (l.map f).getD k 0 = f (l.getD k 0) := by
  rw [List.getD_eq_getElem?_getD, List.getD_eq_getElem?_getD, List.getElem?_map]
  cases l[k]? <;> simp [h0]
theorem refAt_map (l : List Int) (f : Int → Int) (h0 : f 0 = 0) (i : Int) : refAt (l.map f) i = f (refAt l i) := by
  unfold refAt; rw [List.length_map]
  split
  · exact getD_map l f h0 _
  · exact h0.symm
theorem refAt_mem (l : List Int) (i : Int) : refAt l i = 0 ∨ refAt l i ∈ l := by
  unfold refAt
  split
  · rename_i h
    obtain ⟨k, rfl, hk⟩ := inL_nat h
    right
    rw [Int.toNat_natCast, List.getD_eq_getElem?_getD, List.getElem?_eq_getElem hk]
    exact List.getElem_mem hk
  · exact .inl rfl
theorem getD_mem (l : List Int) (k : Nat) : l.getD k 0 = 0 ∨ l.getD k 0 ∈ l := by
  by_cases hk : k < l.length
  · right
    rw [List.getD_eq_getElem?_getD, List.getElem?_eq_getElem hk]
    exact List.getElem_mem hk
  · left
    rw [List.getD_eq_getElem?_getD, List.getElem?_eq_none (by omega)]
    rfl
theorem mem_set {l : List Int} {k : Nat} {y x : Int} (h : x ∈ l.set k y) : x ∈ l ∨ x = y := List.mem_or_eq_of_mem_set h

section
variable {g h : GS} {f : Int → Int}

theorem Iso.code (i : Iso g h f) (a : Int) : codeAt (h.st 0) a = codeAt (g.st 0) a := by rw [i.st]; exact codeAt_map _ _ _
theorem Iso.ref (i : Iso g h f) (a : Int) : refAt (h.st 0) a = f (refAt (g.st 0) a) := by rw [i.st]; exact refAt_map _ _ i.zero _
theorem Iso.refOk (i : Iso g h f) (a : Int) : 0 ≤ refAt (g.st 0) a ∧ refAt (g.st 0) a ≤ (g.m : Int) := by
  rcases refAt_mem (g.st 0) a with h1 | h1
  · rw [h1]; omega
  · exact i.stOk _ h1
theorem Iso.nil (i : Iso g h f) {r : Int} (hr : 0 ≤ r ∧ r ≤ (g.m : Int)) : f r = 0 ↔ r = 0 := by
  constructor
  · intro h0
    apply Classical.byContradiction
    intro hn
    have := i.rng r (by omega) hr.2
    omega
  · rintro rfl; exact i.zero
theorem Iso.eq (i : Iso g h f) {r s : Int} (hr : 0 ≤ r ∧ r ≤ (g.m : Int)) (hs : 0 ≤ s ∧ s ≤ (g.m : Int)) : f r = f s ↔ r = s := by
  constructor
  · intro e
    by_cases h0 : r = 0
    · rw [h0, i.zero] at e
      rw [h0, (i.nil hs).1 e.symm]
    · by_cases h1 : s = 0
      · rw [h1, i.zero] at e
        exact absurd ((i.nil hr).1 e) h0
      · exact i.inj r s (by omega) hr.2 (by omega) hs.2 e
  · rintro rfl; rfl
theorem Iso.len (i : Iso g h f) : (h.st 0).length = (g.st 0).length := by rw [i.st, List.length_map]
theorem Iso.farZero (i : Iso g h f) : Far g h f 0 := ⟨by omega, by omega, fun s h1 h2 e => by have := i.rng s h1 h2; omega⟩
theorem Iso.farRef (i : Iso g h f) (a : Int) : Far g h f (refAt (h.st 1) a) := by
  rcases refAt_mem (h.st 1) a with h1 | h1
  · rw [h1]; exact i.farZero
  · exact i.far _ h1

/-- the first thread's stack is another, in both -/
theorem Iso.restack (i : Iso g h f) (l : List Int) (hl : ∀ r, r ∈ l → 0 ≤ r ∧ r ≤ (g.m : Int)) : Iso { g with st := upd g.st 0 l } { h with st := upd h.st 0 (l.map f) } f :=
  { i with
    st := by show upd h.st 0 (l.map f) 0 = (upd g.st 0 l 0).map f; rw [upd_same, upd_same]
    stOk := fun r hr => hl r (by have hr' : r ∈ upd g.st 0 l 0 := hr; rwa [upd_same] at hr')
    far := fun r hr => i.far r (by have hr' : r ∈ upd h.st 0 (l.map f) 1 := hr; rwa [upd_other _ _ (by decide)] at hr') }
/-- the second thread's stack is another -/
theorem Iso.restack1 (i : Iso g h f) (l : List Int) (hl : ∀ r, r ∈ l → Far g h f r) : Iso g { h with st := upd h.st 1 l } f :=
  { i with
    st := by show upd h.st 1 l 0 = _; rw [upd_other _ _ (by decide)]; exact i.st
    far := fun r hr => hl r (by have hr' : r ∈ upd h.st 1 l 1 := hr; rwa [upd_same] at hr') }

theorem Iso.push (i : Iso g h f) (r : Int) (hr : 0 ≤ r ∧ r ≤ (g.m : Int)) : (h.push 0 (f r)).2 = (g.push 0 r).2 ∧ Iso (g.push 0 r).1 (h.push 0 (f r)).1 f := by
  unfold GS.push
  by_cases hb : (g.st 0).length < g.bound
  · rw [if_pos hb, if_pos (by rw [i.len, i.bound]; exact hb)]
    refine ⟨rfl, ?_⟩
    have := i.restack (g.st 0 ++ [r]) (fun x hx => by
      rcases List.mem_append.1 hx with h1 | h1
      · exact i.stOk x h1
      · simp at h1; subst h1; exact hr)
    rw [List.map_append, ← i.st] at this
    exact this
  · rw [if_neg hb, if_neg (by rw [i.len, i.bound]; exact hb)]
    exact ⟨rfl, i⟩
theorem Iso.push1 (i : Iso g h f) (r : Int) (hr : Far g h f r) : Iso g (h.push 1 r).1 f := by
  unfold GS.push
  split
  · exact i.restack1 _ (fun x hx => by
      rcases List.mem_append.1 hx with h1 | h1
      · exact i.far x h1
      · simp at h1; subst h1; exact hr)
  · exact i

/-- an object's references are others, in both -/
theorem Iso.setR (i : Iso g h f) (r : Int) (h1 : 1 ≤ r) (h2 : r ≤ (g.m : Int)) (k : Nat) (y : Int) (hy : 0 ≤ y ∧ y ≤ (g.m : Int)) :
    Iso { g with rf := upd g.rf (r - 1).toNat ((g.rf (r - 1).toNat).set k y) } { h with rf := upd h.rf (f r - 1).toNat ((h.rf (f r - 1).toNat).set k (f y)) } f := by
  have hrr := i.rng r h1 h2
  refine { i with
    objR := fun s s1 s2 => ?_
    rfOk := fun s s1 s2 x hx => ?_
    farR := fun s s1 s2 x hx => ?_ }
  · show upd h.rf (f r - 1).toNat ((h.rf (f r - 1).toNat).set k (f y)) (f s - 1).toNat = (upd g.rf (r - 1).toNat ((g.rf (r - 1).toNat).set k y) (s - 1).toNat).map f
    by_cases e : s = r
    · subst e
      rw [upd_same, upd_same, i.objR s s1 s2, List.map_set]
    · have hss := i.rng s s1 s2
      have hne : f s ≠ f r := fun e2 => e (i.inj s r s1 s2 h1 h2 e2)
      rw [upd_other _ _ (by omega), upd_other _ _ (by omega)]
      exact i.objR s s1 s2
  · have hx' : x ∈ upd g.rf (r - 1).toNat ((g.rf (r - 1).toNat).set k y) (s - 1).toNat := hx
    by_cases e : s = r
    · subst e
      rw [upd_same] at hx'
      rcases mem_set hx' with h3 | h3
      · exact i.rfOk s s1 s2 x h3
      · rw [h3]; exact hy
    · rw [upd_other _ _ (by omega)] at hx'
      exact i.rfOk s s1 s2 x hx'
  · have hx' : x ∈ upd h.rf (f r - 1).toNat ((h.rf (f r - 1).toNat).set k (f y)) (s - 1).toNat := hx
    have hne : s ≠ f r := s2.2.2 r h1 h2
    rw [upd_other _ _ (by omega)] at hx'
    exact i.farR s s1 s2 x hx'
theorem Iso.setD (i : Iso g h f) (r : Int) (h1 : 1 ≤ r) (h2 : r ≤ (g.m : Int)) (k : Nat) (y : Int) :
    Iso { g with dt := upd g.dt (r - 1).toNat ((g.dt (r - 1).toNat).set k y) } { h with dt := upd h.dt (f r - 1).toNat ((h.dt (f r - 1).toNat).set k y) } f := by
  have hrr := i.rng r h1 h2
  refine { i with objD := fun s s1 s2 => ?_ }
  show upd h.dt (f r - 1).toNat ((h.dt (f r - 1).toNat).set k y) (f s - 1).toNat = upd g.dt (r - 1).toNat ((g.dt (r - 1).toNat).set k y) (s - 1).toNat
  by_cases e : s = r
  · subst e
    rw [upd_same, upd_same, i.objD s s1 s2]
  · have hss := i.rng s s1 s2
    have hne : f s ≠ f r := fun e2 => e (i.inj s r s1 s2 h1 h2 e2)
    rw [upd_other _ _ (by omega), upd_other _ _ (by omega)]
    exact i.objD s s1 s2
/-- one of the second thread's objects -/
theorem Iso.setR1 (i : Iso g h f) (r : Int) (h1 : 1 ≤ r) (hr : Far g h f r) (k : Nat) (y : Int) (hy : Far g h f y) : Iso g { h with rf := upd h.rf (r - 1).toNat ((h.rf (r - 1).toNat).set k y) } f := by
  refine { i with
    objR := fun s s1 s2 => ?_
    farR := fun s s1 s2 x hx => ?_ }
  · show upd h.rf (r - 1).toNat ((h.rf (r - 1).toNat).set k y) (f s - 1).toNat = _
    have hne := hr.2.2 s s1 s2
    have := i.rng s s1 s2
    rw [upd_other _ _ (by omega)]
    exact i.objR s s1 s2
  · have hx' : x ∈ upd h.rf (r - 1).toNat ((h.rf (r - 1).toNat).set k y) (s - 1).toNat := hx
    by_cases e : s = r
    · subst e
      rw [upd_same] at hx'
      rcases mem_set hx' with h3 | h3
      · exact i.farR s s1 hr x h3
      · rw [h3]; exact hy
    · rw [upd_other _ _ (by omega)] at hx'
      exact i.farR s s1 s2 x hx'
theorem Iso.setD1 (i : Iso g h f) (r : Int) (h1 : 1 ≤ r) (hr : Far g h f r) (k : Nat) (y : Int) : Iso g { h with dt := upd h.dt (r - 1).toNat ((h.dt (r - 1).toNat).set k y) } f := by
  refine { i with objD := fun s s1 s2 => ?_ }
  show upd h.dt (r - 1).toNat ((h.dt (r - 1).toNat).set k y) (f s - 1).toNat = _
  have hne := hr.2.2 s s1 s2
  have := i.rng s s1 s2
  rw [upd_other _ _ (by omega)]
  exact i.objD s s1 s2

theorem Iso.load (i : Iso g h f) (a b : Int) : (h.load 0 a b).2 = (g.load 0 a b).2 ∧ Iso (g.load 0 a b).1 (h.load 0 a b).1 f := by
  have hr := i.refOk a
  unfold GS.load
  rw [i.code, i.ref]
  by_cases c1 : codeAt (g.st 0) a = 10
  · rw [if_pos c1, if_pos c1]; exact ⟨rfl, i⟩
  rw [if_neg c1, if_neg c1]
  by_cases c2 : refAt (g.st 0) a = 0
  · rw [if_pos c2, if_pos ((i.nil hr).2 c2)]; exact ⟨rfl, i⟩
  rw [if_neg c2, if_neg (fun e => c2 ((i.nil hr).1 e))]
  have e := i.objR (refAt (g.st 0) a) (by omega) hr.2
  rw [e, List.length_map]
  by_cases c3 : InL (g.rf (refAt (g.st 0) a - 1).toNat).length b
  · rw [if_pos c3, if_pos c3, getD_map _ _ i.zero]
    refine i.push _ ?_
    rcases getD_mem (g.rf (refAt (g.st 0) a - 1).toNat) b.toNat with h1 | h1
    · rw [h1]; omega
    · exact i.rfOk _ (by omega) hr.2 _ h1
  · rw [if_neg c3, if_neg c3]; exact ⟨rfl, i⟩
theorem Iso.store (i : Iso g h f) (a b c : Int) : (h.store 0 a b c).2 = (g.store 0 a b c).2 ∧ Iso (g.store 0 a b c).1 (h.store 0 a b c).1 f := by
  have hr := i.refOk a
  unfold GS.store
  rw [i.code, i.code, i.ref, i.ref]
  by_cases c0 : codeAt (g.st 0) c = 10
  · rw [if_pos c0, if_pos c0]; exact ⟨rfl, i⟩
  rw [if_neg c0, if_neg c0]
  by_cases c1 : codeAt (g.st 0) a = 10
  · rw [if_pos c1, if_pos c1]; exact ⟨rfl, i⟩
  rw [if_neg c1, if_neg c1]
  by_cases c2 : refAt (g.st 0) a = 0
  · rw [if_pos c2, if_pos ((i.nil hr).2 c2)]; exact ⟨rfl, i⟩
  rw [if_neg c2, if_neg (fun e => c2 ((i.nil hr).1 e))]
  have e := i.objR (refAt (g.st 0) a) (by omega) hr.2
  have el : (h.rf (f (refAt (g.st 0) a) - 1).toNat).length = (g.rf (refAt (g.st 0) a - 1).toNat).length := by rw [e, List.length_map]
  rw [el]
  by_cases c3 : InL (g.rf (refAt (g.st 0) a - 1).toNat).length b
  · rw [if_pos c3, if_pos c3]
    exact ⟨rfl, i.setR _ (by omega) hr.2 _ _ (i.refOk c)⟩
  · rw [if_neg c3, if_neg c3]; exact ⟨rfl, i⟩
theorem Iso.read (i : Iso g h f) (a b : Int) : h.read 0 a b = g.read 0 a b := by
  have hr := i.refOk a
  unfold GS.read
  rw [i.code, i.ref]
  by_cases c1 : codeAt (g.st 0) a = 10
  · rw [if_pos c1, if_pos c1]
  rw [if_neg c1, if_neg c1]
  by_cases c2 : refAt (g.st 0) a = 0
  · rw [if_pos c2, if_pos ((i.nil hr).2 c2)]
  rw [if_neg c2, if_neg (fun e => c2 ((i.nil hr).1 e)), i.objD (refAt (g.st 0) a) (by omega) hr.2]
theorem Iso.write (i : Iso g h f) (a b v : Int) : (h.write 0 a b v).2 = (g.write 0 a b v).2 ∧ Iso (g.write 0 a b v).1 (h.write 0 a b v).1 f := by
  have hr := i.refOk a
  unfold GS.write
  rw [i.code, i.ref]
  by_cases c1 : codeAt (g.st 0) a = 10
  · rw [if_pos c1, if_pos c1]; exact ⟨rfl, i⟩
  rw [if_neg c1, if_neg c1]
  by_cases c2 : refAt (g.st 0) a = 0
  · rw [if_pos c2, if_pos ((i.nil hr).2 c2)]; exact ⟨rfl, i⟩
  rw [if_neg c2, if_neg (fun e => c2 ((i.nil hr).1 e))]
  have el : (h.dt (f (refAt (g.st 0) a) - 1).toNat).length = (g.dt (refAt (g.st 0) a - 1).toNat).length := by rw [i.objD (refAt (g.st 0) a) (by omega) hr.2]
  rw [el]
  by_cases c3 : InL (g.dt (refAt (g.st 0) a - 1).toNat).length b
  · rw [if_pos c3, if_pos c3]
    exact ⟨rfl, i.setD _ (by omega) hr.2 _ _⟩
  · rw [if_neg c3, if_neg c3]; exact ⟨rfl, i⟩
theorem Iso.pop (i : Iso g h f) : (h.pop 0).2 = (g.pop 0).2 ∧ Iso (g.pop 0).1 (h.pop 0).1 f := by
  unfold GS.pop
  by_cases c1 : g.st 0 = []
  · rw [if_pos c1, if_pos (by rw [i.st, c1]; rfl)]; exact ⟨rfl, i⟩
  · rw [if_neg c1, if_neg (by rw [i.st]; simpa using c1)]
    refine ⟨rfl, ?_⟩
    have := i.restack (g.st 0).dropLast (fun r hr => i.stOk r (List.dropLast_subset _ hr))
    rw [List.map_dropLast, ← i.st] at this
    exact this
theorem Iso.dup (i : Iso g h f) (a : Int) : (h.dup 0 a).2 = (g.dup 0 a).2 ∧ Iso (g.dup 0 a).1 (h.dup 0 a).1 f := by
  unfold GS.dup
  rw [i.code, i.ref]
  by_cases c1 : codeAt (g.st 0) a = 10
  · rw [if_pos c1, if_pos c1]; exact ⟨rfl, i⟩
  · rw [if_neg c1, if_neg c1]
    exact i.push _ (i.refOk a)

theorem Iso.alloc (i : Iso g h f) (a c : Int) : (h.alloc 0 a c).2 = (g.alloc 0 a c).2 ∧ ∃ f', Iso (g.alloc 0 a c).1 (h.alloc 0 a c).1 f' := by
  unfold GS.alloc
  by_cases c1 : a < 0 ∨ c < 0 ∨ (g.max : Int) < a ∨ (g.max : Int) < c ∨ a + c = 0 ∨ (g.max : Int) ≤ a + c
  · rw [if_pos c1, if_pos (by rw [i.max]; exact c1)]; exact ⟨rfl, f, i⟩
  rw [if_neg c1, if_neg (by rw [i.max]; exact c1)]
  by_cases hb : (g.st 0).length < g.bound
  rotate_left
  · rw [if_neg hb, if_neg (by rw [i.len, i.bound]; exact hb)]; exact ⟨rfl, f, i⟩
  rw [if_pos hb, if_pos (by rw [i.len, i.bound]; exact hb)]
  refine ⟨rfl, fun r => if r = (g.m : Int) + 1 then (h.m : Int) + 1 else f r, ?_⟩
  have old : ∀ r : Int, r ≤ (g.m : Int) → (if r = (g.m : Int) + 1 then (h.m : Int) + 1 else f r) = f r := fun r hr => if_neg (by omega)
  have new : (if (g.m : Int) + 1 = (g.m : Int) + 1 then (h.m : Int) + 1 else f ((g.m : Int) + 1)) = (h.m : Int) + 1 := if_pos rfl
  have oldm : ∀ l : List Int, (∀ r, r ∈ l → 0 ≤ r ∧ r ≤ (g.m : Int)) → l.map (fun r => if r = (g.m : Int) + 1 then (h.m : Int) + 1 else f r) = l.map f := fun l hl => List.map_congr_left (fun r hr => old r (hl r hr).2)
  have hm1 : ((g.m + 1 : Nat) : Int) = (g.m : Int) + 1 := by omega
  have hm2 : ((h.m + 1 : Nat) : Int) = (h.m : Int) + 1 := by omega
  have hz : ∀ (n : Nat) (x : Int), x ∈ List.replicate n 0 → x = 0 := fun n x hx => (List.mem_replicate.1 hx).2
  have far' : ∀ x, Far g h f x → 0 ≤ x ∧ x ≤ ((h.m + 1 : Nat) : Int) ∧ ∀ s : Int, 1 ≤ s → s ≤ ((g.m + 1 : Nat) : Int) → x ≠ (if s = (g.m : Int) + 1 then (h.m : Int) + 1 else f s) := fun x hx => by
    refine ⟨hx.1, by have := hx.2.1; omega, fun s s1 s2 => ?_⟩
    by_cases e : s = (g.m : Int) + 1
    · rw [if_pos e]; have := hx.2.1; omega
    · rw [if_neg e]; exact hx.2.2 s s1 (by omega)
  exact {
    max := i.max, bound := i.bound, done := i.done
    zero := (old 0 (by omega)).trans i.zero
    rng := fun r r1 r2 => by
      show 1 ≤ (if r = (g.m : Int) + 1 then (h.m : Int) + 1 else f r) ∧ (if r = (g.m : Int) + 1 then (h.m : Int) + 1 else f r) ≤ ((h.m + 1 : Nat) : Int)
      by_cases e : r = (g.m : Int) + 1
      · rw [if_pos e]; omega
      · rw [if_neg e]
        have := i.rng r r1 (by have : r ≤ ((g.m + 1 : Nat) : Int) := r2; omega)
        omega
    inj := fun r s r1 r2 s1 s2 e => by
      have r2' : r ≤ ((g.m + 1 : Nat) : Int) := r2
      have s2' : s ≤ ((g.m + 1 : Nat) : Int) := s2
      by_cases er : r = (g.m : Int) + 1
      · by_cases es : s = (g.m : Int) + 1
        · omega
        · simp only [if_pos er, if_neg es] at e
          have := i.rng s s1 (by omega)
          omega
      · by_cases es : s = (g.m : Int) + 1
        · simp only [if_neg er, if_pos es] at e
          have := i.rng r r1 (by omega)
          omega
        · simp only [if_neg er, if_neg es] at e
          exact i.inj r s r1 (by omega) s1 (by omega) e
    st := by
      show upd h.st 0 (h.st 0 ++ [((h.m + 1 : Nat) : Int)]) 0 = (upd g.st 0 (g.st 0 ++ [((g.m + 1 : Nat) : Int)]) 0).map _
      rw [upd_same, upd_same, List.map_append, oldm _ i.stOk, ← i.st, hm1, hm2]
      simp
    stOk := fun r hr => by
      have hr' : r ∈ upd g.st 0 (g.st 0 ++ [((g.m + 1 : Nat) : Int)]) 0 := hr
      rw [upd_same] at hr'
      show 0 ≤ r ∧ r ≤ ((g.m + 1 : Nat) : Int)
      rcases List.mem_append.1 hr' with h1 | h1
      · have := i.stOk r h1; omega
      · simp at h1; omega
    objR := fun r r1 r2 => by
      have r2' : r ≤ ((g.m + 1 : Nat) : Int) := r2
      show upd h.rf h.m (List.replicate a.toNat 0) ((if r = (g.m : Int) + 1 then (h.m : Int) + 1 else f r) - 1).toNat = (upd g.rf g.m (List.replicate a.toNat 0) (r - 1).toNat).map _
      by_cases e : r = (g.m : Int) + 1
      · rw [if_pos e, show ((h.m : Int) + 1 - 1).toNat = h.m by omega, show (r - 1).toNat = g.m by omega, upd_same, upd_same, oldm _ (fun x hx => by rw [hz _ x hx]; omega)]
        rw [List.map_replicate, i.zero]
      · rw [if_neg e]
        have := i.rng r r1 (by omega)
        rw [upd_other _ _ (by omega), upd_other _ _ (by omega), oldm _ (i.rfOk r r1 (by omega))]
        exact i.objR r r1 (by omega)
    objD := fun r r1 r2 => by
      have r2' : r ≤ ((g.m + 1 : Nat) : Int) := r2
      show upd h.dt h.m (List.replicate c.toNat 0) ((if r = (g.m : Int) + 1 then (h.m : Int) + 1 else f r) - 1).toNat = upd g.dt g.m (List.replicate c.toNat 0) (r - 1).toNat
      by_cases e : r = (g.m : Int) + 1
      · rw [if_pos e, show ((h.m : Int) + 1 - 1).toNat = h.m by omega, show (r - 1).toNat = g.m by omega, upd_same, upd_same]
      · rw [if_neg e]
        have := i.rng r r1 (by omega)
        rw [upd_other _ _ (by omega), upd_other _ _ (by omega)]
        exact i.objD r r1 (by omega)
    rfOk := fun r r1 r2 x hx => by
      have r2' : r ≤ ((g.m + 1 : Nat) : Int) := r2
      have hx' : x ∈ upd g.rf g.m (List.replicate a.toNat 0) (r - 1).toNat := hx
      show 0 ≤ x ∧ x ≤ ((g.m + 1 : Nat) : Int)
      by_cases e : r = (g.m : Int) + 1
      · rw [show (r - 1).toNat = g.m by omega, upd_same] at hx'
        rw [hz _ x hx']; omega
      · rw [upd_other _ _ (by omega)] at hx'
        have := i.rfOk r r1 (by omega) x hx'
        omega
    far := fun r hr => by
      have hr' : r ∈ upd h.st 0 (h.st 0 ++ [((h.m + 1 : Nat) : Int)]) 1 := hr
      rw [upd_other _ _ (by decide)] at hr'
      exact far' r (i.far r hr')
    farR := fun r r1 hr x hx => by
      have hx' : x ∈ upd h.rf h.m (List.replicate a.toNat 0) (r - 1).toNat := hx
      have h2 : r ≤ ((h.m + 1 : Nat) : Int) := hr.2.1
      have h3 : r ≠ (h.m : Int) + 1 := fun e => hr.2.2 ((g.m : Int) + 1) (by omega) (by show (g.m : Int) + 1 ≤ ((g.m + 1 : Nat) : Int); omega) (by show r = (if (g.m : Int) + 1 = (g.m : Int) + 1 then (h.m : Int) + 1 else f ((g.m : Int) + 1)); rw [new]; exact e)
      rw [upd_other _ _ (by omega)] at hx'
      refine far' x (i.farR r r1 ⟨hr.1, by omega, fun s s1 s2 e => ?_⟩ x hx')
      exact hr.2.2 s s1 (by show s ≤ ((g.m + 1 : Nat) : Int); omega) (by show r = (if s = (g.m : Int) + 1 then (h.m : Int) + 1 else f s); rw [old s s2]; exact e) }
end
end Go.Proofs.Ytcdllelbdcacjaa
