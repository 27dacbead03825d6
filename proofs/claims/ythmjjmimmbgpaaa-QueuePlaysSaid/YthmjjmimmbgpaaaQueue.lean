/-
  Queues of cards (layer 10): the predicate, and the short calls.
-/
import Derived.Test.YthmjjmimmbgpaaaSlice
import Derived.Test.YthmjjmimmbgpaaaSame
import Derived.Test.YthmjjmimmbgpaaaInts
import Derived.Deep.RegionHeld3
import Derived.Deep.AppendLies
set_option linter.unusedVariables false
set_option linter.unusedSimpArgs false
namespace Go.Proofs.Ythmjjmimmbgpaaa
open Go.RowKit

theorem addr_ne {b b' o o' : Nat} (h : b ≠ b') : (⟨b, o, none⟩ : Addr) ≠ ⟨b', o', none⟩ := fun e => h (by injection e)

/-- whole numbers as cells -/
def cs (l : List Int) : List Value := l.map (Value.int .i64)
theorem cs_one (l : List Int) : ∀ u ∈ cs l, u.oneCell' = true := by
  intro u hu
  unfold cs at hu
  rw [List.mem_map] at hu
  obtain ⟨x, _, rfl⟩ := hu
  rfl
theorem cs_len (l : List Int) : (cs l).length = l.length := by simp [cs]

theorem Sl.drop {w : World} {base : Nat} {e : TypeId} {g o n cap : Nat} {xs : List Value} (h : Sl w base e (.slice (some ⟨g, o, none⟩) n cap) xs) (r : Nat) (hr : r ≤ n) : Sl w base e (.slice (some ⟨g, o + r, none⟩) (n - r) (cap - r)) (xs.drop r) := by
  rcases h with ⟨h1, _⟩ | ⟨g', o', cap', cur, h1, h2, h3, h4, h5, h6, h7⟩
  · cases h1
  · injection h1 with e1 e2 e3
    injection e1 with e4
    injection e4 with e5 e6 _
    subst e5 e6 e2 e3
    refine .inr ⟨g, o + r, cap - r, cur, by rw [List.length_drop], h2, h3, by rw [List.length_drop]; omega, by omega, by omega, fun j hj => ?_⟩
    rw [List.length_drop] at hj
    rw [List.getElem?_drop, ← h7 (r + j) (by omega)]
    congr 1
    omega
theorem Sl.dropAll {w : World} {base : Nat} {e : TypeId} {g o n cap : Nat} {xs : List Value} (h : Sl w base e (.slice (some ⟨g, o, none⟩) n cap) xs) : Sl w base e (.slice (some ⟨g, o, none⟩) 0 0) [] := by
  rcases h with ⟨h1, _⟩ | ⟨g', o', cap', cur, h1, h2, h3, h4, h5, h6, h7⟩
  · cases h1
  · injection h1 with e1 e2 e3
    injection e1 with e4
    injection e4 with e5 e6 _
    subst e5 e6 e2 e3
    exact .inr ⟨g, o, 0, cur, rfl, h2, h3, by simp, by omega, by omega, fun j hj => by simp at hj⟩
theorem Sl.reads {w : World} {base : Nat} {e : TypeId} {v : Value} {l : List Int} (h : Sl w base e v (cs l)) : Reads w v l := by
  rcases h with ⟨rfl, h2⟩ | ⟨g, o, cap, cur, rfl, hb, hg, hn, hm, hs, hc⟩
  · have : l = [] := by simpa [cs] using h2
    subst this
    exact ⟨none, 0, rfl, .inl rfl⟩
  · rw [cs_len] at hc ⊢
    refine ⟨_, cap, rfl, .inr ⟨g, o, rfl, (Array.getElem?_eq_some_iff.1 hg).1, fun j hj => ?_⟩⟩
    have := hc j hj
    simp [World.cell?, hg, this, cs, hj]

theorem Sl.src {w : World} {base : Nat} {e : TypeId} {v : Value} {l : List Int} (h : Sl w base e v (cs l)) : Src w v l := by
  rcases h with ⟨rfl, h2⟩ | ⟨g, o, cap, cur, rfl, hb, hg, hn, hm, hs, hc⟩
  · have : l = [] := by simpa [cs] using h2
    subst this
    exact .inl ⟨rfl, rfl⟩
  · rw [cs_len] at hc ⊢
    refine .inr ⟨g, o, cap, rfl, (Array.getElem?_eq_some_iff.1 hg).1, fun j hj => ?_⟩
    have := hc j hj
    simp [World.cell?, hg, this, cs, hj]

/-- the blocks of a queue -/
def QB (p o n : Nat) (cv : Value) (V : Nat → Value) (k : Nat) : Prop := k = p ∨ k = o ∨ cv.ownBlock = some k ∨ ∃ t, t < n ∧ (V t).ownBlock = some k

/-- a queue: its struct is block p, its threads' lists stand in block o, the common list is cv -/
structure QAt (w : World) (p o n bound : Nat) (cv : Value) (C : List Int) (V : Nat → Value) (L : Nat → List Int) : Prop where
  bnd : w.cell? ⟨p, 0, none⟩ = some (.int .i64 bound)
  com : w.cell? ⟨p, 1, none⟩ = some cv
  own : w.cell? ⟨p, 2, none⟩ = some (.slice (some ⟨o, 0, none⟩) n n)
  fz : w.frozen? ⟨p, 1, none⟩ = false
  row : w.rowIs o 38 n V
  csl : Sl w 0 3 cv (cs C)
  lists : ∀ t, t < n → OwnInts 0 w (V t) (L t)
  clen : C.length ≤ bound
  bmax : bound ≤ 65536
  n1 : 1 ≤ n
  n64 : n ≤ 64
  po : p ≠ o
  cp : cv.ownBlock ≠ some p
  co : cv.ownBlock ≠ some o
  vp : ∀ t, t < n → (V t).ownBlock ≠ some p
  vo : ∀ t, t < n → (V t).ownBlock ≠ some o
  vc : ∀ t, t < n → ∀ g, (V t).ownBlock = some g → cv.ownBlock ≠ some g
  vv : ∀ s t, s < n → t < n → s ≠ t → ∀ g, (V s).ownBlock = some g → (V t).ownBlock ≠ some g

section
variable {w w' : World} {p o n bound : Nat} {cv : Value} {C : List Int} {V : Nat → Value} {L : Nat → List Int}
theorem QAt.lt (h : QAt w p o n bound cv C V L) : ∀ k, QB p o n cv V k → k < w.heap.size := by
  rintro k (rfl | rfl | hk | ⟨t, ht, hk⟩)
  · exact cell_lt h.bnd
  · exact h.row.lt
  · exact (h.csl.lt k hk).2
  · exact ((h.lists t ht).lt k hk).2
theorem QAt.chg {S : Nat → Prop} (h : QAt w p o n bound cv C V L) (c : Chg S w w') (hn : ∀ k, QB p o n cv V k → ¬ S k) : QAt w' p o n bound cv C V L :=
  have hp : ¬ S p := hn p (.inl rfl)
  have ho : ¬ S o := hn o (.inr (.inl rfl))
  have hpl : p < w.heap.size := cell_lt h.bnd
  { h with
    bnd := (c.cell hpl hp).trans h.bnd
    com := (c.cell hpl hp).trans h.com
    own := (c.cell hpl hp).trans h.own
    fz := (c.frozen hpl hp).trans h.fz
    row := c.row h.row ho
    csl := h.csl.chg c (fun k hk => hn k (.inr (.inr (.inl hk))))
    lists := fun t ht => (h.lists t ht).chg c (fun k hk => hn k (.inr (.inr (.inr ⟨t, ht, hk⟩)))) }
theorem QAt.quiet (h : QAt w p o n bound cv C V L) (c : Chg (fun _ => False) w w') : QAt w' p o n bound cv C V L := h.chg c (by simp)
/-- the common list's length, as the walk reads it -/
theorem QAt.shape (h : QAt w p o n bound cv C V L) : ∃ (A : Option Addr) (c : Nat), cv = .slice A C.length c ∧ C.length ≤ c := by
  obtain ⟨A, c, h1, h2⟩ := h.csl.shape
  rw [cs_len] at h1 h2
  exact ⟨A, c, h1, h2⟩
end

theorem infoInts : (Try.prog.info? 38).map (fun i => (i.zero, i.size, i.bytes)) = some (some (.slice none 0 0), 1, 24) := by kernel_rfl

theorem queue_len (w : World) (p o n bound : Nat) (cv : Value) (C : List Int) (V : Nat → Value) (L : Nat → List Int) (h : QAt w p o n bound cv C V L) :
    Calls Try.prog 20 #[.pointer (some ⟨p, 0, none⟩)] w fun e w' => e = .returned (.int .i64 C.length) ∧ w = w' := by
  obtain ⟨A, c, rfl, _⟩ := h.shape
  have h1 := h.com
  clear h
  go_enter Try.func20, Try.ntmps20
  go_wp2
  go_ret
  exact ⟨rfl, rfl⟩
theorem queue_len_nil (w : World) :
    Calls Try.prog 20 #[.pointer none] w fun e w' => e = .returned (.int .i64 0) ∧ w = w' := by
  go_enter Try.func20, Try.ntmps20
  go_wp2
  go_ret
  exact ⟨rfl, rfl⟩

theorem queue_pop_nil (w : World) :
    Calls Try.prog 13 #[.pointer none] w fun e w' => e = .returned (.tuple #[.int .i64 0, .int .i64 1]) ∧ w = w' := by
  go_enter Try.func13, Try.ntmps13
  go_wp2
  go_ret2
  exact ⟨rfl, rfl⟩
theorem queue_pop_none (w : World) (p o n bound : Nat) (cv : Value) (V : Nat → Value) (L : Nat → List Int) (h : QAt w p o n bound cv [] V L) :
    Calls Try.prog 13 #[.pointer (some ⟨p, 0, none⟩)] w fun e w' => e = .returned (.tuple #[.int .i64 0, .int .i64 5]) ∧ w = w' := by
  obtain ⟨A, c, rfl, _⟩ := h.shape
  have h1 := h.com
  clear h
  go_enter Try.func13, Try.ntmps13
  go_wp2
  go_ret2
  exact ⟨rfl, rfl⟩

/-- a queue behind a store of its common list -/
theorem QAt.recommon {w w3 : World} {p o n bound : Nat} {cv : Value} {C : List Int} {V : Nat → Value} {L : Nat → List Int} (h : QAt w p o n bound cv C V L) (c : Chg (fun k => cv.ownBlock = some k) w w3) (cv' : Value) (C' : List Int) (hs : Sl w3 0 3 cv' (cs C')) (hl : C'.length ≤ bound)
    (hb : cv'.ownBlock = cv.ownBlock ∨ ∀ g, cv'.ownBlock = some g → w.heap.size ≤ g) : QAt (w3.setCell ⟨p, 1, none⟩ cv') p o n bound cv' C' V L :=
  have hpl : p < w.heap.size := cell_lt h.bnd
  have hb' : ∀ g, cv'.ownBlock = some g → g ≠ p ∧ g ≠ o ∧ ∀ t, t < n → (V t).ownBlock ≠ some g := fun g hg => by
    rcases hb with hb | hb
    · rw [hb] at hg
      exact ⟨fun e => h.cp (by rw [← e]; exact hg), fun e => h.co (by rw [← e]; exact hg), fun t ht e => h.vc t ht g e hg⟩
    · have h1 := hb g hg
      exact ⟨fun e => by omega, fun e => by have := h.row.lt; omega, fun t ht e => by have := ((h.lists t ht).lt g e).2; omega⟩
  have hc : Chg (· = p) w3 (w3.setCell ⟨p, 1, none⟩ cv') := by (repeat (first | with_reducible exact Chg.refl _ _ | with_reducible apply Chg.drewN | with_reducible apply Chg.drew | with_reducible apply Chg.alloc | (with_reducible refine Chg.setCell ?_ ?_ _; rotate_left; focus (first | (refine Or.inr ?_; first | omega | (simp; done) | (simp; omega)) | exact Or.inl (by assumption) | with_reducible exact Or.inl rfl | exact Or.inl (by simp))) | refine Chg.trans ?_ (Chg.of_below (by with_reducible assumption) (fun k h1 h2 => absurd h1 (by first | omega | (simp; omega)))) | refine Chg.trans ?_ (by with_reducible assumption)))
  have hcom : w3.cell? ⟨p, 1, none⟩ = some cv := (c.cell hpl h.cp).trans h.com
  { h with
    bnd := by rw [World.cell?_setCell_other _ _ _ _ (by simp)]; exact (c.cell hpl h.cp).trans h.bnd
    com := World.cell?_setCell_same' _ _ _ (by rw [hcom]; rfl)
    own := by rw [World.cell?_setCell_other _ _ _ _ (by simp)]; exact (c.cell hpl h.cp).trans h.own
    fz := by rw [World.frozen?_setCell]; exact (c.frozen hpl h.cp).trans h.fz
    row := hc.row (c.row h.row h.co) (fun e => h.po e.symm)
    csl := hs.chg hc (fun k hk e => (hb' k hk).1 e)
    lists := fun t ht => ((h.lists t ht).chg c (fun k hk => h.vc t ht k hk)).chg hc (fun k hk e => by have e' : k = p := e; subst e'; exact h.vp t ht hk)
    clen := hl
    cp := fun e => (hb' p e).1 rfl
    co := fun e => (hb' o e).2.1 rfl
    vc := fun t ht g hg e => (hb' g e).2.2 t ht hg }

/-- one place of a row becomes another -/
def upd {α : Type} (f : Nat → α) (t : Nat) (x : α) : Nat → α := fun s => if s = t then x else f s
theorem upd_same {α : Type} (f : Nat → α) (t : Nat) (x : α) : upd f t x t = x := if_pos rfl
theorem upd_other {α : Type} (f : Nat → α) {s t : Nat} (x : α) (h : ¬ s = t) : upd f t x s = f s := if_neg h

/-- a queue behind a store of a thread's list -/
theorem QAt.relist {w w1 : World} {p o n bound : Nat} {cv : Value} {C : List Int} {V : Nat → Value} {L : Nat → List Int} (h : QAt w p o n bound cv C V L) (t : Nat) (ht : t < n) (c : Chg (fun k => (V t).ownBlock = some k) w w1) (v' : Value) (l' : List Int) (hs : OwnInts 0 w1 v' l')
    (hb : ∀ g, v'.ownBlock = some g → (V t).ownBlock = some g ∨ w.heap.size ≤ g) : QAt (w1.setCell ⟨o, t, none⟩ v') p o n bound cv C (upd V t v') (upd L t l') :=
  have hpl : p < w.heap.size := cell_lt h.bnd
  have hb' : ∀ g, v'.ownBlock = some g → g ≠ p ∧ g ≠ o ∧ cv.ownBlock ≠ some g ∧ ∀ s, s < n → ¬ s = t → (V s).ownBlock ≠ some g := fun g hg => by
    rcases hb g hg with hb | hb
    · exact ⟨fun e => h.vp t ht (by rw [← e]; exact hb), fun e => h.vo t ht (by rw [← e]; exact hb), h.vc t ht g hb, fun s hs hn e => h.vv s t hs ht hn g e hb⟩
    · exact ⟨fun e => by omega, fun e => by have := h.row.lt; omega, fun e => by have := (h.csl.lt g e).2; omega, fun s hs _ e => by have := ((h.lists s hs).lt g e).2; omega⟩
  have hc : Chg (· = o) w1 (w1.setCell ⟨o, t, none⟩ v') := by (repeat (first | with_reducible exact Chg.refl _ _ | with_reducible apply Chg.drewN | with_reducible apply Chg.drew | with_reducible apply Chg.alloc | (with_reducible refine Chg.setCell ?_ ?_ _; rotate_left; focus (first | (refine Or.inr ?_; first | omega | (simp; done) | (simp; omega)) | exact Or.inl (by assumption) | with_reducible exact Or.inl rfl | exact Or.inl (by simp))) | refine Chg.trans ?_ (Chg.of_below (by with_reducible assumption) (fun k h1 h2 => absurd h1 (by first | omega | (simp; omega)))) | refine Chg.trans ?_ (by with_reducible assumption)))
  have hvp : ¬ (V t).ownBlock = some p := h.vp t ht
  { h with
    bnd := by rw [World.cell?_setCell_other _ _ _ _ (addr_ne (fun e => h.po e.symm))]; exact (c.cell hpl hvp).trans h.bnd
    com := by rw [World.cell?_setCell_other _ _ _ _ (addr_ne (fun e => h.po e.symm))]; exact (c.cell hpl hvp).trans h.com
    own := by rw [World.cell?_setCell_other _ _ _ _ (addr_ne (fun e => h.po e.symm))]; exact (c.cell hpl hvp).trans h.own
    fz := by rw [World.frozen?_setCell]; exact (c.frozen hpl hvp).trans h.fz
    row := (c.row h.row (h.vo t ht)).set t v'
    csl := (h.csl.chg c (fun k hk e => h.vc t ht k e hk)).chg hc (fun k hk e => by have e' : k = o := e; subst e'; exact h.co hk)
    lists := fun s hs' => by
      by_cases e : s = t
      · subst e
        rw [upd_same, upd_same]
        exact hs.chg hc (fun k hk e => (hb' k hk).2.1 e)
      · rw [upd_other _ _ e, upd_other _ _ e]
        exact ((h.lists s hs').chg c (fun k hk e2 => h.vv s t hs' ht e k hk e2)).chg hc (fun k hk e2 => by have e' : k = o := e2; subst e'; exact h.vo s hs' hk)
    vp := fun s hs' => by
      by_cases e : s = t
      · subst e; rw [upd_same]; exact fun e => (hb' p e).1 rfl
      · rw [upd_other _ _ e]; exact h.vp s hs'
    vo := fun s hs' => by
      by_cases e : s = t
      · subst e; rw [upd_same]; exact fun e => (hb' o e).2.1 rfl
      · rw [upd_other _ _ e]; exact h.vo s hs'
    vc := fun s hs' g hg => by
      by_cases e : s = t
      · subst e; rw [upd_same] at hg; exact (hb' g hg).2.2.1
      · rw [upd_other _ _ e] at hg; exact h.vc s hs' g hg
    vv := fun a b ha hb2 hab g hg => by
      by_cases e1 : a = t
      · subst e1
        rw [upd_same] at hg
        rw [upd_other _ _ (fun e => hab e.symm)]
        exact (hb' g hg).2.2.2 b hb2 (fun e => hab e.symm)
      · rw [upd_other _ _ e1] at hg
        by_cases e2 : b = t
        · subst e2
          rw [upd_same]
          exact fun e3 => (hb' g e3).2.2.2 a ha hab hg
        · rw [upd_other _ _ e2]
          exact h.vv a b ha hb2 hab g hg }
/-- its blocks -/
theorem QB.relist {w : World} {p o n : Nat} {cv : Value} {V : Nat → Value} {t : Nat} {v' : Value} (ht : t < n) (hb : ∀ g, v'.ownBlock = some g → (V t).ownBlock = some g ∨ w.heap.size ≤ g) (k : Nat) (h : QB p o n cv (upd V t v') k) : QB p o n cv V k ∨ w.heap.size ≤ k := by
  rcases h with h | h | h | ⟨s, hs, h⟩
  · exact .inl (.inl h)
  · exact .inl (.inr (.inl h))
  · exact .inl (.inr (.inr (.inl h)))
  · by_cases e : s = t
    · subst e
      rw [upd_same] at h
      rcases hb k h with h | h
      · exact .inl (.inr (.inr (.inr ⟨s, hs, h⟩)))
      · exact .inr h
    · rw [upd_other _ _ e] at h
      exact .inl (.inr (.inr (.inr ⟨s, hs, h⟩)))
theorem QB.recommon {w : World} {p o n : Nat} {cv cv' : Value} {V : Nat → Value} (hb : cv'.ownBlock = cv.ownBlock ∨ ∀ g, cv'.ownBlock = some g → w.heap.size ≤ g) (k : Nat) (h : QB p o n cv' V k) : QB p o n cv V k ∨ w.heap.size ≤ k := by
  rcases h with h | h | h | h
  · exact .inl (.inl h)
  · exact .inl (.inr (.inl h))
  · rcases hb with hb | hb
    · exact .inl (.inr (.inr (.inl (by rw [← hb]; exact h))))
    · exact .inr (hb k h)
  · exact .inl (.inr (.inr (.inr h)))

theorem queue_pop (w : World) (p o n bound : Nat) (cv : Value) (c : Int) (C : List Int) (V : Nat → Value) (L : Nat → List Int) (h : QAt w p o n bound cv (c :: C) V L) :
    Calls Try.prog 13 #[.pointer (some ⟨p, 0, none⟩)] w fun e w' => e = .returned (.tuple #[.int .i64 c, .int .i64 0]) ∧ Chg (· = p) w w' ∧ ∃ cv', QAt w' p o n bound cv' C V L ∧ cv'.ownBlock = cv.ownBlock := by
  obtain ⟨A, k, rfl, hk⟩ := h.shape
  simp only [List.length_cons] at hk
  obtain ⟨g, o', cap, he, _, hgl, hcell, _⟩ := h.csl.cell (j := 0) (by simp [cs])
  rw [cs_len] at he
  injection he with e1 e2 e3
  subst e1 e3
  have hcell' : w.cell? ⟨g, o', none⟩ = some (.int .i64 c) := by rw [Nat.add_zero] at hcell; rw [hcell]; rfl
  have h1 := h.com
  have h2 := h.fz
  simp only [List.length_cons] at h1
  have H := hid h
  have hm : C.length + 1 ≤ 65536 := by have := h.clen; have := h.bmax; simp at *; omega
  have hkm : k ≤ 9223372036854775807 := by
    rcases h.csl with ⟨hx, _⟩ | ⟨_, _, _, _, hx, _, _, _, h5, _⟩
    · cases hx
    · injection hx with _ _ e4
      unfold maxLen at h5
      omega
  clear h e2 hcell
  have hs0 := hid H.out.csl
  by_cases hk1 : k = 1
  · subst hk1
    have hC : C.length = 0 := by omega
    have hC' : C = [] := List.length_eq_zero_iff.1 hC
    subst hC'
    simp only [List.length_nil, Nat.zero_add] at h1
    go_enter Try.func13, Try.ntmps13
    go_wp2
    go_ret2
    exact ⟨rfl, by (repeat (first | with_reducible exact Chg.refl _ _ | with_reducible apply Chg.drewN | with_reducible apply Chg.drew | with_reducible apply Chg.alloc | (with_reducible refine Chg.setCell ?_ ?_ _; rotate_left; focus (first | (refine Or.inr ?_; first | omega | (simp; done) | (simp; omega)) | exact Or.inl (by assumption) | with_reducible exact Or.inl rfl | exact Or.inl (by simp))) | refine Chg.trans ?_ (Chg.of_below (by with_reducible assumption) (fun k h1 h2 => absurd h1 (by first | omega | (simp; omega)))) | refine Chg.trans ?_ (by with_reducible assumption))), _, H.out.recommon (Chg.refl _ _) _ [] hs0.out.dropAll (by simp) (.inl rfl), rfl⟩
  · have hk2 : 2 ≤ k := by omega
    go_enter Try.func13, Try.ntmps13
    go_wp2
    go_ret2
    have hn : Sl w 0 3 (.slice (some ⟨g, o' + 1, none⟩) C.length (k - 1)) (cs C) := by
      have := hs0.out.drop 1 (by simp)
      simpa [cs] using this
    exact ⟨rfl, by (repeat (first | with_reducible exact Chg.refl _ _ | with_reducible apply Chg.drewN | with_reducible apply Chg.drew | with_reducible apply Chg.alloc | (with_reducible refine Chg.setCell ?_ ?_ _; rotate_left; focus (first | (refine Or.inr ?_; first | omega | (simp; done) | (simp; omega)) | exact Or.inl (by assumption) | with_reducible exact Or.inl rfl | exact Or.inl (by simp))) | refine Chg.trans ?_ (Chg.of_below (by with_reducible assumption) (fun k h1 h2 => absurd h1 (by first | omega | (simp; omega)))) | refine Chg.trans ?_ (by with_reducible assumption))), _, H.out.recommon (Chg.refl _ _) _ C hn (by have := H.out.clen; simp at this; omega) (.inl rfl), rfl⟩
end Go.Proofs.Ythmjjmimmbgpaaa
