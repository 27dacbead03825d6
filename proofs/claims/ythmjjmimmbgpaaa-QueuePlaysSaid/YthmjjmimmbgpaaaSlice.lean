/-
  A slice of one-cell elements in a block of the call's own, wherever in the block it begins: what is read, cut off, appended. No program in sight.
-/
import Derived.Test.YthmjjmimmbgpaaaHeap
import Derived.Laws.OwnMore
import Derived.ArgAppend
import Derived.Deep.RegionLaw
set_option linter.unusedVariables false
set_option linter.unusedSimpArgs false
namespace Go.Proofs.Ythmjjmimmbgpaaa
open Go.RowKit

/-- the slice v, in a block from base on, holds the cells xs -/
def Sl (w : World) (base : Nat) (e : TypeId) (v : Value) (xs : List Value) : Prop :=
  (v = .slice none 0 0 ∧ xs = []) ∨ ∃ (g o cap : Nat) (cur : Array Value), v = .slice (some ⟨g, o, none⟩) xs.length cap ∧ base ≤ g ∧ w.heap[g]? = some (.cells cur e (0, 0)) ∧ xs.length ≤ cap ∧ cap ≤ maxLen ∧ o + cap ≤ cur.size ∧
    ∀ j, j < xs.length → cur[o + j]? = xs[j]?

theorem sl_nil (w : World) (base : Nat) (e : TypeId) : Sl w base e (.slice none 0 0) [] := .inl ⟨rfl, rfl⟩
theorem Sl.shape {w : World} {base : Nat} {e : TypeId} {v : Value} {xs : List Value} (h : Sl w base e v xs) : ∃ (A : Option Addr) (c : Nat), v = .slice A xs.length c ∧ xs.length ≤ c := by
  rcases h with ⟨h1, h2⟩ | ⟨g, o, cap, cur, h1, _, _, h2, _⟩
  · exact ⟨none, 0, by rw [h1, h2]; rfl, by rw [h2]; simp⟩
  · exact ⟨_, cap, h1, h2⟩
theorem Sl.lt {w : World} {base : Nat} {e : TypeId} {v : Value} {xs : List Value} (h : Sl w base e v xs) : ∀ k, v.ownBlock = some k → base ≤ k ∧ k < w.heap.size := by
  intro k hk
  rcases h with ⟨rfl, _⟩ | ⟨g, o, cap, cur, rfl, hb, hg, _⟩
  · simp [Value.ownBlock] at hk
  · simp [Value.ownBlock] at hk
    subst hk
    exact ⟨hb, (Array.getElem?_eq_some_iff.1 hg).1⟩
theorem Sl.chg {S : Nat → Prop} {w w' : World} {base : Nat} {e : TypeId} {v : Value} {xs : List Value} (h : Sl w base e v xs) (c : Chg S w w') (hn : ∀ k, v.ownBlock = some k → ¬ S k) : Sl w' base e v xs := by
  rcases h with h | ⟨g, o, cap, cur, hv, hb, hg, hr⟩
  · exact .inl h
  · refine .inr ⟨g, o, cap, cur, hv, hb, ?_, hr⟩
    have hlt : g < w.heap.size := (Array.getElem?_eq_some_iff.1 hg).1
    rw [c.block g hlt (hn g (by rw [hv]; rfl))]
    exact hg
theorem Sl.mono {w : World} {base base' : Nat} {e : TypeId} {v : Value} {xs : List Value} (h : Sl w base e v xs) (hb : ∀ g, v.ownBlock = some g → base' ≤ g) : Sl w base' e v xs := by
  rcases h with h | ⟨g, o, cap, cur, hv, hbg, hr⟩
  · exact .inl h
  · exact .inr ⟨g, o, cap, cur, hv, hb g (by rw [hv]; rfl), hr⟩
theorem Sl.drewN {w : World} {base : Nat} {e : TypeId} {v : Value} {xs : List Value} (h : Sl w base e v xs) (k : Nat) : Sl (w.drewN k) base e v xs := h
theorem Sl.drew {w : World} {base : Nat} {e : TypeId} {v : Value} {xs : List Value} (h : Sl w base e v xs) : Sl w.drew base e v xs := h
theorem Sl.alloc {w : World} {base : Nat} {e : TypeId} {v : Value} {xs : List Value} (h : Sl w base e v xs) (o : Obj) : Sl (w.alloc o) base e v xs := h.chg ((Chg.refl (fun _ => False) _).alloc o) (by simp)
/-- an element -/
theorem Sl.cell {w : World} {base : Nat} {e : TypeId} {v : Value} {xs : List Value} (h : Sl w base e v xs) {j : Nat} (hj : j < xs.length) : ∃ g o cap, v = .slice (some ⟨g, o, none⟩) xs.length cap ∧ base ≤ g ∧ g < w.heap.size ∧ w.cell? ⟨g, o + j, none⟩ = xs[j]? ∧ w.frozen? ⟨g, o + j, none⟩ = false := by
  rcases h with ⟨_, h2⟩ | ⟨g, o, cap, cur, hv, hbg, hg, hn, hm, hs, hc⟩
  · subst h2; simp at hj
  · refine ⟨g, o, cap, hv, hbg, (Array.getElem?_eq_some_iff.1 hg).1, ?_, ?_⟩
    · rw [← hc j hj]
      simp [World.cell?, hg]
    · simp [World.frozen?, hg]
/-- out of an owned row -/
theorem sl_of_owns {w : World} {base : Nat} {e : TypeId} {v : Value} {n : Nat} {xs : List Value} (h : w.ownsRow base e 1 v n xs) : Sl w base e v xs := by
  have hl : xs.length = n := by have := h.1; omega
  rcases h.2 with ⟨hv, hn⟩ | ⟨g, cap, cur, hv, hb, hg, hnc, hm, hs, ht⟩
  · subst hn
    exact .inl ⟨hv, List.length_eq_zero_iff.1 hl⟩
  · refine .inr ⟨g, 0, cap, cur, by rw [hv, hl], hb, hg, by omega, hm, by omega, fun j hj => ?_⟩
    rw [← ht, List.getElem?_take, if_pos (by omega)]
    simp

/-- the cells of a block behind a store of several -/
theorem heap_setCells_at {b : Nat} {t : TypeId} {cur : Array Value} (vs : List Value) (o : Nat) (w : World) (h : w.heap[b]? = some (.cells cur t (0, 0))) (hfit : o + vs.length ≤ cur.size) :
    ∃ cur' : Array Value, (w.setCells b o vs).heap[b]? = some (.cells cur' t (0, 0)) ∧ cur'.size = cur.size ∧ (∀ k, k < o ∨ o + vs.length ≤ k → cur'[k]? = cur[k]?) ∧ ∀ j, j < vs.length → cur'[o + j]? = vs[j]? := by
  have hr : w.rowIs b t cur.size (fun k => cur.getD k undef) := ⟨cur, h, rfl, fun i hi => by simp [hi]⟩
  obtain ⟨c, hc, hs, hv⟩ := rowIs_setCells (fun k => vs.getD (k - o) undef) vs o w _ hr hfit (fun j hj => by
    have e : o + j - o = j := by omega
    rw [e]
    simp [hj])
  refine ⟨c, hc, hs, fun k hk => ?_, fun j hj => ?_⟩
  · by_cases hkc : k < cur.size
    · rw [hv k hkc]
      have hn : ¬ (o ≤ k ∧ k < o + vs.length) := by omega
      simp only [hn, if_false]
      simp [hkc]
    · rw [Array.getElem?_eq_none (by omega), Array.getElem?_eq_none (by omega)]
  · rw [hv (o + j) (by omega)]
    have hn : o ≤ o + j ∧ o + j < o + vs.length := by omega
    simp only [hn, and_self, if_true]
    have e : o + j - o = j := by omega
    rw [e]
    simp [hj]

section
variable {P : Program} (w : World)

theorem run_append_sl (base : Nat) (t ty e : TypeId) (i : TypeInfo) (z : Value) (bytes : Nat) (ht : P.underlying t = some (.slice e)) (hi : P.info? e = some i) (hz : i.zero = some z)
    (hsize : i.size = 1) (hby : i.bytes = bytes) (hzs : z.cells.size = 1) (v : Value) (xs : List Value) (h : Sl w base e v xs)
    (a : Addr) (m c : Nat) (news : List Value) (hl : news.length = m) (hnews : ∀ j u, news[j]? = some u → w.cell? (a.add j) = some u) (h1 : ∀ u ∈ news, u.oneCell' = true)
    (h63 : xs.length + m ≤ maxLen) (hbytes : (xs.length + m) * bytes ≤ 140737488355328) (hbase : base ≤ w.heap.size) :
    ∃ v' w', (Builtin.append_ #[t, t] ty #[v, .slice (some a) m c]).run P w = .ok v' w' ∧ Sl w' base e v' (xs ++ news) ∧ w.grownBy w' v.ownBlock ∧ (v'.ownBlock = v.ownBlock ∨ v'.ownBlock = some w.heap.size) := by
  subst hby
  rcases h with ⟨rfl, rfl⟩ | ⟨g, o, cap, cur, rfl, hb, hg, hn, hcm, hs, hc⟩
  · obtain ⟨v', w', hr, ho, hgr, hnil⟩ := run_append_own (P := P) w base t ty e i z 1 i.bytes ht hi hz hsize rfl hzs (by decide) (.slice none 0 0) 0 [] (World.ownsRow_nil w base e 1) a m c news (by omega) hnews h1 (by simpa using h63) (by simpa using hbytes) hbase
    refine ⟨v', w', hr, by simpa using sl_of_owns ho, hgr, ?_⟩
    by_cases hm : m = 0
    · exact .inl (by rw [hnil.2 ⟨rfl, hm⟩])
    · right
      have hn := run_append_nil (P := P) w t ty e i z ht hi hz a m c news (by rw [hsize]; omega) hnews (by omega) (by simp only [maxLen] at h63; simp at h63; omega) (by simp at hbytes; omega)
      rw [hn] at hr
      injection hr with h1 h2
      rw [← h1]
      rfl
  · by_cases hroom : xs.length + m ≤ cap
    · have hr := run_append_room_cells (P := P) w t ty e i ht hi g o xs.length cap a m c news (by rw [hsize]; omega) hnews h1 hroom
        (fun j hj => by
          rw [hsize, Nat.mul_one]
          have hlt : o + xs.length + j < cur.size := by omega
          simp [World.cell?, hg, hlt])
        (fun j hj => by simp [World.frozen?, hg])
      rw [hsize, Nat.mul_one] at hr
      obtain ⟨cur', g1, g2, g3, g4⟩ := heap_setCells_at news (o + xs.length) w hg (by omega)
      refine ⟨_, _, hr, .inr ⟨g, o, cap, cur', by rw [List.length_append, hl], hb, g1, by rw [List.length_append]; omega, hcm, by omega, fun j hj => ?_⟩, ?_, .inl rfl⟩
      · rw [List.length_append] at hj
        by_cases hjx : j < xs.length
        · rw [g3 (o + j) (by omega), hc j hjx, List.getElem?_append_left hjx]
        · have := g4 (j - xs.length) (by omega)
          rw [show o + xs.length + (j - xs.length) = o + j by omega] at this
          rw [this, List.getElem?_append_right (by omega)]
      · obtain ⟨e1, e2, e3⟩ := Chg.rest_setCells g news (o + xs.length) w
        exact ⟨e1, e2, e3, by rw [Chg.size_setCells]; exact Nat.le_refl _, fun k _ hk => Chg.heap_setCells g news (o + xs.length) w k (fun e => hk (by rw [e]; rfl))⟩
    · have holds : ∀ j u, xs[j]? = some u → w.cell? ((⟨g, o, none⟩ : Addr).add j) = some u := fun j u hu => by
        have hj : j < xs.length := (List.getElem?_eq_some_iff.1 hu).1
        rw [Go.WideShapes.add_plain]
        have := hc j hj
        rw [hu] at this
        simpa [World.cell?, hg] using this
      have hsm : xs.length + m ≤ 9223372036854775807 := by simp only [maxLen] at h63; omega
      have hr := run_append_grow (P := P) w t ty e i z ht hi hz ⟨g, o, none⟩ xs.length cap xs (by rw [hsize]; omega) holds a m c news (by rw [hsize]; omega) hnews (by omega) (by omega) (growslice_fits (by omega) hbytes)
      have hge := grownCap_ge w (xs.length + m) cap e
      have hgm : grownCap w (xs.length + m) cap e ≤ maxLen := grownCap_le_maxLen w (xs.length + m) cap e h63
      refine ⟨_, _, hr, .inr ⟨w.heap.size, 0, _, _, by rw [List.length_append, hl], hbase, heap_alloc_new w.drew _, by rw [List.length_append, hl]; exact hge, hgm, ?_, fun j hj => ?_⟩, ⟨rfl, rfl, rfl, by simp, fun k hk _ => by rw [Below.heap_alloc _ _ _ (show k < w.drew.heap.size from hk)]; rfl⟩, .inr rfl⟩
      · simp only [Array.size_append, List.size_toArray, size_zeroCells, hzs]
        omega
      · rw [List.length_append] at hj
        rw [Nat.zero_add, Array.getElem?_append_left (by simp; omega)]
        simp

/-- 'append', as one step of a region that draws its order -/
theorem step_append_sl {ops : Array Oper} {o : Oper} {a : Act} {K : Act → World → Prop} {Q : Exit → Act → World → Prop} {E : Prop} (hgd : o.guard = none) (s x : Operand) (t : TypeId)
    (ho : o.op = .call { callee := .builtin .append, args := #[s, x], argTypes := #[t, t] })
    (base : Nat) (e : TypeId) (i : TypeInfo) (z : Value) (bytes : Nat) (ht : P.underlying t = some (.slice e)) (hi : P.info? e = some i) (hz : i.zero = some z)
    (hsize : i.size = 1) (hby : i.bytes = bytes) (hzs : z.cells.size = 1) (v : Value) (xs : List Value) (hs : a.eval s = v) (h : Sl w base e v xs)
    (ad : Addr) (m c : Nat) (news : List Value) (hx : a.eval x = .slice (some ad) m c) (hl : news.length = m) (hnews : ∀ j u, news[j]? = some u → w.cell? (ad.add j) = some u) (h1 : ∀ u ∈ news, u.oneCell' = true)
    (h63 : xs.length + m ≤ maxLen) (hbytes : (xs.length + m) * bytes ≤ 140737488355328) (hbase : base ≤ w.heap.size)
    (hK : ∀ v' w', Sl w' base e v' (xs ++ news) → w.grownBy w' v.ownBlock → (v'.ownBlock = v.ownBlock ∨ v'.ownBlock = some w.heap.size) → K (a.put o.dst v') w') :
    if Region.wanted o (yielded ops a.tmps) = true then Oper.wp P o a w K Q else E := by
  have hw : Region.wanted o (yielded ops a.tmps) = true := by simp [Region.wanted, hgd]
  rw [if_pos hw]
  obtain ⟨v', w', hr, h2, h3, h4⟩ := run_append_sl (P := P) w base t o.type e i z bytes ht hi hz hsize hby hzs v xs h ad m c news hl hnews h1 h63 hbytes hbase
  unfold Oper.wp execOp
  simp only [ho, resolve, invoke, builtin, Sem.run_bind, Sem.run_pure, Result.andThen_ok, List.map_toArray, List.map_cons, List.map_nil, hs, hx, hr]
  exact hK v' w' h2 h3 h4

/-- 'append', as an operation of a region in its text's order -/
theorem wpList_append_sl {ops : Array Oper} {rest : List Oper} {o : Oper} {a : Act} {Q : Exit → Act → World → Prop} (hgd : o.guard = none) (s x : Operand) (t : TypeId)
    (ho : o.op = .call { callee := .builtin .append, args := #[s, x], argTypes := #[t, t] })
    (base : Nat) (e : TypeId) (i : TypeInfo) (z : Value) (bytes : Nat) (ht : P.underlying t = some (.slice e)) (hi : P.info? e = some i) (hz : i.zero = some z)
    (hsize : i.size = 1) (hby : i.bytes = bytes) (hzs : z.cells.size = 1) (v : Value) (xs : List Value) (hs : a.eval s = v) (h : Sl w base e v xs)
    (ad : Addr) (m c : Nat) (news : List Value) (hx : a.eval x = .slice (some ad) m c) (hl : news.length = m) (hnews : ∀ j u, news[j]? = some u → w.cell? (ad.add j) = some u) (h1 : ∀ u ∈ news, u.oneCell' = true)
    (h63 : xs.length + m ≤ maxLen) (hbytes : (xs.length + m) * bytes ≤ 140737488355328) (hbase : base ≤ w.heap.size)
    (hK : ∀ v' w', Sl w' base e v' (xs ++ news) → w.grownBy w' v.ownBlock → (v'.ownBlock = v.ownBlock ∨ v'.ownBlock = some w.heap.size) → wpList P ops Q rest (a.put o.dst v') w') : wpList P ops Q (o :: rest) a w := by
  refine wpList_plain hgd fun K hKK => ?_
  obtain ⟨v', w', hr, h2, h3, h4⟩ := run_append_sl (P := P) w base t o.type e i z bytes ht hi hz hsize hby hzs v xs h ad m c news hl hnews h1 h63 hbytes hbase
  unfold Oper.wp execOp
  simp only [ho, resolve, invoke, builtin, Sem.run_bind, Sem.run_pure, Result.andThen_ok, List.map_toArray, List.map_cons, List.map_nil, hs, hx, hr]
  exact hKK _ _ (hK v' w' h2 h3 h4)
end
end Go.Proofs.Ythmjjmimmbgpaaa
