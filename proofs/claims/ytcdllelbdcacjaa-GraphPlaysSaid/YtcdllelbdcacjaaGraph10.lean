/-
  Graphs (layer 13): what is come to is listed and numbered: 'meet'.
-/
import Derived.Test.YtcdllelbdcacjaaGraph9
import Derived.Maps.OwnSet
import Derived.Maps.OwnOps
import Derived.Maps.Views
set_option linter.unusedVariables false
set_option linter.unusedSimpArgs false
namespace Go.Proofs.Ytcdllelbdcacjaa
open Go.RowKit Go.Maps

/-- a reference's number: one more than its place in the list -/
def num (L : List Int) (r : Int) : Int := if r = 0 then 0 else if r ∈ L then (L.idxOf r : Int) + 1 else 0
/-- a reference is come to; all of a list's -/
def meet1 (L : List Int) (r : Int) : List Int := if r = 0 ∨ r ∈ L then L else L ++ [r]
def meetAll (L : List Int) (X : List Int) : List Int := X.foldl meet1 L

theorem num_snoc {L : List Int} {r : Int} (h0 : r ≠ 0) (hr : r ∉ L) (s : Int) : num (L ++ [r]) s = if s = r then (L.length : Int) + 1 else num L s := by
  unfold num
  by_cases hs : s = 0
  · rw [if_pos hs, if_pos hs, if_neg (by omega)]
  · rw [if_neg hs, if_neg hs]
    by_cases h : s = r
    · subst h
      rw [if_pos rfl, if_pos (by simp), List.idxOf_append, if_neg hr]
      simp
    · rw [if_neg h]
      by_cases hl : s ∈ L
      · rw [if_pos (by simp [hl]), if_pos hl, List.idxOf_append, if_pos hl]
      · rw [if_neg (by simp [hl, h]), if_neg hl]

theorem len_of_range : ∀ (m : Nat) (L : List Int), L.Nodup → (∀ r, r ∈ L → 1 ≤ r ∧ r ≤ (m : Int)) → L.length ≤ m
  | 0, L, _, h => by
    cases L with
    | nil => simp
    | cons x l => have := h x (by simp); omega
  | m + 1, L, hn, h => by
    by_cases hm : ((m + 1 : Nat) : Int) ∈ L
    · have h1 := len_of_range m (L.erase ((m + 1 : Nat) : Int)) (hn.erase _) (fun r hr => by
        have := (hn.mem_erase_iff).1 hr
        have h2 := h r this.2
        have h3 := this.1
        omega)
      rw [List.length_erase_of_mem hm] at h1
      omega
    · have h1 := len_of_range m L hn (fun r hr => by
        have h2 := h r hr
        have h3 : r ≠ ((m + 1 : Nat) : Int) := fun e => hm (e ▸ hr)
        omega)
      omega

theorem keyLaw : Keyed Try.prog 30 := int_keyed Try.underlying30
theorem zeroU (w : World) : (zeroValue 29).run Try.prog w = .ok (.int .u64 0) w := by kernel_rfl

/-- block M is the map of the list's numbers -/
def NumMap (w : World) (M : Nat) (L : List Int) : Prop :=
  ∃ (n : Nat) (D : DataW Unit), n ≤ L.length + 1 ∧ w.ownsMap Try.prog 30 (plainElem Try.prog 29) M n D ∧
    ∀ r : Int, (DataW.atKey D (.int .u64 r) (.lit (.int .u64 0)) = .lit (.int .u64 (num L r))) ∧ Maps.has D (.int .u64 r) = (r == 0 || decide (r ∈ L))

theorem NumMap.lt {w : World} {M : Nat} {L : List Int} (h : NumMap w M L) : M < w.heap.size := by obtain ⟨_, _, _, h, _⟩ := h; exact h.lt
theorem NumMap.chg {S : Nat → Prop} {w w1 : World} {M : Nat} {L : List Int} (h : NumMap w M L) (c : Chg S w w1) (hn : ¬ S M) : NumMap w1 M L := by
  obtain ⟨n, D, h1, h2, h3⟩ := h
  refine ⟨n, D, h1, ?_, h3⟩
  have hlt := h2.lt
  obtain ⟨es, clock, hb, F, hs, hD⟩ := h2
  exact ⟨es, clock, (c.block M hlt hn).trans hb, F, hs, hD⟩

/-- the state while things are listed: the variables' blocks, the map, the list -/
structure MeetAt (B m : Nat) (w : World) (Mv Lv M : Nat) (lv : Value) (L : List Int) : Prop where
  mv : w.heap[Mv]? = some (.cells #[.map (some M)] 99 (0, 0))
  lb : w.heap[Lv]? = some (.cells #[lv] 22 (0, 0))
  map : NumMap w M L
  own : w.ownsRow B 30 1 lv L.length (L.map (Value.int .u64))
  nd : L.Nodup
  rng : ∀ r, r ∈ L → 1 ≤ r ∧ r ≤ (m : Int)
  ne : M < Mv ∧ Mv < Lv ∧ Lv < B
  mm : m ≤ 1048576

theorem MeetAt.len {B m : Nat} {w : World} {Mv Lv M : Nat} {lv : Value} {L : List Int} (h : MeetAt B m w Mv Lv M lv L) : L.length ≤ m := len_of_range m L h.nd h.rng
theorem MeetAt.chg {S : Nat → Prop} {B m : Nat} {w w1 : World} {Mv Lv M : Nat} {lv : Value} {L : List Int} (h : MeetAt B m w Mv Lv M lv L) (c : Chg S w w1) (hn : ¬ S Mv ∧ ¬ S Lv ∧ ¬ S M) (hl : ∀ k, lv.ownBlock = some k → ¬ S k) : MeetAt B m w1 Mv Lv M lv L :=
  { h with mv := (c.block Mv (lt_of_block h.mv) hn.1).trans h.mv, lb := (c.block Lv (lt_of_block h.lb) hn.2.1).trans h.lb, map := h.map.chg c hn.2.2, own := c.owns h.own hl }

/-- a slice of references, somewhere in the heap -/
def RSrc (w : World) (v : Value) (X : List Int) : Prop :=
  (X = [] ∧ ∃ A c, v = .slice A 0 c) ∨ ∃ g c, v = .slice (some ⟨g, 0, none⟩) X.length c ∧ g < w.heap.size ∧ ∀ j, j < X.length → w.cell? ⟨g, j, none⟩ = some (.int .u64 (X.getD j 0))
theorem RSrc.shape {w : World} {v : Value} {X : List Int} (h : RSrc w v X) : ∃ A c, v = .slice A X.length c := by
  rcases h with ⟨rfl, A, c, rfl⟩ | ⟨g, c, rfl, _⟩
  · exact ⟨A, c, rfl⟩
  · exact ⟨_, c, rfl⟩

/-- a new reference is numbered -/
theorem NumMap.put {w1 : World} {M : Nat} {L : List Int} {n : Nat} {D : DataW Unit} {r : Int} (hn : n ≤ L.length + 1) (hD : IsMap D)
    (h : ∀ s : Int, (DataW.atKey D (.int .u64 s) (.lit (.int .u64 0)) = .lit (.int .u64 (num L s))) ∧ Maps.has D (.int .u64 s) = (s == 0 || decide (s ∈ L))) (h0 : r ≠ 0) (hr : r ∉ L)
    (hown : w1.ownsMap Try.prog 30 (plainElem Try.prog 29) M (n + 1) (D.put (.int .u64 r) (.lit (.int .u64 ((L.length : Int) + 1))))) : NumMap w1 M (L ++ [r]) := by
  refine ⟨n + 1, _, by simp; omega, hown, fun s => ?_⟩
  rw [num_snoc h0 hr]
  by_cases hs : s = r
  · subst hs
    rw [if_pos rfl]
    exact ⟨atKey_put_same hD (by simp [WideAt.IsKeyLit]) _ _, by rw [has_put_same hD (by simp [WideAt.IsKeyLit])]; simp⟩
  · rw [if_neg hs]
    have hne : (Lit.int .u64 s) ≠ (Lit.int .u64 r) := fun e => hs (by injection e)
    refine ⟨(atKey_put_other hne _ _).trans (h s).1, ?_⟩
    rw [has_put_other hne, (h s).2]
    simp [hs]

theorem one_lies {w : World} {v : Value} {T : TypeId} {n : Nat} (hn : w.heap.size = n) : ∀ (j : Nat) (u : Value), [v][j]? = some u → (w.alloc (.cells #[v] T)).cell? ((⟨n, 0, none⟩ : Addr).add j) = some u := by
  intro j u hj
  match j, hj with
  | 0, hj => simp at hj; subst hj; exact one_new hn

theorem ownsMap_chg {H : Type} {S : Nat → Prop} {w w1 : World} {P : Program} {k : TypeId} {R : Value → Option (DataW H × List MemPlace)} {b n : Nat} {D : DataW H} (h : w.ownsMap P k R b n D) (c : Chg S w w1) (hn : ¬ S b) : w1.ownsMap P k R b n D := by
  have hlt := h.lt
  obtain ⟨es, clock, hb, F, hs, hD⟩ := h
  exact ⟨es, clock, (c.block b hlt hn).trans hb, F, hs, hD⟩

theorem meetAll_snoc (L : List Int) (X : List Int) {k : Nat} (hk : k < X.length) : meetAll L (X.take (k + 1)) = meet1 (meetAll L (X.take k)) (X.getD k 0) := by
  unfold meetAll
  rw [List.take_add_one, List.foldl_append, List.getElem?_eq_getElem hk, List.getD_eq_getElem?_getD, List.getElem?_eq_getElem hk]
  rfl

set_option maxRecDepth 100000 in
set_option maxHeartbeats 4000000 in
theorem meet_any (w : World) (B m Mv Lv M : Nat) (lv v : Value) (L X : List Int) (h : MeetAt B m w Mv Lv M lv L) (hv : RSrc w v X) (hX : ∀ r, r ∈ X → 0 ≤ r ∧ r ≤ (m : Int)) (hs : ∀ g, v.ownBlock = some g → g ≠ M ∧ g ≠ Lv ∧ lv.ownBlock ≠ some g) (hBw : B ≤ w.heap.size) (hXl : X.length ≤ 1048576) :
    Calls Try.prog 52 #[v, .pointer (some ⟨Mv, 0, none⟩), .pointer (some ⟨Lv, 0, none⟩)] w fun e w' => e = .returned (.tuple #[]) ∧
      ∃ lv', MeetAt B m w' Mv Lv M lv' (meetAll L X) ∧ Chg (fun x => x = M ∨ x = Lv ∨ lv.ownBlock = some x) w w' ∧ ∀ x, lv'.ownBlock = some x → lv.ownBlock = some x ∨ w.heap.size ≤ x := by
  obtain ⟨i0, hi, hz0, hz1, hz2⟩ := info_parts infoRef
  obtain ⟨A, c, rfl⟩ := hv.shape
  have H := hid h
  have HV := hid hv
  have HX := hid hX
  have HS := hid hs
  have hXl' : (X.length : Int) ≤ 1048576 := by omega
  clear h hv hX hs
  go_enter Try.func52, Try.ntmps52
  go_wp2_with fail
  go_loopw [10] (fun i wr => ∃ (k : Nat) (lvr : Value), k ≤ X.length ∧ i = .int .i64 k ∧ MeetAt B m wr Mv Lv M lvr (meetAll L (X.take k)) ∧ Chg (fun x => x = M ∨ x = Lv ∨ lv.ownBlock = some x) w wr ∧ ∀ x, lvr.ownBlock = some x → lv.ownBlock = some x ∨ w.heap.size ≤ x) (fun i _ => X.length - (intOf i).toNat)
  case atStart => exact ⟨0, lv, by omega, rfl, by simpa [meetAll] using H.out, Chg.refl _ _, fun x hx => .inl hx⟩
  case round =>
    obtain ⟨k, lvr, hk, rfl, hm, hc, hn⟩ := hrel
    have HM := hid hm
    have HC := hid hc
    have HN := hid hn
    by_cases hlt : k < X.length
    · have hlt' : (k : Int) < (X.length : Int) := by omega
      have hsn := hid (meetAll_snoc L X hlt)
      obtain ⟨r, hr⟩ : ∃ r, r = X.getD k 0 := ⟨_, rfl⟩
      have hr0 := HX.out r (by rw [hr, List.getD_eq_getElem?_getD, List.getElem?_eq_getElem hlt]; exact List.getElem_mem hlt)
      rcases HV.out with ⟨rfl, _⟩ | ⟨g, c', he, hg1, hg2⟩
      · simp at hlt
      · injection he with he1 _ he2
        subst he1 he2
        have hcell := (hc.cell (o := k) hg1 (by have := HS.out g rfl; rintro (h | h | h); exact this.1 h; exact this.2.1 h; exact this.2.2 h)).trans (hg2 k hlt)
        rw [← hr] at hcell hsn
        have b1 := cell_of_one hm.mv
        have b2 := cell_of_one hm.lb
        have b3 := free_of_one hm.lb
        have hlen := hm.len
        have hmm := hm.mm
        have hne := hm.ne
        have hMvl := lt_of_block hm.mv
        have hLvl := lt_of_block hm.lb
        have hkey : keyOf Try.prog 30 (.int .u64 r) = some (.int .u64 r) := keyOf_int_mk Try.underlying30 (Go.WalkArith.wf_u64 ⟨by omega, by omega⟩)
        obtain ⟨n, D, hn1, hown, hD⟩ := hm.map
        have HD := hid hD
        have hhas := (hD r).2
        have HOWN := hid hown
        obtain ⟨Lk, hLk⟩ : ∃ Lk, Lk = meetAll L (X.take k) := ⟨_, rfl⟩
        rw [← hLk] at HM hsn hlen hn1 hhas HD
        clear hm hc hn hD hown hr hLk hg2
        by_cases hin : r = 0 ∨ r ∈ Lk
        · have ht : (r == 0 || decide (r ∈ Lk)) = true := by rcases hin with h | h <;> simp [h]
          rw [ht] at hhas
          go_wp2_with (at_lookup; refine wpList_lookup_own_ok_int _ rfl _ _ 99 rfl 30 29 .u64 keyLaw Try.underlying99 Try.underlying29 (zeroU _) M n D rfl HOWN.out _ _ rfl hkey ?_; intro cc hat hwc)
          go_roundw
          case rel =>
            refine ⟨k + 1, lvr, by omega, by go_num, ?_, HC.out, HN.out⟩
            rw [hsn.out]
            unfold meet1
            rw [if_pos hin]
            exact HM.out
          case measure => simp [intOf]; omega
        · have ht : (r == 0 || decide (r ∈ Lk)) = false := by simp; constructor; exact fun h => hin (.inl h); exact fun h => hin (.inr h)
          rw [ht] at hhas
          have hr00 : r ≠ 0 := fun h => hin (.inl h)
          have hrL : r ∉ Lk := fun h => hin (.inr h)
          have hll : (Lk.length : Int) ≤ 1048576 := by omega
          obtain ⟨N, hN⟩ : ∃ N, N = Lk.length := ⟨_, rfl⟩
          have hNN := hid hN
          rw [← hN] at hll hn1
          have hown : wr.ownsRow B 30 1 lvr N (Lk.map (Value.int .u64)) := by rw [hN]; exact HM.out.own
          have hBs : B ≤ wr.heap.size := Nat.le_trans hBw HC.out.size
          have HO := hid hown
          have hlb := hid (fun x hx => (hown.lt x hx).1)
          have hMlt := hid HOWN.out.lt
          clear hN hown ht hlen
          go_wp2_with (first
            | (at_lookup; refine wpList_lookup_own_ok_int _ rfl _ _ 99 rfl 30 29 .u64 keyLaw Try.underlying99 Try.underlying29 (zeroU _) M n D rfl HOWN.out _ _ rfl hkey ?_; intro cc hat hwc)
            | (at_builtin; refine wpList_append_lies _ rfl _ _ 22 rfl B 30 i0 (.int .u64 0) 1 8 Try.underlying22 hi hz0 hz1 hz2 rfl (by decide) _ _ _ rfl (HO.out.alloc _) ⟨wr.heap.size, 0, none⟩ 1 1 [.int .u64 r] rfl rfl (one_lies (by simp)) (by intro u hu; simp at hu; subst hu; rfl) (by decide) (by unfold maxLen; omega) (by omega) (by first | omega | (simp; omega)) _ rfl ?_; intro g5 cap5 w5 hown5 hgrow5 hat5 hlt5; have hc5 : Chg (fun x => lvr.ownBlock = some x) wr w5 := Chg.grown (by (repeat (first | with_reducible exact Chg.refl _ _ | with_reducible apply Chg.drewN | with_reducible apply Chg.drew | with_reducible apply Chg.alloc | (with_reducible refine Chg.setCell ?_ ?_ _; rotate_left; focus (first | (refine Or.inr ?_; first | omega | (simp; done) | (simp; omega)) | exact Or.inl (by assumption) | with_reducible exact Or.inl rfl | exact Or.inl (by simp))) | refine Chg.trans ?_ (Chg.of_below (by with_reducible assumption) (fun k h1 h2 => absurd h1 (by first | omega | (simp; omega)))) | refine Chg.trans ?_ (by with_reducible assumption)))) hgrow5 (fun x hx => .inl hx); have hM5 := (hc5.block Mv hMvl (fun e => by have := hlb.out Mv e; omega)).trans HM.out.mv; have hL5 := (hc5.block Lv hLvl (fun e => by have := hlb.out Lv e; omega)).trans HM.out.lb; have hm5 := hid (ownsMap_chg HOWN.out hc5 (fun e => by have := hlb.out M e; omega)); have b11 := cell_of_one hM5; have b12 := cell_of_one hL5; have b13 := free_of_one hL5; have hM6 := lt_of_block hM5; have hL6 := lt_of_block hL5; have HC5 := hid hc5; have HO5 := hid hown5; have HA5 : Hid (lvr.ownBlock = some g5 ∨ wr.heap.size ≤ g5) := (by rcases hat5 with h | h; exact .inl h; exact .inr (by simp at h; omega)); have hg5M : g5 ≠ M := (by have := hMlt.out; rcases HA5.out with h | h; exact fun e => by { have := hlb.out g5 h; omega }; exact fun e => by { omega }); clear hc5 hown5 hgrow5 hat5)
            | (at_mapUpdate; refine wpList_mapUpdate_own _ rfl _ _ _ 99 rfl 30 29 keyLaw Try.underlying99 _ M n D rfl (hm5.out.setCell (by show M ≠ Lv; omega) _) (by unfold maxLen; omega) _ _ _ rfl rfl hkey _ [] (plainElem_int Try.underlying29 (Go.WalkArith.wf_u64 ⟨by omega, by omega⟩)) ?_; intro w7 hown7 hgrow7; have HO7 := hid hown7; have HG7 := hid hgrow7; clear hown7 hgrow7))
          go_roundw
          case rel =>
            have hlk := HM.out
            have c5 := HC5.out
            have c7 : Chg (fun x => x = M) (w5.setCell ⟨Lv, 0, none⟩ (.slice (some ⟨g5, 0, none⟩) (N + 1) cap5)) w7 := Chg.grown (Chg.refl _ _) HG7.out (fun x hx => .inl (by injection hx with hx; exact hx.symm))
            have c6 : Chg (fun x => x = Lv) w5 (w5.setCell ⟨Lv, 0, none⟩ (.slice (some ⟨g5, 0, none⟩) (N + 1) cap5)) := (Chg.refl (fun x => x = Lv) w5).setCell (p := ⟨Lv, 0, none⟩) (.inl rfl) _
            have c67 : Chg (fun x => x = Lv ∨ x = M) w5 w7 := (c6.mono (fun _ _ h => .inl h)).trans (c7.mono (fun _ _ h => .inr h))
            have hallc : Chg (fun x => x = M ∨ x = Lv ∨ lv.ownBlock = some x) w w7 := (HC.out.next c5 (fun i hi h => by
              rcases HN.out i h with h1 | h1
              · exact .inr (.inr h1)
              · omega)).trans (c67.mono (fun x _ h => by rcases h with h | h; exact .inr (.inl h); exact .inl h))
            have hM5 := (c5.block Mv hMvl (fun e => by have := hlb.out Mv e; omega)).trans hlk.mv
            have hL5 := (c5.block Lv hLvl (fun e => by have := hlb.out Lv e; omega)).trans hlk.lb
            refine ⟨k + 1, .slice (some ⟨g5, 0, none⟩) (N + 1) cap5, by omega, by go_num, ?_, hallc, ?_⟩
            · rw [hsn.out]
              unfold meet1
              rw [if_neg hin]
              have e1 : (Lk ++ [r]).length = N + 1 := by rw [List.length_append, ← hNN.out]; rfl
              refine ⟨(c67.block Mv hM6 (by omega)).trans hM5, ?_, NumMap.put (by rw [← hNN.out]; exact hn1) HOWN.out.isMap HD.out hr00 hrL (by rw [← hNN.out]; exact HO7.out), ?_, ?_, ?_, hne, hmm⟩
              · exact (c7.block Lv (by simpa using hL6) (by omega)).trans (one_setCell hL5)
              · rw [e1, List.map_append]
                refine c67.owns HO5.out (fun x hx => ?_)
                have e : g5 = x := by simpa [Value.ownBlock] using hx
                subst e
                rintro (h | h)
                · rcases HA5.out with h2 | h2
                  · have := hlb.out g5 h2; omega
                  · omega
                · exact hg5M h
              · rw [List.nodup_append]
                exact ⟨hlk.nd, by simp, fun a ha b hb => by simp at hb; subst hb; exact fun e => hrL (e ▸ ha)⟩
              · intro s hs
                rcases List.mem_append.1 hs with h | h
                · exact hlk.rng s h
                · simp at h; subst h; omega
            · intro x hx
              have e : g5 = x := by simpa [Value.ownBlock] using hx
              subst e
              rcases HA5.out with h | h
              · exact HN.out g5 h
              · right
                have := HC.out.size
                omega
          case measure => simp [intOf]; omega
    · obtain rfl : k = X.length := by omega
      rw [List.take_length] at HM
      go_wp2_with fail
      go_end0
      exact ⟨rfl, lvr, HM.out, HC.out, HN.out⟩
end Go.Proofs.Ytcdllelbdcacjaa
