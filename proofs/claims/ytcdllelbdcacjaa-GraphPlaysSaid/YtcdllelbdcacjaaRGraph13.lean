/-
  The document's graph (layer 13): what is come to is listed and numbered: 'meet', 'order'.
-/
import Derived.Test.YtcdllelbdcacjaaRGraph12
set_option linter.unusedVariables false
set_option linter.unusedSimpArgs false
namespace Go.Proofs.Ytcdllelbdcacjaa.R
open Go.RowKit

/-- the list so far, and the numbers -/
structure RMeet (B m : Nat) (w : World) (nb : Nat) (lv : Value) (L : List Int) : Prop where
  num : w.rowIs nb 29 (m + 1) (fun j => .int .u64 (num L (j : Int)))
  own : w.ownsRow B 3 1 lv L.length (L.map (Value.int .i64))
  nd : L.Nodup
  rng : ∀ r, r ∈ L → 1 ≤ r ∧ r ≤ (m : Int)
  ne : nb < B
  mm : m ≤ 1048576
theorem RMeet.len {B m : Nat} {w : World} {nb : Nat} {lv : Value} {L : List Int} (h : RMeet B m w nb lv L) : L.length ≤ m := len_of_range m L h.nd h.rng
theorem RMeet.chg {S : Nat → Prop} {B m : Nat} {w w1 : World} {nb : Nat} {lv : Value} {L : List Int} (h : RMeet B m w nb lv L) (c : Chg S w w1) (hn : ¬ S nb) (hl : ∀ k, lv.ownBlock = some k → ¬ S k) : RMeet B m w1 nb lv L :=
  { h with num := c.row h.num hn, own := c.owns h.own hl }
theorem RMeet.shape {B m : Nat} {w : World} {nb : Nat} {lv : Value} {L : List Int} (h : RMeet B m w nb lv L) : ∃ (A : Option Addr) (c : Nat), lv = .slice A L.length c := by
  rcases h.own.2 with ⟨hv, hn⟩ | ⟨q, cap, cur, hv, _⟩
  · exact ⟨none, 0, by rw [hv, hn]⟩
  · exact ⟨_, _, hv⟩

theorem num_in {L : List Int} {r : Int} (h0 : r ≠ 0) (hr : r ∈ L) : (num L r == 0) = false := by
  unfold num
  rw [if_neg h0, if_pos hr]
  simp
  omega
theorem num_out {L : List Int} {r : Int} (hr : r ∉ L) : num L r = 0 := by
  unfold num
  rw [if_neg hr]
  split <;> rfl

set_option maxRecDepth 100000 in
set_option maxHeartbeats 4000000 in
theorem meet_any (w : World) (B m nb : Nat) (lv v : Value) (L X : List Int) (h : RMeet B m w nb lv L) (hv : RSrc w v X) (hX : ∀ r, r ∈ X → 0 ≤ r ∧ r ≤ (m : Int)) (hs : ∀ g, v.ownBlock = some g → g ≠ nb ∧ lv.ownBlock ≠ some g) (hBw : B ≤ w.heap.size) (hXl : X.length ≤ 1048576) :
    Calls Try.prog 54 #[lv, .slice (some ⟨nb, 0, none⟩) (m + 1) (m + 1), v] w fun e w' => ∃ lv', e = .returned lv' ∧
      RMeet B m w' nb lv' (meetAll L X) ∧ Chg (fun x => x = nb ∨ lv.ownBlock = some x) w w' ∧ ∀ x, lv'.ownBlock = some x → lv.ownBlock = some x ∨ w.heap.size ≤ x := by
  obtain ⟨i0, hi, hz0, hz1, hz2⟩ := info_parts infoInt
  obtain ⟨A, c, rfl⟩ := hv.shape
  have H := hid h
  have HV := hid hv
  have HX := hid hX
  have HS := hid hs
  have hmm := h.mm
  have hne := h.ne
  have hXl' : (X.length : Int) ≤ 1048576 := by omega
  clear h hv hX hs
  go_enter Try.func54, Try.ntmps54
  go_wp2_with fail
  go_loopw [0, 7] (fun s0 i wr => ∃ (k : Nat) (lvr : Value), k ≤ X.length ∧ i = .int .i64 k ∧ lvr = s0 ∧ RMeet B m wr nb lvr (meetAll L (X.take k)) ∧ Chg (fun x => x = nb ∨ lv.ownBlock = some x) w wr ∧ ∀ x, lvr.ownBlock = some x → lv.ownBlock = some x ∨ w.heap.size ≤ x) (fun _ i _ => X.length - (intOf i).toNat)
  case atStart => exact ⟨0, lv, by omega, rfl, rfl, by simpa [meetAll] using H.out, Chg.refl _ _, fun x hx => .inl hx⟩
  case round =>
    obtain ⟨k, lvr, hk, rfl, rfl, hm, hc, hn⟩ := hrel
    have HM := hid hm
    have HC := hid hc
    have HN := hid hn
    by_cases hlt : k < X.length
    · have hlt' : (k : Int) < (X.length : Int) := by omega
      have hsn := hid (meetAll_snoc L X hlt)
      obtain ⟨r, hr⟩ : ∃ r, r = X.getD k 0 := ⟨_, rfl⟩
      have hr0 := HX.out r (by rw [hr, List.getD_eq_getElem?_getD, List.getElem?_eq_getElem hlt]; exact List.getElem_mem hlt)
      rcases HV.out with ⟨rfl, _⟩ | ⟨g, c', he, hg1, hg2⟩
      · simp at hlt
      · injection he with he1 _ he2
        subst he1 he2
        have hcell := (hc.cell (o := k) hg1 (by have := HS.out g rfl; rintro (h | h); exact this.1 h; exact this.2 h)).trans (hg2 k hlt)
        rw [← hr] at hcell hsn
        obtain ⟨Lk, hLk⟩ : ∃ Lk, Lk = meetAll L (X.take k) := ⟨_, rfl⟩
        rw [← hLk] at HM hsn hm
        obtain ⟨i, hri⟩ : ∃ i : Nat, r = (i : Int) := ⟨r.toNat, by omega⟩
        subst hri
        have hnum := hm.num.cell (i := i) (by omega)
        have hnfz := hm.num.frozen i
        have hnlt := hm.num.lt
        have him : (i : Int) < ((m + 1 : Nat) : Int) := by omega
        have hlen := hm.len
        have hBs : B ≤ wr.heap.size := Nat.le_trans hBw hc.size
        clear hm hc hn hr hLk hg2
        by_cases h0 : (i : Int) = 0
        · have h0' : ((i : Int) != 0) = false := ne_false_of h0
          go_wp2_with fail
          go_roundw
          case rel =>
            refine ⟨k + 1, _, by omega, by go_num, rfl, ?_, HC.out, HN.out⟩
            rw [hsn.out]
            unfold meet1
            rw [if_pos (.inl h0)]
            exact HM.out
          case measure => simp [intOf]; omega
        · have h0' : ((i : Int) != 0) = true := ne_true_of_ne h0
          by_cases hin : (i : Int) ∈ Lk
          · have hnz := num_in h0 hin
            revert hnum hnz
            generalize num Lk (i : Int) = z
            intro hnum hnz
            go_wp2_with fail
            go_roundw
            case rel =>
              refine ⟨k + 1, _, by omega, by go_num, rfl, ?_, HC.out, HN.out⟩
              rw [hsn.out]
              unfold meet1
              rw [if_pos (.inr hin)]
              exact HM.out
            case measure => simp [intOf]; omega
          · rw [num_out hin] at hnum
            have hll : (Lk.length : Int) ≤ 1048576 := by omega
            obtain ⟨N, hN⟩ : ∃ N, N = Lk.length := ⟨_, rfl⟩
            have hNN := hid hN
            rw [← hN] at hll hlen
            have hown : wr.ownsRow B 3 1 lvr N (Lk.map (Value.int .i64)) := by rw [hN]; exact HM.out.own
            have HO := hid hown
            have hlb := hid (fun x hx => (hown.lt x hx).1)
            have hgw : g < wr.heap.size := Nat.lt_of_lt_of_le hg1 HC.out.size
            have hgn := hid (show ¬ lvr.ownBlock = some g from fun e => by
              rcases HN.out g e with h1 | h1
              · exact (HS.out g rfl).2 h1
              · omega)
            have hnn := hid (show ¬ lvr.ownBlock = some nb from fun e => by have := hlb.out nb e; omega)
            clear hN hown
            go_wp2_with (at_builtin; refine wpList_append_lies _ rfl _ _ 89 rfl B 3 i0 (.int .i64 0) 1 8 Try.underlying89 hi hz0 hz1 hz2 rfl (by decide) _ _ _ rfl (HO.out.alloc _) ⟨wr.heap.size, 0, none⟩ 1 1 [.int .i64 i] rfl rfl (one_lies (by simp)) (by intro u hu; simp at hu; subst hu; rfl) (by decide) (by unfold maxLen; omega) (by omega) (by first | omega | (simp; omega)) _ rfl ?_; intro g5 cap5 w5 hown5 hgrow5 hat5 hlt5; have hc5 : Chg (fun x => lvr.ownBlock = some x) wr w5 := Chg.grown (by (repeat (first | with_reducible exact Chg.refl _ _ | with_reducible apply Chg.drewN | with_reducible apply Chg.drew | with_reducible apply Chg.alloc | (with_reducible refine Chg.setCell ?_ ?_ _; rotate_left; focus (first | (refine Or.inr ?_; first | omega | (simp; done) | (simp; omega)) | exact Or.inl (by assumption) | with_reducible exact Or.inl rfl | exact Or.inl (by simp))) | refine Chg.trans ?_ (Chg.of_below (by with_reducible assumption) (fun k h1 h2 => absurd h1 (by first | omega | (simp; omega)))) | refine Chg.trans ?_ (by with_reducible assumption)))) hgrow5 (fun x hx => .inl hx); have n1 := (hc5.cell (o := i) hnlt hnn.out).trans hnum; have n2 := (hc5.frozen (o := i) hnlt hnn.out).trans hnfz; have n3 := (hc5.cell (o := k) hgw hgn.out).trans hcell; have HC5 := hid hc5; have HO5 := hid hown5; have HA5 : Hid (lvr.ownBlock = some g5 ∨ wr.heap.size ≤ g5) := (by rcases hat5 with h | h; exact .inl h; exact .inr (by simp at h; omega)); clear hc5 hown5 hgrow5 hat5)
            go_roundw
            case rel =>
              have c6 : Chg (fun x => x = nb) w5 (w5.setCell ⟨nb, i, none⟩ (.int .u64 ((N : Int) + 1))) := (Chg.refl (fun x => x = nb) w5).setCell (p := ⟨nb, i, none⟩) (.inl rfl) _
              have hnr5 : w5.rowIs nb 29 (m + 1) (fun j => .int .u64 (num Lk (j : Int))) := HC5.out.row HM.out.num hnn.out
              have hg5 : ∀ x, (Value.slice (some ⟨g5, 0, none⟩) (N + 1) cap5).ownBlock = some x → lvr.ownBlock = some x ∨ wr.heap.size ≤ x := fun x hx => by
                have e : g5 = x := by simpa [Value.ownBlock] using hx
                subst e
                exact HA5.out
              refine ⟨k + 1, .slice (some ⟨g5, 0, none⟩) (N + 1) cap5, by omega, by go_num, rfl, ?_, (HC.out.next HC5.out (fun x hx h => ?_)).next c6 (fun x hx h => .inl h), fun x hx => ?_⟩
              · rw [hsn.out]
                unfold meet1
                rw [if_neg (by rintro (h | h); exact h0 h; exact hin h)]
                refine ⟨?_, ?_, ?_, ?_, hne, hmm⟩
                · refine (hnr5.set i _).congr (fun j hj => ?_)
                  show (if j = i then (Value.int .u64 ((N : Int) + 1)) else _) = _
                  rw [num_snoc h0 hin, ← hNN.out]
                  by_cases e : j = i
                  · subst e; rw [if_pos rfl, if_pos rfl]
                  · rw [if_neg e, if_neg (by omega)]
                · have e1 : (Lk ++ [(i : Int)]).length = N + 1 := by rw [List.length_append, ← hNN.out]; rfl
                  rw [e1, List.map_append]
                  refine c6.owns HO5.out (fun x hx e => ?_)
                  rcases hg5 x hx with h | h
                  · have := hlb.out x h; omega
                  · omega
                · rw [List.nodup_append]
                  exact ⟨HM.out.nd, by simp, fun a ha b hb => by simp at hb; subst hb; exact fun e => hin (e ▸ ha)⟩
                · intro s hs
                  rcases List.mem_append.1 hs with h | h
                  · exact HM.out.rng s h
                  · simp at h; subst h; omega
              · rcases HN.out x h with h1 | h1
                · exact .inr h1
                · omega
              · rcases hg5 x hx with h | h
                · exact HN.out x h
                · have := HC.out.size; right; omega
            case measure => simp [intOf]; omega
    · obtain rfl : k = X.length := by omega
      rw [List.take_length] at HM
      go_wp2_with fail
      go_ret
      exact ⟨_, rfl, HM.out, HC.out, HN.out⟩
end Go.Proofs.Ytcdllelbdcacjaa.R
