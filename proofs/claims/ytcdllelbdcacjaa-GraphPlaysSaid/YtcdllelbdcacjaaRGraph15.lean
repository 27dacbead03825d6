/-
  The document's graph (layer 13): how many words can be come to.
-/
import Derived.Test.YtcdllelbdcacjaaRGraph14
set_option linter.unusedVariables false
set_option linter.unusedSimpArgs false
namespace Go.Proofs.Ytcdllelbdcacjaa.R
open Go.RowKit

/-- a place of the list: the object there -/
theorem RMeet.cell {dcap B : Nat} {w wr : World} {b : GB} {g : GS} {nb : Nat} {lv : Value} {L : List Int} (h : RMeet B g.m wr nb lv L) (hg : GAt dcap wr b g) {k : Nat} (hk : k < L.length) : ∃ (q cap i qo co : Nat), lv = .slice (some ⟨q, 0, none⟩) L.length cap ∧ q < wr.heap.size ∧ wr.cell? ⟨q, k, none⟩ = some (.int .i64 ((i : Int) + 1)) ∧ L.getD k 0 = (i : Int) + 1 ∧ i < g.m ∧
    wr.cell? ⟨b.p, 1, none⟩ = some (.slice (some ⟨qo, 0, none⟩) g.m co) ∧ qo < wr.heap.size ∧ b.p < wr.heap.size ∧ wr.cell? ⟨qo, i * 2, none⟩ = some (.slice (some ⟨b.R i, 0, none⟩) (g.rf i).length (g.rf i).length) ∧
    wr.cell? ⟨qo, i * 2 + 1, none⟩ = some (.slice (some ⟨b.D i, 0, none⟩) (g.dt i).length (g.dt i).length) ∧ (g.rf i).length ≤ 1048576 ∧ (g.dt i).length ≤ 1048576 ∧ g.rfOf ((i : Int) + 1) = g.rf i ∧ g.dtOf ((i : Int) + 1) = g.dt i := by
  obtain ⟨q, cap, hlv, hg1, hg2⟩ := h.own.form (by omega)
  have hc2 := h.own.cells (g := q) (by rw [hlv]; rfl) k (.int .i64 (L.getD k 0)) (by simp [hk])
  rw [Go.WideShapes.add_plain, Nat.zero_add] at hc2
  have hr0 := h.rng (L.getD k 0) (by rw [List.getD_eq_getElem?_getD, List.getElem?_eq_getElem hk]; exact List.getElem_mem hk)
  obtain ⟨i, hri⟩ : ∃ i : Nat, L.getD k 0 = (i : Int) + 1 := ⟨(L.getD k 0 - 1).toNat, by omega⟩
  have him : i < g.m := by omega
  obtain ⟨qo, co, hov, hqo, o1, o2⟩ := hg.objAt him
  have hobs := hg.obs
  rw [hov] at hobs
  rw [hri] at hc2
  exact ⟨q, cap, i, qo, co, hlv, hg2, hc2, hri, him, hobs, hqo, hg.lt .p b.p rfl, o1, o2, (hg.small i him).1, (hg.small i him).2, by unfold GS.rfOf; rw [show ((i : Int) + 1 - 1).toNat = i by omega], by unfold GS.dtOf; rw [show ((i : Int) + 1 - 1).toNat = i by omega]⟩

theorem wordsOf_le {dcap : Nat} {w : World} {b : GB} {g : GS} (h : GAt dcap w b g) : ∀ L : List Int, (∀ r, r ∈ L → 1 ≤ r ∧ r ≤ (g.m : Int)) → 0 ≤ wordsOf g L ∧ wordsOf g L ≤ 2097153 * (L.length : Int)
  | [], _ => by simp [wordsOf]
  | r :: L, hr => by
    obtain ⟨h1, h2⟩ := wordsOf_le h L (fun x hx => hr x (by simp [hx]))
    have h3 := hr r (by simp)
    have h4 := h.small (r - 1).toNat (by omega)
    have h5 : (g.rfOf r).length ≤ 1048576 := h4.1
    have h6 : (g.dtOf r).length ≤ 1048576 := h4.2
    simp only [wordsOf, List.length_cons]
    omega

set_option maxRecDepth 100000 in
set_option maxHeartbeats 4000000 in
theorem graph_words {dcap : Nat} (w : World) (b : GB) (g : GS) (h : GAt dcap w b g) :
    Calls Try.prog 35 #[.pointer (some ⟨b.p, 0, none⟩)] w fun e w' => e = .returned (.int .i64 g.words) ∧ Chg (fun _ => False) w w' := by
  have H := hid h
  have hW := order_any w b g h
  obtain ⟨L, hL⟩ : ∃ L, L = g.reach := ⟨_, rfl⟩
  rw [show g.words = wordsOf g g.reach from rfl]
  rw [← hL] at hW ⊢
  have HW := hid hW
  clear h hL hW
  go_enter Try.func35, Try.ntmps35
  go_wp2_with (go_at_call 43; refine HW.out.mono ?_; rintro e w1 ⟨B, nb, lv, rfl, hm, hc, hnb⟩; have HM := hid hm; have HC := hid hc; have HNB := hid hnb; obtain ⟨Al, cl, hlv⟩ := hm.shape; have hlen := hm.len; have hmm := hm.mm; have hll : (L.length : Int) ≤ 1048576 := (by omega); subst hlv; clear hm hc hnb)
  go_loopw [5, 6] (fun s5 i wr => ∃ k : Nat, k ≤ L.length ∧ i = .int .i64 k ∧ s5 = .int .i64 (wordsOf g (L.take k)) ∧ Chg (fun _ => False) w1 wr) (fun _ i _ => L.length - (intOf i).toNat)
  case atStart => exact ⟨0, by omega, rfl, by simp [wordsOf], Chg.refl _ _⟩
  case round =>
    obtain ⟨k, hk, rfl, rfl, hc⟩ := hrel
    have HC2 := hid hc
    by_cases hlt : k < L.length
    · have hlt' : (k : Int) < (L.length : Int) := by omega
      have hgw := H.out.quiet (HC.out.trans hc)
      have hmw := HM.out.chg hc (by simp) (by simp)
      obtain ⟨q, cap, i, qo, co, hlv, hql, hcq, hri, him, hobs, hqo, hpl, o1, o2, hs1, hs2, hrf, hdf⟩ := RMeet.cell (w := w) hmw hgw hlt
      have hAq : Al = some ⟨q, 0, none⟩ := by injection hlv
      subst hAq
      have e3 : IntKind.i64.wrap (i : Int) = (i : Int) := IntWalk.i64_in _ (by omega)
      have e2 : (i : Int) + 1 - 1 = (i : Int) := by omega
      have hig : (i : Int) < (g.m : Int) := by omega
      have hMr : g.m ≤ 9223372036854775807 := by omega
      have hs1' : ((g.rf i).length : Int) ≤ 1048576 := by omega
      have hs2' : ((g.dt i).length : Int) ≤ 1048576 := by omega
      have hsn := wordsOf_snoc g hlt
      rw [hri, hrf, hdf] at hsn
      have hbd := wordsOf_le H.out (L.take k) (fun r hr => HM.out.rng r (List.mem_of_mem_take hr))
      have hbl : ((L.take k).length : Int) ≤ 1048576 := by rw [List.length_take]; omega
      have HSN := hid hsn
      have hb0 := hbd.1
      have hb1 : wordsOf g (L.take k) ≤ 2199024304128 := by omega
      clear hbd hbl hsn hrf hdf hgw hmw hlv hc hri
      revert hb0 hb1 HSN
      generalize wordsOf g (L.take k) = a
      intro HSN hb0 hb1
      go_upto_region 6 with fail
      go_cut [7] (fun s7 wx => s7 = .pointer (some ⟨wr.heap.size, 0, none⟩) ∧ Chg (fun _ => False) wr wx ∧ wx.cell? ⟨wr.heap.size, 0, none⟩ = some (.slice (some ⟨b.R i, 0, none⟩) (g.rf i).length (g.rf i).length) ∧ wx.cell? ⟨wr.heap.size, 1, none⟩ = some (.slice (some ⟨b.D i, 0, none⟩) (g.dt i).length (g.dt i).length))
      case first =>
        have ne1 : ¬ b.p = wr.heap.size := by omega
        have ne2 : ¬ q = wr.heap.size := by omega
        have ne3 : ¬ qo = wr.heap.size := by omega
        have ne4 : ¬ wr.heap.size = b.p := by omega
        have ne5 : ¬ wr.heap.size = q := by omega
        have ne6 : ¬ wr.heap.size = qo := by omega
        go_region_held3 (fun wX => wX.cell? ⟨b.p, 1, none⟩ = some (.slice (some ⟨qo, 0, none⟩) g.m co) ∧ wX.cell? ⟨q, k, none⟩ = some (.int .i64 ((i : Int) + 1)) ∧ wX.cell? ⟨qo, i * 2, none⟩ = some (.slice (some ⟨b.R i, 0, none⟩) (g.rf i).length (g.rf i).length) ∧ wX.cell? ⟨qo, i * 2 + 1, none⟩ = some (.slice (some ⟨b.D i, 0, none⟩) (g.dt i).length (g.dt i).length))
          (first | exact ⟨hobs, hcq, o1, o2⟩ | go_keep)
          (first | fail)
        all_goals (
          go_wp2_with fail
          go_meet)
        all_goals exact ⟨rfl, by (repeat (first | with_reducible exact Chg.refl _ _ | with_reducible apply Chg.drewN | with_reducible apply Chg.drew | with_reducible apply Chg.alloc | (with_reducible refine Chg.setCell ?_ ?_ _; rotate_left; focus (first | (refine Or.inr ?_; first | omega | (simp; done) | (simp; omega)) | exact Or.inl (by assumption) | with_reducible exact Or.inl rfl | exact Or.inl (by simp))) | refine Chg.trans ?_ (Chg.of_below (by with_reducible assumption) (fun k h1 h2 => absurd h1 (by first | omega | (simp; omega)))) | refine Chg.trans ?_ (by with_reducible assumption))), by go_simp, by go_simp⟩
      case rest =>
      obtain ⟨rfl, hcc, x0, x1⟩ := hcut
      have HCC := hid hcc
      clear hcc
      go_wp2_with fail
      go_roundw
      case rel => exact ⟨k + 1, by omega, by go_num, by rw [HSN.out], HC2.out.trans HCC.out⟩
      case measure => simp [intOf]; omega
    · obtain rfl : k = L.length := by omega
      rw [List.take_length]
      go_wp2_with fail
      go_ret
      exact ⟨rfl, HC.out.trans HC2.out⟩
end Go.Proofs.Ytcdllelbdcacjaa.R
