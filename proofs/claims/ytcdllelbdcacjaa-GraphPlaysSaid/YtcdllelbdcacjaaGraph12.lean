/-
  Graphs (layer 13): how many words can be come to.
-/
import Derived.Test.YtcdllelbdcacjaaGraph11
set_option linter.unusedVariables false
set_option linter.unusedSimpArgs false
namespace Go.Proofs.Ytcdllelbdcacjaa
open Go.RowKit Go.Maps

def GS.dtOf (g : GS) (r : Int) : List Int := g.dt (r - 1).toNat
def wordsOf (g : GS) : List Int → Int
  | [] => 0
  | r :: L => 1 + (g.rfOf r).length + (g.dtOf r).length + wordsOf g L
def GS.words (g : GS) : Int := wordsOf g g.reach

theorem wordsOf_append (g : GS) : ∀ L L' : List Int, wordsOf g (L ++ L') = wordsOf g L + wordsOf g L'
  | [], L' => by simp [wordsOf]
  | r :: L, L' => by simp only [List.cons_append, wordsOf, wordsOf_append g L L']; omega
theorem take_snoc {L : List Int} {k : Nat} (hk : k < L.length) : L.take (k + 1) = L.take k ++ [L.getD k 0] := by
  rw [List.take_add_one, List.getD_eq_getElem?_getD, List.getElem?_eq_getElem hk]
  rfl
theorem wordsOf_snoc (g : GS) {L : List Int} {k : Nat} (hk : k < L.length) : wordsOf g (L.take (k + 1)) = wordsOf g (L.take k) + (1 + (g.rfOf (L.getD k 0)).length + (g.dtOf (L.getD k 0)).length) := by
  rw [take_snoc hk, wordsOf_append]
  simp [wordsOf]

/-- a list in the walk's hands: a place of it -/
theorem MeetAt.cell {B m : Nat} {w : World} {Mv Lv M : Nat} {lv : Value} {L : List Int} (h : MeetAt B m w Mv Lv M lv L) {k : Nat} (hk : k < L.length) : ∃ (q cap i : Nat), lv = .slice (some ⟨q, 0, none⟩) L.length cap ∧ B ≤ q ∧ q < w.heap.size ∧ w.cell? ⟨q, k, none⟩ = some (.int .u64 ((i : Int) + 1)) ∧ L.getD k 0 = (i : Int) + 1 ∧ i < m := by
  obtain ⟨q, cap, hlv, hg1, hg2⟩ := h.own.form (by omega)
  have hc2 := h.own.cells (g := q) (by rw [hlv]; rfl) k (.int .u64 (L.getD k 0)) (by simp [hk])
  rw [Go.WideShapes.add_plain, Nat.zero_add] at hc2
  have hr0 := h.rng (L.getD k 0) (by rw [List.getD_eq_getElem?_getD, List.getElem?_eq_getElem hk]; exact List.getElem_mem hk)
  refine ⟨q, cap, (L.getD k 0 - 1).toNat, hlv, hg1, hg2, ?_, by omega, by omega⟩
  rw [hc2]
  congr 2
  omega
theorem MeetAt.shape {B m : Nat} {w : World} {Mv Lv M : Nat} {lv : Value} {L : List Int} (h : MeetAt B m w Mv Lv M lv L) : ∃ (A : Option Addr) (c : Nat), lv = .slice A L.length c := by
  rcases h.own.2 with ⟨hv, hn⟩ | ⟨q, cap, cur, hv, _⟩
  · exact ⟨none, 0, by rw [hv, hn]⟩
  · exact ⟨_, _, hv⟩

theorem graph_words_nil (w : World) : Calls Try.prog 34 #[.pointer none] w fun e w' => e = .returned (.int .i64 0) ∧ w = w' := by
  go_enter Try.func34, Try.ntmps34
  go_wp2
  go_ret
  exact ⟨rfl, rfl⟩

theorem wordsOf_le {w : World} {b : GB} {g : GS} (h : GAt w b g) : ∀ L : List Int, (∀ r, r ∈ L → 1 ≤ r ∧ r ≤ (g.m : Int)) → 0 ≤ wordsOf g L ∧ wordsOf g L ≤ 2097153 * (L.length : Int)
  | [], _ => by simp [wordsOf]
  | r :: L, hr => by
    obtain ⟨h1, h2⟩ := wordsOf_le h L (fun x hx => hr x (by simp [hx]))
    have h3 := hr r (by simp)
    have h4 := h.small (r - 1).toNat (by omega)
    have h5 : (g.rfOf r).length ≤ 1048576 := h4.1
    have h6 : (g.dtOf r).length ≤ 1048576 := h4.2
    simp only [wordsOf, List.length_cons]
    omega

set_option maxRecDepth 100000 in
set_option maxHeartbeats 4000000 in
theorem graph_words (w : World) (b : GB) (g : GS) (h : GAt w b g) :
    Calls Try.prog 34 #[.pointer (some ⟨b.p, 0, none⟩)] w fun e w' => e = .returned (.int .i64 g.words) ∧ Chg (fun _ => False) w w' := by
  have H := hid h
  have hW := walk_any w b g h
  obtain ⟨L, hL⟩ : ∃ L, L = g.reach := ⟨_, rfl⟩
  rw [show g.words = wordsOf g g.reach from rfl]
  rw [← hL] at hW ⊢
  have HW := hid hW
  clear h hL hW
  go_enter Try.func34, Try.ntmps34
  go_wp2_with (go_at_call 40; refine HW.out.mono ?_; rintro e w1 ⟨B, Mv, Lv, M, lv, rfl, hm, hc, hM⟩; have HM := hid hm; have HC := hid hc; have HMM := hid hM; obtain ⟨A, c, hlv⟩ := hm.shape; have hlen := hm.len; have hmm := hm.mm; have hll : (L.length : Int) ≤ 1048576 := (by omega); subst hlv; clear hm hc hM)
  go_loopw [5, 17] (fun s5 i wr => ∃ k : Nat, k ≤ L.length ∧ i = .int .i64 k ∧ s5 = .int .i64 (wordsOf g (L.take k)) ∧ Chg (fun _ => False) w1 wr) (fun _ i _ => L.length - (intOf i).toNat)
  case atStart => exact ⟨0, by omega, rfl, by simp [wordsOf], Chg.refl _ _⟩
  case round =>
    obtain ⟨k, hk, rfl, rfl, hc⟩ := hrel
    have HC2 := hid hc
    by_cases hlt : k < L.length
    · have hlt' : (k : Int) < (L.length : Int) := by omega
      obtain ⟨q, cap, i, hlv, hq1, hq2, hc2, hri, him⟩ := HM.out.cell hlt
      injection hlv with hA _ hcap
      subst hA hcap
      have hc3 := (hc.cell (o := k) hq2 (by simp)).trans hc2
      have hgw := H.out.quiet (HC.out.trans hc)
      obtain ⟨qo, capo, hov, hqo, o1, o2⟩ := hgw.objAt him
      have hobs := hgw.obs
      rw [hov] at hobs
      have hplr : b.p < wr.heap.size := hgw.lt .p b.p rfl
      have e1 : IntKind.u64.wrap ((i : Int) + 1 - 1) = (i : Int) := by rw [IntKind.wrap_u64]; omega
      have e2 : (i : Int) + 1 - 1 = (i : Int) := by omega
      have e3 : IntKind.u64.wrap (i : Int) = (i : Int) := by rw [IntKind.wrap_u64]; omega
      have hig : (i : Int) < (g.m : Int) := by omega
      have hMr : g.m ≤ 9223372036854775807 := Nat.le_trans hmm (by decide)
      have hs1 : ((g.rf i).length : Int) ≤ 1048576 := by have := (hgw.small i him).1; omega
      have hs2 : ((g.dt i).length : Int) ≤ 1048576 := by have := (hgw.small i him).2; omega
      have hsn := wordsOf_snoc g hlt
      rw [hri] at hsn
      have hrf : g.rfOf ((i : Int) + 1) = g.rf i := by unfold GS.rfOf; rw [show ((i : Int) + 1 - 1).toNat = i by omega]
      have hdf : g.dtOf ((i : Int) + 1) = g.dt i := by unfold GS.dtOf; rw [show ((i : Int) + 1 - 1).toNat = i by omega]
      rw [hrf, hdf] at hsn
      have hbd := wordsOf_le H.out (L.take k) (fun r hr => HM.out.rng r (List.mem_of_mem_take hr))
      have hbl : ((L.take k).length : Int) ≤ 1048576 := by rw [List.length_take]; omega
      have HSN := hid hsn
      have hb0 := hbd.1
      have hb1 : wordsOf g (L.take k) ≤ 2199024304128 := by omega
      clear hbd hbl hsn hrf hdf hgw hov hc hc2 hri
      revert hb0 hb1 HSN
      generalize wordsOf g (L.take k) = a
      intro HSN hb0 hb1
      go_upto_region 8 with fail
      go_quiet (fail)
      go_wp2_with fail
      go_roundw
      case rel => exact ⟨k + 1, by omega, by go_num, by rw [HSN.out], HC2.out.drewN _⟩
      case measure => simp [intOf]; omega
    · obtain rfl : k = L.length := by omega
      rw [List.take_length]
      go_wp2_with fail
      go_ret
      exact ⟨rfl, HC.out.trans HC2.out⟩
end Go.Proofs.Ytcdllelbdcacjaa
