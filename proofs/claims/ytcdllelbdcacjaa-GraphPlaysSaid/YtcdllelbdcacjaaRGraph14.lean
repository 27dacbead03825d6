/-
  The document's graph (layer 13): what is come to, in its order: 'order'.
-/
import Derived.Test.YtcdllelbdcacjaaRGraph13
set_option linter.unusedVariables false
set_option linter.unusedSimpArgs false
namespace Go.Proofs.Ytcdllelbdcacjaa.R
open Go.RowKit

theorem st_len {dcap : Nat} {w : World} {b : GB} {g : GS} (h : GAt dcap w b g) {t : Nat} (ht : t < g.n) : (g.st t).length ≤ 1048576 := by
  have := (h.stk t ht).len
  have := (h.stk t ht).most
  omega

set_option maxRecDepth 100000 in
set_option maxHeartbeats 4000000 in
theorem order_any {dcap : Nat} (w : World) (b : GB) (g : GS) (h : GAt dcap w b g) :
    Calls Try.prog 43 #[.pointer (some ⟨b.p, 0, none⟩)] w fun e w' => ∃ (B nb : Nat) (lv : Value), e = .returned (.tuple #[lv, .slice (some ⟨nb, 0, none⟩) (g.m + 1) (g.m + 1)]) ∧ RMeet B g.m w' nb lv g.reach ∧ Chg (fun _ => False) w w' ∧ w.heap.size ≤ nb := by
  have H := hid h
  have hpl := h.lt .p b.p rfl
  have hths := h.ths
  have hobj := h.objs
  have hmk := run_make_row' (P := Try.prog) 71 29 (.int .u64 0) 8 Try.underlying71 info64 rfl .i64 .i64 (g.m + 1) (by omega) (by omega)
  obtain ⟨A, cap, hsh⟩ : ∃ (A : Option Addr) (c : Nat), b.tv = .slice A g.n c := by
    obtain ⟨T, hT, _⟩ := h.thr
    rcases hT.2 with ⟨hv, hn⟩ | ⟨q, cap, cur, hv, _⟩
    · exact ⟨none, 0, by rw [hv, hn]⟩
    · exact ⟨_, _, hv⟩
  rw [hsh] at hths
  have HSH := hid hsh
  obtain ⟨Ao, co, hov⟩ : ∃ (A : Option Addr) (c : Nat), b.ov = .slice A g.m c := by
    obtain ⟨O, hO, _⟩ := h.obj
    rcases hO.2 with ⟨hv, hn⟩ | ⟨q, cap, cur, hv, _⟩
    · exact ⟨none, 0, by rw [hv, hn]⟩
    · exact ⟨_, _, hv⟩
  have hobs := h.obs
  rw [hov] at hobs
  have HOV := hid hov
  simp only [show ((g.m + 1 : Nat) : Int) = (g.m : Int) + 1 from by omega] at hmk
  have hn64 : (g.n : Int) ≤ 64 := by have := h.n64; omega
  clear h hsh hov
  go_enter Try.func43, Try.ntmps43
  go_wp2_with fail
  have hM : RMeet (w.heap.size + 1) g.m (w.alloc (.cells (madeCells #[.int .u64 0] (g.m + 1)) 29)) w.heap.size (.slice none 0 0) (meetThreads g 0) :=
    ⟨⟨_, heap_alloc_new w _, size_madeCells _ _, fun j hj => by simp [madeCells, hj, Nat.mod_one, num, meetThreads]⟩, World.ownsRow_nil _ _ _ _, by simp [meetThreads], by simp [meetThreads], by omega, hobj⟩
  have HM0 := hid hM
  clear hM hmk
  go_loopw [4, 6] (fun s4 i wr => ∃ (k : Nat) (lv : Value), k ≤ g.n ∧ i = .int .i64 k ∧ lv = s4 ∧ RMeet (w.heap.size + 1) g.m wr w.heap.size lv (meetThreads g k) ∧ Chg (fun _ => False) w wr ∧ w.heap.size + 1 ≤ wr.heap.size) (fun _ i _ => g.n - (intOf i).toNat)
  case atStart => exact ⟨0, _, by omega, rfl, rfl, HM0.out, (Chg.refl _ _).alloc _, by simp⟩
  case round =>
    obtain ⟨k, lv, hk, rfl, rfl, hm, hc, hsz⟩ := hrel
    have HM := hid hm
    have HC := hid hc
    have hths1 := (hc.cell (o := 2) hpl (by simp)).trans hths
    have hpl1 : b.p < wr.heap.size := Nat.lt_of_lt_of_le hpl hc.size
    by_cases hlt : k < g.n
    · have hlt' : (k : Int) < (g.n : Int) := by omega
      have hgw := H.out.quiet hc
      obtain ⟨q, hq⟩ : ∃ q cap', b.tv = .slice (some ⟨q, 0, none⟩) g.n cap' := by
        obtain ⟨q, cap', hv, _⟩ := hgw.thrAt hlt
        exact ⟨q, cap', hv⟩
      obtain ⟨cap', hv⟩ := hq
      have hAq : A = some ⟨q, 0, none⟩ := by
        have := HSH.out.symm.trans hv
        injection this
      have q1 := thr_cell hgw hlt hv
      have hql : q < wr.heap.size := hgw.lt .th q (by show b.tv.ownBlock = _; rw [hv]; rfl)
      have hst := hgw.stk k hlt
      have hsv := hst.val
      obtain ⟨A2, c2, hsh2⟩ := hst.shape
      have hSl := hgw.lt (.st k) (b.S k) (if_pos hlt)
      have hX := hid (fun r (hr : r ∈ g.st k) => H.out.okS k hlt r hr)
      have hXl := st_len H.out hlt
      have HR := hid (rsrc_of_owns hst.own)
      have hsb := hid (fun x (hx : (b.sv k).ownBlock = some x) => H.out.lt (.ls k) x (by show (if k < g.n then _ else none) = _; rw [if_pos hlt]; exact hx))
      have hstep := hid (show meetThreads g (k + 1) = meetAll (meetThreads g k) (g.st k) from rfl)
      rw [hsh2] at hsv HR hsb
      subst hAq
      clear hm hc hgw hv hst hsh2
      go_wp2_with (go_at_call 54; refine (meet_any wr (w.heap.size + 1) g.m w.heap.size lv (.slice A2 (g.st k).length c2) (meetThreads g k) (g.st k) HM.out HR.out hX.out (fun x hx => (by have h1 := hsb.out x hx; refine ⟨by omega, fun e => ?_⟩; have := (HM.out.own.lt x e).1; omega)) (by omega) hXl).mono ?_; rintro e w3 ⟨lv3, rfl, hm3, hc3, hn3⟩; have HM3 := hid hm3; have HC3 := hid hc3; clear hm3 hc3 hn3)
      go_roundw
      case rel =>
        refine ⟨k + 1, lv3, by omega, by go_num, rfl, by rw [hstep.out]; exact HM3.out, HC.out.next HC3.out (fun i hi h => ?_), by have := HC3.out.size; omega⟩
        rcases h with h | h
        · omega
        · have := (HM.out.own.lt i h).1; omega
      case measure => simp [intOf]; omega
    · obtain rfl : k = g.n := by omega
      clear hm hc
      go_wp2_with fail
      go_loopw [4, 7] (fun s4 i wr => ∃ (k : Nat) (lv : Value) (L : List Int), k ≤ L.length ∧ i = .int .i64 k ∧ lv = s4 ∧ RMeet (w.heap.size + 1) g.m wr w.heap.size lv L ∧ walkL g (g.m + 1 - k) k L = g.reach ∧ Chg (fun _ => False) w wr ∧ w.heap.size + 1 ≤ wr.heap.size) (fun _ i _ => g.m + 1 - (intOf i).toNat)
      case atStart => exact ⟨0, lv, _, by omega, rfl, rfl, HM.out, rfl, HC.out, hsz⟩
      case round =>
        rename_i wr0
        obtain ⟨k, lv, L, hk, rfl, rfl, hm, hw, hc, hsz⟩ := hrel
        have hLm := hm.len
        obtain ⟨A', cap', hlv⟩ := hm.shape
        have HM := hid hm
        have HC := hid hc
        have HW := hid hw
        have hll : (L.length : Int) ≤ 1048576 := by omega
        by_cases hlt : k < L.length
        · have hlt' : (k : Int) < (L.length : Int) := by omega
          obtain ⟨g2, cap2, hlv2, hg1, hg2⟩ := hm.own.form (by omega)
          have hc2 := hm.own.cells (g := g2) (by rw [hlv2]; rfl) k (.int .i64 (L.getD k 0)) (by simp [hlt])
          rw [Go.WideShapes.add_plain, Nat.zero_add] at hc2
          obtain ⟨r, hr⟩ : ∃ r, r = L.getD k 0 := ⟨_, rfl⟩
          have hr0 := hm.rng r (by rw [hr, List.getD_eq_getElem?_getD, List.getElem?_eq_getElem hlt]; exact List.getElem_mem hlt)
          obtain ⟨i, hri⟩ : ∃ i : Nat, r = (i : Int) + 1 := ⟨(r - 1).toNat, by omega⟩
          have him : i < g.m := by omega
          have hgw := H.out.quiet hc
          obtain ⟨qo, capo, hov, hqo, o1, o2⟩ := hgw.objAt him
          have hobs1 := hgw.obs
          rw [hov] at hobs1
          have hplr : b.p < wr.heap.size := by have := hc.size; omega
          have e2 : (i : Int) + 1 - 1 = (i : Int) := by omega
          have hig : (i : Int) < (g.m : Int) := by omega
          have e3 : IntKind.i64.wrap (i : Int) = (i : Int) := IntWalk.i64_in _ (by omega)
          have hstep := hid (show walkL g (g.m + 1 - (k + 1)) (k + 1) (meetAll L (g.rf i)) = g.reach by
            rw [← hw, show g.m + 1 - k = (g.m + 1 - (k + 1)) + 1 by omega]
            show _ = (if k < L.length then walkL g _ (k + 1) (meetAll L (g.rfOf (L.getD k 0))) else L)
            rw [if_pos hlt]
            unfold GS.rfOf
            rw [← hr, hri, show ((i : Int) + 1 - 1).toNat = i by omega])
          rw [← hr, hri] at hc2
          have HX := hid (fun r (hr : r ∈ g.rf i) => hgw.okR i him r hr)
          have HR := hid (hgw.rfs i him)
          have hXl := (hgw.small i him).1
          have hRlt : b.R i < w.heap.size := H.out.lt (.rf i) (b.R i) (if_pos him)
          have hMr : g.m ≤ 9223372036854775807 := Nat.le_trans hobj (by decide)
          have hAg : A' = some ⟨g2, 0, none⟩ ∧ cap' = cap2 := by
            have := hlv.symm.trans hlv2
            injection this with h1 h2 h3
            exact ⟨h1, h3⟩
          obtain ⟨rfl, rfl⟩ := hAg
          subst hlv
          clear hm hw hc hri hr hr0 hgw hov hlv2
          go_upto_region 10 with fail
          go_region_law (first
            | (go_simp; go_at_call 54; refine (meet_any _ (w.heap.size + 1) g.m w.heap.size (.slice (some ⟨g2, 0, none⟩) L.length cap') _ L (g.rf i) (HM.out.chg (S := fun _ => False) (by (repeat (first | with_reducible exact Chg.refl _ _ | with_reducible apply Chg.drewN | with_reducible apply Chg.drew | with_reducible apply Chg.alloc | (with_reducible refine Chg.setCell ?_ ?_ _; rotate_left; focus (first | (refine Or.inr ?_; first | omega | (simp; done) | (simp; omega)) | exact Or.inl (by assumption) | with_reducible exact Or.inl rfl | exact Or.inl (by simp))) | refine Chg.trans ?_ (Chg.of_below (by with_reducible assumption) (fun k h1 h2 => absurd h1 (by first | omega | (simp; omega)))) | refine Chg.trans ?_ (by with_reducible assumption)))) (by simp) (by simp)) (rsrc_of_row (c := (g.rf i).length) (Chg.row (S := fun _ => False) (by (repeat (first | with_reducible exact Chg.refl _ _ | with_reducible apply Chg.drewN | with_reducible apply Chg.drew | with_reducible apply Chg.alloc | (with_reducible refine Chg.setCell ?_ ?_ _; rotate_left; focus (first | (refine Or.inr ?_; first | omega | (simp; done) | (simp; omega)) | exact Or.inl (by assumption) | with_reducible exact Or.inl rfl | exact Or.inl (by simp))) | refine Chg.trans ?_ (Chg.of_below (by with_reducible assumption) (fun k h1 h2 => absurd h1 (by first | omega | (simp; omega)))) | refine Chg.trans ?_ (by with_reducible assumption)))) HR.out (by simp))) HX.out (fun x hx => (by simp [Value.ownBlock] at hx ⊢; omega)) (by first | omega | (simp; omega)) hXl).mono ?_; rintro e w3 ⟨lv3, rfl, hm3, hc3, hn3⟩; have HM3 := hid hm3; have HC3 := hid hc3; clear hm3 hc3 hn3))
          all_goals (
            go_wp2_with fail
            go_roundw
            case rel =>
              refine ⟨k + 1, lv3, _, ?_, by go_num, rfl, HM3.out, hstep.out, (HC.out.drew).next HC3.out (fun i hi h => ?_), by have := HC3.out.size; simp at this; omega⟩
              · have h1 : ∀ (X L : List Int), L.length ≤ (meetAll L X).length := fun X => by
                  induction X with
                  | nil => intro L; exact Nat.le_refl _
                  | cons x X ih => intro L; refine Nat.le_trans ?_ (ih (meet1 L x)); unfold meet1; split <;> simp
                have := h1 (g.rf i) L
                omega
              · rcases h with h | h
                · omega
                · simp [Value.ownBlock] at h; omega
            case measure => simp [intOf]; omega)
        · obtain rfl : k = L.length := by omega
          subst hlv
          clear hm hc hw
          go_wp2_with fail
          go_ret2
          have e : g.reach = L := by
            rw [← HW.out, show g.m + 1 - L.length = (g.m - L.length) + 1 by omega]
            show (if L.length < L.length then _ else L) = L
            rw [if_neg (by omega)]
          rw [e]
          exact ⟨w.heap.size + 1, w.heap.size, _, rfl, HM.out, HC.out, Nat.le_refl _⟩
end Go.Proofs.Ytcdllelbdcacjaa.R
