/-
  Graphs (layer 13): the walk.
-/
import Derived.Test.YtcdllelbdcacjaaGraph10
set_option linter.unusedVariables false
set_option linter.unusedSimpArgs false
namespace Go.Proofs.Ytcdllelbdcacjaa
open Go.RowKit Go.Maps

def GS.rfOf (g : GS) (r : Int) : List Int := g.rf (r - 1).toNat
def meetThreads (g : GS) : Nat → List Int
  | 0 => []
  | k + 1 => meetAll (meetThreads g k) (g.st k)
def walkL (g : GS) : Nat → Nat → List Int → List Int
  | 0, _, L => L
  | f + 1, i, L => if i < L.length then walkL g f (i + 1) (meetAll L (g.rfOf (L.getD i 0))) else L
/-- what is come to, in its order -/
def GS.reach (g : GS) : List Int := walkL g (g.m + 1) 0 (meetThreads g g.n)

theorem rsrc_of_owns {w : World} {B : Nat} {e : TypeId} {v : Value} {X : List Int} (h : w.ownsRow B e 1 v X.length (X.map (Value.int .u64))) : RSrc w v X := by
  by_cases h0 : X.length = 0
  · obtain rfl : X = [] := List.length_eq_zero_iff.1 h0
    rcases h.2 with ⟨rfl, _⟩ | ⟨g, cap, cur, rfl, _⟩
    · exact .inl ⟨rfl, _, _, rfl⟩
    · exact .inl ⟨rfl, _, _, rfl⟩
  · obtain ⟨g, cap, rfl, hg1, hg2⟩ := h.form (by omega)
    refine .inr ⟨g, cap, rfl, hg2, fun j hj => ?_⟩
    have := h.cells (g := g) rfl j (.int .u64 (X.getD j 0)) (by simp [hj])
    rw [Go.WideShapes.add_plain, Nat.zero_add] at this
    exact this
theorem rsrc_of_row {w : World} {b c : Nat} {e : TypeId} {X : List Int} (h : w.rowIs b e X.length (fun j => .int .u64 (X.getD j 0))) : RSrc w (.slice (some ⟨b, 0, none⟩) X.length c) X :=
  .inr ⟨b, c, rfl, h.lt, fun j hj => h.cell hj⟩

theorem two_heap0 {w : World} {x y : Obj} : ((w.alloc x).alloc y).heap[w.heap.size]? = some x := by
  rw [Below.heap_alloc _ _ _ (by simp)]
  exact heap_alloc_new w x
theorem two_heap1 {w : World} {x y : Obj} : ((w.alloc x).alloc y).heap[w.heap.size + 1]? = some y := by
  have : (w.alloc x).heap.size = w.heap.size + 1 := by simp
  rw [← this]
  exact heap_alloc_new (w.alloc x) y
theorem mst_okS {w : World} {b : GB} {g : GS} (h : GAt w b g) {t : Nat} (ht : t < g.n) : (g.st t).length ≤ 1048576 := by
  have := (h.stk t ht).len
  have := (h.stk t ht).most
  omega

/-- 'm[k] = v' inside a map that is written out -/
theorem wpList_insert_own {H : Type} {P : Program} (w : World) {ops : Array Oper} {rest : List Oper} {o : Oper} {a : Act} {Q : Exit → Act → World → Prop}
    (hg : o.guard = none) (m x v : Operand) (t : TypeId) (hop : o.op = Op.insert t m x v)
    (k e : TypeId) (K : Keyed P k) (ht : P.underlying t = some (.map k e)) (R : Value → Option (DataW H × List MemPlace)) (b n : Nat) (D : DataW H)
    (hm : a.eval m = .map (some b)) (hown : w.ownsMap P k R b n D) (hn : n < maxLen) (key val : Value) (kl : Lit) (hx : a.eval x = key) (hv : a.eval v = val) (hkey : keyOf P k key = some kl)
    (d : DataW H) (ps : List MemPlace) (hval : R val = some (d, ps))
    (hK : ∀ w', w'.ownsMap P k R b (n + 1) (D.put kl d) → w.grownBy w' (some b) → wpList P ops Q rest (a.put o.dst undef) w') :
    wpList P ops Q (o :: rest) a w := by
  refine wpList_plain hg fun K' hK' => ?_
  obtain ⟨w', hrun, r1, r2⟩ := hown.update K ht hn hkey hval
  unfold Oper.wp
  simp [execOp, hop, hm, hx, hv, hrun, Result.andThen]
  exact hK' _ _ (hK w' r1 r2)

theorem numMap_first {w1 : World} {M : Nat} (h : w1.ownsMap Try.prog 30 (plainElem Try.prog 29) M (0 + 1) ((DataW.map [] : DataW Unit).put (.int .u64 0) (.lit (.int .u64 0)))) : NumMap w1 M [] := by
  refine ⟨1, _, by simp, h, fun s => ?_⟩
  by_cases hs : s = 0
  · subst hs
    exact ⟨by rw [atKey_put_same isMap_empty (by simp [WideAt.IsKeyLit])]; simp [num], by rw [has_put_same isMap_empty (by simp [WideAt.IsKeyLit])]; simp⟩
  · have hne : (Lit.int .u64 s) ≠ (Lit.int .u64 0) := fun e => hs (by injection e)
    refine ⟨?_, ?_⟩
    · rw [atKey_put_other hne]
      simp [num, DataW.atKey]
    · rw [has_put_other hne]
      simp [Maps.has, hs]

set_option maxRecDepth 100000 in
set_option maxHeartbeats 4000000 in
theorem walk_any (w : World) (b : GB) (g : GS) (h : GAt w b g) :
    Calls Try.prog 40 #[.pointer (some ⟨b.p, 0, none⟩)] w fun e w' => ∃ (B Mv Lv M : Nat) (lv : Value), e = .returned (.tuple #[.map (some M), lv]) ∧ MeetAt B g.m w' Mv Lv M lv g.reach ∧ Chg (fun _ => False) w w' ∧ w.heap.size ≤ M := by
  have H := hid h
  have hpl := h.lt .p b.p rfl
  have hths := h.ths
  have hkey : keyOf Try.prog 30 (.int .u64 0) = some (.int .u64 0) := keyOf_int_mk Try.underlying30 (by decide)
  have hmm := @run_makeMap Try.prog
  obtain ⟨A, cap, hsh⟩ : ∃ (A : Option Addr) (c : Nat), b.tv = .slice A g.n c := by
    obtain ⟨T, hT, _⟩ := h.thr
    rcases hT.2 with ⟨hv, hn⟩ | ⟨q, cap, cur, hv, _⟩
    · exact ⟨none, 0, by rw [hv, hn]⟩
    · exact ⟨_, _, hv⟩
  rw [hsh] at hths
  have HSH := hid hsh
  clear h hsh
  go_enter Try.func40, Try.ntmps40
  go_upto_region 4 with (refine wpList_insert_own (H := Unit) _ rfl _ _ _ 99 rfl 30 29 keyLaw Try.underlying99 _ w.heap.size 0 (.map []) rfl (World.ownsMap_made _ _ _ _) (by unfold maxLen; omega) _ _ _ rfl rfl hkey _ [] (plainElem_int Try.underlying29 (by decide)) ?_; intro w1 hown1 hgrow1; have HM1 := hid (numMap_first hown1); have hc1 : Chg (fun _ => False) w w1 := Chg.next ((Chg.refl (fun _ => False) w).alloc _) (Chg.grown (S := fun x => x = w.heap.size) (Chg.refl _ _) hgrow1 (fun x hx => .inl (by injection hx with hx; exact hx.symm))) (fun i hi h => by omega); have hs1 := hgrow1.size; (simp at hs1); clear hown1 hgrow1)
  have hM : MeetAt (w1.heap.size + 2) g.m ((w1.alloc (.cells #[.map (some w.heap.size)] 99)).alloc (.cells #[.slice none 0 0] 22)) w1.heap.size (w1.heap.size + 1) w.heap.size (.slice none 0 0) (meetThreads g 0) :=
    ⟨two_heap0, two_heap1, HM1.out.chg (S := fun _ => False) (((Chg.refl _ _).alloc _).alloc _) (by simp), World.ownsRow_nil _ _ _ _, by simp [meetThreads], by simp [meetThreads], ⟨by omega, by omega, by omega⟩, H.out.objs⟩
  have HM0 := hid hM
  have HC1 := hid hc1
  have hths1 := (hc1.cell hpl (by simp)).trans hths
  have hpl1 : b.p < w1.heap.size := by omega
  obtain ⟨N1, hN1⟩ : ∃ N1, N1 = w1.heap.size := ⟨_, rfl⟩
  have hN1' := hid hN1
  have hn64 : (g.n : Int) ≤ 64 := by have := H.out.n64; omega
  clear hM hc1
  go_wp2_with fail
  go_loopw [18] (fun i wr => ∃ (k : Nat) (lv : Value), k ≤ g.n ∧ i = .int .i64 k ∧ MeetAt (w1.heap.size + 2) g.m wr w1.heap.size (w1.heap.size + 1) w.heap.size lv (meetThreads g k) ∧ Chg (fun _ => False) w wr ∧ w1.heap.size + 2 ≤ wr.heap.size) (fun i _ => g.n - (intOf i).toNat)
  case atStart => exact ⟨0, _, by omega, rfl, HM0.out, (HC1.out.alloc _).alloc _, by simp⟩
  case round =>
    obtain ⟨k, lv, hk, rfl, hm, hc, hsz⟩ := hrel
    have HM := hid hm
    have HC := hid hc
    by_cases hlt : k < g.n
    · have hlt' : (k : Int) < (g.n : Int) := by omega
      obtain ⟨q, cap', hv', hql, hqb, q1, q2, q3⟩ := H.out.thrAt hlt
      rw [HSH.out] at hv'
      injection hv' with hA hnn hcap
      subst hA hcap
      have r1 := (hc.cell (o := k * 2) hql (by simp)).trans q1
      have r2 := (hc.cell (o := k * 2 + 1) hql (by simp)).trans q2
      have r3 : q < wr.heap.size := by have := hc.size; omega
      have hX := hid (fun r (hr : r ∈ g.st k) => H.out.okS k hlt r hr)
      have hXl := mst_okS H.out hlt
      have HL := hid (fun (w' : World) (c : Chg (fun _ => False) wr w') => roots_list w' (b.S k) (b.sv k) g.bound (g.st k) ((H.out.quiet (hc.trans c)).stk k hlt))
      have hstep := hid (show meetThreads g (k + 1) = meetAll (meetThreads g k) (g.st k) from rfl)
      clear hm hc q1 q2 q3 hnn hqb
      go_wp2_with (first
        | (go_at_call 22; refine (HL.out _ (by (repeat (first | with_reducible exact Chg.refl _ _ | with_reducible apply Chg.drewN | with_reducible apply Chg.drew | with_reducible apply Chg.alloc | (with_reducible refine Chg.setCell ?_ ?_ _; rotate_left; focus (first | (refine Or.inr ?_; first | omega | (simp; done) | (simp; omega)) | exact Or.inl (by assumption) | with_reducible exact Or.inl rfl | exact Or.inl (by simp))) | refine Chg.trans ?_ (Chg.of_below (by with_reducible assumption) (fun k h1 h2 => absurd h1 (by first | omega | (simp; omega)))) | refine Chg.trans ?_ (by with_reducible assumption))))).mono ?_; rintro e w2 ⟨hb2, v2, rfl, hown2⟩; have HB2 := hid hb2; have HO2 := hid hown2; have hs2 := hb2.size; (simp at hs2); clear hb2 hown2)
        | (go_at_call 52; refine (meet_any w2 (w1.heap.size + 2) g.m w1.heap.size (w1.heap.size + 1) w.heap.size lv v2 (meetThreads g k) (g.st k) (HM.out.chg (S := fun _ => False) (Chg.trans ((Chg.refl _ wr).alloc _) (Chg.of_below HB2.out (fun k h1 h2 => absurd h1 (by omega)))) (by simp) (by simp)) (rsrc_of_owns HO2.out) hX.out (fun x hx => (by have h1 := (HO2.out.lt x hx).1; have h2 := HM.out.ne; (simp at h1); refine ⟨by omega, by omega, fun e => ?_⟩; have := (HM.out.own.lt x e).2; omega)) (by omega) hXl).mono ?_; rintro e w3 ⟨rfl, lv3, hm3, hc3, hn3⟩; have HM3 := hid hm3; have HC3 := hid hc3; clear hm3 hc3 hn3))
      go_roundw
      case rel =>
        have c2 : Chg (fun _ => False) wr w2 := Chg.trans ((Chg.refl _ wr).alloc _) (Chg.of_below HB2.out (fun k h1 h2 => absurd h1 (by omega)))
        refine ⟨k + 1, lv3, by omega, by go_num, by rw [hstep.out]; exact HM3.out, (HC.out.trans c2).next HC3.out (fun i hi h => ?_), by have := HC3.out.size; omega⟩
        rcases h with h | h | h
        · omega
        · omega
        · have := (HM.out.own.lt i h).1; omega
      case measure => simp [intOf]; omega
    · obtain rfl : k = g.n := by omega
      go_wp2_with fail
      go_loopw [9] (fun i wr => ∃ (k : Nat) (lv : Value) (L : List Int), k ≤ L.length ∧ i = .int .i64 k ∧ MeetAt (w1.heap.size + 2) g.m wr w1.heap.size (w1.heap.size + 1) w.heap.size lv L ∧ walkL g (g.m + 1 - k) k L = g.reach ∧ Chg (fun _ => False) w wr ∧ w1.heap.size + 2 ≤ wr.heap.size) (fun i _ => g.m + 1 - (intOf i).toNat)
      case atStart => exact ⟨0, lv, _, by omega, rfl, HM.out, rfl, HC.out, hsz⟩
      case round =>
        rename_i wr0
        clear hm hc
        obtain ⟨k, lv, L, hk, rfl, hm, hw, hc, hsz⟩ := hrel
        have hLm := hm.len
        have hobj := H.out.objs
        have b1 := cell_of_one hm.mv
        have b2 := cell_of_one hm.lb
        obtain ⟨A', cap', hlv⟩ : ∃ (A : Option Addr) (c : Nat), lv = .slice A L.length c := by
          rcases hm.own.2 with ⟨hv, hn⟩ | ⟨q, cap, cur, hv, _⟩
          · exact ⟨none, 0, by rw [hv, hn]⟩
          · exact ⟨_, _, hv⟩
        rw [hlv] at b2
        have HM := hid hm
        have HC := hid hc
        have HW := hid hw
        have hMl := lt_of_block hm.mv
        have hLl := lt_of_block hm.lb
        have hll : (L.length : Int) ≤ 1048576 := by omega
        by_cases hlt : k < L.length
        · have hlt' : (k : Int) < (L.length : Int) := by omega
          obtain ⟨g2, cap2, hlv2, hg1, hg2⟩ := hm.own.form (by omega)
          have hc2 := hm.own.cells (g := g2) (by rw [hlv2]; rfl) k (.int .u64 (L.getD k 0)) (by simp [hlt])
          rw [Go.WideShapes.add_plain, Nat.zero_add] at hc2
          rw [hlv] at hlv2
          injection hlv2 with hA2 _ hcap2
          subst hA2 hcap2
          obtain ⟨r, hr⟩ : ∃ r, r = L.getD k 0 := ⟨_, rfl⟩
          have hr0 := hm.rng r (by rw [hr, List.getD_eq_getElem?_getD, List.getElem?_eq_getElem hlt]; exact List.getElem_mem hlt)
          obtain ⟨i, hri⟩ : ∃ i : Nat, r = (i : Int) + 1 := ⟨(r - 1).toNat, by omega⟩
          have him : i < g.m := by omega
          have hgw := H.out.quiet hc
          obtain ⟨qo, capo, hov, hqo, o1, o2⟩ := hgw.objAt him
          have hobs := hgw.obs
          rw [hov] at hobs
          have hplr : b.p < wr.heap.size := by have := hc.size; omega
          have e1 : IntKind.u64.wrap ((i : Int) + 1 - 1) = (i : Int) := by rw [IntKind.wrap_u64]; omega
          have e2 : (i : Int) + 1 - 1 = (i : Int) := by omega
          have e3 : IntKind.u64.wrap (i : Int) = (i : Int) := by rw [IntKind.wrap_u64]; omega
          have hig : (i : Int) < (g.m : Int) := by omega
          have hstep := hid (show walkL g (g.m + 1 - (k + 1)) (k + 1) (meetAll L (g.rf i)) = g.reach by
            rw [← hw, show g.m + 1 - k = (g.m + 1 - (k + 1)) + 1 by omega]
            show _ = (if k < L.length then walkL g _ (k + 1) (meetAll L (g.rfOf (L.getD k 0))) else L)
            rw [if_pos hlt]
            unfold GS.rfOf
            rw [← hr, hri, show ((i : Int) + 1 - 1).toNat = i by omega])
          rw [← hr, hri] at hc2
          have HX := hid (fun r (hr : r ∈ g.rf i) => hgw.okR i him r hr)
          have HR := hid (hgw.rfs i him)
          have hXl := (hgw.small i him).1
          have hRlt : b.R i < w.heap.size := H.out.lt (.rf i) (b.R i) (if_pos him)
          have hMr : g.m ≤ 9223372036854775807 := Nat.le_trans hobj (by decide)
          rw [hlv] at HM
          clear hm hw hc hri hr hr0 hgw hov
          go_upto_region 12 with fail
          go_region_law (first
            | (go_simp; go_at_call 52; refine (meet_any _ (w1.heap.size + 2) g.m w1.heap.size (w1.heap.size + 1) w.heap.size (.slice (some ⟨g2, 0, none⟩) L.length cap') _ L (g.rf i) (HM.out.chg (S := fun _ => False) (by (repeat (first | with_reducible exact Chg.refl _ _ | with_reducible apply Chg.drewN | with_reducible apply Chg.drew | with_reducible apply Chg.alloc | (with_reducible refine Chg.setCell ?_ ?_ _; rotate_left; focus (first | (refine Or.inr ?_; first | omega | (simp; done) | (simp; omega)) | exact Or.inl (by assumption) | with_reducible exact Or.inl rfl | exact Or.inl (by simp))) | refine Chg.trans ?_ (Chg.of_below (by with_reducible assumption) (fun k h1 h2 => absurd h1 (by first | omega | (simp; omega)))) | refine Chg.trans ?_ (by with_reducible assumption)))) (by simp) (by simp)) (rsrc_of_row (c := (g.rf i).length) (Chg.row (S := fun _ => False) (by (repeat (first | with_reducible exact Chg.refl _ _ | with_reducible apply Chg.drewN | with_reducible apply Chg.drew | with_reducible apply Chg.alloc | (with_reducible refine Chg.setCell ?_ ?_ _; rotate_left; focus (first | (refine Or.inr ?_; first | omega | (simp; done) | (simp; omega)) | exact Or.inl (by assumption) | with_reducible exact Or.inl rfl | exact Or.inl (by simp))) | refine Chg.trans ?_ (Chg.of_below (by with_reducible assumption) (fun k h1 h2 => absurd h1 (by first | omega | (simp; omega)))) | refine Chg.trans ?_ (by with_reducible assumption)))) HR.out (by simp))) HX.out (fun x hx => (by simp [Value.ownBlock] at hx ⊢; omega)) (by first | omega | (simp; omega)) hXl).mono ?_; rintro e w3 ⟨rfl, lv3, hm3, hc3, hn3⟩; have HM3 := hid hm3; have HC3 := hid hc3; clear hm3 hc3 hn3))
          all_goals (
            go_wp2_with fail
            go_roundw
            case rel =>
              refine ⟨k + 1, lv3, _, ?_, by go_num, HM3.out, hstep.out, (HC.out.drew).next HC3.out (fun i hi h => ?_), by have := HC3.out.size; simp at this; omega⟩
              · have h1 : ∀ (X L : List Int), L.length ≤ (meetAll L X).length := fun X => by
                  induction X with
                  | nil => intro L; exact Nat.le_refl _
                  | cons x X ih => intro L; refine Nat.le_trans ?_ (ih (meet1 L x)); unfold meet1; split <;> simp
                have := h1 (g.rf i) L
                omega
              · rcases h with h | h | h
                · omega
                · omega
                · simp [Value.ownBlock] at h; omega
            case measure => simp [intOf]; omega)
        · obtain rfl : k = L.length := by omega
          clear hm hc hw
          go_upto_region 13 with fail
          go_quiet (fail)
          go_wp2_with fail
          go_ret2
          have e : g.reach = L := by
            rw [← HW.out, show g.m + 1 - L.length = (g.m - L.length) + 1 by omega]
            show (if L.length < L.length then _ else L) = L
            rw [if_neg (by omega)]
          rw [e]
          refine ⟨w1.heap.size + 2, _, _, w.heap.size, lv, by rw [hlv]; rfl, HM.out.chg (S := fun _ => False) (by (repeat (first | with_reducible exact Chg.refl _ _ | with_reducible apply Chg.drewN | with_reducible apply Chg.drew | with_reducible apply Chg.alloc | (with_reducible refine Chg.setCell ?_ ?_ _; rotate_left; focus (first | (refine Or.inr ?_; first | omega | (simp; done) | (simp; omega)) | exact Or.inl (by assumption) | with_reducible exact Or.inl rfl | exact Or.inl (by simp))) | refine Chg.trans ?_ (Chg.of_below (by with_reducible assumption) (fun k h1 h2 => absurd h1 (by first | omega | (simp; omega)))) | refine Chg.trans ?_ (by with_reducible assumption)))) (by simp) (by simp), HC.out.drewN _, Nat.le_refl _⟩
end Go.Proofs.Ytcdllelbdcacjaa
