/-
  Graphs (layer 13): the shape.
-/
import Derived.Test.YtcdllelbdcacjaaConcat64
set_option linter.unusedVariables false
set_option linter.unusedSimpArgs false
namespace Go.Proofs.Ytcdllelbdcacjaa
open Go.RowKit Go.Maps

/-- what is told of the threads; of the objects -/
def threadsOut (g : GS) (L : List Int) : Nat → List Int
  | 0 => []
  | t + 1 => threadsOut g L t ++ (((g.st t).length : Int) :: (g.st t).map (num L))
def objOut (g : GS) (L : List Int) (r : Int) : List Int := ((g.rfOf r).length : Int) :: ((g.dtOf r).length : Int) :: ((g.rfOf r).map (num L) ++ g.dtOf r)
def objsOut (g : GS) (L : List Int) : List Int → List Int
  | [] => []
  | r :: l => objOut g L r ++ objsOut g L l
def GS.shape (g : GS) : List Int := threadsOut g g.reach g.n ++ objsOut g g.reach g.reach

theorem objsOut_append (g : GS) (L : List Int) : ∀ a b : List Int, objsOut g L (a ++ b) = objsOut g L a ++ objsOut g L b
  | [], b => rfl
  | r :: a, b => by simp only [List.cons_append, objsOut, objsOut_append g L a b, List.append_assoc]
theorem objsOut_snoc (g : GS) (L : List Int) {X : List Int} {k : Nat} (hk : k < X.length) : objsOut g L (X.take (k + 1)) = objsOut g L (X.take k) ++ objOut g L (X.getD k 0) := by
  rw [take_snoc hk, objsOut_append]
  simp [objsOut]

section
variable {w : World} {b : GB} {g : GS}
theorem threadsOut_len (h : GAt w b g) (L : List Int) : ∀ k, k ≤ g.n → (threadsOut g L k).length ≤ 65 * k
  | 0, _ => by simp [threadsOut]
  | k + 1, hk => by
    have h1 := threadsOut_len h L k (by omega)
    have h2 := (h.stk k (by omega)).len
    have h3 := (h.stk k (by omega)).most
    simp only [threadsOut, List.length_append, List.length_cons, List.length_map]
    omega
theorem objOut_len (h : GAt w b g) (L : List Int) (r : Int) (hr : 1 ≤ r ∧ r ≤ (g.m : Int)) : (objOut g L r).length ≤ 2097154 := by
  have h4 := h.small (r - 1).toNat (by omega)
  have h5 : (g.rfOf r).length ≤ 1048576 := h4.1
  have h6 : (g.dtOf r).length ≤ 1048576 := h4.2
  simp only [objOut, List.length_cons, List.length_append, List.length_map]
  omega
theorem objsOut_len (h : GAt w b g) (L : List Int) : ∀ X : List Int, (∀ r, r ∈ X → 1 ≤ r ∧ r ≤ (g.m : Int)) → (objsOut g L X).length ≤ 2097154 * X.length
  | [], _ => by simp [objsOut]
  | r :: X, hr => by
    have h1 := objsOut_len h L X (fun x hx => hr x (by simp [hx]))
    have h2 := objOut_len h L r (hr r (by simp))
    simp only [objsOut, List.length_append, List.length_cons]
    omega
end

theorem RSrc.chg {S : Nat → Prop} {w w1 : World} {v : Value} {X : List Int} (h : RSrc w v X) (c : Chg S w w1) (hn : ∀ k, v.ownBlock = some k → ¬ S k) : RSrc w1 v X := by
  rcases h with h | ⟨g, cc, rfl, hg, hc⟩
  · exact .inl h
  · exact .inr ⟨g, cc, rfl, Nat.lt_of_lt_of_le hg c.size, fun j hj => (c.cell hg (hn g rfl)).trans (hc j hj)⟩

/-- the row is another -/
theorem OutAt.swap {B : Nat} {w w1 : World} {Ov : Nat} {ov t : Value} {Z Z' : List Int} (h : OutAt B w Ov ov Z) (c : Chg (fun _ => False) w w1) (ho : OwnU w.heap.size w1 t Z') (hB : B ≤ w.heap.size) :
    OutAt B (w1.setCell ⟨Ov, 0, none⟩ t) Ov t Z' ∧ Chg (fun x => x = Ov) w (w1.setCell ⟨Ov, 0, none⟩ t) := by
  have hne := h.ne
  have hO := (c.block Ov (lt_of_block h.ob) (by simp)).trans h.ob
  have c6 : Chg (fun x => x = Ov) w1 (w1.setCell ⟨Ov, 0, none⟩ t) := (Chg.refl (fun x => x = Ov) w1).setCell (p := ⟨Ov, 0, none⟩) (.inl rfl) _
  refine ⟨⟨one_setCell hO, c6.owns (ownU_base ho hB) (fun x hx e => ?_), hne⟩, (c.mono (fun _ _ h => absurd h (by simp))).trans c6⟩
  have := (World.ownsRow.lt ho x hx).1
  have := lt_of_block h.ob
  omega

/-- numbers are told, behind an append -/
theorem tell_after (w2 wX : World) (N M : Nat) (ov ovX v : Value) (Z Z' L X : List Int) (h : OutAt (N + 2) w2 (N + 1) ov Z) (hnv : w2.heap[N]? = some (.cells #[.map (some M)] 99 (0, 0))) (hM : NumMap w2 M L) (hMN : M < N)
    (hv : RSrc w2 v X) (hs : ∀ x, v.ownBlock = some x → x ≠ N + 1 ∧ ov.ownBlock ≠ some x ∧ x < w2.heap.size)
    (hX : OutAt (N + 2) wX (N + 1) ovX Z' ∧ Chg (fun x => x = N + 1 ∨ ov.ownBlock = some x) w2 wX ∧ ∀ x, ovX.ownBlock = some x → ov.ownBlock = some x ∨ w2.heap.size ≤ x)
    (hBw : N + 2 ≤ w2.heap.size) (hXl : X.length ≤ 1048576) (hZ : Z'.length + X.length ≤ 17592186044416) (hr : ∀ r, r ∈ X → 0 ≤ r ∧ r ≤ 1048576) :
    Calls Try.prog 41 #[v, .pointer (some ⟨N + 1, 0, none⟩), .pointer (some ⟨N, 0, none⟩)] wX fun e w' => e = .returned (.tuple #[]) ∧
      ∃ ov', OutAt (N + 2) w' (N + 1) ov' (Z' ++ X.map (num L)) ∧ w'.heap[N]? = some (.cells #[.map (some M)] 99 (0, 0)) ∧ Chg (fun x => x = N + 1 ∨ ov.ownBlock = some x) w2 w' ∧ ∀ x, ov'.ownBlock = some x → ov.ownBlock = some x ∨ w2.heap.size ≤ x := by
  obtain ⟨x1, x2, x3⟩ := hX
  have hovB : ∀ x, ov.ownBlock = some x → N + 2 ≤ x := fun x hx => (h.own.lt x hx).1
  have off : ∀ x, x < N + 1 → ¬ (x = N + 1 ∨ ov.ownBlock = some x) := fun x hx h => by
    rcases h with h | h
    · omega
    · have := hovB x h; omega
  have hsz := x2.size
  refine (tell_any wX (N + 2) (N + 1) N M ovX v Z' L X x1 ((x2.block N (lt_of_block hnv) (off N (by omega))).trans hnv) (hM.chg x2 (off M (by omega)))
    (hv.chg x2 (fun x hx h => by have h1 := hs x hx; rcases h with h | h; exact h1.1 h; exact h1.2.1 h)) (fun x hx => ?_) ⟨by omega, by omega, by omega, by omega⟩ (by omega) hXl hZ hr).mono ?_
  · have h1 := hs x hx
    refine ⟨h1.1, fun e => ?_⟩
    rcases x3 x e with h2 | h2
    · exact h1.2.1 h2
    · omega
  · rintro e w' ⟨rfl, ov', y1, y2, y3⟩
    have c : Chg (fun x => x = N + 1 ∨ ov.ownBlock = some x) w2 w' := x2.next y2 (fun i hi h => by
      rcases h with h | h
      · exact .inl h
      · rcases x3 i h with h2 | h2
        · exact .inr h2
        · omega)
    refine ⟨rfl, ov', y1, (c.block N (lt_of_block hnv) (off N (by omega))).trans hnv, c, fun x hx => ?_⟩
    rcases y3 x hx with h1 | h1
    · exact x3 x h1
    · right; omega

/-- two rows are joined -/
theorem concat_two (w7 : World) (N d : Nat) (ov7 : Value) (Z7 D : List Int) (T : TypeId) (h : OutAt (N + 2) w7 (N + 1) ov7 Z7) (hD : w7.rowIs d 29 D.length (fun j => .int .u64 (D.getD j 0))) (htot : Z7.length + D.length ≤ 17592186044416) (hN : N + 2 ≤ w7.heap.size) :
    Calls Try.prog 42 #[.slice (some ⟨w7.heap.size, 0, none⟩) 2 2] (w7.alloc (.cells #[ov7, .slice (some ⟨d, 0, none⟩) D.length D.length] T)) fun e w' => ∃ t, e = .returned t ∧
      OutAt (N + 2) (w'.setCell ⟨N + 1, 0, none⟩ t) (N + 1) t (Z7 ++ D) ∧ Chg (fun x => x = N + 1) w7 (w'.setCell ⟨N + 1, 0, none⟩ t) ∧ Chg (fun _ => False) w7 w' := by
  have c0 : Chg (fun _ => False) w7 (w7.alloc (.cells #[ov7, .slice (some ⟨d, 0, none⟩) D.length D.length] T)) := (Chg.refl _ _).alloc _
  have hj : joins (fun j => if j = 0 then Z7 else D) 2 = Z7 ++ D := by
    show ([] ++ Z7) ++ D = _
    rw [List.nil_append]
  refine (concat_u _ w7.heap.size 2 2 (fun j => if j = 0 then ov7 else .slice (some ⟨d, 0, none⟩) D.length D.length) (fun j => if j = 0 then Z7 else D) ?_ ?_ (by simp) (by omega) (by rw [hj, List.length_append]; exact htot)).mono ?_
  · intro j hj
    rcases (show j = 0 ∨ j = 1 by omega) with rfl | rfl
    · go_simp
    · go_simp
  · intro j hj
    rcases (show j = 0 ∨ j = 1 by omega) with rfl | rfl
    · exact (ownU_src h.own).chg c0 (by simp)
    · refine .inr ⟨d, 0, D.length, rfl, Nat.lt_of_lt_of_le hD.lt c0.size, fun j hj => ?_⟩
      rw [Nat.zero_add]
      exact (c0.cell hD.lt (by simp)).trans (hD.cell hj)
  · rintro e w' ⟨t, rfl, hc, ho⟩
    rw [hj] at ho
    have c1 := c0.trans hc
    obtain ⟨r1, r2⟩ := h.swap c1 (ownU_base ho (by simp)) hN
    exact ⟨t, rfl, r1, r2, c1⟩

theorem graph_shape_nil (w : World) : Calls Try.prog 32 #[.pointer none] w fun e w' => e = .returned (.slice none 0 0) ∧ w = w' := by
  go_enter Try.func32, Try.ntmps32
  go_wp2
  go_ret
  exact ⟨rfl, rfl⟩

set_option maxRecDepth 100000 in
set_option maxHeartbeats 8000000 in
theorem graph_shape (w : World) (b : GB) (g : GS) (h : GAt w b g) :
    Calls Try.prog 32 #[.pointer (some ⟨b.p, 0, none⟩)] w fun e w' => ∃ v, e = .returned v ∧ OwnU w.heap.size w' v g.shape ∧ Chg (fun _ => False) w w' := by
  obtain ⟨i0, hi, hz0, hz1, hz2⟩ := info_parts info64
  have H := hid h
  have hW := walk_any w b g h
  obtain ⟨L, hL⟩ : ∃ L, L = g.reach := ⟨_, rfl⟩
  rw [show g.shape = threadsOut g g.reach g.n ++ objsOut g g.reach g.reach from rfl]
  rw [← hL] at hW ⊢
  have HW := hid hW
  have hpl := h.lt .p b.p rfl
  obtain ⟨A, cap, hsh⟩ : ∃ (A : Option Addr) (c : Nat), b.tv = .slice A g.n c := by
    obtain ⟨T, hT, _⟩ := h.thr
    rcases hT.2 with ⟨hv, hn⟩ | ⟨q, cap, cur, hv, _⟩
    · exact ⟨none, 0, by rw [hv, hn]⟩
    · exact ⟨_, _, hv⟩
  have hths := h.ths
  rw [hsh] at hths
  have HSH := hid hsh
  have hn64 : (g.n : Int) ≤ 64 := by have := h.n64; omega
  clear h hL hW hsh
  go_enter Try.func32, Try.ntmps32
  go_wp2_with (go_at_call 40; refine HW.out.mono ?_; rintro e w1 ⟨B, Mv, Lv, M, lv, rfl, hm, hc, hM⟩; have HM := hid hm; have HC := hid hc; have HMM := hid hM; obtain ⟨Al, cl, hlv⟩ := hm.shape; have hlen := hm.len; have hmm := hm.mm; have hll : (L.length : Int) ≤ 1048576 := (by omega); have hths1 := (hc.cell (o := 2) hpl (by simp)).trans hths; have hpl1 : b.p < w1.heap.size := Nat.lt_of_lt_of_le hpl hc.size; subst hlv; clear hm hc hM)
  go_loopw [26] (fun i wr => ∃ (k : Nat) (ov : Value), k ≤ g.n ∧ i = .int .i64 k ∧ OutAt (w1.heap.size + 2) wr (w1.heap.size + 1) ov (threadsOut g L k) ∧ wr.heap[w1.heap.size]? = some (.cells #[.map (some M)] 99 (0, 0)) ∧ Chg (fun _ => False) w1 wr ∧ w1.heap.size + 2 ≤ wr.heap.size) (fun i _ => g.n - (intOf i).toNat)
  case atStart => exact ⟨0, .slice none 0 0, by omega, rfl, ⟨two_heap1, World.ownsRow_nil _ _ _ _, by omega⟩, two_heap0, ((Chg.refl _ _).alloc _).alloc _, by simp⟩
  case round =>
    obtain ⟨k, ov, hk, rfl, ho, hnv, hc, hsz⟩ := hrel
    have HO := hid ho
    have HNV := hid hnv
    have HCR := hid hc
    by_cases hlt : k < g.n
    · have hlt' : (k : Int) < (g.n : Int) := by omega
      obtain ⟨q, cap', hv', hql, hqb, q1, q2, q3⟩ := H.out.thrAt hlt
      rw [HSH.out] at hv'
      injection hv' with hA hnn hcap
      subst hA hcap
      have cc := HC.out.trans hc
      have r1 := (cc.cell (o := k * 2) hql (by simp)).trans q1
      have r2 := (cc.cell (o := k * 2 + 1) hql (by simp)).trans q2
      have r3 : q < wr.heap.size := by have := cc.size; omega
      have hX := hid (fun r (hr : r ∈ g.st k) => H.out.okS k hlt r hr)
      have hXl := mst_okS H.out hlt
      have hXl' : ((g.st k).length : Int) ≤ 1048576 := by omega
      have HL := hid (fun (w' : World) (c : Chg (fun _ => False) wr w') => roots_list w' (b.S k) (b.sv k) g.bound (g.st k) ((H.out.quiet (cc.trans c)).stk k hlt))
      have hstep := hid (show threadsOut g L (k + 1) = threadsOut g L k ++ (((g.st k).length : Int) :: (g.st k).map (num L)) from rfl)
      have hZl := threadsOut_len H.out L k (by omega)
      have hn6 := H.out.n64
      have HNM := hid (HM.out.map.chg hc (by simp))
      have hMlt := hid HM.out.map.lt
      have hOl := lt_of_block ho.ob
      have hNl := lt_of_block hnv
      clear ho hnv hc q1 q2 q3 hnn hqb cc
      obtain ⟨Zk, hZk⟩ : ∃ Zk, Zk = threadsOut g L k := ⟨_, rfl⟩
      rw [← hZk] at HO hstep hZl
      clear hZk
      go_wp2_with (first
        | (go_at_call 22; refine (HL.out _ (by (repeat (first | with_reducible exact Chg.refl _ _ | with_reducible apply Chg.drewN | with_reducible apply Chg.drew | with_reducible apply Chg.alloc | (with_reducible refine Chg.setCell ?_ ?_ _; rotate_left; focus (first | (refine Or.inr ?_; first | omega | (simp; done) | (simp; omega)) | exact Or.inl (by assumption) | with_reducible exact Or.inl rfl | exact Or.inl (by simp))) | refine Chg.trans ?_ (Chg.of_below (by with_reducible assumption) (fun k h1 h2 => absurd h1 (by first | omega | (simp; omega)))) | refine Chg.trans ?_ (by with_reducible assumption))))).mono ?_; rintro e w2 ⟨hb2, v2, rfl, hown2⟩; have HB2 := hid hb2; have HO2 := hid hown2; have hs2 := hb2.size; (simp at hs2); obtain ⟨A2, c2, hv2⟩ := (rsrc_of_owns hown2).shape; have hc2 : Chg (fun _ => False) wr w2 := Chg.trans ((Chg.refl _ wr).alloc _) (Chg.of_below hb2 (fun k h1 h2 => absurd h1 (by omega))); have HC2 := hid hc2; have ho2 := HO.out.chg hc2 (by simp) (by simp); have HOO2 := hid ho2; have b2 := cell_of_one ho2.ob; have b3 := free_of_one ho2.ob; have hOl2 := lt_of_block ho2.ob; have hown2 := ho2.own; have HOW2 := hid hown2; subst hv2; clear hb2 hc2 ho2 hown2)
        | (at_builtin; refine wpList_append_lies _ rfl _ _ 71 rfl (w1.heap.size + 2) 29 i0 (.int .u64 0) 1 8 Try.underlying71 hi hz0 hz1 hz2 rfl (by decide) _ _ _ rfl (HOW2.out.alloc _) ⟨w2.heap.size, 0, none⟩ 1 1 [.int .u64 (g.st k).length] rfl rfl (one_lies (by simp)) (by intro u hu; simp at hu; subst hu; rfl) (by decide) (by unfold maxLen; omega) (by omega) (by first | omega | (simp; omega)) _ rfl ?_; intro g5 cap5 w5 hown5 hgrow5 hat5 hlt5; have hc5 : Chg (fun x => ov.ownBlock = some x) w2 w5 := Chg.grown (by (repeat (first | with_reducible exact Chg.refl _ _ | with_reducible apply Chg.drewN | with_reducible apply Chg.drew | with_reducible apply Chg.alloc | (with_reducible refine Chg.setCell ?_ ?_ _; rotate_left; focus (first | (refine Or.inr ?_; first | omega | (simp; done) | (simp; omega)) | exact Or.inl (by assumption) | with_reducible exact Or.inl rfl | exact Or.inl (by simp))) | refine Chg.trans ?_ (Chg.of_below (by with_reducible assumption) (fun k h1 h2 => absurd h1 (by first | omega | (simp; omega)))) | refine Chg.trans ?_ (by with_reducible assumption)))) hgrow5 (fun x hx => .inl hx); have HA5 : Hid (ov.ownBlock = some g5 ∨ w2.heap.size ≤ g5) := (by rcases hat5 with h | h; exact .inl h; exact .inr (by simp at h; omega)); have hmore := HOO2.out.more (news := [((g.st k).length : Int)]) hc5 hown5 HA5.out; have HMORE := hid hmore; have hO5 := (hc5.block (w1.heap.size + 1) hOl2 (fun e => by have := (HOW2.out.lt _ e).1; omega)).trans HOO2.out.ob; have b12 := cell_of_one hO5; have b13 := free_of_one hO5; have HT := hid (tell_after w2 _ w1.heap.size M ov _ (.slice A2 (g.st k).length c2) Zk (Zk ++ [((g.st k).length : Int)]) L (g.st k) HOO2.out ((HC2.out.block _ hNl (by simp)).trans HNV.out) (HNM.out.chg HC2.out (by simp)) hMlt.out (rsrc_of_owns HO2.out) (fun x hx => (by have h1 := HO2.out.lt x hx; (simp at h1); refine ⟨by omega, fun e => ?_, h1.2⟩; have := (HO.out.own.lt x e).2; omega)) hmore (by omega) hXl (by simp; omega) (fun r hr => (by have := hX.out r hr; omega))); clear hc5 hown5 hgrow5 hat5 hO5 hmore)
        | (go_at_call 41; refine HT.out.mono ?_; rintro e w7 ⟨rfl, ov7, ho7, hnv7, hc7, hn7⟩; have HO7 := hid ho7; have HNV7 := hid hnv7; have HC7 := hid hc7; clear ho7 hnv7 hc7 hn7))
      go_roundw
      case rel =>
        refine ⟨k + 1, ov7, by omega, by go_num, ?_, HNV7.out, (HCR.out.trans HC2.out).next HC7.out (fun i hi h => ?_), by have := HC7.out.size; omega⟩
        · rw [hstep.out]
          have := HO7.out
          rw [List.append_assoc] at this
          exact this
        · rcases h with h | h
          · omega
          · have := (HO.out.own.lt i h).1; omega
      case measure => simp [intOf]; omega
    · obtain rfl : k = g.n := by omega
      have hO1 := hid ho.own
      clear ho hnv hc
      go_wp2_with fail
      go_loopw [45] (fun i wr => ∃ (j : Nat) (ov : Value), j ≤ L.length ∧ i = .int .i64 j ∧ OutAt (w1.heap.size + 2) wr (w1.heap.size + 1) ov (threadsOut g L g.n ++ objsOut g L (L.take j)) ∧ wr.heap[w1.heap.size]? = some (.cells #[.map (some M)] 99 (0, 0)) ∧ Chg (fun _ => False) w1 wr ∧ w1.heap.size + 2 ≤ wr.heap.size) (fun i _ => L.length - (intOf i).toNat)
      case atStart => exact ⟨0, ov, by omega, rfl, by simpa [objsOut] using HO.out, HNV.out, HCR.out, hsz⟩
      case round =>
        obtain ⟨k, ov, hk, rfl, ho, hnv, hc, hsz⟩ := hrel
        have HO := hid ho
        have HNV := hid hnv
        have HCR := hid hc
        by_cases hlt : k < L.length
        · have hlt' : (k : Int) < (L.length : Int) := by omega
          obtain ⟨q, capq, i, hlv, hq1, hq2, hcq, hri, him⟩ := HM.out.cell hlt
          injection hlv with hA _ hcap
          subst hA hcap
          have hcq2 := (hc.cell (o := k) hq2 (by simp)).trans hcq
          have hgw := H.out.quiet (HC.out.trans hc)
          obtain ⟨qo, capo, hov, hqo, o1, o2⟩ := hgw.objAt him
          have hobs := hgw.obs
          rw [hov] at hobs
          have hplr : b.p < wr.heap.size := hgw.lt .p b.p rfl
          have e1 : IntKind.u64.wrap ((i : Int) + 1 - 1) = (i : Int) := by rw [IntKind.wrap_u64]; omega
          have e2 : (i : Int) + 1 - 1 = (i : Int) := by omega
          have e3 : IntKind.u64.wrap (i : Int) = (i : Int) := by rw [IntKind.wrap_u64]; omega
          have hig : (i : Int) < (g.m : Int) := by omega
          have hMr : g.m ≤ 9223372036854775807 := Nat.le_trans hmm (by decide)
          have hs1 : ((g.rf i).length : Int) ≤ 1048576 := by have := (hgw.small i him).1; omega
          have hs2 : ((g.dt i).length : Int) ≤ 1048576 := by have := (hgw.small i him).2; omega
          have hrf : g.rfOf ((i : Int) + 1) = g.rf i := by unfold GS.rfOf; rw [show ((i : Int) + 1 - 1).toNat = i by omega]
          have hdf : g.dtOf ((i : Int) + 1) = g.dt i := by unfold GS.dtOf; rw [show ((i : Int) + 1 - 1).toNat = i by omega]
          have hsn : objsOut g L (L.take (k + 1)) = objsOut g L (L.take k) ++ (((g.rf i).length : Int) :: ((g.dt i).length : Int) :: ((g.rf i).map (num L) ++ g.dt i)) := by
            rw [objsOut_snoc g L hlt, hri]
            unfold objOut
            rw [hrf, hdf]
          have HSN := hid hsn
          have hZ1 := threadsOut_len H.out L g.n (Nat.le_refl _)
          have hZ2 := objsOut_len H.out L (L.take k) (fun r hr => HM.out.rng r (List.mem_of_mem_take hr))
          have hZ3 : (L.take k).length ≤ 1048576 := by rw [List.length_take]; omega
          have hn6 := H.out.n64
          obtain ⟨Zk, hZk⟩ : ∃ Zk, Zk = threadsOut g L g.n ++ objsOut g L (L.take k) := ⟨_, rfl⟩
          have hZl : Zk.length + 4194304 ≤ 17592186044416 := by rw [hZk, List.length_append]; omega
          rw [← hZk] at HO
          have HZK := hid hZk
          have hRl : b.R i < w.heap.size := H.out.lt (.rf i) (b.R i) (if_pos him)
          have hDl : b.D i < w.heap.size := H.out.lt (.dt i) (b.D i) (if_pos him)
          have hww := hid HC.out.size
          have HRF := hid (hgw.rfs i him)
          have HDT := hid (hgw.dts i him)
          have HX := hid (fun r (hr : r ∈ g.rf i) => hgw.okR i him r hr)
          have HNM := hid (HM.out.map.chg hc (by simp))
          have hMlt := hid HM.out.map.lt
          have hNl := lt_of_block hnv
          have b2 := cell_of_one HO.out.ob
          have b3 := free_of_one HO.out.ob
          have hOl := lt_of_block HO.out.ob
          have HOWb := hid HO.out.own
          have hne1 : ¬ wr.heap.size = w1.heap.size + 1 := by omega
          have hne2 : ¬ w1.heap.size + 1 = wr.heap.size := by omega
          clear ho hnv hc hcq hri hgw hov hrf hdf hsn hZ1 hZ2 hZ3 hZk
          go_upto_region 16 with fail
          go_cut [12] (fun s12 wx => s12 = .pointer (some ⟨wr.heap.size, 0, none⟩) ∧ Chg (fun _ => False) wr wx ∧ wx.cell? ⟨wr.heap.size, 0, none⟩ = some (.slice (some ⟨b.R i, 0, none⟩) (g.rf i).length (g.rf i).length) ∧ wx.cell? ⟨wr.heap.size, 1, none⟩ = some (.slice (some ⟨b.D i, 0, none⟩) (g.dt i).length (g.dt i).length) ∧ wx.heap.size = wr.heap.size + 1)
          case first =>
            go_wp2_with fail
            go_meet
            exact ⟨rfl, by (repeat (first | with_reducible exact Chg.refl _ _ | with_reducible apply Chg.drewN | with_reducible apply Chg.drew | with_reducible apply Chg.alloc | (with_reducible refine Chg.setCell ?_ ?_ _; rotate_left; focus (first | (refine Or.inr ?_; first | omega | (simp; done) | (simp; omega)) | exact Or.inl (by assumption) | with_reducible exact Or.inl rfl | exact Or.inl (by simp))) | refine Chg.trans ?_ (Chg.of_below (by with_reducible assumption) (fun k h1 h2 => absurd h1 (by first | omega | (simp; omega)))) | refine Chg.trans ?_ (by with_reducible assumption))), by go_simp, by go_simp, by simp⟩
          case rest =>
          obtain ⟨rfl, hcc, x0, x1, hsc⟩ := hcut
          have HCC := hid hcc
          have hoc := HO.out.chg hcc (by simp) (by simp)
          have HOC := hid hoc
          have b2 := cell_of_one hoc.ob
          have b3 := free_of_one hoc.ob
          have hOl := lt_of_block hoc.ob
          have HOWc := hid hoc.own
          have hxl : wr.heap.size < wc.heap.size := by omega
          have hovB := hid (fun x hx => (HO.out.own.lt x hx))
          have X1 := hid x1
          have hNc := hid ((hcc.block _ hNl (by simp)).trans HNV.out)
          clear hcc hoc hsc
          go_wp2_with (first
            | (at_builtin; refine wpList_append_lies _ rfl _ _ 71 rfl (w1.heap.size + 2) 29 i0 (.int .u64 0) 1 8 Try.underlying71 hi hz0 hz1 hz2 rfl (by decide) _ _ _ rfl (HOWc.out.alloc _) ⟨wc.heap.size, 0, none⟩ 2 2 [.int .u64 (g.rf i).length, .int .u64 (g.dt i).length] rfl rfl (two_lies rfl) (by intro u hu; simp at hu; rcases hu with rfl | rfl <;> rfl) (by decide) (by unfold maxLen; omega) (by omega) (by first | omega | (simp; omega)) _ rfl ?_; intro g5 cap5 w5 hown5 hgrow5 hat5 hlt5; have hc5 : Chg (fun x => ov.ownBlock = some x) wc w5 := Chg.grown (by (repeat (first | with_reducible exact Chg.refl _ _ | with_reducible apply Chg.drewN | with_reducible apply Chg.drew | with_reducible apply Chg.alloc | (with_reducible refine Chg.setCell ?_ ?_ _; rotate_left; focus (first | (refine Or.inr ?_; first | omega | (simp; done) | (simp; omega)) | exact Or.inl (by assumption) | with_reducible exact Or.inl rfl | exact Or.inl (by simp))) | refine Chg.trans ?_ (Chg.of_below (by with_reducible assumption) (fun k h1 h2 => absurd h1 (by first | omega | (simp; omega)))) | refine Chg.trans ?_ (by with_reducible assumption)))) hgrow5 (fun x hx => .inl hx); have HA5 : Hid (ov.ownBlock = some g5 ∨ wc.heap.size ≤ g5) := (by rcases hat5 with h | h; exact .inl h; exact .inr (by simp at h; omega)); have hmore := HOC.out.more (news := [((g.rf i).length : Int), ((g.dt i).length : Int)]) hc5 hown5 HA5.out; have HMORE := hid hmore; have hO5 := (hc5.block (w1.heap.size + 1) hOl (fun e => by have := (HOWc.out.lt _ e).1; omega)).trans HOC.out.ob; have b12 := cell_of_one hO5; have b13 := free_of_one hO5; have x2 := (hc5.cell (o := 0) hxl (fun e => by have := (hovB.out _ e).2; omega)).trans x0; have x3 := (hc5.cell (o := 1) hxl (fun e => by have := (hovB.out _ e).2; omega)).trans x1; have HC5 := hid hc5; have HT := hid (tell_after wc _ w1.heap.size M ov _ (.slice (some ⟨b.R i, 0, none⟩) (g.rf i).length (g.rf i).length) Zk (Zk ++ [((g.rf i).length : Int), ((g.dt i).length : Int)]) L (g.rf i) HOC.out hNc.out (HNM.out.chg HCC.out (by simp)) hMlt.out ((rsrc_of_row HRF.out).chg HCC.out (by simp)) (fun x hx => (by have h1 : b.R i = x := (by simpa [Value.ownBlock] using hx); have h2 := hww.out; subst h1; exact ⟨by omega, fun e => (by have := (hovB.out _ e).1; omega), by omega⟩)) hmore (by omega) (by omega) (by simp; omega) (fun r hr => (by have := HX.out r hr; omega))); clear hc5 hown5 hgrow5 hat5 hO5 hmore)
            | (go_at_call 41; refine HT.out.mono ?_; rintro e w7 ⟨rfl, ov7, ho7, hnv7, hc7, hn7⟩; obtain ⟨Z7, hZ7⟩ : ∃ Z7, Z7 = (Zk ++ [((g.rf i).length : Int), ((g.dt i).length : Int)]) ++ (g.rf i).map (num L) := ⟨_, rfl⟩; rw [← hZ7] at ho7; have HZ7 := hid hZ7; have hZ7l : Z7.length = Zk.length + 2 + (g.rf i).length := (by rw [hZ7]; simp; omega); have HZ7L := hid hZ7l; clear hZ7 hZ7l; obtain ⟨A7, c7, hv7⟩ := OwnU.shape ho7.own; subst hv7; have HO7 := hid ho7; have HNV7 := hid hnv7; have HC7 := hid hc7; have b4 := cell_of_one ho7.ob; have b5 := free_of_one ho7.ob; have hOl7 := lt_of_block ho7.ob; have x4 := (hc7.cell (o := 1) hxl (fun e => (by rcases e with e | e; omega; have := (hovB.out _ e).2; omega))).trans X1.out; have x5 := Nat.lt_of_lt_of_le hxl hc7.size; clear ho7 hnv7 hc7 hn7)
            | (go_at_call 42; refine (concat_two w7 w1.heap.size (b.D i) _ _ (g.dt i) _ HO7.out (Chg.row HC7.out (Chg.row HCC.out HDT.out (by simp)) (fun e => (by have := hww.out; rcases e with e | e; omega; have := (hovB.out _ e).1; omega))) (by have := HZ7L.out; omega) (by have := HC7.out.size; omega)).mono ?_; rintro e w9 ⟨t, rfl, ho9, hc9, hc8⟩; obtain ⟨Z9, hZ9⟩ : ∃ Z9, Z9 = Z7 ++ g.dt i := ⟨_, rfl⟩; rw [← hZ9] at ho9; have HZ9 := hid hZ9; clear hZ9; obtain ⟨A9, c9, hv9⟩ := OwnU.shape ho9.own; subst hv9; have HO9 := hid ho9; have HC9 := hid hc9; have hO8 := (hc8.block _ hOl7 (by simp)).trans HO7.out.ob; have b6 := cell_of_one hO8; have b7 := free_of_one hO8; clear ho9 hc9 hc8 hO8))
          go_roundw
          case rel =>
            have ho9 := HO9.out
            have hs7 := HC7.out.size
            have hs9 := HC9.out.size
            refine ⟨k + 1, .slice A9 Z9.length c9, by omega, by go_num, ?_, (HC9.out.block _ (Nat.lt_of_lt_of_le hNl (by have := HCC.out.size; omega)) (by omega)).trans HNV7.out, ((HCR.out.trans HCC.out).next HC7.out (fun i hi h => ?_)).next HC9.out (fun i hi h => by omega), by have := HCC.out.size; omega⟩
            · have e : threadsOut g L g.n ++ objsOut g L (L.take (k + 1)) = Z9 := by
                rw [HSN.out, ← List.append_assoc, ← HZK.out, HZ9.out, HZ7.out]
                simp
              rw [e]
              exact ho9
            · rcases h with h | h
              · omega
              · have := (hovB.out i h).1; omega
          case measure => simp [intOf]; omega
        · obtain rfl : k = L.length := by omega
          rw [List.take_length] at HO
          have b2 := cell_of_one HO.out.ob
          clear ho hnv hc
          go_wp2_with fail
          go_ret
          refine ⟨ov, rfl, ?_, HC.out.trans HCR.out⟩
          exact ownU_base HO.out.own (by have := HC.out.size; omega)
end Go.Proofs.Ytcdllelbdcacjaa
