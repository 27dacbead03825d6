/-
  The document's graph (layer 13): the shape.
-/
import Derived.Test.YtcdllelbdcacjaaRGraph15
set_option linter.unusedVariables false
set_option linter.unusedSimpArgs false
namespace Go.Proofs.Ytcdllelbdcacjaa.R
open Go.RowKit

theorem ownU_more {B k : Nat} {w5 : World} {v : Value} {Z news : List Int} {N : Nat} (h : w5.ownsRow B 29 1 v (N + k) (Z.map (Value.int .u64) ++ news.map (Value.int .u64))) (hk : news.length = k) (hN : N = Z.length) : OwnU B w5 v (Z ++ news) := by
  subst hk
  subst hN
  show w5.ownsRow B 29 1 v (Z ++ news).length ((Z ++ news).map (Value.int .u64))
  rw [List.length_append, List.map_append]
  exact h
theorem chg_out {w1 wr w5 : World} {ov : Value} {Z : List Int} (c : Chg (fun _ => False) w1 wr) (h : OwnU w1.heap.size wr ov Z) (k : Chg (fun x => ov.ownBlock = some x) wr w5) : Chg (fun _ => False) w1 w5 :=
  c.next k (fun i hi e => by have := (World.ownsRow.lt h i e).1; omega)

theorem threadsOut_len' {dcap : Nat} {w : World} {b : GB} {g : GS} (h : GAt dcap w b g) (L : List Int) : ∀ k, k ≤ g.n → (threadsOut g L k).length ≤ 65 * k
  | 0, _ => by simp [threadsOut]
  | k + 1, hk => by
    have h1 := threadsOut_len' h L k (by omega)
    have h2 := (h.stk k (by omega)).len
    have h3 := (h.stk k (by omega)).most
    simp only [threadsOut, List.length_append, List.length_cons, List.length_map]
    omega

theorem objOut_len' {dcap : Nat} {w : World} {b : GB} {g : GS} (h : GAt dcap w b g) (L : List Int) (r : Int) (hr : 1 ≤ r ∧ r ≤ (g.m : Int)) : (objOut g L r).length ≤ 2097154 := by
  have h4 := h.small (r - 1).toNat (by omega)
  have h5 : (g.rfOf r).length ≤ 1048576 := h4.1
  have h6 : (g.dtOf r).length ≤ 1048576 := h4.2
  simp only [objOut, List.length_cons, List.length_append, List.length_map]
  omega
theorem objsOut_len' {dcap : Nat} {w : World} {b : GB} {g : GS} (h : GAt dcap w b g) (L : List Int) : ∀ X : List Int, (∀ r, r ∈ X → 1 ≤ r ∧ r ≤ (g.m : Int)) → (objsOut g L X).length ≤ 2097154 * X.length
  | [], _ => by simp [objsOut]
  | r :: X, hr => by
    have h1 := objsOut_len' h L X (fun x hx => hr x (by simp [hx]))
    have h2 := objOut_len' h L r (hr r (by simp))
    simp only [objsOut, List.length_append, List.length_cons]
    omega

/-- a thread's stack, as the walk reads it -/
theorem GAt.stackAt {dcap : Nat} {w : World} {b : GB} {g : GS} (h : GAt dcap w b g) {t : Nat} (ht : t < g.n) : ∃ (q cap : Nat) (A : Option Addr) (c : Nat), w.cell? ⟨b.p, 2, none⟩ = some (.slice (some ⟨q, 0, none⟩) g.n cap) ∧ w.cell? ⟨q, t, none⟩ = some (.pointer (some ⟨b.S t, 0, none⟩)) ∧ w.cell? ⟨b.S t, 1, none⟩ = some (.slice A (g.st t).length c) ∧
    b.p < w.heap.size ∧ q < w.heap.size ∧ b.S t < w.heap.size ∧ ∀ j, j < (g.st t).length → ∃ gs, A = some ⟨gs, 0, none⟩ ∧ gs < w.heap.size ∧ w.cell? ⟨gs, j, none⟩ = some (.int .u64 ((g.st t).getD j 0)) := by
  obtain ⟨q, cap, hv, hql, hqb, q1⟩ := h.thrAt ht
  have hths := h.ths
  rw [hv] at hths
  have hst := h.stk t ht
  obtain ⟨A, c, hsh⟩ := hst.shape
  have hval := hst.val
  rw [hsh] at hval
  refine ⟨q, cap, A, c, hths, q1, hval, h.lt .p b.p rfl, hql, h.lt (.st t) (b.S t) (if_pos ht), fun j hj => ?_⟩
  rcases rsrc_of_owns hst.own with ⟨h0, _⟩ | ⟨gs, c', he, h1, h2⟩
  · rw [h0] at hj; simp at hj
  · rw [hsh] at he
    injection he with hA _ _
    exact ⟨gs, hA, h1, h2 j hj⟩
theorem getD_range {l : List Int} {m : Int} (h : ∀ r, r ∈ l → 0 ≤ r ∧ r ≤ m) {j : Nat} (hj : j < l.length) : 0 ≤ l.getD j 0 ∧ l.getD j 0 ≤ m := by
  rw [List.getD_eq_getElem?_getD, List.getElem?_eq_getElem hj]
  exact h _ (List.getElem_mem hj)
theorem take_map_snoc (f : Int → Int) {X : List Int} {k : Nat} (hk : k < X.length) : (X.take (k + 1)).map f = (X.take k).map f ++ [f (X.getD k 0)] := by
  rw [take_snoc hk, List.map_append]; rfl
theorem num_u64 (L : List Int) (r : Int) : 0 ≤ num L r := by unfold num; split; omega; split <;> omega

set_option maxRecDepth 100000 in
set_option maxHeartbeats 8000000 in
theorem graph_shape {dcap : Nat} (w : World) (b : GB) (g : GS) (h : GAt dcap w b g) :
    Calls Try.prog 33 #[.pointer (some ⟨b.p, 0, none⟩)] w fun e w' => ∃ v, e = .returned v ∧ OwnU w.heap.size w' v g.shape ∧ Chg (fun _ => False) w w' := by
  obtain ⟨i0, hi, hz0, hz1, hz2⟩ := info_parts info64
  have H := hid h
  have hW := order_any w b g h
  obtain ⟨L, hL⟩ : ∃ L, L = g.reach := ⟨_, rfl⟩
  rw [show g.shape = threadsOut g g.reach g.n ++ objsOut g g.reach g.reach from rfl]
  rw [← hL] at hW ⊢
  have HW := hid hW
  have hn64 : (g.n : Int) ≤ 64 := by have := h.n64; omega
  obtain ⟨A0, c0, hv0⟩ : ∃ (A : Option Addr) (c : Nat), b.tv = .slice A g.n c := by
    obtain ⟨T, hT, _⟩ := h.thr
    rcases hT.2 with ⟨hv, hn⟩ | ⟨q, cap, cur, hv, _⟩
    · exact ⟨none, 0, by rw [hv, hn]⟩
    · exact ⟨_, _, hv⟩
  have hths := h.ths
  rw [hv0] at hths
  have hpl0 := h.lt .p b.p rfl
  clear h hL hW hv0
  go_enter Try.func33, Try.ntmps33
  go_wp2_with (go_at_call 43; refine HW.out.mono ?_; rintro e w1 ⟨B, nb, lv, rfl, hm, hc, hnb⟩; have HM := hid hm; have HC := hid hc; have HNB := hid hnb; obtain ⟨Al, cl, hlv⟩ := hm.shape; have hlen := hm.len; have hmm := hm.mm; have hll : (L.length : Int) ≤ 1048576 := (by omega); subst hlv; clear hm hc hnb)
  go_loopw [5, 6] (fun s5 i wr => ∃ (t : Nat) (ov : Value), t ≤ g.n ∧ i = .int .i64 t ∧ ov = s5 ∧ OwnU w1.heap.size wr ov (threadsOut g L t) ∧ Chg (fun _ => False) w1 wr) (fun _ i _ => g.n - (intOf i).toNat)
  case atStart => exact ⟨0, .slice none 0 0, by omega, rfl, rfl, ownU_nil _ _, Chg.refl _ _⟩
  case round =>
    obtain ⟨t, ov, htn, rfl, rfl, ho, hc⟩ := hrel
    have HO := hid ho
    have HCR := hid hc
    have hths1 := ((HC.out.trans hc).cell (o := 2) hpl0 (by simp)).trans hths
    have hplr : b.p < wr.heap.size := Nat.lt_of_lt_of_le hpl0 (HC.out.trans hc).size
    by_cases hlt : t < g.n
    · have hlt' : (t : Int) < (g.n : Int) := by omega
      have hZl := threadsOut_len' H.out L t (by omega)
      have hn6 := H.out.n64
      have hstl : (g.st t).length ≤ 64 := by have h1 := (H.out.stk t hlt).len; have h2 := (H.out.stk t hlt).most; omega
      have hstl' : ((g.st t).length : Int) ≤ 64 := by omega
      have hgw := H.out.quiet (HC.out.trans hc)
      obtain ⟨q, cap, A, c, s1, s2, s3, s4, s5, s6, _⟩ := hgw.stackAt hlt
      obtain ⟨Zk, hZk⟩ : ∃ Zk, Zk = threadsOut g L t := ⟨_, rfl⟩
      rw [← hZk] at ho HO hZl
      have HZK := hid hZk
      obtain ⟨N, hN⟩ : ∃ N, N = Zk.length := ⟨_, rfl⟩
      have hNN := hid hN
      rw [← hN] at hZl
      have hown : wr.ownsRow w1.heap.size 29 1 ov N (Zk.map (Value.int .u64)) := by rw [hN]; exact ho
      have HOW := hid hown
      have hsz1 := hc.size
      clear ho hc hgw hZk hN hown hths1
      go_wp2_with (at_builtin; refine wpList_append_lies _ rfl _ _ 71 rfl w1.heap.size 29 i0 (.int .u64 0) 1 8 Try.underlying71 hi hz0 hz1 hz2 rfl (by decide) _ _ _ rfl (HOW.out.alloc _) ⟨wr.heap.size, 0, none⟩ 1 1 [Value.int .u64 (g.st t).length] rfl rfl (one_lies (by simp)) (by intro u hu; simp at hu; subst hu; rfl) (by decide) (by unfold maxLen; omega) (by omega) (by first | omega | (simp; omega)) _ rfl ?_; intro g5 cap5 w5 hown5 hgrow5 hat5 hlt5; have hc5 : Chg (fun x => ov.ownBlock = some x) wr w5 := Chg.grown (by (repeat (first | with_reducible exact Chg.refl _ _ | with_reducible apply Chg.drewN | with_reducible apply Chg.drew | with_reducible apply Chg.alloc | (with_reducible refine Chg.setCell ?_ ?_ _; rotate_left; focus (first | (refine Or.inr ?_; first | omega | (simp; done) | (simp; omega)) | exact Or.inl (by assumption) | with_reducible exact Or.inl rfl | exact Or.inl (by simp))) | refine Chg.trans ?_ (Chg.of_below (by with_reducible assumption) (fun k h1 h2 => absurd h1 (by first | omega | (simp; omega)))) | refine Chg.trans ?_ (by with_reducible assumption)))) hgrow5 (fun x hx => .inl hx); have HC5 := hid hc5; have HO5 := hid hown5; have HA5 : Hid (ov.ownBlock = some g5 ∨ wr.heap.size ≤ g5) := (by rcases hat5 with h | h; exact .inl h; exact .inr (by simp at h; omega));  clear hc5 hown5 hgrow5 hat5)
      have hOU := ownU_more (news := [((g.st t).length : Int)]) HO5.out rfl hNN.out
      have HOU := hid hOU
      have HC6 := hid (chg_out HCR.out HO.out HC5.out)
      have hz2' : (Zk ++ [((g.st t).length : Int)]).length = N + 1 := by rw [List.length_append, hNN.out]; rfl
      have HZ2 := hid hz2'
      clear hOU hz2' s1 s2 s3
      go_loopw [5, 7] (fun s5 i wq => ∃ (j : Nat) (ov : Value), j ≤ (g.st t).length ∧ i = .int .i64 j ∧ ov = s5 ∧ OwnU w1.heap.size wq ov ((Zk ++ [((g.st t).length : Int)]) ++ ((g.st t).take j).map (num L)) ∧ Chg (fun _ => False) w1 wq) (fun _ i _ => (g.st t).length - (intOf i).toNat)
      case atStart => exact ⟨0, _, by omega, rfl, rfl, by simpa using HOU.out, HC6.out⟩
      case round =>
        obtain ⟨j, ov, hj, rfl, rfl, ho, hc⟩ := hrel
        have HOI := hid ho
        have HCI := hid hc
        have hgw := H.out.quiet (HC.out.trans hc)
        obtain ⟨q, cap, A, c, s1, s2, s3, s4, s5, s6, s7⟩ := hgw.stackAt hlt
        by_cases hjl : j < (g.st t).length
        · have hjl' : (j : Int) < ((g.st t).length : Int) := by omega
          obtain ⟨gs, rfl, hgs, s8⟩ := s7 j hjl
          have hr0 := getD_range (hgw.okS t hlt) hjl
          have hsn := take_map_snoc (num L) hjl
          obtain ⟨r, hr⟩ : ∃ r, r = (g.st t).getD j 0 := ⟨_, rfl⟩
          rw [← hr] at s8 hr0 hsn
          obtain ⟨n, rfl⟩ : ∃ n : Nat, r = (n : Int) := ⟨r.toNat, by omega⟩
          have hnum := (hc.cell (o := n) HM.out.num.lt (by simp)).trans (HM.out.num.cell (i := n) (by omega))
          have hnlt : nb < wr.heap.size := Nat.lt_of_lt_of_le HM.out.num.lt hc.size
          have hnm : (n : Int) < ((g.m + 1 : Nat) : Int) := by omega
          have hnm2 : (n : Int) < (g.m : Int) + 1 := by omega
          have HSN := hid hsn
          obtain ⟨Zj, hZj⟩ : ∃ Zj, Zj = (Zk ++ [((g.st t).length : Int)]) ++ ((g.st t).take j).map (num L) := ⟨_, rfl⟩
          have hZjl : Zj.length ≤ 17592186040000 := by rw [hZj, List.length_append, HZ2.out, List.length_map, List.length_take]; omega
          rw [← hZj] at ho HOI
          have HZJ := hid hZj
          obtain ⟨M, hM⟩ : ∃ M, M = Zj.length := ⟨_, rfl⟩
          have hMM := hid hM
          rw [← hM] at hZjl
          have hown : wr.ownsRow w1.heap.size 29 1 ov M (Zj.map (Value.int .u64)) := by rw [hM]; exact ho
          have HOW2 := hid hown
          have hsz2 := hc.size
          clear ho hc hgw hown hM hZj hsn hr s7 hr0 hnm
          revert hnum HSN
          generalize num L (n : Int) = z
          intro hnum HSN
          go_wp2_with (at_builtin; refine wpList_append_lies _ rfl _ _ 71 rfl w1.heap.size 29 i0 (.int .u64 0) 1 8 Try.underlying71 hi hz0 hz1 hz2 rfl (by decide) _ _ _ rfl (HOW2.out.alloc _) ⟨wr.heap.size, 0, none⟩ 1 1 [Value.int .u64 z] rfl rfl (one_lies (by simp)) (by intro u hu; simp at hu; subst hu; rfl) (by decide) (by unfold maxLen; omega) (by omega) (by first | omega | (simp; omega)) _ rfl ?_; intro g5 cap5 w5 hown5 hgrow5 hat5 hlt5; have hc5 : Chg (fun x => ov.ownBlock = some x) wr w5 := Chg.grown (by (repeat (first | with_reducible exact Chg.refl _ _ | with_reducible apply Chg.drewN | with_reducible apply Chg.drew | with_reducible apply Chg.alloc | (with_reducible refine Chg.setCell ?_ ?_ _; rotate_left; focus (first | (refine Or.inr ?_; first | omega | (simp; done) | (simp; omega)) | exact Or.inl (by assumption) | with_reducible exact Or.inl rfl | exact Or.inl (by simp))) | refine Chg.trans ?_ (Chg.of_below (by with_reducible assumption) (fun k h1 h2 => absurd h1 (by first | omega | (simp; omega)))) | refine Chg.trans ?_ (by with_reducible assumption)))) hgrow5 (fun x hx => .inl hx); have HC5 := hid hc5; have HO5 := hid hown5; have HA5 : Hid (ov.ownBlock = some g5 ∨ wr.heap.size ≤ g5) := (by rcases hat5 with h | h; exact .inl h; exact .inr (by simp at h; omega));  clear hc5 hown5 hgrow5 hat5)
          go_roundw
          case rel =>
            refine ⟨j + 1, _, by omega, by go_num, rfl, ?_, chg_out HCI.out HOI.out HC5.out⟩
            rw [HSN.out, ← List.append_assoc, ← HZJ.out]
            exact ownU_more (news := [z]) HO5.out rfl hMM.out
          case measure => simp [intOf]; omega
        · obtain rfl : j = (g.st t).length := by omega
          rw [List.take_length] at HOI
          clear s7
          go_wp2_with fail
          go_roundw
          case rel =>
            refine ⟨t + 1, _, by omega, by go_num, rfl, ?_, HCI.out⟩
            have e : threadsOut g L (t + 1) = (Zk ++ [((g.st t).length : Int)]) ++ (g.st t).map (num L) := by
              show threadsOut g L t ++ (((g.st t).length : Int) :: (g.st t).map (num L)) = _
              rw [← HZK.out]; simp
            rw [e]
            exact HOI.out
          case measure => simp [intOf]; omega
    · obtain rfl : t = g.n := by omega
      clear ho hc
      go_wp2_with fail
      go_loopw [5, 8] (fun s5 i wr => ∃ (k : Nat) (ov : Value), k ≤ L.length ∧ i = .int .i64 k ∧ ov = s5 ∧ OwnU w1.heap.size wr ov (threadsOut g L g.n ++ objsOut g L (L.take k)) ∧ Chg (fun _ => False) w1 wr) (fun _ i _ => L.length - (intOf i).toNat)
      case atStart => exact ⟨0, _, by omega, rfl, rfl, by simpa [objsOut] using HO.out, HCR.out⟩
      case round =>
        obtain ⟨k, ov, hk, rfl, rfl, ho, hc⟩ := hrel
        have HOk := hid ho
        have HCk := hid hc
        by_cases hlk : k < L.length
        rotate_left
        · obtain rfl : k = L.length := by omega
          rw [List.take_length] at HOk
          clear ho hc
          go_wp2_with fail
          go_ret
          exact ⟨ov, rfl, ownU_base HOk.out HC.out.size, HC.out.trans HCk.out⟩
        have hlk' : (k : Int) < (L.length : Int) := by omega
        have hgw := H.out.quiet (HC.out.trans hc)
        have hmw := HM.out.chg hc (by simp) (by simp)
        obtain ⟨q, cap, i, qo, co, hlv, hql, hcq, hri, him, hobs, hqo, hpl, o1, o2, hs1, hs2, hrf, hdf⟩ := RMeet.cell (w := w) hmw hgw hlk
        have hAq : Al = some ⟨q, 0, none⟩ := by injection hlv
        subst hAq
        have e3 : IntKind.i64.wrap (i : Int) = (i : Int) := IntWalk.i64_in _ (by omega)
        have e2 : (i : Int) + 1 - 1 = (i : Int) := by omega
        have hig : (i : Int) < (g.m : Int) := by omega
        have hMr : g.m ≤ 9223372036854775807 := by omega
        have hs1' : ((g.rf i).length : Int) ≤ 1048576 := by omega
        have hs2' : ((g.dt i).length : Int) ≤ 1048576 := by omega
        have hsn : objsOut g L (L.take (k + 1)) = objsOut g L (L.take k) ++ (((g.rf i).length : Int) :: ((g.dt i).length : Int) :: ((g.rf i).map (num L) ++ g.dt i)) := by
          rw [objsOut_snoc g L hlk, hri]
          unfold objOut
          rw [hrf, hdf]
        have HSN := hid hsn
        have hZ1 := threadsOut_len' H.out L g.n (Nat.le_refl _)
        have hZ2 := objsOut_len' H.out L (L.take k) (fun r hr => HM.out.rng r (List.mem_of_mem_take hr))
        have hZ3 : (L.take k).length ≤ 1048576 := by rw [List.length_take]; omega
        have hn6 := H.out.n64
        obtain ⟨Zk, hZk⟩ : ∃ Zk, Zk = threadsOut g L g.n ++ objsOut g L (L.take k) := ⟨_, rfl⟩
        have hZl : Zk.length + 4194304 ≤ 17592186044416 := by rw [hZk, List.length_append]; omega
        rw [← hZk] at HOk ho
        have HZK := hid hZk
        obtain ⟨N, hN⟩ : ∃ N, N = Zk.length := ⟨_, rfl⟩
        have hNN := hid hN
        rw [← hN] at hZl
        have hown : wr.ownsRow w1.heap.size 29 1 ov N (Zk.map (Value.int .u64)) := by rw [hN]; exact ho
        have HOW := hid hown
        have hovlt := hid (fun x (hx : ov.ownBlock = some x) => hown.lt x hx)
        have hsz1 := hc.size
        clear ho hc hgw hmw hZk hN hown hlv hsn hZ1 hZ2 hZ3 hrf hdf hri
        go_upto_region 14 with fail
        go_cut [9] (fun s9 wx => s9 = .pointer (some ⟨wr.heap.size, 0, none⟩) ∧ Chg (fun _ => False) wr wx ∧ wx.cell? ⟨wr.heap.size, 0, none⟩ = some (.slice (some ⟨b.R i, 0, none⟩) (g.rf i).length (g.rf i).length) ∧ wx.cell? ⟨wr.heap.size, 1, none⟩ = some (.slice (some ⟨b.D i, 0, none⟩) (g.dt i).length (g.dt i).length) ∧ wx.heap.size = wr.heap.size + 1)
        case first =>
          have ne1 : ¬ b.p = wr.heap.size := by omega
          have ne2 : ¬ q = wr.heap.size := by omega
          have ne3 : ¬ qo = wr.heap.size := by omega
          have ne4 : ¬ wr.heap.size = b.p := by omega
          have ne5 : ¬ wr.heap.size = q := by omega
          have ne6 : ¬ wr.heap.size = qo := by omega
          go_region_held3 (fun wX => wX.cell? ⟨b.p, 1, none⟩ = some (.slice (some ⟨qo, 0, none⟩) g.m co) ∧ wX.cell? ⟨q, k, none⟩ = some (.int .i64 ((i : Int) + 1)) ∧ wX.cell? ⟨qo, i * 2, none⟩ = some (.slice (some ⟨b.R i, 0, none⟩) (g.rf i).length (g.rf i).length) ∧ wX.cell? ⟨qo, i * 2 + 1, none⟩ = some (.slice (some ⟨b.D i, 0, none⟩) (g.dt i).length (g.dt i).length))
            (first | exact ⟨hobs, hcq, o1, o2⟩ | go_keep)
            (first | fail)
          all_goals (
            go_wp2_with fail
            go_meet)
          all_goals exact ⟨rfl, by (repeat (first | with_reducible exact Chg.refl _ _ | with_reducible apply Chg.drewN | with_reducible apply Chg.drew | with_reducible apply Chg.alloc | (with_reducible refine Chg.setCell ?_ ?_ _; rotate_left; focus (first | (refine Or.inr ?_; first | omega | (simp; done) | (simp; omega)) | exact Or.inl (by assumption) | with_reducible exact Or.inl rfl | exact Or.inl (by simp))) | refine Chg.trans ?_ (Chg.of_below (by with_reducible assumption) (fun k h1 h2 => absurd h1 (by first | omega | (simp; omega)))) | refine Chg.trans ?_ (by with_reducible assumption))), by go_simp, by go_simp, by simp⟩
        case rest =>
        obtain ⟨rfl, hcc, x0, x1, hsc⟩ := hcut
        obtain ⟨P, hP⟩ : ∃ P, P = wr.heap.size := ⟨_, rfl⟩
        rw [← hP] at x0 x1
        have hPl : P < wc.heap.size := by omega
        have HPN := hid (show ¬ ov.ownBlock = some P from fun e => by have := (hovlt.out P e).2; omega)
        have HCC := hid hcc
        have HOWc := hid (hcc.owns HOW.out (by simp))
        have HOc := hid (HOk.out.chg hcc (by simp))
        have HCc := hid (HCk.out.trans hcc)
        have hszc : w1.heap.size ≤ wc.heap.size := by omega
        rw [show (⟨wr.heap.size, 0, none⟩ : Addr) = ⟨P, 0, none⟩ by rw [hP]]
        clear hcc hsc hP hobs hcq o1 o2 HOW hql hqo
        go_wp2_with (at_builtin; refine wpList_append_lies _ rfl _ _ 71 rfl w1.heap.size 29 i0 (.int .u64 0) 1 8 Try.underlying71 hi hz0 hz1 hz2 rfl (by decide) _ _ _ rfl (HOWc.out.alloc _) ⟨wc.heap.size, 0, none⟩ 2 2 [Value.int .u64 (g.rf i).length, Value.int .u64 (g.dt i).length] rfl rfl (two_lies (by simp)) (by intro u hu; simp at hu; rcases hu with rfl | rfl <;> rfl) (by decide) (by unfold maxLen; omega) (by omega) (by first | omega | (simp; omega)) _ rfl ?_; intro g5 cap5 w5 hown5 hgrow5 hat5 hlt5; have hc5 : Chg (fun x => ov.ownBlock = some x) wc w5 := Chg.grown (by (repeat (first | with_reducible exact Chg.refl _ _ | with_reducible apply Chg.drewN | with_reducible apply Chg.drew | with_reducible apply Chg.alloc | (with_reducible refine Chg.setCell ?_ ?_ _; rotate_left; focus (first | (refine Or.inr ?_; first | omega | (simp; done) | (simp; omega)) | exact Or.inl (by assumption) | with_reducible exact Or.inl rfl | exact Or.inl (by simp))) | refine Chg.trans ?_ (Chg.of_below (by with_reducible assumption) (fun k h1 h2 => absurd h1 (by first | omega | (simp; omega)))) | refine Chg.trans ?_ (by with_reducible assumption)))) hgrow5 (fun x hx => .inl hx); have HC5 := hid hc5; have HO5 := hid hown5; have HA5 : Hid (ov.ownBlock = some g5 ∨ wc.heap.size ≤ g5) := (by rcases hat5 with h | h; exact .inl h; exact .inr (by simp at h; omega)); have x2 := (hc5.cell (o := 0) hPl HPN.out).trans x0; have x3 := (hc5.cell (o := 1) hPl HPN.out).trans x1; clear hc5 hown5 hgrow5 hat5)
        have hOU := ownU_more (news := [((g.rf i).length : Int), ((g.dt i).length : Int)]) HO5.out rfl hNN.out
        have HOU := hid hOU
        have HC6 := hid (chg_out HCc.out HOc.out HC5.out)
        have hz2' : (Zk ++ [((g.rf i).length : Int), ((g.dt i).length : Int)]).length = N + 2 := by rw [List.length_append, hNN.out]; rfl
        have HZ2 := hid hz2'
        have hg5 : g5 ≠ P := by
          rcases HA5.out with h | h
          · exact fun e => HPN.out (e ▸ h)
          · omega
        have hP5 : P < w5.heap.size := Nat.lt_of_lt_of_le hPl HC5.out.size
        have hRw := H.out.lt (.rf i) (b.R i) (if_pos him)
        have hDw := H.out.lt (.dt i) (b.D i) (if_pos him)
        have hw1 := hid HC.out.size
        clear hOU hz2' x0 x1
        go_loopw [5, 10] (fun s5 i10 wq => ∃ (j : Nat) (ov : Value), j ≤ (g.rf i).length ∧ i10 = .int .i64 j ∧ ov = s5 ∧ OwnU w1.heap.size wq ov ((Zk ++ [((g.rf i).length : Int), ((g.dt i).length : Int)]) ++ ((g.rf i).take j).map (num L)) ∧ Chg (fun _ => False) w1 wq ∧
          wq.cell? ⟨P, 0, none⟩ = some (.slice (some ⟨b.R i, 0, none⟩) (g.rf i).length (g.rf i).length) ∧ wq.cell? ⟨P, 1, none⟩ = some (.slice (some ⟨b.D i, 0, none⟩) (g.dt i).length (g.dt i).length) ∧ P < wq.heap.size ∧ ¬ ov.ownBlock = some P) (fun _ i10 _ => (g.rf i).length - (intOf i10).toNat)
        case atStart => exact ⟨0, _, by omega, rfl, rfl, by simpa using HOU.out, HC6.out, x2, x3, hP5, by simpa [Value.ownBlock] using hg5⟩
        case round =>
          obtain ⟨j, ov, hj, rfl, rfl, ho, hc, x0, x1, hPq, hPn⟩ := hrel
          have HOI := hid ho
          have HCI := hid hc
          have HPN2 := hid hPn
          have hgw := H.out.quiet (HC.out.trans hc)
          by_cases hjl : j < (g.rf i).length
          · have hjl' : (j : Int) < ((g.rf i).length : Int) := by omega
            have s8 := (hgw.rfs i him).cell hjl
            have hRq := (hgw.rfs i him).lt
            have hr0 := getD_range (hgw.okR i him) hjl
            have hsn := take_map_snoc (num L) hjl
            obtain ⟨r, hr⟩ : ∃ r, r = (g.rf i).getD j 0 := ⟨_, rfl⟩
            rw [← hr] at s8 hr0 hsn
            obtain ⟨n, rfl⟩ : ∃ n : Nat, r = (n : Int) := ⟨r.toNat, by omega⟩
            have hnum := (hc.cell (o := n) HM.out.num.lt (by simp)).trans (HM.out.num.cell (i := n) (by omega))
            have hnlt : nb < wr.heap.size := Nat.lt_of_lt_of_le HM.out.num.lt hc.size
            have hnm2 : (n : Int) < (g.m : Int) + 1 := by omega
            have HSN2 := hid hsn
            obtain ⟨Zj, hZj⟩ : ∃ Zj, Zj = (Zk ++ [((g.rf i).length : Int), ((g.dt i).length : Int)]) ++ ((g.rf i).take j).map (num L) := ⟨_, rfl⟩
            have hZjl : Zj.length + 1 ≤ 17592186044416 := by rw [hZj, List.length_append, HZ2.out, List.length_map, List.length_take]; omega
            rw [← hZj] at ho HOI
            have HZJ := hid hZj
            obtain ⟨M, hM⟩ : ∃ M, M = Zj.length := ⟨_, rfl⟩
            have hMM := hid hM
            rw [← hM] at hZjl
            have hown : wr.ownsRow w1.heap.size 29 1 ov M (Zj.map (Value.int .u64)) := by rw [hM]; exact ho
            have HOW2 := hid hown
            have hsz2 := hc.size
            clear ho hc hgw hown hM hZj hsn hr hr0 hPn x2 x3 hg5 hP5 hPl
            revert hnum HSN2
            generalize num L (n : Int) = z
            intro hnum HSN2
            go_wp2_with (at_builtin; refine wpList_append_lies _ rfl _ _ 71 rfl w1.heap.size 29 i0 (.int .u64 0) 1 8 Try.underlying71 hi hz0 hz1 hz2 rfl (by decide) _ _ _ rfl (HOW2.out.alloc _) ⟨wr.heap.size, 0, none⟩ 1 1 [Value.int .u64 z] rfl rfl (one_lies (by simp)) (by intro u hu; simp at hu; subst hu; rfl) (by decide) (by unfold maxLen; omega) (by omega) (by first | omega | (simp; omega)) _ rfl ?_; intro g5 cap5 w5 hown5 hgrow5 hat5 hlt5; have hc5 : Chg (fun x => ov.ownBlock = some x) wr w5 := Chg.grown (by (repeat (first | with_reducible exact Chg.refl _ _ | with_reducible apply Chg.drewN | with_reducible apply Chg.drew | with_reducible apply Chg.alloc | (with_reducible refine Chg.setCell ?_ ?_ _; rotate_left; focus (first | (refine Or.inr ?_; first | omega | (simp; done) | (simp; omega)) | exact Or.inl (by assumption) | with_reducible exact Or.inl rfl | exact Or.inl (by simp))) | refine Chg.trans ?_ (Chg.of_below (by with_reducible assumption) (fun k h1 h2 => absurd h1 (by first | omega | (simp; omega)))) | refine Chg.trans ?_ (by with_reducible assumption)))) hgrow5 (fun x hx => .inl hx); have HC5 := hid hc5; have HO5 := hid hown5; have HA5 : Hid (ov.ownBlock = some g5 ∨ wr.heap.size ≤ g5) := (by rcases hat5 with h | h; exact .inl h; exact .inr (by simp at h; omega)); have x2 := (hc5.cell (o := 0) hPq HPN2.out).trans x0; have x3 := (hc5.cell (o := 1) hPq HPN2.out).trans x1; clear hc5 hown5 hgrow5 hat5)
            go_roundw
            case rel =>
              refine ⟨j + 1, _, by omega, by go_num, rfl, ?_, chg_out HCI.out HOI.out HC5.out, x2, x3, Nat.lt_of_lt_of_le hPq HC5.out.size, fun e => ?_⟩
              · rw [HSN2.out, ← List.append_assoc, ← HZJ.out]
                exact ownU_more (news := [z]) HO5.out rfl hMM.out
              · have e' : g5 = P := by simpa [Value.ownBlock] using e
                rcases HA5.out with h | h
                · exact HPN2.out (e' ▸ h)
                · omega
            case measure => simp [intOf]; omega
          · obtain rfl : j = (g.rf i).length := by omega
            rw [List.take_length] at HOI
            obtain ⟨Zj, hZj⟩ : ∃ Zj, Zj = (Zk ++ [((g.rf i).length : Int), ((g.dt i).length : Int)]) ++ (g.rf i).map (num L) := ⟨_, rfl⟩
            have hZjl : Zj.length + 1048576 ≤ 17592186044416 := by rw [hZj, List.length_append, HZ2.out, List.length_map]; omega
            rw [← hZj] at HOI
            have HZJ := hid hZj
            obtain ⟨M, hM⟩ : ∃ M, M = Zj.length := ⟨_, rfl⟩
            have hMM := hid hM
            rw [← hM] at hZjl
            have hown : wr.ownsRow w1.heap.size 29 1 ov M (Zj.map (Value.int .u64)) := by rw [hM]; exact HOI.out
            have HOW2 := hid hown
            have hsz2 := hc.size
            have hX2 := hid (fun (j : Nat) (u : Value) (hu : ((g.dt i).map (Value.int .u64))[j]? = some u) => (show wr.cell? ((⟨b.D i, 0, none⟩ : Addr).add j) = some u by
              have hj : j < (g.dt i).length := by
                have := (List.getElem?_eq_some_iff.1 hu).1
                rwa [List.length_map] at this
              rw [Go.WideShapes.add_plain, Nat.zero_add, (hgw.dts i him).cell hj, ← hu]
              simp [hj]))
            clear ho hc hgw hown hM hZj hPn x2 x3 hg5 hP5 hPl
            go_wp2_with (at_builtin; refine wpList_append_own _ rfl _ _ 71 rfl w1.heap.size 29 i0 (.int .u64 0) 1 8 Try.underlying71 hi hz0 hz1 hz2 rfl (by decide) _ _ _ rfl HOW2.out ⟨b.D i, 0, none⟩ (g.dt i).length (g.dt i).length ((g.dt i).map (Value.int .u64)) rfl (by simp) hX2.out ?c2 ?c3 ?c4 hsz2 ?_)
            case c2 => intro u hu; rw [List.mem_map] at hu; obtain ⟨x, _, rfl⟩ := hu; rfl
            case c3 => unfold maxLen; omega
            case c4 => omega
            intro v' w6 hown' hgrow _
            have HO6 := hid hown'
            have HC7 := hid (show Chg (fun x => ov.ownBlock = some x) wr w6 from Chg.grown (Chg.refl _ _) hgrow (fun x hx => .inl hx))
            clear hown' hgrow
            go_wp2_with fail
            go_roundw
            case rel =>
              refine ⟨k + 1, v', by omega, by go_num, rfl, ?_, chg_out HCI.out HOI.out HC7.out⟩
              have e : threadsOut g L g.n ++ objsOut g L (L.take (k + 1)) = Zj ++ g.dt i := by
                rw [HSN.out, ← List.append_assoc, ← HZK.out, HZJ.out]
                simp
              rw [e]
              exact ownU_more (news := g.dt i) HO6.out rfl hMM.out
            case measure => simp [intOf]; omega
end Go.Proofs.Ytcdllelbdcacjaa.R
