/-
  Graphs (layer 13): numbers are told.
-/
import Derived.Test.YtcdllelbdcacjaaGraph12
set_option linter.unusedVariables false
set_option linter.unusedSimpArgs false
namespace Go.Proofs.Ytcdllelbdcacjaa
open Go.RowKit Go.Maps

/-- what is told so far: the variable's block, the row -/
structure OutAt (B : Nat) (w : World) (Ov : Nat) (ov : Value) (Z : List Int) : Prop where
  ob : w.heap[Ov]? = some (.cells #[ov] 71 (0, 0))
  own : w.ownsRow B 29 1 ov Z.length (Z.map (Value.int .u64))
  ne : Ov < B

theorem OutAt.chg {S : Nat → Prop} {B : Nat} {w w1 : World} {Ov : Nat} {ov : Value} {Z : List Int} (h : OutAt B w Ov ov Z) (c : Chg S w w1) (hn : ¬ S Ov) (hl : ∀ k, ov.ownBlock = some k → ¬ S k) : OutAt B w1 Ov ov Z :=
  { h with ob := (c.block Ov (lt_of_block h.ob) hn).trans h.ob, own := c.owns h.own hl }

/-- the row becomes another, one that was appended to -/
theorem OutAt.more {B : Nat} {w w5 : World} {Ov : Nat} {ov : Value} {Z news : List Int} {g5 cap5 : Nat} (h : OutAt B w Ov ov Z) (c : Chg (fun x => ov.ownBlock = some x) w w5)
    (ho : w5.ownsRow B 29 1 (.slice (some ⟨g5, 0, none⟩) (Z.length + news.length) cap5) (Z.length + news.length) (Z.map (Value.int .u64) ++ news.map (Value.int .u64))) (hat : ov.ownBlock = some g5 ∨ w.heap.size ≤ g5) :
    OutAt B (w5.setCell ⟨Ov, 0, none⟩ (.slice (some ⟨g5, 0, none⟩) (Z.length + news.length) cap5)) Ov (.slice (some ⟨g5, 0, none⟩) (Z.length + news.length) cap5) (Z ++ news) ∧
    Chg (fun x => x = Ov ∨ ov.ownBlock = some x) w (w5.setCell ⟨Ov, 0, none⟩ (.slice (some ⟨g5, 0, none⟩) (Z.length + news.length) cap5)) ∧ ∀ x, (Value.slice (some ⟨g5, 0, none⟩) (Z.length + news.length) cap5).ownBlock = some x → ov.ownBlock = some x ∨ w.heap.size ≤ x := by
  have hne := h.ne
  have hO := (c.block Ov (lt_of_block h.ob) (fun e => by have := (h.own.lt Ov e).1; omega)).trans h.ob
  have c6 : Chg (fun x => x = Ov) w5 (w5.setCell ⟨Ov, 0, none⟩ (.slice (some ⟨g5, 0, none⟩) (Z.length + news.length) cap5)) := (Chg.refl (fun x => x = Ov) w5).setCell (p := ⟨Ov, 0, none⟩) (.inl rfl) _
  refine ⟨⟨one_setCell hO, ?_, hne⟩, (c.mono (fun _ _ h => .inr h)).trans (c6.mono (fun _ _ h => .inl h)), fun x hx => ?_⟩
  · rw [List.map_append, List.length_append]
    refine c6.owns ho (fun x hx e => ?_)
    have e1 : g5 = x := by simpa [Value.ownBlock] using hx
    subst e1
    subst e
    rcases hat with h1 | h1
    · have := (h.own.lt g5 h1).1; omega
    · have := lt_of_block h.ob; omega
  · have e1 : g5 = x := by simpa [Value.ownBlock] using hx
    subst e1
    exact hat

set_option maxRecDepth 100000 in
set_option maxHeartbeats 4000000 in
theorem tell_any (w : World) (B Ov Nv M : Nat) (ov v : Value) (Z L X : List Int) (h : OutAt B w Ov ov Z) (hnv : w.heap[Nv]? = some (.cells #[.map (some M)] 99 (0, 0))) (hM : NumMap w M L) (hv : RSrc w v X)
    (hs : ∀ g, v.ownBlock = some g → g ≠ Ov ∧ ov.ownBlock ≠ some g) (hnb : Nv < B ∧ M < B ∧ Nv ≠ Ov ∧ M ≠ Ov) (hBw : B ≤ w.heap.size) (hXl : X.length ≤ 1048576) (hZ : Z.length + X.length ≤ 17592186044416) (hX : ∀ r, r ∈ X → 0 ≤ r ∧ r ≤ 1048576) :
    Calls Try.prog 41 #[v, .pointer (some ⟨Ov, 0, none⟩), .pointer (some ⟨Nv, 0, none⟩)] w fun e w' => e = .returned (.tuple #[]) ∧
      ∃ ov', OutAt B w' Ov ov' (Z ++ X.map (num L)) ∧ Chg (fun x => x = Ov ∨ ov.ownBlock = some x) w w' ∧ ∀ x, ov'.ownBlock = some x → ov.ownBlock = some x ∨ w.heap.size ≤ x := by
  obtain ⟨i0, hi, hz0, hz1, hz2⟩ := info_parts info64
  obtain ⟨A, c, rfl⟩ := hv.shape
  have H := hid h
  have HV := hid hv
  have HX := hid hX
  have HS := hid hs
  have HM := hid hM
  have HNV := hid hnv
  have hXl' : (X.length : Int) ≤ 1048576 := by omega
  clear h hv hX hs hM hnv
  go_enter Try.func41, Try.ntmps41
  go_wp2_with fail
  go_loopw [8] (fun i wr => ∃ (k : Nat) (ovr : Value), k ≤ X.length ∧ i = .int .i64 k ∧ OutAt B wr Ov ovr (Z ++ (X.take k).map (num L)) ∧ Chg (fun x => x = Ov ∨ ov.ownBlock = some x) w wr ∧ ∀ x, ovr.ownBlock = some x → ov.ownBlock = some x ∨ w.heap.size ≤ x) (fun i _ => X.length - (intOf i).toNat)
  case atStart => exact ⟨0, ov, by omega, rfl, by simpa using H.out, Chg.refl _ _, fun x hx => .inl hx⟩
  case round =>
    obtain ⟨k, ovr, hk, rfl, hm, hc, hn⟩ := hrel
    have HO := hid hm
    have HC := hid hc
    have HN := hid hn
    by_cases hlt : k < X.length
    · have hlt' : (k : Int) < (X.length : Int) := by omega
      obtain ⟨r, hr⟩ : ∃ r, r = X.getD k 0 := ⟨_, rfl⟩
      have hr0 := HX.out r (by rw [hr, List.getD_eq_getElem?_getD, List.getElem?_eq_getElem hlt]; exact List.getElem_mem hlt)
      rcases HV.out with ⟨rfl, _⟩ | ⟨g, c', he, hg1, hg2⟩
      · simp at hlt
      · injection he with he1 _ he2
        subst he1 he2
        have hcell := (hc.cell (o := k) hg1 (by have := HS.out g rfl; rintro (h | h); exact this.1 h; exact this.2 h)).trans (hg2 k hlt)
        rw [← hr] at hcell
        have hovB := hid (fun x hx => (H.out.own.lt x hx).1)
        have hNr := (hc.block Nv (lt_of_block HNV.out) (by rintro (h | h); exact hnb.2.2.1 h; have := hovB.out Nv h; omega)).trans HNV.out
        have b1 := cell_of_one hNr
        have b2 := cell_of_one hm.ob
        have b3 := free_of_one hm.ob
        have hNl := lt_of_block hNr
        have hOl := lt_of_block hm.ob
        have hkey : keyOf Try.prog 30 (.int .u64 r) = some (.int .u64 r) := keyOf_int_mk Try.underlying30 (Go.WalkArith.wf_u64 ⟨by omega, by omega⟩)
        obtain ⟨n, D, hn1, hown, hD⟩ := HM.out.chg hc (by rintro (h | h); exact hnb.2.2.2 h; have := hovB.out M h; omega)
        have HD := hid hD
        have HOWN := hid hown
        have htk : (X.take (k + 1)).map (num L) = (X.take k).map (num L) ++ [num L r] := by rw [take_snoc hlt, List.map_append, ← hr]; rfl
        have HTK := hid htk
        have hBs : B ≤ wr.heap.size := Nat.le_trans hBw hc.size
        obtain ⟨Zk, hZk⟩ : ∃ Zk, Zk = Z ++ (X.take k).map (num L) := ⟨_, rfl⟩
        have hZl : Zk.length + 1 ≤ 17592186044416 := by rw [hZk]; simp; omega
        rw [← hZk] at HO
        have HZK := hid hZk
        obtain ⟨N, hN⟩ : ∃ N, N = Zk.length := ⟨_, rfl⟩
        have hNN := hid hN
        rw [← hN] at hZl
        have hown : wr.ownsRow B 29 1 ovr N (Zk.map (Value.int .u64)) := by rw [hN]; exact HO.out.own
        have HOR := hid hown
        clear hm hc hn hD hown hr hg2 hN hZk htk hNr
        go_wp2_with (first
          | (at_lookup; refine wpList_lookup_own_int _ rfl _ _ 99 rfl 30 29 .u64 keyLaw Try.underlying99 Try.underlying29 (zeroU _) M n D rfl HOWN.out _ _ rfl hkey ?_; intro cc hat hwc; have HCC := hid (show num L r = cc by have h1 := (HD.out r).1; rw [h1] at hat; injection hat with hat; injection hat); clear hat)
          | (at_builtin; refine wpList_append_lies _ rfl _ _ 71 rfl B 29 i0 (.int .u64 0) 1 8 Try.underlying71 hi hz0 hz1 hz2 rfl (by decide) _ _ _ rfl (HOR.out.alloc _) ⟨wr.heap.size, 0, none⟩ 1 1 [.int .u64 cc] rfl rfl (one_lies (by simp)) (by intro u hu; simp at hu; subst hu; rfl) (by decide) (by unfold maxLen; omega) (by omega) (by first | omega | (simp; omega)) _ rfl ?_; intro g5 cap5 w5 hown5 hgrow5 hat5 hlt5; have hc5 : Chg (fun x => ovr.ownBlock = some x) wr w5 := Chg.grown (by (repeat (first | with_reducible exact Chg.refl _ _ | with_reducible apply Chg.drewN | with_reducible apply Chg.drew | with_reducible apply Chg.alloc | (with_reducible refine Chg.setCell ?_ ?_ _; rotate_left; focus (first | (refine Or.inr ?_; first | omega | (simp; done) | (simp; omega)) | exact Or.inl (by assumption) | with_reducible exact Or.inl rfl | exact Or.inl (by simp))) | refine Chg.trans ?_ (Chg.of_below (by with_reducible assumption) (fun k h1 h2 => absurd h1 (by first | omega | (simp; omega)))) | refine Chg.trans ?_ (by with_reducible assumption)))) hgrow5 (fun x hx => .inl hx); have hO5 := (hc5.block Ov hOl (fun e => by have := (HO.out.own.lt Ov e).1; have := HO.out.ne; omega)).trans HO.out.ob; have b12 := cell_of_one hO5; have b13 := free_of_one hO5; have HC5 := hid hc5; have HO5 := hid hown5; have HA5 : Hid (ovr.ownBlock = some g5 ∨ wr.heap.size ≤ g5) := (by rcases hat5 with h | h; exact .inl h; exact .inr (by simp at h; omega)); clear hc5 hown5 hgrow5 hat5 hO5))
        go_roundw
        case rel =>
          have ho5 := HO5.out
          rw [hNN.out] at ho5
          obtain ⟨r1, r2, r3⟩ := HO.out.more (news := [cc]) HC5.out ho5 HA5.out
          rw [hNN.out]
          refine ⟨k + 1, .slice (some ⟨g5, 0, none⟩) (Zk.length + 1) cap5, by omega, by go_num, ?_, HC.out.next r2 (fun i hi h => ?_), fun x hx => ?_⟩
          rotate_left
          · rcases h with h | h
            · exact .inl h
            · rcases HN.out i h with h1 | h1
              · exact .inr h1
              · omega
          · rcases r3 x hx with h | h
            · exact HN.out x h
            · have := HC.out.size; right; omega
          · rw [HTK.out, ← List.append_assoc, ← HZK.out, HCC.out]
            exact r1
        case measure => simp [intOf]; omega
    · obtain rfl : k = X.length := by omega
      rw [List.take_length] at HO
      go_wp2_with fail
      go_end0
      exact ⟨rfl, ovr, HO.out, HC.out, HN.out⟩
end Go.Proofs.Ytcdllelbdcacjaa
