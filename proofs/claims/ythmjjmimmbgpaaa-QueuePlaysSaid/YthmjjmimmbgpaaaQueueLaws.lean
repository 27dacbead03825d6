/-
  QueueNil (layer 10), and the calls that the layer's statements make first.
-/
import Derived.Test.YthmjjmimmbgpaaaQueue4
set_option linter.unusedVariables false
set_option linter.unusedSimpArgs false
namespace Go.Proofs.Ythmjjmimmbgpaaa
open Go.RowKit

/-- a queue none of whose blocks is in X -/
def QSt (X : Nat → Prop) (w : World) (p o n bound : Nat) (C : List Int) (L : Nat → List Int) : Prop := ∃ cv V, QAt w p o n bound cv C V L ∧ ∀ k, QB p o n cv V k → ¬ X k

section
variable {X : Nat → Prop} {w : World} {p o n bound : Nat} {C : List Int} {L : Nat → List Int}
theorem QSt.chg {S : Nat → Prop} {w' : World} (h : QSt X w p o n bound C L) (c : Chg S w w') (hS : ∀ k, S k → X k) : QSt X w' p o n bound C L := by
  obtain ⟨cv, V, h1, h2⟩ := h
  exact ⟨cv, V, h1.chg c (fun k hk hs => h2 k hk (hS k hs)), h2⟩
theorem QSt.lt (h : QSt X w p o n bound C L) : p < w.heap.size ∧ o < w.heap.size := by
  obtain ⟨cv, V, h1, h2⟩ := h
  exact ⟨h1.lt p (.inl rfl), h1.lt o (.inr (.inl rfl))⟩
theorem QSt.clen (h : QSt X w p o n bound C L) : C.length ≤ bound ∧ bound ≤ 65536 ∧ n ≤ 64 := by
  obtain ⟨cv, V, h1, h2⟩ := h
  exact ⟨h1.clen, h1.bmax, h1.n64⟩

theorem q_len (h : QSt X w p o n bound C L) :
    Calls Try.prog 20 #[.pointer (some ⟨p, 0, none⟩)] w fun e w' => e = .returned (.int .i64 C.length) ∧ w = w' := by
  obtain ⟨cv, V, h1, h2⟩ := h
  exact queue_len w p o n bound cv C V L h1
theorem q_waiting (h : QSt X w p o n bound C L) (hL : ∀ t, t < n → (L t).length ≤ 3) :
    Calls Try.prog 21 #[.pointer (some ⟨p, 0, none⟩)] w fun e w' => e = .returned (.int .i64 (C.length + (joins L n).length : Nat)) ∧ w = w' := by
  obtain ⟨cv, V, h1, h2⟩ := h
  exact queue_waiting w p o n bound cv C V L h1 hL
theorem q_pop {c : Int} (h : QSt X w p o n bound (c :: C) L) :
    Calls Try.prog 13 #[.pointer (some ⟨p, 0, none⟩)] w fun e w' => e = .returned (.tuple #[.int .i64 c, .int .i64 0]) ∧ Chg (fun k => ¬ X k) w w' ∧ QSt X w' p o n bound C L := by
  obtain ⟨cv, V, h1, h2⟩ := h
  refine (queue_pop w p o n bound cv c C V L h1).mono ?_
  rintro e w' ⟨rfl, hc, cv', h3, h4⟩
  refine ⟨rfl, hc.mono (fun k _ hk => by have e : k = p := hk; subst e; exact h2 k (.inl rfl)), cv', V, h3, fun k hk => h2 k ?_⟩
  rcases hk with hk | hk | hk | hk
  · exact .inl hk
  · exact .inr (.inl hk)
  · exact .inr (.inr (.inl (by rw [← h4]; exact hk)))
  · exact .inr (.inr (.inr hk))
theorem q_pop_none (h : QSt X w p o n bound [] L) :
    Calls Try.prog 13 #[.pointer (some ⟨p, 0, none⟩)] w fun e w' => e = .returned (.tuple #[.int .i64 0, .int .i64 5]) ∧ w = w' := by
  obtain ⟨cv, V, h1, h2⟩ := h
  exact queue_pop_none w p o n bound cv V L h1
theorem q_push_short (h : QSt X w p o n bound C L) (hX : ∀ k, X k → k < w.heap.size) (t c : Nat) (ht : t < n) (hl : (L t).length < 3) (hc : c ≤ 9223372036854775807) :
    Calls Try.prog 18 #[.pointer (some ⟨p, 0, none⟩), .int .i64 t, .int .i64 c] w fun e w' => e = .returned (.tuple #[.slice none 0 0, .int .i64 0]) ∧ Chg (fun k => ¬ X k) w w' ∧ QSt X w' p o n bound C (upd L t (L t ++ [(c : Int)])) := by
  obtain ⟨cv, V, h1, h2⟩ := h
  refine (queue_push_short w p o n bound cv C V L t c h1 ht hl hc).mono ?_
  rintro e w' ⟨rfl, hch, v', h3, h4⟩
  refine ⟨rfl, hch.mono (fun k _ hk => h2 k hk), cv, upd V t v', h3, fun k hk => ?_⟩
  rcases QB.relist ht h4 k hk with h | h
  · exact h2 k h
  · exact fun hx => by have := hX k hx; omega
theorem q_push_full (h : QSt X w p o n bound C L) (hX : ∀ k, X k → k < w.heap.size) (t c R : Nat) (ht : t < n) (hl : (L t).length = 3) (hc : c ≤ 9223372036854775807) (hR : R = min (bound - C.length) 4) :
    Calls Try.prog 18 #[.pointer (some ⟨p, 0, none⟩), .int .i64 t, .int .i64 c] w fun e w' => ∃ tv, e = .returned (.tuple #[tv, .int .i64 0]) ∧ Chg (fun k => ¬ X k) w w' ∧ QSt X w' p o n bound (C ++ (L t ++ [(c : Int)]).take R) (upd L t []) ∧
      Src w' tv ((L t ++ [(c : Int)]).drop R) ∧ ∀ g, tv.ownBlock = some g → ¬ X g := by
  obtain ⟨cv, V, h1, h2⟩ := h
  refine (queue_push_full w p o n bound cv C V L t c R h1 ht hl hc hR).mono ?_
  rintro e w' ⟨tv, rfl, hch, cv', h3, h4, h5, h6⟩
  refine ⟨tv, rfl, hch.mono (fun k _ hk => h2 k hk), ⟨cv', _, h3, fun k hk => ?_⟩, h5.src, fun g hg => ?_⟩
  · rcases QB.recommon (w := w) h4 k hk with h | h
    · rcases QB.relist (w := w) (v' := .slice none 0 0) ht (by simp [Value.ownBlock]) k h with h | h
      · exact h2 k h
      · exact fun hx => by have := hX k hx; omega
    · exact fun hx => by have := hX k hx; omega
  · rcases (h6 g hg).1 with h | h
    · exact h2 g (.inr (.inr (.inr ⟨t, ht, h⟩)))
    · exact fun hx => by have := hX g hx; omega
theorem q_drain (h : QSt X w p o n bound C L) (hL : ∀ t, t < n → (L t).length ≤ 3) :
    Calls Try.prog 16 #[.pointer (some ⟨p, 0, none⟩)] w fun e w' => ∃ t, e = .returned t ∧ OwnInts w.heap.size w' t (C ++ joins L n) ∧ Chg (fun k => ¬ X k) w w' ∧ QSt X w' p o n bound [] (fun _ => []) := by
  obtain ⟨cv, V, h1, h2⟩ := h
  refine (queue_drain w p o n bound cv C V L h1 hL).mono ?_
  rintro e w' ⟨t, rfl, h3, hch, h4⟩
  have hp := h2 p (.inl rfl)
  have ho := h2 o (.inr (.inl rfl))
  refine ⟨t, rfl, h3, hch.mono (fun k _ hk => by rcases hk with rfl | rfl; exact hp; exact ho), _, _, h4, ?_⟩
  rintro k (rfl | rfl | hk | ⟨s, _, hk⟩)
  · exact hp
  · exact ho
  · simp [Value.ownBlock] at hk
  · simp [Value.ownBlock] at hk
end

/-- the first cards of 'awake' -/
def firsts (k : Nat) : List Int := (List.range k).map (fun j : Nat => 5 + (j : Int))

set_option maxRecDepth 100000 in
set_option maxHeartbeats 2000000 in
theorem awake10 (w : World) : Calls Try.prog 10 #[] w fun e w' => e = .returned (.bool true) ∧ Below w.heap.size w w' := by
  obtain ⟨B, hB⟩ : ∃ B : Nat, B = w.heap.size := ⟨_, rfl⟩
  have HB := hid hB
  rw [← hB]
  clear hB
  go_enter Try.func10, Try.ntmps10
  go_upto_block 0 with (go_at_call 11; refine (queue_new 2 3 _ (by omega) (by omega) (by omega)).mono ?_; rintro e wa ⟨p, o, rfl, hp, ho, hb, hq⟩; have hQ := hid hq; clear hq)
  have hq0 : QSt (fun k => k < B) wa p o 2 3 [] (fun _ => []) := ⟨_, _, hQ.out, by
    have := HB.out
    rintro k (rfl | rfl | hk | ⟨s, _, hk⟩)
    · omega
    · omega
    · simp [Value.ownBlock] at hk
    · simp [Value.ownBlock] at hk⟩
  have HQ0 := hid hq0
  have HBW := hid (show Below B w wa from HB.out ▸ hb)
  clear hQ hp ho hb hq0
  go_cut [3] (fun s3 wx => ∃ L : Nat → List Int, QSt (fun k => k < B) wx p o 2 3 [] L ∧ L 0 = [5, 6, 7] ∧ L 1 = [] ∧ Below B w wx)
  case first =>
    go_wp2_with fail
    go_loopw [3] (fun i wr => ∃ (k : Nat) (L : Nat → List Int), k ≤ 3 ∧ i = .int .i64 ((k + 5 : Nat) : Int) ∧ QSt (fun k => k < B) wr p o 2 3 [] L ∧ L 0 = firsts k ∧ L 1 = [] ∧ Below B w wr) (fun i _ => 8 - (intOf i).toNat)
    case atStart => exact ⟨0, _, by omega, rfl, HQ0.out, rfl, rfl, HBW.out⟩
    case round =>
      obtain ⟨k, L, hk, rfl, hq, h0, h1, hbw⟩ := hrel
      have hQ := hid hq
      have H0 := hid h0
      have H1 := hid h1
      have HBW := hid hbw
      have hX : ∀ k, k < B → k < wr.heap.size := fun k hk => by have := HB.out; have := hbw.size; omega
      have HX := hid hX
      clear hq h0 h1 hbw hX
      by_cases hlt : k < 3
      · have hlt' : (k : Int) + 5 < 8 := by omega
        have hl : (L 0).length < 3 := by rw [H0.out]; unfold firsts; simp; omega
        have HL := hid hl
        clear hl
        have HP := hid (q_push_short (t := 0) (c := k + 5) hQ.out HX.out (by omega) HL.out (by omega))
        simp only [Int.natCast_add] at HP
        go_wp2_with (go_at_call 18; refine HP.out.mono ?_; rintro e w1 ⟨rfl, hc1, hq1⟩; have HC1 := hid hc1; have HQ1 := hid hq1; clear hc1 hq1)
        go_roundw
        case rel =>
          refine ⟨k + 1, _, by omega, by go_num, HQ1.out, ?_, ?_, HC1.out.below HBW.out (fun x _ hx => by omega) (by have := HB.out; have := HBW.out.size; omega)⟩
          · rw [upd_same, H0.out]
            unfold firsts
            rw [List.range_succ, List.map_append]
            simp
            omega
          · rw [upd_other _ _ (by decide)]; exact H1.out
        case measure => simp [intOf]; omega
      · obtain rfl : k = 3 := by omega
        go_wp2_with fail
        go_meet
        exact ⟨L, hQ.out, by rw [H0.out]; rfl, H1.out, HBW.out⟩
  case rest =>
  obtain ⟨L, ⟨cv, V, hq, hX⟩, h0, h1, hbw⟩ := hcut
  have HQ := hid hq
  have HBW := hid hbw
  have hsz : B ≤ wc.heap.size := by have := HB.out; have := hbw.size; omega
  have hP1 := queue_push_short wc p o 2 3 cv [] V L 1 9 hq (by omega) (by rw [h1]; decide) (by omega)
  rw [h1, List.nil_append] at hP1
  have HP1 := hid hP1
  have HX := hid hX
  have H0 := hid h0
  clear hq hbw hP1 hX h0 h1
  go_upto_region 9 with (go_at_call 18; refine HP1.out.mono ?_; rintro e w1 ⟨rfl, hc1, v1, hq1, hv1⟩; have HC1 := hid hc1; have HQ1 := hid hq1; have HV1 := hid hv1; clear hc1 hq1 hv1)
  have hP2 := queue_push_full w1 p o 2 3 cv [] (upd V 1 v1) (upd L 1 [9]) 0 8 3 HQ1.out (by omega) (by rw [upd_other _ _ (by decide), H0.out]; rfl) (by omega) (by decide)
  have e0 : upd L 1 [(9 : Int)] 0 = [5, 6, 7] := by rw [upd_other _ _ (by decide)]; exact H0.out
  rw [e0] at hP2
  have HP2 := hid hP2
  have hX1 : ∀ x, QB p o 2 cv (upd V 1 v1) x → B ≤ x := fun x hx => by
    rcases QB.relist (w := wc) (by omega) HV1.out x hx with h | h
    · have := HX.out x h; omega
    · omega
  have HX1 := hid hX1
  have hs1 := hid HC1.out.size
  clear hP2 hX1 e0
  go_upto_region 10 with (go_at_call 18; refine HP2.out.mono ?_; rintro e w2 ⟨tv, rfl, hc2, cv2, hq2, hcv2, hs2, hb2⟩; have HC2 := hid hc2; have HQ2 := hid hq2; have HV2 := hid hcv2; have HS2 := hid hs2; have HB2 := hid hb2; clear hc2 hq2 hcv2 hs2 hb2)
  have hX2 : ∀ x, QB p o 2 cv2 (upd (upd V 1 v1) 0 (.slice none 0 0)) x → B ≤ x := fun x hx => by
    have hs := hs1.out
    rcases QB.recommon (w := w1) HV2.out x hx with h | h
    · rcases QB.relist (w := w1) (v' := .slice none 0 0) (by omega) (by simp [Value.ownBlock]) x h with h | h
      · exact HX1.out x h
      · omega
    · omega
  have HX2 := hid hX2
  have hsr := HS2.out.src
  rcases hsr with ⟨_, hx⟩ | ⟨g, go', gcap, rfl, hgl, hgc⟩
  · exact absurd hx (by decide)
  have hg0 : w2.cell? ⟨g, go', none⟩ = some (.int .i64 8) := by have := hgc 0 (by decide); rw [Nat.add_zero] at this; exact this
  have hgp : g ≠ p := fun e => (HB2.out g rfl).2 (.inl e)
  have HG := hid hg0
  have hP3 := queue_pop w2 p o 2 3 cv2 5 [6, 7] _ _ HQ2.out
  have HP3 := hid hP3
  have HGP := hid hgp
  clear hX2 hP3 hgc hg0 hgp
  go_upto_region 11 with (go_at_call 13; refine HP3.out.mono ?_; rintro e w3 ⟨rfl, hc3, cv3, hq3, hcv3⟩; have HC3 := hid hc3; have HQ3 := hid hq3; clear hc3 hq3 hcv3)
  have hcell : w3.cell? ⟨g, go', none⟩ = some (.int .i64 8) := (HC3.out.cell hgl HGP.out).trans HG.out
  have hlist : ([6, 7] : List Int) ++ joins (upd (upd L 1 [9]) 0 []) 2 = [6, 7, 9] := by
    show [6, 7] ++ (([] ++ upd (upd L 1 [9]) 0 [] 0) ++ upd (upd L 1 [9]) 0 [] 1) = _
    rw [upd_same, upd_other _ _ (by decide), upd_same]
    rfl
  have hP4 := queue_drain w3 p o 2 3 cv3 [6, 7] _ _ HQ3.out (fun t ht => by
    match t, ht with
    | 0, _ => rw [upd_same]; simp
    | 1, _ => rw [upd_other _ _ (by decide), upd_same]; simp)
  rw [hlist] at hP4
  have HP4 := hid hP4
  clear hP4 hlist
  go_wp2_with (first
    | (go_at_call 16; refine HP4.out.mono ?_; rintro e w4 ⟨t4, rfl, ho4, hc4, hq4⟩; have HO4 := hid ho4; have HC4 := hid hc4; clear ho4 hc4 hq4)
    | (go_at_call 15; refine (same_true _ _ _ [6, 7, 9] ((ownInts_reads HO4.out).chg ((Chg.refl (fun _ => False) _).alloc _) (by simp)) ⟨_, 3, rfl, .inr ⟨_, 0, rfl, by simp, fun j hj => by
        match j, hj with
        | 0, _ => go_simp
        | 1, _ => go_simp
        | 2, _ => go_simp⟩⟩ (by decide)).mono ?_; rintro e w' ⟨rfl, k9, rfl⟩))
  go_ret
  have hb1 := HC1.out.below HBW.out (fun x _ hx => HX.out x hx |> fun h => by omega) hsz
  have hs2 := HC2.out.size
  have hb2 := HC2.out.below hb1 (fun x _ hx => HX1.out x hx) (by have := hs1.out; omega)
  have hb3 := HC3.out.below hb2 (fun x _ hx => by have e : x = p := hx; subst e; exact HX2.out x (.inl rfl)) (by have := hs1.out; omega)
  have hb4 := HC4.out.below hb3 (fun x _ hx => by rcases hx with rfl | rfl; exact HX2.out x (.inl rfl); exact HX2.out x (.inr (.inl rfl))) (by have := hs1.out; have := HC3.out.size; omega)
  have hs4 := HC4.out.size
  have hs3 := HC3.out.size
  refine ⟨rfl, bel_drewN.2 (hb4.alloc (by have := hs1.out; omega) _)⟩

set_option maxRecDepth 100000 in
set_option maxHeartbeats 1000000 in
theorem queueNil (k t c : Int) (w : World) (_ : (Lit.int .i64 k).wf = true) (_ : (Lit.int .i64 t).wf = true) (_ : (Lit.int .i64 c).wf = true) :
    Calls Try.prog 5 #[.agg #[.int .i64 k, .int .i64 t, .int .i64 c]] w fun e w' => e = .returned (.bool true) ∧ Below w.heap.size w w' := by
  go_enter Try.func5, Try.ntmps5
  go_wp2_with (first
    | (go_at_call 10; refine (awake10 _).mono ?_; rintro e w' ⟨rfl, hb⟩; have hb_0 := fun o => (hb).cell (p := ⟨w.heap.size, o, none⟩) (by first | omega | (simp; done) | (simp; omega)); have hbf_0 := fun o => (hb).frozen (p := ⟨w.heap.size, o, none⟩) (by first | omega | (simp; done) | (simp; omega)); have hbl_0 : w.heap.size < w'.heap.size := (by have := (hb).size; (try simp at this); omega); have hbm_0 := Nat.le_of_lt hbl_0)
    | (go_at_call 18; refine (queue_push_nil _ t c).mono ?_; rintro e w' ⟨rfl, rfl⟩)
    | (go_at_call 13; refine (queue_pop_nil _).mono ?_; rintro e w' ⟨rfl, rfl⟩)
    | (go_at_call 16; refine (queue_drain_nil _).mono ?_; rintro e w' ⟨rfl, rfl⟩)
    | (go_at_call 20; refine (queue_len_nil _).mono ?_; rintro e w' ⟨rfl, rfl⟩)
    | (go_at_call 21; refine (queue_waiting_nil _).mono ?_; rintro e w' ⟨rfl, rfl⟩))
  go_ret
  exact ⟨rfl, by (repeat (first | exact Below.refl _ _ | exact Below.refl _ _ | apply bel_drewN.2 | apply bel_drew.2 | refine Below.setCell ?_ (by first | omega | (simp; done) | (simp; omega)) _ | refine Below.alloc ?_ (by first | omega | (simp; done) | (simp; omega)) _ | refine bel_step (by assumption) (by first | omega | (simp; done) | (simp; omega)) ?_))⟩
end Go.Proofs.Ythmjjmimmbgpaaa
