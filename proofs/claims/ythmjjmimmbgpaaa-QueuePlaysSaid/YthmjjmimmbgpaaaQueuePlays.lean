/-
  The walk of QueuePlays (layer 10).
-/
import Derived.Test.YthmjjmimmbgpaaaQueueRef3
import Derived.Test.YthmjjmimmbgpaaaOpen
set_option linter.unusedVariables false
set_option linter.unusedSimpArgs false
namespace Go.Proofs.Ythmjjmimmbgpaaa
open Go.RowKit

theorem joins_nil : ∀ n, joins (fun _ => []) n = []
  | 0 => rfl
  | n + 1 => by show joins (fun _ => []) n ++ [] = []; rw [joins_nil n]; rfl

/-- two queues, in blocks of their own, from B on -/
structure Duo (B : Nat) (w : World) (p o p' o' n bound : Nat) (cv : Value) (C : List Int) (V : Nat → Value) (L : Nat → List Int) (cv' : Value) (C' : List Int) (V' : Nat → Value) (L' : Nat → List Int) : Prop where
  q1 : QAt w p o n bound cv C V L
  q2 : QAt w p' o' n bound cv' C' V' L'
  dj : ∀ k, QB p o n cv V k → ¬ QB p' o' n cv' V' k
  b1 : ∀ k, QB p o n cv V k → B ≤ k
  b2 : ∀ k, QB p' o' n cv' V' k → B ≤ k

section
variable {B : Nat} {w w' : World} {p o p' o' n bound : Nat} {cv cvN : Value} {C CN : List Int} {V VN : Nat → Value} {L LN : Nat → List Int} {cv' : Value} {C' : List Int} {V' : Nat → Value} {L' : Nat → List Int}
theorem Duo.swap (h : Duo B w p o p' o' n bound cv C V L cv' C' V' L') : Duo B w p' o' p o n bound cv' C' V' L' cv C V L := ⟨h.q2, h.q1, fun k h1 h2 => h.dj k h2 h1, h.b2, h.b1⟩
theorem Duo.size (h : Duo B w p o p' o' n bound cv C V L cv' C' V' L') : B ≤ w.heap.size := Nat.le_trans (h.b1 p (.inl rfl)) (Nat.le_of_lt (h.q1.lt p (.inl rfl)))
theorem Duo.left (h : Duo B w p o p' o' n bound cv C V L cv' C' V' L') (c : Chg (QB p o n cv V) w w') (h1 : QAt w' p o n bound cvN CN VN LN) (hb : ∀ k, QB p o n cvN VN k → QB p o n cv V k ∨ w.heap.size ≤ k) :
    Duo B w' p o p' o' n bound cvN CN VN LN cv' C' V' L' := by
  have hs := h.size
  refine ⟨h1, h.q2.chg c (fun k hk h2 => h.dj k h2 hk), fun k hk h2 => ?_, fun k hk => ?_, h.b2⟩
  · rcases hb k hk with h3 | h3
    · exact h.dj k h3 h2
    · have := h.q2.lt k h2; omega
  · rcases hb k hk with h3 | h3
    · exact h.b1 k h3
    · omega
theorem Duo.right (h : Duo B w p o p' o' n bound cv C V L cv' C' V' L') (c : Chg (QB p' o' n cv' V') w w') (h1 : QAt w' p' o' n bound cvN CN VN LN) (hb : ∀ k, QB p' o' n cvN VN k → QB p' o' n cv' V' k ∨ w.heap.size ≤ k) :
    Duo B w' p o p' o' n bound cv C V L cvN CN VN LN := (h.swap.left c h1 hb).swap
theorem Duo.chg {S : Nat → Prop} (h : Duo B w p o p' o' n bound cv C V L cv' C' V' L') (c : Chg S w w') (h1 : ∀ k, QB p o n cv V k → ¬ S k) (h2 : ∀ k, QB p' o' n cv' V' k → ¬ S k) : Duo B w' p o p' o' n bound cv C V L cv' C' V' L' :=
  ⟨h.q1.chg c h1, h.q2.chg c h2, h.dj, h.b1, h.b2⟩
theorem Duo.quiet (h : Duo B w p o p' o' n bound cv C V L cv' C' V' L') (c : Chg (fun _ => False) w w') : Duo B w' p o p' o' n bound cv C V L cv' C' V' L' := h.chg c (by simp) (by simp)
end

theorem QB.popped {p o n : Nat} {cv cvN : Value} {V : Nat → Value} (h : cvN.ownBlock = cv.ownBlock) (k : Nat) (hk : QB p o n cvN V k) : QB p o n cv V k := by
  rcases hk with hk | hk | hk | hk
  · exact .inl hk
  · exact .inr (.inl hk)
  · exact .inr (.inr (.inl (by rw [← h]; exact hk)))
  · exact .inr (.inr (.inr hk))
theorem QB.drained {p o n : Nat} {cv : Value} {V : Nat → Value} (k : Nat) (hk : QB p o n (.slice none 0 0) (fun _ => .slice none 0 0) k) : QB p o n cv V k := by
  rcases hk with hk | hk | hk | ⟨s, _, hk⟩
  · exact .inl hk
  · exact .inr (.inl hk)
  · simp [Value.ownBlock] at hk
  · simp [Value.ownBlock] at hk

/-- what the law holds fast -/
def Eq2 (B : Nat) (w : World) (p o p' o' n bound : Nat) : Prop := ∃ cv C V L cv' V', Duo B w p o p' o' n bound cv C V L cv' C V' L ∧ ∀ t, t < n → (L t).length ≤ 3

set_option maxRecDepth 100000 in
set_option maxHeartbeats 4000000 in
theorem queuePlays (a0 a1 : Int) (a2 : Option Addr) (len2 cap2 : Nat) (z2 : Nat → Nat → Int) (w : World) (w0 : (Lit.int .i64 a0).wf = true) (w1 : (Lit.int .i64 a1).wf = true) (w2 : IsTab [IntKind.i64, IntKind.i64, IntKind.i64] w a2 len2 z2) :
    Calls Try.prog 3 #[.int .i64 a0, .int .i64 a1, .slice a2 len2 cap2] w fun e w' => e = .returned (.bool true) ∧ Below w.heap.size w w' := by
  have HT := hid w2
  clear w2 w0 w1
  by_cases hbad : a0 < 1 ∨ 64 < a0 ∨ a1 < 0 ∨ 65536 < a1
  · have HB := hid hbad
    clear hbad
    go_enter Try.func3, Try.ntmps3
    go_wp2_with (first
      | (go_at_call 10; refine (awake10 _).mono ?_; rintro e wa ⟨rfl, hb⟩; have hz := (hb).size; (try simp at hz))
      | (go_at_call 11; refine (queue_new_bad a0 a1 _ HB.out).mono ?_; rintro e w' ⟨rfl, rfl⟩)
      | (go_at_call 12; refine (rqueue_new_bad a0 a1 _ HB.out).mono ?_; rintro e w' ⟨rfl, rfl⟩))
    go_ret
    exact ⟨rfl, by (repeat (first | exact hb | exact Below.refl _ _ | apply bel_drewN.2 | apply bel_drew.2 | refine Below.setCell ?_ (by first | omega | (simp; done) | (simp; omega)) _ | refine Below.alloc ?_ (by first | omega | (simp; done) | (simp; omega)) _ | refine bel_step (by assumption) (by first | omega | (simp; done) | (simp; omega)) ?_))⟩
  obtain ⟨n, rfl⟩ := Int.eq_ofNat_of_zero_le (show 0 ≤ a0 by omega)
  obtain ⟨bound, rfl⟩ := Int.eq_ofNat_of_zero_le (show 0 ≤ a1 by omega)
  have hn1 : 1 ≤ n := by omega
  have hn2 : n ≤ 64 := by omega
  have hbd : bound ≤ 65536 := by omega
  clear hbad
  obtain ⟨B, hB⟩ : ∃ B : Nat, B = w.heap.size := ⟨_, rfl⟩
  have HB := hid hB
  clear hB
  go_enter Try.func3, Try.ntmps3
  go_upto_region 9 with (first
    | (go_at_call 10; refine (awake10 _).mono ?_; rintro e wa ⟨rfl, hb⟩; have hza := (hb).size; (try simp at hza))
    | (go_at_call 11; refine (queue_new n bound _ hn1 hn2 hbd).mono ?_; rintro e wb ⟨p, o, rfl, hp, ho, hb1, hq⟩; have hQ := hid hq; clear hq; have hzb := (hb1).size; (try simp at hzb))
    | (go_at_call 12; refine (rqueue_new n bound _ hn1 hn2 hbd).mono ?_; rintro e wd ⟨p', o', rfl, hp', ho', hb2, hq2⟩; have hQ2 := hid hq2; clear hq2; have hzd := (hb2).size; (try simp at hzd)))
  go_cut [11] (fun s11 wx => s11 = .int .i64 0 ∧ Eq2 B wx p o p' o' n bound ∧ Below w.heap.size w wx)
  case first =>
    go_wp2
    go_meet
    have hl := hQ.out.lt
    have hq1 := hQ.out.quiet (Chg.of_below (S := fun _ => False) hb2 (fun k h1 h2 => by omega))
    have hBB := HB.out
    refine ⟨rfl, ⟨_, _, _, _, _, _, ⟨hq1, hQ2.out, fun k h1 h2 => ?_, fun k h1 => ?_, fun k h2 => ?_⟩, fun t _ => by simp⟩, ?_⟩
    · have h3 := hl k h1
      rcases h2 with rfl | rfl | h2 | ⟨s, _, h2⟩
      · omega
      · omega
      · simp [Value.ownBlock] at h2
      · simp [Value.ownBlock] at h2
    · rcases h1 with rfl | rfl | h1 | ⟨s, _, h1⟩
      · omega
      · omega
      · simp [Value.ownBlock] at h1
      · simp [Value.ownBlock] at h1
    · rcases h2 with rfl | rfl | h2 | ⟨s, _, h2⟩
      · omega
      · omega
      · simp [Value.ownBlock] at h2
      · simp [Value.ownBlock] at h2
    · exact (hb.trans (hb1.mono hza)).trans (hb2.mono (by omega))
  case rest =>
  obtain ⟨rfl, heq, hbx⟩ := hcut
  have HE0 := hid heq
  clear heq hQ hQ2 hp ho hp' ho' hb hb1 hb2 hza hzb hzd
  go_wp2_with fail
  go_loopw [11] (fun i wr => ∃ k : Nat, k ≤ len2 ∧ i = .int .i64 k ∧ Eq2 B wr p o p' o' n bound ∧ Below w.heap.size w wr) (fun i _ => len2 - (intOf i).toNat)
  case atStart => exact ⟨0, by omega, rfl, HE0.out, hbx⟩
  case round =>
    obtain ⟨k, hk, rfl, ⟨cv, C, V, L, cv', V', hd, hsm⟩, hbw⟩ := hrel
    have HD := hid hd
    have HSM := hid hsm
    have hsz := hbw.size
    clear hd hsm
    by_cases hgo : k < len2 ∧ k < 400
    · obtain ⟨hlt, hlt2⟩ := hgo
      rcases HT.out with h0 | ⟨ab, off, rfl, hab, hlen, hlm, hcell⟩
      · omega
      obtain ⟨hk0, _⟩ := hcell k hlt 0 .i64 rfl
      obtain ⟨hk1, _⟩ := hcell k hlt 1 .i64 rfl
      obtain ⟨hk2, hw2⟩ := hcell k hlt 2 .i64 rfl
      have hc0 : wr.cell? ⟨ab, off + k * 3, none⟩ = some (.int .i64 (z2 k 0)) := (hbw.cell (p := ⟨ab, off + k * 3, none⟩) hab).trans hk0
      have hc1 : wr.cell? ⟨ab, off + k * 3 + 1, none⟩ = some (.int .i64 (z2 k 1)) := (hbw.cell (p := ⟨ab, off + k * 3 + 1, none⟩) hab).trans hk1
      have hc2 : wr.cell? ⟨ab, off + k * 3 + 2, none⟩ = some (.int .i64 (z2 k 2)) := (hbw.cell (p := ⟨ab, off + k * 3 + 2, none⟩) hab).trans hk2
      have hxc := bounds_i64 hw2
      clear hk0 hk1 hk2 hcell hw2
      revert hc0 hc1 hc2 hxc
      generalize z2 k 0 = kd
      generalize z2 k 1 = xt
      generalize z2 k 2 = xc
      intro hc0 hc1 hc2 hxc
      have hlt' : (k : Int) < (len2 : Int) := by omega
      go_upto_region 13 with fail
      go_cut [66] (fun s66 wx => (∃ c : Int, 0 ≤ c ∧ c < 5 ∧ s66 = .int .i64 c) ∧ (wr.alloc (.cells #[.int .i64 kd, .int .i64 xt, .int .i64 xc] 32)) = wx)
      case first =>
        have t1 := tmod_bounds kd 5 (by omega)
        go_wp2
        go_meet
        exact ⟨⟨_, by omega, by omega, rfl⟩, rfl⟩
      case rest =>
      obtain ⟨⟨kc, hkc0, hkc1, rfl⟩, rfl⟩ := hcut
      have hx1 : (wr.alloc (.cells #[.int .i64 kd, .int .i64 xt, .int .i64 xc] 32)).cell? ⟨wr.heap.size, 1, none⟩ = some (.int .i64 xt) := by go_simp
      have hx2 : (wr.alloc (.cells #[.int .i64 kd, .int .i64 xt, .int .i64 xc] 32)).cell? ⟨wr.heap.size, 2, none⟩ = some (.int .i64 xc) := by go_simp
      have HA := hid (HD.out.quiet ((Chg.refl (fun _ => False) wr).alloc (.cells #[.int .i64 kd, .int .i64 xt, .int .i64 xc] 32)))
      have hbA : Below w.heap.size w (wr.alloc (.cells #[.int .i64 kd, .int .i64 xt, .int .i64 xc] 32)) := hbw.alloc hsz _
      have hxaX : ∀ k, QB p o n cv V k ∨ QB p' o' n cv' V' k → k ≠ wr.heap.size := fun k hk => by
        rcases hk with h | h
        · have := HD.out.q1.lt k h; omega
        · have := HD.out.q2.lt k h; omega
      have HXA := hid hxaX
      have hxal : wr.heap.size < (wr.alloc (.cells #[.int .i64 kd, .int .i64 xt, .int .i64 xc] 32)).heap.size := by simp
      have hBA : B ≤ wr.heap.size := HD.out.size
      clear hc0 hc1 hc2 hbw HD hsz hxaX
      revert HA hbA hx1 hx2 HXA hxal hBA
      generalize wr.heap.size = xa
      generalize (wr.alloc (.cells #[.int .i64 kd, .int .i64 xt, .int .i64 xc] 32)) = wa
      intro hx1 hx2 HA hbA HXA hxal hBA
      have hsA := HA.out.size
      have hbnd := HA.out.q1.clen
      go_upto_block 2 with fail
      go_cut [13, 14, 15, 16, 17, 18, 19, 20, 21, 103, 123] (fun s13 s14 s15 s16 s17 s18 s19 s20 s21 s103 s123 wx => Eq2 B wx p o p' o' n bound ∧ Below w.heap.size w wx)
      case first =>
        by_cases e3 : kc = 3
        · subst e3
          match C, HA, hbnd with
          | [], HA, _ =>
            go_wp2_with (first
              | (go_at_call 13; refine (queue_pop_none _ p o n bound cv V L HA.out.q1).mono ?_; rintro e w' ⟨rfl, rfl⟩)
              | (go_at_call 14; refine (rqueue_pop_none _ p' o' n bound cv' V' L HA.out.q2).mono ?_; rintro e w' ⟨rfl, rfl⟩))
            go_meet
            exact ⟨⟨_, _, _, _, _, _, HA.out, HSM.out⟩, hbA⟩
          | c :: C, HA, _ =>
            go_wp2_with (first
              | (go_at_call 13; refine (queue_pop _ p o n bound cv c C V L HA.out.q1).mono ?_; rintro e w1 ⟨rfl, hc1, cvn, hq1, hcv1⟩; have HD1 := hid (HA.out.left (hc1.mono (fun k _ h => .inl h)) hq1 (fun k hk => .inl (QB.popped hcv1 k hk))); have HC1 := hid hc1; clear hc1 hq1 hcv1)
              | (go_at_call 14; refine (rqueue_pop _ p' o' n bound cv' c C V' L HD1.out.q2).mono ?_; rintro e w2 ⟨rfl, hc2, cvn2, hq2, hcv2⟩; have HD2 := hid (HD1.out.right (hc2.mono (fun k _ h => .inl h)) hq2 (fun k hk => .inl (QB.popped hcv2 k hk))); have HC2 := hid hc2; clear hc2 hq2 hcv2))
            go_meet
            have hb1 := HC1.out.below hbA (fun x _ hx => by have e : x = p := hx; subst e; have := HA.out.b1 x (.inl rfl); have := HB.out; omega) (by have := HB.out; omega)
            have hb2 := HC2.out.below hb1 (fun x _ hx => by have e : x = p' := hx; subst e; have := HA.out.b2 x (.inl rfl); have := HB.out; omega) hb1.size
            exact ⟨⟨_, _, _, _, _, _, HD2.out, HSM.out⟩, hb2⟩
        have f3 : (kc == 3) = false := by simpa using e3
        by_cases e4 : kc = 4
        · subst e4
          have hjl := joins_small HSM.out
          have hlen : (C ++ joins L n).length ≤ 9223372036854775807 := by rw [List.length_append]; omega
          have HLEN := hid hlen
          clear hlen
          go_wp2_with (first
            | (go_at_call 16; refine (queue_drain _ p o n bound cv C V L HA.out.q1 HSM.out).mono ?_; rintro e w1 ⟨t1, rfl, ho1, hc1, hq1⟩; have HD1 := hid (HA.out.left (hc1.mono (fun k _ h => by rcases h with h | h; exact .inl h; exact .inr (.inl h))) hq1 (fun k hk => .inl (QB.drained k hk))); have HC1 := hid hc1; have HO1 := hid ho1; clear hc1 hq1 ho1)
            | (go_at_call 17; refine (rqueue_drain _ p' o' n bound cv' C V' L _ HD1.out.q2 HSM.out rfl).mono ?_; rintro e w2 ⟨t2, rfl, ho2, hc2, hq2⟩; have HD2 := hid (HD1.out.right (hc2.mono (fun k _ h => by rcases h with h | h; exact .inl h; exact .inr (.inl h))) hq2 (fun k hk => .inl (QB.drained k hk))); have HC2 := hid hc2; have HO2 := hid ho2; clear hc2 hq2 ho2)
            | (go_at_call 15; refine (same_true _ _ _ _ ((ownInts_reads HO1.out).chg HC2.out (fun g hg e => by have h1 := (HO1.out.lt g hg).1; have h2 := HA.out.q2.lt p' (.inl rfl); have h3 := HA.out.q2.lt o' (.inr (.inl rfl)); rcases e with e | e <;> omega)) (ownInts_reads HO2.out) HLEN.out).mono ?_; rintro e w' ⟨rfl, k9, rfl⟩))
          go_meet
          have hb1 := HC1.out.below hbA (fun x _ hx => by have := HB.out; rcases hx with rfl | rfl; have := HA.out.b1 x (.inl rfl); omega; have := HA.out.b1 x (.inr (.inl rfl)); omega) (by have := HB.out; omega)
          have hb2 := HC2.out.below hb1 (fun x _ hx => by have := HB.out; rcases hx with rfl | rfl; have := HA.out.b2 x (.inl rfl); omega; have := HA.out.b2 x (.inr (.inl rfl)); omega) hb1.size
          exact ⟨⟨_, _, _, _, _, _, HD2.out.quiet ((Chg.refl (fun _ => False) _).drewN _), fun t _ => by simp⟩, bel_drewN.2 hb2⟩
        have f4 : (kc == 4) = false := by simpa using e4
        clear e3 e4
        by_cases hout : xt < 0 ∨ (n : Int) ≤ xt ∨ xc < 0
        · have HX := hid hout
          clear hout
          go_upto_block 3 with (first
            | (go_at_call 18; refine (queue_push_out _ p o n bound cv C V L xt xc HA.out.q1 HX.out).mono ?_; rintro e w' ⟨rfl, rfl⟩)
            | (go_at_call 19; refine (rqueue_push_out _ p' o' n bound cv' C V' L xt xc HA.out.q2 HX.out).mono ?_; rintro e w' ⟨rfl, rfl⟩)
            | (go_at_call 15; refine (same_true _ _ _ [] ⟨none, 0, rfl, .inl rfl⟩ ⟨none, 0, rfl, .inl rfl⟩ (by decide)).mono ?_; rintro e w' ⟨rfl, k9, rfl⟩))
          go_wp2_with fail
          go_loopw [21] (fun i w9 => i = .int .i64 0 ∧ ∃ q, w9 = wa.drewN q) (fun _ _ => 0)
          case atStart => exact ⟨rfl, _, rfl⟩
          case round =>
            obtain ⟨rfl, q, rfl⟩ := hrel
            go_wp2_with fail
            go_meet
            exact ⟨⟨_, _, _, _, _, _, HA.out.quiet ((Chg.refl (fun _ => False) _).drewN _), HSM.out⟩, bel_drewN.2 hbA⟩
        obtain ⟨T, rfl⟩ := Int.eq_ofNat_of_zero_le (show 0 ≤ xt by omega)
        obtain ⟨c, rfl⟩ := Int.eq_ofNat_of_zero_le (show 0 ≤ xc by omega)
        have hTn : T < n := by omega
        have hc63 : c ≤ 9223372036854775807 := by omega
        clear hout hxc
        by_cases hshort : (L T).length < 3
        · have HS := hid hshort
          clear hshort
          go_upto_block 3 with (first
            | (go_at_call 18; refine (queue_push_short _ p o n bound cv C V L T c HA.out.q1 hTn HS.out hc63).mono ?_; rintro e w1 ⟨rfl, hc1, v1, hq1, hv1⟩; have HD1 := hid (HA.out.left hc1 hq1 (fun k hk => QB.relist hTn hv1 k hk)); have HC1 := hid hc1; have hx3 := (hc1.cell (o := 1) hxal (fun h => HXA.out _ (.inl h) rfl)).trans hx1; have hx4 := (hc1.cell (o := 2) hxal (fun h => HXA.out _ (.inl h) rfl)).trans hx2; clear hc1 hq1 hv1)
            | (go_at_call 19; refine (rqueue_push_short _ p' o' n bound cv' C V' L T c HD1.out.q2 hTn HS.out hc63).mono ?_; rintro e w2 ⟨rfl, hc2, v2, hq2, hv2⟩; have HD2 := hid (HD1.out.right hc2 hq2 (fun k hk => QB.relist hTn hv2 k hk)); have HC2 := hid hc2; clear hc2 hq2 hv2)
            | (go_at_call 15; refine (same_true _ _ _ [] ⟨none, 0, rfl, .inl rfl⟩ ⟨none, 0, rfl, .inl rfl⟩ (by decide)).mono ?_; rintro e w' ⟨rfl, k9, rfl⟩))
          have hb1 := HC1.out.below hbA (fun x _ hx => by have := HA.out.b1 x hx; have := HB.out; omega) (by have := HB.out; omega)
          have hb2 := HC2.out.below hb1 (fun x _ hx => by have := HA.out.b2 x hx; have := HB.out; omega) hb1.size
          have hsm2 : ∀ t, t < n → (upd L T (L T ++ [(c : Int)]) t).length ≤ 3 := fun t ht => by
            by_cases e : t = T
            · subst e; rw [upd_same, List.length_append]; have := HS.out; simp; omega
            · rw [upd_other _ _ e]; exact HSM.out t ht
          have HB2 := hid hb2
          have HSM2 := hid hsm2
          clear hb1 hb2 hsm2
          go_wp2_with fail
          go_loopw [21] (fun i w9 => i = .int .i64 0 ∧ ∃ q, w9 = w2.drewN q) (fun _ _ => 0)
          case atStart => exact ⟨rfl, _, rfl⟩
          case round =>
            obtain ⟨rfl, q, rfl⟩ := hrel
            go_wp2_with fail
            go_meet
            exact ⟨⟨_, _, _, _, _, _, HD2.out.quiet ((Chg.refl (fun _ => False) _).drewN _), HSM2.out⟩, bel_drewN.2 HB2.out⟩
        · have hl3 := hid (show (L T).length = 3 by have := HSM.out T hTn; omega)
          clear hshort
          obtain ⟨R, hR⟩ : ∃ R, R = min (bound - C.length) 4 := ⟨_, rfl⟩
          have HR := hid hR
          clear hR
          have hrel1 : ∀ k, (∀ cvn, (cvn.ownBlock = cv.ownBlock ∨ ∀ g, cvn.ownBlock = some g → wa.heap.size ≤ g) → QB p o n cvn (upd V T (.slice none 0 0)) k → QB p o n cv V k ∨ wa.heap.size ≤ k) := fun k cvn hcv hk => by
            rcases QB.recommon (w := wa) hcv k hk with h | h
            · exact QB.relist (w := wa) (v' := .slice none 0 0) hTn (by simp [Value.ownBlock]) k h
            · exact .inr h
          have HR1 := hid hrel1
          have hover : ((L T ++ [(c : Int)]).drop R).length ≤ 9223372036854775807 := by rw [List.length_drop, List.length_append, hl3.out]; first | (simp; done) | (simp; omega)
          have HOV := hid hover
          clear hrel1 hover
          go_upto_block 3 with (first
            | (go_at_call 18; refine (queue_push_full _ p o n bound cv C V L T c R HA.out.q1 hTn hl3.out hc63 HR.out).mono ?_; rintro e w1 ⟨tv, rfl, hc1, cvn, hq1, hcv1, hs1, ht1⟩; have HD1 := hid (HA.out.left hc1 hq1 (fun k hk => HR1.out k cvn hcv1 hk)); have HC1 := hid hc1; have HS1 := hid hs1; have HT1 := hid ht1; have hx3 := (hc1.cell (o := 1) hxal (fun h => HXA.out _ (.inl h) rfl)).trans hx1; have hx4 := (hc1.cell (o := 2) hxal (fun h => HXA.out _ (.inl h) rfl)).trans hx2; clear hc1 hq1 hcv1 hs1 ht1)
            | (go_at_call 19; refine (rqueue_push_full _ p' o' n bound cv' C V' L T c R _ _ HD1.out.q2 hTn hl3.out hc63 HR.out rfl rfl).mono ?_; rintro e w2 ⟨tv2, rfl, hc2, cvn2, hq2, hcv2, ho2, ht2⟩; have hr2 : ∀ k, QB p' o' n cvn2 (upd V' T (.slice none 0 0)) k → QB p' o' n cv' V' k ∨ w1.heap.size ≤ k := (fun k hk => by
                rcases QB.recommon (w := w1) hcv2 k hk with h | h
                · exact QB.relist (w := w1) (v' := .slice none 0 0) hTn (by simp [Value.ownBlock]) k h
                · exact .inr h); have HD2 := hid (HD1.out.right hc2 hq2 hr2); have HR2 := hid hr2; have HC2 := hid hc2; have HO2 := hid ho2; have hdis := hid (show ∀ x, tv.ownBlock = some x → ¬ QB p' o' n cv' V' x from fun x hx h => by
                rcases (HT1.out x hx).1 with h1 | h1
                · exact HA.out.dj x (.inr (.inr (.inr ⟨T, hTn, h1⟩))) h
                · have := HA.out.q2.lt x h; omega); clear hc2 hq2 hcv2 ho2 ht2 hr2)
            | (go_at_call 15; refine (same_true _ _ _ _ (HS1.out.chg HC2.out (fun x hx h => hdis.out x hx h)).reads (ownInts_reads HO2.out) HOV.out).mono ?_; rintro e w' ⟨rfl, k9, rfl⟩))
          have hb1 := HC1.out.below hbA (fun x _ hx => by have := HA.out.b1 x hx; have := HB.out; omega) (by have := HB.out; omega)
          have hb2 := HC2.out.below hb1 (fun x _ hx => by have := HA.out.b2 x hx; have := HB.out; omega) hb1.size
          have hs2 := HS1.out.chg HC2.out (fun x hx h => hdis.out x hx h)
          have htb1 : ∀ x, tv.ownBlock = some x → ¬ QB p o n cvn (upd V T (.slice none 0 0)) x := fun x hx => (HT1.out x hx).2
          have htb2 : ∀ x, tv.ownBlock = some x → ¬ QB p' o' n cvn2 (upd V' T (.slice none 0 0)) x := fun x hx h => by
            rcases HR2.out x h with h1 | h1
            · exact hdis.out x hx h1
            · have := (HS1.out.lt x hx).2; omega
          have htB : ∀ x, tv.ownBlock = some x → B ≤ x := fun x hx => by
            rcases (HT1.out x hx).1 with h1 | h1
            · exact HA.out.b1 x (.inr (.inr (.inr ⟨T, hTn, h1⟩)))
            · omega
          have hsm2 : ∀ t, t < n → (upd L T [] t).length ≤ 3 := fun t ht => by
            by_cases e : t = T
            · subst e; rw [upd_same]; simp
            · rw [upd_other _ _ e]; exact HSM.out t ht
          have HB2 := hid hb2
          have HSM2 := hid hsm2
          have HS2 := hid hs2
          have HTB1 := hid htb1
          have HTB2 := hid htb2
          have HTB := hid htB
          have hlen4 : (cs ((L T ++ [(c : Int)]).drop R)).length ≤ 4 := by rw [cs_len, List.length_drop, List.length_append, hl3.out]; first | (simp; done) | (simp; omega)
          obtain ⟨At, kt, htv, _⟩ := hs2.shape
          revert hlen4 htv HS2
          generalize (cs ((L T ++ [(c : Int)]).drop R)) = xs
          intro HS2 hlen4 htv
          subst htv
          clear hb1 hb2 hs2 htb1 htb2 htB hsm2
          go_wp2_with fail
          go_loopw [21] (fun i w9 => ∃ j : Nat, j ≤ xs.length ∧ i = .int .i64 j ∧ Chg (fun x => (Value.slice At xs.length kt).ownBlock = some x) w2 w9 ∧ ∀ m, m < xs.length → ∃ g oo, At = some ⟨g, oo, none⟩ ∧ (∃ u, w9.cell? ⟨g, oo + m, none⟩ = some u) ∧ w9.frozen? ⟨g, oo + m, none⟩ = false) (fun i _ => xs.length - (intOf i).toNat)
          case atStart =>
            refine ⟨0, by omega, rfl, (Chg.refl _ _).drewN _, fun m hm => ?_⟩
            obtain ⟨g, oo, cap, he, _, _, hcl, hfz⟩ := HS2.out.cell hm
            injection he with x1 x2 x3
            exact ⟨g, oo, x1, ⟨xs[m]'hm, by rw [World.cell?_drewN, hcl, List.getElem?_eq_getElem hm]⟩, by rw [World.frozen?_drewN]; exact hfz⟩
          case round =>
            obtain ⟨j, hj, rfl, hcw, hcells⟩ := hrel
            have HC9 := hid hcw
            have HCL := hid hcells
            clear hcw hcells
            by_cases hlt : j < xs.length
            · have hlt' : (j : Int) < (xs.length : Int) := by omega
              obtain ⟨g, oo, hAt, ⟨u, hu⟩, hfz⟩ := HCL.out j hlt
              subst hAt
              go_wp2_with fail
              go_roundw
              case rel =>
                refine ⟨j + 1, by omega, by go_num, HC9.out.setCell (p := ⟨g, oo + j, none⟩) (.inl rfl) _, fun m hm => ?_⟩
                obtain ⟨g', oo', hAt', ⟨u', hu'⟩, hfz'⟩ := HCL.out m hm
                injection hAt' with x1
                injection x1 with x2 x3 _
                subst x2 x3
                refine ⟨_, _, rfl, ?_, by rw [World.frozen?_setCell]; exact hfz'⟩
                by_cases e : m = j
                · subst e; exact ⟨_, World.cell?_setCell_same' _ _ _ (by rw [hu]; rfl)⟩
                · exact ⟨u', by rw [World.cell?_setCell_other _ _ _ _ (by first | (simp [e]; done) | (simp; omega))]; exact hu'⟩
              case measure => simp [intOf]; omega
            · obtain rfl : j = xs.length := by omega
              go_wp2_with fail
              go_meet
              exact ⟨⟨_, _, _, _, _, _, HD2.out.chg HC9.out (fun k hk h => HTB1.out k h hk) (fun k hk h => HTB2.out k h hk), HSM2.out⟩, HC9.out.below HB2.out (fun x _ hx => by have := HTB.out x hx; have := HB.out; omega) HB2.out.size⟩
      case rest =>
      obtain ⟨⟨cv2, C2, V2, L2, cv2', V2', hd2, hsm2⟩, hb'⟩ := hcut
      have HD2 := hid hd2
      have HSM2 := hid hsm2
      have hd0 : ((C2.length : Int) != (C2.length : Int)) = false := by simp
      obtain ⟨A2, k2, hcv2, _⟩ := hd2.q2.shape
      have hcom := hd2.q2.com
      rw [hcv2] at hcom
      have HSH := hid hcv2
      clear hd2 hsm2 hcv2
      go_upto_region 30 with fail
      go_quiet ((first
        | (go_at_call 20; exact quiet_left (queue_len _ p o n bound cv2 C2 V2 L2 (HD2.out.q1.quiet ((Chg.refl (fun _ => False) _).drewN _))))
        | (go_at_call 21; exact quiet_left (queue_waiting _ p o n bound cv2 C2 V2 L2 (HD2.out.q1.quiet ((Chg.refl (fun _ => False) _).drewN _)) HSM2.out))
        | (go_at_call 22; exact quiet_left (rqueue_waiting _ p' o' n bound cv2' C2 V2' L2 (HD2.out.q2.quiet ((Chg.refl (fun _ => False) _).drewN _)) HSM2.out))))
      go_wp2_with fail
      go_roundw
      case rel => exact ⟨k + 1, by omega, by go_num, ⟨_, _, _, _, _, _, HD2.out.quiet ((Chg.refl (fun _ => False) _).drewN _), HSM2.out⟩, bel_drewN.2 hb'⟩
      case measure => simp [intOf]; omega
    · have hjl := joins_small HSM.out
      have hn64 := HD.out.q1.n64
      have hbnd := HD.out.q1.clen
      have hlen : (C ++ joins L n).length ≤ 9223372036854775807 := by rw [List.length_append]; omega
      have HLEN := hid hlen
      clear hlen
      have hend : ¬ ((k : Int) < (len2 : Int)) ∨ (400 : Int) ≤ (k : Int) := by omega
      by_cases hlt : k < len2
      · have h400 : 400 ≤ k := by omega
        go_wp2_with (first
          | (go_at_call 16; refine (queue_drain _ p o n bound cv C V L HD.out.q1 HSM.out).mono ?_; rintro e w1 ⟨t1, rfl, ho1, hc1, hq1⟩; have HD1 := hid (HD.out.left (hc1.mono (fun k _ h => by rcases h with h | h; exact .inl h; exact .inr (.inl h))) hq1 (fun k hk => .inl (QB.drained k hk))); have HC1 := hid hc1; have HO1 := hid ho1; clear hc1 hq1 ho1)
          | (go_at_call 17; refine (rqueue_drain _ p' o' n bound cv' C V' L _ HD1.out.q2 HSM.out rfl).mono ?_; rintro e w2 ⟨t2, rfl, ho2, hc2, hq2⟩; have HD2 := hid (HD1.out.right (hc2.mono (fun k _ h => by rcases h with h | h; exact .inl h; exact .inr (.inl h))) hq2 (fun k hk => .inl (QB.drained k hk))); have HC2 := hid hc2; have HO2 := hid ho2; clear hc2 hq2 ho2)
          | (go_at_call 15; refine (same_true _ _ _ _ ((ownInts_reads HO1.out).chg HC2.out (fun g hg e => by have h1 := (HO1.out.lt g hg).1; have h2 := HD.out.q2.lt p' (.inl rfl); have h3 := HD.out.q2.lt o' (.inr (.inl rfl)); rcases e with e | e <;> omega)) (ownInts_reads HO2.out) HLEN.out).mono ?_; rintro e w' ⟨rfl, k9, rfl⟩; have HW := hid (queue_waiting (w2.drewN k9) p o n bound _ _ _ _ (HD2.out.q1.quiet ((Chg.refl (fun _ => False) _).drewN _)) (fun t _ => by simp)); rw [joins_nil] at HW)
          | (go_at_call 21; refine HW.out.mono ?_; rintro e w' ⟨rfl, rfl⟩))
        go_ret
        have hBB := HB.out
        have hb1 := HC1.out.below hbw (fun x _ hx => by rcases hx with rfl | rfl; have := HD.out.b1 x (.inl rfl); omega; have := HD.out.b1 x (.inr (.inl rfl)); omega) hbw.size
        have hb2 := HC2.out.below hb1 (fun x _ hx => by rcases hx with rfl | rfl; have := HD.out.b2 x (.inl rfl); omega; have := HD.out.b2 x (.inr (.inl rfl)); omega) hb1.size
        exact ⟨rfl, bel_drewN.2 hb2⟩
      · obtain rfl : k = len2 := by omega
        go_wp2_with (first
          | (go_at_call 16; refine (queue_drain _ p o n bound cv C V L HD.out.q1 HSM.out).mono ?_; rintro e w1 ⟨t1, rfl, ho1, hc1, hq1⟩; have HD1 := hid (HD.out.left (hc1.mono (fun k _ h => by rcases h with h | h; exact .inl h; exact .inr (.inl h))) hq1 (fun k hk => .inl (QB.drained k hk))); have HC1 := hid hc1; have HO1 := hid ho1; clear hc1 hq1 ho1)
          | (go_at_call 17; refine (rqueue_drain _ p' o' n bound cv' C V' L _ HD1.out.q2 HSM.out rfl).mono ?_; rintro e w2 ⟨t2, rfl, ho2, hc2, hq2⟩; have HD2 := hid (HD1.out.right (hc2.mono (fun k _ h => by rcases h with h | h; exact .inl h; exact .inr (.inl h))) hq2 (fun k hk => .inl (QB.drained k hk))); have HC2 := hid hc2; have HO2 := hid ho2; clear hc2 hq2 ho2)
          | (go_at_call 15; refine (same_true _ _ _ _ ((ownInts_reads HO1.out).chg HC2.out (fun g hg e => by have h1 := (HO1.out.lt g hg).1; have h2 := HD.out.q2.lt p' (.inl rfl); have h3 := HD.out.q2.lt o' (.inr (.inl rfl)); rcases e with e | e <;> omega)) (ownInts_reads HO2.out) HLEN.out).mono ?_; rintro e w' ⟨rfl, k9, rfl⟩; have HW := hid (queue_waiting (w2.drewN k9) p o n bound _ _ _ _ (HD2.out.q1.quiet ((Chg.refl (fun _ => False) _).drewN _)) (fun t _ => by simp)); rw [joins_nil] at HW)
          | (go_at_call 21; refine HW.out.mono ?_; rintro e w' ⟨rfl, rfl⟩))
        go_ret
        have hBB := HB.out
        have hb1 := HC1.out.below hbw (fun x _ hx => by rcases hx with rfl | rfl; have := HD.out.b1 x (.inl rfl); omega; have := HD.out.b1 x (.inr (.inl rfl)); omega) hbw.size
        have hb2 := HC2.out.below hb1 (fun x _ hx => by rcases hx with rfl | rfl; have := HD.out.b2 x (.inl rfl); omega; have := HD.out.b2 x (.inr (.inl rfl)); omega) hb1.size
        exact ⟨rfl, bel_drewN.2 hb2⟩
end Go.Proofs.Ythmjjmimmbgpaaa
