/-
  The walk of ParsePlays (layer 5).
-/
import Derived.Test.YthmjjmimmbgpaaaParseRef2
import Derived.Test.YthmjjmimmbgpaaaParseRows
import Derived.Deep.RegionHeld3
set_option linter.unusedVariables false
set_option linter.unusedSimpArgs false
namespace Go.Proofs.Ythmjjmimmbgpaaa
open Go.RowKit

/-- what 'Starts' answers -/
def startsAny (n : Nat) (f : Nat → Int) (a b : Int) : List Int × Int := if a < 0 ∨ b < a ∨ n < b then ([], 2) else startsOf f a.toNat b.toNat

theorem parse_starts_any (w : World) (p q n : Nat) (f : Nat → Int) (a b : Int) (h : Arn w p q n f) :
    Calls Try.prog 33 #[.pointer (some ⟨p, 0, none⟩), .int .i64 a, .int .i64 b] w
      fun e w' => Chg (· = p) w w' ∧ Arn w' p q n f ∧ ∃ t, e = .returned (.tuple #[t, .int .i64 (startsAny n f a b).2]) ∧ OwnInts w.heap.size w' t (startsAny n f a b).1 := by
  unfold startsAny
  by_cases hx : a < 0 ∨ b < a ∨ n < b
  · rw [if_pos hx]
    refine (parse_starts_out w p q n f a b h hx).mono ?_
    rintro e w' ⟨rfl, rfl⟩
    exact ⟨Chg.refl _ _, h, _, rfl, ownInts_nil _ _⟩
  · rw [if_neg hx]
    obtain ⟨A, rfl⟩ := Int.eq_ofNat_of_zero_le (show 0 ≤ a by omega)
    obtain ⟨T, rfl⟩ := Int.eq_ofNat_of_zero_le (show 0 ≤ b by omega)
    rw [Int.toNat_natCast, Int.toNat_natCast]
    exact parse_starts w p q n f A T h (by omega) (by omega)
theorem ref_starts_any (w : World) (r n : Nat) (f : Nat → Int) (a b : Int) (h : Rw w r n f) :
    Calls Try.prog 44 #[.slice (some ⟨r, 0, none⟩) n n, .int .i64 a, .int .i64 b] w
      fun e w' => Chg (fun _ => False) w w' ∧ ∃ t, e = .returned (.tuple #[t, .int .i64 (startsAny n f a b).2]) ∧ OwnInts w.heap.size w' t (startsAny n f a b).1 := by
  unfold startsAny
  by_cases hx : a < 0 ∨ b < a ∨ n < b
  · rw [if_pos hx]
    refine (ref_starts_out w r n a b h.2.2 hx).mono ?_
    rintro e w' ⟨rfl, rfl⟩
    exact ⟨Chg.refl _ _, _, rfl, ownInts_nil _ _⟩
  · rw [if_neg hx]
    obtain ⟨A, rfl⟩ := Int.eq_ofNat_of_zero_le (show 0 ≤ a by omega)
    obtain ⟨T, rfl⟩ := Int.eq_ofNat_of_zero_le (show 0 ≤ b by omega)
    rw [Int.toNat_natCast, Int.toNat_natCast]
    exact ref_starts w r n f A T h (by omega) (by omega)

theorem walk_length (f : Nat → Int) (b : Nat) : ∀ (m a : Nat) (l : List Int), walkFrom f b m a = some l → l.length ≤ m
  | 0, a, l, h => by unfold walkFrom at h; simp at h; subst h; simp
  | m + 1, a, l, h => by
    unfold walkFrom at h
    split at h
    · split at h
      · cases hx : walkFrom f b m (a + (inAt (f a)).s.toNat) with
        | none => rw [hx] at h; simp at h
        | some l' =>
          rw [hx] at h
          simp at h
          subst h
          have := walk_length f b m _ l' hx
          simp; omega
      · simp at h
    · simp at h; subst h; simp
theorem starts_length (n : Nat) (f : Nat → Int) (a b : Int) : (startsAny n f a b).1.length ≤ n := by
  unfold startsAny
  by_cases hx : a < 0 ∨ b < a ∨ n < b
  · rw [if_pos hx]; simp
  · rw [if_neg hx]
    unfold startsOf
    cases h : walkFrom f b.toNat (b.toNat - a.toNat) a.toNat with
    | none => simp [outs]
    | some l =>
      have := walk_length _ _ _ _ _ h
      show l.length ≤ n
      omega
theorem fields_length (n : Nat) (f : Nat → Int) (z : Int) : (fieldsOf n (atOf n f z) z).1.length ≤ 1048576 := by
  unfold fieldsOf
  split
  · split
    · rw [refs_length]
      unfold atOf
      split
      · rcases inAt_cases (f z.toNat) with ⟨e, h1, h2, h3, h4, h5, h6, h7⟩ | ⟨e, _⟩
        · rw [e]; omega
        · rw [e]; simp
      · simp
    · simp
  · simp

set_option maxRecDepth 100000 in
set_option maxHeartbeats 2000000 in
theorem asks_true (w : World) (p q r n : Nat) (f : Nat → Int) (z b : Int) (hz : (Lit.int .i64 z).wf = true) (ha : Arn w p q n f) (hr : Rw w r n f) (hrp : r ≠ p) :
    Calls Try.prog 30 #[.pointer (some ⟨p, 0, none⟩), .slice (some ⟨r, 0, none⟩) n n, .int .i64 z, .int .i64 b] w
      fun e w' => e = .returned (.bool true) ∧ Chg (· = p) w w' ∧ Arn w' p q n f := by
  have HA := hid ha
  have hn := ha.bound
  have HF := hid (fun w' h => parse_fields w' p q n f z hz h)
  have HG := hid (fun w' h => ref_fields w' r n f z hz h)
  have HS := hid (fun w' h => parse_starts_any w' p q n f z b h)
  have HT := hid (fun w' h => ref_starts_any w' r n f z b h)
  have HP := hid (parse_at w p q n f z hz ha)
  have HQ := hid (fun w' h => ref_at w' r n f z hz h)
  have hR := hid hr
  have hrl := hr.lt
  have hpl := ha.lt.1
  have hl1 := hid (starts_length n f z b)
  have hl2 := hid (fields_length n f z)
  clear ha hr hz
  revert HF HG HS HT HP HQ hl1 hl2
  generalize fieldsOf n (atOf n f z) z = F
  generalize startsAny n f z b = S
  obtain ⟨FL, FE⟩ := F
  obtain ⟨SL, SE⟩ := S
  generalize atOf n f z = H
  obtain ⟨jk, js, jp, ja, jt, je⟩ := H
  intro HF HG HS HT HP HQ hl1 hl2
  simp only [rets] at HP HQ
  have e1 : (jk == jk) = true := by simp
  go_enter Try.func30, Try.ntmps30
  go_upto_region 7 with (first
    | (go_at_call 32; refine HP.out.mono ?_; rintro e w1 ⟨rfl, hc1, ha1⟩; have HC1 := hid hc1; have HA1 := hid ha1; have HR1 := hid (hR.out.chg hc1 hrp); have hs1 := hc1.size; clear hc1 ha1)
    | (go_at_call 42; refine (HQ.out _ (HR1.out.chg ((Chg.refl (fun _ => False) _).alloc _) (by simp))).mono ?_; rintro e w2 ⟨rfl, hb2⟩; have HB2 := hid hb2; have hb2_0 := fun o => (hb2).cell (p := ⟨w1.heap.size, o, none⟩) (by first | omega | (simp; done) | (simp; omega)); have hb2f_0 := fun o => (hb2).frozen (p := ⟨w1.heap.size, o, none⟩) (by first | omega | (simp; done) | (simp; omega)); have hb2l_0 : w1.heap.size < w2.heap.size := (by have := (hb2).size; (try simp at this); omega); have hb2m_0 := Nat.le_of_lt hb2l_0; have hs2 := hb2.size; have HA2 := hid ((HA1.out.chg ((Chg.refl (fun _ => False) _).alloc _) (by simp) (by simp)).chg (Chg.of_below (S := fun _ => False) hb2 (fun k h1 h2 => by omega)) (by simp) (by simp)); have HR2 := hid ((HR1.out.chg ((Chg.refl (fun _ => False) _).alloc _) (by simp)).same hb2); clear hb2)
    | (go_at_call 34; refine (HF.out _ (HA2.out.chg ((Chg.refl (fun _ => False) _).alloc _) (by simp) (by simp))).mono ?_; rintro e w3 ⟨hc3, ha3, t3, rfl, ho3⟩; have HC3 := hid hc3; have HA3 := hid ha3; have HO3 := hid ho3; have HR3 := hid ((HR2.out.chg ((Chg.refl (fun _ => False) _).alloc _) (by simp)).chg hc3 hrp); have hs3 := hc3.size; clear hc3 ha3 ho3)
    | (go_at_call 43; refine (HG.out _ HR3.out).mono ?_; rintro e w4 ⟨hc4, t4, rfl, ho4⟩; have HC4 := hid hc4; have HA4 := hid (HA3.out.chg hc4 (by simp) (by simp)); have HO4 := hid ho4; have HR4 := hid (HR3.out.chg hc4 (by simp)); have hs4 := hc4.size; clear hc4 ho4)
    | (go_at_call 33; refine (HS.out _ HA4.out).mono ?_; rintro e w5 ⟨hc5, ha5, t5, rfl, ho5⟩; have HC5 := hid hc5; have HA5 := hid ha5; have HO5 := hid ho5; have HR5 := hid (HR4.out.chg hc5 hrp); have hs5 := hc5.size; clear hc5 ha5 ho5)
    | (go_at_call 44; refine (HT.out _ HR5.out).mono ?_; rintro e w6 ⟨hc6, t6, rfl, ho6⟩; have HC6 := hid hc6; have HO6 := hid ho6; have HA6 := hid (HA5.out.chg hc6 (by simp) (by simp)); have hs6 := hc6.size; clear hc6 ho6))
  have hcB : Chg (· = p) (w2.alloc (.cells #[.int .i64 jk, .int .i64 js, .int .i64 jp, .int .i64 ja, .int .i64 jt] 73)) w6 := ((HC3.out.trans (HC4.out.mono (fun _ _ h => absurd h (by simp)))).trans HC5.out).trans (HC6.out.mono (fun _ _ h => absurd h (by simp)))
  have hcA : Chg (· = p) (w1.alloc (.cells #[.int .i64 jk, .int .i64 js, .int .i64 jp, .int .i64 ja, .int .i64 jt] 73)) w6 := ((Chg.of_below HB2.out (fun k h1 h2 => by omega)).alloc _).trans hcB
  have hcW : Chg (· = p) w w6 := (HC1.out.alloc _).trans hcA
  simp only [World.size_alloc] at hs2 hs3
  have hxA := fun o => hcA.cell (b := w1.heap.size) (o := o) (by simp) (by omega)
  have hxB := fun o => hcB.cell (b := w2.heap.size) (o := o) (by simp) (by omega)
  have HW := hid hcW
  have hl3 := hl1.out
  have hl4 := hl2.out
  have hR3 := hid (((ownInts_reads HO3.out).chg HC4.out (by simp)).chg HC5.out (fun g hg h => by have h1 := (HO3.out.lt g hg).1; simp at h1; have h2 : g = p := h; omega) |>.chg HC6.out (by simp))
  have hR4 := hid ((ownInts_reads HO4.out).chg HC5.out (fun g hg h => by have h1 := (HO4.out.lt g hg).1; have h2 : g = p := h; omega) |>.chg HC6.out (by simp))
  have hR5 := hid ((ownInts_reads HO5.out).chg HC6.out (by simp))
  have hR6 := hid (ownInts_reads HO6.out)
  have b1 : (js == js) = true := by simp
  have b2 : (jp == jp) = true := by simp
  have b3 : (ja == ja) = true := by simp
  have b4 : (jt == jt) = true := by simp
  have b5 : (je == je) = true := by simp
  have b6 : (FE == FE) = true := by simp
  have b7 : (SE == SE) = true := by simp
  have hl5 : FL.length ≤ 9223372036854775807 := Nat.le_trans hl4 (by decide)
  have hl6 : SL.length ≤ 9223372036854775807 := Nat.le_trans hl3 (Nat.le_trans hn (by decide))
  have HL5 := hid hl5
  have HL6 := hid hl6
  clear hl1 hl2 hl3 hl4 hl5 hl6 hcA hcB hcW
  go_wp2_with (first
    | (go_at_call_of 15 (t3); refine (same_true _ _ _ FL hR3.out hR4.out HL5.out).mono ?_; rintro e w' ⟨rfl, k1, rfl⟩)
    | (go_at_call_of 15 (t5); refine (same_true _ _ _ SL (hR5.out.drewN k1) (hR6.out.drewN k1) HL6.out).mono ?_; rintro e w' ⟨rfl, k2, rfl⟩))
  go_ret
  exact ⟨rfl, HW.out.drewN _, HA6.out.chg ((Chg.refl (fun _ => False) _).drewN _) (by simp) (by simp)⟩

set_option maxRecDepth 100000 in
set_option maxHeartbeats 8000000 in
theorem parsePlays (a0 : Int) (a1 : Option Addr) (len1 cap1 : Nat) (z1 : Nat → Nat → Int) (w : World) (w0 : (Lit.int .i64 a0).wf = true) (w1 : IsTab [IntKind.i64, IntKind.i64, IntKind.i64, IntKind.i64, IntKind.u64] w a1 len1 z1) :
    Calls Try.prog 6 #[.int .i64 a0, .slice a1 len1 cap1] w fun e w' => e = .returned (.bool true) ∧ Below w.heap.size w w' := by
  have HT := hid w1
  clear w1 w0
  go_enter Try.func6, Try.ntmps6
  go_upto_region 3 with (go_at_call 23; refine (awake05 _).mono ?_; rintro e wa ⟨rfl, hb⟩; have hza := (hb).size; (try simp at hza))
  go_cut [0] (fun s0 wx => (∃ c : Int, 0 ≤ c ∧ c < 300 ∧ s0 = .int .i64 c) ∧ wa = wx)
  case first =>
    have t1 := tmod_bounds a0 300 (by omega)
    go_wp2
    go_meet
    exact ⟨⟨_, by omega, by omega, rfl⟩, rfl⟩
  case rest =>
  obtain ⟨⟨c, hc0, hc1, rfl⟩, rfl⟩ := hcut
  obtain ⟨n, rfl⟩ := Int.eq_ofNat_of_zero_le hc0
  have hn : n < 300 := by omega
  clear hc0 hc1
  have hmk := run_make_row' (P := Try.prog) 56 57 (.int .u64 0) 8 Try.underlying56 info64 rfl .i64 .i64 n (by omega) (by omega)
  go_upto_region 8 with (go_at_call 24; refine (arena_new n _ (by omega)).mono ?_; rintro e wb ⟨p, q, rfl, hp, hq, hb1, har⟩; have hA := hid (fresh_arn har); clear har; have hzb := (hb1).size; (try simp at hzb))
  go_cut [7, 8] (fun s7 s8 wx => s8 = .int .i64 0 ∧ ∃ r : Nat, s7 = .slice (some ⟨r, 0, none⟩) n n ∧ w.heap.size ≤ r ∧ r ≠ p ∧ r ≠ q ∧ Arn wx p q n (fun _ => 0) ∧ Rw wx r n (fun _ => 0) ∧ Below w.heap.size w wx ∧ w.heap.size ≤ p ∧ w.heap.size ≤ q)
  case first =>
    go_wp2
    go_meet
    have hl := hA.out.lt
    refine ⟨rfl, wb.heap.size, rfl, by omega, by omega, by omega, hA.out.chg ((Chg.refl (fun _ => False) _).alloc _) (by simp) (by simp), ⟨World.rowIs_made wb (.int .u64 0) n 57, fun i _ => ⟨Int.le_refl _, by simp⟩, by omega⟩, by (repeat (first | exact Below.refl _ _ | exact Below.refl _ _ | apply bel_drewN.2 | apply bel_drew.2 | refine Below.setCell ?_ (by first | omega | (simp; done) | (simp; omega)) _ | refine Below.alloc ?_ (by first | omega | (simp; done) | (simp; omega)) _ | refine bel_step (by assumption) (by first | omega | (simp; done) | (simp; omega)) ?_)), by omega, by omega⟩
  case rest =>
  obtain ⟨rfl, r, rfl, hr1, hrp, hrq, har, hrw, hbx, hp1, hq1⟩ := hcut
  have hA0 := hid har
  have hR0 := hid hrw
  clear har hrw hmk
  go_upto_block 0 with fail
  go_cut [8, 9] (fun s8 s9 wx => ∃ f : Nat → Int, Arn wx p q n f ∧ Rw wx r n f ∧ Below w.heap.size w wx)
  case first =>
    go_wp2_with fail
    go_loopw [8] (fun i wr => ∃ (k : Nat) (f : Nat → Int), k ≤ len1 ∧ i = .int .i64 k ∧ Arn wr p q n f ∧ Rw wr r n f ∧ Below w.heap.size w wr) (fun i _ => len1 - (intOf i).toNat)
    case atStart => exact ⟨0, _, by omega, rfl, hA0.out, hR0.out, hbx⟩
    case round =>
      obtain ⟨k, f, hk, rfl, har, hrw, hbw⟩ := hrel
      have H := hid har
      have HR := hid hrw
      have hsz := hbw.size
      have hpl := har.lt.1
      have hql := har.lt.2
      have hrl := hrw.lt
      clear har hrw
      by_cases hgo : k < len1 ∧ k < 200
      · obtain ⟨hlt, hlt2⟩ := hgo
        rcases HT.out with h0 | ⟨ab, off, rfl, hab, hlen, hlm, hcell⟩
        · omega
        obtain ⟨hk0, _⟩ := hcell k hlt 0 .i64 rfl
        obtain ⟨hk1, hw1⟩ := hcell k hlt 1 .i64 rfl
        obtain ⟨hk2, _⟩ := hcell k hlt 2 .i64 rfl
        obtain ⟨hk3, _⟩ := hcell k hlt 3 .i64 rfl
        obtain ⟨hk4, hw4⟩ := hcell k hlt 4 .u64 rfl
        have hc0 : wr.cell? ⟨ab, off + k * 5, none⟩ = some (.int .i64 (z1 k 0)) := (hbw.cell (p := ⟨ab, off + k * 5, none⟩) hab).trans hk0
        have hc1 : wr.cell? ⟨ab, off + k * 5 + 1, none⟩ = some (.int .i64 (z1 k 1)) := (hbw.cell (p := ⟨ab, off + k * 5 + 1, none⟩) hab).trans hk1
        have hc2 : wr.cell? ⟨ab, off + k * 5 + 2, none⟩ = some (.int .i64 (z1 k 2)) := (hbw.cell (p := ⟨ab, off + k * 5 + 2, none⟩) hab).trans hk2
        have hc3 : wr.cell? ⟨ab, off + k * 5 + 3, none⟩ = some (.int .i64 (z1 k 3)) := (hbw.cell (p := ⟨ab, off + k * 5 + 3, none⟩) hab).trans hk3
        have hc4 : wr.cell? ⟨ab, off + k * 5 + 4, none⟩ = some (.int .u64 (z1 k 4)) := (hbw.cell (p := ⟨ab, off + k * 5 + 4, none⟩) hab).trans hk4
        have hv := hid (bounds_u64 hw4)
        have HW1 := hid hw1
        clear hk0 hk1 hk2 hk3 hk4 hcell hw1 hw4
        revert hc0 hc1 hc2 hc3 hc4 hv HW1
        generalize z1 k 0 = kd
        generalize z1 k 1 = xa
        generalize z1 k 2 = xb
        generalize z1 k 3 = xn
        generalize z1 k 4 = xv
        intro hc0 hc1 hc2 hc3 hc4 hv HW1
        have hlt' : (k : Int) < (len1 : Int) := by omega
        go_upto_block 1 with fail
        go_cut [9] (fun s9 wx => ∃ f : Nat → Int, Arn wx p q n f ∧ Rw wx r n f ∧ Below w.heap.size w wx)
        case first =>
          go_upto_region 12 with fail
          go_cut [46] (fun s46 wx => (∃ c : Int, 0 ≤ c ∧ c < 4 ∧ s46 = .int .i64 c) ∧ (wr.alloc (.cells #[.int .i64 kd, .int .i64 xa, .int .i64 xb, .int .i64 xn, .int .u64 xv] 59)) = wx)
          case first =>
            have t1 := tmod_bounds kd 4 (by omega)
            go_wp2
            go_meet
            exact ⟨⟨_, by omega, by omega, rfl⟩, rfl⟩
          case rest =>
          obtain ⟨⟨c, hc0', hc4', rfl⟩, rfl⟩ := hcut
          clear hc0 hc1 hc2 hc3 hc4
          have HA := hid (H.out.chg ((Chg.refl (fun _ => False) _).alloc (.cells #[.int .i64 kd, .int .i64 xa, .int .i64 xb, .int .i64 xn, .int .u64 xv] 59)) (by simp) (by simp))
          have HRA := hid (HR.out.chg ((Chg.refl (fun _ => False) _).alloc (.cells #[.int .i64 kd, .int .i64 xa, .int .i64 xb, .int .i64 xn, .int .u64 xv] 59)) (by simp))
          have hbA : Below w.heap.size w (wr.alloc (.cells #[.int .i64 kd, .int .i64 xa, .int .i64 xb, .int .i64 xn, .int .u64 xv] 59)) := hbw.alloc hsz _
          have HD := hid (HA.out.chg (Chg.refl (fun _ => False) _).drew (by simp) (by simp))
          have HRD := hid (HRA.out.chg (Chg.refl (fun _ => False) _).drew (by simp))
          by_cases e0 : c = 0
          · subst e0
            by_cases hR : Right 1 xb xn 0 0
            · by_cases hin : 0 ≤ xa ∧ xa + xb ≤ n
              · have hs1b : 1 ≤ xb := by unfold Right at hR; omega
                obtain ⟨A, rfl⟩ := Int.eq_ofNat_of_zero_le hin.1
                obtain ⟨S, rfl⟩ := Int.eq_ofNat_of_zero_le (show 0 ≤ xb by omega)
                have hAS : A + S ≤ n := by omega
                have HRR := hid hR
                clear hin hR hs1b
                go_wp2_with fail
                have hx11 : ((wr.alloc (.cells #[.int .i64 kd, .int .i64 (A : Int), .int .i64 (S : Int), .int .i64 xn, .int .u64 xv] 59))).cell? ⟨wr.heap.size, 1, none⟩ = some (.int .i64 (A : Int)) := by go_simp
                have hx12 : ((wr.alloc (.cells #[.int .i64 kd, .int .i64 (A : Int), .int .i64 (S : Int), .int .i64 xn, .int .u64 xv] 59))).cell? ⟨wr.heap.size, 2, none⟩ = some (.int .i64 (S : Int)) := by go_simp
                have hx13 : ((wr.alloc (.cells #[.int .i64 kd, .int .i64 (A : Int), .int .i64 (S : Int), .int .i64 xn, .int .u64 xv] 59))).cell? ⟨wr.heap.size, 3, none⟩ = some (.int .i64 xn) := by go_simp
                go_region_held3 (fun w' => w'.cell? ⟨wr.heap.size, 1, none⟩ = some (.int .i64 (A : Int)) ∧ w'.cell? ⟨wr.heap.size, 2, none⟩ = some (.int .i64 (S : Int)) ∧ w'.cell? ⟨wr.heap.size, 3, none⟩ = some (.int .i64 xn)) (first | exact ⟨hx11, hx12, hx13⟩ | exact ⟨hx21, hx22, hx23⟩ | exact ⟨hx31, hx32, hx33⟩)
                  (first
                    | (go_at_call 25; refine (parse_make _ p q n f A S xn HD.out HRR.out hAS).mono ?_; rintro e w1 ⟨rfl, hc1, ha1⟩; have hx21 := (hc1.cell (b := wr.heap.size) (o := 1) (by simp) (fun e => by have h1 := H.out.lt; rcases e with e | e <;> omega)).trans hx11; have hx22 := (hc1.cell (b := wr.heap.size) (o := 2) (by simp) (fun e => by have h1 := H.out.lt; rcases e with e | e <;> omega)).trans hx12; have hx23 := (hc1.cell (b := wr.heap.size) (o := 3) (by simp) (fun e => by have h1 := H.out.lt; rcases e with e | e <;> omega)).trans hx13; have hs1 := hc1.size; (try simp at hs1); have HC1 := hid hc1; have HA1 := hid ha1; clear ha1; have HR1 := hid (HRD.out.chg hc1 (fun e => by rcases e with e | e <;> omega)); clear hc1)
                    | (go_at_call 26; refine (ref_make _ r n f A S xn HR1.out HRR.out hAS).mono ?_; rintro e w2 ⟨rfl, hc2, hr2⟩; have hx31 := (hc2.cell (b := wr.heap.size) (o := 1) (by omega) (fun e => by have h2 : wr.heap.size = r := e; have h1 := HR.out.lt; omega)).trans hx21; have hx32 := (hc2.cell (b := wr.heap.size) (o := 2) (by omega) (fun e => by have h2 : wr.heap.size = r := e; have h1 := HR.out.lt; omega)).trans hx22; have hx33 := (hc2.cell (b := wr.heap.size) (o := 3) (by omega) (fun e => by have h2 : wr.heap.size = r := e; have h1 := HR.out.lt; omega)).trans hx23; have HC2 := hid hc2; have HR2 := hid hr2; clear hr2; have HA2 := hid (HA1.out.chg hc2 (fun e => by have h2 : p = r := e; omega) (fun e => by have h2 : q = r := e; omega)); clear hc2))
                go_wp2_with fail
                go_meet
                exact ⟨_, HA2.out, HR2.out, HC2.out.below (HC1.out.below (bel_drew.2 hbA) (fun g _ h => by rcases h with rfl | rfl <;> omega) (by simp; omega)) (fun g _ h => by have h2 : g = r := h; omega) (by first | omega | (simp; omega) | (simp at hs1; omega) | (simp at hs1 ⊢; omega))⟩
              · have HX := hid (show xa < 0 ∨ (n : Int) < xa + xb by omega)
                have HRR := hid hR
                clear hin hR
                go_wp2_with fail
                have hx11 : ((wr.alloc (.cells #[.int .i64 kd, .int .i64 xa, .int .i64 xb, .int .i64 xn, .int .u64 xv] 59))).cell? ⟨wr.heap.size, 1, none⟩ = some (.int .i64 xa) := by go_simp
                have hx12 : ((wr.alloc (.cells #[.int .i64 kd, .int .i64 xa, .int .i64 xb, .int .i64 xn, .int .u64 xv] 59))).cell? ⟨wr.heap.size, 2, none⟩ = some (.int .i64 xb) := by go_simp
                have hx13 : ((wr.alloc (.cells #[.int .i64 kd, .int .i64 xa, .int .i64 xb, .int .i64 xn, .int .u64 xv] 59))).cell? ⟨wr.heap.size, 3, none⟩ = some (.int .i64 xn) := by go_simp
                go_region_held3 (fun w' => w'.cell? ⟨wr.heap.size, 1, none⟩ = some (.int .i64 xa) ∧ w'.cell? ⟨wr.heap.size, 2, none⟩ = some (.int .i64 xb) ∧ w'.cell? ⟨wr.heap.size, 3, none⟩ = some (.int .i64 xn)) (first | exact ⟨hx11, hx12, hx13⟩ | exact ⟨hx21, hx22, hx23⟩ | exact ⟨hx31, hx32, hx33⟩)
                  (first
                    | (go_at_call 25; refine (parse_make_range _ p q n f xa xb xn HD.out HRR.out HX.out).mono ?_; rintro e w1 ⟨rfl, hc1⟩; have hx21 := (hc1.cell (b := wr.heap.size) (o := 1) (by simp) (by simp)).trans hx11; have hx22 := (hc1.cell (b := wr.heap.size) (o := 2) (by simp) (by simp)).trans hx12; have hx23 := (hc1.cell (b := wr.heap.size) (o := 3) (by simp) (by simp)).trans hx13; have hs1 := hc1.size; (try simp at hs1); have HC1 := hid hc1; have HA1 := hid (HD.out.chg hc1 (by simp) (by simp)); have HR1 := hid (HRD.out.chg hc1 (by simp)); clear hc1)
                    | (go_at_call 26; refine (ref_make_range _ r n xa xb xn (by omega) HRR.out HX.out).mono ?_; rintro e w2 ⟨rfl, hc2⟩; have hx31 := (hc2.cell (b := wr.heap.size) (o := 1) (by omega) (by simp)).trans hx21; have hx32 := (hc2.cell (b := wr.heap.size) (o := 2) (by omega) (by simp)).trans hx22; have hx33 := (hc2.cell (b := wr.heap.size) (o := 3) (by omega) (by simp)).trans hx23; have HC2 := hid hc2; have HR2 := hid (HR1.out.chg hc2 (by simp)); have HA2 := hid (HA1.out.chg hc2 (by simp) (by simp)); clear hc2))
                go_wp2_with fail
                go_meet
                exact ⟨_, HA2.out, HR2.out, HC2.out.below (HC1.out.below (bel_drew.2 hbA) (fun g _ h => by simp at h) (by simp; omega)) (fun g _ h => by simp at h) (by first | omega | (simp; omega) | (simp at hs1; omega) | (simp at hs1 ⊢; omega))⟩
            · have HRR := hid hR
              clear hR
              go_wp2_with fail
              have hx11 : ((wr.alloc (.cells #[.int .i64 kd, .int .i64 xa, .int .i64 xb, .int .i64 xn, .int .u64 xv] 59))).cell? ⟨wr.heap.size, 1, none⟩ = some (.int .i64 xa) := by go_simp
              have hx12 : ((wr.alloc (.cells #[.int .i64 kd, .int .i64 xa, .int .i64 xb, .int .i64 xn, .int .u64 xv] 59))).cell? ⟨wr.heap.size, 2, none⟩ = some (.int .i64 xb) := by go_simp
              have hx13 : ((wr.alloc (.cells #[.int .i64 kd, .int .i64 xa, .int .i64 xb, .int .i64 xn, .int .u64 xv] 59))).cell? ⟨wr.heap.size, 3, none⟩ = some (.int .i64 xn) := by go_simp
              go_region_held3 (fun w' => w'.cell? ⟨wr.heap.size, 1, none⟩ = some (.int .i64 xa) ∧ w'.cell? ⟨wr.heap.size, 2, none⟩ = some (.int .i64 xb) ∧ w'.cell? ⟨wr.heap.size, 3, none⟩ = some (.int .i64 xn)) (first | exact ⟨hx11, hx12, hx13⟩ | exact ⟨hx21, hx22, hx23⟩ | exact ⟨hx31, hx32, hx33⟩)
                (first
                  | (go_at_call 25; refine (parse_make_shape _ p xa xb xn HRR.out).mono ?_; rintro e w1 ⟨rfl, hc1⟩; have hx21 := (hc1.cell (b := wr.heap.size) (o := 1) (by simp) (by simp)).trans hx11; have hx22 := (hc1.cell (b := wr.heap.size) (o := 2) (by simp) (by simp)).trans hx12; have hx23 := (hc1.cell (b := wr.heap.size) (o := 3) (by simp) (by simp)).trans hx13; have hs1 := hc1.size; (try simp at hs1); have HC1 := hid hc1; have HA1 := hid (HD.out.chg hc1 (by simp) (by simp)); have HR1 := hid (HRD.out.chg hc1 (by simp)); clear hc1)
                  | (go_at_call 26; refine (ref_make_shape _ r n xa xb xn HRR.out).mono ?_; rintro e w2 ⟨rfl, hc2⟩; have hx31 := (hc2.cell (b := wr.heap.size) (o := 1) (by omega) (by simp)).trans hx21; have hx32 := (hc2.cell (b := wr.heap.size) (o := 2) (by omega) (by simp)).trans hx22; have hx33 := (hc2.cell (b := wr.heap.size) (o := 3) (by omega) (by simp)).trans hx23; have HC2 := hid hc2; have HR2 := hid (HR1.out.chg hc2 (by simp)); have HA2 := hid (HA1.out.chg hc2 (by simp) (by simp)); clear hc2))
              go_wp2_with fail
              go_meet
              exact ⟨_, HA2.out, HR2.out, HC2.out.below (HC1.out.below (bel_drew.2 hbA) (fun g _ h => by simp at h) (by simp; omega)) (fun g _ h => by simp at h) (by first | omega | (simp; omega) | (simp at hs1; omega) | (simp at hs1 ⊢; omega))⟩
          have f0 : (c == 0) = false := by simpa using e0
          by_cases e1 : c = 1
          · subst e1
            clear e0 f0
            by_cases hin : 0 ≤ xa ∧ xa ≤ xb ∧ xb ≤ n
            · obtain ⟨A, rfl⟩ := Int.eq_ofNat_of_zero_le hin.1
              obtain ⟨S, rfl⟩ := Int.eq_ofNat_of_zero_le (show 0 ≤ xb by omega)
              have hAS : A ≤ S := by omega
              have hSn : S ≤ n := by omega
              clear hin
              go_wp2_with fail
              have hx11 : ((wr.alloc (.cells #[.int .i64 kd, .int .i64 (A : Int), .int .i64 (S : Int), .int .i64 xn, .int .u64 xv] 59))).cell? ⟨wr.heap.size, 1, none⟩ = some (.int .i64 (A : Int)) := by go_simp
              have hx12 : ((wr.alloc (.cells #[.int .i64 kd, .int .i64 (A : Int), .int .i64 (S : Int), .int .i64 xn, .int .u64 xv] 59))).cell? ⟨wr.heap.size, 2, none⟩ = some (.int .i64 (S : Int)) := by go_simp
              go_region_held3 (fun w' => w'.cell? ⟨wr.heap.size, 1, none⟩ = some (.int .i64 (A : Int)) ∧ w'.cell? ⟨wr.heap.size, 2, none⟩ = some (.int .i64 (S : Int))) (first | exact ⟨hx11, hx12⟩ | exact ⟨hx21, hx22⟩ | exact ⟨hx31, hx32⟩)
                (first
                  | (go_at_call 27; refine (parse_fill _ p q n f A S HD.out hAS hSn (by omega)).mono ?_; rintro e w1 ⟨rfl, hc1, ha1⟩; have hx21 := (hc1.cell (b := wr.heap.size) (o := 1) (by simp) (fun e => by have h1 := H.out.lt; rcases e with e | e <;> omega)).trans hx11; have hx22 := (hc1.cell (b := wr.heap.size) (o := 2) (by simp) (fun e => by have h1 := H.out.lt; rcases e with e | e <;> omega)).trans hx12; have hs1 := hc1.size; (try simp at hs1); have HC1 := hid hc1; have HA1 := hid ha1; clear ha1; have HR1 := hid (HRD.out.chg hc1 (fun e => by rcases e with e | e <;> omega)); clear hc1)
                  | (go_at_call 28; refine (ref_fill _ r n f A S HR1.out hAS hSn (by omega)).mono ?_; rintro e w2 ⟨rfl, hc2, hr2⟩; have hx31 := (hc2.cell (b := wr.heap.size) (o := 1) (by omega) (fun e => by have h2 : wr.heap.size = r := e; have h1 := HR.out.lt; omega)).trans hx21; have hx32 := (hc2.cell (b := wr.heap.size) (o := 2) (by omega) (fun e => by have h2 : wr.heap.size = r := e; have h1 := HR.out.lt; omega)).trans hx22; have HC2 := hid hc2; have HR2 := hid hr2; clear hr2; have HA2 := hid (HA1.out.chg hc2 (fun e => by have h2 : p = r := e; omega) (fun e => by have h2 : q = r := e; omega)); clear hc2))
              go_wp2_with fail
              go_meet
              exact ⟨_, HA2.out, HR2.out, HC2.out.below (HC1.out.below (bel_drew.2 hbA) (fun g _ h => by rcases h with rfl | rfl <;> omega) (by simp; omega)) (fun g _ h => by have h2 : g = r := h; omega) (by first | omega | (simp; omega) | (simp at hs1; omega) | (simp at hs1 ⊢; omega))⟩
            · have HX := hid (show xa < 0 ∨ xb < xa ∨ (n : Int) < xb by omega)
              clear hin
              go_wp2_with fail
              have hx11 : ((wr.alloc (.cells #[.int .i64 kd, .int .i64 xa, .int .i64 xb, .int .i64 xn, .int .u64 xv] 59))).cell? ⟨wr.heap.size, 1, none⟩ = some (.int .i64 xa) := by go_simp
              have hx12 : ((wr.alloc (.cells #[.int .i64 kd, .int .i64 xa, .int .i64 xb, .int .i64 xn, .int .u64 xv] 59))).cell? ⟨wr.heap.size, 2, none⟩ = some (.int .i64 xb) := by go_simp
              go_region_held3 (fun w' => w'.cell? ⟨wr.heap.size, 1, none⟩ = some (.int .i64 xa) ∧ w'.cell? ⟨wr.heap.size, 2, none⟩ = some (.int .i64 xb)) (first | exact ⟨hx11, hx12⟩ | exact ⟨hx21, hx22⟩ | exact ⟨hx31, hx32⟩)
                (first
                  | (go_at_call 27; refine (parse_fill_out _ p q n f xa xb HD.out HX.out).mono ?_; rintro e w' ⟨rfl, rfl⟩)
                  | (go_at_call 28; refine (ref_fill_out _ r n xa xb (by omega) HX.out).mono ?_; rintro e w' ⟨rfl, rfl⟩))
              go_wp2_with fail
              go_meet
              exact ⟨_, HD.out, HRD.out, bel_drew.2 hbA⟩
          have f1 : (c == 1) = false := by simpa using e1
          by_cases e2 : c = 2
          · subst e2
            clear e0 e1 f0 f1
            by_cases hin : 0 ≤ xa ∧ xa < n
            · obtain ⟨A, rfl⟩ := Int.eq_ofNat_of_zero_le hin.1
              have hAn : A < n := by omega
              have hAn' : (A : Int) < (n : Int) := by omega
              clear hin
              go_wp2_with (go_at_call 29; refine (arn_store _ p q n f A xv HA.out hAn hv.out.1 hv.out.2).mono ?_; rintro e w1 ⟨rfl, hc1, ha1⟩; have hx1 := (hc1.cell (b := wr.heap.size) (o := 1) (by simp) (fun e => by rcases e with e | e <;> omega)); have hx4 := (hc1.cell (b := wr.heap.size) (o := 4) (by simp) (fun e => by rcases e with e | e <;> omega)); have hs1 := hc1.size; (try simp at hs1); have HC1 := hid hc1; have HA1 := hid ha1; have HR1 := hid (HRA.out.chg hc1 (fun e => by rcases e with e | e <;> omega)); have hcl := HR1.out.1.cell hAn; have hfz := HR1.out.1.frozen A; clear hc1 ha1)
              go_meet
              have hb1 := HC1.out.below hbA (fun g _ h => by rcases h with rfl | rfl <;> omega) hbA.size
              exact ⟨_, HA1.out.chg (S := fun k => k = r) (by (repeat (first | with_reducible exact Chg.refl _ _ | with_reducible apply Chg.drewN | with_reducible apply Chg.drew | with_reducible apply Chg.alloc | (with_reducible refine Chg.setCell ?_ ?_ _; rotate_left; focus (first | (refine Or.inr ?_; first | omega | (simp; done) | (simp; omega)) | exact Or.inl (by assumption) | with_reducible exact Or.inl rfl | exact Or.inl (by simp))) | refine Chg.trans ?_ (Chg.of_below (by with_reducible assumption) (fun k h1 h2 => absurd h1 (by first | omega | (simp; omega)))) | refine Chg.trans ?_ (by with_reducible assumption)))) (by omega) (by omega), HR1.out.store A xv hv.out.1 hv.out.2, by (repeat (first | exact hb1 | exact Below.refl _ _ | apply bel_drewN.2 | apply bel_drew.2 | refine Below.setCell ?_ (by first | omega | (simp; done) | (simp; omega)) _ | refine Below.alloc ?_ (by first | omega | (simp; done) | (simp; omega)) _ | refine bel_step (by assumption) (by first | omega | (simp; done) | (simp; omega)) ?_))⟩
            · have HX := hid (show xa < 0 ∨ (n : Int) ≤ xa by omega)
              clear hin
              go_wp2_with (go_at_call 29; refine (arn_store_out _ p q n f xa xv HA.out HX.out HW1.out).mono ?_; rintro e w1 ⟨rfl, rfl⟩)
              go_meet
              exact ⟨_, HA.out, HRA.out, hbA⟩
          have f2 : (c == 2) = false := by simpa using e2
          clear e0 e1 e2
          go_wp2_with (go_at_call 30; refine (asks_true _ p q r n f xa xb HW1.out HA.out HRA.out hrp).mono ?_; rintro e w1 ⟨rfl, hc1, ha1⟩; have HC1 := hid hc1; have HA1 := hid ha1; clear hc1 ha1)
          go_meet
          exact ⟨f, HA1.out, HRA.out.chg HC1.out hrp, HC1.out.below hbA (fun g _ h => by have h2 : g = p := h; omega) hbA.size⟩
        case rest =>
        obtain ⟨f', har', hrw', hbx'⟩ := hcut
        have H' := hid har'
        have HR' := hid hrw'
        clear har' hrw'
        go_wp2_with fail
        go_roundw
        case rel => exact ⟨k + 1, f', by omega, by go_num, H'.out, HR'.out, hbx'⟩
        case measure => simp [intOf]; omega
      · by_cases hend : k < len1
        · have h200 : 200 ≤ k := by omega
          go_wp2_with fail
          go_meet
          exact ⟨f, H.out, HR.out, hbw⟩
        · obtain rfl : k = len1 := by omega
          go_wp2_with fail
          go_meet
          exact ⟨f, H.out, HR.out, hbw⟩
  case rest =>
  obtain ⟨f, har, hrw, hbw⟩ := hcut
  have H0 := hid har
  have HR0 := hid hrw
  clear har hrw hA0 hR0
  go_wp2_with fail
  go_loopw [10] (fun i wr => ∃ k : Nat, k ≤ n ∧ i = .int .i64 k ∧ Arn wr p q n f ∧ Rw wr r n f ∧ Below w.heap.size w wr) (fun i _ => n - (intOf i).toNat)
  case atStart => exact ⟨0, by omega, rfl, H0.out, HR0.out, hbw⟩
  case round =>
    obtain ⟨k, hk, rfl, har, hrw, hbw⟩ := hrel
    have H := hid har
    have HR := hid hrw
    clear har hrw
    by_cases hlt : k < n
    · have hlt' : (k : Int) < (n : Int) := by omega
      have hwf : (Lit.int .i64 (k : Int)).wf = true := Go.WalkArith.wf_i64 ⟨by omega, by omega⟩
      have HWF := hid hwf
      clear hwf
      go_wp2_with (first
        | (go_at_call 31; refine (arn_load _ p q n f k H.out hlt).mono ?_; rintro e w1 ⟨rfl, hc1, ha1⟩; have HC1 := hid hc1; have HA1 := hid ha1; have HR1 := hid (HR.out.chg hc1 hrp); have hcl := HR1.out.1.cell hlt; have hb1 := hc1.below hbw (fun g _ h => by have h2 : g = p := h; omega) hbw.size; clear hc1 ha1)
        | (go_at_call 30; refine (asks_true _ p q r n f k n HWF.out HA1.out HR1.out hrp).mono ?_; rintro e w2 ⟨rfl, hc2, ha2⟩; have HC2 := hid hc2; have HA2 := hid ha2; clear hc2 ha2))
      go_roundw
      case rel => exact ⟨k + 1, by omega, by go_num, HA2.out, HR1.out.chg HC2.out hrp, HC2.out.below hb1 (fun g _ h => by have h2 : g = p := h; omega) hb1.size⟩
      case measure => simp [intOf]; omega
    · obtain rfl : k = n := by omega
      go_wp2_with (go_at_call 30; refine (asks_true _ p q r k f ((0 : Nat) : Int) k (by decide) H.out HR.out hrp).mono ?_; rintro e w2 ⟨rfl, hc2, ha2⟩; have HC2 := hid hc2; clear hc2 ha2)
      go_ret
      exact ⟨rfl, HC2.out.below hbw (fun g _ h => by have h2 : g = p := h; omega) hbw.size⟩
end Go.Proofs.Ythmjjmimmbgpaaa
