/-
  Contracts of package parse (layer 5): an object's references. ParseNil, and the calls that the layer's statements make first.
-/
import Derived.Test.YthmjjmimmbgpaaaParse3
set_option linter.unusedVariables false
set_option linter.unusedSimpArgs false
namespace Go.Proofs.Ythmjjmimmbgpaaa
open Go.RowKit

/-- the addresses of an object's references -/
def refsOf (z : Int) (m : Nat) : List Int := (List.range m).map (fun i : Nat => z + 1 + (i : Int))
/-- what 'Fields' answers -/
def fieldsOf (n : Nat) (h : Hdr) (z : Int) : List Int × Int := if h.e = 0 then (if h.k = 1 ∧ h.s ≤ n - z then (refsOf z h.p.toNat, 0) else ([], 30)) else ([], h.e)

theorem refs_succ (z : Int) (m : Nat) : refsOf z (m + 1) = refsOf z m ++ [z + 1 + (m : Int)] := by
  unfold refsOf
  rw [List.range_succ, List.map_append]
  rfl
theorem refs_length (z : Int) (m : Nat) : (refsOf z m).length = m := by unfold refsOf; simp

theorem parse_fields_nil (w : World) (z : Int) :
    Calls Try.prog 34 #[.pointer none, .int .i64 z] w fun e w' => e = .returned (.tuple #[.slice none 0 0, .int .i64 1]) ∧ Below w.heap.size w w' := by
  have HP := hid (parse_at_nil w z)
  simp only [rets] at HP
  go_enter Try.func34, Try.ntmps34
  go_wp2_with (go_at_call 32; refine HP.out.mono ?_; rintro e w1 ⟨rfl, hb⟩; have hz := (hb).size; (try simp at hz))
  go_ret2
  exact ⟨rfl, by (repeat (first | exact hb | exact Below.refl _ _ | apply bel_drewN.2 | apply bel_drew.2 | refine Below.setCell ?_ (by first | omega | (simp; done) | (simp; omega)) _ | refine Below.alloc ?_ (by first | omega | (simp; done) | (simp; omega)) _ | refine bel_step (by assumption) (by first | omega | (simp; done) | (simp; omega)) ?_))⟩

set_option maxRecDepth 100000 in
set_option maxHeartbeats 2000000 in
theorem parse_fields (w : World) (p q n : Nat) (f : Nat → Int) (z : Int) (hz : (Lit.int .i64 z).wf = true) (h : Arn w p q n f) :
    Calls Try.prog 34 #[.pointer (some ⟨p, 0, none⟩), .int .i64 z] w
      fun e w' => Chg (· = p) w w' ∧ Arn w' p q n f ∧ ∃ t, e = .returned (.tuple #[t, .int .i64 (fieldsOf n (atOf n f z) z).2]) ∧ OwnInts w.heap.size w' t (fieldsOf n (atOf n f z) z).1 := by
  have HP := hid (parse_at w p q n f z hz h)
  have hn := h.bound
  have hpl := h.lt.1
  have hql := h.lt.2
  clear h hz
  by_cases hin : 0 ≤ z ∧ z < n
  · obtain ⟨k, rfl⟩ := Int.eq_ofNat_of_zero_le hin.1
    have hk : k < n := by omega
    have hat : atOf n f k = inAt (f k) := by unfold atOf; rw [if_pos hin, Int.toNat_natCast]
    rw [hat] at HP ⊢
    have hc0 := hid (inAt_cases (f k))
    clear hat hin
    revert HP hc0
    generalize inAt (f k) = I
    generalize hdr (f k) = J
    intro HP hc0
    obtain ⟨jk, js, jp, ja, jt, je⟩ := J
    rcases hc0.out with ⟨rfl, g1, g2, g3, g4, g5, g6, g7⟩ | ⟨rfl, g1⟩
    · have g1' : je = 0 := g1
      subst g1'
      obtain ⟨S, rfl⟩ : ∃ S : Nat, js = S := ⟨js.toNat, by have : 1 ≤ js := g4; omega⟩
      obtain ⟨M, rfl⟩ : ∃ M : Nat, jp = M := ⟨jp.toNat, by have : 0 ≤ jp := g6; omega⟩
      have g5' : S ≤ 1048576 := by have : (S : Int) ≤ 1048576 := g5; omega
      have g7' : M < S := by have : (M : Int) < (S : Int) := g7; omega
      clear g1 g2 g3 g4 g5 g6 g7 hc0
      simp only [rets] at HP
      have e1 : IntKind.i64.wrap ((n : Int) - (k : Int)) = (n : Int) - (k : Int) := IntWalk.i64_in _ (by omega)
      have hbad : ¬ (jk = 1 ∧ (S : Int) ≤ (n : Int) - (k : Int)) → fieldsOf n ⟨jk, S, M, ja, jt, 0⟩ k = ([], 30) := fun hx => by unfold fieldsOf; rw [if_pos rfl, if_neg hx]
      have HBAD := hid hbad
      have hgood : (jk = 1 ∧ (S : Int) ≤ (n : Int) - (k : Int)) → fieldsOf n ⟨jk, S, M, ja, jt, 0⟩ k = (refsOf k M, 0) := fun hx => by unfold fieldsOf; rw [if_pos rfl, if_pos hx, Int.toNat_natCast]
      have HGOOD := hid hgood
      clear hbad hgood
      by_cases hk1 : jk = 1
      · subst hk1
        by_cases hsz : (S : Int) ≤ (n : Int) - (k : Int)
        · rw [HGOOD.out ⟨rfl, hsz⟩]
          clear HGOOD HBAD
          have hd : decide ((S : Int) > (n : Int) - (k : Int)) = false := by simp; omega
          obtain ⟨i0, hi, hz0, hz1, hz2⟩ := info_parts infoInt
          obtain ⟨B, hB⟩ : ∃ B : Nat, B = w.heap.size := ⟨_, rfl⟩
          have hpB : p < B := by omega
          have HB := hid hB
          rw [← hB]
          clear hB
          go_enter Try.func34, Try.ntmps34
          go_wp2_with (go_at_call 32; refine HP.out.mono ?_; rintro e w1 ⟨rfl, hc1, ha1⟩; have HC1 := hid hc1; have HA1 := hid (ha1.chg ((Chg.refl (fun _ => False) _).alloc (.cells #[.int .i64 1, .int .i64 (S : Int), .int .i64 (M : Int), .int .i64 ja, .int .i64 jt] 73)) (by simp) (by simp)); have hsz1 : B ≤ w1.heap.size := (by have h9 := hc1.size; have h8 := HB.out; omega); clear hc1 ha1)
          go_quiet (first | (go_at_call 46; exact quiet_left (arn_len _ p q n f (HA1.out.chg ((Chg.refl (fun _ => False) _).drewN _) (by simp) (by simp)))))
          go_wp2_with fail
          go_loopw [8, 35] (fun v i wr => ∃ m : Nat, m ≤ M ∧ i = .int .i64 m ∧ OwnInts B wr v (refsOf k m) ∧ Chg (fun g => B ≤ g) (w1.alloc (.cells #[.int .i64 1, .int .i64 (S : Int), .int .i64 (M : Int), .int .i64 ja, .int .i64 jt] 73)) wr) (fun _ i _ => M - (intOf i).toNat)
          case atStart => exact ⟨0, by omega, rfl, ownInts_nil _ _, (Chg.refl _ _).drewN _⟩
          case round =>
            obtain ⟨m, hm, rfl, hown0, hcw⟩ := hrel
            have hO := hid hown0
            have HC := hid hcw
            have hsw := hcw.size
            simp only [World.size_alloc] at hsw
            clear hown0 hcw
            by_cases hlt : m < M
            · have hlt' : (m : Int) < (M : Int) := by omega
              go_wp2_with (first
                | (at_builtin; refine wpList_append_own _ rfl _ _ 38 rfl B 3 i0 (.int .i64 0) 1 8 Try.underlying38 hi hz0 hz1 hz2 rfl (by decide) _ _ _ rfl ((hO.out.chg ((Chg.refl (fun _ => False) _).alloc _) (by simp))) ⟨wr.heap.size, 0, none⟩ 1 1 [.int .i64 ((k : Int) + 1 + (m : Int))] rfl rfl ?c1 ?c2 ?c3 ?c4 ?c5 ?_))
              case c1 => exact one_lies (by simp)
              case c2 => intro u hu; simp at hu; subst hu; rfl
              case c3 => have hl9 := refs_length (k : Int) m; unfold maxLen; omega
              case c4 => have hl9 := refs_length (k : Int) m; omega
              case c5 => simp; omega
              intro v' w2 hown' hgrow hblk
              have hO' := hid hown'
              have HC2 := hid (HC.out.trans (((Chg.refl (fun g => B ≤ g) _).alloc _).grown hgrow (fun g hg => .inl (hO.out.lt g hg).1)))
              clear hown' hgrow hblk
              go_wp2_with fail
              go_roundw
              case rel =>
                refine ⟨m + 1, by omega, by go_num, ?_, HC2.out⟩
                have := hO'.out
                unfold OwnInts
                rw [refs_succ, List.map_append, List.length_append]
                exact this
              case measure => simp [intOf]; omega
            · obtain rfl : m = M := by omega
              go_wp2_with fail
              go_ret2
              exact ⟨(HC1.out.alloc _).next HC.out (fun g hg h => by have := HB.out; omega), HA1.out.chg HC.out (by omega) (by have := HB.out; omega), _, rfl, hO.out⟩
        · rw [HBAD.out (fun h => hsz h.2)]
          have hd : decide ((S : Int) > (n : Int) - (k : Int)) = true := by simp; omega
          have hsz' : (n : Int) - (k : Int) < (S : Int) := by omega
          clear HGOOD HBAD
          go_enter Try.func34, Try.ntmps34
          go_wp2_with (go_at_call 32; refine HP.out.mono ?_; rintro e w1 ⟨rfl, hc1, ha1⟩; have HC1 := hid hc1; have HA1 := hid (ha1.chg ((Chg.refl (fun _ => False) _).alloc (.cells #[.int .i64 1, .int .i64 (S : Int), .int .i64 (M : Int), .int .i64 ja, .int .i64 jt] 73)) (by simp) (by simp)); clear hc1 ha1)
          go_quiet (first | (go_at_call 46; exact quiet_left (arn_len _ p q n f (HA1.out.chg ((Chg.refl (fun _ => False) _).drewN _) (by simp) (by simp)))))
          go_wp2_with fail
          go_ret2
          exact ⟨(HC1.out.alloc _).drewN _, HA1.out.chg ((Chg.refl (fun _ => False) _).drewN _) (by simp) (by simp), _, rfl, ownInts_nil _ _⟩
      · rw [HBAD.out (fun h => hk1 h.1)]
        have hd : (jk != 1) = true := by simp; omega
        clear HGOOD HBAD
        go_enter Try.func34, Try.ntmps34
        go_wp2_with (go_at_call 32; refine HP.out.mono ?_; rintro e w1 ⟨rfl, hc1, ha1⟩; have HC1 := hid hc1; have HA1 := hid (ha1.chg ((Chg.refl (fun _ => False) _).alloc (.cells #[.int .i64 jk, .int .i64 (S : Int), .int .i64 (M : Int), .int .i64 ja, .int .i64 jt] 73)) (by simp) (by simp)); clear hc1 ha1)
        go_quiet (first | (go_at_call 46; exact quiet_left (arn_len _ p q n f (HA1.out.chg ((Chg.refl (fun _ => False) _).drewN _) (by simp) (by simp)))))
        go_wp2_with fail
        go_ret2
        exact ⟨(HC1.out.alloc _).drewN _, HA1.out.chg ((Chg.refl (fun _ => False) _).drewN _) (by simp) (by simp), _, rfl, ownInts_nil _ _⟩
    · simp only [rets] at HP
      have e : fieldsOf n ⟨0, 0, 0, 0, 0, 30⟩ k = ([], 30) := by unfold fieldsOf; rw [if_neg (by simp)]
      rw [e]
      clear hc0 g1
      go_enter Try.func34, Try.ntmps34
      go_wp2_with (go_at_call 32; refine HP.out.mono ?_; rintro e w1 ⟨rfl, hc1, ha1⟩; have HC1 := hid hc1; have HA1 := hid ha1; clear hc1 ha1)
      go_ret2
      exact ⟨HC1.out.alloc _, HA1.out.chg ((Chg.refl (fun _ => False) _).alloc _) (by simp) (by simp), _, rfl, ownInts_nil _ _⟩
  · have hat : atOf n f z = ⟨0, 0, 0, 0, 0, 2⟩ := by unfold atOf; rw [if_neg hin]
    rw [hat] at HP ⊢
    simp only [rets] at HP
    have e : fieldsOf n ⟨0, 0, 0, 0, 0, 2⟩ z = ([], 2) := by unfold fieldsOf; rw [if_neg (by simp)]
    rw [e]
    clear hat hin
    go_enter Try.func34, Try.ntmps34
    go_wp2_with (go_at_call 32; refine HP.out.mono ?_; rintro e w1 ⟨rfl, hc1, ha1⟩; have HC1 := hid hc1; have HA1 := hid ha1; clear hc1 ha1)
    go_ret2
    exact ⟨HC1.out.alloc _, HA1.out.chg ((Chg.refl (fun _ => False) _).alloc _) (by simp) (by simp), _, rfl, ownInts_nil _ _⟩

/-- the calls that the layer's statements make first -/
theorem fresh_arn {w : World} {p q n : Nat} (h : ArenaAt w p q n 0 (fun _ => 0)) : Arn w p q n (fun _ => 0) := ⟨⟨0, h⟩, fun i _ => ⟨Int.le_refl _, by simp⟩⟩

theorem ret_t {t : Value} {a b : Int} (h : a = b) : Ending.returned (.tuple #[t, .int .i64 a]) = .returned (.tuple #[t, .int .i64 b]) := by rw [h]

theorem awake_starts : startsOf (filled (made (fun _ => 0) 0 3 2) 3 10) 0 10 = ([0, 3], 0) := by decide
theorem awake_fields : fieldsOf 20 (atOf 20 (filled (made (fun _ => 0) 0 3 2) 3 10) ((0 : Nat) : Int)) ((0 : Nat) : Int) = ([1, 2], 0) := by decide

/-- a list of some length: where it lies, and its numbers -/
theorem OwnInts.at {base : Nat} {w : World} {t : Value} {l : List Int} (h : OwnInts base w t l) (hl : 0 < l.length) : ∃ (g c : Nat), t = .slice (some ⟨g, 0, none⟩) l.length c ∧ base ≤ g ∧ g < w.heap.size ∧ ∀ j, j < l.length → w.cell? ⟨g, j, none⟩ = some (.int .i64 (l.getD j 0)) := by
  obtain ⟨g, c, hv, hg1, hg2⟩ := World.ownsRow.form h hl
  refine ⟨g, c, hv, hg1, hg2, fun j hj => ?_⟩
  have := World.ownsRow.cells h (g := g) (by rw [hv]; rfl) j (.int .i64 (l.getD j 0)) (by simp [hj])
  rw [Go.WideShapes.add_plain, Nat.zero_add] at this
  exact this
theorem OwnInts.shape {base : Nat} {w : World} {t : Value} {l : List Int} (h : OwnInts base w t l) : ∃ (A : Option Addr) (c : Nat), t = .slice A l.length c := by
  rcases h.2 with ⟨hv, hn⟩ | ⟨g, cap, cur, hv, _⟩
  · exact ⟨none, 0, by rw [hv, hn]⟩
  · exact ⟨_, cap, hv⟩

set_option maxRecDepth 100000 in
set_option maxHeartbeats 1000000 in
theorem awake05 (w : World) : Calls Try.prog 23 #[] w fun e w' => e = .returned (.bool true) ∧ Below w.heap.size w w' := by
  have hR : Right 1 (3 : Nat) 2 0 0 := .inr (.inl ⟨rfl, by decide, by decide, by decide, by decide, by decide, by decide, rfl⟩)
  have HR := hid hR
  clear hR
  go_enter Try.func23, Try.ntmps23
  go_wp2_with (first
    | (go_at_call 24; refine (arena_new 20 _ (by omega)).mono ?_; rintro e wa ⟨p, q, rfl, hp, hq, hb, har⟩; have hA := hid (fresh_arn har); clear har)
    | (go_at_call 25; refine (parse_make _ p q 20 _ 0 3 2 hA.out HR.out (by omega)).mono ?_; rintro e w1 ⟨rfl, hc1, ha1⟩; have HA1 := hid ha1; have HC1 := hid hc1; clear ha1 hc1)
    | (go_at_call 27; refine (parse_fill _ p q 20 _ 3 10 HA1.out (by omega) (by omega) (by omega)).mono ?_; rintro e w2 ⟨rfl, hc2, ha2⟩; have HA2 := hid ha2; have HC2 := hid hc2; clear ha2 hc2)
    | (go_at_call 33; refine (parse_starts _ p q 20 _ 0 10 HA2.out (by omega) (by omega)).mono ?_; rw [awake_starts]; rintro e w3 ⟨hc3, ha3, t, rfl, hown⟩; have HA3 := hid ha3; have HC3 := hid hc3; obtain ⟨g, c, rfl, hg1, hg2, hg3⟩ := hown.at (by decide); clear ha3 hc3 hown)
    | (go_at_call 34; refine (parse_fields _ p q 20 _ ((0 : Nat) : Int) (by decide) HA3.out).mono ?_; rw [awake_fields]; rintro e w4 ⟨hc4, ha4, t', rfl, hown'⟩; obtain ⟨g', c', rfl, hg1', hg2', hg3'⟩ := hown'.at (by decide); have hx1 : w4.cell? ⟨g, 1, none⟩ = some (.int .i64 3) := (hc4.cell hg2 (fun e => by have := HA2.out.lt.1; omega)).trans (hg3 1 (by decide)); have hx2 : w4.cell? ⟨g', 0, none⟩ = some (.int .i64 1) := hg3' 0 (by decide); have HC4 := hid hc4; clear hc4 ha4 hown' hg3 hg3'))
  go_ret
  have hb1 := HC1.out.below hb (fun k _ hk => by rcases hk with rfl | rfl <;> omega) hb.size
  have hb2 := HC2.out.below hb1 (fun k _ hk => by rcases hk with rfl | rfl <;> omega) hb1.size
  have hb3 := HC3.out.below hb2 (fun k _ hk => by have : k = p := hk; omega) hb2.size
  have hb4 := HC4.out.below hb3 (fun k _ hk => by have : k = p := hk; omega) hb3.size
  exact ⟨rfl, hb4⟩

set_option maxRecDepth 100000 in
set_option maxHeartbeats 1000000 in
theorem parseNil (k a b n v : Int) (w : World) (_ : (Lit.int .i64 k).wf = true) (_ : (Lit.int .i64 a).wf = true) (_ : (Lit.int .i64 b).wf = true) (_ : (Lit.int .i64 n).wf = true) (_ : (Lit.int .u64 v).wf = true) :
    Calls Try.prog 9 #[.agg #[.int .i64 k, .int .i64 a, .int .i64 b, .int .i64 n, .int .u64 v]] w fun e w' => e = .returned (.bool true) ∧ Below w.heap.size w w' := by
  have HP := hid (fun w' => parse_at_nil w' a)
  simp only [rets] at HP
  go_enter Try.func9, Try.ntmps9
  go_wp2_with (first
    | (go_at_call 23; refine (awake05 _).mono ?_; rintro e wa ⟨rfl, hb⟩; have hb_0 := fun o => (hb).cell (p := ⟨w.heap.size, o, none⟩) (by first | omega | (simp; done) | (simp; omega)); have hbf_0 := fun o => (hb).frozen (p := ⟨w.heap.size, o, none⟩) (by first | omega | (simp; done) | (simp; omega)); have hbl_0 : w.heap.size < wa.heap.size := (by have := (hb).size; (try simp at this); omega); have hbm_0 := Nat.le_of_lt hbl_0)
    | (go_at_call 32; refine (HP.out _).mono ?_; rintro e w1 ⟨rfl, hb1⟩; have hb1_0 := fun o => (hb1).cell (p := ⟨w.heap.size, o, none⟩) (by first | omega | (simp; done) | (simp; omega)); have hb1f_0 := fun o => (hb1).frozen (p := ⟨w.heap.size, o, none⟩) (by first | omega | (simp; done) | (simp; omega)); have hb1l_0 : w.heap.size < w1.heap.size := (by have := (hb1).size; (try simp at this); omega); have hb1m_0 := Nat.le_of_lt hb1l_0; have hz1 := (hb1).size; (try simp at hz1))
    | (go_at_call 34; refine (parse_fields_nil _ a).mono ?_; rintro e w2 ⟨rfl, hb2⟩; have hb2_0 := fun o => (hb2).cell (p := ⟨w.heap.size, o, none⟩) (by first | omega | (simp; done) | (simp; omega)); have hb2f_0 := fun o => (hb2).frozen (p := ⟨w.heap.size, o, none⟩) (by first | omega | (simp; done) | (simp; omega)); have hb2l_0 : w.heap.size < w2.heap.size := (by have := (hb2).size; (try simp at this); omega); have hb2m_0 := Nat.le_of_lt hb2l_0; have hb2_1 := fun o => (hb2).cell (p := ⟨w1.heap.size, o, none⟩) (by first | omega | (simp; done) | (simp; omega)); have hb2f_1 := fun o => (hb2).frozen (p := ⟨w1.heap.size, o, none⟩) (by first | omega | (simp; done) | (simp; omega)); have hb2l_1 : w1.heap.size < w2.heap.size := (by have := (hb2).size; (try simp at this); omega); have hb2m_1 := Nat.le_of_lt hb2l_1; have hz2 := (hb2).size; (try simp at hz2))
    | (go_at_call 33; refine (parse_starts_nil _ a b).mono ?_; rintro e w' ⟨rfl, rfl⟩)
    | (go_at_call 25; refine (parse_make_nil _ a b n).mono ?_; rintro e w' ⟨rfl, rfl⟩)
    | (go_at_call 27; refine (parse_fill_nil _ a b).mono ?_; rintro e w' ⟨rfl, rfl⟩))
  go_ret
  exact ⟨rfl, by (repeat (first | exact Below.refl _ _ | exact Below.refl _ _ | apply bel_drewN.2 | apply bel_drew.2 | refine Below.setCell ?_ (by first | omega | (simp; done) | (simp; omega)) _ | refine Below.alloc ?_ (by first | omega | (simp; done) | (simp; omega)) _ | refine bel_step (by assumption) (by first | omega | (simp; done) | (simp; omega)) ?_))⟩
end Go.Proofs.Ythmjjmimmbgpaaa
