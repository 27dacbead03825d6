/-
  The walks of HeadPacks and HeadBack (layer 4).
-/
import Derived.Test.YtjpapbdoppidcaaUnpack
set_option linter.unusedVariables false
set_option linter.unusedSimpArgs false
namespace Go.Proofs.Ytjpapbdoppidcaa
open Go.RowKit

/-- what both Unpacks answer to a word -/
theorem both_unpack (x : Int) (h0 : 0 ≤ x) (h1 : x ≤ 18446744073709551615) : ∃ k s p a t e : Int,
    (∀ w, Calls Try.prog 17 #[.int .u64 x] w (Unpacks k s p a t e w)) ∧ (∀ w, Calls Try.prog 18 #[.int .u64 x] w (Unpacks k s p a t e w)) ∧
    ((e = 0 ∧ Right k s p a t ∧ wordOf k s p a t = x) ∨ (e = 30 ∧ k = 0 ∧ s = 0 ∧ p = 0 ∧ a = 0 ∧ t = 0)) := by
  have hk : x % 4 = 0 ∨ x % 4 = 1 ∨ x % 4 = 2 ∨ x % 4 = 3 := by omega
  rcases hk with hk | hk | hk | hk
  · by_cases hR : Right 0 (x / 4 % 2097152) 0 0 0
    · by_cases hw : wordOf 0 (x / 4 % 2097152) 0 0 0 = x
      · exact ⟨_, _, _, _, _, _, fun w => unpack0_ok x _ w h0 h1 hk rfl hR hw, fun w => runpack0_ok x _ w h0 h1 hk rfl hR hw, .inl ⟨rfl, hR, hw⟩⟩
      · exact ⟨_, _, _, _, _, _, fun w => unpack0_other x _ w h0 h1 hk rfl hR hw, fun w => runpack0_other x _ w h0 h1 hk rfl hR hw, .inr ⟨rfl, rfl, rfl, rfl, rfl, rfl⟩⟩
    · exact ⟨_, _, _, _, _, _, fun w => unpack0_wrong x _ w h0 h1 hk rfl hR, fun w => runpack0_wrong x _ w h0 h1 hk rfl hR, .inr ⟨rfl, rfl, rfl, rfl, rfl, rfl⟩⟩
  · by_cases hR : Right 1 (x / 4 % 2097152) (x / 8388608 % 2097152) (x / 17592186044416 % 8) 0
    · by_cases hw : wordOf 1 (x / 4 % 2097152) (x / 8388608 % 2097152) (x / 17592186044416 % 8) 0 = x
      · exact ⟨_, _, _, _, _, _, fun w => unpack1_ok x _ _ _ w h0 h1 hk rfl rfl rfl hR hw, fun w => runpack1_ok x _ _ _ w h0 h1 hk rfl rfl rfl hR hw, .inl ⟨rfl, hR, hw⟩⟩
      · exact ⟨_, _, _, _, _, _, fun w => unpack1_other x _ _ _ w h0 h1 hk rfl rfl rfl hR hw, fun w => runpack1_other x _ _ _ w h0 h1 hk rfl rfl rfl hR hw, .inr ⟨rfl, rfl, rfl, rfl, rfl, rfl⟩⟩
    · exact ⟨_, _, _, _, _, _, fun w => unpack1_wrong x _ _ _ w h0 h1 hk rfl rfl rfl hR, fun w => runpack1_wrong x _ _ _ w h0 h1 hk rfl rfl rfl hR, .inr ⟨rfl, rfl, rfl, rfl, rfl, rfl⟩⟩
  · by_cases hR : Right 2 (x / 4 % 2097152) 0 0 0
    · by_cases hw : wordOf 2 (x / 4 % 2097152) 0 0 0 = x
      · exact ⟨_, _, _, _, _, _, fun w => unpack2_ok x _ w h0 h1 hk rfl hR hw, fun w => runpack2_ok x _ w h0 h1 hk rfl hR hw, .inl ⟨rfl, hR, hw⟩⟩
      · exact ⟨_, _, _, _, _, _, fun w => unpack2_other x _ w h0 h1 hk rfl hR hw, fun w => runpack2_other x _ w h0 h1 hk rfl hR hw, .inr ⟨rfl, rfl, rfl, rfl, rfl, rfl⟩⟩
    · exact ⟨_, _, _, _, _, _, fun w => unpack2_wrong x _ w h0 h1 hk rfl hR, fun w => runpack2_wrong x _ w h0 h1 hk rfl hR, .inr ⟨rfl, rfl, rfl, rfl, rfl, rfl⟩⟩
  · by_cases hR : Right 3 (x / 4 % 2097152) 0 0 (x / 8388608 % 4194304)
    · by_cases hw : wordOf 3 (x / 4 % 2097152) 0 0 (x / 8388608 % 4194304) = x
      · exact ⟨_, _, _, _, _, _, fun w => unpack3_ok x _ _ w h0 h1 hk rfl rfl hR hw, fun w => runpack3_ok x _ _ w h0 h1 hk rfl rfl hR hw, .inl ⟨rfl, hR, hw⟩⟩
      · exact ⟨_, _, _, _, _, _, fun w => unpack3_other x _ _ w h0 h1 hk rfl rfl hR hw, fun w => runpack3_other x _ _ w h0 h1 hk rfl rfl hR hw, .inr ⟨rfl, rfl, rfl, rfl, rfl, rfl⟩⟩
    · exact ⟨_, _, _, _, _, _, fun w => unpack3_wrong x _ _ w h0 h1 hk rfl rfl hR, fun w => runpack3_wrong x _ _ w h0 h1 hk rfl rfl hR, .inr ⟨rfl, rfl, rfl, rfl, rfl, rfl⟩⟩

theorem word_bounds {k s p a t : Int} (h : Right k s p a t) : 0 ≤ wordOf k s p a t ∧ wordOf k s p a t ≤ 18446744073709551615 := by
  unfold Right at h; unfold wordOf; omega

/-- a header's word is unpacked to the header -/
theorem unpack_word (k s p a t : Int) (w : World) (h : Right k s p a t) :
    Calls Try.prog 17 #[.int .u64 (wordOf k s p a t)] w (Unpacks k s p a t 0 w) := by
  obtain ⟨b0, b1⟩ := word_bounds h
  have hR := h
  rcases h with ⟨rfl, rfl, rfl, rfl, rfl⟩ | ⟨rfl, h1, h2, h3, h4, h5, h6, rfl⟩ | ⟨rfl, h1, h2, rfl, rfl, rfl⟩ | ⟨rfl, h1, h2, rfl, rfl, h3, h4⟩
  · exact unpack0_ok _ 0 w b0 b1 (by unfold wordOf; omega) (by unfold wordOf; omega) hR rfl
  · exact unpack1_ok _ s p a w b0 b1 (by unfold wordOf; omega) (by unfold wordOf; omega) (by unfold wordOf; omega) (by unfold wordOf; omega) hR rfl
  · exact unpack2_ok _ s w b0 b1 (by unfold wordOf; omega) (by unfold wordOf; omega) hR rfl
  · exact unpack3_ok _ s t w b0 b1 (by unfold wordOf; omega) (by unfold wordOf; omega) (by unfold wordOf; omega) hR rfl

/-- what both Packs answer to a header -/
theorem both_pack (k s p a t : Int) : ∃ v e : Int,
    (∀ w, Calls Try.prog 15 #[.agg #[.int .i64 k, .int .i64 s, .int .i64 p, .int .i64 a, .int .i64 t]] w (Packs v e k s p a t w)) ∧
    (∀ w, Calls Try.prog 16 #[.agg #[.int .i64 k, .int .i64 s, .int .i64 p, .int .i64 a, .int .i64 t]] w (RPacks v e k s p a t w)) ∧
    ((e = 0 ∧ Right k s p a t ∧ v = wordOf k s p a t) ∨ (e = 3 ∧ v = 0)) := by
  by_cases hR : Right k s p a t
  · exact ⟨_, _, fun w => pack_right k s p a t w hR, fun w => rpack_right k s p a t w hR, .inl ⟨rfl, hR, rfl⟩⟩
  · exact ⟨_, _, fun w => pack_wrong k s p a t w hR, fun w => rpack_wrong k s p a t w hR, .inr ⟨rfl, rfl⟩⟩

set_option maxRecDepth 100000 in
set_option maxHeartbeats 1000000 in
theorem awake04 (w : World) : Calls Try.prog 14 #[] w fun e w' => e = .returned (.bool true) ∧ Below w.heap.size w w' := by
  have h6 : Right 2 1 0 0 0 := .inr (.inr (.inl ⟨rfl, by omega, by omega, rfl, rfl, rfl⟩))
  have H6 := hid h6
  clear h6
  go_enter Try.func14, Try.ntmps14
  go_wp2_with (first
    | (go_at_call 15; refine (pack_object 3 2 1 _ (by omega) (by omega) (by omega) (by omega) (by omega) (by omega)).mono ?_; rintro e w' ⟨rfl, rfl⟩)
    | (go_at_call 17; refine (unpack_word 2 1 0 0 0 _ H6.out).mono ?_; rintro e w' ⟨rfl, hb⟩; have hz := (hb).size; (try simp at hz)))
  go_ret
  exact ⟨rfl, by (repeat (first | exact Below.refl _ _ | exact Below.refl _ _ | apply bel_drewN.2 | apply bel_drew.2 | refine Below.setCell ?_ (by first | omega | (simp; done) | (simp; omega)) _ | refine Below.alloc ?_ (by first | omega | (simp; done) | (simp; omega)) _ | refine bel_step (by assumption) (by first | omega | (simp; done) | (simp; omega)) ?_))⟩

set_option maxRecDepth 100000 in
set_option maxHeartbeats 1000000 in
theorem headPacks (k s p a t x : Int) (w : World) (h0 : 0 ≤ x) (h1 : x ≤ 18446744073709551615) :
    Calls Try.prog 4 #[.agg #[.int .i64 k, .int .i64 s, .int .i64 p, .int .i64 a, .int .i64 t], .int .u64 x] w
      fun e w' => e = .returned (.bool true) ∧ Below w.heap.size w w' := by
  obtain ⟨v, e, hp, hrp, _⟩ := both_pack k s p a t
  obtain ⟨k', s', p', a', t', e', hu, hru, _⟩ := both_unpack x h0 h1
  have HP := hid hp
  have HRP := hid hrp
  have HU := hid hu
  have HRU := hid hru
  clear hp hrp hu hru
  go_enter Try.func4, Try.ntmps4
  go_wp2_with (first
    | (go_at_call 14; refine (awake04 _).mono ?_; rintro e w' ⟨rfl, hb⟩; have hb_0 := fun o => (hb).cell (p := ⟨w.heap.size, o, none⟩) (by first | omega | (simp; done) | (simp; omega)); have hbf_0 := fun o => (hb).frozen (p := ⟨w.heap.size, o, none⟩) (by first | omega | (simp; done) | (simp; omega)); have hbl_0 : w.heap.size < w'.heap.size := (by have := (hb).size; simp at this; omega); have hbm_0 := Nat.le_of_lt hbl_0)
    | (go_at_call 15; refine (HP.out _).mono ?_; rintro e w' ⟨rfl, rfl⟩)
    | (go_at_call 16; refine (HRP.out _).mono ?_; rintro e w' ⟨rfl, rfl⟩)
    | (go_at_call 17; refine (HU.out _).mono ?_; rintro e w1 ⟨rfl, hb1⟩; have hz1 := (hb1).size; (try simp at hz1))
    | (go_at_call 18; refine (HRU.out _).mono ?_; rintro e w2 ⟨rfl, hb2⟩; have hb2_0 := fun o => (hb2).cell (p := ⟨w1.heap.size, o, none⟩) (by first | omega | (simp; done) | (simp; omega)); have hb2f_0 := fun o => (hb2).frozen (p := ⟨w1.heap.size, o, none⟩) (by first | omega | (simp; done) | (simp; omega)); have hb2l_0 : w1.heap.size < w2.heap.size := (by have := (hb2).size; simp at this; omega); have hb2m_0 := Nat.le_of_lt hb2l_0))
  go_ret
  exact ⟨rfl, by (repeat (first | exact Below.refl _ _ | exact Below.refl _ _ | apply bel_drewN.2 | apply bel_drew.2 | refine Below.setCell ?_ (by first | omega | (simp; done) | (simp; omega)) _ | refine Below.alloc ?_ (by first | omega | (simp; done) | (simp; omega)) _ | refine bel_step (by assumption) (by first | omega | (simp; done) | (simp; omega)) ?_))⟩

set_option maxRecDepth 100000 in
set_option maxHeartbeats 1000000 in
theorem headBack (k s p a t x : Int) (w : World) (h0 : 0 ≤ x) (h1 : x ≤ 18446744073709551615) :
    Calls Try.prog 5 #[.agg #[.int .i64 k, .int .i64 s, .int .i64 p, .int .i64 a, .int .i64 t], .int .u64 x] w
      fun e w' => e = .returned (.bool true) ∧ Below w.heap.size w w' := by
  obtain ⟨k', s', p', a', t', e', hu, _, hue⟩ := both_unpack x h0 h1
  have HU := hid hu
  clear hu
  by_cases hR : Right k s p a t
  · have hp := fun w => pack_right k s p a t w hR
    have hv := fun w => unpack_word k s p a t w hR
    have HP := hid hp
    have HV := hid hv
    clear hp hv
    rcases hue with ⟨rfl, hR', hw⟩ | ⟨rfl, rfl, rfl, rfl, rfl, rfl⟩
    · have hb := right_bounds hR'
      have hs0 : 0 ≤ s' := by omega
      have hs1 : s' ≤ 1048576 := by omega
      have hp2 := fun w => pack_right k' s' p' a' t' w hR'
      rw [hw] at hp2
      have HP2 := hid hp2
      clear hp2 hw hb
      go_enter Try.func5, Try.ntmps5
      go_wp2_with (first
        | (go_at_call 14; refine (awake04 _).mono ?_; rintro e w' ⟨rfl, hb⟩; have hb_0 := fun o => (hb).cell (p := ⟨w.heap.size, o, none⟩) (by first | omega | (simp; done) | (simp; omega)); have hbf_0 := fun o => (hb).frozen (p := ⟨w.heap.size, o, none⟩) (by first | omega | (simp; done) | (simp; omega)); have hbl_0 : w.heap.size < w'.heap.size := (by have := (hb).size; simp at this; omega); have hbm_0 := Nat.le_of_lt hbl_0)
        | (go_at_call_of 15 (Value.int IntKind.i64 k); refine (HP.out _).mono ?_; rintro e w' ⟨rfl, rfl⟩)
        | (go_at_call_of 15 (Value.int IntKind.i64 k'); refine (HP2.out _).mono ?_; rintro e w' ⟨rfl, rfl⟩)
        | (go_at_call_of 17 (wordOf k s p a t); refine (HV.out _).mono ?_; rintro e w1 ⟨rfl, hb1⟩; have hb1_0 := fun o => (hb1).cell (p := ⟨w.heap.size, o, none⟩) (by first | omega | (simp; done) | (simp; omega)); have hb1f_0 := fun o => (hb1).frozen (p := ⟨w.heap.size, o, none⟩) (by first | omega | (simp; done) | (simp; omega)); have hb1l_0 : w.heap.size < w1.heap.size := (by have := (hb1).size; simp at this; omega); have hb1m_0 := Nat.le_of_lt hb1l_0)
        | (go_at_call_of 17 (Value.int IntKind.u64 x); refine (HU.out _).mono ?_; rintro e w2 ⟨rfl, hb2⟩; have hz2 := (hb2).size; (try simp at hz2)))
      go_ret
      exact ⟨rfl, by (repeat (first | exact Below.refl _ _ | exact Below.refl _ _ | apply bel_drewN.2 | apply bel_drew.2 | refine Below.setCell ?_ (by first | omega | (simp; done) | (simp; omega)) _ | refine Below.alloc ?_ (by first | omega | (simp; done) | (simp; omega)) _ | refine bel_step (by assumption) (by first | omega | (simp; done) | (simp; omega)) ?_))⟩
    · go_enter Try.func5, Try.ntmps5
      go_wp2_with (first
        | (go_at_call 14; refine (awake04 _).mono ?_; rintro e w' ⟨rfl, hb⟩; have hb_0 := fun o => (hb).cell (p := ⟨w.heap.size, o, none⟩) (by first | omega | (simp; done) | (simp; omega)); have hbf_0 := fun o => (hb).frozen (p := ⟨w.heap.size, o, none⟩) (by first | omega | (simp; done) | (simp; omega)); have hbl_0 : w.heap.size < w'.heap.size := (by have := (hb).size; simp at this; omega); have hbm_0 := Nat.le_of_lt hbl_0)
        | (go_at_call 15; refine (HP.out _).mono ?_; rintro e w' ⟨rfl, rfl⟩)
        | (go_at_call_of 17 (wordOf k s p a t); refine (HV.out _).mono ?_; rintro e w1 ⟨rfl, hb1⟩; have hb1_0 := fun o => (hb1).cell (p := ⟨w.heap.size, o, none⟩) (by first | omega | (simp; done) | (simp; omega)); have hb1f_0 := fun o => (hb1).frozen (p := ⟨w.heap.size, o, none⟩) (by first | omega | (simp; done) | (simp; omega)); have hb1l_0 : w.heap.size < w1.heap.size := (by have := (hb1).size; simp at this; omega); have hb1m_0 := Nat.le_of_lt hb1l_0)
        | (go_at_call_of 17 (Value.int IntKind.u64 x); refine (HU.out _).mono ?_; rintro e w2 ⟨rfl, hb2⟩; have hz2 := (hb2).size; (try simp at hz2)))
      go_ret
      exact ⟨rfl, by (repeat (first | exact Below.refl _ _ | exact Below.refl _ _ | apply bel_drewN.2 | apply bel_drew.2 | refine Below.setCell ?_ (by first | omega | (simp; done) | (simp; omega)) _ | refine Below.alloc ?_ (by first | omega | (simp; done) | (simp; omega)) _ | refine bel_step (by assumption) (by first | omega | (simp; done) | (simp; omega)) ?_))⟩
  · have hp := fun w => pack_wrong k s p a t w hR
    have HP := hid hp
    clear hp
    rcases hue with ⟨rfl, hR', hw⟩ | ⟨rfl, rfl, rfl, rfl, rfl, rfl⟩
    · have hb := right_bounds hR'
      have hs0 : 0 ≤ s' := by omega
      have hs1 : s' ≤ 1048576 := by omega
      have hp2 := fun w => pack_right k' s' p' a' t' w hR'
      rw [hw] at hp2
      have HP2 := hid hp2
      clear hp2 hw hb
      go_enter Try.func5, Try.ntmps5
      go_wp2_with (first
        | (go_at_call 14; refine (awake04 _).mono ?_; rintro e w' ⟨rfl, hb⟩; have hb_0 := fun o => (hb).cell (p := ⟨w.heap.size, o, none⟩) (by first | omega | (simp; done) | (simp; omega)); have hbf_0 := fun o => (hb).frozen (p := ⟨w.heap.size, o, none⟩) (by first | omega | (simp; done) | (simp; omega)); have hbl_0 : w.heap.size < w'.heap.size := (by have := (hb).size; simp at this; omega); have hbm_0 := Nat.le_of_lt hbl_0)
        | (go_at_call_of 15 (Value.int IntKind.i64 k); refine (HP.out _).mono ?_; rintro e w' ⟨rfl, rfl⟩)
        | (go_at_call_of 15 (Value.int IntKind.i64 k'); refine (HP2.out _).mono ?_; rintro e w' ⟨rfl, rfl⟩)
        | (go_at_call_of 17 (Value.int IntKind.u64 x); refine (HU.out _).mono ?_; rintro e w2 ⟨rfl, hb2⟩; have hz2 := (hb2).size; (try simp at hz2)))
      go_ret
      exact ⟨rfl, by (repeat (first | exact Below.refl _ _ | exact Below.refl _ _ | apply bel_drewN.2 | apply bel_drew.2 | refine Below.setCell ?_ (by first | omega | (simp; done) | (simp; omega)) _ | refine Below.alloc ?_ (by first | omega | (simp; done) | (simp; omega)) _ | refine bel_step (by assumption) (by first | omega | (simp; done) | (simp; omega)) ?_))⟩
    · go_enter Try.func5, Try.ntmps5
      go_wp2_with (first
        | (go_at_call 14; refine (awake04 _).mono ?_; rintro e w' ⟨rfl, hb⟩; have hb_0 := fun o => (hb).cell (p := ⟨w.heap.size, o, none⟩) (by first | omega | (simp; done) | (simp; omega)); have hbf_0 := fun o => (hb).frozen (p := ⟨w.heap.size, o, none⟩) (by first | omega | (simp; done) | (simp; omega)); have hbl_0 : w.heap.size < w'.heap.size := (by have := (hb).size; simp at this; omega); have hbm_0 := Nat.le_of_lt hbl_0)
        | (go_at_call 15; refine (HP.out _).mono ?_; rintro e w' ⟨rfl, rfl⟩)
        | (go_at_call_of 17 (Value.int IntKind.u64 x); refine (HU.out _).mono ?_; rintro e w2 ⟨rfl, hb2⟩; have hz2 := (hb2).size; (try simp at hz2)))
      go_ret
      exact ⟨rfl, by (repeat (first | exact Below.refl _ _ | exact Below.refl _ _ | apply bel_drewN.2 | apply bel_drew.2 | refine Below.setCell ?_ (by first | omega | (simp; done) | (simp; omega)) _ | refine Below.alloc ?_ (by first | omega | (simp; done) | (simp; omega)) _ | refine bel_step (by assumption) (by first | omega | (simp; done) | (simp; omega)) ?_))⟩

theorem u64_range {x : Int} (h : (Lit.int .u64 x).wf = true) : 0 ≤ x ∧ x ≤ 18446744073709551615 := bounds_u64 h

theorem headPacksWalk (k s p a t x : Int) (w : World) (_ : (Lit.int .i64 k).wf = true) (_ : (Lit.int .i64 s).wf = true) (_ : (Lit.int .i64 p).wf = true) (_ : (Lit.int .i64 a).wf = true) (_ : (Lit.int .i64 t).wf = true) (h : (Lit.int .u64 x).wf = true) :
    Calls Try.prog 4 #[.agg #[.int .i64 k, .int .i64 s, .int .i64 p, .int .i64 a, .int .i64 t], .int .u64 x] w
      fun e w' => e = .returned (.bool true) ∧ Below w.heap.size w w' := headPacks k s p a t x w (u64_range h).1 (u64_range h).2

theorem headBackWalk (k s p a t x : Int) (w : World) (_ : (Lit.int .i64 k).wf = true) (_ : (Lit.int .i64 s).wf = true) (_ : (Lit.int .i64 p).wf = true) (_ : (Lit.int .i64 a).wf = true) (_ : (Lit.int .i64 t).wf = true) (h : (Lit.int .u64 x).wf = true) :
    Calls Try.prog 5 #[.agg #[.int .i64 k, .int .i64 s, .int .i64 p, .int .i64 a, .int .i64 t], .int .u64 x] w
      fun e w' => e = .returned (.bool true) ∧ Below w.heap.size w w' := headBack k s p a t x w (u64_range h).1 (u64_range h).2
end Go.Proofs.Ytjpapbdoppidcaa
