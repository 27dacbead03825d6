/-
  RootsNil and RootsBack (layer 12), and the calls that the layer's statements make first.
-/
import Derived.Test.YtcdllelbdcacjaaRootsRef
set_option linter.unusedVariables false
set_option linter.unusedSimpArgs false
namespace Go.Proofs.Ytcdllelbdcacjaa
open Go.RowKit

set_option maxRecDepth 100000 in
set_option maxHeartbeats 1000000 in
theorem awake12 (w : World) : Calls Try.prog 10 #[] w fun e w' => e = .returned (.bool true) ∧ Below w.heap.size w w' := by
  have hS0 := hid (stack_new 2 w (by omega) 78)
  obtain ⟨p, hp⟩ : ∃ p, p = w.heap.size := ⟨_, rfl⟩
  have HP := hid hp
  rw [← hp] at hS0
  clear hp
  have tok1 : True := trivial
  have tok2 : True := trivial
  go_enter Try.func10, Try.ntmps10
  go_wp2_with (first
    | (go_at_call 11; refine (roots_new 2 w (by omega) (by omega)).mono ?_; rw [← HP.out]; rintro e w' ⟨rfl, rfl⟩)
    | (go_at_call_of 12 (Value.int IntKind.u64 5); refine (roots_push _ p _ 2 [] 5 hS0.out (by simp)).mono ?_; rintro e w1 ⟨rfl, hc1, v1, _, hs1⟩; have hS1 := hid hs1; have hC1 := hid hc1; clear hs1 hc1)
    | (go_at_call_of 12 (Value.int IntKind.u64 0); refine (roots_push _ p _ 2 _ 0 hS1.out (by simp)).mono ?_; rintro e w2 ⟨rfl, hc2, v2, _, hs2⟩; have hS2 := hid hs2; have hC2 := hid hc2; clear hs2 hc2)
    | (go_at_call_of 12 (Value.int IntKind.u64 7); refine (roots_push_full _ p _ 2 _ 7 hS2.out (by simp)).mono ?_; rintro e w' ⟨rfl, k1, rfl⟩)
    | (go_at_call 17; refine (roots_at (w2.drewN k1) p v2 2 _ 0 (hS2.out.chg ((Chg.refl (fun _ => False) _).drewN k1) (by simp) (by simp)) (by simp)).mono ?_; rintro e w' ⟨rfl, rfl⟩)
    | (go_at_call 14; refine (roots_len (w2.drewN k1) p v2 2 _ (hS2.out.chg ((Chg.refl (fun _ => False) _).drewN k1) (by simp) (by simp))).mono ?_; rintro e w' ⟨rfl, rfl⟩)
    | (go_at_call 24; refine (roots_room (w2.drewN k1) p v2 2 _ (hS2.out.chg ((Chg.refl (fun _ => False) _).drewN k1) (by simp) (by simp))).mono ?_; rintro e w' ⟨rfl, k2, rfl⟩))
  go_ret
  have hp := HP.out
  have hb0 : Below w.heap.size w (w.alloc (.cells #[.int .i64 2, .slice none 0 0] 78)) := (Below.refl _ _).alloc (Nat.le_refl _) _
  have hb1 := hC1.out.below hb0 (fun k _ hk => by rcases hk with hk | hk; omega; simp [Value.ownBlock] at hk) (by simp)
  have hb2 := hC2.out.below hb1 (fun k _ hk => by rcases hk with hk | hk; omega; have := hS1.out.own.lt k hk; omega) (by have := hC1.out.size; simp at this; omega)
  exact ⟨rfl, by (repeat (first | exact hb2 | exact Below.refl _ _ | apply bel_drewN.2 | apply bel_drew.2 | refine Below.setCell ?_ (by first | omega | (simp; done) | (simp; omega)) _ | refine Below.alloc ?_ (by first | omega | (simp; done) | (simp; omega)) _ | refine bel_step (by assumption) (by first | omega | (simp; done) | (simp; omega)) ?_))⟩

set_option maxRecDepth 100000 in
set_option maxHeartbeats 1000000 in
theorem rootsNil (k i r : Int) (w : World) (_ : (Lit.int .i64 k).wf = true) (_ : (Lit.int .i64 i).wf = true) (_ : (Lit.int .u64 r).wf = true) :
    Calls Try.prog 5 #[.agg #[.int .i64 k, .int .i64 i, .int .u64 r]] w fun e w' => e = .returned (.bool true) ∧ Below w.heap.size w w' := by
  go_enter Try.func5, Try.ntmps5
  go_wp2_with (first
    | (go_at_call 10; refine (awake12 _).mono ?_; rintro e w' ⟨rfl, hb⟩; have hb_0 := fun o => (hb).cell (p := ⟨w.heap.size, o, none⟩) (by first | omega | (simp; done) | (simp; omega)); have hbf_0 := fun o => (hb).frozen (p := ⟨w.heap.size, o, none⟩) (by first | omega | (simp; done) | (simp; omega)); have hbl_0 : w.heap.size < w'.heap.size := (by have := (hb).size; (try simp at this); omega); have hbm_0 := Nat.le_of_lt hbl_0)
    | (go_at_call 17; refine (roots_at_nil _ i).mono ?_; rintro e w' ⟨rfl, rfl⟩)
    | (go_at_call 13; refine (roots_pop_nil _).mono ?_; rintro e w' ⟨rfl, rfl⟩)
    | (go_at_call 19; refine (roots_set_nil _ i r).mono ?_; rintro e w' ⟨rfl, rfl⟩)
    | (go_at_call 12; refine (roots_push_nil _ r).mono ?_; rintro e w' ⟨rfl, rfl⟩)
    | (go_at_call 14; refine (roots_len_nil _).mono ?_; rintro e w' ⟨rfl, rfl⟩)
    | (go_at_call 24; refine (roots_room_nil _).mono ?_; rintro e w' ⟨rfl, rfl⟩)
    | (go_at_call 22; refine (roots_list_nil _).mono ?_; rintro e w' ⟨rfl, rfl⟩))
  go_ret
  exact ⟨rfl, by (repeat (first | exact Below.refl _ _ | exact Below.refl _ _ | apply bel_drewN.2 | apply bel_drew.2 | refine Below.setCell ?_ (by first | omega | (simp; done) | (simp; omega)) _ | refine Below.alloc ?_ (by first | omega | (simp; done) | (simp; omega)) _ | refine bel_step (by assumption) (by first | omega | (simp; done) | (simp; omega)) ?_))⟩

set_option maxRecDepth 100000 in
set_option maxHeartbeats 2000000 in
theorem rootsBack (a0 : Option Addr) (len0 cap0 : Nat) (z0 : List Int) (w : World) (w0 : IsRow .u64 w a0 len0 cap0 z0) :
    Calls Try.prog 3 #[.slice a0 len0 cap0] w fun e w' => e = .returned (.bool true) ∧ Below w.heap.size w w' := by
  have HR := hid (row_cases w0)
  have hzl : len0 ≤ z0.length := by
    rcases w0 with ⟨_, h, _⟩ | ⟨_, _, h1, h2, h3, _⟩ <;> omega
  go_enter Try.func3, Try.ntmps3
  go_upto_region 6 with (first
    | (go_at_call 10; refine (awake12 _).mono ?_; rintro e wa ⟨rfl, hb⟩; have hz := (hb).size; (try simp at hz))
    | (go_at_call 11; refine (roots_new 64 _ (by omega) (by omega)).mono ?_; rintro e w' ⟨rfl, rfl⟩))
  go_cut [5] (fun s5 wx => s5 = .int .i64 0 ∧ StackAt wx wa.heap.size (.slice none 0 0) 64 [] ∧ Below w.heap.size w wx)
  case first =>
    go_wp2
    go_meet
    exact ⟨rfl, stack_new 64 wa (by omega) _, by (repeat (first | exact hb | exact Below.refl _ _ | apply bel_drewN.2 | apply bel_drew.2 | refine Below.setCell ?_ (by first | omega | (simp; done) | (simp; omega)) _ | refine Below.alloc ?_ (by first | omega | (simp; done) | (simp; omega)) _ | refine bel_step (by assumption) (by first | omega | (simp; done) | (simp; omega)) ?_))⟩
  case rest =>
  obtain ⟨rfl, hs0, hbx⟩ := hcut
  have hS0 := hid hs0
  obtain ⟨p, hp⟩ : ∃ p, p = wa.heap.size := ⟨_, rfl⟩
  have hpw : w.heap.size ≤ p := by omega
  rw [← hp] at hS0 ⊢
  clear hs0 hp hb hz
  go_upto_block 0 with fail
  go_cut [5, 6] (fun s5 s6 wx => ∃ (n : Nat) (v : Value), n ≤ len0 ∧ n ≤ 64 ∧ s5 = .int .i64 n ∧ StackAt wx p v 64 (z0.take n) ∧ Below w.heap.size w wx)
  case first =>
    go_wp2_with fail
    go_loopw [5, 6] (fun s5 s6 wr => ∃ (k : Nat) (v : Value), k ≤ len0 ∧ s6 = .int .i64 k ∧ s5 = .int .i64 (min k 64 : Nat) ∧ StackAt wr p v 64 (z0.take (min k 64)) ∧ Below w.heap.size w wr) (fun _ i _ => len0 - (intOf i).toNat)
    case atStart => exact ⟨0, _, by omega, rfl, rfl, by simpa using hS0.out, hbx⟩
    case round =>
      obtain ⟨k, v, hk, rfl, rfl, hs, hbw⟩ := hrel
      have hS := hid hs
      have hplt := hs.lt
      clear hs
      by_cases hlt : k < len0
      · rcases HR.out with h0 | ⟨b, off, rfl, hb0, hlen, hlm, hcell⟩
        · omega
        obtain ⟨hck, hwf⟩ := hcell k hlt
        have hck' : wr.cell? ⟨b, off + k, none⟩ = some (.int .u64 (z0.getD k 0)) := (hbw.cell (p := ⟨b, off + k, none⟩) hb0).trans hck
        clear hck hcell hwf
        have hzk : k < z0.length := by omega
        have htk : z0.take (k + 1) = z0.take k ++ [z0.getD k 0] := by
          rw [List.take_succ_eq_append_getElem hzk]
          simp [hzk]
        have HT := hid htk
        clear htk
        revert hck' HT
        generalize z0.getD k 0 = z
        intro hck' HT
        by_cases h64 : k < 64
        · have hm1 : min k 64 = k := by omega
          rw [hm1] at hS
          have hm2 := hid (show min (k + 1) 64 = k + 1 by omega)
          have hm3 := hid hm1
          have hd : (!decide ((k : Int) < 64)) = false := by simp; omega
          clear hm1
          go_wp2_with (go_at_call 12; refine (roots_push _ p v 64 _ z hS.out (by simp; omega)).mono ?_; rintro e w1 ⟨rfl, hc1, v1, _, hs1⟩; have hS1 := hid hs1; have hC1 := hid hc1; clear hs1 hc1)
          go_roundw
          case rel =>
            refine ⟨k + 1, v1, by omega, by go_num, ?_, ?_, ?_⟩
            · rw [hm2.out]; first | rfl | go_num
            · rw [hm2.out, HT.out]; exact hS1.out
            · exact hC1.out.below hbw (fun j _ hj => by rcases hj with hj | hj; omega; have := hS.out.own.lt j hj; omega) hbw.size
          case measure => simp [intOf]; omega
        · have hm1 : min k 64 = 64 := by omega
          rw [hm1] at hS
          have hm2 := hid (show min (k + 1) 64 = 64 by omega)
          have hm3 := hid hm1
          have h64' : (64 : Int) ≤ (k : Int) := by omega
          clear hm1
          go_wp2_with (go_at_call 12; refine (roots_push_full _ p v 64 _ z hS.out (by simp; omega)).mono ?_; rintro e w1 ⟨rfl, k1, rfl⟩)
          go_roundw
          case rel =>
            refine ⟨k + 1, v, by omega, by go_num, ?_, ?_, ?_⟩
            · rw [hm2.out]; first | rfl | (rw [if_pos (by omega)]; rfl)
            · rw [hm2.out]; exact hS.out.chg ((Chg.refl (fun _ => False) _).drewN k1) (by simp) (by simp)
            · (repeat (first | exact hbw | exact Below.refl _ _ | apply bel_drewN.2 | apply bel_drew.2 | refine Below.setCell ?_ (by first | omega | (simp; done) | (simp; omega)) _ | refine Below.alloc ?_ (by first | omega | (simp; done) | (simp; omega)) _ | refine bel_step (by assumption) (by first | omega | (simp; done) | (simp; omega)) ?_))
          case measure => simp [intOf]; omega
      · obtain rfl : k = len0 := by omega
        go_wp2_with fail
        go_meet
        exact ⟨min k 64, v, by omega, by omega, rfl, hS.out, hbw⟩
  case rest =>
  obtain ⟨n, v, hn, hn2, rfl, hs, hbx1⟩ := hcut
  have hS := hid hs
  have hnz : n ≤ z0.length := by omega
  clear hs hS0 hbx
  go_wp2_with fail
  go_loopw [7] (fun s7 wr => ∃ (m : Nat) (v : Value), m ≤ n ∧ s7 = .int .i64 ((m : Int) - 1) ∧ StackAt wr p v 64 (z0.take m) ∧ Below w.heap.size w wr) (fun i _ => (intOf i + 1).toNat)
  case atStart => exact ⟨n, v, by omega, rfl, hS.out, hbx1⟩
  case round =>
    obtain ⟨m, v, hm, rfl, hs, hbw⟩ := hrel
    have hS := hid hs
    have hplt := hs.lt
    clear hs
    by_cases hlt : 0 < m
    · obtain ⟨k, rfl⟩ : ∃ k, m = k + 1 := ⟨m - 1, by omega⟩
      rcases HR.out with h0 | ⟨b, off, rfl, hb0, hlen, hlm, hcell⟩
      · omega
      obtain ⟨hck, hwf⟩ := hcell k (by omega)
      have hzk : k < z0.length := by omega
      have htk : z0.take (k + 1) = z0.take k ++ [z0.getD k 0] := by
        rw [List.take_succ_eq_append_getElem hzk]
        simp [hzk]
      rw [htk] at hS
      have HCK := hid hck
      clear hck hcell hwf htk
      have e1 : (((k + 1 : Nat) : Int)) - 1 = (k : Int) := by omega
      rw [e1]
      clear e1
      revert hS HCK
      generalize z0.getD k 0 = z
      intro hS HCK
      have hk0 : (0 : Int) ≤ (k : Int) := by omega
      go_wp2_with fail
      refine (roots_pop _ p v 64 _ z hS.out).mono ?_
      rintro e w1 ⟨rfl, hc1, v1, _, hs1⟩
      have hS1 := hid hs1
      have hbw1 : Below w.heap.size w w1 := hc1.below hbw (fun j _ hj => by have e9 : j = p := hj; omega) hbw.size
      have hck1 : w1.cell? ⟨b, off + k, none⟩ = some (.int .u64 z) := (hbw1.cell (p := ⟨b, off + k, none⟩) hb0).trans HCK.out
      clear hs1 hc1
      go_wp2
      go_roundw
      case rel =>
        exact ⟨k, v1, by omega, rfl, hS1.out, hbw1⟩
      case measure => simp [intOf]
    · obtain rfl : m = 0 := by omega
      have hS0 : Hid (StackAt wr p v 64 []) := hS.out
      clear hS
      go_wp2_with (first
        | (go_at_call 13; refine (roots_pop_empty _ p v 64 hS0.out).mono ?_; rintro e w1 ⟨rfl, rfl⟩)
        | (go_at_call 14; refine (roots_len _ p v 64 _ hS0.out).mono ?_; rintro e w1 ⟨rfl, rfl⟩))
      go_ret
      exact ⟨rfl, hbw⟩
end Go.Proofs.Ytcdllelbdcacjaa
