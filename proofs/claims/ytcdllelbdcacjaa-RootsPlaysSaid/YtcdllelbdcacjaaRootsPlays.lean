/-
  The walk of RootsPlays (layer 12).
-/
import Derived.Test.YtcdllelbdcacjaaRootsTwo
import Derived.Test.YtcdllelbdcacjaaOpen
import Derived.Deep.RegionHeld3
set_option linter.unusedVariables false
set_option linter.unusedSimpArgs false
namespace Go.Proofs.Ytcdllelbdcacjaa
open Go.RowKit

set_option maxRecDepth 100000 in
set_option maxHeartbeats 4000000 in
theorem rootsPlays (a0 : Int) (a1 : Option Addr) (len1 cap1 : Nat) (z1 : Nat → Nat → Int) (w : World) (w0 : (Lit.int .i64 a0).wf = true) (w1 : IsTab [IntKind.i64, IntKind.i64, IntKind.u64] w a1 len1 z1) :
    Calls Try.prog 4 #[.int .i64 a0, .slice a1 len1 cap1] w fun e w' => e = .returned (.bool true) ∧ Below w.heap.size w w' := by
  have HT := hid w1
  clear w1
  by_cases hbad : a0 < 1 ∨ 64 < a0
  · have HB := hid hbad
    clear hbad
    go_enter Try.func4, Try.ntmps4
    go_wp2_with (first
      | (go_at_call 10; refine (awake12 _).mono ?_; rintro e wa ⟨rfl, hb⟩; have hz := (hb).size; (try simp at hz))
      | (go_at_call 11; refine (roots_new_bad a0 _ HB.out).mono ?_; rintro e w' ⟨rfl, rfl⟩)
      | (go_at_call 15; refine (rroots_new_bad a0 _ HB.out).mono ?_; rintro e w' ⟨rfl, rfl⟩))
    go_ret
    exact ⟨rfl, by (repeat (first | exact hb | exact Below.refl _ _ | apply bel_drewN.2 | apply bel_drew.2 | refine Below.setCell ?_ (by first | omega | (simp; done) | (simp; omega)) _ | refine Below.alloc ?_ (by first | omega | (simp; done) | (simp; omega)) _ | refine bel_step (by assumption) (by first | omega | (simp; done) | (simp; omega)) ?_))⟩
  obtain ⟨b, rfl⟩ := Int.eq_ofNat_of_zero_le (show 0 ≤ a0 by omega)
  have hb1 : 1 ≤ b := by omega
  have hb2 : b ≤ 64 := by omega
  clear hbad w0
  go_enter Try.func4, Try.ntmps4
  go_upto_region 9 with (first
    | (go_at_call 10; refine (awake12 _).mono ?_; rintro e wa ⟨rfl, hb⟩; have hz := (hb).size; (try simp at hz))
    | (go_at_call 11; refine (roots_new b _ hb1 hb2).mono ?_; rintro e w' ⟨rfl, rfl⟩)
    | (go_at_call 15; refine (rroots_new b _ hb1 hb2).mono ?_; rintro e w' ⟨rfl, rfl⟩))
  go_cut [5, 7, 9] (fun s5 s7 s9 wx => s9 = .int .i64 0 ∧ ∃ p q : Nat, s5 = .pointer (some ⟨p, 0, none⟩) ∧ s7 = .pointer (some ⟨q, 0, none⟩) ∧ w.heap.size ≤ p ∧ w.heap.size ≤ q ∧ Two wx p q (.slice none 0 0) (.slice none 0 0) b [] [] ∧ Below w.heap.size w wx)
  case first =>
    go_wp2
    go_meet
    refine ⟨rfl, wa.heap.size, wa.heap.size + 1, rfl, rfl, by omega, by omega, ?_, by (repeat (first | exact hb | exact Below.refl _ _ | apply bel_drewN.2 | apply bel_drew.2 | refine Below.setCell ?_ (by first | omega | (simp; done) | (simp; omega)) _ | refine Below.alloc ?_ (by first | omega | (simp; done) | (simp; omega)) _ | refine bel_step (by assumption) (by first | omega | (simp; done) | (simp; omega)) ?_))⟩
    have h1 := (stack_new b wa hb2 78)
    have h2 := (stack_new b (wa.alloc (.cells #[.int .i64 b, .slice none 0 0] 78)) hb2 51)
    simp only [World.size_alloc] at h2
    refine ⟨h1.chg ((Chg.refl (fun _ => False) _).alloc _) (by simp) (by simp), h2, by omega, by simp [Value.ownBlock], by simp [Value.ownBlock], by simp [Value.ownBlock]⟩
  case rest =>
  obtain ⟨rfl, p, q, rfl, rfl, hp, hq, htwo, hbx⟩ := hcut
  have H0 := hid htwo
  clear htwo
  go_wp2_with fail
  go_loopw [9] (fun i wr => ∃ (k : Nat) (v u : Value) (l : List Int), k ≤ len1 ∧ i = .int .i64 k ∧ Two wr p q v u b l l ∧ Below w.heap.size w wr) (fun i _ => len1 - (intOf i).toNat)
  case atStart => exact ⟨0, _, _, [], by omega, rfl, H0.out, hbx⟩
  case round =>
    obtain ⟨k, v, u, l, hk, rfl, htwo, hbw⟩ := hrel
    have H := hid htwo
    have hsz := hbw.size
    obtain ⟨hpl, hql, _, _⟩ := htwo.lt
    clear htwo
    by_cases hlt : k < len1
    · by_cases hlt2 : k < 300
      · rcases HT.out with h0 | ⟨ab, off, rfl, hab, hlen, hlm, hcell⟩
        · omega
        obtain ⟨hk0, hw0⟩ := hcell k hlt 0 .i64 rfl
        obtain ⟨hk1, hw1⟩ := hcell k hlt 1 .i64 rfl
        obtain ⟨hk2, hw2⟩ := hcell k hlt 2 .u64 rfl
        have hc0 : wr.cell? ⟨ab, off + k * 3, none⟩ = some (.int .i64 (z1 k 0)) := (hbw.cell (p := ⟨ab, off + k * 3, none⟩) hab).trans hk0
        have hc1 : wr.cell? ⟨ab, off + k * 3 + 1, none⟩ = some (.int .i64 (z1 k 1)) := (hbw.cell (p := ⟨ab, off + k * 3 + 1, none⟩) hab).trans hk1
        have hc2 : wr.cell? ⟨ab, off + k * 3 + 2, none⟩ = some (.int .u64 (z1 k 2)) := (hbw.cell (p := ⟨ab, off + k * 3 + 2, none⟩) hab).trans hk2
        clear hk0 hk1 hk2 hcell hw2 hw0
        have hi := bounds_i64 hw1
        clear hw1
        revert hc0 hc1 hc2 hi
        generalize z1 k 0 = kd
        generalize z1 k 1 = xi
        generalize z1 k 2 = xr
        intro hc0 hc1 hc2 hi
        have hlt' : (k : Int) < (len1 : Int) := by omega
        go_upto_region 13 with fail
        go_cut [63] (fun s63 wx => (∃ c : Int, 0 ≤ c ∧ c < 5 ∧ s63 = .int .i64 c) ∧ wr.alloc (.cells #[.int .i64 kd, .int .i64 xi, .int .u64 xr] 40) = wx)
        case first =>
          have t1 := tmod_bounds kd 5 (by omega)
          go_wp2
          go_meet
          exact ⟨⟨_, by omega, by omega, rfl⟩, rfl⟩
        case rest =>
        obtain ⟨⟨c, hc0', hc5, rfl⟩, rfl⟩ := hcut
        clear hc0 hc1 hc2
        have HA := hid (H.out.alloc (.cells #[.int .i64 kd, .int .i64 xi, .int .u64 xr] 40))
        have hbA : Below w.heap.size w (wr.alloc (.cells #[.int .i64 kd, .int .i64 xi, .int .u64 xr] 40)) := hbw.alloc hsz _
        go_upto_block 2 with fail
        go_cut [11, 12, 13, 14, 15, 16, 17, 18] (fun s11 s12 s13 s14 s15 s16 s17 s18 wx => ∃ (v' u' : Value) (l' : List Int), Two wx p q v' u' b l' l' ∧ Below w.heap.size w wx)
        case first =>
          by_cases e2 : c = 2
          · subst e2
            rcases nil_or_snoc l with rfl | ⟨l0, r, rfl⟩
            · go_wp2_with (first
                | (go_at_call 13; refine (roots_pop_empty _ p v b HA.out.a).mono ?_; rintro e w' ⟨rfl, rfl⟩)
                | (go_at_call 16; refine (rroots_pop_empty _ q u b HA.out.c).mono ?_; rintro e w' ⟨rfl, rfl⟩))
              go_meet
              exact ⟨v, u, [], HA.out, hbA⟩
            · go_wp2_with (first
                | (go_at_call 13; refine (roots_pop _ p v b l0 r HA.out.a).mono ?_; rintro e w1 ⟨rfl, hc1, v1, hv1, hs1⟩; have HB := hid (HA.out.left (hc1.mono (fun _ _ h => .inl h)) (.inl hv1) hs1); have hbB := HA.out.bel_left (hc1.mono (fun _ _ h => .inl h)) hbA (by simp; omega) hp; clear hc1 hs1 hv1)
                | (go_at_call 16; refine (rroots_pop _ q u b l0 r HB.out.c).mono ?_; rintro e w2 ⟨rfl, hc2, u1, hu1, hs2⟩; have HC := hid (HB.out.right (hc2.mono (fun _ _ h => .inl h)) (.inl hu1) hs2); have hbC := HB.out.bel_right (hc2.mono (fun _ _ h => .inl h)) hbB hbB.size hq; clear hc2 hs2 hu1))
              go_meet
              exact ⟨v1, u1, l0, HC.out, hbC⟩
          by_cases e3 : c = 3
          · subst e3
            clear e2
            by_cases hin : 0 ≤ xi ∧ xi < l.length
            · obtain ⟨i, rfl⟩ := Int.eq_ofNat_of_zero_le hin.1
              have hil : i < l.length := by omega
              clear hin
              go_wp2_with (first
                | (go_at_call 17; refine (roots_at _ p v b l i HA.out.a hil).mono ?_; rintro e w' ⟨rfl, rfl⟩)
                | (go_at_call 18; refine (rroots_at _ q u b l i HA.out.c hil).mono ?_; rintro e w' ⟨rfl, rfl⟩))
              go_meet
              exact ⟨v, u, l, HA.out, hbA⟩
            · have HX := hid (show xi < 0 ∨ (l.length : Int) ≤ xi by omega)
              clear hin
              go_wp2_with (first
                | (go_at_call 17; refine (roots_at_out _ p v b l xi HA.out.a HX.out).mono ?_; rintro e w' ⟨rfl, rfl⟩)
                | (go_at_call 18; refine (rroots_at_out _ q u b l xi HA.out.c HX.out).mono ?_; rintro e w' ⟨rfl, rfl⟩))
              go_meet
              exact ⟨v, u, l, HA.out, hbA⟩
          by_cases e4 : c = 4
          · subst e4
            clear e2 e3
            have HD := hid HA.out.drew
            by_cases hin : 0 ≤ xi ∧ xi < l.length
            · obtain ⟨i, rfl⟩ := Int.eq_ofNat_of_zero_le hin.1
              have hil : i < l.length := by omega
              clear hin
              go_wp2_with fail
              have hx1 : (wr.alloc (.cells #[.int .i64 kd, .int .i64 (i : Int), .int .u64 xr] 40)).cell? ⟨wr.heap.size, 1, none⟩ = some (.int .i64 (i : Int)) := by go_simp
              have hx2 : (wr.alloc (.cells #[.int .i64 kd, .int .i64 (i : Int), .int .u64 xr] 40)).cell? ⟨wr.heap.size, 2, none⟩ = some (.int .u64 xr) := by go_simp
              go_region_held3 (fun w' => w'.cell? ⟨wr.heap.size, 1, none⟩ = some (.int .i64 (i : Int)) ∧ w'.cell? ⟨wr.heap.size, 2, none⟩ = some (.int .u64 xr)) (first | exact ⟨hx1, hx2⟩ | exact ⟨hx3, hx4⟩ | exact ⟨hx5, hx6⟩)
                (first
      | (go_at_call 19; refine (roots_set _ p v b l i xr HD.out.a hil).mono ?_; rintro e w1 ⟨rfl, hs1, hc1⟩; have HB := hid (HD.out.left (hc1.mono (fun _ _ h => .inr h)) (.inl rfl) hs1); have hbB := HD.out.bel_left (hc1.mono (fun _ _ h => .inr h)) (bel_drew.2 hbA) (by simp; omega) hp; have hx3 := (hc1.cell (b := wr.heap.size) (o := 1) (by simp) (fun e => by have := (H.out.a.own.lt _ e).2; omega)).trans hx1; have hx4 := (hc1.cell (b := wr.heap.size) (o := 2) (by simp) (fun e => by have := (H.out.a.own.lt _ e).2; omega)).trans hx2; have hsB := hc1.size; clear hc1 hs1)
      | (go_at_call 20; refine (rroots_set _ q u b l i xr HB.out.c hil).mono ?_; rintro e w2 ⟨rfl, hs2, hc2⟩; have HC := hid (HB.out.right (hc2.mono (fun _ _ h => .inr h)) (.inl rfl) hs2); have hbC := HB.out.bel_right (hc2.mono (fun _ _ h => .inr h)) hbB hbB.size hq; have hx5 := (hc2.cell (b := wr.heap.size) (o := 1) (by simp at hsB; omega) (fun e => by have := (H.out.c.own.lt _ e).2; omega)).trans hx3; have hx6 := (hc2.cell (b := wr.heap.size) (o := 2) (by simp at hsB; omega) (fun e => by have := (H.out.c.own.lt _ e).2; omega)).trans hx4; clear hc2 hs2))
              go_wp2_with fail
              go_meet
              exact ⟨v, u, l.set i xr, HC.out, hbC⟩
            · have HX := hid (show xi < 0 ∨ (l.length : Int) ≤ xi by omega)
              clear hin
              go_wp2_with fail
              have hx1 : (wr.alloc (.cells #[.int .i64 kd, .int .i64 xi, .int .u64 xr] 40)).cell? ⟨wr.heap.size, 1, none⟩ = some (.int .i64 xi) := by go_simp
              have hx2 : (wr.alloc (.cells #[.int .i64 kd, .int .i64 xi, .int .u64 xr] 40)).cell? ⟨wr.heap.size, 2, none⟩ = some (.int .u64 xr) := by go_simp
              go_region_held3 (fun w' => w'.cell? ⟨wr.heap.size, 1, none⟩ = some (.int .i64 xi) ∧ w'.cell? ⟨wr.heap.size, 2, none⟩ = some (.int .u64 xr)) (first | exact ⟨hx1, hx2⟩ | exact ⟨hx3, hx4⟩ | exact ⟨hx5, hx6⟩)
                (first
                  | (go_at_call 19; refine (roots_set_out _ p v b l xi xr HD.out.a HX.out).mono ?_; rintro e w' ⟨rfl, rfl⟩)
                  | (go_at_call 20; refine (rroots_set_out _ q u b l xi xr HD.out.c HX.out).mono ?_; rintro e w' ⟨rfl, rfl⟩))
              go_wp2_with fail
              go_meet
              exact ⟨v, u, l, HD.out, bel_drew.2 hbA⟩
          have HD := hid HA.out.drew
          have f2 : (c == 2) = false := by simpa using e2
          have f3 : (c == 3) = false := by simpa using e3
          have f4 : (c == 4) = false := by simpa using e4
          clear e2 e3 e4
          have hlb' := H.out.a.len
          by_cases hlb : l.length < b
          · go_wp2_with fail
            have hx1 : (wr.alloc (.cells #[.int .i64 kd, .int .i64 xi, .int .u64 xr] 40)).cell? ⟨wr.heap.size, 1, none⟩ = some (.int .i64 xi) := by go_simp
            have hx2 : (wr.alloc (.cells #[.int .i64 kd, .int .i64 xi, .int .u64 xr] 40)).cell? ⟨wr.heap.size, 2, none⟩ = some (.int .u64 xr) := by go_simp
            go_region_held3 (fun w' => w'.cell? ⟨wr.heap.size, 1, none⟩ = some (.int .i64 xi) ∧ w'.cell? ⟨wr.heap.size, 2, none⟩ = some (.int .u64 xr)) (first | exact ⟨hx1, hx2⟩ | exact ⟨hx3, hx4⟩ | exact ⟨hx5, hx6⟩)
              (first
                | (go_at_call 12; refine (roots_push _ p v b l xr HD.out.a hlb).mono ?_; rintro e w1 ⟨rfl, hc1, v1, hv1, hs1⟩; have HB := hid (HD.out.left hc1 hv1 hs1); have hbB := HD.out.bel_left hc1 (bel_drew.2 hbA) (by simp; omega) hp; have hx3 := (hc1.cell (b := wr.heap.size) (o := 1) (by simp) (fun e => by rcases e with e | e; omega; have := (H.out.a.own.lt _ e).2; omega)).trans hx1; have hx4 := (hc1.cell (b := wr.heap.size) (o := 2) (by simp) (fun e => by rcases e with e | e; omega; have := (H.out.a.own.lt _ e).2; omega)).trans hx2; have hsB := hc1.size; clear hc1 hs1 hv1)
                | (go_at_call 21; refine (rroots_push _ q u b l xr HB.out.c hlb).mono ?_; rintro e w2 ⟨rfl, hc2, u1, hu1, hs2⟩; have HC := hid (HB.out.right hc2 hu1 hs2); have hbC := HB.out.bel_right hc2 hbB hbB.size hq; have hx5 := (hc2.cell (b := wr.heap.size) (o := 1) (by simp at hsB; omega) (fun e => by rcases e with e | e; omega; have := (H.out.c.own.lt _ e).2; omega)).trans hx3; have hx6 := (hc2.cell (b := wr.heap.size) (o := 2) (by simp at hsB; omega) (fun e => by rcases e with e | e; omega; have := (H.out.c.own.lt _ e).2; omega)).trans hx4; clear hc2 hs2 hu1))
            go_wp2_with fail
            go_meet
            exact ⟨v1, u1, l ++ [xr], HC.out, hbC⟩
          · go_wp2_with fail
            have hx1 : (wr.alloc (.cells #[.int .i64 kd, .int .i64 xi, .int .u64 xr] 40)).cell? ⟨wr.heap.size, 1, none⟩ = some (.int .i64 xi) := by go_simp
            have hx2 : (wr.alloc (.cells #[.int .i64 kd, .int .i64 xi, .int .u64 xr] 40)).cell? ⟨wr.heap.size, 2, none⟩ = some (.int .u64 xr) := by go_simp
            go_region_held3 (fun w' => w'.cell? ⟨wr.heap.size, 1, none⟩ = some (.int .i64 xi) ∧ w'.cell? ⟨wr.heap.size, 2, none⟩ = some (.int .u64 xr)) (first | exact ⟨hx1, hx2⟩ | exact ⟨hx3, hx4⟩ | exact ⟨hx5, hx6⟩)
              (first
                | (go_at_call 12; refine (roots_push_full _ p v b l xr HD.out.a (by omega)).mono ?_; rintro e w' ⟨rfl, k1, rfl⟩)
                | (go_at_call 21; refine (rroots_push_full _ q u b l xr (HA.out.drewN (1 + k1)).c (by omega)).mono ?_; rintro e w' ⟨rfl, k2, rfl⟩))
            go_wp2_with fail
            go_meet
            exact ⟨v, u, l, HA.out.drewN (1 + k1 + k2), by (repeat (first | exact hbA | exact Below.refl _ _ | apply bel_drewN.2 | apply bel_drew.2 | refine Below.setCell ?_ (by first | omega | (simp; done) | (simp; omega)) _ | refine Below.alloc ?_ (by first | omega | (simp; done) | (simp; omega)) _ | refine bel_step (by assumption) (by first | omega | (simp; done) | (simp; omega)) ?_))⟩
        case rest =>
        obtain ⟨v', u', l', htwo', hbx'⟩ := hcut
        have H' := hid htwo'
        have hsz' := hbx'.size
        clear htwo'
        go_upto_region 30 with (go_at_call 22; refine (roots_list _ p v' b l' H'.out.a).mono ?_; rintro e w3 ⟨hb3, t, rfl, hown⟩; have HO := hid hown; have H3 := hid (H'.out.below hb3); have hbx3 : Below w.heap.size w w3 := bel_step hb3 (by omega) hbx'; clear hown)
        obtain ⟨A', c', hu'⟩ := H3.out.c.shape
        subst hu'
        obtain ⟨A3, c3, ht⟩ : ∃ (A3 : Option Addr) (c3 : Nat), t = .slice A3 l'.length c3 := by
          rcases HO.out.2 with ⟨hv, hn⟩ | ⟨g, cap, cur, hv, _⟩
          · exact ⟨none, 0, by rw [hv, hn]⟩
          · exact ⟨_, cap, hv⟩
        subst ht
        have hq1 := H3.out.c.val
        have hll := H3.out.a.len
        have e9 : IntKind.i64.wrap ((b : Int) - (l'.length : Int)) = (b : Int) - (l'.length : Int) := IntWalk.i64_in _ (by omega)
        go_quiet ((first
          | (go_at_call 23; exact Calls.quiet_of (same_true _ _ _ l' (intsIn_of (owns_drewN HO.out _)) (intsIn_of (owns_drewN H3.out.c.own _)) (by omega)))
          | (go_at_call 14; exact quiet_left (roots_len _ p v' b l' (H3.out.drewN _).a))
          | (go_at_call 24; exact Calls.quiet_of (roots_room _ p v' b l' (H3.out.drewN _).a))))
        obtain ⟨n1, n2, n3, n4⟩ := H'.out.lt
        have N3 := hid n3
        have N4 := hid n4
        clear n3 n4 hq1 e9
        go_wp2_with fail
        go_loopw [20] (fun i wq => ∃ (j : Nat) (xs : List Value), j ≤ l'.length ∧ i = .int .i64 j ∧ Two wq p q v' (.slice A' l'.length c') b l' l' ∧ Below w.heap.size w wq ∧ wq.ownsRow wc.heap.size 30 1 (.slice A3 l'.length c3) l'.length xs) (fun i _ => l'.length - (intOf i).toNat)
        case atStart => exact ⟨0, _, by omega, rfl, H3.out.drewN _, bel_drewN.2 hbx3, owns_drewN HO.out _⟩
        case round =>
          obtain ⟨j, xs, hj, rfl, htq, hbq, hoq⟩ := hrel
          have HQ := hid htq
          have HX := hid hoq
          clear htq hoq
          by_cases hjl : j < l'.length
          · obtain ⟨g, cap, hv, hg1, hg2⟩ := HX.out.form (by omega)
            simp only [Value.slice.injEq, true_and] at hv
            obtain ⟨rfl, rfl⟩ := hv
            have hlx := HX.out.1
            have hcj := HX.out.cellAt j (by omega)
            have hfj := HX.out.frozenAt j
            rw [List.getElem?_eq_getElem (by omega)] at hcj
            go_wp2_with fail
            go_roundw
            case rel =>
              have hcg : Chg (fun k => wc.heap.size ≤ k) wr (wr.setCell ⟨g, j, none⟩ (.int .u64 99)) := (Chg.refl (fun k => wc.heap.size ≤ k) wr).setCell (.inl hg1) _
              refine ⟨j + 1, _, by omega, by go_num, HQ.out.chg hcg (by omega) (by omega) (fun g' hg' => by have := N3.out g' hg'; omega) (fun g' hg' => by have := N4.out g' hg'; omega), ?_, (HX.out.stored j (.int .u64 99)).1⟩
              (repeat (first | exact hbq | exact Below.refl _ _ | apply bel_drewN.2 | apply bel_drew.2 | refine Below.setCell ?_ (by first | omega | (simp; done) | (simp; omega)) _ | refine Below.alloc ?_ (by first | omega | (simp; done) | (simp; omega)) _ | refine bel_step (by assumption) (by first | omega | (simp; done) | (simp; omega)) ?_))
            case measure => simp [intOf]; omega
          · obtain rfl : j = l'.length := by omega
            go_wp2_with fail
            go_roundw
            case rel => exact ⟨k + 1, v', _, l', by omega, by go_num, HQ.out, hbq⟩
            case measure => simp [intOf]; omega
      · have hge : 300 ≤ k := by omega
        have hd : decide ((k : Int) < 300) = false := by simp; omega
        have hsh := H.out.c.val
        go_wp2_with fail
        go_region_held3 (fun w' => w'.cell? ⟨q, 1, none⟩ = some u) (first | exact hsh | exact hsh2)
          (first
            | (go_at_call 22; refine (roots_list _ p v b l H.out.drew.a).mono ?_; rintro e w3 ⟨hb3, t, rfl, hown⟩; have HO := hid hown; have H3 := hid (H.out.drew.below hb3); have hsh2 := H3.out.c.val; clear hown)
            | (go_at_call 23; refine (same_true _ _ _ l (intsIn_of HO.out) (intsIn_of H3.out.c.own) (by have := H.out.a.len; omega)).mono ?_; rintro e w' ⟨rfl, k9, rfl⟩))
        go_wp2
        go_ret
        exact ⟨rfl, by (repeat (first | exact bel_step hb3 (by simp; omega) (bel_drew.2 hbw) | exact Below.refl _ _ | apply bel_drewN.2 | apply bel_drew.2 | refine Below.setCell ?_ (by first | omega | (simp; done) | (simp; omega)) _ | refine Below.alloc ?_ (by first | omega | (simp; done) | (simp; omega)) _ | refine bel_step (by assumption) (by first | omega | (simp; done) | (simp; omega)) ?_))⟩
    · obtain rfl : k = len1 := by omega
      have hsh := H.out.c.val
      go_wp2_with fail
      go_region_held3 (fun w' => w'.cell? ⟨q, 1, none⟩ = some u) (first | exact hsh | exact hsh2)
        (first
          | (go_at_call 22; refine (roots_list _ p v b l H.out.drew.a).mono ?_; rintro e w3 ⟨hb3, t, rfl, hown⟩; have HO := hid hown; have H3 := hid (H.out.drew.below hb3); have hsh2 := H3.out.c.val; clear hown)
          | (go_at_call 23; refine (same_true _ _ _ l (intsIn_of HO.out) (intsIn_of H3.out.c.own) (by have := H.out.a.len; omega)).mono ?_; rintro e w' ⟨rfl, k9, rfl⟩))
      go_wp2
      go_ret
      exact ⟨rfl, by (repeat (first | exact bel_step hb3 (by simp; omega) (bel_drew.2 hbw) | exact Below.refl _ _ | apply bel_drewN.2 | apply bel_drew.2 | refine Below.setCell ?_ (by first | omega | (simp; done) | (simp; omega)) _ | refine Below.alloc ?_ (by first | omega | (simp; done) | (simp; omega)) _ | refine bel_step (by assumption) (by first | omega | (simp; done) | (simp; omega)) ?_))⟩
end Go.Proofs.Ytcdllelbdcacjaa
