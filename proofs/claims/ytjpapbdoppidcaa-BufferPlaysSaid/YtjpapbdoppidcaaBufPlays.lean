/-
  The walk of BufferPlays (layer 8).
-/
import Derived.Test.YtjpapbdoppidcaaBufRef
import Derived.Test.YtjpapbdoppidcaaUtil2
set_option linter.unusedVariables false
set_option linter.unusedSimpArgs false
namespace Go.Proofs.Ytjpapbdoppidcaa.bufferPlays
open Go.RowKit

set_option maxRecDepth 100000 in
set_option maxHeartbeats 2000000 in
theorem walk (a0 : Int) (a1 : Int) (a2 : Option Addr) (len2 cap2 : Nat) (z2 : List Int) (w : World) (w0 : (Lit.int .i64 a0).wf = true) (w1 : (Lit.int .i64 a1).wf = true) (w2 : IsRow .i64 w a2 len2 cap2 z2) :
    Calls Try.prog 6 #[.int .i64 a0, .int .i64 a1, .slice a2 len2 cap2] w fun e w' => e = .returned (.bool true) ∧ Below w.heap.size w w' := by
  have HR := hid (row_cases w2)
  obtain ⟨u, v, e0, hu, huv, hv, hn, hrn⟩ := both_new a0 a1
  have HN := hid hn
  have HRN := hid hrn
  clear hn hrn
  go_enter Try.func6, Try.ntmps6
  go_upto_region 7 with (first
    | (go_at_call 10; refine (awake_any _).mono ?_; rintro e wa ⟨rfl, hb⟩; have hz := (hb).size; (try simp at hz))
    | (go_at_call 11; refine (HN.out _).mono ?_; rintro e w' ⟨rfl, rfl⟩)
    | (go_at_call 19; refine (HRN.out _).mono ?_; rintro e w' ⟨rfl, rfl⟩))
  go_cut [7, 9, 11] (fun s7 s9 s11 wx => s11 = .int .i64 0 ∧ ∃ B M : Nat, s7 = .pointer (some ⟨B, 0, none⟩) ∧ s9 = .pointer (some ⟨M, 0, none⟩) ∧ w.heap.size ≤ B ∧ B < M ∧ M < wx.heap.size ∧ Below w.heap.size w wx ∧
      wx.cell? ⟨B, 0, none⟩ = some (.int .i64 u) ∧ wx.cell? ⟨B, 1, none⟩ = some (.int .i64 v) ∧ wx.frozen? ⟨B, 0, none⟩ = false ∧ wx.frozen? ⟨B, 1, none⟩ = false ∧
      wx.cell? ⟨M, 0, none⟩ = some (.int .i64 u) ∧ wx.cell? ⟨M, 1, none⟩ = some (.int .i64 v) ∧ wx.frozen? ⟨M, 0, none⟩ = false ∧ wx.frozen? ⟨M, 1, none⟩ = false)
  case first =>
    go_wp2
    go_meet
    refine ⟨rfl, _, _, rfl, rfl, by omega, by first | omega | (simp; done) | (simp; omega), by first | omega | (simp; done) | (simp; omega), ?_, by go_simp, by go_simp, by go_simp, by go_simp, by go_simp, by go_simp, by go_simp, by go_simp⟩
    (repeat (first | exact hb | exact Below.refl _ _ | apply bel_drewN.2 | apply bel_drew.2 | refine Below.setCell ?_ (by first | omega | (simp; done) | (simp; omega)) _ | refine Below.alloc ?_ (by first | omega | (simp; done) | (simp; omega)) _ | refine bel_step (by assumption) (by first | omega | (simp; done) | (simp; omega)) ?_))
  case rest =>
  obtain ⟨rfl, B, M, rfl, rfl, hB, hBM, hM, hbw0, c1, c2, c3, c4, c5, c6, c7, c8⟩ := hcut
  go_wp2_with (fail)
  go_loopw [11] (fun i wr => ∃ (k : Nat) (x y : Int), k ≤ len2 ∧ i = .int .i64 k ∧ 0 ≤ x ∧ x ≤ y ∧ y ≤ 4194304 ∧ M < wr.heap.size ∧ Below w.heap.size w wr ∧
      wr.cell? ⟨B, 0, none⟩ = some (.int .i64 x) ∧ wr.cell? ⟨B, 1, none⟩ = some (.int .i64 y) ∧ wr.frozen? ⟨B, 0, none⟩ = false ∧ wr.frozen? ⟨B, 1, none⟩ = false ∧
      wr.cell? ⟨M, 0, none⟩ = some (.int .i64 x) ∧ wr.cell? ⟨M, 1, none⟩ = some (.int .i64 y) ∧ wr.frozen? ⟨M, 0, none⟩ = false ∧ wr.frozen? ⟨M, 1, none⟩ = false)
    (fun i _ => len2 - (intOf i).toNat)
  case atStart => exact ⟨0, u, v, by omega, rfl, hu, huv, hv, hM, hbw0, c1, c2, c3, c4, c5, c6, c7, c8⟩
  case round =>
    obtain ⟨k, x, y, hk, rfl, hx, hxy, hy, hMr, hbw, d1, d2, d3, d4, d5, d6, d7, d8⟩ := hrel
    clear c1 c2 c3 c4 c5 c6 c7 c8
    have hne : B ≠ M := by omega
    have hne' : M ≠ B := by omega
    by_cases hlt : k < len2 ∧ k < 200
    · obtain ⟨hlt, hlt2⟩ := hlt
      rcases HR.out with h0 | ⟨b, off, rfl, hbw0, hlen, hlm, hcell⟩
      · omega
      obtain ⟨hck, hwf⟩ := hcell k hlt
      have hck' : wr.cell? ⟨b, off + k, none⟩ = some (.int .i64 (z2.getD k 0)) := (hbw.cell (p := ⟨b, off + k, none⟩) hbw0).trans hck
      clear hck hcell
      have hz0 := bounds_i64 hwf
      have hbB : B ≠ b := by omega
      have hbM : M ≠ b := by omega
      revert hck' hz0
      clear hwf
      generalize z2.getD k 0 = z
      intro hck' hz0
      by_cases hn0 : z = 0
      · subst hn0
        go_wp2_with (first
          | (go_at_call 20; refine (drop_any B 0 x y _ (by go_simp) (by go_simp) (by go_simp) (by go_simp)).mono ?_; rintro e w' ⟨rfl, k1, rfl⟩)
          | (go_at_call 21; refine (rdrop_any M 0 x y _ (by go_simp) (by go_simp) (by go_simp) (by go_simp)).mono ?_; rintro e w' ⟨rfl, rfl⟩))
        go_roundw
        case rel =>
          refine ⟨k + 1, 0, 0, by omega, by go_num, by omega, by omega, by omega, by simpa using hMr, ?_, by go_simp, by go_simp, by go_simp, by go_simp, by go_simp, by go_simp, by go_simp, by go_simp⟩
          (repeat (first | exact hbw | exact Below.refl _ _ | apply bel_drewN.2 | apply bel_drew.2 | refine Below.setCell ?_ (by first | omega | (simp; done) | (simp; omega)) _ | refine Below.alloc ?_ (by first | omega | (simp; done) | (simp; omega)) _ | refine bel_step (by assumption) (by first | omega | (simp; done) | (simp; omega)) ?_))
        case measure => simp [intOf]; omega
      · have hnb := eqb_false hn0
        clear hn0
        by_cases hn1 : z < 1
        · go_wp2_with (first
          | (go_at_call 13; refine (take_range B 0 z _ hn1).mono ?_; rintro e w' ⟨rfl, rfl⟩)
          | (go_at_call 22; refine (rtake_range M 0 z _ hn1).mono ?_; rintro e w' ⟨rfl, rfl⟩)
          | (go_at_call 23; refine (rest_any B 0 x y _ (by go_simp) (by go_simp)).mono ?_; rintro e w' ⟨rfl, k3, rfl⟩))
          go_quiet ((go_at_call 12; refine quiet_add (left_any B 0 x y _ ?_ ?_ (by omega) (by omega) (by omega)) <;> go_simp))
          go_wp2
          go_roundw
          case rel =>
            refine ⟨k + 1, x, y, by omega, by go_num, by omega, by omega, by omega, by simpa using hMr, ?_, by go_simp, by go_simp, by go_simp, by go_simp, by go_simp, by go_simp, by go_simp, by go_simp⟩
            (repeat (first | exact hbw | exact Below.refl _ _ | apply bel_drewN.2 | apply bel_drew.2 | refine Below.setCell ?_ (by first | omega | (simp; done) | (simp; omega)) _ | refine Below.alloc ?_ (by first | omega | (simp; done) | (simp; omega)) _ | refine bel_step (by assumption) (by first | omega | (simp; done) | (simp; omega)) ?_))
          case measure => simp [intOf]; omega
        · by_cases hn2 : z ≤ y - x
          · go_wp2_with (first
            | (go_at_call 13; refine (take_ok B 0 x y z _ (by go_simp) (by go_simp) (by go_simp) hx hxy hy (by omega) hn2).mono ?_; rintro e w' ⟨rfl, k1, rfl⟩)
            | (go_at_call 22; refine (rtake_ok M 0 x y z _ (by go_simp) (by go_simp) (by go_simp) hx hxy hy (by omega) hn2).mono ?_; rintro e w' ⟨rfl, k2, rfl⟩)
            | (go_at_call 23; refine (rest_any B 0 (x + z) y _ (by go_simp) (by go_simp)).mono ?_; rintro e w' ⟨rfl, k3, rfl⟩))
            go_quiet ((go_at_call 12; refine quiet_add (left_any B 0 (x + z) y _ ?_ ?_ (by omega) (by omega) (by omega)) <;> go_simp))
            go_wp2
            go_roundw
            case rel =>
              refine ⟨k + 1, x + z, y, by omega, by go_num, by omega, by omega, by omega, by simpa using hMr, ?_, by go_simp, by go_simp, by go_simp, by go_simp, by go_simp, by go_simp, by go_simp, by go_simp⟩
              (repeat (first | exact hbw | exact Below.refl _ _ | apply bel_drewN.2 | apply bel_drew.2 | refine Below.setCell ?_ (by first | omega | (simp; done) | (simp; omega)) _ | refine Below.alloc ?_ (by first | omega | (simp; done) | (simp; omega)) _ | refine bel_step (by assumption) (by first | omega | (simp; done) | (simp; omega)) ?_))
            case measure => simp [intOf]; omega
          · go_wp2_with (first
            | (go_at_call 13; refine (take_full B 0 x y z _ (by go_simp) (by go_simp) hx hxy hy (by omega) (by omega)).mono ?_; rintro e w' ⟨rfl, k1, rfl⟩)
            | (go_at_call 22; refine (rtake_full M 0 x y z _ (by go_simp) (by go_simp) hx hxy hy (by omega) (by omega)).mono ?_; rintro e w' ⟨rfl, k2, rfl⟩)
            | (go_at_call 23; refine (rest_any B 0 x y _ (by go_simp) (by go_simp)).mono ?_; rintro e w' ⟨rfl, k3, rfl⟩))
            go_quiet ((go_at_call 12; refine quiet_add (left_any B 0 x y _ ?_ ?_ (by omega) (by omega) (by omega)) <;> go_simp))
            go_wp2
            go_roundw
            case rel =>
              refine ⟨k + 1, x, y, by omega, by go_num, by omega, by omega, by omega, by simpa using hMr, ?_, by go_simp, by go_simp, by go_simp, by go_simp, by go_simp, by go_simp, by go_simp, by go_simp⟩
              (repeat (first | exact hbw | exact Below.refl _ _ | apply bel_drewN.2 | apply bel_drew.2 | refine Below.setCell ?_ (by first | omega | (simp; done) | (simp; omega)) _ | refine Below.alloc ?_ (by first | omega | (simp; done) | (simp; omega)) _ | refine bel_step (by assumption) (by first | omega | (simp; done) | (simp; omega)) ?_))
            case measure => simp [intOf]; omega
    · by_cases hlt1 : k < len2
      · have hge : 200 ≤ k := by omega
        clear hlt
        go_wp2_with (go_at_call 13; refine (take_range B 0 0 _ (by omega)).mono ?_; rintro e w' ⟨rfl, rfl⟩)
        go_ret
        exact ⟨rfl, hbw⟩
      · clear hlt
        go_wp2_with (go_at_call 13; refine (take_range B 0 0 _ (by omega)).mono ?_; rintro e w' ⟨rfl, rfl⟩)
        go_ret
        exact ⟨rfl, hbw⟩
end Go.Proofs.Ytjpapbdoppidcaa.bufferPlays
