/-
  The walk of BufferApart.
-/
import Derived.Test.YtjpapbdoppidcaaBuf
namespace Go.Proofs.Ytjpapbdoppidcaa.bufferApart
open Go.RowKit

set_option linter.unusedVariables false
set_option maxRecDepth 100000 in
set_option maxHeartbeats 1000000 in
theorem walk (a0 : Int) (a1 : Int) (a2 : Option Addr) (len2 cap2 : Nat) (z2 : List Int) (w : World) (w0 : (Lit.int .i64 a0).wf = true) (w1 : (Lit.int .i64 a1).wf = true) (w2 : IsRow .u8 w a2 len2 cap2 z2) :
    Calls Try.prog 3 #[.int .i64 a0, .int .i64 a1, .slice a2 len2 cap2] w fun e w' => e = .returned (.bool true) ∧ Below w.heap.size w w' := by
  have HR : Hid _ := row_cases w2
  have t0 := tmod_bounds a0 1000 (by omega)
  have t1 := tmod_bounds a1 300 (by omega)
  go_enter Try.func3, Try.ntmps3
  go_upto_region 3 with (first
    | (go_at_call 10; refine (awake_any _).mono ?_; rintro e wa ⟨rfl, hb⟩; have hc := bel_cells hb; have hz := hb.size; obtain ⟨hc1, hc2⟩ := hc))
  go_cut [0] (fun s0 wx => ∃ f : Int, 0 ≤ f ∧ f < 1000 ∧ s0 = .int .i64 f ∧ wa = wx)
  case first =>
    go_wp2
    go_meet
    exact ⟨_, by omega, by omega, rfl, rfl⟩
  case rest =>
    obtain ⟨f, hf0, hf1, rfl, rfl⟩ := hcut
    go_upto_region 4 with fail
    go_cut [1] (fun s0 wx => ∃ g : Int, 0 ≤ g ∧ g < 300 ∧ s0 = .int .i64 g ∧ wa = wx)
    case first =>
      go_wp2
      go_meet
      exact ⟨_, by omega, by omega, rfl, rfl⟩
    case rest =>
      obtain ⟨g, hg0, hg1, rfl, rfl⟩ := hcut
      go_upto_region 8 with (first
        | (go_at_call 11; refine (new_any _ _ _ (by omega) (by omega) (by omega)).mono ?_; rintro e w' ⟨x0, y0, rfl, hx0, hxy0, hy0, hd0, ha0, rfl⟩; have HE0 : Hid (y0 - x0 = f + g - f ∧ (x0 = f ∨ x0 = y0)) := ⟨hd0, ha0⟩; have hd1 : y0 - x0 ≤ g := (by omega); have hd2 : g ≤ y0 - x0 := (by omega); clear hd0 ha0)
        | (go_at_call 12; refine (left_any _ 0 x0 y0 _ (by go_simp) (by go_simp) hx0 hxy0 hy0).mono ?_; rintro e w' ⟨rfl, n0, rfl⟩))
      go_cut [9] (fun s9 wx => s9 = .int .i64 f ∧ ∃ x y : Int, 0 ≤ x ∧ x ≤ y ∧ y ≤ 4194304 ∧ y - x = f + g - f ∧ (f = x ∨ x = y) ∧
          wx.cell? ⟨wa.heap.size + 1, 0, none⟩ = some (.int .i64 x) ∧ wx.cell? ⟨wa.heap.size + 1, 1, none⟩ = some (.int .i64 y) ∧ wx.frozen? ⟨wa.heap.size + 1, 0, none⟩ = false ∧ wa.heap.size + 2 ≤ wx.heap.size ∧ Below w.heap.size w wx)
      case first =>
        go_wp2
        go_meet
        obtain ⟨hd0, ha0⟩ := HE0.out
        refine ⟨rfl, x0, y0, hx0, hxy0, hy0, hd0, by omega, by go_simp, by go_simp, by go_simp, by simp, ?_⟩
        (repeat (first | exact hb | exact Below.refl _ _ | apply bel_drewN.2 | apply bel_drew.2 | refine Below.setCell ?_ (by first | omega | (simp; done) | (simp; omega)) _ | refine Below.alloc ?_ (by first | omega | (simp; done) | (simp; omega)) _))
      case rest =>
      obtain ⟨rfl, x0, y0, hx0, hxy0, hy0, hd0, ha0, hcx0, hcy0, hfz0, hsz0, hbw0⟩ := hcut
      have HE0 : Hid (y0 - x0 = f + g - f ∧ (f = x0 ∨ x0 = y0)) := ⟨hd0, ha0⟩
      clear hd0 ha0
      go_wp2_with (fail)
      go_loopw [9, 10] (fun at' i wr => ∃ (k : Nat) (a x y : Int), k ≤ len2 ∧ i = .int .i64 k ∧ at' = .int .i64 a ∧ 0 ≤ x ∧ x ≤ y ∧ y ≤ 4194304 ∧ y - x = f + g - a ∧ (a = x ∨ x = y) ∧ f ≤ a ∧
          wr.cell? ⟨wa.heap.size + 1, 0, none⟩ = some (.int .i64 x) ∧ wr.cell? ⟨wa.heap.size + 1, 1, none⟩ = some (.int .i64 y) ∧ wr.frozen? ⟨wa.heap.size + 1, 0, none⟩ = false ∧ wa.heap.size + 2 ≤ wr.heap.size ∧ Below w.heap.size w wr)
        (fun _ i _ => len2 - (intOf i).toNat)
      case atStart =>
        obtain ⟨hd0, ha0⟩ := HE0.out
        exact ⟨0, f, x0, y0, by omega, rfl, rfl, hx0, hxy0, hy0, by omega, by omega, by omega, hcx0, hcy0, hfz0, hsz0, hbw0⟩
      case round =>
        obtain ⟨k, a, x, y, hk, rfl, rfl, hx, hxy, hy, hd, ha, hfa, hcx, hcy, hfz, hsz, hbw⟩ := hrel
        have hlt1 : wa.heap.size + 1 < wr.heap.size := by omega
        have hne : wa.heap.size + 1 ≠ wr.heap.size := by omega
        have hne' : wr.heap.size ≠ wa.heap.size + 1 := by omega
        by_cases hlt : k < len2
        · rcases HR.out with h0 | ⟨b, off, rfl, hbw0, hlen, hlm, hcell⟩
          · omega
          obtain ⟨hck, hwf⟩ := hcell k hlt
          have hck' : wr.cell? ⟨b, off + k, none⟩ = some (.int .u8 (z2.getD k 0)) := (hbw.cell (p := ⟨b, off + k, none⟩) hbw0).trans hck
          clear hck hcell
          have hz0 := bounds_u8 hwf
          revert hck' hz0
          clear hwf
          generalize z2.getD k 0 = z
          intro hck' hz0
          by_cases hn : z % 20 + 1 ≤ y - x
          · obtain rfl : a = x := by omega
            have HE : Hid (y - a = f + g - a) := hd
            clear hd ha
            go_wp2_with (first
              | (go_at_call_of 13 (wa.heap.size); refine (take_ok _ 0 a y (z % 20 + 1) _ (by go_simp) (by go_simp) (by go_simp) (by omega) (by omega) (by omega) (by omega) (by omega)).mono ?_; rintro e w' ⟨rfl, n1, rfl⟩)
              | (go_at_call_of 13 (wr.heap.size); refine (take_ok _ 0 a y (z % 20 + 1) _ (by go_simp) (by go_simp) (by go_simp) (by omega) (by omega) (by omega) (by omega) (by omega)).mono ?_; rintro e w' ⟨rfl, n2, rfl⟩))
            go_roundw
            case rel =>
              have hd := HE.out
              refine ⟨k + 1, a + (z % 20 + 1), a + (z % 20 + 1), y, by omega, by go_num, rfl, by omega, by omega, by omega, by omega, .inl rfl, by omega, ?_, ?_, ?_, ?_, ?_⟩
              · go_simp
              · go_simp
              · go_simp
              · simp; omega
              · (repeat (first | exact hbw | exact Below.refl _ _ | apply bel_drewN.2 | apply bel_drew.2 | refine Below.setCell ?_ (by first | omega | (simp; done) | (simp; omega)) _ | refine Below.alloc ?_ (by first | omega | (simp; done) | (simp; omega)) _))
            case measure => simp [intOf]; omega
          · have HE : Hid (y - x = f + g - a ∧ (a = x ∨ x = y)) := ⟨hd, ha⟩
            have hd1 : f + g - a ≤ y - x := by omega
            have hd2 : (y - x != f + g - a) = false := by simp; omega
            have hd3 : y - x ≤ f + g - a := by omega
            clear hd ha
            go_wp2_with (first
              | (go_at_call_of 13 (wa.heap.size); refine (take_full _ 0 x y (z % 20 + 1) _ (by go_simp) (by go_simp) (by omega) (by omega) (by omega) (by omega) (by omega)).mono ?_; rintro e w' ⟨rfl, n1, rfl⟩)
              | (go_at_call_of 13 (wr.heap.size); refine (take_full _ 0 x y (z % 20 + 1) _ (by go_simp) (by go_simp) (by omega) (by omega) (by omega) (by omega) (by omega)).mono ?_; rintro e w' ⟨rfl, n2, rfl⟩)
              | (go_at_call 12; refine (left_any _ 0 x y _ (by go_simp) (by go_simp) hx hxy hy).mono ?_; rintro e w' ⟨rfl, n0, rfl⟩))
            go_roundw
            case rel =>
              obtain ⟨hd, ha⟩ := HE.out
              refine ⟨k + 1, a, x, y, by omega, by go_num, rfl, hx, hxy, hy, hd, ha, hfa, ?_, ?_, ?_, ?_, ?_⟩
              · go_simp
              · go_simp
              · go_simp
              · simp; omega
              · (repeat (first | exact hbw | exact Below.refl _ _ | apply bel_drewN.2 | apply bel_drew.2 | refine Below.setCell ?_ (by first | omega | (simp; done) | (simp; omega)) _ | refine Below.alloc ?_ (by first | omega | (simp; done) | (simp; omega)) _))
            case measure => simp [intOf]; omega
        · have hk' : k = len2 := by omega
          subst hk'
          go_wp2_with (first
            | (go_at_call 12; refine (left_any _ 0 x y _ (by go_simp) (by go_simp) hx hxy hy).mono ?_; rintro e w' ⟨rfl, n0, rfl⟩))
          go_ret
          exact ⟨rfl, by (repeat (first | exact hbw | exact Below.refl _ _ | apply bel_drewN.2 | apply bel_drew.2 | refine Below.setCell ?_ (by first | omega | (simp; done) | (simp; omega)) _ | refine Below.alloc ?_ (by first | omega | (simp; done) | (simp; omega)) _))⟩
end Go.Proofs.Ytjpapbdoppidcaa.bufferApart
