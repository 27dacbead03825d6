/-
  The walk of ArenaMoves (layer 3).
-/
import Derived.Test.YtjpapbdoppidcaaArenaLaws
set_option linter.unusedVariables false
set_option linter.unusedSimpArgs false
namespace Go.Proofs.Ytjpapbdoppidcaa.arenaMoves
open Go.RowKit

theorem addr_ne {b b' o o' : Nat} (h : b ≠ b') : (⟨b, o, none⟩ : Addr) ≠ ⟨b', o', none⟩ := fun e => h (by injection e)

set_option maxRecDepth 100000 in
set_option maxHeartbeats 2000000 in
theorem walk (a0 : Option Addr) (len0 cap0 : Nat) (z0 : List Int) (a1 a2 a3 : Int) (w : World) (w0 : IsRow .u64 w a0 len0 cap0 z0) (w1 : (Lit.int .i64 a1).wf = true) (w2 : (Lit.int .i64 a2).wf = true) (w3 : (Lit.int .i64 a3).wf = true) :
    Calls Try.prog 8 #[.slice a0 len0 cap0, .int .i64 a1, .int .i64 a2, .int .i64 a3] w fun e w' => e = .returned (.bool true) ∧ Below w.heap.size w w' := by
  have HR := hid (row_cases w0)
  go_enter Try.func8, Try.ntmps8
  go_upto_region 6 with (first
    | (go_at_call 24; refine (awake03 _).mono ?_; rintro e wa ⟨rfl, hb⟩; have hz := (hb).size; (try simp at hz))
    | (go_at_call 25; refine (arena_new 200 _ (by omega)).mono ?_; rintro e wb ⟨p, q, rfl, hp, hq, hb1, har⟩; have hA := hid har; clear har; have hz1 := (hb1).size; (try simp at hz1)))
  go_cut [11] (fun s11 wx => s11 = .int .i64 0 ∧ ArenaAt wx p q 200 0 (fun _ => 0) ∧ Below w.heap.size w wx ∧ w.heap.size ≤ p ∧ w.heap.size ≤ q)
  case first =>
    go_wp2
    go_meet
    exact ⟨rfl, hA.out, by (repeat (first | exact Below.refl _ _ | exact Below.refl _ _ | apply bel_drewN.2 | apply bel_drew.2 | refine Below.setCell ?_ (by first | omega | (simp; done) | (simp; omega)) _ | refine Below.alloc ?_ (by first | omega | (simp; done) | (simp; omega)) _ | refine bel_step (by assumption) (by first | omega | (simp; done) | (simp; omega)) ?_)), by omega, by omega⟩
  case rest =>
  obtain ⟨rfl, har, hbx, hp1, hq1⟩ := hcut
  have hA0 := hid har
  clear har
  go_upto_block 0 with fail
  go_cut [11] (fun s11 wx => ∃ (acc : Int) (f : Nat → Int), ArenaAt wx p q 200 acc f ∧ Below w.heap.size w wx)
  case first =>
    go_wp2_with fail
    go_loopw [11] (fun i wr => ∃ (k : Nat) (acc : Int) (f : Nat → Int), k ≤ len0 ∧ k ≤ 100 ∧ i = .int .i64 k ∧ ArenaAt wr p q 200 acc f ∧ Below w.heap.size w wr) (fun i _ => len0 - (intOf i).toNat)
    case atStart => exact ⟨0, 0, _, by omega, by omega, rfl, hA0.out, hbx⟩
    case round =>
      obtain ⟨k, acc, f, hk, hk2, rfl, har, hbw⟩ := hrel
      have hA := hid har
      clear har
      by_cases hlt : k < len0
      · by_cases hlt2 : k < 100
        · rcases HR.out with h0 | ⟨b, off, rfl, hb0, hlen, hlm, hcell⟩
          · omega
          obtain ⟨hck, hwf⟩ := hcell k hlt
          have hck' : wr.cell? ⟨b, off + k, none⟩ = some (.int .u64 (z0.getD k 0)) := (hbw.cell (p := ⟨b, off + k, none⟩) hb0).trans hck
          clear hck hcell
          revert hck'
          clear hwf
          generalize z0.getD k 0 = z
          intro hck'
          go_wp2_with (go_at_call 26; refine (arena_store _ p q 200 acc f k z hA.out (by omega)).mono ?_; rintro e w' ⟨rfl, rfl⟩)
          go_roundw
          case rel =>
            refine ⟨k + 1, wrap64 (acc + 1), _, by omega, by omega, by go_num, (hA.out.more _).store k z, ?_⟩
            (repeat (first | exact hbw | exact Below.refl _ _ | apply bel_drewN.2 | apply bel_drew.2 | refine Below.setCell ?_ (by first | omega | (simp; done) | (simp; omega)) _ | refine Below.alloc ?_ (by first | omega | (simp; done) | (simp; omega)) _ | refine bel_step (by assumption) (by first | omega | (simp; done) | (simp; omega)) ?_))
          case measure => simp [intOf]; omega
        · have hge : 100 ≤ k := by omega
          go_wp2_with fail
          go_meet
          exact ⟨acc, f, hA.out, hbw⟩
      · go_wp2_with fail
        go_meet
        exact ⟨acc, f, hA.out, hbw⟩
  case rest =>
  obtain ⟨acc, f, har, hbx1⟩ := hcut
  have hA := hid har
  clear har hA0 hbx hb hb1
  go_upto_region 10 with fail
  go_cut [1] (fun s1 wx => ∃ F : Nat, F < 100 ∧ s1 = .int .i64 F ∧ wc = wx)
  case first =>
    have t1 := tmod_bounds a1 100 (by omega)
    go_wp2
    go_meet
    exact ⟨((a1.tmod 100 + 100) % 100).toNat, by omega, by rw [Int.toNat_of_nonneg (by omega)], rfl⟩
  case rest =>
  obtain ⟨F, hF, rfl, rfl⟩ := hcut
  go_upto_region 11 with fail
  go_cut [3] (fun s3 wx => ∃ N : Nat, F + N ≤ 100 ∧ s3 = .int .i64 N ∧ wc = wx)
  case first =>
    have t1 := tmod_bounds a3 (101 - F) (by omega)
    go_wp2
    go_meet
    refine ⟨((a3.tmod (101 - F) + 101 - F) % (101 - F)).toNat, ?_, ?_, rfl⟩
    · have e1 := Int.emod_nonneg (a3.tmod (101 - F) + 101 - F) (show (101 : Int) - F ≠ 0 by omega)
      have e2 := Int.emod_lt_of_pos (a3.tmod (101 - F) + 101 - F) (show (0 : Int) < 101 - F by omega)
      omega
    · rw [Int.toNat_of_nonneg (Int.emod_nonneg _ (by omega))]
  case rest =>
  obtain ⟨N, hN, rfl, rfl⟩ := hcut
  go_upto_region 12 with fail
  go_cut [2] (fun s2 wx => ∃ T : Nat, T + N ≤ 100 ∧ s2 = .int .i64 T ∧ wc = wx)
  case first =>
    have t1 := tmod_bounds a2 (101 - N) (by omega)
    go_wp2
    go_meet
    refine ⟨((a2.tmod (101 - N) + 101 - N) % (101 - N)).toNat, ?_, ?_, rfl⟩
    · have e1 := Int.emod_nonneg (a2.tmod (101 - N) + 101 - N) (show (101 : Int) - N ≠ 0 by omega)
      have e2 := Int.emod_lt_of_pos (a2.tmod (101 - N) + 101 - N) (show (0 : Int) < 101 - N by omega)
      omega
    · rw [Int.toNat_of_nonneg (Int.emod_nonneg _ (by omega))]
  case rest =>
  obtain ⟨T, hT, rfl, rfl⟩ := hcut
  go_upto_block 2 with fail
  go_cut [12, 13, 14, 15] (fun s12 s13 s14 s15 wx => ∃ (acc' : Int) (g c : Nat), s12 = .slice (some ⟨g, 0, none⟩) 100 c ∧ w.heap.size ≤ g ∧ g < wx.heap.size ∧ g ≠ p ∧ g ≠ q ∧ (∀ j, j < 100 → wx.cell? ⟨g, j, none⟩ = some (.int .u64 (f j))) ∧
      ArenaAt wx p q 200 acc' f ∧ Below w.heap.size w wx)
  case first =>
    obtain ⟨i0, hi, hz0, hz1, hz2⟩ := info_parts info64
    obtain ⟨B, hB⟩ : ∃ B : Nat, B = wc.heap.size := ⟨_, rfl⟩
    have hpB : p < B := by rw [hB]; exact hA.out.lt.1
    have hqB : q < B := by rw [hB]; exact hA.out.lt.2
    have hwB : w.heap.size ≤ B := by rw [hB]; exact hbx1.size
    have HB := hid hB
    clear hB
    go_wp2_with fail
    go_loopw [12, 13] (fun v i wr => ∃ (k : Nat) (acc : Int), k ≤ 100 ∧ i = .int .i64 k ∧ wr.ownsRow B 36 1 v k ((List.range k).map fun j => Value.int .u64 (f j)) ∧ ArenaAt wr p q 200 acc f ∧ Below w.heap.size w wr ∧ B ≤ wr.heap.size) (fun _ i _ => 100 - (intOf i).toNat)
    case atStart => exact ⟨0, acc, by omega, rfl, World.ownsRow_nil _ _ _ _, hA.out, hbx1, by rw [HB.out]; exact Nat.le_refl _⟩
    case round =>
      obtain ⟨k, acc, hk, rfl, hown0, har, hbw, hBw⟩ := hrel
      have hA := hid har
      have hO := hid hown0
      clear har hown0
      by_cases hlt : k < 100
      · go_wp2_with (first
          | (at_builtin; refine wpList_append_own _ rfl _ _ 57 rfl B 36 i0 (.int .u64 0) 1 8 Try.underlying57 hi hz0 hz1 hz2 rfl (by decide) _ _ _ rfl ((ownsRow_setCell_below hO.out (a := ⟨p, 1, none⟩) hpB (.int .i64 (wrap64 (acc + 1)))).alloc _) ⟨wr.heap.size, 0, none⟩ 1 1 [.int .u64 (f k)] rfl rfl ?c1 ?c2 ?c3 ?c4 ?c5 ?_)
          | (go_at_call 27; refine (arena_load _ p q 200 acc f k hA.out (by omega)).mono ?_; rintro e w' ⟨rfl, rfl⟩))
        case c1 =>
          intro j u hj
          match j, hj with
          | 0, hj => simp at hj; subst hj; simp only [Addr.add]; go_simp
        case c2 => intro u hu; simp at hu; subst hu; rfl
        case c3 => unfold maxLen; omega
        case c4 => omega
        case c5 => simp; omega
        intro v' w1 hown' hgrow _
        have hO' := hid hown'
        have hG := hid hgrow
        clear hown' hgrow
        go_wp2
        go_roundw
        case rel =>
          have hc1 : Chg (fun b => B ≤ b) (wr.setCell ⟨p, 1, none⟩ (.int .i64 (wrap64 (acc + 1)))) w1 := by
            refine ((Chg.refl (fun b => B ≤ b) _).alloc _).grown hG.out (fun k' hk' => ?_)
            exact .inl ((hO.out.lt _ hk').1)
          refine ⟨k + 1, wrap64 (acc + 1), by omega, by go_num, ?_, ((hA.out.more _).chg hc1 (by omega) (by omega)), ?_, ?_⟩
          · have := hO'.out
            rwa [List.range_succ, List.map_append]
          · exact hc1.below (hbw.setCell (by simp; omega) _) (fun k' _ hk' => by omega) (by simp; exact hbw.size)
          · have := hc1.size
            simp at this
            omega
        case measure => simp [intOf]; omega
      · obtain rfl : k = 100 := by omega
        go_wp2_with fail
        go_meet
        obtain ⟨g, c, hv, hg1, hg2⟩ := hO.out.form (by omega)
        subst hv
        refine ⟨acc, g, c, rfl, by omega, hg2, by omega, by omega, fun j hj => ?_, hA.out, hbw⟩
        have := hO.out.cells (g := g) rfl j (.int .u64 (f j)) (by simp [hj])
        rw [Go.WideShapes.add_plain, Nat.zero_add] at this
        exact this
  case rest =>
  obtain ⟨acc', g, c, rfl, hg, hgl, hgp, hgq, hbc, har, hbx2⟩ := hcut
  have hA := hid har
  have HC := hid hbc
  clear har hbc
  have eT := hid (show (100 : Int) + (T : Int) = ((100 + T : Nat) : Int) by omega)
  have hqp : q ≠ p := fun e => hA.out.ne e.symm
  go_upto_block 4 with (first
    | (go_at_call 28; rw [eT.out]; refine (arena_move _ p q 200 acc' f (100 + T) F N hA.out (by omega) (by omega)).mono ?_; rintro e w1 ⟨rfl, har1, hc1⟩; have hA1 := hid har1; clear har1; have hs1 := hc1.size)
    | (go_at_call 29; refine (arena_zero _ p q 200 acc' _ F N hA1.out (by omega)).mono ?_; rintro e w2 ⟨rfl, har2, hc2⟩; have hA2 := hid har2; clear har2; have hs2 := hc2.size))
  go_cut [16, 17, 18, 19] (fun s16 s17 s18 s19 wx => ∃ (acc3 : Int) (f3 : Nat → Int), (∀ i, i < 100 → f3 i = if F ≤ i ∧ i < F + N then 0 else f i) ∧ (∀ i, i < N → f3 (100 + T + i) = f (F + i)) ∧ (∀ j, j < 100 → wx.cell? ⟨g, j, none⟩ = some (.int .u64 (f j))) ∧ g < wx.heap.size ∧
      ArenaAt wx p q 200 acc3 f3 ∧ Below w.heap.size w wx)
  case first =>
    have h3 : ∀ i, i < 100 → (fun i => if F ≤ i ∧ i < F + N then (0 : Int) else (fun i => if 100 + T ≤ i ∧ i < 100 + T + N then f (F + (i - (100 + T))) else f i) i) i = if F ≤ i ∧ i < F + N then 0 else f i := by
      intro i hi
      by_cases hc : F ≤ i ∧ i < F + N
      · simp [hc]
      · simp only [if_neg hc]
        rw [if_neg (by omega)]
    have h4 : ∀ i, i < N → (fun i => if F ≤ i ∧ i < F + N then (0 : Int) else (fun i => if 100 + T ≤ i ∧ i < 100 + T + N then f (F + (i - (100 + T))) else f i) i) (100 + T + i) = f (F + i) := by
      intro i hi
      show (if F ≤ 100 + T + i ∧ 100 + T + i < F + N then (0 : Int) else if 100 + T ≤ 100 + T + i ∧ 100 + T + i < 100 + T + N then f (F + (100 + T + i - (100 + T))) else f (100 + T + i)) = f (F + i)
      rw [if_neg (by omega), if_pos (by omega)]
      congr 2
      omega
    have hcc : ∀ j, j < 100 → w2.cell? ⟨g, j, none⟩ = some (.int .u64 (f j)) := fun j hj => by
      rw [hc2.cell (by omega) hgq, hc1.cell (by omega) hgq]
      exact HC.out j hj
    have hb1 : Below w.heap.size w w1 := hc1.below hbx2 (fun k' _ hk' => by omega) hbx2.size
    have hb2 : Below w.heap.size w w2 := hc2.below hb1 (fun k' _ hk' => by omega) hb1.size
    have H3 := hid h3
    have H4 := hid h4
    have HCC := hid hcc
    clear h3 h4 hcc HC
    obtain ⟨f3, hf3⟩ : ∃ f3 : Nat → Int, f3 = (fun i => if F ≤ i ∧ i < F + N then (0 : Int) else (fun i => if 100 + T ≤ i ∧ i < 100 + T + N then f (F + (i - (100 + T))) else f i) i) := ⟨_, rfl⟩
    rw [← hf3] at H3 H4 hA2
    clear hf3
    go_wp2_with fail
    go_loopw [16] (fun i wr => ∃ (k : Nat) (acc : Int), k ≤ 100 ∧ i = .int .i64 k ∧ (∀ j, j < 100 → wr.cell? ⟨g, j, none⟩ = some (.int .u64 (f j))) ∧ g < wr.heap.size ∧ ArenaAt wr p q 200 acc f3 ∧ Below w.heap.size w wr) (fun i _ => 100 - (intOf i).toNat)
    case atStart => exact ⟨0, acc', by omega, rfl, HCC.out, by omega, hA2.out, hb2⟩
    case round =>
      obtain ⟨k, acc, hk, rfl, hcw, hgw, har, hbw⟩ := hrel
      have hA := hid har
      have HCW := hid hcw
      clear har hcw
      by_cases hlt : k < 100
      · have hck : (wr.setCell ⟨p, 1, none⟩ (.int .i64 (wrap64 (acc + 1)))).cell? ⟨g, k, none⟩ = some (.int .u64 (f k)) := by
          rw [World.cell?_setCell_other _ _ _ _ (addr_ne (fun e => hgp e.symm))]
          exact HCW.out k hlt
        by_cases hgone : F ≤ k ∧ k < F + N
        · obtain ⟨g1, g2⟩ := hgone
          have hv : f3 k = 0 := by rw [H3.out k hlt, if_pos ⟨g1, g2⟩]
          have hl := arena_load wr p q 200 acc f3 k hA.out (by omega)
          rw [hv] at hl
          have HL := hid hl
          clear hv hl
          have g3 : (F : Int) ≤ (k : Int) := by omega
          have g4 : (k : Int) < (F : Int) + (N : Int) := by omega
          go_wp2_with (go_at_call 27; refine HL.out.mono ?_; rintro e w' ⟨rfl, rfl⟩)
          go_roundw
          case rel =>
            refine ⟨k + 1, wrap64 (acc + 1), by omega, by go_num, fun j hj => ?_, by simpa using hgw, hA.out.more _, ?_⟩
            · rw [World.cell?_setCell_other _ _ _ _ (addr_ne (fun e => hgp e.symm))]
              exact HCW.out j hj
            · (repeat (first | exact hbw | exact Below.refl _ _ | apply bel_drewN.2 | apply bel_drew.2 | refine Below.setCell ?_ (by first | omega | (simp; done) | (simp; omega)) _ | refine Below.alloc ?_ (by first | omega | (simp; done) | (simp; omega)) _ | refine bel_step (by assumption) (by first | omega | (simp; done) | (simp; omega)) ?_))
          case measure => simp [intOf]; omega
        · have hv : f3 k = f k := by rw [H3.out k hlt, if_neg hgone]
          have hl := arena_load wr p q 200 acc f3 k hA.out (by omega)
          rw [hv] at hl
          have HL := hid hl
          clear hv hl
          have hgb : k < F ∨ F + N ≤ k := by omega
          rcases hgb with hgb | hgb
          · have g4 : (k : Int) < (F : Int) := by omega
            go_wp2_with (go_at_call 27; refine HL.out.mono ?_; rintro e w' ⟨rfl, rfl⟩)
            go_roundw
            case rel =>
              refine ⟨k + 1, wrap64 (acc + 1), by omega, by go_num, fun j hj => ?_, by simpa using hgw, hA.out.more _, ?_⟩
              · rw [World.cell?_setCell_other _ _ _ _ (addr_ne (fun e => hgp e.symm))]
                exact HCW.out j hj
              · (repeat (first | exact hbw | exact Below.refl _ _ | apply bel_drewN.2 | apply bel_drew.2 | refine Below.setCell ?_ (by first | omega | (simp; done) | (simp; omega)) _ | refine Below.alloc ?_ (by first | omega | (simp; done) | (simp; omega)) _ | refine bel_step (by assumption) (by first | omega | (simp; done) | (simp; omega)) ?_))
            case measure => simp [intOf]; omega
          · by_cases hgF : F ≤ k
            · have g4 : (F : Int) + (N : Int) ≤ (k : Int) := by omega
              have g5 : (F : Int) ≤ (k : Int) := by omega
              go_wp2_with (go_at_call 27; refine HL.out.mono ?_; rintro e w' ⟨rfl, rfl⟩)
              go_roundw
              case rel =>
                refine ⟨k + 1, wrap64 (acc + 1), by omega, by go_num, fun j hj => ?_, by simpa using hgw, hA.out.more _, ?_⟩
                · rw [World.cell?_setCell_other _ _ _ _ (addr_ne (fun e => hgp e.symm))]
                  exact HCW.out j hj
                · (repeat (first | exact hbw | exact Below.refl _ _ | apply bel_drewN.2 | apply bel_drew.2 | refine Below.setCell ?_ (by first | omega | (simp; done) | (simp; omega)) _ | refine Below.alloc ?_ (by first | omega | (simp; done) | (simp; omega)) _ | refine bel_step (by assumption) (by first | omega | (simp; done) | (simp; omega)) ?_))
              case measure => simp [intOf]; omega
            · omega
      · obtain rfl : k = 100 := by omega
        go_wp2_with fail
        go_meet
        exact ⟨acc, f3, H3.out, H4.out, HCW.out, hgw, hA.out, hbw⟩
  case rest =>
  obtain ⟨acc3, f3, h3, h4, hcc, hgl3, har3, hbx3⟩ := hcut
  have hA3 := hid har3
  have H3 := hid h3
  have H4 := hid h4
  have HCC := hid hcc
  clear har3 h3 h4 hcc HC
  go_upto_block 6 with (first
    | (go_at_call 28; rw [eT.out]; refine (arena_move _ p q 200 acc3 f3 F (100 + T) N hA3.out (by omega) (by omega)).mono ?_; rintro e w3 ⟨rfl, har4, hc4⟩; have hA4 := hid har4; clear har4; have hs4 := hc4.size))
  have hb4 : Below w.heap.size w w3 := hc4.below hbx3 (fun k' _ hk' => by omega) hbx3.size
  have hcc : ∀ j, j < 100 → w3.cell? ⟨g, j, none⟩ = some (.int .u64 (f j)) := fun j hj => by
    rw [hc4.cell (by omega) hgq]
    exact HCC.out j hj
  have hf4 : ∀ i, i < 100 → (fun i => if F ≤ i ∧ i < F + N then f3 (100 + T + (i - F)) else f3 i) i = f i := by
    intro i hi
    show (if F ≤ i ∧ i < F + N then f3 (100 + T + (i - F)) else f3 i) = f i
    by_cases hc : F ≤ i ∧ i < F + N
    · rw [if_pos hc, H4.out (i - F) (by omega)]
      congr 1
      omega
    · rw [if_neg hc, H3.out i hi, if_neg hc]
  obtain ⟨f4, hf⟩ : ∃ f4 : Nat → Int, f4 = (fun i => if F ≤ i ∧ i < F + N then f3 (100 + T + (i - F)) else f3 i) := ⟨_, rfl⟩
  rw [← hf] at hf4 hA4
  have HF4 := hid hf4
  have HC4 := hid hcc
  clear hf4 hcc hf
  go_wp2_with fail
  go_loopw [20] (fun i wr => ∃ (k : Nat) (acc : Int), k ≤ 100 ∧ i = .int .i64 k ∧ (∀ j, j < 100 → wr.cell? ⟨g, j, none⟩ = some (.int .u64 (f j))) ∧ g < wr.heap.size ∧ ArenaAt wr p q 200 acc f4 ∧ Below w.heap.size w wr) (fun i _ => 100 - (intOf i).toNat)
  case atStart => exact ⟨0, acc3, by omega, rfl, HC4.out, by omega, hA4.out, hb4⟩
  case round =>
    obtain ⟨k, acc, hk, rfl, hcw, hgw, har, hbw⟩ := hrel
    have hA := hid har
    have HCW := hid hcw
    clear har hcw
    by_cases hlt : k < 100
    · have hck : (wr.setCell ⟨p, 1, none⟩ (.int .i64 (wrap64 (acc + 1)))).cell? ⟨g, k, none⟩ = some (.int .u64 (f k)) := by
        rw [World.cell?_setCell_other _ _ _ _ (addr_ne (fun e => hgp e.symm))]
        exact HCW.out k hlt
      have hl := arena_load wr p q 200 acc f4 k hA.out (by omega)
      rw [HF4.out k hlt] at hl
      have HL := hid hl
      clear hl
      go_wp2_with (go_at_call 27; refine HL.out.mono ?_; rintro e w' ⟨rfl, rfl⟩)
      go_roundw
      case rel =>
        refine ⟨k + 1, wrap64 (acc + 1), by omega, by go_num, fun j hj => ?_, by simpa using hgw, hA.out.more _, ?_⟩
        · rw [World.cell?_setCell_other _ _ _ _ (addr_ne (fun e => hgp e.symm))]
          exact HCW.out j hj
        · (repeat (first | exact hbw | exact Below.refl _ _ | apply bel_drewN.2 | apply bel_drew.2 | refine Below.setCell ?_ (by first | omega | (simp; done) | (simp; omega)) _ | refine Below.alloc ?_ (by first | omega | (simp; done) | (simp; omega)) _ | refine bel_step (by assumption) (by first | omega | (simp; done) | (simp; omega)) ?_))
      case measure => simp [intOf]; omega
    · go_wp2_with fail
      go_ret
      exact ⟨rfl, hbw⟩
end Go.Proofs.Ytjpapbdoppidcaa.arenaMoves
