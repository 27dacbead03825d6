/-
  The walk of ParseRows (layer 5).
-/
import Derived.Test.YthmjjmimmbgpaaaParseFills
import Derived.Test.YthmjjmimmbgpaaaSame
import Derived.Test.YthmjjmimmbgpaaaOpen
set_option linter.unusedVariables false
set_option linter.unusedSimpArgs false
namespace Go.Proofs.Ythmjjmimmbgpaaa
open Go.RowKit

/-- headers one behind the other, from a to b -/
def Chain (f : Nat → Int) : Nat → List Int → Nat → Prop
  | a, [], b => a = b
  | a, x :: L, b => x = a ∧ ∃ s : Nat, (inAt (f a)).e = 0 ∧ ¬ (inAt (f a)).k = 3 ∧ (inAt (f a)).s = s ∧ 1 ≤ s ∧ Chain f (a + s) L b

theorem chain_le {f : Nat → Int} {b : Nat} : ∀ {L : List Int} {a : Nat}, Chain f a L b → a ≤ b
  | [], a, h => by unfold Chain at h; omega
  | x :: L, a, h => by
    unfold Chain at h
    obtain ⟨_, s, _, _, _, hs, h⟩ := h
    have := chain_le h
    omega
theorem chain_congr {f g : Nat → Int} {b : Nat} (e : ∀ i, i < b → f i = g i) : ∀ {L : List Int} {a : Nat}, Chain f a L b → Chain g a L b
  | [], a, h => h
  | x :: L, a, h => by
    unfold Chain at h ⊢
    obtain ⟨hx, s, h1, h2, h3, h4, h5⟩ := h
    have := chain_le h5
    rw [← e a (by omega)]
    exact ⟨hx, s, h1, h2, h3, h4, chain_congr e h5⟩
theorem chain_snoc {f : Nat → Int} {b s : Nat} (h1 : (inAt (f b)).e = 0) (h2 : ¬ (inAt (f b)).k = 3) (h3 : (inAt (f b)).s = s) (h4 : 1 ≤ s) : ∀ {L : List Int} {a : Nat}, Chain f a L b → Chain f a (L ++ [(b : Int)]) (b + s)
  | [], a, h => by
    unfold Chain at h
    subst h
    show Chain f a [(a : Int)] (a + s)
    unfold Chain
    exact ⟨rfl, s, h1, h2, h3, h4, rfl⟩
  | x :: L, a, h => by
    unfold Chain at h
    obtain ⟨hx, s', g1, g2, g3, g4, g5⟩ := h
    show Chain f a (x :: (L ++ [(b : Int)])) (b + s)
    unfold Chain
    exact ⟨hx, s', g1, g2, g3, g4, chain_snoc h1 h2 h3 h4 g5⟩
theorem chain_walk {f : Nat → Int} {b c : Nat} (hb : b ≤ c) : ∀ {L : List Int} {a m : Nat}, Chain f a L b → c ≤ a + m → ∃ m', c ≤ b + m' ∧ walkFrom f c m a = (walkFrom f c m' b).map (L ++ ·)
  | [], a, m, h, hm => by
    unfold Chain at h
    subst h
    exact ⟨m, hm, by simp⟩
  | x :: L, a, m, h, hm => by
    unfold Chain at h
    obtain ⟨hx, s, h1, h2, h3, h4, h5⟩ := h
    have hle := chain_le h5
    obtain ⟨m, rfl⟩ : ∃ k, m = k + 1 := ⟨m - 1, by omega⟩
    obtain ⟨m', hm', e⟩ := chain_walk hb (m := m) h5 (by omega)
    refine ⟨m', hm', ?_⟩
    rw [walk_step f c m a s (by omega) h1 h2 h3 (by omega), e, Option.map_map, hx]
    congr 1
theorem chain_starts {f : Nat → Int} {b : Nat} {L : List Int} (h : Chain f 0 L b) : startsOf f 0 b = (L, 0) := by
  obtain ⟨m', hm', e⟩ := chain_walk (c := b) (Nat.le_refl _) (m := b - 0) h (by omega)
  unfold startsOf
  rw [e, walk_end _ _ _ _ (Nat.le_refl _)]
  simp [outs]
theorem chain_broken {f : Nat → Int} {b : Nat} {L : List Int} (h : Chain f 0 L b) (h0 : f b = 0) : startsOf f 0 (b + 1) = ([], 30) := by
  obtain ⟨m', hm', e⟩ := chain_walk (c := b + 1) (by omega) (m := b + 1 - 0) h (by omega)
  obtain ⟨m', rfl⟩ : ∃ k, m' = k + 1 := ⟨m' - 1, by omega⟩
  unfold startsOf
  rw [e, walk_stop _ _ _ _ (by omega) (by rw [h0, inAt_zero]; simp)]
  rfl

theorem right_half {N : Nat} {x : Int} (h1 : 1 ≤ N) (h2 : N ≤ 30) (h3 : 0 ≤ x) (h4 : x < N) : Right 1 N x 0 0 := .inr (.inl ⟨rfl, by omega, by omega, h3, h4, by omega, by omega, rfl⟩)
theorem filled_in (f : Nat → Int) (T N : Nat) (h1 : 1 ≤ N) (h2 : N ≤ 30) : inAt (filled f T (T + N) T) = ⟨2, N, 0, 0, 0, 0⟩ := by
  rw [filled_at f T (T + N) (by omega) (by omega)]
  congr 1
  omega
theorem made_in (f : Nat → Int) (T N : Nat) (x : Int) (h1 : 1 ≤ N) (h2 : N ≤ 30) (h3 : 0 ≤ x) (h4 : x < N) : inAt (made f T N x T) = ⟨1, N, x, 0, 0, 0⟩ := by
  have e : made f T N x T = wordOf 1 N x 0 0 := by unfold made; rw [if_pos rfl]
  rw [e]
  exact inAt_word (right_half h1 h2 h3 h4) (by decide)

theorem ownInts_reads {base : Nat} {w : World} {t : Value} {l : List Int} (h : OwnInts base w t l) : Reads w t l := by
  by_cases h0 : l.length = 0
  · obtain ⟨A, c, rfl⟩ := h.shape
    exact ⟨A, c, rfl, .inl h0⟩
  · obtain ⟨g, c, rfl, hg1, hg2, hg3⟩ := h.at (by omega)
    exact ⟨_, c, rfl, .inr ⟨g, 0, rfl, hg2, fun j hj => by rw [Nat.zero_add]; exact hg3 j hj⟩⟩

set_option maxRecDepth 100000 in
set_option maxHeartbeats 4000000 in
theorem parseRows (a0 : Option Addr) (len0 cap0 : Nat) (z0 : List Int) (a1 : Option Addr) (len1 cap1 : Nat) (z1 : Nat → Bool) (w : World) (w0 : IsRow .u8 w a0 len0 cap0 z0) (w1 : IsBools w a1 len1 z1) :
    Calls Try.prog 7 #[.slice a0 len0 cap0, .slice a1 len1 cap1] w fun e w' => e = .returned (.bool true) ∧ Below w.heap.size w w' := by
  have HR := hid (row_cases w0)
  have HT := hid w1
  clear w0 w1
  obtain ⟨i0, hi, hz0, hz1, hz2⟩ := info_parts infoInt
  go_enter Try.func7, Try.ntmps7
  go_upto_region 8 with (first
    | (go_at_call 23; refine (awake05 _).mono ?_; rintro e wa ⟨rfl, hb⟩; have hza := (hb).size; (try simp at hza))
    | (go_at_call 24; refine (arena_new 2000 _ (by omega)).mono ?_; rintro e wb ⟨p, q, rfl, hp, hq, hb1, har⟩; have hA := hid (fresh_arn har); clear har; have hzb := (hb1).size; (try simp at hzb)))
  go_cut [9] (fun s9 wx => s9 = .int .i64 0 ∧ Arn wx p q 2000 (fun _ => 0) ∧ Below w.heap.size w wx ∧ w.heap.size ≤ p ∧ w.heap.size ≤ q)
  case first =>
    go_wp2
    go_meet
    exact ⟨rfl, hA.out, by (repeat (first | exact Below.refl _ _ | exact Below.refl _ _ | apply bel_drewN.2 | apply bel_drew.2 | refine Below.setCell ?_ (by first | omega | (simp; done) | (simp; omega)) _ | refine Below.alloc ?_ (by first | omega | (simp; done) | (simp; omega)) _ | refine bel_step (by assumption) (by first | omega | (simp; done) | (simp; omega)) ?_)), by omega, by omega⟩
  case rest =>
  obtain ⟨rfl, har, hbx, hp1, hq1⟩ := hcut
  have hA1 := hid har
  clear har
  obtain ⟨B, hB⟩ : ∃ B : Nat, B = wc.heap.size := ⟨_, rfl⟩
  have hpB : p < B := by rw [hB]; exact hA1.out.lt.1
  have hqB : q < B := by rw [hB]; exact hA1.out.lt.2
  have hwB : w.heap.size ≤ B := by rw [hB]; exact hbx.size
  have HB := hid hB
  clear hB
  go_upto_block 0 with fail
  go_cut [6, 7, 8, 9, 10, 11, 12] (fun s6 s7 v i s10 s11 s12 wx => ∃ (k T : Nat) (L : List Int) (f : Nat → Int), k ≤ 60 ∧ s7 = .int .i64 T ∧ T ≤ 30 * k ∧ L.length = k ∧ OwnInts B wx v L ∧ Arn wx p q 2000 f ∧ (∀ i, T ≤ i → f i = 0) ∧ Chain f 0 L T ∧ Below w.heap.size w wx ∧ B ≤ wx.heap.size)
  case first =>
    go_wp2_with fail
    go_loopw [7, 8, 9] (fun s7 v i wr => ∃ (k T : Nat) (L : List Int) (f : Nat → Int), k ≤ len0 ∧ k ≤ 60 ∧ i = .int .i64 k ∧ s7 = .int .i64 T ∧ T ≤ 30 * k ∧ L.length = k ∧ OwnInts B wr v L ∧ Arn wr p q 2000 f ∧ (∀ i, T ≤ i → f i = 0) ∧ Chain f 0 L T ∧ Below w.heap.size w wr ∧ B ≤ wr.heap.size) (fun _ _ i _ => len0 - (intOf i).toNat)
    case atStart => exact ⟨0, 0, [], _, by omega, by omega, rfl, rfl, by omega, rfl, ownInts_nil _ _, hA1.out, fun _ _ => rfl, rfl, hbx, by rw [HB.out]; exact Nat.le_refl _⟩
    case round =>
      obtain ⟨k, T, L, f, hk, hk2, rfl, rfl, hT, hL, hown0, har, hf0, hch, hbw, hBw⟩ := hrel
      have hO := hid hown0
      have hA := hid har
      have HF0 := hid hf0
      have HCH := hid hch
      clear har hown0 hf0 hch
      have hTn : T ≤ 1800 := by omega
      by_cases hgo : k < len0 ∧ k < 60
      · obtain ⟨hlt, hlt2⟩ := hgo
        rcases HR.out with h0 | ⟨b, off, rfl, hb0, hlen, hlm, hcell⟩
        · omega
        obtain ⟨hck, hwf⟩ := hcell k hlt
        have hck' : wr.cell? ⟨b, off + k, none⟩ = some (.int .u8 (z0.getD k 0)) := (hbw.cell (p := ⟨b, off + k, none⟩) hb0).trans hck
        have hz : 0 ≤ z0.getD k 0 ∧ z0.getD k 0 ≤ 255 := by simpa [Lit.wf, IntKind.min, IntKind.max, IntKind.signed, IntKind.bits] using hwf
        clear hck hcell hwf
        revert hck' hz
        generalize z0.getD k 0 = z
        intro hck' hz
        obtain ⟨hzl, hzh⟩ := hz
        go_upto_region 11 with fail
        go_cut [10] (fun s10 wx => (∃ N : Int, 1 ≤ N ∧ N ≤ 30 ∧ s10 = .int .i64 N) ∧ wr = wx)
        case first =>
          go_wp2
          go_meet
          exact ⟨⟨_, by omega, by omega, rfl⟩, rfl⟩
        case rest =>
        obtain ⟨⟨N, hN1, hN2, rfl⟩, rfl⟩ := hcut
        obtain ⟨N, rfl⟩ := Int.eq_ofNat_of_zero_le (show 0 ≤ N by omega)
        clear hck' hzl hzh
        have hN1 : 1 ≤ N := by omega
        have hN2 : N ≤ 30 := by omega
        go_upto_region 13 with (at_builtin; refine wpList_append_own _ rfl _ _ 38 rfl B 3 i0 (.int .i64 0) 1 8 Try.underlying38 hi hz0 hz1 hz2 rfl (by decide) _ _ _ rfl ((hO.out.chg ((Chg.refl (fun _ => False) _).alloc _) (by simp))) ⟨wr.heap.size, 0, none⟩ 1 1 [.int .i64 ((T : Int))] rfl rfl ?c1 ?c2 ?c3 ?c4 ?c5 ?_)
        case c1 => exact one_lies (by simp)
        case c2 => intro u hu; simp at hu; subst hu; rfl
        case c3 => unfold maxLen; omega
        case c4 => omega
        case c5 => simp; omega
        intro v' w2 hown' hgrow hblk
        have hc2 : Chg (fun g => B ≤ g) wr w2 := ((Chg.refl (fun g => B ≤ g) _).alloc _).grown hgrow (fun g hg => .inl (hO.out.lt g hg).1)
        have hO2 : Hid (OwnInts B w2 v' (L ++ [(T : Int)])) := by
          have := hown'
          unfold Hid OwnInts
          rw [List.map_append, List.length_append, hL]
          exact this
        have hA2 := hid (hA.out.chg hc2 (by omega) (by omega))
        have hb2 : Below w.heap.size w w2 := hc2.below hbw (fun g _ h => by omega) hbw.size
        have hBw2 : B ≤ w2.heap.size := Nat.le_trans hBw hc2.size
        clear hown' hgrow hblk hc2
        have hTN := hid (show T + N ≤ 2000 by omega)
        by_cases hk1 : k < len1
        · rcases HT.out with h0 | ⟨b1, off1, rfl, hb10, hlen1, hlm1, hcell1⟩
          · omega
          have hfk : w2.cell? ⟨b1, off1 + k, none⟩ = some (.bool (z1 k)) := (hb2.cell (p := ⟨b1, off1 + k, none⟩) hb10).trans (hcell1 k hk1)
          clear hcell1
          have hk1' : (k : Int) < (len1 : Int) := by omega
          cases hzk : z1 k
          · rw [hzk] at hfk
            have hh1 : 0 ≤ (N : Int) / 2 := by omega
            have hh2 : (N : Int) / 2 < N := by omega
            obtain ⟨x, hx⟩ : ∃ x : Int, x = (N : Int) / 2 := ⟨_, rfl⟩
            rw [← hx] at hh1 hh2
            have hq : (N : Int).tdiv 2 = x := by rw [hx]; exact Int.tdiv_eq_ediv_of_nonneg (by omega)
            have hq2 : (N : Int) / 2 = x := hx.symm
            clear hx
            go_upto_region 16 with (go_at_call 25; refine (parse_make w2 p q 2000 f T N x hA2.out (right_half hN1 hN2 hh1 hh2) hTN.out).mono ?_; rintro e w3 ⟨rfl, hc3, ha3⟩; have HC3 := hid hc3; have HA3 := hid ha3; clear hc3 ha3)
            have hb3 := HC3.out.below hb2 (fun g _ h => by rcases h with rfl | rfl <;> omega) hb2.size
            have hO3 := hid (hO2.out.chg HC3.out (fun g hg h => by have := (hO2.out.lt g hg).1; rcases h with rfl | rfl <;> omega))
            have hBw3 : B ≤ w3.heap.size := Nat.le_trans hBw2 HC3.out.size
            have HP := hid (parse_at w3 p q 2000 _ T (Go.WalkArith.wf_i64 ⟨by omega, by omega⟩) HA3.out)
            have hat : atOf 2000 (made f T N x) T = ⟨1, N, x, 0, 0, 0⟩ := by unfold atOf; rw [if_pos (by omega), Int.toNat_natCast, made_in f T N x hN1 hN2 hh1 hh2]
            rw [hat] at HP
            simp only [rets] at HP
            clear hat
            go_wp2_with (go_at_call 32; refine HP.out.mono ?_; rintro e w4 ⟨rfl, hc4, ha4⟩; have HC4 := hid hc4; have HA4 := hid ha4; clear hc4 ha4)
            go_roundw
            case rel =>
              have hb4 := HC4.out.below hb3 (fun g _ h => by have : g = p := h; omega) hb3.size
              refine ⟨k + 1, T + N, L ++ [(T : Int)], _, by omega, by omega, by go_num, by go_num, by omega, by simp; omega, (hO3.out.chg HC4.out (fun g hg h => by have := (hO3.out.lt g hg).1; have : g = p := h; omega)).chg ((Chg.refl (fun _ => False) _).alloc _) (by simp), HA4.out.chg ((Chg.refl (fun _ => False) _).alloc _) (by simp) (by simp), ?_, ?_, hb4.alloc hb4.size _, ?_⟩
              · intro i hi
                have := HF0.out i (by omega)
                unfold made; rw [if_neg (by omega), if_neg (by omega)]; exact this
              · have hin := made_in f T N x hN1 hN2 hh1 hh2
                refine chain_snoc (by rw [hin]) (by rw [hin]; show ¬ (1 : Int) = 3; decide) (by rw [hin]) hN1 (chain_congr (fun i hi => ?_) HCH.out)
                unfold made; rw [if_neg (by omega), if_neg (by omega)]
              · have := HC4.out.size
                simp
                omega
            case measure => simp [intOf]; omega
          · rw [hzk] at hfk
            have HX := hid (parse_fill w2 p q 2000 f T (T + N) hA2.out (by omega) hTN.out (by omega))
            simp only [Int.natCast_add] at HX
            go_upto_region 16 with (go_at_call 27; refine HX.out.mono ?_; rintro e w3 ⟨rfl, hc3, ha3⟩; have HC3 := hid hc3; have HA3 := hid ha3; clear hc3 ha3)
            have hb3 := HC3.out.below hb2 (fun g _ h => by rcases h with rfl | rfl <;> omega) hb2.size
            have hO3 := hid (hO2.out.chg HC3.out (fun g hg h => by have := (hO2.out.lt g hg).1; rcases h with rfl | rfl <;> omega))
            have hBw3 : B ≤ w3.heap.size := Nat.le_trans hBw2 HC3.out.size
            have HP := hid (parse_at w3 p q 2000 _ T (Go.WalkArith.wf_i64 ⟨by omega, by omega⟩) HA3.out)
            have hat : atOf 2000 (filled f T (T + N)) T = ⟨2, N, 0, 0, 0, 0⟩ := by unfold atOf; rw [if_pos (by omega), Int.toNat_natCast, filled_in f T N hN1 hN2]
            rw [hat] at HP
            simp only [rets] at HP
            clear hat
            go_wp2_with (go_at_call 32; refine HP.out.mono ?_; rintro e w4 ⟨rfl, hc4, ha4⟩; have HC4 := hid hc4; have HA4 := hid ha4; clear hc4 ha4)
            go_roundw
            case rel =>
              have hb4 := HC4.out.below hb3 (fun g _ h => by have : g = p := h; omega) hb3.size
              refine ⟨k + 1, T + N, L ++ [(T : Int)], _, by omega, by omega, by go_num, by go_num, by omega, by simp; omega, (hO3.out.chg HC4.out (fun g hg h => by have := (hO3.out.lt g hg).1; have : g = p := h; omega)).chg ((Chg.refl (fun _ => False) _).alloc _) (by simp), HA4.out.chg ((Chg.refl (fun _ => False) _).alloc _) (by simp) (by simp), ?_, ?_, hb4.alloc hb4.size _, ?_⟩
              · intro i hi
                have := HF0.out i (by omega)
                unfold filled; rw [if_neg (by omega)]; exact this
              · have hin := filled_in f T N hN1 hN2
                refine chain_snoc (by rw [hin]) (by rw [hin]; show ¬ (2 : Int) = 3; decide) (by rw [hin]) hN1 (chain_congr (fun i hi => ?_) HCH.out)
                unfold filled; rw [if_neg (by omega)]
              · have := HC4.out.size
                simp
                omega
            case measure => simp [intOf]; omega
        · have hk1' : (len1 : Int) ≤ (k : Int) := by omega
          have hh1 : 0 ≤ (N : Int) / 2 := by omega
          have hh2 : (N : Int) / 2 < N := by omega
          obtain ⟨x, hx⟩ : ∃ x : Int, x = (N : Int) / 2 := ⟨_, rfl⟩
          rw [← hx] at hh1 hh2
          have hq : (N : Int).tdiv 2 = x := by rw [hx]; exact Int.tdiv_eq_ediv_of_nonneg (by omega)
          have hq2 : (N : Int) / 2 = x := hx.symm
          clear hx
          go_upto_region 16 with (go_at_call 25; refine (parse_make w2 p q 2000 f T N x hA2.out (right_half hN1 hN2 hh1 hh2) hTN.out).mono ?_; rintro e w3 ⟨rfl, hc3, ha3⟩; have HC3 := hid hc3; have HA3 := hid ha3; clear hc3 ha3)
          have hb3 := HC3.out.below hb2 (fun g _ h => by rcases h with rfl | rfl <;> omega) hb2.size
          have hO3 := hid (hO2.out.chg HC3.out (fun g hg h => by have := (hO2.out.lt g hg).1; rcases h with rfl | rfl <;> omega))
          have hBw3 : B ≤ w3.heap.size := Nat.le_trans hBw2 HC3.out.size
          have HP := hid (parse_at w3 p q 2000 _ T (Go.WalkArith.wf_i64 ⟨by omega, by omega⟩) HA3.out)
          have hat : atOf 2000 (made f T N x) T = ⟨1, N, x, 0, 0, 0⟩ := by unfold atOf; rw [if_pos (by omega), Int.toNat_natCast, made_in f T N x hN1 hN2 hh1 hh2]
          rw [hat] at HP
          simp only [rets] at HP
          clear hat
          go_wp2_with (go_at_call 32; refine HP.out.mono ?_; rintro e w4 ⟨rfl, hc4, ha4⟩; have HC4 := hid hc4; have HA4 := hid ha4; clear hc4 ha4)
          go_roundw
          case rel =>
            have hb4 := HC4.out.below hb3 (fun g _ h => by have : g = p := h; omega) hb3.size
            refine ⟨k + 1, T + N, L ++ [(T : Int)], _, by omega, by omega, by go_num, by go_num, by omega, by simp; omega, (hO3.out.chg HC4.out (fun g hg h => by have := (hO3.out.lt g hg).1; have : g = p := h; omega)).chg ((Chg.refl (fun _ => False) _).alloc _) (by simp), HA4.out.chg ((Chg.refl (fun _ => False) _).alloc _) (by simp) (by simp), ?_, ?_, hb4.alloc hb4.size _, ?_⟩
            · intro i hi
              have := HF0.out i (by omega)
              unfold made; rw [if_neg (by omega), if_neg (by omega)]; exact this
            · have hin := made_in f T N x hN1 hN2 hh1 hh2
              refine chain_snoc (by rw [hin]) (by rw [hin]; show ¬ (1 : Int) = 3; decide) (by rw [hin]) hN1 (chain_congr (fun i hi => ?_) HCH.out)
              unfold made; rw [if_neg (by omega), if_neg (by omega)]
            · have := HC4.out.size
              simp
              omega
          case measure => simp [intOf]; omega
      · by_cases hend : k < len0
        · have h60 : 60 ≤ k := by omega
          go_wp2_with fail
          go_meet
          exact ⟨k, T, L, f, by omega, rfl, hT, hL, hO.out, hA.out, HF0.out, HCH.out, hbw, hBw⟩
        · obtain rfl : k = len0 := by omega
          go_wp2_with fail
          go_meet
          exact ⟨k, T, L, f, by omega, rfl, hT, hL, hO.out, hA.out, HF0.out, HCH.out, hbw, hBw⟩
  case rest =>
  obtain ⟨k, T, L, f, hk2, rfl, hT, hL, hown, har, hf0, hch, hbw, hBw⟩ := hcut
  have hTn : T ≤ 1800 := by omega
  have HS1 := hid (parse_starts _ p q 2000 f 0 T har (by omega) (by omega))
  rw [chain_starts hch] at HS1
  have HS2 := hid (fun w' h => parse_starts w' p q 2000 f 0 (T + 1) h (by omega) (by omega))
  rw [chain_broken hch (hf0 T (by omega))] at HS2
  have e9 : ((T + 1 : Nat) : Int) = (T : Int) + 1 := by omega
  rw [e9] at HS2
  have hO := hid hown
  clear e9 hf0 hch hown har HB hA1
  go_wp2_with (first
    | (go_at_call_of 33 (Value.int IntKind.i64 (T : Int)); refine HS1.out.mono ?_; rintro e w5 ⟨hc5, ha5, t5, rfl, hown5⟩; have HC5 := hid hc5; have HA5 := hid ha5; have HO5 := hid hown5; have hb5 := hc5.below hbw (fun g _ h => by have : g = p := h; omega) hbw.size; clear hc5 ha5 hown5)
    | (go_at_call 33; refine (HS2.out _ HA5.out).mono ?_; rintro e w6 ⟨hc6, ha6, t6, rfl, hown6⟩; have HC6 := hid hc6; have hb6 := hc6.below hb5 (fun g _ h => by have : g = p := h; omega) hb5.size; clear hc6 ha6 hown6)
    | (go_at_call 15; refine (same_true _ _ _ L ((ownInts_reads HO5.out).chg HC6.out (fun g hg h => by have := (HO5.out.lt g hg).1; have : g = p := h; omega)) (((ownInts_reads hO.out).chg HC5.out (fun g hg h => by have := (hO.out.lt g hg).1; have : g = p := h; omega)).chg HC6.out (fun g hg h => by have := (hO.out.lt g hg).1; have : g = p := h; omega)) (by omega)).mono ?_; rintro e w' ⟨rfl, k9, rfl⟩))
  go_ret
  exact ⟨rfl, by (repeat (first | exact hb6 | exact Below.refl _ _ | apply bel_drewN.2 | apply bel_drew.2 | refine Below.setCell ?_ (by first | omega | (simp; done) | (simp; omega)) _ | refine Below.alloc ?_ (by first | omega | (simp; done) | (simp; omega)) _ | refine bel_step (by assumption) (by first | omega | (simp; done) | (simp; omega)) ?_))⟩
end Go.Proofs.Ythmjjmimmbgpaaa
