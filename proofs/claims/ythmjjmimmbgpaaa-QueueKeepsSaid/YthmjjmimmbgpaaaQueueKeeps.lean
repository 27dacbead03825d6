/-
  The walk of QueueKeeps (layer 10).
-/
import Derived.Test.YthmjjmimmbgpaaaQueueLaws
import Derived.Test.YthmjjmimmbgpaaaOpen
set_option linter.unusedVariables false
set_option linter.unusedSimpArgs false
namespace Go.Proofs.Ythmjjmimmbgpaaa
open Go.RowKit

/-- how often a number stands in a list -/
def cnt (l : List Int) : Nat → Int := fun i => ((l.count (i : Int) : Nat) : Int)
theorem cnt_bounds (l : List Int) (i : Nat) : 0 ≤ cnt l i ∧ cnt l i ≤ l.length := by
  unfold cnt
  have := List.count_le_length (a := (i : Int)) (l := l)
  omega
theorem cnt_mid (A rest : List Int) (z : Int) (i : Nat) : cnt (A ++ z :: rest) i = cnt (A ++ rest) i + if (i : Int) = z then 1 else 0 := by
  unfold cnt
  rw [List.count_append, List.count_append, List.count_cons]
  by_cases h : (i : Int) = z
  · subst h; simp; omega
  · have h' : ¬ z = (i : Int) := fun e => h e.symm
    simp [h, h']
theorem cnt_pos {l : List Int} {i : Nat} (h : (i : Int) ∈ l) : 1 ≤ cnt l i := by
  unfold cnt
  have := List.count_pos_iff.2 h
  omega
theorem joins_congr {X Y : Nat → List Int} : ∀ {n : Nat}, (∀ s, s < n → X s = Y s) → joins X n = joins Y n
  | 0, _ => rfl
  | n + 1, h => by
    show joins X n ++ X n = joins Y n ++ Y n
    rw [joins_congr (fun s hs => h s (by omega)), h n (by omega)]
theorem joins_mem {X : Nat → List Int} {z : Int} : ∀ {n : Nat}, z ∈ joins X n ↔ ∃ t, t < n ∧ z ∈ X t
  | 0 => by simp [joins]
  | n + 1 => by
    show z ∈ joins X n ++ X n ↔ _
    rw [List.mem_append, joins_mem]
    constructor
    · rintro (⟨t, h1, h2⟩ | h)
      · exact ⟨t, by omega, h2⟩
      · exact ⟨n, by omega, h⟩
    · rintro ⟨t, h1, h2⟩
      by_cases e : t = n
      · subst e; exact .inr h2
      · exact .inl ⟨t, by omega, h2⟩
theorem joins_upd (L : Nat → List Int) (t : Nat) (l : List Int) (c : Int) : ∀ n, t < n → (joins (upd L t l) n).count c + (L t).count c = (joins L n).count c + l.count c
  | 0, h => by omega
  | n + 1, h => by
    show (joins (upd L t l) n ++ upd L t l n).count c + _ = (joins L n ++ L n).count c + _
    rw [List.count_append, List.count_append]
    by_cases e : n = t
    · subst e
      rw [upd_same, joins_congr (X := upd L n l) (Y := L) (fun s hs => upd_other _ _ (by omega))]
      omega
    · rw [upd_other _ _ e]
      have := joins_upd L t l c n (by omega)
      omega
theorem joins_upd_mem {L : Nat → List Int} {t : Nat} {l : List Int} {z : Int} {n : Nat} (h : z ∈ joins (upd L t l) n) : z ∈ joins L n ∨ z ∈ l := by
  obtain ⟨s, hs, hz⟩ := joins_mem.1 h
  by_cases e : s = t
  · subst e; rw [upd_same] at hz; exact .inr hz
  · rw [upd_other _ _ e] at hz; exact .inl (joins_mem.2 ⟨s, hs, hz⟩)

/-- a card waits: one more of it -/
theorem cnt_short (C : List Int) (L : Nat → List Int) (t n : Nat) (c : Int) (ht : t < n) (i : Nat) : cnt (C ++ joins (upd L t (L t ++ [c])) n) i = cnt (C ++ joins L n) i + if (i : Int) = c then 1 else 0 := by
  unfold cnt
  have h := joins_upd L t (L t ++ [c]) (i : Int) n ht
  rw [List.count_append] at h
  rw [List.count_append, List.count_append]
  by_cases e : (i : Int) = c
  · subst e; simp at h ⊢; omega
  · have e' : ¬ c = (i : Int) := fun x => e x.symm
    simp [e, e'] at h ⊢; omega
/-- a thread's cards go over -/
theorem cnt_full (C : List Int) (L : Nat → List Int) (t n R : Nat) (c : Int) (ht : t < n) (i : Nat) : cnt ((C ++ (L t ++ [c]).take R) ++ joins (upd L t []) n ++ (L t ++ [c]).drop R) i = cnt (C ++ joins L n) i + if (i : Int) = c then 1 else 0 := by
  unfold cnt
  have h := joins_upd L t [] (i : Int) n ht
  have h2 : ((L t ++ [c]).take R).count (i : Int) + ((L t ++ [c]).drop R).count (i : Int) = (L t ++ [c]).count (i : Int) := by rw [← List.count_append, List.take_append_drop]
  rw [List.count_append, List.count_append, List.count_append, List.count_append]
  rw [List.count_append (l₁ := L t)] at h2
  simp only [List.count_nil] at h
  by_cases e : (i : Int) = c
  · subst e; simp at h2 ⊢; omega
  · have e' : ¬ c = (i : Int) := fun x => e x.symm
    simp [e, e'] at h2 ⊢; omega

/-- cards between 0 and 63 -/
def Cards (l : List Int) : Prop := ∀ z, z ∈ l → 0 ≤ z ∧ z ≤ 63

/-- what the law holds fast -/
structure Kept (B x : Nat) (w : World) (p o bound : Nat) (C : List Int) (L : Nat → List Int) (f : Nat → Int) : Prop where
  q : QSt (fun k => k < B ∨ k = x) w p o 3 bound C L
  small : ∀ t, t < 3 → (L t).length ≤ 3
  cards : Cards (C ++ joins L 3)
  row : w.rowIs x 49 64 (fun i => .int .i64 (f i))
  xB : B ≤ x

theorem Kept.len {B x : Nat} {w : World} {p o bound : Nat} {C : List Int} {L : Nat → List Int} {f : Nat → Int} (h : Kept B x w p o bound C L f) : (C ++ joins L 3).length ≤ bound + 9 := by
  have h1 := h.q.clen
  have h2 := joins_small h.small
  rw [List.length_append]
  omega

set_option maxRecDepth 100000 in
set_option maxHeartbeats 4000000 in
theorem queueKeeps (a0 : Int) (a1 : Option Addr) (len1 cap1 : Nat) (z1 : Nat → Nat → Int) (w : World) (w0 : (Lit.int .i64 a0).wf = true) (w1 : IsTab [IntKind.i64, IntKind.i64, IntKind.i64] w a1 len1 z1) :
    Calls Try.prog 4 #[.int .i64 a0, .slice a1 len1 cap1] w fun e w' => e = .returned (.bool true) ∧ Below w.heap.size w w' := by
  have HT := hid w1
  clear w1 w0
  go_enter Try.func4, Try.ntmps4
  go_upto_region 3 with (go_at_call 10; refine (awake10 _).mono ?_; rintro e wa ⟨rfl, hb⟩; have hza := (hb).size; (try simp at hza))
  go_cut [0] (fun s0 wx => (∃ c : Int, 0 ≤ c ∧ c < 20 ∧ s0 = .int .i64 c) ∧ wa = wx)
  case first =>
    have t1 := tmod_bounds a0 20 (by omega)
    go_wp2
    go_meet
    exact ⟨⟨_, by omega, by omega, rfl⟩, rfl⟩
  case rest =>
  obtain ⟨⟨c, hc0, hc1, rfl⟩, rfl⟩ := hcut
  obtain ⟨bound, rfl⟩ := Int.eq_ofNat_of_zero_le hc0
  have hbd : bound < 20 := by omega
  clear hc0 hc1
  go_upto_region 8 with (go_at_call 11; refine (queue_new 3 bound _ (by omega) (by omega) (by omega)).mono ?_; rintro e wb ⟨p, o, rfl, hp, ho, hb1, hq⟩; have hQ := hid hq; clear hq; have hzb := (hb1).size; (try simp at hzb))
  obtain ⟨B, hB⟩ : ∃ B : Nat, B = w.heap.size := ⟨_, rfl⟩
  have HB := hid hB
  go_cut [7, 8] (fun s7 s8 wx => s8 = .int .i64 0 ∧ ∃ x : Nat, s7 = .pointer (some ⟨x, 0, none⟩) ∧ Kept B x wx p o bound [] (fun _ => []) (fun i => cnt [] i) ∧ Below w.heap.size w wx)
  case first =>
    go_wp2
    go_meet
    have hl := hQ.out.lt
    have hpo : ∀ k, QB p o 3 (.slice none 0 0) (fun _ => .slice none 0 0) k → B ≤ k ∧ k < wb.heap.size := fun k hk => by
      refine ⟨?_, hl k hk⟩
      rcases hk with rfl | rfl | hk | ⟨s, _, hk⟩
      · omega
      · omega
      · simp [Value.ownBlock] at hk
      · simp [Value.ownBlock] at hk
    refine ⟨rfl, wb.heap.size, rfl, ⟨⟨_, _, hQ.out.chg ((Chg.refl (fun _ => False) _).alloc _) (by simp), fun k hk h => ?_⟩, fun t _ => by simp, fun z hz => by simp [joins] at hz, ?_, by omega⟩, ?_⟩
    · have := hpo k hk
      rcases h with h | h <;> omega
    · exact World.rowIs_alloc wb (Array.replicate 64 (.int .i64 0)) 49 _ (fun i hi => by simp at hi; simp [hi, cnt])
    · exact Below.alloc (bel_step hb1 hza hb) (by omega) _
  case rest =>
  obtain ⟨rfl, x, rfl, hkept, hbx⟩ := hcut
  have HK0 := hid hkept
  clear hkept hQ hp ho hb1 hb hza hzb hB
  go_upto_block 0 with fail
  go_cut [8, 9, 10, 11, 12, 13, 14, 15] (fun s8 s9 s10 s11 s12 s13 s14 s15 wx => ∃ C L, Kept B x wx p o bound C L (cnt (C ++ joins L 3)) ∧ Below w.heap.size w wx)
  case first =>
    go_wp2_with fail
    go_loopw [8] (fun i wr => ∃ (k : Nat) (C : List Int) (L : Nat → List Int), k ≤ len1 ∧ i = .int .i64 k ∧ Kept B x wr p o bound C L (cnt (C ++ joins L 3)) ∧ Below w.heap.size w wr) (fun i _ => len1 - (intOf i).toNat)
    case atStart => exact ⟨0, _, _, by omega, rfl, HK0.out, hbx⟩
    case round =>
      obtain ⟨k, C, L, hk, rfl, hkept, hbw⟩ := hrel
      have HK := hid hkept
      have hsz := hbw.size
      have hxl : x < wr.heap.size := hkept.row.lt
      clear hkept
      by_cases hgo : k < len1 ∧ k < 400
      · obtain ⟨hlt, hlt2⟩ := hgo
        rcases HT.out with h0 | ⟨ab, off, rfl, hab, hlen, hlm, hcell⟩
        · omega
        obtain ⟨hk0, _⟩ := hcell k hlt 0 .i64 rfl
        obtain ⟨hk1, _⟩ := hcell k hlt 1 .i64 rfl
        obtain ⟨hk2, _⟩ := hcell k hlt 2 .i64 rfl
        have hc0 : wr.cell? ⟨ab, off + k * 3, none⟩ = some (.int .i64 (z1 k 0)) := (hbw.cell (p := ⟨ab, off + k * 3, none⟩) hab).trans hk0
        have hc1 : wr.cell? ⟨ab, off + k * 3 + 1, none⟩ = some (.int .i64 (z1 k 1)) := (hbw.cell (p := ⟨ab, off + k * 3 + 1, none⟩) hab).trans hk1
        have hc2 : wr.cell? ⟨ab, off + k * 3 + 2, none⟩ = some (.int .i64 (z1 k 2)) := (hbw.cell (p := ⟨ab, off + k * 3 + 2, none⟩) hab).trans hk2
        clear hk0 hk1 hk2 hcell
        revert hc0 hc1 hc2
        generalize z1 k 0 = kd
        generalize z1 k 1 = xt
        generalize z1 k 2 = xc
        intro hc0 hc1 hc2
        have hlt' : (k : Int) < (len1 : Int) := by omega
        have hkept' := hid (show Kept B x (wr.alloc (.cells #[.int .i64 kd, .int .i64 xt, .int .i64 xc] 32)) p o bound C L (cnt (C ++ joins L 3)) from
          { HK.out with q := HK.out.q.chg ((Chg.refl (fun _ => False) _).alloc _) (by simp), row := ((Chg.refl (fun _ => False) wr).alloc _).row HK.out.row (by simp) })
        have hbA : Below w.heap.size w (wr.alloc (.cells #[.int .i64 kd, .int .i64 xt, .int .i64 xc] 32)) := hbw.alloc hsz _
        go_upto_block 1 with fail
        go_cut [9, 10, 11, 12, 13, 14, 15] (fun s9 s10 s11 s12 s13 s14 s15 wx => ∃ C L, Kept B x wx p o bound C L (cnt (C ++ joins L 3)) ∧ Below w.heap.size w wx)
        case first =>
          go_upto_region 12 with fail
          go_cut [10] (fun s10 wx => (∃ c : Int, 0 ≤ c ∧ c < 64 ∧ s10 = .int .i64 c) ∧ (wr.alloc (.cells #[.int .i64 kd, .int .i64 xt, .int .i64 xc] 32)) = wx)
          case first =>
            have t1 := tmod_bounds xc 64 (by omega)
            go_wp2
            go_meet
            exact ⟨⟨_, by omega, by omega, rfl⟩, rfl⟩
          case rest =>
          obtain ⟨⟨c, hcc0, hcc1, rfl⟩, rfl⟩ := hcut
          obtain ⟨c, rfl⟩ := Int.eq_ofNat_of_zero_le hcc0
          have hc64 : c < 64 := by omega
          go_upto_region 13 with fail
          go_cut [55] (fun s55 wx => (∃ c : Int, 0 ≤ c ∧ c < 5 ∧ s55 = .int .i64 c) ∧ (wr.alloc (.cells #[.int .i64 kd, .int .i64 xt, .int .i64 xc] 32)) = wx)
          case first =>
            have t1 := tmod_bounds kd 5 (by omega)
            go_wp2
            go_meet
            exact ⟨⟨_, by omega, by omega, rfl⟩, rfl⟩
          case rest =>
          obtain ⟨⟨kc, hkc0, hkc1, rfl⟩, rfl⟩ := hcut
          have hxt : (wr.alloc (.cells #[.int .i64 kd, .int .i64 xt, .int .i64 xc] 32)).cell? ⟨wr.heap.size, 1, none⟩ = some (.int .i64 xt) := by go_simp
          have hxA : x < (wr.alloc (.cells #[.int .i64 kd, .int .i64 xt, .int .i64 xc] 32)).heap.size := by simp; omega
          have hszA := hbA.size
          clear hc0 hc1 hc2 hbw HK hxl hsz hcc0 hcc1
          revert hkept' hbA hxt hxA hszA
          generalize wr.heap.size = xa
          generalize (wr.alloc (.cells #[.int .i64 kd, .int .i64 xt, .int .i64 xc] 32)) = wa
          intro hkept' hbA hxt hxA hszA
          go_upto_block 2 with fail
          go_cut [11, 12, 13, 14, 15, 100, 120] (fun s11 s12 s13 s14 s15 s100 s120 wx => ∃ C L, Kept B x wx p o bound C L (cnt (C ++ joins L 3)) ∧ Below w.heap.size w wx)
          case first =>
            have HB' := HB.out
            have hX : ∀ k, (k < B ∨ k = x) → k < wa.heap.size := fun k hk => by rcases hk with h | h <;> omega
            have HX := hid hX
            have hlen := hkept'.out.len
            clear hX
            by_cases e3 : kc = 3
            · subst e3
              match C, hkept', hlen with
              | [], hkept', _ =>
                go_wp2_with (go_at_call 13; refine (q_pop_none hkept'.out.q).mono ?_; rintro e w' ⟨rfl, rfl⟩)
                go_meet
                exact ⟨[], L, hkept'.out, hbA⟩
              | z :: C', hkept', hlen =>
                have hz := hkept'.out.cards z (by simp)
                obtain ⟨Z, rfl⟩ := Int.eq_ofNat_of_zero_le hz.1
                have hZ : Z < 64 := by omega
                have hv0 : 1 ≤ cnt (((Z : Int) :: C') ++ joins L 3) Z := cnt_pos (by simp)
                have hv1 : cnt (((Z : Int) :: C') ++ joins L 3) Z ≤ 40 := by
                  have := (cnt_bounds (((Z : Int) :: C') ++ joins L 3) Z).2
                  omega
                have HCM := hid (fun i => cnt_mid [] (C' ++ joins L 3) (Z : Int) i)
                have hrow := hkept'.out.row
                have HROW := hid hrow
                have hcl : wa.cell? ⟨x, Z, none⟩ = some (.int .i64 (cnt (((Z : Int) :: C') ++ joins L 3) Z)) := hrow.cell hZ
                have hfz := hrow.frozen Z
                have HV := hid (show cnt (((Z : Int) :: C') ++ joins L 3) Z = cnt (((Z : Int) :: C') ++ joins L 3) Z from rfl)
                clear hrow hz hlen
                revert hv0 hv1 hcl HV
                generalize hvv : cnt (((Z : Int) :: C') ++ joins L 3) Z = v
                have HVV := hid hvv
                clear hvv
                intro hv0 hv1 hcl HV
                have hZ' : (Z : Int) ≤ 63 := by omega
                go_wp2_with (go_at_call 13; refine (q_pop hkept'.out.q).mono ?_; rintro e w1 ⟨rfl, hc1, hq1⟩; have hcl1 := (hc1.cell (b := x) (o := Z) hxA (by simp)).trans hcl; have hfz1 := (hc1.frozen (b := x) (o := Z) hxA (by simp)).trans hfz; have HC1 := hid hc1; have HQ1 := hid hq1; clear hc1 hq1)
                go_meet
                have hrow1 := HC1.out.row HROW.out (by simp)
                have hb1 := HC1.out.below hbA (fun g _ h => by have : ¬ (g < B ∨ g = x) := h; omega) hszA
                have hst : Chg (fun g => g = x) w1 (w1.setCell ⟨x, Z, none⟩ (.int .i64 (v - 1))) := by (repeat (first | with_reducible exact Chg.refl _ _ | with_reducible apply Chg.drewN | with_reducible apply Chg.drew | with_reducible apply Chg.alloc | (with_reducible refine Chg.setCell ?_ ?_ _; rotate_left; focus (first | (refine Or.inr ?_; first | omega | (simp; done) | (simp; omega)) | exact Or.inl (by assumption) | with_reducible exact Or.inl rfl | exact Or.inl (by simp))) | refine Chg.trans ?_ (Chg.of_below (by with_reducible assumption) (fun k h1 h2 => absurd h1 (by first | omega | (simp; omega)))) | refine Chg.trans ?_ (by with_reducible assumption)))
                refine ⟨C', L, ⟨HQ1.out.chg hst (fun g hg => .inr hg), hkept'.out.small, fun y hy => hkept'.out.cards y (by rw [List.cons_append]; exact List.mem_cons_of_mem _ hy), (hrow1.set Z _).congr (fun i hi => ?_), hkept'.out.xB⟩, hst.below hb1 (fun g _ h => by have : g = x := h; have := hkept'.out.xB; omega) hb1.size⟩
                have hm := HCM.out i
                simp only [List.nil_append] at hm
                rw [List.cons_append, hm]
                by_cases e : i = Z
                · subst e
                  have hm2 := HCM.out i
                  simp only [List.nil_append, if_true] at hm2
                  have := HVV.out
                  rw [List.cons_append, hm2] at this
                  simp
                  omega
                · have e' : ¬ (i : Int) = (Z : Int) := by omega
                  simp [e, e']
            have f3 : (kc == 3) = false := by simpa using e3
            by_cases e4 : kc = 4
            · subst e4
              have hle : ¬ ((C.length + (joins L 3).length : Nat) : Int) < (C.length : Int) := by omega
              go_wp2_with (first
                | (go_at_call 20; refine (q_len hkept'.out.q).mono ?_; rintro e w' ⟨rfl, rfl⟩)
                | (go_at_call 21; refine (q_waiting hkept'.out.q hkept'.out.small).mono ?_; rintro e w' ⟨rfl, rfl⟩))
              go_meet
              exact ⟨C, L, hkept'.out, hbA⟩
            have f4 : (kc == 4) = false := by simpa using e4
            clear e3 e4
            obtain ⟨T, hT, hT3⟩ : ∃ T : Nat, (xt.tmod 3 + 3) % 3 = (T : Int) ∧ T < 3 := by
              have t1 := tmod_bounds xt 3 (by omega)
              exact ⟨((xt.tmod 3 + 3) % 3).toNat, by omega, by omega⟩
            have t1 := tmod_bounds xt 3 (by omega)
            have hsm := hkept'.out.small T hT3
            have hv := cnt_bounds (C ++ joins L 3) c
            have hv1 : cnt (C ++ joins L 3) c ≤ 40 := by omega
            have hv0 := hv.1
            have hcl : wa.cell? ⟨x, c, none⟩ = some (.int .i64 (cnt (C ++ joins L 3) c)) := hkept'.out.row.cell hc64
            have hfz := hkept'.out.row.frozen c
            have hc63 : (c : Int) ≤ 63 := by omega
            have HHL := hid hlen
            clear hv hlen
            have hadd : ∀ (w1 : World) (v : Int), v = cnt (C ++ joins L 3) c + 1 → Chg (fun k => ¬ (k < B ∨ k = x)) wa w1 → (w1.setCell ⟨x, c, none⟩ (.int .i64 v)).rowIs x 49 64 (fun i => .int .i64 (cnt (C ++ joins L 3) i + if (i : Int) = (c : Int) then 1 else 0)) := fun w1 v hv hch =>
              ((hch.row hkept'.out.row (by simp)).set c _).congr (fun i _ => by
                by_cases e : i = c
                · subst e; simp [hv]
                · have e' : ¬ (i : Int) = (c : Int) := by omega
                  simp [e, e'])
            have HADD := hid hadd
            have hcM : Cards [(c : Int)] := fun y hy => by simp at hy; omega
            have HCM := hid hcM
            clear hadd hcM
            revert hv0 hv1 hcl HADD
            generalize cnt (C ++ joins L 3) c = v
            intro hv0 hv1 hcl HADD
            by_cases hshort : (L T).length < 3
            · have HS := hid hshort
              clear hshort hsm
              go_upto_block 3 with (go_at_call 18; refine (q_push_short hkept'.out.q HX.out T c hT3 HS.out (by omega)).mono ?_; rintro e w1 ⟨rfl, hc1, hq1⟩; have hcl1 := (hc1.cell (b := x) (o := c) hxA (by simp)).trans hcl; have hfz1 := (hc1.frozen (b := x) (o := c) hxA (by simp)).trans hfz; have HC1 := hid hc1; have HQ1 := hid hq1; clear hc1 hq1)
              have hrow2 := HADD.out w1 (v + 1) rfl HC1.out
              have hb1 := HC1.out.below hbA (fun g _ h => by have : ¬ (g < B ∨ g = x) := h; omega) hszA
              have hst : Chg (fun g => g = x) w1 (w1.setCell ⟨x, c, none⟩ (.int .i64 (v + 1))) := by (repeat (first | with_reducible exact Chg.refl _ _ | with_reducible apply Chg.drewN | with_reducible apply Chg.drew | with_reducible apply Chg.alloc | (with_reducible refine Chg.setCell ?_ ?_ _; rotate_left; focus (first | (refine Or.inr ?_; first | omega | (simp; done) | (simp; omega)) | exact Or.inl (by assumption) | with_reducible exact Or.inl rfl | exact Or.inl (by simp))) | refine Chg.trans ?_ (Chg.of_below (by with_reducible assumption) (fun k h1 h2 => absurd h1 (by first | omega | (simp; omega)))) | refine Chg.trans ?_ (by with_reducible assumption)))
              have hk2 : Kept B x (w1.setCell ⟨x, c, none⟩ (.int .i64 (v + 1))) p o bound C (upd L T (L T ++ [(c : Int)])) (cnt (C ++ joins (upd L T (L T ++ [(c : Int)])) 3)) :=
                ⟨HQ1.out.chg hst (fun g hg => .inr hg), fun s hs => by
                  by_cases e : s = T
                  · subst e; rw [upd_same, List.length_append]; have := HS.out; simp; omega
                  · rw [upd_other _ _ e]; exact hkept'.out.small s hs,
                fun y hy => by
                  rcases List.mem_append.1 hy with h | h
                  · exact hkept'.out.cards y (List.mem_append.2 (.inl h))
                  · rcases joins_upd_mem h with h | h
                    · exact hkept'.out.cards y (List.mem_append.2 (.inr h))
                    · rcases List.mem_append.1 h with h | h
                      · exact hkept'.out.cards y (List.mem_append.2 (.inr (joins_mem.2 ⟨T, hT3, h⟩)))
                      · exact HCM.out y h,
                hrow2.congr (fun i _ => by rw [cnt_short C L T 3 (c : Int) hT3 i]), hkept'.out.xB⟩
              have HK2 := hid hk2
              have HB2 := hid (hst.below hb1 (fun g _ h => by have : g = x := h; have := hkept'.out.xB; omega) hb1.size)
              clear hk2 hst hb1 hrow2 hcl1 hfz1
              revert HK2 HB2
              generalize w1.setCell ⟨x, c, none⟩ (.int .i64 (v + 1)) = w2
              intro HK2 HB2
              go_wp2_with fail
              go_loopw [15] (fun i wr => i = .int .i64 0 ∧ w2 = wr) (fun _ _ => 0)
              case atStart => exact ⟨rfl, rfl⟩
              case round =>
                obtain ⟨rfl, rfl⟩ := hrel
                go_wp2_with fail
                go_meet
                exact ⟨C, _, HK2.out, HB2.out⟩
            · have hl3 := hid (show (L T).length = 3 by omega)
              obtain ⟨R, hR⟩ : ∃ R, R = min (bound - C.length) 4 := ⟨_, rfl⟩
              have HR := hid hR
              clear hR hshort hsm
              go_upto_block 3 with (go_at_call 18; refine (q_push_full hkept'.out.q HX.out T c R hT3 hl3.out (by omega) HR.out).mono ?_; rintro e w1 ⟨tv, rfl, hc1, hq1, hs1, ht1⟩; have hcl1 := (hc1.cell (b := x) (o := c) hxA (by simp)).trans hcl; have hfz1 := (hc1.frozen (b := x) (o := c) hxA (by simp)).trans hfz; have HC1 := hid hc1; have HQ1 := hid hq1; have HS1 := hid hs1; have HT1 := hid ht1; clear hc1 hq1 hs1 ht1)
              have hrow2 := HADD.out w1 (v + 1) rfl HC1.out
              have hb1 := HC1.out.below hbA (fun g _ h => by have : ¬ (g < B ∨ g = x) := h; omega) hszA
              have hst : Chg (fun g => g = x) w1 (w1.setCell ⟨x, c, none⟩ (.int .i64 (v + 1))) := by (repeat (first | with_reducible exact Chg.refl _ _ | with_reducible apply Chg.drewN | with_reducible apply Chg.drew | with_reducible apply Chg.alloc | (with_reducible refine Chg.setCell ?_ ?_ _; rotate_left; focus (first | (refine Or.inr ?_; first | omega | (simp; done) | (simp; omega)) | exact Or.inl (by assumption) | with_reducible exact Or.inl rfl | exact Or.inl (by simp))) | refine Chg.trans ?_ (Chg.of_below (by with_reducible assumption) (fun k h1 h2 => absurd h1 (by first | omega | (simp; omega)))) | refine Chg.trans ?_ (by with_reducible assumption)))
              have hq2 := HQ1.out.chg hst (fun g hg => .inr hg)
              have hcards : ∀ y, y ∈ ((C ++ (L T ++ [(c : Int)]).take R) ++ joins (upd L T []) 3) ++ (L T ++ [(c : Int)]).drop R → 0 ≤ y ∧ y ≤ 63 := fun y hy => by
                have hLT : ∀ y, y ∈ L T ++ [(c : Int)] → 0 ≤ y ∧ y ≤ 63 := fun y hy => by
                  rcases List.mem_append.1 hy with h | h
                  · exact hkept'.out.cards y (List.mem_append.2 (.inr (joins_mem.2 ⟨T, hT3, h⟩)))
                  · exact HCM.out y h
                rcases List.mem_append.1 hy with h | h
                · rcases List.mem_append.1 h with h | h
                  · rcases List.mem_append.1 h with h | h
                    · exact hkept'.out.cards y (List.mem_append.2 (.inl h))
                    · exact hLT y (List.mem_of_mem_take h)
                  · rcases joins_upd_mem h with h | h
                    · exact hkept'.out.cards y (List.mem_append.2 (.inr h))
                    · simp at h
                · exact hLT y (List.mem_of_mem_drop h)
              have hsmall : ∀ s, s < 3 → (upd L T [] s).length ≤ 3 := fun s hs => by
                by_cases e : s = T
                · subst e; rw [upd_same]; simp
                · rw [upd_other _ _ e]; exact hkept'.out.small s hs
              have HCO := hid (show Cards ((L T ++ [(c : Int)]).drop R) from fun y hy => hcards y (List.mem_append.2 (.inr hy)))
              have HCA := hid (show Cards ((C ++ (L T ++ [(c : Int)]).take R) ++ joins (upd L T []) 3) from fun y hy => hcards y (List.mem_append.2 (.inl hy)))
              have HSM := hid hsmall
              have HLEN := hid (show ((C ++ (L T ++ [(c : Int)]).take R) ++ joins (upd L T []) 3).length + ((L T ++ [(c : Int)]).drop R).length ≤ 40 by
                have h1 := hq2.clen
                have h2 := joins_small hsmall
                have h3 : ((L T ++ [(c : Int)]).drop R).length ≤ 4 := by rw [List.length_drop, List.length_append, hl3.out]; first | (simp; done) | (simp; omega)
                rw [List.length_append (bs := joins (upd L T []) 3)]
                omega)
              have HROW2 := hid (hrow2.congr (fun i _ => show _ = Value.int .i64 (cnt (((C ++ (L T ++ [(c : Int)]).take R) ++ joins (upd L T []) 3) ++ (L T ++ [(c : Int)]).drop R) i) by rw [cnt_full C L T 3 R (c : Int) hT3 i]))
              have HSRC := hid (HS1.out.chg hst (fun g hg e => HT1.out g hg (.inr e)))
              have HTX := hid (show ∀ g, tv.ownBlock = some g → ¬ g = x from fun g hg e => HT1.out g hg (.inr e))
              have HQ2 := hid hq2
              have HB2 := hid (hst.below hb1 (fun g _ h => by have : g = x := h; have := hkept'.out.xB; omega) hb1.size)
              have hxB := hkept'.out.xB
              clear hrow2 hb1 hst hq2 hcards hsmall hcl1 hfz1 HS1 HT1 HCM HC1 HQ1
              revert HCO HCA HSM HLEN HROW2 HSRC HTX HQ2 HB2
              generalize w1.setCell ⟨x, c, none⟩ (.int .i64 (v + 1)) = w2
              generalize (L T ++ [(c : Int)]).drop R = O
              generalize C ++ (L T ++ [(c : Int)]).take R = C2
              generalize upd L T [] = L2
              generalize hA : C2 ++ joins L2 3 = A
              have HA := hid hA
              clear hA
              intro HCO HCA HSM HLEN HROW2 HSRC HTX HQ2 HB2
              obtain ⟨At, ct, htv, _⟩ := HSRC.out.reads
              subst htv
              go_wp2_with fail
              go_loopw [15] (fun i wr => ∃ j : Nat, j ≤ O.length ∧ i = .int .i64 j ∧ wr.rowIs x 49 64 (fun i => .int .i64 (cnt (A ++ O.drop j) i)) ∧ Chg (fun g => g = x) w2 wr) (fun i _ => O.length - (intOf i).toNat)
              case atStart => exact ⟨0, by omega, rfl, HROW2.out, Chg.refl _ _⟩
              case round =>
                obtain ⟨j, hj, rfl, hrow, hcw⟩ := hrel
                have HR2 := hid hrow
                have HC2 := hid hcw
                by_cases hlt : j < O.length
                · have hlt' : (j : Int) < (O.length : Int) := by omega
                  have hO40 : O.length ≤ 40 := by have := HLEN.out; omega
                  rcases HSRC.out with ⟨_, hnil⟩ | ⟨g, go', gcap, heq, hgl, hgc⟩
                  · rw [hnil] at hlt; simp at hlt
                  injection heq with x1 x2 x3
                  subst x1
                  have hgx : ¬ g = x := HTX.out g rfl
                  have hzc : wr.cell? ⟨g, go' + j, none⟩ = some (.int .i64 (O.getD j 0)) := (hcw.cell hgl hgx).trans (hgc j hlt)
                  have hmem : O.getD j 0 ∈ O := by
                    rw [List.getD_eq_getElem?_getD, List.getElem?_eq_getElem hlt]
                    exact List.getElem_mem _
                  have hz := HCO.out _ hmem
                  have hdrop := hid (show O.drop j = O.getD j 0 :: O.drop (j + 1) by
                    rw [List.drop_eq_getElem_cons hlt, List.getD_eq_getElem?_getD, List.getElem?_eq_getElem hlt]
                    rfl)
                  clear hgc hmem
                  revert hzc hz hdrop
                  generalize O.getD j 0 = z
                  intro hzc hz hdrop
                  obtain ⟨Z, rfl⟩ := Int.eq_ofNat_of_zero_le hz.1
                  have hZ : Z < 64 := by omega
                  have hZ' : (Z : Int) ≤ 63 := by omega
                  have hcl := hrow.cell hZ
                  have hfz := hrow.frozen Z
                  have hu0 : 1 ≤ cnt (A ++ O.drop j) Z := cnt_pos (by rw [hdrop.out]; simp)
                  have hu1 : cnt (A ++ O.drop j) Z ≤ 40 := by
                    have h1 := (cnt_bounds (A ++ O.drop j) Z).2
                    have h2 := HLEN.out
                    rw [List.length_append, List.length_drop] at h1
                    omega
                  have HM := hid (fun i => cnt_mid A (O.drop (j + 1)) (Z : Int) i)
                  clear hrow hcw hz hgx
                  revert hu0 hu1 hcl
                  generalize hvv : cnt (A ++ O.drop j) Z = u
                  have HVV := hid hvv
                  clear hvv
                  intro hcl hu0 hu1
                  go_wp2_with fail
                  go_roundw
                  case rel =>
                    refine ⟨j + 1, by omega, by go_num, (HR2.out.set Z _).congr (fun i hi => ?_), by (repeat (first | with_reducible exact HC2.out | with_reducible exact Chg.refl _ _ | with_reducible apply Chg.drewN | with_reducible apply Chg.drew | with_reducible apply Chg.alloc | (with_reducible refine Chg.setCell ?_ ?_ _; rotate_left; focus (first | (refine Or.inr ?_; first | omega | (simp; done) | (simp; omega)) | exact Or.inl (by assumption) | with_reducible exact Or.inl rfl | exact Or.inl (by simp))) | refine Chg.trans ?_ (Chg.of_below (by with_reducible assumption) (fun k h1 h2 => absurd h1 (by first | omega | (simp; omega)))) | refine Chg.trans ?_ (by with_reducible assumption)))⟩
                    have hm := HM.out i
                    rw [hdrop.out, hm]
                    by_cases e : i = Z
                    · subst e
                      have hm2 := HM.out i
                      have := HVV.out
                      rw [hdrop.out, hm2] at this
                      simp at this ⊢
                      omega
                    · have e' : ¬ (i : Int) = (Z : Int) := by omega
                      simp [e, e']
                  case measure => simp [intOf]; omega
                · obtain rfl : j = O.length := by omega
                  have hend := hid (show A ++ O.drop O.length = A by rw [List.drop_length, List.append_nil])
                  go_wp2_with fail
                  go_meet
                  refine ⟨C2, L2, ⟨HQ2.out.chg HC2.out (fun g hg => .inr hg), HSM.out, by rw [HA.out]; exact HCA.out, ?_, hxB⟩, HC2.out.below HB2.out (fun g _ h => by have : g = x := h; omega) HB2.out.size⟩
                  rw [HA.out]
                  have := HR2.out
                  rw [hend.out] at this
                  exact this
          case rest =>
          obtain ⟨C', L', hk', hb'⟩ := hcut
          have HK' := hid hk'
          have hcl := hk'.q.clen.1
          clear hk'
          go_wp2_with (go_at_call 20; refine (q_len HK'.out.q).mono ?_; rintro e w' ⟨rfl, rfl⟩)
          go_meet
          exact ⟨C', L', HK'.out, hb'⟩
        case rest =>
        obtain ⟨C', L', hk', hb'⟩ := hcut
        go_wp2_with fail
        go_roundw
        case rel => exact ⟨k + 1, C', L', by omega, by go_num, hk', hb'⟩
        case measure => simp [intOf]; omega
      · by_cases hend : k < len1
        · have h400 : 400 ≤ k := by omega
          go_wp2_with fail
          go_meet
          exact ⟨C, L, HK.out, hbw⟩
        · obtain rfl : k = len1 := by omega
          go_wp2_with fail
          go_meet
          exact ⟨C, L, HK.out, hbw⟩
  case rest =>
  obtain ⟨C, L, hkept, hbw⟩ := hcut
  have HK := hid hkept
  have hlen := hkept.len
  have hxl := hkept.row.lt
  have hsz := hbw.size
  clear hkept HK0 hbx
  go_upto_block 5 with (go_at_call 16; refine (q_drain HK.out.q HK.out.small).mono ?_; rintro e w2 ⟨tv, rfl, ho2, hc2, hq2⟩; have HO2 := hid ho2; have HC2' := hid hc2; have HQ2 := hid hq2; clear ho2 hc2 hq2)
  have HROW2 := hid (show w2.rowIs x 49 64 (fun i => .int .i64 (cnt (([] : List Int) ++ (C ++ joins L 3)) i)) from HC2'.out.row HK.out.row (by simp))
  have HSRC := hid (ownInts_src HO2.out)
  have HTX := hid (show ∀ g, tv.ownBlock = some g → ¬ g = x from fun g hg e => by have := (HO2.out.lt g hg).1; omega)
  have HCO := hid HK.out.cards
  have HLEN := hid (show ([] : List Int).length + (C ++ joins L 3).length ≤ 40 by simp only [List.length_nil]; omega)
  have HB2 := hid (HC2'.out.below hbw (fun g _ h => by have : ¬ (g < B ∨ g = x) := h; have := HB.out; omega) hsz)
  have hxB := HK.out.xB
  clear HK HO2 HC2' hlen
  revert HCO HLEN HROW2 HSRC HTX
  generalize C ++ joins L 3 = O
  generalize hA : ([] : List Int) = A
  have HA := hid hA
  clear hA
  intro HROW2 HSRC HTX HCO HLEN
  obtain ⟨At, ct, htv, _⟩ := HSRC.out.reads
  subst htv
  have HBB := HB.out
  go_wp2_with fail
  go_loopw [17] (fun i wr => ∃ j : Nat, j ≤ O.length ∧ i = .int .i64 j ∧ wr.rowIs x 49 64 (fun i => .int .i64 (cnt (A ++ O.drop j) i)) ∧ Chg (fun g => g = x) w2 wr) (fun i _ => O.length - (intOf i).toNat)
  case atStart => exact ⟨0, by omega, rfl, HROW2.out, Chg.refl _ _⟩
  case round =>
    obtain ⟨j, hj, rfl, hrow, hcw⟩ := hrel
    have HR2 := hid hrow
    have HC2 := hid hcw
    by_cases hlt : j < O.length
    · have hlt' : (j : Int) < (O.length : Int) := by omega
      have hO40 : O.length ≤ 40 := by have := HLEN.out; omega
      rcases HSRC.out with ⟨_, hnil⟩ | ⟨g, go', gcap, heq, hgl, hgc⟩
      · rw [hnil] at hlt; simp at hlt
      injection heq with x1 x2 x3
      subst x1
      have hgx : ¬ g = x := HTX.out g rfl
      have hzc : wr.cell? ⟨g, go' + j, none⟩ = some (.int .i64 (O.getD j 0)) := (hcw.cell hgl hgx).trans (hgc j hlt)
      have hmem : O.getD j 0 ∈ O := by
        rw [List.getD_eq_getElem?_getD, List.getElem?_eq_getElem hlt]
        exact List.getElem_mem _
      have hz := HCO.out _ hmem
      have hdrop := hid (show O.drop j = O.getD j 0 :: O.drop (j + 1) by
        rw [List.drop_eq_getElem_cons hlt, List.getD_eq_getElem?_getD, List.getElem?_eq_getElem hlt]
        rfl)
      clear hgc hmem
      revert hzc hz hdrop
      generalize O.getD j 0 = z
      intro hzc hz hdrop
      obtain ⟨Z, rfl⟩ := Int.eq_ofNat_of_zero_le hz.1
      have hZ : Z < 64 := by omega
      have hZ' : (Z : Int) ≤ 63 := by omega
      have hcl := hrow.cell hZ
      have hfz := hrow.frozen Z
      have hu0 : 1 ≤ cnt (A ++ O.drop j) Z := cnt_pos (by rw [hdrop.out]; simp)
      have hu1 : cnt (A ++ O.drop j) Z ≤ 40 := by
        have h1 := (cnt_bounds (A ++ O.drop j) Z).2
        have h2 := HLEN.out
        rw [List.length_append, List.length_drop] at h1
        omega
      have HM := hid (fun i => cnt_mid A (O.drop (j + 1)) (Z : Int) i)
      clear hrow hcw hz hgx
      revert hu0 hu1 hcl
      generalize hvv : cnt (A ++ O.drop j) Z = u
      have HVV := hid hvv
      clear hvv
      intro hcl hu0 hu1
      go_wp2_with fail
      go_roundw
      case rel =>
        refine ⟨j + 1, by omega, by go_num, (HR2.out.set Z _).congr (fun i hi => ?_), by (repeat (first | with_reducible exact HC2.out | with_reducible exact Chg.refl _ _ | with_reducible apply Chg.drewN | with_reducible apply Chg.drew | with_reducible apply Chg.alloc | (with_reducible refine Chg.setCell ?_ ?_ _; rotate_left; focus (first | (refine Or.inr ?_; first | omega | (simp; done) | (simp; omega)) | exact Or.inl (by assumption) | with_reducible exact Or.inl rfl | exact Or.inl (by simp))) | refine Chg.trans ?_ (Chg.of_below (by with_reducible assumption) (fun k h1 h2 => absurd h1 (by first | omega | (simp; omega)))) | refine Chg.trans ?_ (by with_reducible assumption)))⟩
        have hm := HM.out i
        rw [hdrop.out, hm]
        by_cases e : i = Z
        · subst e
          have hm2 := HM.out i
          have := HVV.out
          rw [hdrop.out, hm2] at this
          simp at this ⊢
          omega
        · have e' : ¬ (i : Int) = (Z : Int) := by omega
          simp [e, e']
      case measure => simp [intOf]; omega
    · obtain rfl : j = O.length := by omega
      have hend := hid (show A ++ O.drop O.length = A by rw [List.drop_length, List.append_nil])
      have hrz := HR2.out
      rw [hend.out, ← HA.out] at hrz
      have HRZ := hid hrz
      have HQ3 := hid (HQ2.out.chg HC2.out (fun g hg => .inr hg))
      have HB3 := hid (HC2.out.below HB2.out (fun g _ h => by have : g = x := h; omega) HB2.out.size)
      clear hrow hcw hrz hlt
      go_wp2_with fail
      go_loopw [18] (fun i w9 => ∃ c : Nat, c ≤ 64 ∧ i = .int .i64 c ∧ wr = w9) (fun i _ => 64 - (intOf i).toNat)
      case atStart => exact ⟨0, by omega, rfl, rfl⟩
      case round =>
        obtain ⟨c, hc, rfl, rfl⟩ := hrel
        by_cases hlt : c < 64
        · have hcl := HRZ.out.cell hlt
          have hcz : cnt ([] : List Int) c = 0 := rfl
          rw [hcz] at hcl
          have hlt' : (c : Int) < 64 := by omega
          go_wp2_with fail
          go_roundw
          case rel => exact ⟨c + 1, by omega, by go_num, by first | trivial | rfl⟩
          case measure => simp [intOf]; omega
        · obtain rfl : c = 64 := by omega
          go_wp2_with (first
            | (go_at_call 20; refine (q_len HQ3.out).mono ?_; rintro e w' ⟨rfl, rfl⟩)
            | (go_at_call 21; refine (q_waiting HQ3.out (fun t _ => by simp)).mono ?_; rintro e w' ⟨rfl, rfl⟩))
          go_ret
          exact ⟨rfl, HB3.out⟩
end Go.Proofs.Ythmjjmimmbgpaaa
