/-
  Graphs (layer 13): GraphKeeps.
-/
import Derived.Test.YtcdllelbdcacjaaGraph17
set_option linter.unusedVariables false
set_option linter.unusedSimpArgs false
namespace Go.Proofs.Ytcdllelbdcacjaa
open Go.RowKit Go.Maps

theorem IsTab.below {ks : List IntKind} {w w1 : World} {a : Option Addr} {len : Nat} {z : Nat → Nat → Int} (h : IsTab ks w a len z) (hb : Below w.heap.size w w1) : IsTab ks w1 a len z := by
  rcases h with h | ⟨b, off, rfl, hb1, h0, hl, hc⟩
  · exact .inl h
  · exact .inr ⟨b, off, rfl, Nat.lt_of_lt_of_le hb1 hb.size, h0, hl, fun i hi j k hj => ⟨(hb.cell (p := ⟨b, _, none⟩) hb1).trans (hc i hi j k hj).1, (hc i hi j k hj).2⟩⟩

theorem OwnU.most {base : Nat} {w : World} {t : Value} {l : List Int} (h : OwnU base w t l) : l.length ≤ 9223372036854775807 := by
  rcases h.2 with ⟨_, hn⟩ | ⟨g, cap, cur, _, _, _, h1, h2, _⟩
  · omega
  · unfold maxLen at h2; omega

set_option maxRecDepth 100000 in
set_option maxHeartbeats 8000000 in
theorem graphKeeps (a : Option Addr) (len cap : Nat) (z : Nat → Nat → Int) (w : World) (w0 : Acts w a len z) :
    Calls Try.prog 7 #[.slice a len cap] w fun e w' => e = .returned (.bool true) ∧ Below w.heap.size w w' := by
  have H := hid w0
  clear w0
  have tok1 : True := trivial
  go_enter Try.func7, Try.ntmps7
  go_wp2_with (first
    | (go_at_call 25; refine (awake13 _).mono ?_; rintro e wa ⟨rfl, hba⟩; have BA := hid hba; clear hba)
    | (go_at_call 26; refine (heavy_any _ a len cap z (H.out.below BA.out)).mono ?_; rintro e w' ⟨c, nh, rfl, rfl⟩)
    | (go_at_call 27; refine (graph_new _ 3 8 60 (by omega) (by omega) (by omega) (by omega) (by omega) (by omega)).mono ?_; rintro e w1 ⟨b0, rfl, hg0, hb0, hn0⟩; have G0 := hid hg0; have B0 := hid hb0; have N0 := hid hn0; clear hg0 hb0 hn0))
  · go_ret
    exact ⟨rfl, by (repeat (first | exact BA.out | exact Below.refl _ _ | apply bel_drewN.2 | apply bel_drew.2 | refine Below.setCell ?_ (by first | omega | (simp; done) | (simp; omega)) _ | refine Below.alloc ?_ (by first | omega | (simp; done) | (simp; omega)) _ | refine bel_step (by assumption) (by first | omega | (simp; done) | (simp; omega)) ?_))⟩
  have L0 : Low w.heap.size w w1 b0 (GS.fresh 60 8 3) := ⟨(bel_step B0.out BA.out.size (by (repeat (first | exact BA.out | exact Below.refl _ _ | apply bel_drewN.2 | apply bel_drew.2 | refine Below.setCell ?_ (by first | omega | (simp; done) | (simp; omega)) _ | refine Below.alloc ?_ (by first | omega | (simp; done) | (simp; omega)) _ | refine bel_step (by assumption) (by first | omega | (simp; done) | (simp; omega)) ?_)))), fun k hk => by have h1 := N0.out k hk; have h2 := BA.out.size; simp at h1; omega, Nat.le_refl _⟩
  have L0' := hid L0
  clear L0
  go_loopw [5] (fun i wr => ∃ (k : Nat) (b : GB) (g : GS), k ≤ len ∧ k ≤ 100 ∧ i = .int .i64 k ∧ b.p = b0.p ∧ GAt wr b g ∧ Low w.heap.size w wr b g ∧ g.m ≤ k ∧ ∀ s, s < g.n → 0 ≤ g.done s ∧ g.done s ≤ (k : Int)) (fun i _ => len - (intOf i).toNat)
  case atStart => exact ⟨0, b0, _, by omega, by omega, rfl, rfl, G0.out, L0'.out, by simp [GS.fresh], fun s hs => by simp [GS.fresh]⟩
  case round =>
    obtain ⟨k, b, g, hk, hk100, rfl, hp, hg, hL, hm, hd⟩ := hrel
    have G := hid hg
    have L := hid hL
    have HD := hid hd
    have HP := hid hp
    clear hg hL hd hp
    by_cases hlt : k < len
    · by_cases h100 : k < 100
      · have hlt' : (k : Int) < (len : Int) := by omega
        have h100' : decide ((k : Int) < 100) = true := by simp; omega
        have hnx : ((k : Int) < 100) := by omega
        obtain ⟨bs, off, ha, hb, hl, c0, c1, c2, c3, c4, c5⟩ := acts_cells (H.out.below L.out.bel) hlt
        have hbs : bs < w.heap.size := by
          rcases H.out with h | ⟨b', o', h1, h2, _⟩
          · omega
          · rw [ha] at h1; injection h1 with h1; injection h1 with h1; omega
        subst ha
        revert c0 c1 c2 c3 c4 c5
        generalize z k 0 = zt
        generalize z k 1 = z1
        generalize z k 2 = z2
        generalize z k 3 = z3
        generalize z k 4 = z4
        generalize z k 5 = z5
        intro c0 c1 c2 c3 c4 c5
        have hK := run_kept g zt ⟨z1, z2, z3, z4, z5⟩
        obtain ⟨R, hR⟩ : ∃ R, R = g.run zt ⟨z1, z2, z3, z4, z5⟩ := ⟨_, rfl⟩
        rw [← hR] at hK
        have HR := hid hR
        have HK := hid hK
        clear hR hK
        obtain ⟨l, hl⟩ : ∃ l, l = g.shape := ⟨_, rfl⟩
        obtain ⟨nw, hnw⟩ : ∃ nw, nw = g.words := ⟨_, rfl⟩
        have HL := hid hl
        have HNW := hid hnw
        clear hl hnw
        go_upto_region 13 with (first
          | (go_at_call 32; refine (graph_shape_to _ b0.p b g l HP.out (G.out.quiet (by (repeat (first | with_reducible exact Chg.refl _ _ | with_reducible apply Chg.drewN | with_reducible apply Chg.drew | with_reducible apply Chg.alloc | (with_reducible refine Chg.setCell ?_ ?_ _; rotate_left; focus (first | (refine Or.inr ?_; first | omega | (simp; done) | (simp; omega)) | exact Or.inl (by assumption) | with_reducible exact Or.inl rfl | exact Or.inl (by simp))) | refine Chg.trans ?_ (Chg.of_below (by with_reducible assumption) (fun k h1 h2 => absurd h1 (by first | omega | (simp; omega)))) | refine Chg.trans ?_ (by with_reducible assumption))))) HL.out.symm).mono ?_; rintro e w2 ⟨A2, k2, rfl, ho2, hc2⟩; have O2 := hid ho2; have C2 := hid hc2; clear ho2 hc2)
          | (go_at_call 34; refine (graph_words_to _ b0.p b g nw HP.out ((G.out.quiet (by (repeat (first | with_reducible exact Chg.refl _ _ | with_reducible apply Chg.drewN | with_reducible apply Chg.drew | with_reducible apply Chg.alloc | (with_reducible refine Chg.setCell ?_ ?_ _; rotate_left; focus (first | (refine Or.inr ?_; first | omega | (simp; done) | (simp; omega)) | exact Or.inl (by assumption) | with_reducible exact Or.inl rfl | exact Or.inl (by simp))) | refine Chg.trans ?_ (Chg.of_below (by with_reducible assumption) (fun k h1 h2 => absurd h1 (by first | omega | (simp; omega)))) | refine Chg.trans ?_ (by with_reducible assumption))))).quiet C2.out) HNW.out.symm).mono ?_; rintro e w3 ⟨rfl, hc3⟩; have C3 := hid hc3; clear hc3))
        have cc := C2.out.trans C3.out
        have hbr : bs < wr.heap.size := Nat.lt_of_lt_of_le hbs L.out.bel.size
        have d0 := (cc.cell (o := off + k * 6) hbr (by simp)).trans c0
        have d1 := (cc.cell (o := off + k * 6 + 1) hbr (by simp)).trans c1
        have d2 := (cc.cell (o := off + k * 6 + 2) hbr (by simp)).trans c2
        have d3 := (cc.cell (o := off + k * 6 + 3) hbr (by simp)).trans c3
        have d4 := (cc.cell (o := off + k * 6 + 4) hbr (by simp)).trans c4
        have d5 := (cc.cell (o := off + k * 6 + 5) hbr (by simp)).trans c5
        have hb3 : bs < w3.heap.size := Nat.lt_of_lt_of_le hbr cc.size
        have O3 := hid (O2.out.chg C3.out (by simp))
        have G3 := hid (G.out.quiet cc)
        have L3 := hid (L.out.quiet cc)
        have CC := hid cc
        have hwrs := hid (L.out.size)
        have Goff := hid (fun (x : Nat) (hx : wr.heap.size ≤ x) => G.out.off (k := x) hx)
        clear c0 c1 c2 c3 c4 c5 O2 C2 C3 cc G L
        go_cut [8] (fun s8 wx => s8 = .pointer (some ⟨w3.heap.size, 0, none⟩) ∧ Five wx w3.heap.size (.int .i64 z1) (.int .i64 z2) (.int .i64 z3) (.int .i64 z4) (.int .u64 z5) ∧ Chg (fun _ => False) w3 wx ∧ wx.cell? ⟨bs, off + k * 6, none⟩ = some (.int .i64 zt))
        case first =>
          go_wp2_with fail
          go_meet
          exact ⟨rfl, five_new w3 _ _ _ _ _ _, by (repeat (first | with_reducible exact Chg.refl _ _ | with_reducible apply Chg.drewN | with_reducible apply Chg.drew | with_reducible apply Chg.alloc | (with_reducible refine Chg.setCell ?_ ?_ _; rotate_left; focus (first | (refine Or.inr ?_; first | omega | (simp; done) | (simp; omega)) | exact Or.inl (by assumption) | with_reducible exact Or.inl rfl | exact Or.inl (by simp))) | refine Chg.trans ?_ (Chg.of_below (by with_reducible assumption) (fun k h1 h2 => absurd h1 (by first | omega | (simp; omega)))) | refine Chg.trans ?_ (by with_reducible assumption))), by go_simp⟩
        case rest =>
        obtain ⟨rfl, hf, hcc, hct⟩ := hcut
        have F := hid hf
        have hpl := hf.lt
        obtain ⟨e0, e1, e2, e3, e4, _⟩ := hf
        have G4 := hid (G3.out.quiet hcc)
        have L4 := hid (L3.out.quiet hcc)
        have O4 := hid (O3.out.chg hcc (by simp))
        have off8 := hid (fun hb => (G3.out.off (Nat.le_refl _) hb : False))
        have offs := hid (fun hb => (by have := L3.out.low bs hb; omega : False))
        have hbc : bs < wc.heap.size := Nat.lt_of_lt_of_le hb3 hcc.size
        have HCC := hid hcc
        clear d0 d1 d2 d3 d4 d5 hcc
        have hbef := hid (fun x (hx : (Value.slice A2 l.length k2).ownBlock = some x) => (World.ownsRow.lt O4.out x hx))
        have hwr := hid (show w.heap.size ≤ wr.heap.size ∧ wr.heap.size ≤ wc.heap.size by have := CC.out.size; have := HCC.out.size; have := L4.out.bel.size; have := L3.out.bel.size; exact ⟨hwrs.out, by omega⟩)
        have GRc := hid (fun (x : Nat) (hx : wc.heap.size ≤ x) => G4.out.off hx)
        have GR := hid (fun x (hx : wr.heap.size ≤ x) (hb : b.has g.n g.m x) => (Goff.out x hx hb : False))
        have q1 : ¬ bs = wc.heap.size := by omega
        have q2 : ¬ wc.heap.size = bs := by omega
        have q3 : ¬ w3.heap.size = wc.heap.size := by omega
        have q4 : ¬ wc.heap.size = w3.heap.size := by omega
        go_upto_region 14 with fail
        go_cut [9] (fun s9 wx => ∃ (p9 : Nat) (b' : GB), s9 = .pointer (some ⟨p9, 0, none⟩) ∧ b'.p = b0.p ∧ GAt wx b' R.1 ∧ Low w.heap.size w wx b' R.1 ∧ Five wx w3.heap.size (.int .i64 z1) (.int .i64 z2) (.int .i64 z3) (.int .i64 z4) (.int .u64 z5) ∧
          Five wx p9 (.int .i64 R.2.thread) (.int .i64 R.2.op) (.int .i64 R.2.code) (.int .u64 R.2.word) (.bool R.2.bit) ∧ OwnU wr.heap.size wx (.slice A2 l.length k2) l ∧ ∀ x, (Value.slice A2 l.length k2).ownBlock = some x → ¬ b'.has R.1.n R.1.m x)
        case first =>
          go_region_held3 (fun w' => w'.cell? ⟨bs, off + k * 6, none⟩ = some (.int .i64 zt) ∧ w'.cell? ⟨w3.heap.size, 0, none⟩ = some (.int .i64 z1) ∧ w'.cell? ⟨w3.heap.size, 1, none⟩ = some (.int .i64 z2) ∧ w'.cell? ⟨w3.heap.size, 2, none⟩ = some (.int .i64 z3) ∧ w'.cell? ⟨w3.heap.size, 3, none⟩ = some (.int .i64 z4) ∧ w'.cell? ⟨w3.heap.size, 4, none⟩ = some (.int .u64 z5))
            (first | with_reducible exact ⟨hct, e0, e1, e2, e3, e4⟩ | with_reducible exact ⟨y0, y1, y2, y3, y4, y5⟩ | go_keep)
            (first
              | (go_at_call 29; with_reducible show Calls _ _ _ ((wc.alloc _).drew) _; refine (graph_do_to ((wc.alloc (.cells #[.int .i64 0, .int .i64 0, .int .i64 0, .int .u64 0, .bool false] 63)).drew) b0.p b g R.1 R.2 zt z1 z2 z3 z4 z5 HP.out (G4.out.quiet (by (repeat (first | with_reducible exact Chg.refl _ _ | with_reducible apply Chg.drewN | with_reducible apply Chg.drew | with_reducible apply Chg.alloc | (with_reducible refine Chg.setCell ?_ ?_ _; rotate_left; focus (first | (refine Or.inr ?_; first | omega | (simp; done) | (simp; omega)) | exact Or.inl (by assumption) | with_reducible exact Or.inl rfl | exact Or.inl (by simp))) | refine Chg.trans ?_ (Chg.of_below (by with_reducible assumption) (fun k h1 h2 => absurd h1 (by first | omega | (simp; omega)))) | refine Chg.trans ?_ (by with_reducible assumption))))) (fun s hs => (by have := HD.out s hs; omega)) (by omega) HR.out.symm).mono ?_; rintro e w4 ⟨rfl, b4, hs4⟩; have f9 := ((five_new wc (.int .i64 0) (.int .i64 0) (.int .i64 0) (.int .u64 0) (.bool false) 63).chg (S := fun _ => False) ((Chg.refl _ _).drew) (by simp)).chg hs4.chg (GRc.out _ (Nat.le_refl _)); have F9 := hid f9; have hl9 := f9.lt; obtain ⟨v0, v1, v2, v3, v4, vf⟩ := f9; have n9 := hid ((hs4.keep (p := wc.heap.size) (by simp) (GRc.out _ (Nat.le_refl _))).2.1); have hk4 : Chg (b.has g.n g.m) wc w4 := Chg.next (by (repeat (first | with_reducible exact Chg.refl _ _ | with_reducible apply Chg.drewN | with_reducible apply Chg.drew | with_reducible apply Chg.alloc | (with_reducible refine Chg.setCell ?_ ?_ _; rotate_left; focus (first | (refine Or.inr ?_; first | omega | (simp; done) | (simp; omega)) | exact Or.inl (by assumption) | with_reducible exact Or.inl rfl | exact Or.inl (by simp))) | refine Chg.trans ?_ (Chg.of_below (by with_reducible assumption) (fun k h1 h2 => absurd h1 (by first | omega | (simp; omega)))) | refine Chg.trans ?_ (by with_reducible assumption)))) hs4.chg (fun i hi h => h); have y0 := (hk4.cell (o := off + k * 6) hbc offs.out).trans hct; have y1 := (hk4.cell (o := 0) hpl off8.out).trans e0; have y2 := (hk4.cell (o := 1) hpl off8.out).trans e1; have y3 := (hk4.cell (o := 2) hpl off8.out).trans e2; have y4 := (hk4.cell (o := 3) hpl off8.out).trans e3; have y5 := (hk4.cell (o := 4) hpl off8.out).trans e4; have S4 := hid hs4;  clear hs4 hk4)
              | (go_at_call 29; with_reducible show Calls _ _ _ wc.drew _; refine (graph_do_to wc.drew b0.p b g R.1 R.2 zt z1 z2 z3 z4 z5 HP.out (G4.out.quiet (by (repeat (first | with_reducible exact Chg.refl _ _ | with_reducible apply Chg.drewN | with_reducible apply Chg.drew | with_reducible apply Chg.alloc | (with_reducible refine Chg.setCell ?_ ?_ _; rotate_left; focus (first | (refine Or.inr ?_; first | omega | (simp; done) | (simp; omega)) | exact Or.inl (by assumption) | with_reducible exact Or.inl rfl | exact Or.inl (by simp))) | refine Chg.trans ?_ (Chg.of_below (by with_reducible assumption) (fun k h1 h2 => absurd h1 (by first | omega | (simp; omega)))) | refine Chg.trans ?_ (by with_reducible assumption))))) (fun s hs => (by have := HD.out s hs; omega)) (by omega) HR.out.symm).mono ?_; rintro e w4 ⟨rfl, b4, hs4⟩; have hk4 : Chg (b.has g.n g.m) wc w4 := Chg.next (by (repeat (first | with_reducible exact Chg.refl _ _ | with_reducible apply Chg.drewN | with_reducible apply Chg.drew | with_reducible apply Chg.alloc | (with_reducible refine Chg.setCell ?_ ?_ _; rotate_left; focus (first | (refine Or.inr ?_; first | omega | (simp; done) | (simp; omega)) | exact Or.inl (by assumption) | with_reducible exact Or.inl rfl | exact Or.inl (by simp))) | refine Chg.trans ?_ (Chg.of_below (by with_reducible assumption) (fun k h1 h2 => absurd h1 (by first | omega | (simp; omega)))) | refine Chg.trans ?_ (by with_reducible assumption)))) hs4.chg (fun i hi h => h); have y0 := (hk4.cell (o := off + k * 6) hbc offs.out).trans hct; have y1 := (hk4.cell (o := 0) hpl off8.out).trans e0; have y2 := (hk4.cell (o := 1) hpl off8.out).trans e1; have y3 := (hk4.cell (o := 2) hpl off8.out).trans e2; have y4 := (hk4.cell (o := 3) hpl off8.out).trans e3; have y5 := (hk4.cell (o := 4) hpl off8.out).trans e4; have S4 := hid hs4;  clear hs4 hk4))
          all_goals (
            go_wp2_with fail
            go_meet)
          · have hst : Step wc _ b b4 g R.1 := ((Step.refl G4.out (by (repeat (first | with_reducible exact Chg.refl _ _ | with_reducible apply Chg.drewN | with_reducible apply Chg.drew | with_reducible apply Chg.alloc | (with_reducible refine Chg.setCell ?_ ?_ _; rotate_left; focus (first | (refine Or.inr ?_; first | omega | (simp; done) | (simp; omega)) | exact Or.inl (by assumption) | with_reducible exact Or.inl rfl | exact Or.inl (by simp))) | refine Chg.trans ?_ (Chg.of_below (by with_reducible assumption) (fun k h1 h2 => absurd h1 (by first | omega | (simp; omega)))) | refine Chg.trans ?_ (by with_reducible assumption))))).trans S4.out).quiet ((Chg.refl _ w4).alloc (.cells #[.int .i64 R.2.thread, .int .i64 R.2.op, .int .i64 R.2.code, .int .u64 R.2.word, .bool R.2.bit] 63))
            refine ⟨_, b4, rfl, S4.out.p.trans HP.out, hst.at_, L4.out.step hst, F.out.chg hst.chg off8.out, five_new w4 _ _ _ _ _ _, O4.out.chg hst.chg (fun x hx hb => GR.out x (hbef.out x hx).1 hb), fun x hx hb => ?_⟩
            rcases hst.own x hb with h1 | h1
            · exact GR.out x (hbef.out x hx).1 h1
            · have := (hbef.out x hx).2; omega
          · have hst : Step wc _ b b4 g R.1 := ((((((Step.refl G4.out (by (repeat (first | with_reducible exact Chg.refl _ _ | with_reducible apply Chg.drewN | with_reducible apply Chg.drew | with_reducible apply Chg.alloc | (with_reducible refine Chg.setCell ?_ ?_ _; rotate_left; focus (first | (refine Or.inr ?_; first | omega | (simp; done) | (simp; omega)) | exact Or.inl (by assumption) | with_reducible exact Or.inl rfl | exact Or.inl (by simp))) | refine Chg.trans ?_ (Chg.of_below (by with_reducible assumption) (fun k h1 h2 => absurd h1 (by first | omega | (simp; omega)))) | refine Chg.trans ?_ (by with_reducible assumption))))).trans S4.out).poke (Nat.le_refl _) n9.out 0 (.int .i64 R.2.thread)).poke (Nat.le_refl _) n9.out 1 (.int .i64 R.2.op)).poke (Nat.le_refl _) n9.out 2 (.int .i64 R.2.code)).poke (Nat.le_refl _) n9.out 3 (.int .u64 R.2.word)).poke (Nat.le_refl _) n9.out 4 (.bool R.2.bit)
            refine ⟨_, b4, rfl, S4.out.p.trans HP.out, hst.at_, L4.out.step hst, F.out.chg hst.chg off8.out, F9.out.put _ _ _ _ _, O4.out.chg hst.chg (fun x hx hb => GR.out x (hbef.out x hx).1 hb), fun x hx hb => ?_⟩
            rcases hst.own x hb with h1 | h1
            · exact GR.out x (hbef.out x hx).1 h1
            · have := (hbef.out x hx).2; omega
        case rest =>
        obtain ⟨p9, b4, rfl, hp4, hg4, hL4, hf8, hf9, ho4, hnb⟩ := hcut
        have P4 := hid hp4
        have GG := hid hg4
        have LL := hid hL4
        have OO := hid ho4
        have NB := hid hnb
        clear hp4 hg4 hL4 ho4 hnb G4 L4 O4 e0 e1 e2 e3 e4 hct
        obtain ⟨k1, k2', k3, hm4, hd4⟩ := HK.out
        have K1 := hid k1
        have K2 := hid k2'
        obtain ⟨e0, e1, e2, e3, e4, _⟩ := hf8
        obtain ⟨f0, f1, f2, f3, f4, _⟩ := hf9
        clear k1 k2' F q1 q2 q3 q4
        obtain ⟨g4, th, op, cd, wd, bt⟩ := R
        have K1' := K1.out
        have K2' := K2.out
        simp only at f0 f1 f2 f3 f4 hm4 hd4 K1' K2' GG LL NB
        have K3 := hid K1'
        have K4 := hid K2'
        have GG' := hid GG.out
        have LL' := hid LL.out
        have NB' := hid NB.out
        have OO' := hid OO.out
        have HLL := hid OO'.out.most
        have hp9 := cell_lt f0
        clear K1 K2 K1' K2' HR HK GG LL NB OO
        go_upto_region 15 with fail
        go_cut [10] (fun s10 wx => s10 = .bool (asksB z1) ∧ wc = wx)
        case first =>
          by_cases h4 : z1 = 4
          · subst h4; go_wp2_with fail; go_meet; exact ⟨rfl, rfl⟩
          by_cases h9 : z1 = 9
          · subst h9; go_wp2_with fail; go_meet; exact ⟨rfl, rfl⟩
          by_cases h10 : z1 = 10
          · subst h10; go_wp2_with fail; go_meet; exact ⟨rfl, rfl⟩
          by_cases h11 : z1 = 11
          · subst h11; go_wp2_with fail; go_meet; exact ⟨rfl, rfl⟩
          by_cases h12 : z1 = 12
          · subst h12; go_wp2_with fail; go_meet; exact ⟨rfl, rfl⟩
          go_wp2_with fail
          go_meet
          exact ⟨by simp [asksB, h4, h9, h10, h11, h12], rfl⟩
        case rest =>
        obtain ⟨rfl, rfl⟩ := hcut
        obtain ⟨q, hq⟩ : ∃ q, q = asksB z1 := ⟨_, rfl⟩
        rw [← hq] at K3 ⊢
        clear hq
        go_upto_region 16 with fail
        go_cut [90] (fun s wx => s = .bool false ∧ Chg (fun _ => False) wc wx)
        case first =>
          have arms := trivial
          by_cases hc : cd = 0
          · subst hc
            cases q
            · go_wp2_with fail
              go_meet
              exact ⟨rfl, by (repeat (first | with_reducible exact Chg.refl _ _ | with_reducible apply Chg.drewN | with_reducible apply Chg.drew | with_reducible apply Chg.alloc | (with_reducible refine Chg.setCell ?_ ?_ _; rotate_left; focus (first | (refine Or.inr ?_; first | omega | (simp; done) | (simp; omega)) | exact Or.inl (by assumption) | with_reducible exact Or.inl rfl | exact Or.inl (by simp))) | refine Chg.trans ?_ (Chg.of_below (by with_reducible assumption) (fun k h1 h2 => absurd h1 (by first | omega | (simp; omega)))) | refine Chg.trans ?_ (by with_reducible assumption)))⟩
            · obtain ⟨hs, hw⟩ := K3.out (.inr rfl)
              have HS := hid (hs.trans HL.out.symm)
              have HW := hid (hw.trans HNW.out.symm)
              go_wp2_with (first
                | (go_at_call 32; refine (graph_shape_to _ b0.p b4 g4 l P4.out (GG'.out.quiet (by (repeat (first | with_reducible exact Chg.refl _ _ | with_reducible apply Chg.drewN | with_reducible apply Chg.drew | with_reducible apply Chg.alloc | (with_reducible refine Chg.setCell ?_ ?_ _; rotate_left; focus (first | (refine Or.inr ?_; first | omega | (simp; done) | (simp; omega)) | exact Or.inl (by assumption) | with_reducible exact Or.inl rfl | exact Or.inl (by simp))) | refine Chg.trans ?_ (Chg.of_below (by with_reducible assumption) (fun k h1 h2 => absurd h1 (by first | omega | (simp; omega)))) | refine Chg.trans ?_ (by with_reducible assumption))))) HS.out).mono ?_; rintro e w5 ⟨A5, k5, rfl, ho5, hc5⟩; have O5 := hid ho5; have C5 := hid hc5; clear ho5 hc5)
                | (go_at_call 31; refine (same13_true _ _ _ l (intsIn_of O5.out) (intsIn_of (OO'.out.chg C5.out (by simp))) (by have := HLL.out; omega)).mono ?_; rintro e w6 ⟨rfl, k6, rfl⟩)
                | (go_at_call 34; refine (graph_words_to _ b0.p b4 g4 nw P4.out (GG'.out.quiet (C5.out.trans (by (repeat (first | with_reducible exact Chg.refl _ _ | with_reducible apply Chg.drewN | with_reducible apply Chg.drew | with_reducible apply Chg.alloc | (with_reducible refine Chg.setCell ?_ ?_ _; rotate_left; focus (first | (refine Or.inr ?_; first | omega | (simp; done) | (simp; omega)) | exact Or.inl (by assumption) | with_reducible exact Or.inl rfl | exact Or.inl (by simp))) | refine Chg.trans ?_ (Chg.of_below (by with_reducible assumption) (fun k h1 h2 => absurd h1 (by first | omega | (simp; omega)))) | refine Chg.trans ?_ (by with_reducible assumption)))))) HW.out).mono ?_; rintro e w7 ⟨rfl, hc7⟩; have C7 := hid hc7; clear hc7))
              go_meet
              exact ⟨rfl, C5.out.trans (Chg.trans (by (repeat (first | with_reducible exact Chg.refl _ _ | with_reducible apply Chg.drewN | with_reducible apply Chg.drew | with_reducible apply Chg.alloc | (with_reducible refine Chg.setCell ?_ ?_ _; rotate_left; focus (first | (refine Or.inr ?_; first | omega | (simp; done) | (simp; omega)) | exact Or.inl (by assumption) | with_reducible exact Or.inl rfl | exact Or.inl (by simp))) | refine Chg.trans ?_ (Chg.of_below (by with_reducible assumption) (fun k h1 h2 => absurd h1 (by first | omega | (simp; omega)))) | refine Chg.trans ?_ (by with_reducible assumption)))) C7.out)⟩
          · obtain ⟨hs, hw⟩ := K3.out (.inl hc)
            have HS := hid (hs.trans HL.out.symm)
            have HW := hid (hw.trans HNW.out.symm)
            have hc' : (cd != 0) = true := ne_true_of_ne hc
            go_wp2_with (first
              | (go_at_call 32; refine (graph_shape_to _ b0.p b4 g4 l P4.out (GG'.out.quiet (by (repeat (first | with_reducible exact Chg.refl _ _ | with_reducible apply Chg.drewN | with_reducible apply Chg.drew | with_reducible apply Chg.alloc | (with_reducible refine Chg.setCell ?_ ?_ _; rotate_left; focus (first | (refine Or.inr ?_; first | omega | (simp; done) | (simp; omega)) | exact Or.inl (by assumption) | with_reducible exact Or.inl rfl | exact Or.inl (by simp))) | refine Chg.trans ?_ (Chg.of_below (by with_reducible assumption) (fun k h1 h2 => absurd h1 (by first | omega | (simp; omega)))) | refine Chg.trans ?_ (by with_reducible assumption))))) HS.out).mono ?_; rintro e w5 ⟨A5, k5, rfl, ho5, hc5⟩; have O5 := hid ho5; have C5 := hid hc5; clear ho5 hc5)
              | (go_at_call 31; refine (same13_true _ _ _ l (intsIn_of O5.out) (intsIn_of (OO'.out.chg C5.out (by simp))) (by have := HLL.out; omega)).mono ?_; rintro e w6 ⟨rfl, k6, rfl⟩)
              | (go_at_call 34; refine (graph_words_to _ b0.p b4 g4 nw P4.out (GG'.out.quiet (C5.out.trans (by (repeat (first | with_reducible exact Chg.refl _ _ | with_reducible apply Chg.drewN | with_reducible apply Chg.drew | with_reducible apply Chg.alloc | (with_reducible refine Chg.setCell ?_ ?_ _; rotate_left; focus (first | (refine Or.inr ?_; first | omega | (simp; done) | (simp; omega)) | exact Or.inl (by assumption) | with_reducible exact Or.inl rfl | exact Or.inl (by simp))) | refine Chg.trans ?_ (Chg.of_below (by with_reducible assumption) (fun k h1 h2 => absurd h1 (by first | omega | (simp; omega)))) | refine Chg.trans ?_ (by with_reducible assumption)))))) HW.out).mono ?_; rintro e w7 ⟨rfl, hc7⟩; have C7 := hid hc7; clear hc7))
            go_meet
            exact ⟨rfl, C5.out.trans (Chg.trans (by (repeat (first | with_reducible exact Chg.refl _ _ | with_reducible apply Chg.drewN | with_reducible apply Chg.drew | with_reducible apply Chg.alloc | (with_reducible refine Chg.setCell ?_ ?_ _; rotate_left; focus (first | (refine Or.inr ?_; first | omega | (simp; done) | (simp; omega)) | exact Or.inl (by assumption) | with_reducible exact Or.inl rfl | exact Or.inl (by simp))) | refine Chg.trans ?_ (Chg.of_below (by with_reducible assumption) (fun k h1 h2 => absurd h1 (by first | omega | (simp; omega)))) | refine Chg.trans ?_ (by with_reducible assumption)))) C7.out)⟩
        case rest =>
        obtain ⟨rfl, hc9⟩ := hcut
        have h2 := (hc9.cell (o := 2) hp9 (by simp)).trans f2
        have h3 := (hc9.cell (o := 3) hp9 (by simp)).trans f3
        have h4 := (hc9.cell (o := 4) hp9 (by simp)).trans f4
        have G5 := hid (GG'.out.quiet hc9)
        have L5 := hid (LL'.out.quiet hc9)
        have O5 := hid (OO'.out.chg hc9 (by simp))
        have hp9' : p9 < wc.heap.size := Nat.lt_of_lt_of_le hp9 hc9.size
        clear e0 e1 e2 e3 e4 f0 f1 f2 f3 f4 hc9 K3 hpl GG' LL' OO' hp9
        go_upto_region 18 with fail
        go_cut [102] (fun s wx => s = .bool false ∧ wc = wx)
        case first =>
          by_cases hc : cd = 0
          · subst hc
            go_wp2_with fail
            go_meet
            exact ⟨rfl, rfl⟩
          · obtain ⟨rfl, rfl⟩ := K4.out hc
            have hc' : (cd != 0) = true := ne_true_of_ne hc
            go_wp2_with fail
            go_meet
            exact ⟨rfl, rfl⟩
        case rest =>
        obtain ⟨rfl, rfl⟩ := hcut
        have HD4 := hid hd4
        have HLW := hid hwrs.out
        clear h2 h3 h4 hd4 K4
        go_wp2_with fail
        go_loopw [11] (fun i wq => ∃ (j : Nat) (xs : List Value), j ≤ l.length ∧ i = .int .i64 j ∧ wq.ownsRow w.heap.size 29 1 (.slice A2 l.length k2) l.length xs ∧ GAt wq b4 g4 ∧ Low w.heap.size w wq b4 g4) (fun i _ => l.length - (intOf i).toNat)
        case atStart => exact ⟨0, _, by omega, rfl, ownU_base O5.out HLW.out, G5.out, L5.out⟩
        case round =>
          obtain ⟨j, xs, hj, rfl, ho, hg, hL⟩ := hrel
          have HX := hid ho
          have HG := hid hg
          have HLo := hid hL
          clear ho hg hL
          by_cases hjl : j < l.length
          · have hjl' : (j : Int) < (l.length : Int) := by omega
            have hmost := HLL.out
            obtain ⟨x, cap', hv, hg1, hg2⟩ := HX.out.form (by omega)
            simp only [Value.slice.injEq, true_and] at hv
            obtain ⟨rfl, rfl⟩ := hv
            have hlx := HX.out.1
            have hcj := HX.out.cellAt j (by omega)
            have hfj := HX.out.frozenAt j
            rw [List.getElem?_eq_getElem (by omega)] at hcj
            go_wp2_with fail
            go_roundw
            case rel =>
              have hcg : Chg (fun y => y = x) wr (wr.setCell ⟨x, j, none⟩ (.int .u64 99)) := (Chg.refl (fun y => y = x) wr).setCell (p := ⟨x, j, none⟩) (.inl rfl) _
              exact ⟨j + 1, _, by omega, by go_num, (HX.out.stored j (.int .u64 99)).1, HG.out.chg hcg (fun y hy e => NB'.out x rfl (e ▸ hy)), HLo.out.chg hcg (fun y _ e => by omega)⟩
            case measure => simp [intOf]; omega
          · obtain rfl : j = l.length := by omega
            go_wp2_with fail
            go_roundw
            case rel =>
              refine ⟨k + 1, b4, g4, by omega, by omega, by go_num, P4.out, HG.out, HLo.out, by omega, fun s hs => ?_⟩
              have h1 := HD.out s (by omega)
              have h2 := HD4.out s
              rcases h2 with h2 | h2 <;> rw [h2] <;> constructor <;> omega
            case measure => simp [intOf]; omega
      · have h100' : decide ((k : Int) < 100) = false := by simp; omega
        have hnx : ¬ ((k : Int) < 100) := by omega
        have hlt' : (k : Int) < (len : Int) := by omega
        go_wp2_with fail
        go_ret
        exact ⟨rfl, L.out.bel⟩
    · obtain rfl : k = len := by omega
      go_wp2_with fail
      go_ret
      exact ⟨rfl, L.out.bel⟩
end Go.Proofs.Ytcdllelbdcacjaa
