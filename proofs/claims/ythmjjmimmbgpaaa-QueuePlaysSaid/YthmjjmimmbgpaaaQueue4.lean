/-
  Queues of cards (layer 10): how many wait; all of them are taken.
-/
import Derived.Test.YthmjjmimmbgpaaaQueue3
import Derived.Test.YthmjjmimmbgpaaaConcat
set_option linter.unusedVariables false
set_option linter.unusedSimpArgs false
namespace Go.Proofs.Ythmjjmimmbgpaaa
open Go.RowKit

theorem joins_small {L : Nat → List Int} : ∀ {n : Nat}, (∀ t, t < n → (L t).length ≤ 3) → (joins L n).length ≤ 3 * n
  | 0, _ => by simp [joins]
  | n + 1, h => by
    have h1 := joins_small (n := n) (fun t ht => h t (by omega))
    have h2 := h n (by omega)
    show (joins L n ++ L n).length ≤ _
    rw [List.length_append]
    omega
/-- a list, and lists behind it -/
def front (C : List Int) (L : Nat → List Int) : Nat → List Int := fun j => if j = 0 then C else L (j - 1)
theorem joins_front (C : List Int) (L : Nat → List Int) : ∀ n, joins (front C L) (n + 1) = C ++ joins L n
  | 0 => by simp [joins, front]
  | n + 1 => by
    show joins (front C L) (n + 1) ++ front C L (n + 1) = C ++ (joins L n ++ L n)
    rw [joins_front C L n, List.append_assoc]
    rfl

theorem queue_waiting_nil (w : World) :
    Calls Try.prog 21 #[.pointer none] w fun e w' => e = .returned (.int .i64 0) ∧ w = w' := by
  go_enter Try.func21, Try.ntmps21
  go_wp2_with (go_at_call 20; refine (queue_len_nil _).mono ?_; rintro e w' ⟨rfl, rfl⟩)
  go_ret
  exact ⟨rfl, rfl⟩

set_option maxRecDepth 100000 in
set_option maxHeartbeats 1000000 in
theorem queue_waiting (w : World) (p o n bound : Nat) (cv : Value) (C : List Int) (V : Nat → Value) (L : Nat → List Int) (h : QAt w p o n bound cv C V L) (hL : ∀ t, t < n → (L t).length ≤ 3) :
    Calls Try.prog 21 #[.pointer (some ⟨p, 0, none⟩)] w fun e w' => e = .returned (.int .i64 (C.length + (joins L n).length : Nat)) ∧ w = w' := by
  have H := hid h
  have h1 := h.own
  have hc := h.clen
  have hb := h.bmax
  have hn := h.n64
  have HL := hid hL
  have hj := joins_small hL
  clear h hL
  go_enter Try.func21, Try.ntmps21
  go_wp2_with (go_at_call 20; refine (queue_len _ p o n bound cv C V L H.out).mono ?_; rintro e w' ⟨rfl, rfl⟩)
  go_loopw [3, 5, 15] (fun s3 s5 i wr => ∃ k : Nat, k ≤ n ∧ i = .int .i64 k ∧ s3 = .int .i64 ((C.length + (joins L k).length : Nat) : Int) ∧ w = wr) (fun _ _ i _ => n - (intOf i).toNat)
  case atStart => exact ⟨0, by omega, rfl, rfl, rfl⟩
  case round =>
    obtain ⟨k, hk, rfl, rfl, rfl⟩ := hrel
    by_cases hlt : k < n
    · have hlt' : (k : Int) < (n : Int) := by omega
      have hcl := H.out.row.cell hlt
      obtain ⟨A, c, hv⟩ := (H.out.lists k hlt).shape
      rw [hv] at hcl
      have h2 := hid (show (joins L (k + 1)).length = (joins L k).length + (L k).length by show (joins L k ++ L k).length = _; rw [List.length_append])
      have h3 := joins_small (n := k) (fun t ht => HL.out t (by omega))
      have h4 := HL.out k hlt
      clear hv
      revert h2 h3 h4 hcl
      generalize (joins L k).length = a
      generalize (L k).length = d
      intro hcl h2 h3 h4
      go_wp2_with fail
      go_roundw
      case rel => exact ⟨k + 1, by omega, by go_num, by rw [h2.out]; go_num, by first | trivial | rfl⟩
      case measure => simp [intOf]; omega
    · obtain rfl : k = n := by omega
      go_wp2_with fail
      go_ret
      exact ⟨rfl, rfl⟩

theorem queue_drain_nil (w : World) :
    Calls Try.prog 16 #[.pointer none] w fun e w' => e = .returned (.slice none 0 0) ∧ w = w' := by
  go_enter Try.func16, Try.ntmps16
  go_wp2
  go_ret
  exact ⟨rfl, rfl⟩

theorem zero_ints (w : World) : (zeroValue 38).run Try.prog w = .ok (.slice none 0 0) w := by kernel_rfl

/-- all the lists of a queue, one behind the other -/
theorem queue_concat {w w1 : World} {p o n bound : Nat} {cv : Value} {C : List Int} {V : Nat → Value} {L : Nat → List Int} (h : QAt w p o n bound cv C V L) (hL : ∀ t, t < n → (L t).length ≤ 3) (c : Chg (fun _ => False) w w1) (g cap : Nat)
    (ho : w1.ownsRow 0 38 1 (.slice (some ⟨g, 0, none⟩) (1 + n) cap) (1 + n) ([cv] ++ (List.range n).map V)) :
    Calls Try.prog 35 #[.slice (some ⟨g, 0, none⟩) (1 + n) cap] w1 fun e w' => ∃ t, e = .returned t ∧ Chg (fun _ => False) w1 w' ∧ OwnInts w1.heap.size w' t (C ++ joins L n) := by
  have hjs := joins_small hL
  have hc := h.clen
  have hbm := h.bmax
  have hn := h.n64
  have e : joins (front C L) (1 + n) = C ++ joins L n := by rw [Nat.add_comm]; exact joins_front C L n
  have := concat_ints w1 g (1 + n) cap (fun j => if j = 0 then cv else V (j - 1)) (front C L) (fun j hj => by
      have hx := ho.cells (g := g) rfl j (if j = 0 then cv else V (j - 1)) (by
        by_cases h0 : j = 0
        · subst h0; simp
        · rw [List.getElem?_append_right (by simp; omega), if_neg h0]
          have hj2 : j - 1 < n := by omega
          simp [hj2])
      rw [Go.WideShapes.add_plain, Nat.zero_add] at hx
      exact hx) (fun j hj => by
      by_cases h0 : j = 0
      · subst h0
        exact h.csl.src.chg c (by simp)
      · have hf : front C L j = L (j - 1) := if_neg h0
        rw [hf, if_neg h0]
        exact (ownInts_src (h.lists (j - 1) (by omega))).chg c (by simp)) (ho.lt g rfl).2 (by omega) (by rw [e, List.length_append]; omega)
  rw [e] at this
  exact this

set_option maxRecDepth 100000 in
set_option maxHeartbeats 2000000 in
theorem queue_drain (w : World) (p o n bound : Nat) (cv : Value) (C : List Int) (V : Nat → Value) (L : Nat → List Int) (h : QAt w p o n bound cv C V L) (hL : ∀ t, t < n → (L t).length ≤ 3) :
    Calls Try.prog 16 #[.pointer (some ⟨p, 0, none⟩)] w fun e w' => ∃ t, e = .returned t ∧ OwnInts w.heap.size w' t (C ++ joins L n) ∧ Chg (fun k => k = p ∨ k = o) w w' ∧
      QAt w' p o n bound (.slice none 0 0) [] (fun _ => .slice none 0 0) (fun _ => []) := by
  obtain ⟨i1, hj, hy0, hy1, hy2⟩ := info_parts infoInts
  have H := hid h
  have h1 := h.own
  have h2 := h.com
  have hf := h.fz
  have hc := h.clen
  have hbm := h.bmax
  have hn := h.n64
  have hpl : p < w.heap.size := cell_lt h.bnd
  have hol : o < w.heap.size := h.row.lt
  have hjs := joins_small hL
  have HL := hid hL
  obtain ⟨A, k, hv, hk⟩ := h.shape
  rw [hv] at h2
  have HV := hid hv
  obtain ⟨B, hB⟩ : ∃ B : Nat, B = w.heap.size := ⟨_, rfl⟩
  have HB := hid hB
  rw [← hB]
  clear hB h hL hv
  have hnews := hid (fun (j : Nat) (u : Value) (hu : ((List.range n).map V)[j]? = some u) => (show ∀ w' : World, Chg (fun _ => False) w w' → w'.cell? ((⟨o, 0, none⟩ : Addr).add j) = some u from fun w' c => by
    have hj' : j < n := by
      have := (List.getElem?_eq_some_iff.1 hu).1
      simpa using this
    rw [Go.WideShapes.add_plain, Nat.zero_add, c.cell hol (by simp), H.out.row.cell hj', ← hu]
    simp [hj']))
  have hone := hid (fun (u : Value) (hu : u ∈ (List.range n).map V) => (show u.oneCell' = true by
    rw [List.mem_map] at hu
    obtain ⟨t, ht, rfl⟩ := hu
    obtain ⟨A, c, e⟩ := (H.out.lists t (by simpa using ht)).shape
    rw [e]; rfl))
  go_enter Try.func16, Try.ntmps16
  go_upto_region 3 with fail
  go_region_held3 (fun w' => w'.cell? ⟨p, 1, none⟩ = some (.slice A C.length k) ∧ w'.cell? ⟨p, 2, none⟩ = some (.slice (some ⟨o, 0, none⟩) n n)) (first | exact ⟨h2, h1⟩ | exact ⟨hx1, hx2⟩ | exact ⟨hy5, hy6⟩ | (constructor <;> go_simp))
    (first
      | (refine step_append_lies _ rfl (.tmp 10) (.tmp 14) 45 rfl 0 38 i1 (.slice none 0 0) 1 24 Try.underlying45 hj hy0 hy1 hy2 rfl (by decide) _ 1 [.slice A C.length k] (by simp [Act.eval, Act.put]) (World.ownsRow_lit w.drew #[.slice A C.length k] 1 (Nat.zero_le _) (by decide) rfl) ⟨o, 0, none⟩ n n ((List.range n).map V) (by simp [Act.eval, Act.put]) (by simp) (fun j u hu => hnews.out j u hu _ ((Chg.refl _ w).drew.alloc _)) hone.out H.out.n1 (by unfold maxLen; omega) (by omega) (Nat.zero_le _) _ rfl ?_; intro g cap w1 hown hgrow hat hlt1; have hc1 : Chg (fun _ => False) w w1 := (((Chg.refl (fun _ => False) w).drew.alloc _).next (Chg.grown (Chg.refl (fun b => w.heap.size ≤ b) _) hgrow (fun x hx => .inl (by simp [Value.ownBlock] at hx; omega))) (fun i hi h => absurd hi (by omega))); have hx1 := (hc1.cell (o := 1) hpl (by simp)).trans h2; have hx2 := (hc1.cell (o := 2) hpl (by simp)).trans h1; have HC1 := hid hc1; have HCC := hid (queue_concat H.out HL.out hc1 g cap (by rw [HV.out]; exact hown)); clear hc1 hown hgrow)
      | (go_at_call 35; refine HCC.out.mono ?_; rintro e w2 ⟨tv, rfl, hc2, ho2⟩; have hc3 : Chg (fun _ => False) w w2 := HC1.out.trans hc2; have hy5 := (hc3.cell (o := 1) hpl (by simp)).trans h2; have hy6 := (hc3.cell (o := 2) hpl (by simp)).trans h1; have hf2 := (hc3.frozen (o := 1) hpl (by simp)).trans hf; have HC3 := hid hc3; have HO2 := hid (ownInts_base ho2 (show B ≤ w1.heap.size from HB.out ▸ HC1.out.size)); clear hc2 ho2 hc3))
  go_upto_region 5 with fail
  have hne := H.out.po
  have hc4 : Chg (fun x => x = p) w (w2.setCell ⟨p, 1, none⟩ (.slice none 0 0)) := Chg.setCell (S := fun x => x = p) (p := ⟨p, 1, none⟩) (HC3.out.mono (fun x _ h => absurd h (by simp))) (.inl rfl) _
  have hrow := hc4.row H.out.row (fun e => hne e.symm)
  have hcl : ∀ ty, (Builtin.clear_ #[45] ty #[.slice (some ⟨o, 0, none⟩) n n]).run Try.prog (w2.setCell ⟨p, 1, none⟩ (.slice none 0 0)) = .ok (.tuple #[]) ((w2.setCell ⟨p, 1, none⟩ (.slice none 0 0)).setCells o 0 (List.replicate n (.slice none 0 0))) :=
    fun ty => Lib.run_clear_slice _ 45 38 ty (.slice none 0 0) Try.underlying45 zero_ints rfl rfl o 0 n n H.out.n1 (fun j hj => by rw [hrow.cell (show 0 + j < n by omega)]; rfl) (fun j hj => hrow.frozen _)
  have hrow' := hid (rowIs_setCells (fun _ => .slice none 0 0) (List.replicate n (.slice none 0 0)) 0 _ _ hrow (by simp) (fun j hj => by simp at hj; simp [hj]))
  have HC4 := hid hc4
  have hy7 : (w2.setCell ⟨p, 1, none⟩ (.slice none 0 0)).cell? ⟨p, 2, none⟩ = some (.slice (some ⟨o, 0, none⟩) n n) := by rw [World.cell?_setCell_other _ _ _ _ (by simp)]; exact hy6
  clear hrow hc4
  go_wp2_with (simp only [hcl])
  go_ret
  have hc5 : Chg (fun x => x = o) (w2.setCell ⟨p, 1, none⟩ (.slice none 0 0)) ((w2.setCell ⟨p, 1, none⟩ (.slice none 0 0)).setCells o 0 (List.replicate n (.slice none 0 0))) := (Chg.refl (fun x => x = o) _).setCells (.inl rfl) _ _
  have hpl4 : p < (w2.setCell ⟨p, 1, none⟩ (.slice none 0 0)).heap.size := Nat.lt_of_lt_of_le hpl HC4.out.size
  refine ⟨_, rfl, ?_, ?_, queue_made _ _ _ n bound H.out.n1 hn hbm hne ?_ ?_ ?_ ?_ (hrow'.out.congr (fun i hi => by simp; intro h; omega))⟩
  · have hcx : Chg (fun x => x = p) w2 (w2.setCell ⟨p, 1, none⟩ (.slice none 0 0)) := by (repeat (first | with_reducible exact Chg.refl _ _ | with_reducible apply Chg.drewN | with_reducible apply Chg.drew | with_reducible apply Chg.alloc | (with_reducible refine Chg.setCell ?_ ?_ _; rotate_left; focus (first | (refine Or.inr ?_; first | omega | (simp; done) | (simp; omega)) | exact Or.inl (by assumption) | with_reducible exact Or.inl rfl | exact Or.inl (by simp))) | refine Chg.trans ?_ (Chg.of_below (by with_reducible assumption) (fun k h1 h2 => absurd h1 (by first | omega | (simp; omega)))) | refine Chg.trans ?_ (by with_reducible assumption)))
    refine (HO2.out.chg hcx (fun x hx e => ?_)).chg hc5 (fun x hx e => ?_)
    · have := (HO2.out.lt x hx).1; have := HB.out; omega
    · have := (HO2.out.lt x hx).1; have := HB.out; omega
  · exact (HC4.out.mono (fun x _ h => .inl h)).trans (hc5.mono (fun x _ h => .inr h))
  · rw [hc5.cell hpl4 hne, World.cell?_setCell_other _ _ _ _ (by simp)]
    exact (HC3.out.cell hpl (by simp)).trans H.out.bnd
  · rw [hc5.cell hpl4 hne]
    exact World.cell?_setCell_same' _ _ _ (by rw [hy5]; rfl)
  · rw [hc5.cell hpl4 hne]
    exact hy7
  · rw [hc5.frozen hpl4 hne, World.frozen?_setCell]
    exact hf2
end Go.Proofs.Ythmjjmimmbgpaaa
