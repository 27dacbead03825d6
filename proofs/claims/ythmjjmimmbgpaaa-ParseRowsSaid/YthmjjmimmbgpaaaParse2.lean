/-
  Contracts of package parse (layer 5): rows of objects, and an object's references.
-/
import Derived.Test.YthmjjmimmbgpaaaParse
import Derived.Laws.OwnMore
set_option linter.unusedVariables false
set_option linter.unusedSimpArgs false
namespace Go.Proofs.Ythmjjmimmbgpaaa
open Go.RowKit

theorem infoInt : (Try.prog.info? 3).map (fun i => (i.zero, i.size, i.bytes)) = some (some (.int .i64 0), 1, 8) := by kernel_rfl

theorem Chg.next {S T : Nat → Prop} {w w1 w2 : World} (h : Chg S w w1) (k : Chg T w1 w2) (hT : ∀ i, i < w.heap.size → T i → S i) : Chg S w w2 :=
  ⟨k.os.trans h.os, k.tape.trans h.tape, k.output.trans h.output, Nat.le_trans h.size k.size, fun i hi hn => (k.block i (Nat.lt_of_lt_of_le hi h.size) (fun ht => hn (hT i hi ht))).trans (h.block i hi hn)⟩

theorem one_lies {w : World} {v : Value} {T : TypeId} {n : Nat} (hn : w.heap.size = n) : ∀ (j : Nat) (u : Value), [v][j]? = some u → (w.alloc (.cells #[v] T)).cell? ((⟨n, 0, none⟩ : Addr).add j) = some u := by
  subst hn
  intro j u hj
  match j, hj with
  | 0, hj => simp at hj; subst hj; simp [Addr.add]

theorem owns_drewN {w : World} {base : Nat} {e : TypeId} {size : Nat} {v : Value} {n : Nat} {xs : List Value} (h : w.ownsRow base e size v n xs) (k : Nat) : (w.drewN k).ownsRow base e size v n xs := h

/-- the row's headers from a on, up to b; 'none' where something is no header -/
def walkFrom (f : Nat → Int) (b : Nat) : Nat → Nat → Option (List Int)
  | 0, _ => some []
  | m + 1, a => if a < b then (if (inAt (f a)).e = 0 ∧ ¬ (inAt (f a)).k = 3 ∧ (a : Int) + (inAt (f a)).s ≤ b then (walkFrom f b m (a + (inAt (f a)).s.toNat)).map ((a : Int) :: ·) else none) else some []

theorem walk_end (f : Nat → Int) (b m a : Nat) (h : b ≤ a) : walkFrom f b m a = some [] := by
  cases m with
  | zero => rfl
  | succ m => unfold walkFrom; rw [if_neg (by omega)]
theorem walk_step (f : Nat → Int) (b m a s : Nat) (h : a < b) (h1 : (inAt (f a)).e = 0) (h2 : ¬ (inAt (f a)).k = 3) (hs : (inAt (f a)).s = s) (h3 : a + s ≤ b) : walkFrom f b (m + 1) a = (walkFrom f b m (a + s)).map ((a : Int) :: ·) := by
  conv => lhs; unfold walkFrom
  rw [if_pos h, if_pos ⟨h1, h2, by omega⟩, hs, Int.toNat_natCast]
theorem walk_stop (f : Nat → Int) (b m a : Nat) (h : a < b) (h1 : ¬ ((inAt (f a)).e = 0 ∧ ¬ (inAt (f a)).k = 3 ∧ (a : Int) + (inAt (f a)).s ≤ b)) : walkFrom f b (m + 1) a = none := by
  unfold walkFrom
  rw [if_pos h, if_neg h1]

/-- a list and an error's number -/
def outs : Option (List Int) → List Int × Int
  | some l => (l, 0)
  | none => ([], 30)

/-- what 'Starts' answers, between right bounds -/
def startsOf (f : Nat → Int) (a b : Nat) : List Int × Int := outs (walkFrom f b (b - a) a)

/-- a slice of whole numbers that lies in a block of the call's own -/
def OwnInts (base : Nat) (w : World) (t : Value) (l : List Int) : Prop := w.ownsRow base 3 1 t l.length (l.map (Value.int .i64))

theorem ownInts_nil (base : Nat) (w : World) : OwnInts base w (.slice none 0 0) [] := World.ownsRow_nil _ _ _ _
theorem OwnInts.chg {S : Nat → Prop} {base : Nat} {w w' : World} {t : Value} {l : List Int} (h : OwnInts base w t l) (c : Chg S w w') (hn : ∀ k, t.ownBlock = some k → ¬ S k) : OwnInts base w' t l := c.owns h hn

set_option maxRecDepth 100000 in
set_option maxHeartbeats 2000000 in
theorem parse_starts (w : World) (p q n : Nat) (f : Nat → Int) (a b : Nat) (h : Arn w p q n f) (h1 : a ≤ b) (h2 : b ≤ n) :
    Calls Try.prog 33 #[.pointer (some ⟨p, 0, none⟩), .int .i64 a, .int .i64 b] w
      fun e w' => Chg (· = p) w w' ∧ Arn w' p q n f ∧ ∃ t, e = .returned (.tuple #[t, .int .i64 (startsOf f a b).2]) ∧ OwnInts w.heap.size w' t (startsOf f a b).1 := by
  have HA := hid h
  have hn := h.bound
  have hpl := h.lt.1
  have hql := h.lt.2
  clear h
  obtain ⟨i0, hi, hz0, hz1, hz2⟩ := info_parts infoInt
  obtain ⟨B, hB⟩ : ∃ B : Nat, B = w.heap.size := ⟨_, rfl⟩
  have hpB : p < B := by omega
  have HB := hid hB
  rw [← hB]
  clear hB
  have hab : (a : Int) ≤ (b : Int) := by omega
  go_enter Try.func33, Try.ntmps33
  go_wp2_with (go_at_call 40; refine (parse_bounds _ p q n f a b HA.out h1 h2).mono ?_; rintro e w' ⟨rfl, rfl⟩)
  go_loopw [9, 10] (fun v i wr => ∃ (k m : Nat) (L : List Int), k ≤ b ∧ b ≤ k + m ∧ L.length ≤ k ∧ i = .int .i64 k ∧ walkFrom f b (b - a) a = (walkFrom f b m k).map (L ++ ·) ∧ OwnInts B wr v L ∧ Chg (· = p) w wr ∧ Arn wr p q n f) (fun _ i _ => b - (intOf i).toNat)
  case atStart => exact ⟨a, b - a, [], by omega, by omega, by simp, rfl, by simp, ownInts_nil _ _, Chg.refl _ _, HA.out⟩
  case round =>
    obtain ⟨k, m, L, hk, hm, hL, rfl, hwalk, hown0, hcw, har⟩ := hrel
    have hO := hid hown0
    have hA := hid har
    have HW := hid hwalk
    have HC := hid hcw
    have hsz : B ≤ wr.heap.size := by rw [HB.out]; exact hcw.size
    clear har hown0 hwalk hcw
    by_cases hlt : k < b
    · obtain ⟨m, rfl⟩ : ∃ m', m = m' + 1 := ⟨m - 1, by omega⟩
      have hlt' : (k : Int) < (b : Int) := by omega
      have hat : atOf n f k = inAt (f k) := by unfold atOf; rw [if_pos (by omega), Int.toNat_natCast]
      have HP := hid (parse_at wr p q n f k (Go.WalkArith.wf_i64 ⟨by omega, by omega⟩) hA.out)
      rw [hat] at HP
      have Hstep := hid (fun s => walk_step f b m k s hlt)
      have Hstop := hid (walk_stop f b m k hlt)
      have hc0 := hid (inAt_cases (f k))
      clear hat
      revert HP Hstep Hstop hc0
      generalize inAt (f k) = I
      generalize hdr (f k) = J
      intro HP Hstep Hstop hc0
      obtain ⟨jk, js, jp, ja, jt, je⟩ := J
      rcases hc0.out with ⟨rfl, g1, g2, g3, g4, g5, _⟩ | ⟨rfl, g1⟩
      · have g1' : je = 0 := g1
        subst g1'
        obtain ⟨S, rfl⟩ : ∃ S : Nat, js = S := ⟨js.toNat, by have : 1 ≤ js := g4; omega⟩
        have g4' : 1 ≤ S := by have : (1 : Int) ≤ (S : Int) := g4; omega
        have g5' : S ≤ 1048576 := by have : (S : Int) ≤ 1048576 := g5; omega
        clear g1 g2 g3 g4 g5 hc0
        simp only [rets] at HP
        by_cases hk3 : jk = 3
        · subst hk3
          have Hs := hid (Hstop.out (fun h => h.2.1 rfl))
          clear Hstop Hstep
          go_wp2_with (go_at_call 32; refine HP.out.mono ?_; rintro e w1 ⟨rfl, hc1, ha1⟩; have HC1 := hid hc1; have HA1 := hid ha1; have hsz1 : B ≤ w1.heap.size := Nat.le_trans hsz hc1.size; clear hc1 ha1)
          go_ret2
          have hst : startsOf f a b = ([], 30) := by unfold startsOf; rw [HW.out, Hs.out]; rfl
          rw [hst]
          exact ⟨(HC.out.trans HC1.out).alloc _, HA1.out.chg ((Chg.refl (fun _ => False) _).alloc _) (by simp) (by simp), _, rfl, ownInts_nil _ _⟩
        by_cases hov : k + S ≤ b
        · have Hs := hid (Hstep.out S rfl hk3 rfl hov)
          have hb3 : (jk == 3) = false := eqb_false hk3
          have hov' : (k : Int) + (S : Int) ≤ (b : Int) := by omega
          clear Hstop Hstep
          go_wp2_with (first
            | (go_at_call 32; refine HP.out.mono ?_; rintro e w1 ⟨rfl, hc1, ha1⟩; have HC1 := hid hc1; have HA1 := hid ha1; have hsz1 : B ≤ w1.heap.size := Nat.le_trans hsz hc1.size; clear hc1 ha1)
            | (at_builtin; refine wpList_append_own _ rfl _ _ 38 rfl B 3 i0 (.int .i64 0) 1 8 Try.underlying38 hi hz0 hz1 hz2 rfl (by decide) _ _ _ rfl ((((HC1.out.owns hO.out (fun g hg e => by have := (hO.out.lt g hg).1; omega))).alloc _).alloc _) ⟨w1.heap.size + 1, 0, none⟩ 1 1 [.int .i64 (k)] rfl rfl ?c1 ?c2 ?c3 ?c4 ?c5 ?_))
          case c1 => exact one_lies (by simp)
          case c2 => intro u hu; simp at hu; subst hu; rfl
          case c3 => unfold maxLen; omega
          case c4 => omega
          case c5 => simp; omega
          intro v' w2 hown' hgrow hblk
          have hO' := hid hown'
          have hG := hid hgrow
          clear hown' hgrow hblk
          have HC2 := hid (((Chg.refl (fun g => B ≤ g) w1).alloc (.cells #[.int .i64 jk, .int .i64 (S : Int), .int .i64 jp, .int .i64 ja, .int .i64 jt] 73)).alloc (.cells #[.int .i64 (k : Int)] 3) |>.grown hG.out (fun g hg => .inl (hO.out.lt g hg).1))
          have hcell : w2.cell? ⟨w1.heap.size, 1, none⟩ = some (.int .i64 (S : Int)) := (World.cell?_of_block (a := ⟨w1.heap.size, 1, none⟩) (hG.out.block w1.heap.size (by simp; omega) (fun e => by have := (hO.out.lt _ e.symm).2; have := HC1.out.size; omega))).trans (by go_simp)
          go_wp2_with fail
          go_roundw
          case rel =>
            refine ⟨k + S, m, L ++ [(k : Int)], by omega, by omega, by simp; omega, by go_num, ?_, ?_, ?_, ?_⟩
            · rw [HW.out, Hs.out, Option.map_map]
              congr 1
              funext l
              simp
            · have := hO'.out
              unfold OwnInts
              rw [List.map_append, List.length_append]
              exact this
            · exact (HC.out.trans HC1.out).next HC2.out (fun g hg h => by have := HB.out; omega)
            · exact HA1.out.chg HC2.out (by omega) (by have := HB.out; omega)
          case measure => simp [intOf]; omega
        · have Hs := hid (Hstop.out (fun h => hov (by have : (k : Int) + (S : Int) ≤ b := h.2.2; omega)))
          have hb3 : (jk == 3) = false := eqb_false hk3
          have hov' : (b : Int) < (k : Int) + (S : Int) := by omega
          clear Hstop Hstep
          go_wp2_with (go_at_call 32; refine HP.out.mono ?_; rintro e w1 ⟨rfl, hc1, ha1⟩; have HC1 := hid hc1; have HA1 := hid ha1; have hsz1 : B ≤ w1.heap.size := Nat.le_trans hsz hc1.size; clear hc1 ha1)
          go_ret2
          have hst : startsOf f a b = ([], 30) := by unfold startsOf; rw [HW.out, Hs.out]; rfl
          rw [hst]
          exact ⟨(HC.out.trans HC1.out).alloc _, HA1.out.chg ((Chg.refl (fun _ => False) _).alloc _) (by simp) (by simp), _, rfl, ownInts_nil _ _⟩
      · have Hs := hid (Hstop.out (fun h => absurd h.1 (by simp)))
        clear Hstop Hstep g1 hc0
        simp only [rets] at HP
        go_wp2_with (go_at_call 32; refine HP.out.mono ?_; rintro e w1 ⟨rfl, hc1, ha1⟩; have HC1 := hid hc1; have HA1 := hid ha1; have hsz1 : B ≤ w1.heap.size := Nat.le_trans hsz hc1.size; clear hc1 ha1)
        go_ret2
        have hst : startsOf f a b = ([], 30) := by unfold startsOf; rw [HW.out, Hs.out]; rfl
        rw [hst]
        exact ⟨(HC.out.trans HC1.out).alloc _, HA1.out.chg ((Chg.refl (fun _ => False) _).alloc _) (by simp) (by simp), _, rfl, ownInts_nil _ _⟩
    · obtain rfl : k = b := by omega
      go_wp2_with fail
      go_ret2
      have hst : startsOf f a k = (L, 0) := by unfold startsOf; rw [HW.out, walk_end f k m k (Nat.le_refl _)]; simp [outs]
      rw [hst]
      exact ⟨HC.out, hA.out, _, rfl, hO.out⟩
end Go.Proofs.Ythmjjmimmbgpaaa
