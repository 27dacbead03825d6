/-
  Words as headers, in plain functions, and what both Unpacks answer to a word.
-/
import Derived.Test.YthmjjmimmbgpaaaUnpack
set_option linter.unusedVariables false
set_option linter.unusedSimpArgs false
namespace Go.Proofs.Ythmjjmimmbgpaaa
open Go.RowKit

/-- a header and an error's number -/
structure Hdr where
  k : Int
  s : Int
  p : Int
  a : Int
  t : Int
  e : Int

instance (k s p a t : Int) : Decidable (Right k s p a t) := by unfold Right; infer_instance
/-- the word is just what its parts pack to -/
def fit (x : Int) : Prop := Right (x % 4) (x / 4 % 2097152) (decP x) (decA x) (decT x) ∧ wordOf (x % 4) (x / 4 % 2097152) (decP x) (decA x) (decT x) = x
instance (x : Int) : Decidable (fit x) := by unfold fit; infer_instance
/-- what a word unpacks to -/
def hdr (x : Int) : Hdr := if fit x then ⟨x % 4, x / 4 % 2097152, decP x, decA x, decT x, 0⟩ else ⟨0, 0, 0, 0, 0, 30⟩
/-- what stands at a word: a header, not of kind 0 -/
def inAt (x : Int) : Hdr := if (hdr x).k = 0 then ⟨0, 0, 0, 0, 0, 30⟩ else hdr x
/-- what stands at an address -/
def atOf (n : Nat) (f : Nat → Int) (z : Int) : Hdr := if 0 ≤ z ∧ z < n then inAt (f z.toNat) else ⟨0, 0, 0, 0, 0, 2⟩

theorem hdr_cases (x : Int) : ((hdr x).e = 0 ∧ Right (hdr x).k (hdr x).s (hdr x).p (hdr x).a (hdr x).t) ∨ ((hdr x).e = 30 ∧ (hdr x).k = 0 ∧ (hdr x).s = 0 ∧ (hdr x).p = 0 ∧ (hdr x).a = 0 ∧ (hdr x).t = 0) := by
  unfold hdr
  by_cases h : fit x
  · rw [if_pos h]; exact .inl ⟨rfl, h.1⟩
  · rw [if_neg h]; exact .inr ⟨rfl, rfl, rfl, rfl, rfl, rfl⟩

theorem inAt_cases (x : Int) : (inAt x = hdr x ∧ (hdr x).e = 0 ∧ ¬ (hdr x).k = 0 ∧ Right (hdr x).k (hdr x).s (hdr x).p (hdr x).a (hdr x).t ∧ 1 ≤ (hdr x).s ∧ (hdr x).s ≤ 1048576 ∧ 0 ≤ (hdr x).p ∧ (hdr x).p < (hdr x).s) ∨ (inAt x = ⟨0, 0, 0, 0, 0, 30⟩ ∧ (hdr x).k = 0) := by
  unfold inAt
  by_cases h0 : (hdr x).k = 0
  · exact .inr ⟨by rw [if_pos h0], h0⟩
  · rcases hdr_cases x with ⟨h1, h2⟩ | ⟨_, h3, _⟩
    · have h4 := h2
      unfold Right at h4
      exact .inl ⟨by rw [if_neg h0], h1, h0, h2, by omega, by omega, by omega, by omega⟩
    · exact absurd h3 h0

theorem hdr_unpack (x : Int) (h0 : 0 ≤ x) (h1 : x ≤ 18446744073709551615) (w : World) : Calls Try.prog 45 #[.int .u64 x] w (Unpacks (hdr x).k (hdr x).s (hdr x).p (hdr x).a (hdr x).t (hdr x).e w) := by
  have hk : x % 4 = 0 ∨ x % 4 = 1 ∨ x % 4 = 2 ∨ x % 4 = 3 := by omega
  unfold hdr
  rcases hk with hk | hk | hk | hk
  · have hf : fit x ↔ Right 0 (x / 4 % 2097152) 0 0 0 ∧ wordOf 0 (x / 4 % 2097152) 0 0 0 = x := by simp [fit, decP, decA, decT, hk]
    by_cases hR : Right 0 (x / 4 % 2097152) 0 0 0
    · by_cases hw : wordOf 0 (x / 4 % 2097152) 0 0 0 = x
      · rw [if_pos (hf.2 ⟨hR, hw⟩)]; simpa [decP, decA, decT, hk] using unpack0_ok x _ w h0 h1 hk rfl hR hw
      · rw [if_neg (fun h => hw (hf.1 h).2)]; exact unpack0_other x _ w h0 h1 hk rfl hR hw
    · rw [if_neg (fun h => hR (hf.1 h).1)]; exact unpack0_wrong x _ w h0 h1 hk rfl hR
  · have hf : fit x ↔ Right 1 (x / 4 % 2097152) (x / 8388608 % 2097152) (x / 17592186044416 % 8) 0 ∧ wordOf 1 (x / 4 % 2097152) (x / 8388608 % 2097152) (x / 17592186044416 % 8) 0 = x := by simp [fit, decP, decA, decT, hk]
    by_cases hR : Right 1 (x / 4 % 2097152) (x / 8388608 % 2097152) (x / 17592186044416 % 8) 0
    · by_cases hw : wordOf 1 (x / 4 % 2097152) (x / 8388608 % 2097152) (x / 17592186044416 % 8) 0 = x
      · rw [if_pos (hf.2 ⟨hR, hw⟩)]; simpa [decP, decA, decT, hk] using unpack1_ok x _ _ _ w h0 h1 hk rfl rfl rfl hR hw
      · rw [if_neg (fun h => hw (hf.1 h).2)]; exact unpack1_other x _ _ _ w h0 h1 hk rfl rfl rfl hR hw
    · rw [if_neg (fun h => hR (hf.1 h).1)]; exact unpack1_wrong x _ _ _ w h0 h1 hk rfl rfl rfl hR
  · have hf : fit x ↔ Right 2 (x / 4 % 2097152) 0 0 0 ∧ wordOf 2 (x / 4 % 2097152) 0 0 0 = x := by simp [fit, decP, decA, decT, hk]
    by_cases hR : Right 2 (x / 4 % 2097152) 0 0 0
    · by_cases hw : wordOf 2 (x / 4 % 2097152) 0 0 0 = x
      · rw [if_pos (hf.2 ⟨hR, hw⟩)]; simpa [decP, decA, decT, hk] using unpack2_ok x _ w h0 h1 hk rfl hR hw
      · rw [if_neg (fun h => hw (hf.1 h).2)]; exact unpack2_other x _ w h0 h1 hk rfl hR hw
    · rw [if_neg (fun h => hR (hf.1 h).1)]; exact unpack2_wrong x _ w h0 h1 hk rfl hR
  · have hf : fit x ↔ Right 3 (x / 4 % 2097152) 0 0 (x / 8388608 % 4194304) ∧ wordOf 3 (x / 4 % 2097152) 0 0 (x / 8388608 % 4194304) = x := by simp [fit, decP, decA, decT, hk]
    by_cases hR : Right 3 (x / 4 % 2097152) 0 0 (x / 8388608 % 4194304)
    · by_cases hw : wordOf 3 (x / 4 % 2097152) 0 0 (x / 8388608 % 4194304) = x
      · rw [if_pos (hf.2 ⟨hR, hw⟩)]; simpa [decP, decA, decT, hk] using unpack3_ok x _ _ w h0 h1 hk rfl rfl hR hw
      · rw [if_neg (fun h => hw (hf.1 h).2)]; exact unpack3_other x _ _ w h0 h1 hk rfl rfl hR hw
    · rw [if_neg (fun h => hR (hf.1 h).1)]; exact unpack3_wrong x _ _ w h0 h1 hk rfl rfl hR

theorem hdr_runpack (x : Int) (h0 : 0 ≤ x) (h1 : x ≤ 18446744073709551615) (w : World) : Calls Try.prog 50 #[.int .u64 x] w (Unpacks (hdr x).k (hdr x).s (hdr x).p (hdr x).a (hdr x).t (hdr x).e w) := by
  have hk : x % 4 = 0 ∨ x % 4 = 1 ∨ x % 4 = 2 ∨ x % 4 = 3 := by omega
  unfold hdr
  rcases hk with hk | hk | hk | hk
  · have hf : fit x ↔ Right 0 (x / 4 % 2097152) 0 0 0 ∧ wordOf 0 (x / 4 % 2097152) 0 0 0 = x := by simp [fit, decP, decA, decT, hk]
    by_cases hR : Right 0 (x / 4 % 2097152) 0 0 0
    · by_cases hw : wordOf 0 (x / 4 % 2097152) 0 0 0 = x
      · rw [if_pos (hf.2 ⟨hR, hw⟩)]; simpa [decP, decA, decT, hk] using runpack0_ok x _ w h0 h1 hk rfl hR hw
      · rw [if_neg (fun h => hw (hf.1 h).2)]; exact runpack0_other x _ w h0 h1 hk rfl hR hw
    · rw [if_neg (fun h => hR (hf.1 h).1)]; exact runpack0_wrong x _ w h0 h1 hk rfl hR
  · have hf : fit x ↔ Right 1 (x / 4 % 2097152) (x / 8388608 % 2097152) (x / 17592186044416 % 8) 0 ∧ wordOf 1 (x / 4 % 2097152) (x / 8388608 % 2097152) (x / 17592186044416 % 8) 0 = x := by simp [fit, decP, decA, decT, hk]
    by_cases hR : Right 1 (x / 4 % 2097152) (x / 8388608 % 2097152) (x / 17592186044416 % 8) 0
    · by_cases hw : wordOf 1 (x / 4 % 2097152) (x / 8388608 % 2097152) (x / 17592186044416 % 8) 0 = x
      · rw [if_pos (hf.2 ⟨hR, hw⟩)]; simpa [decP, decA, decT, hk] using runpack1_ok x _ _ _ w h0 h1 hk rfl rfl rfl hR hw
      · rw [if_neg (fun h => hw (hf.1 h).2)]; exact runpack1_other x _ _ _ w h0 h1 hk rfl rfl rfl hR hw
    · rw [if_neg (fun h => hR (hf.1 h).1)]; exact runpack1_wrong x _ _ _ w h0 h1 hk rfl rfl rfl hR
  · have hf : fit x ↔ Right 2 (x / 4 % 2097152) 0 0 0 ∧ wordOf 2 (x / 4 % 2097152) 0 0 0 = x := by simp [fit, decP, decA, decT, hk]
    by_cases hR : Right 2 (x / 4 % 2097152) 0 0 0
    · by_cases hw : wordOf 2 (x / 4 % 2097152) 0 0 0 = x
      · rw [if_pos (hf.2 ⟨hR, hw⟩)]; simpa [decP, decA, decT, hk] using runpack2_ok x _ w h0 h1 hk rfl hR hw
      · rw [if_neg (fun h => hw (hf.1 h).2)]; exact runpack2_other x _ w h0 h1 hk rfl hR hw
    · rw [if_neg (fun h => hR (hf.1 h).1)]; exact runpack2_wrong x _ w h0 h1 hk rfl hR
  · have hf : fit x ↔ Right 3 (x / 4 % 2097152) 0 0 (x / 8388608 % 4194304) ∧ wordOf 3 (x / 4 % 2097152) 0 0 (x / 8388608 % 4194304) = x := by simp [fit, decP, decA, decT, hk]
    by_cases hR : Right 3 (x / 4 % 2097152) 0 0 (x / 8388608 % 4194304)
    · by_cases hw : wordOf 3 (x / 4 % 2097152) 0 0 (x / 8388608 % 4194304) = x
      · rw [if_pos (hf.2 ⟨hR, hw⟩)]; simpa [decP, decA, decT, hk] using runpack3_ok x _ _ w h0 h1 hk rfl rfl hR hw
      · rw [if_neg (fun h => hw (hf.1 h).2)]; exact runpack3_other x _ _ w h0 h1 hk rfl rfl hR hw
    · rw [if_neg (fun h => hR (hf.1 h).1)]; exact runpack3_wrong x _ _ w h0 h1 hk rfl rfl hR

theorem hdr_word {k s p a t : Int} (h : Right k s p a t) : hdr (wordOf k s p a t) = ⟨k, s, p, a, t, 0⟩ := by
  have e : wordOf k s p a t % 4 = k ∧ wordOf k s p a t / 4 % 2097152 = s ∧ decP (wordOf k s p a t) = p ∧ decA (wordOf k s p a t) = a ∧ decT (wordOf k s p a t) = t := by
    have hR := h
    unfold Right at hR
    unfold decP decA decT wordOf
    refine ⟨by omega, by omega, ?_, ?_, ?_⟩ <;> split <;> omega
  unfold hdr
  have hf : fit (wordOf k s p a t) := by
    unfold fit
    rw [e.1, e.2.1, e.2.2.1, e.2.2.2.1, e.2.2.2.2]
    exact ⟨h, rfl⟩
  rw [if_pos hf, e.1, e.2.1, e.2.2.1, e.2.2.2.1, e.2.2.2.2]

theorem word_bounds {k s p a t : Int} (h : Right k s p a t) : 0 ≤ wordOf k s p a t ∧ wordOf k s p a t ≤ 18446744073709551615 := by
  unfold Right at h; unfold wordOf; omega

theorem hdr_zero : hdr 0 = ⟨0, 0, 0, 0, 0, 0⟩ := hdr_word (k := 0) (s := 0) (p := 0) (a := 0) (t := 0) (.inl ⟨rfl, rfl, rfl, rfl, rfl⟩)
theorem inAt_zero : inAt 0 = ⟨0, 0, 0, 0, 0, 30⟩ := by unfold inAt; rw [hdr_zero]; rfl
theorem inAt_word {k s p a t : Int} (h : Right k s p a t) (h0 : ¬ k = 0) : inAt (wordOf k s p a t) = ⟨k, s, p, a, t, 0⟩ := by
  unfold inAt; rw [hdr_word h, if_neg h0]
end Go.Proofs.Ythmjjmimmbgpaaa
