/-
  Plain lemmas on a header's word: bits that stand apart add up.
-/
import Derived.Test.YthmjjmimmbgpaaaUtil
import Derived.Laws.Bits64
import Derived.Laws.BitsAllLaws
import Derived.Laws.BitsLemmas
set_option linter.unusedVariables false
namespace Go.Proofs.Ythmjjmimmbgpaaa
open Go.RowKit

theorem nat_or_add (a b i : Nat) (ha : a % 2 ^ i = 0) (hb : b < 2 ^ i) : a ||| b = a + b := by
  have h : a = 2 ^ i * (a / 2 ^ i) := by
    have := Nat.div_add_mod a (2 ^ i)
    omega
  rw [h]
  exact (Nat.two_pow_add_eq_or_of_lt hb _).symm

theorem or_u64 (x y : Int) (hx : 0 ≤ x) (hx1 : x < 18446744073709551616) (hy : 0 ≤ y) (hy1 : y < 18446744073709551616) :
    bits .or .u64 x y = ((x.toNat ||| y.toNat : Nat) : Int) := u64_or x y hx hx1 hy hy1

/-- the word of an object's header -/
theorem word_object (s p a : Int) (h1 : 1 ≤ s) (h2 : s ≤ 1048576) (h3 : 0 ≤ p) (h4 : p < 2097152) (h5 : 0 ≤ a) (h6 : a ≤ 7) :
    bits .or .u64 (bits .or .u64 1 (bits .or .u64 (p * 8388608) (a * 17592186044416))) (s * 4) = 1 + 4 * s + 8388608 * p + 17592186044416 * a := by
  obtain ⟨s, rfl⟩ := Int.eq_ofNat_of_zero_le (show 0 ≤ s by omega)
  obtain ⟨p, rfl⟩ := Int.eq_ofNat_of_zero_le h3
  obtain ⟨a, rfl⟩ := Int.eq_ofNat_of_zero_le h5
  have e1 : bits .or .u64 ((p : Int) * 8388608) ((a : Int) * 17592186044416) = ((a * 17592186044416 + p * 8388608 : Nat) : Int) := by
    rw [or_u64 _ _ (by omega) (by omega) (by omega) (by omega)]
    rw [show ((p : Int) * 8388608).toNat = p * 8388608 by omega, show ((a : Int) * 17592186044416).toNat = a * 17592186044416 by omega, Nat.or_comm,
      nat_or_add (a * 17592186044416) (p * 8388608) 44 (by omega) (by omega)]
  rw [e1, or_u64 1 _ (by omega) (by omega) (by omega) (by omega)]
  rw [or_u64 _ _ (by omega) (by have : ((1 : Int).toNat ||| ((a * 17592186044416 + p * 8388608 : Nat) : Int).toNat) < 2 ^ 63 := Nat.or_lt_two_pow (by decide) (by omega)
                                omega) (by omega) (by omega)]
  rw [show (1 : Int).toNat = 1 from rfl, show ((a * 17592186044416 + p * 8388608 : Nat) : Int).toNat = a * 17592186044416 + p * 8388608 by omega,
    show ((((1 ||| (a * 17592186044416 + p * 8388608) : Nat)) : Int)).toNat = 1 ||| (a * 17592186044416 + p * 8388608) by omega, show ((s : Int) * 4).toNat = s * 4 by omega]
  rw [Nat.or_comm 1, Nat.or_assoc, Nat.or_comm 1, nat_or_add (s * 4) 1 2 (by omega) (by omega), nat_or_add (a * 17592186044416 + p * 8388608) (s * 4 + 1) 23 (by omega) (by omega)]
  omega

/-- the word of a filler's header -/
theorem word_filler (s : Int) (h1 : 1 ≤ s) (h2 : s ≤ 1048576) : bits .or .u64 2 (s * 4) = 2 + 4 * s := by
  obtain ⟨s, rfl⟩ := Int.eq_ofNat_of_zero_le (show 0 ≤ s by omega)
  rw [or_u64 _ _ (by omega) (by omega) (by omega) (by omega), show (2 : Int).toNat = 2 from rfl, show ((s : Int) * 4).toNat = s * 4 by omega, Nat.or_comm, nat_or_add (s * 4) 2 2 (by omega) (by omega)]
  omega

/-- the word of a forward -/
theorem word_forward (s t : Int) (h1 : 1 ≤ s) (h2 : s ≤ 1048576) (h3 : 0 ≤ t) (h4 : t < 4194304) :
    bits .or .u64 (bits .or .u64 3 (t * 8388608)) (s * 4) = 3 + 4 * s + 8388608 * t := by
  obtain ⟨s, rfl⟩ := Int.eq_ofNat_of_zero_le (show 0 ≤ s by omega)
  obtain ⟨t, rfl⟩ := Int.eq_ofNat_of_zero_le h3
  rw [or_u64 3 _ (by omega) (by omega) (by omega) (by omega), show (3 : Int).toNat = 3 from rfl, show ((t : Int) * 8388608).toNat = t * 8388608 by omega, Nat.or_comm 3, nat_or_add (t * 8388608) 3 2 (by omega) (by omega)]
  rw [or_u64 _ _ (by omega) (by omega) (by omega) (by omega), show ((s : Int) * 4).toNat = s * 4 by omega, show ((t * 8388608 + 3 : Nat) : Int).toNat = t * 8388608 + 3 by omega]
  rw [← nat_or_add (t * 8388608) 3 2 (by omega) (by omega), Nat.or_assoc, Nat.or_comm 3, nat_or_add (s * 4) 3 2 (by omega) (by omega), nat_or_add (t * 8388608) (s * 4 + 3) 23 (by omega) (by omega)]
  omega

theorem wraps_u64 (n : Int) (h₀ : 0 ≤ n) (h₁ : n < 2 ^ 64) : IntKind.u64.wrap n = n := by rw [IntKind.wrap_u64]; omega
/-- the lowest bits of a word -/
theorem and_mask (x : Int) (i : Nat) (hi : i ≤ 64) (h0 : 0 ≤ x) (h1 : x < 18446744073709551616) : bits .and .u64 x (2 ^ i - 1) = x % 2 ^ i :=
  bits_mask .u64 64 (by decide) wraps_u64 i hi x h0 (by omega)

end Go.Proofs.Ythmjjmimmbgpaaa
