/-
  Contracts of Unpack, the program's and the reference's (layer 4).
-/
import Derived.Test.YthmjjmimmbgpaaaHeadRef
set_option linter.unusedVariables false
namespace Go.Proofs.Ythmjjmimmbgpaaa
open Go.RowKit

/-- what Unpack answers -/
def Unpacks (k s p a t e : Int) (w : World) (x : Ending) (w' : World) : Prop :=
  x = .returned (.tuple #[.agg #[.int .i64 k, .int .i64 s, .int .i64 p, .int .i64 a, .int .i64 t], .int .i64 e]) ∧ Below w.heap.size w w'

set_option maxRecDepth 100000 in
theorem part2 (x s : Int) (w : World) (h0 : 0 ≤ x) (h1 : x ≤ 18446744073709551615) (h : x / 4 % 2097152 = s) :
    Calls Try.prog 51 #[.int .u64 x, .int .u64 2, .int .u64 21] w fun e w' => e = .returned (.int .i64 s) ∧ w = w' := by
  have e1 : bits .and .u64 (x / 4) 2097151 = s := (and_mask (x / 4) 21 (by omega) (by omega) (by omega)).trans h
  have h2 : 0 ≤ s := by omega
  have h3 : s < 2097152 := by omega
  clear h
  go_enter Try.func51, Try.ntmps51
  go_wp2
  go_ret
  exact ⟨rfl, rfl⟩

set_option maxRecDepth 100000 in
theorem part23 (x s : Int) (w : World) (h0 : 0 ≤ x) (h1 : x ≤ 18446744073709551615) (h : x / 8388608 % 2097152 = s) :
    Calls Try.prog 51 #[.int .u64 x, .int .u64 23, .int .u64 21] w fun e w' => e = .returned (.int .i64 s) ∧ w = w' := by
  have e1 : bits .and .u64 (x / 8388608) 2097151 = s := (and_mask (x / 8388608) 21 (by omega) (by omega) (by omega)).trans h
  have h2 : 0 ≤ s := by omega
  have h3 : s < 2097152 := by omega
  clear h
  go_enter Try.func51, Try.ntmps51
  go_wp2
  go_ret
  exact ⟨rfl, rfl⟩

set_option maxRecDepth 100000 in
theorem part22 (x s : Int) (w : World) (h0 : 0 ≤ x) (h1 : x ≤ 18446744073709551615) (h : x / 8388608 % 4194304 = s) :
    Calls Try.prog 51 #[.int .u64 x, .int .u64 23, .int .u64 22] w fun e w' => e = .returned (.int .i64 s) ∧ w = w' := by
  have e1 : bits .and .u64 (x / 8388608) 4194303 = s := (and_mask (x / 8388608) 22 (by omega) (by omega) (by omega)).trans h
  have h2 : 0 ≤ s := by omega
  have h3 : s < 4194304 := by omega
  clear h
  go_enter Try.func51, Try.ntmps51
  go_wp2
  go_ret
  exact ⟨rfl, rfl⟩

set_option maxRecDepth 100000 in
theorem part44 (x s : Int) (w : World) (h0 : 0 ≤ x) (h1 : x ≤ 18446744073709551615) (h : x / 17592186044416 % 8 = s) :
    Calls Try.prog 51 #[.int .u64 x, .int .u64 44, .int .u64 3] w fun e w' => e = .returned (.int .i64 s) ∧ w = w' := by
  have e1 : bits .and .u64 (x / 17592186044416) 7 = s := (and_mask (x / 17592186044416) 3 (by omega) (by omega) (by omega)).trans h
  have h2 : 0 ≤ s := by omega
  have h3 : s < 8 := by omega
  clear h
  go_enter Try.func51, Try.ntmps51
  go_wp2
  go_ret
  exact ⟨rfl, rfl⟩

def decP (x : Int) : Int := if x % 4 = 1 then x / 8388608 % 2097152 else 0
def decA (x : Int) : Int := if x % 4 = 1 then x / 17592186044416 % 8 else 0
def decT (x : Int) : Int := if x % 4 = 3 then x / 8388608 % 4194304 else 0

set_option maxRecDepth 100000 in
set_option maxHeartbeats 1000000 in
theorem unpack0_ok (x s : Int) (w : World) (h0 : 0 ≤ x) (h1 : x ≤ 18446744073709551615) (hk : x % 4 = 0) (hs : x / 4 % 2097152 = s) (hR : Right 0 s 0 0 0) (hw : wordOf 0 s 0 0 0 = x) :
    Calls Try.prog 45 #[.int .u64 x] w (Unpacks 0 s 0 0 0 0 w) := by
  have HR := hid hR
  have HS := hid hs
  have bs0 : 0 ≤ s := by omega
  have bs1 : s < 2097152 := by omega
  have HW := hid hw
  have e1 : bits .and .u64 x 3 = 0 := (and_mask x 2 (by omega) h0 (by omega)).trans hk
  clear hR hs hk hw
  go_enter Try.func45, Try.ntmps45
  go_wp2_with (first
    | (go_at_call_of 51 (Value.int IntKind.u64 2); refine (part2 x s _ h0 h1 HS.out).mono ?_; rintro e w' ⟨rfl, rfl⟩)
    | (go_at_call 36; refine (pack_right 0 s 0 0 0 _ HR.out).mono ?_; rintro e w' ⟨rfl, rfl⟩; rw [HW.out]))
  refine bodyPost_ret (v := .tuple #[.agg #[.int .i64 0, .int .i64 s, .int .i64 0, .int .i64 0, .int .i64 0], .int .i64 0]) (by simp [results, Try.results45, go_sem]) rfl ⟨rfl, ?_⟩
  (repeat (first | exact Below.refl _ _ | exact Below.refl _ _ | apply bel_drewN.2 | apply bel_drew.2 | refine Below.setCell ?_ (by first | omega | (simp; done) | (simp; omega)) _ | refine Below.alloc ?_ (by first | omega | (simp; done) | (simp; omega)) _ | refine bel_step (by assumption) (by first | omega | (simp; done) | (simp; omega)) ?_))

set_option maxRecDepth 100000 in
set_option maxHeartbeats 1000000 in
theorem unpack0_other (x s : Int) (w : World) (h0 : 0 ≤ x) (h1 : x ≤ 18446744073709551615) (hk : x % 4 = 0) (hs : x / 4 % 2097152 = s) (hR : Right 0 s 0 0 0) (hw : ¬ wordOf 0 s 0 0 0 = x) :
    Calls Try.prog 45 #[.int .u64 x] w (Unpacks 0 0 0 0 0 30 w) := by
  have HR := hid hR
  have HS := hid hs
  have bs0 : 0 ≤ s := by omega
  have bs1 : s < 2097152 := by omega
  have HB := eqb_false hw
  have HB1 : (wordOf 0 s 0 0 0 != x) = true := by simpa using hw
  have e1 : bits .and .u64 x 3 = 0 := (and_mask x 2 (by omega) h0 (by omega)).trans hk
  clear hR hs hk hw
  go_enter Try.func45, Try.ntmps45
  go_wp2_with (first
    | (go_at_call_of 51 (Value.int IntKind.u64 2); refine (part2 x s _ h0 h1 HS.out).mono ?_; rintro e w' ⟨rfl, rfl⟩)
    | (go_at_call 36; refine (pack_right 0 s 0 0 0 _ HR.out).mono ?_; rintro e w' ⟨rfl, rfl⟩))
  refine bodyPost_ret (v := .tuple #[.agg #[.int .i64 0, .int .i64 0, .int .i64 0, .int .i64 0, .int .i64 0], .int .i64 30]) (by simp [results, Try.results45, go_sem]) rfl ⟨rfl, ?_⟩
  (repeat (first | exact Below.refl _ _ | exact Below.refl _ _ | apply bel_drewN.2 | apply bel_drew.2 | refine Below.setCell ?_ (by first | omega | (simp; done) | (simp; omega)) _ | refine Below.alloc ?_ (by first | omega | (simp; done) | (simp; omega)) _ | refine bel_step (by assumption) (by first | omega | (simp; done) | (simp; omega)) ?_))

set_option maxRecDepth 100000 in
set_option maxHeartbeats 1000000 in
theorem unpack0_wrong (x s : Int) (w : World) (h0 : 0 ≤ x) (h1 : x ≤ 18446744073709551615) (hk : x % 4 = 0) (hs : x / 4 % 2097152 = s) (hR : ¬ Right 0 s 0 0 0) :
    Calls Try.prog 45 #[.int .u64 x] w (Unpacks 0 0 0 0 0 30 w) := by
  have HR := hid hR
  have HS := hid hs
  have bs0 : 0 ≤ s := by omega
  have bs1 : s < 2097152 := by omega
  have e1 : bits .and .u64 x 3 = 0 := (and_mask x 2 (by omega) h0 (by omega)).trans hk
  clear hR hs hk
  go_enter Try.func45, Try.ntmps45
  go_wp2_with (first
    | (go_at_call_of 51 (Value.int IntKind.u64 2); refine (part2 x s _ h0 h1 HS.out).mono ?_; rintro e w' ⟨rfl, rfl⟩)
    | (go_at_call 36; refine (pack_wrong 0 s 0 0 0 _ HR.out).mono ?_; rintro e w' ⟨rfl, rfl⟩))
  refine bodyPost_ret (v := .tuple #[.agg #[.int .i64 0, .int .i64 0, .int .i64 0, .int .i64 0, .int .i64 0], .int .i64 30]) (by simp [results, Try.results45, go_sem]) rfl ⟨rfl, ?_⟩
  (repeat (first | exact Below.refl _ _ | exact Below.refl _ _ | apply bel_drewN.2 | apply bel_drew.2 | refine Below.setCell ?_ (by first | omega | (simp; done) | (simp; omega)) _ | refine Below.alloc ?_ (by first | omega | (simp; done) | (simp; omega)) _ | refine bel_step (by assumption) (by first | omega | (simp; done) | (simp; omega)) ?_))

set_option maxRecDepth 100000 in
set_option maxHeartbeats 1000000 in
theorem unpack1_ok (x s p a : Int) (w : World) (h0 : 0 ≤ x) (h1 : x ≤ 18446744073709551615) (hk : x % 4 = 1) (hs : x / 4 % 2097152 = s) (hp : x / 8388608 % 2097152 = p) (ha : x / 17592186044416 % 8 = a) (hR : Right 1 s p a 0) (hw : wordOf 1 s p a 0 = x) :
    Calls Try.prog 45 #[.int .u64 x] w (Unpacks 1 s p a 0 0 w) := by
  have HR := hid hR
  have HS := hid hs
  have bs0 : 0 ≤ s := by omega
  have bs1 : s < 2097152 := by omega
  have HP := hid hp
  have HA := hid ha
  have bp0 : 0 ≤ p := by omega
  have bp1 : p < 2097152 := by omega
  have ba0 : 0 ≤ a := by omega
  have ba1 : a < 8 := by omega
  have HW := hid hw
  have e1 : bits .and .u64 x 3 = 1 := (and_mask x 2 (by omega) h0 (by omega)).trans hk
  clear hR hs hk hp ha hw
  go_enter Try.func45, Try.ntmps45
  go_wp2_with (first
    | (go_at_call_of 51 (Value.int IntKind.u64 2); refine (part2 x s _ h0 h1 HS.out).mono ?_; rintro e w' ⟨rfl, rfl⟩)
    | (go_at_call_of 51 (Value.int IntKind.u64 44); refine (part44 x a _ h0 h1 HA.out).mono ?_; rintro e w' ⟨rfl, rfl⟩)
    | (go_at_call_of 51 (Value.int IntKind.u64 23); refine (part23 x p _ h0 h1 HP.out).mono ?_; rintro e w' ⟨rfl, rfl⟩)
    | (go_at_call 36; refine (pack_right 1 s p a 0 _ HR.out).mono ?_; rintro e w' ⟨rfl, rfl⟩; rw [HW.out]))
  refine bodyPost_ret (v := .tuple #[.agg #[.int .i64 1, .int .i64 s, .int .i64 p, .int .i64 a, .int .i64 0], .int .i64 0]) (by simp [results, Try.results45, go_sem]) rfl ⟨rfl, ?_⟩
  (repeat (first | exact Below.refl _ _ | exact Below.refl _ _ | apply bel_drewN.2 | apply bel_drew.2 | refine Below.setCell ?_ (by first | omega | (simp; done) | (simp; omega)) _ | refine Below.alloc ?_ (by first | omega | (simp; done) | (simp; omega)) _ | refine bel_step (by assumption) (by first | omega | (simp; done) | (simp; omega)) ?_))

set_option maxRecDepth 100000 in
set_option maxHeartbeats 1000000 in
theorem unpack1_other (x s p a : Int) (w : World) (h0 : 0 ≤ x) (h1 : x ≤ 18446744073709551615) (hk : x % 4 = 1) (hs : x / 4 % 2097152 = s) (hp : x / 8388608 % 2097152 = p) (ha : x / 17592186044416 % 8 = a) (hR : Right 1 s p a 0) (hw : ¬ wordOf 1 s p a 0 = x) :
    Calls Try.prog 45 #[.int .u64 x] w (Unpacks 0 0 0 0 0 30 w) := by
  have HR := hid hR
  have HS := hid hs
  have bs0 : 0 ≤ s := by omega
  have bs1 : s < 2097152 := by omega
  have HP := hid hp
  have HA := hid ha
  have bp0 : 0 ≤ p := by omega
  have bp1 : p < 2097152 := by omega
  have ba0 : 0 ≤ a := by omega
  have ba1 : a < 8 := by omega
  have HB := eqb_false hw
  have HB1 : (wordOf 1 s p a 0 != x) = true := by simpa using hw
  have e1 : bits .and .u64 x 3 = 1 := (and_mask x 2 (by omega) h0 (by omega)).trans hk
  clear hR hs hk hp ha hw
  go_enter Try.func45, Try.ntmps45
  go_wp2_with (first
    | (go_at_call_of 51 (Value.int IntKind.u64 2); refine (part2 x s _ h0 h1 HS.out).mono ?_; rintro e w' ⟨rfl, rfl⟩)
    | (go_at_call_of 51 (Value.int IntKind.u64 44); refine (part44 x a _ h0 h1 HA.out).mono ?_; rintro e w' ⟨rfl, rfl⟩)
    | (go_at_call_of 51 (Value.int IntKind.u64 23); refine (part23 x p _ h0 h1 HP.out).mono ?_; rintro e w' ⟨rfl, rfl⟩)
    | (go_at_call 36; refine (pack_right 1 s p a 0 _ HR.out).mono ?_; rintro e w' ⟨rfl, rfl⟩))
  refine bodyPost_ret (v := .tuple #[.agg #[.int .i64 0, .int .i64 0, .int .i64 0, .int .i64 0, .int .i64 0], .int .i64 30]) (by simp [results, Try.results45, go_sem]) rfl ⟨rfl, ?_⟩
  (repeat (first | exact Below.refl _ _ | exact Below.refl _ _ | apply bel_drewN.2 | apply bel_drew.2 | refine Below.setCell ?_ (by first | omega | (simp; done) | (simp; omega)) _ | refine Below.alloc ?_ (by first | omega | (simp; done) | (simp; omega)) _ | refine bel_step (by assumption) (by first | omega | (simp; done) | (simp; omega)) ?_))

set_option maxRecDepth 100000 in
set_option maxHeartbeats 1000000 in
theorem unpack1_wrong (x s p a : Int) (w : World) (h0 : 0 ≤ x) (h1 : x ≤ 18446744073709551615) (hk : x % 4 = 1) (hs : x / 4 % 2097152 = s) (hp : x / 8388608 % 2097152 = p) (ha : x / 17592186044416 % 8 = a) (hR : ¬ Right 1 s p a 0) :
    Calls Try.prog 45 #[.int .u64 x] w (Unpacks 0 0 0 0 0 30 w) := by
  have HR := hid hR
  have HS := hid hs
  have bs0 : 0 ≤ s := by omega
  have bs1 : s < 2097152 := by omega
  have HP := hid hp
  have HA := hid ha
  have bp0 : 0 ≤ p := by omega
  have bp1 : p < 2097152 := by omega
  have ba0 : 0 ≤ a := by omega
  have ba1 : a < 8 := by omega
  have e1 : bits .and .u64 x 3 = 1 := (and_mask x 2 (by omega) h0 (by omega)).trans hk
  clear hR hs hk hp ha
  go_enter Try.func45, Try.ntmps45
  go_wp2_with (first
    | (go_at_call_of 51 (Value.int IntKind.u64 2); refine (part2 x s _ h0 h1 HS.out).mono ?_; rintro e w' ⟨rfl, rfl⟩)
    | (go_at_call_of 51 (Value.int IntKind.u64 44); refine (part44 x a _ h0 h1 HA.out).mono ?_; rintro e w' ⟨rfl, rfl⟩)
    | (go_at_call_of 51 (Value.int IntKind.u64 23); refine (part23 x p _ h0 h1 HP.out).mono ?_; rintro e w' ⟨rfl, rfl⟩)
    | (go_at_call 36; refine (pack_wrong 1 s p a 0 _ HR.out).mono ?_; rintro e w' ⟨rfl, rfl⟩))
  refine bodyPost_ret (v := .tuple #[.agg #[.int .i64 0, .int .i64 0, .int .i64 0, .int .i64 0, .int .i64 0], .int .i64 30]) (by simp [results, Try.results45, go_sem]) rfl ⟨rfl, ?_⟩
  (repeat (first | exact Below.refl _ _ | exact Below.refl _ _ | apply bel_drewN.2 | apply bel_drew.2 | refine Below.setCell ?_ (by first | omega | (simp; done) | (simp; omega)) _ | refine Below.alloc ?_ (by first | omega | (simp; done) | (simp; omega)) _ | refine bel_step (by assumption) (by first | omega | (simp; done) | (simp; omega)) ?_))

set_option maxRecDepth 100000 in
set_option maxHeartbeats 1000000 in
theorem unpack2_ok (x s : Int) (w : World) (h0 : 0 ≤ x) (h1 : x ≤ 18446744073709551615) (hk : x % 4 = 2) (hs : x / 4 % 2097152 = s) (hR : Right 2 s 0 0 0) (hw : wordOf 2 s 0 0 0 = x) :
    Calls Try.prog 45 #[.int .u64 x] w (Unpacks 2 s 0 0 0 0 w) := by
  have HR := hid hR
  have HS := hid hs
  have bs0 : 0 ≤ s := by omega
  have bs1 : s < 2097152 := by omega
  have HW := hid hw
  have e1 : bits .and .u64 x 3 = 2 := (and_mask x 2 (by omega) h0 (by omega)).trans hk
  clear hR hs hk hw
  go_enter Try.func45, Try.ntmps45
  go_wp2_with (first
    | (go_at_call_of 51 (Value.int IntKind.u64 2); refine (part2 x s _ h0 h1 HS.out).mono ?_; rintro e w' ⟨rfl, rfl⟩)
    | (go_at_call 36; refine (pack_right 2 s 0 0 0 _ HR.out).mono ?_; rintro e w' ⟨rfl, rfl⟩; rw [HW.out]))
  refine bodyPost_ret (v := .tuple #[.agg #[.int .i64 2, .int .i64 s, .int .i64 0, .int .i64 0, .int .i64 0], .int .i64 0]) (by simp [results, Try.results45, go_sem]) rfl ⟨rfl, ?_⟩
  (repeat (first | exact Below.refl _ _ | exact Below.refl _ _ | apply bel_drewN.2 | apply bel_drew.2 | refine Below.setCell ?_ (by first | omega | (simp; done) | (simp; omega)) _ | refine Below.alloc ?_ (by first | omega | (simp; done) | (simp; omega)) _ | refine bel_step (by assumption) (by first | omega | (simp; done) | (simp; omega)) ?_))

set_option maxRecDepth 100000 in
set_option maxHeartbeats 1000000 in
theorem unpack2_other (x s : Int) (w : World) (h0 : 0 ≤ x) (h1 : x ≤ 18446744073709551615) (hk : x % 4 = 2) (hs : x / 4 % 2097152 = s) (hR : Right 2 s 0 0 0) (hw : ¬ wordOf 2 s 0 0 0 = x) :
    Calls Try.prog 45 #[.int .u64 x] w (Unpacks 0 0 0 0 0 30 w) := by
  have HR := hid hR
  have HS := hid hs
  have bs0 : 0 ≤ s := by omega
  have bs1 : s < 2097152 := by omega
  have HB := eqb_false hw
  have HB1 : (wordOf 2 s 0 0 0 != x) = true := by simpa using hw
  have e1 : bits .and .u64 x 3 = 2 := (and_mask x 2 (by omega) h0 (by omega)).trans hk
  clear hR hs hk hw
  go_enter Try.func45, Try.ntmps45
  go_wp2_with (first
    | (go_at_call_of 51 (Value.int IntKind.u64 2); refine (part2 x s _ h0 h1 HS.out).mono ?_; rintro e w' ⟨rfl, rfl⟩)
    | (go_at_call 36; refine (pack_right 2 s 0 0 0 _ HR.out).mono ?_; rintro e w' ⟨rfl, rfl⟩))
  refine bodyPost_ret (v := .tuple #[.agg #[.int .i64 0, .int .i64 0, .int .i64 0, .int .i64 0, .int .i64 0], .int .i64 30]) (by simp [results, Try.results45, go_sem]) rfl ⟨rfl, ?_⟩
  (repeat (first | exact Below.refl _ _ | exact Below.refl _ _ | apply bel_drewN.2 | apply bel_drew.2 | refine Below.setCell ?_ (by first | omega | (simp; done) | (simp; omega)) _ | refine Below.alloc ?_ (by first | omega | (simp; done) | (simp; omega)) _ | refine bel_step (by assumption) (by first | omega | (simp; done) | (simp; omega)) ?_))

set_option maxRecDepth 100000 in
set_option maxHeartbeats 1000000 in
theorem unpack2_wrong (x s : Int) (w : World) (h0 : 0 ≤ x) (h1 : x ≤ 18446744073709551615) (hk : x % 4 = 2) (hs : x / 4 % 2097152 = s) (hR : ¬ Right 2 s 0 0 0) :
    Calls Try.prog 45 #[.int .u64 x] w (Unpacks 0 0 0 0 0 30 w) := by
  have HR := hid hR
  have HS := hid hs
  have bs0 : 0 ≤ s := by omega
  have bs1 : s < 2097152 := by omega
  have e1 : bits .and .u64 x 3 = 2 := (and_mask x 2 (by omega) h0 (by omega)).trans hk
  clear hR hs hk
  go_enter Try.func45, Try.ntmps45
  go_wp2_with (first
    | (go_at_call_of 51 (Value.int IntKind.u64 2); refine (part2 x s _ h0 h1 HS.out).mono ?_; rintro e w' ⟨rfl, rfl⟩)
    | (go_at_call 36; refine (pack_wrong 2 s 0 0 0 _ HR.out).mono ?_; rintro e w' ⟨rfl, rfl⟩))
  refine bodyPost_ret (v := .tuple #[.agg #[.int .i64 0, .int .i64 0, .int .i64 0, .int .i64 0, .int .i64 0], .int .i64 30]) (by simp [results, Try.results45, go_sem]) rfl ⟨rfl, ?_⟩
  (repeat (first | exact Below.refl _ _ | exact Below.refl _ _ | apply bel_drewN.2 | apply bel_drew.2 | refine Below.setCell ?_ (by first | omega | (simp; done) | (simp; omega)) _ | refine Below.alloc ?_ (by first | omega | (simp; done) | (simp; omega)) _ | refine bel_step (by assumption) (by first | omega | (simp; done) | (simp; omega)) ?_))

set_option maxRecDepth 100000 in
set_option maxHeartbeats 1000000 in
theorem unpack3_ok (x s t : Int) (w : World) (h0 : 0 ≤ x) (h1 : x ≤ 18446744073709551615) (hk : x % 4 = 3) (hs : x / 4 % 2097152 = s) (ht : x / 8388608 % 4194304 = t) (hR : Right 3 s 0 0 t) (hw : wordOf 3 s 0 0 t = x) :
    Calls Try.prog 45 #[.int .u64 x] w (Unpacks 3 s 0 0 t 0 w) := by
  have HR := hid hR
  have HS := hid hs
  have bs0 : 0 ≤ s := by omega
  have bs1 : s < 2097152 := by omega
  have HT := hid ht
  have bt0 : 0 ≤ t := by omega
  have bt1 : t < 4194304 := by omega
  have HW := hid hw
  have e1 : bits .and .u64 x 3 = 3 := (and_mask x 2 (by omega) h0 (by omega)).trans hk
  clear hR hs hk ht hw
  go_enter Try.func45, Try.ntmps45
  go_wp2_with (first
    | (go_at_call_of 51 (Value.int IntKind.u64 2); refine (part2 x s _ h0 h1 HS.out).mono ?_; rintro e w' ⟨rfl, rfl⟩)
    | (go_at_call_of 51 (Value.int IntKind.u64 23); refine (part22 x t _ h0 h1 HT.out).mono ?_; rintro e w' ⟨rfl, rfl⟩)
    | (go_at_call 36; refine (pack_right 3 s 0 0 t _ HR.out).mono ?_; rintro e w' ⟨rfl, rfl⟩; rw [HW.out]))
  refine bodyPost_ret (v := .tuple #[.agg #[.int .i64 3, .int .i64 s, .int .i64 0, .int .i64 0, .int .i64 t], .int .i64 0]) (by simp [results, Try.results45, go_sem]) rfl ⟨rfl, ?_⟩
  (repeat (first | exact Below.refl _ _ | exact Below.refl _ _ | apply bel_drewN.2 | apply bel_drew.2 | refine Below.setCell ?_ (by first | omega | (simp; done) | (simp; omega)) _ | refine Below.alloc ?_ (by first | omega | (simp; done) | (simp; omega)) _ | refine bel_step (by assumption) (by first | omega | (simp; done) | (simp; omega)) ?_))

set_option maxRecDepth 100000 in
set_option maxHeartbeats 1000000 in
theorem unpack3_other (x s t : Int) (w : World) (h0 : 0 ≤ x) (h1 : x ≤ 18446744073709551615) (hk : x % 4 = 3) (hs : x / 4 % 2097152 = s) (ht : x / 8388608 % 4194304 = t) (hR : Right 3 s 0 0 t) (hw : ¬ wordOf 3 s 0 0 t = x) :
    Calls Try.prog 45 #[.int .u64 x] w (Unpacks 0 0 0 0 0 30 w) := by
  have HR := hid hR
  have HS := hid hs
  have bs0 : 0 ≤ s := by omega
  have bs1 : s < 2097152 := by omega
  have HT := hid ht
  have bt0 : 0 ≤ t := by omega
  have bt1 : t < 4194304 := by omega
  have HB := eqb_false hw
  have HB1 : (wordOf 3 s 0 0 t != x) = true := by simpa using hw
  have e1 : bits .and .u64 x 3 = 3 := (and_mask x 2 (by omega) h0 (by omega)).trans hk
  clear hR hs hk ht hw
  go_enter Try.func45, Try.ntmps45
  go_wp2_with (first
    | (go_at_call_of 51 (Value.int IntKind.u64 2); refine (part2 x s _ h0 h1 HS.out).mono ?_; rintro e w' ⟨rfl, rfl⟩)
    | (go_at_call_of 51 (Value.int IntKind.u64 23); refine (part22 x t _ h0 h1 HT.out).mono ?_; rintro e w' ⟨rfl, rfl⟩)
    | (go_at_call 36; refine (pack_right 3 s 0 0 t _ HR.out).mono ?_; rintro e w' ⟨rfl, rfl⟩))
  refine bodyPost_ret (v := .tuple #[.agg #[.int .i64 0, .int .i64 0, .int .i64 0, .int .i64 0, .int .i64 0], .int .i64 30]) (by simp [results, Try.results45, go_sem]) rfl ⟨rfl, ?_⟩
  (repeat (first | exact Below.refl _ _ | exact Below.refl _ _ | apply bel_drewN.2 | apply bel_drew.2 | refine Below.setCell ?_ (by first | omega | (simp; done) | (simp; omega)) _ | refine Below.alloc ?_ (by first | omega | (simp; done) | (simp; omega)) _ | refine bel_step (by assumption) (by first | omega | (simp; done) | (simp; omega)) ?_))

set_option maxRecDepth 100000 in
set_option maxHeartbeats 1000000 in
theorem unpack3_wrong (x s t : Int) (w : World) (h0 : 0 ≤ x) (h1 : x ≤ 18446744073709551615) (hk : x % 4 = 3) (hs : x / 4 % 2097152 = s) (ht : x / 8388608 % 4194304 = t) (hR : ¬ Right 3 s 0 0 t) :
    Calls Try.prog 45 #[.int .u64 x] w (Unpacks 0 0 0 0 0 30 w) := by
  have HR := hid hR
  have HS := hid hs
  have bs0 : 0 ≤ s := by omega
  have bs1 : s < 2097152 := by omega
  have HT := hid ht
  have bt0 : 0 ≤ t := by omega
  have bt1 : t < 4194304 := by omega
  have e1 : bits .and .u64 x 3 = 3 := (and_mask x 2 (by omega) h0 (by omega)).trans hk
  clear hR hs hk ht
  go_enter Try.func45, Try.ntmps45
  go_wp2_with (first
    | (go_at_call_of 51 (Value.int IntKind.u64 2); refine (part2 x s _ h0 h1 HS.out).mono ?_; rintro e w' ⟨rfl, rfl⟩)
    | (go_at_call_of 51 (Value.int IntKind.u64 23); refine (part22 x t _ h0 h1 HT.out).mono ?_; rintro e w' ⟨rfl, rfl⟩)
    | (go_at_call 36; refine (pack_wrong 3 s 0 0 t _ HR.out).mono ?_; rintro e w' ⟨rfl, rfl⟩))
  refine bodyPost_ret (v := .tuple #[.agg #[.int .i64 0, .int .i64 0, .int .i64 0, .int .i64 0, .int .i64 0], .int .i64 30]) (by simp [results, Try.results45, go_sem]) rfl ⟨rfl, ?_⟩
  (repeat (first | exact Below.refl _ _ | exact Below.refl _ _ | apply bel_drewN.2 | apply bel_drew.2 | refine Below.setCell ?_ (by first | omega | (simp; done) | (simp; omega)) _ | refine Below.alloc ?_ (by first | omega | (simp; done) | (simp; omega)) _ | refine bel_step (by assumption) (by first | omega | (simp; done) | (simp; omega)) ?_))

set_option maxRecDepth 100000 in
set_option maxHeartbeats 1000000 in
theorem runpack0_ok (x s : Int) (w : World) (h0 : 0 ≤ x) (h1 : x ≤ 18446744073709551615) (hk : x % 4 = 0) (hs : x / 4 % 2097152 = s) (hR : Right 0 s 0 0 0) (hw : wordOf 0 s 0 0 0 = x) :
    Calls Try.prog 50 #[.int .u64 x] w (Unpacks 0 s 0 0 0 0 w) := by
  have HR := hid hR
  have HS := hid hs
  have bs0 : 0 ≤ s := by omega
  have bs1 : s < 2097152 := by omega
  have HW := hid hw
  clear hR hw
  clear hs
  have es : x / 4 % 2097152 = s := HS.out
  go_enter Try.func50, Try.ntmps50
  go_wp2_with (first
    | (go_at_call 38; refine (rpack_right 0 s 0 0 0 _ HR.out).mono ?_; rintro e w' ⟨rfl, rfl⟩; rw [HW.out]))
  refine bodyPost_ret (v := .tuple #[.agg #[.int .i64 0, .int .i64 s, .int .i64 0, .int .i64 0, .int .i64 0], .int .i64 0]) (by simp [results, Try.results50, go_sem]) rfl ⟨rfl, ?_⟩
  (repeat (first | exact Below.refl _ _ | exact Below.refl _ _ | apply bel_drewN.2 | apply bel_drew.2 | refine Below.setCell ?_ (by first | omega | (simp; done) | (simp; omega)) _ | refine Below.alloc ?_ (by first | omega | (simp; done) | (simp; omega)) _ | refine bel_step (by assumption) (by first | omega | (simp; done) | (simp; omega)) ?_))

set_option maxRecDepth 100000 in
set_option maxHeartbeats 1000000 in
theorem runpack0_other (x s : Int) (w : World) (h0 : 0 ≤ x) (h1 : x ≤ 18446744073709551615) (hk : x % 4 = 0) (hs : x / 4 % 2097152 = s) (hR : Right 0 s 0 0 0) (hw : ¬ wordOf 0 s 0 0 0 = x) :
    Calls Try.prog 50 #[.int .u64 x] w (Unpacks 0 0 0 0 0 30 w) := by
  have HR := hid hR
  have HS := hid hs
  have bs0 : 0 ≤ s := by omega
  have bs1 : s < 2097152 := by omega
  have HB := eqb_false hw
  have HB1 : (wordOf 0 s 0 0 0 != x) = true := by simpa using hw
  clear hR hw
  clear hs
  have es : x / 4 % 2097152 = s := HS.out
  go_enter Try.func50, Try.ntmps50
  go_wp2_with (first
    | (go_at_call 38; refine (rpack_right 0 s 0 0 0 _ HR.out).mono ?_; rintro e w' ⟨rfl, rfl⟩))
  refine bodyPost_ret (v := .tuple #[.agg #[.int .i64 0, .int .i64 0, .int .i64 0, .int .i64 0, .int .i64 0], .int .i64 30]) (by simp [results, Try.results50, go_sem]) rfl ⟨rfl, ?_⟩
  (repeat (first | exact Below.refl _ _ | exact Below.refl _ _ | apply bel_drewN.2 | apply bel_drew.2 | refine Below.setCell ?_ (by first | omega | (simp; done) | (simp; omega)) _ | refine Below.alloc ?_ (by first | omega | (simp; done) | (simp; omega)) _ | refine bel_step (by assumption) (by first | omega | (simp; done) | (simp; omega)) ?_))

set_option maxRecDepth 100000 in
set_option maxHeartbeats 1000000 in
theorem runpack0_wrong (x s : Int) (w : World) (h0 : 0 ≤ x) (h1 : x ≤ 18446744073709551615) (hk : x % 4 = 0) (hs : x / 4 % 2097152 = s) (hR : ¬ Right 0 s 0 0 0) :
    Calls Try.prog 50 #[.int .u64 x] w (Unpacks 0 0 0 0 0 30 w) := by
  have HR := hid hR
  have HS := hid hs
  have bs0 : 0 ≤ s := by omega
  have bs1 : s < 2097152 := by omega
  clear hR
  clear hs
  have es : x / 4 % 2097152 = s := HS.out
  go_enter Try.func50, Try.ntmps50
  go_wp2_with (first
    | (go_at_call 38; refine (rpack_wrong 0 s 0 0 0 _ HR.out).mono ?_; rintro e w' ⟨rfl, rfl⟩))
  refine bodyPost_ret (v := .tuple #[.agg #[.int .i64 0, .int .i64 0, .int .i64 0, .int .i64 0, .int .i64 0], .int .i64 30]) (by simp [results, Try.results50, go_sem]) rfl ⟨rfl, ?_⟩
  (repeat (first | exact Below.refl _ _ | exact Below.refl _ _ | apply bel_drewN.2 | apply bel_drew.2 | refine Below.setCell ?_ (by first | omega | (simp; done) | (simp; omega)) _ | refine Below.alloc ?_ (by first | omega | (simp; done) | (simp; omega)) _ | refine bel_step (by assumption) (by first | omega | (simp; done) | (simp; omega)) ?_))

set_option maxRecDepth 100000 in
set_option maxHeartbeats 1000000 in
theorem runpack1_ok (x s p a : Int) (w : World) (h0 : 0 ≤ x) (h1 : x ≤ 18446744073709551615) (hk : x % 4 = 1) (hs : x / 4 % 2097152 = s) (hp : x / 8388608 % 2097152 = p) (ha : x / 17592186044416 % 8 = a) (hR : Right 1 s p a 0) (hw : wordOf 1 s p a 0 = x) :
    Calls Try.prog 50 #[.int .u64 x] w (Unpacks 1 s p a 0 0 w) := by
  have HR := hid hR
  have HS := hid hs
  have bs0 : 0 ≤ s := by omega
  have bs1 : s < 2097152 := by omega
  have HP := hid hp
  have HA := hid ha
  have bp0 : 0 ≤ p := by omega
  have bp1 : p < 2097152 := by omega
  have ba0 : 0 ≤ a := by omega
  have ba1 : a < 8 := by omega
  have HW := hid hw
  clear hR hw
  clear hs hp ha
  have es : x / 4 % 2097152 = s := HS.out
  have ep : x / 8388608 % 2097152 = p := HP.out
  have ea : x / 17592186044416 % 8 = a := HA.out
  go_enter Try.func50, Try.ntmps50
  go_wp2_with (first
    | (go_at_call 38; refine (rpack_right 1 s p a 0 _ HR.out).mono ?_; rintro e w' ⟨rfl, rfl⟩; rw [HW.out]))
  refine bodyPost_ret (v := .tuple #[.agg #[.int .i64 1, .int .i64 s, .int .i64 p, .int .i64 a, .int .i64 0], .int .i64 0]) (by simp [results, Try.results50, go_sem]) rfl ⟨rfl, ?_⟩
  (repeat (first | exact Below.refl _ _ | exact Below.refl _ _ | apply bel_drewN.2 | apply bel_drew.2 | refine Below.setCell ?_ (by first | omega | (simp; done) | (simp; omega)) _ | refine Below.alloc ?_ (by first | omega | (simp; done) | (simp; omega)) _ | refine bel_step (by assumption) (by first | omega | (simp; done) | (simp; omega)) ?_))

set_option maxRecDepth 100000 in
set_option maxHeartbeats 1000000 in
theorem runpack1_other (x s p a : Int) (w : World) (h0 : 0 ≤ x) (h1 : x ≤ 18446744073709551615) (hk : x % 4 = 1) (hs : x / 4 % 2097152 = s) (hp : x / 8388608 % 2097152 = p) (ha : x / 17592186044416 % 8 = a) (hR : Right 1 s p a 0) (hw : ¬ wordOf 1 s p a 0 = x) :
    Calls Try.prog 50 #[.int .u64 x] w (Unpacks 0 0 0 0 0 30 w) := by
  have HR := hid hR
  have HS := hid hs
  have bs0 : 0 ≤ s := by omega
  have bs1 : s < 2097152 := by omega
  have HP := hid hp
  have HA := hid ha
  have bp0 : 0 ≤ p := by omega
  have bp1 : p < 2097152 := by omega
  have ba0 : 0 ≤ a := by omega
  have ba1 : a < 8 := by omega
  have HB := eqb_false hw
  have HB1 : (wordOf 1 s p a 0 != x) = true := by simpa using hw
  clear hR hw
  clear hs hp ha
  have es : x / 4 % 2097152 = s := HS.out
  have ep : x / 8388608 % 2097152 = p := HP.out
  have ea : x / 17592186044416 % 8 = a := HA.out
  go_enter Try.func50, Try.ntmps50
  go_wp2_with (first
    | (go_at_call 38; refine (rpack_right 1 s p a 0 _ HR.out).mono ?_; rintro e w' ⟨rfl, rfl⟩))
  refine bodyPost_ret (v := .tuple #[.agg #[.int .i64 0, .int .i64 0, .int .i64 0, .int .i64 0, .int .i64 0], .int .i64 30]) (by simp [results, Try.results50, go_sem]) rfl ⟨rfl, ?_⟩
  (repeat (first | exact Below.refl _ _ | exact Below.refl _ _ | apply bel_drewN.2 | apply bel_drew.2 | refine Below.setCell ?_ (by first | omega | (simp; done) | (simp; omega)) _ | refine Below.alloc ?_ (by first | omega | (simp; done) | (simp; omega)) _ | refine bel_step (by assumption) (by first | omega | (simp; done) | (simp; omega)) ?_))

set_option maxRecDepth 100000 in
set_option maxHeartbeats 1000000 in
theorem runpack1_wrong (x s p a : Int) (w : World) (h0 : 0 ≤ x) (h1 : x ≤ 18446744073709551615) (hk : x % 4 = 1) (hs : x / 4 % 2097152 = s) (hp : x / 8388608 % 2097152 = p) (ha : x / 17592186044416 % 8 = a) (hR : ¬ Right 1 s p a 0) :
    Calls Try.prog 50 #[.int .u64 x] w (Unpacks 0 0 0 0 0 30 w) := by
  have HR := hid hR
  have HS := hid hs
  have bs0 : 0 ≤ s := by omega
  have bs1 : s < 2097152 := by omega
  have HP := hid hp
  have HA := hid ha
  have bp0 : 0 ≤ p := by omega
  have bp1 : p < 2097152 := by omega
  have ba0 : 0 ≤ a := by omega
  have ba1 : a < 8 := by omega
  clear hR
  clear hs hp ha
  have es : x / 4 % 2097152 = s := HS.out
  have ep : x / 8388608 % 2097152 = p := HP.out
  have ea : x / 17592186044416 % 8 = a := HA.out
  go_enter Try.func50, Try.ntmps50
  go_wp2_with (first
    | (go_at_call 38; refine (rpack_wrong 1 s p a 0 _ HR.out).mono ?_; rintro e w' ⟨rfl, rfl⟩))
  refine bodyPost_ret (v := .tuple #[.agg #[.int .i64 0, .int .i64 0, .int .i64 0, .int .i64 0, .int .i64 0], .int .i64 30]) (by simp [results, Try.results50, go_sem]) rfl ⟨rfl, ?_⟩
  (repeat (first | exact Below.refl _ _ | exact Below.refl _ _ | apply bel_drewN.2 | apply bel_drew.2 | refine Below.setCell ?_ (by first | omega | (simp; done) | (simp; omega)) _ | refine Below.alloc ?_ (by first | omega | (simp; done) | (simp; omega)) _ | refine bel_step (by assumption) (by first | omega | (simp; done) | (simp; omega)) ?_))

set_option maxRecDepth 100000 in
set_option maxHeartbeats 1000000 in
theorem runpack2_ok (x s : Int) (w : World) (h0 : 0 ≤ x) (h1 : x ≤ 18446744073709551615) (hk : x % 4 = 2) (hs : x / 4 % 2097152 = s) (hR : Right 2 s 0 0 0) (hw : wordOf 2 s 0 0 0 = x) :
    Calls Try.prog 50 #[.int .u64 x] w (Unpacks 2 s 0 0 0 0 w) := by
  have HR := hid hR
  have HS := hid hs
  have bs0 : 0 ≤ s := by omega
  have bs1 : s < 2097152 := by omega
  have HW := hid hw
  clear hR hw
  clear hs
  have es : x / 4 % 2097152 = s := HS.out
  go_enter Try.func50, Try.ntmps50
  go_wp2_with (first
    | (go_at_call 38; refine (rpack_right 2 s 0 0 0 _ HR.out).mono ?_; rintro e w' ⟨rfl, rfl⟩; rw [HW.out]))
  refine bodyPost_ret (v := .tuple #[.agg #[.int .i64 2, .int .i64 s, .int .i64 0, .int .i64 0, .int .i64 0], .int .i64 0]) (by simp [results, Try.results50, go_sem]) rfl ⟨rfl, ?_⟩
  (repeat (first | exact Below.refl _ _ | exact Below.refl _ _ | apply bel_drewN.2 | apply bel_drew.2 | refine Below.setCell ?_ (by first | omega | (simp; done) | (simp; omega)) _ | refine Below.alloc ?_ (by first | omega | (simp; done) | (simp; omega)) _ | refine bel_step (by assumption) (by first | omega | (simp; done) | (simp; omega)) ?_))

set_option maxRecDepth 100000 in
set_option maxHeartbeats 1000000 in
theorem runpack2_other (x s : Int) (w : World) (h0 : 0 ≤ x) (h1 : x ≤ 18446744073709551615) (hk : x % 4 = 2) (hs : x / 4 % 2097152 = s) (hR : Right 2 s 0 0 0) (hw : ¬ wordOf 2 s 0 0 0 = x) :
    Calls Try.prog 50 #[.int .u64 x] w (Unpacks 0 0 0 0 0 30 w) := by
  have HR := hid hR
  have HS := hid hs
  have bs0 : 0 ≤ s := by omega
  have bs1 : s < 2097152 := by omega
  have HB := eqb_false hw
  have HB1 : (wordOf 2 s 0 0 0 != x) = true := by simpa using hw
  clear hR hw
  clear hs
  have es : x / 4 % 2097152 = s := HS.out
  go_enter Try.func50, Try.ntmps50
  go_wp2_with (first
    | (go_at_call 38; refine (rpack_right 2 s 0 0 0 _ HR.out).mono ?_; rintro e w' ⟨rfl, rfl⟩))
  refine bodyPost_ret (v := .tuple #[.agg #[.int .i64 0, .int .i64 0, .int .i64 0, .int .i64 0, .int .i64 0], .int .i64 30]) (by simp [results, Try.results50, go_sem]) rfl ⟨rfl, ?_⟩
  (repeat (first | exact Below.refl _ _ | exact Below.refl _ _ | apply bel_drewN.2 | apply bel_drew.2 | refine Below.setCell ?_ (by first | omega | (simp; done) | (simp; omega)) _ | refine Below.alloc ?_ (by first | omega | (simp; done) | (simp; omega)) _ | refine bel_step (by assumption) (by first | omega | (simp; done) | (simp; omega)) ?_))

set_option maxRecDepth 100000 in
set_option maxHeartbeats 1000000 in
theorem runpack2_wrong (x s : Int) (w : World) (h0 : 0 ≤ x) (h1 : x ≤ 18446744073709551615) (hk : x % 4 = 2) (hs : x / 4 % 2097152 = s) (hR : ¬ Right 2 s 0 0 0) :
    Calls Try.prog 50 #[.int .u64 x] w (Unpacks 0 0 0 0 0 30 w) := by
  have HR := hid hR
  have HS := hid hs
  have bs0 : 0 ≤ s := by omega
  have bs1 : s < 2097152 := by omega
  clear hR
  clear hs
  have es : x / 4 % 2097152 = s := HS.out
  go_enter Try.func50, Try.ntmps50
  go_wp2_with (first
    | (go_at_call 38; refine (rpack_wrong 2 s 0 0 0 _ HR.out).mono ?_; rintro e w' ⟨rfl, rfl⟩))
  refine bodyPost_ret (v := .tuple #[.agg #[.int .i64 0, .int .i64 0, .int .i64 0, .int .i64 0, .int .i64 0], .int .i64 30]) (by simp [results, Try.results50, go_sem]) rfl ⟨rfl, ?_⟩
  (repeat (first | exact Below.refl _ _ | exact Below.refl _ _ | apply bel_drewN.2 | apply bel_drew.2 | refine Below.setCell ?_ (by first | omega | (simp; done) | (simp; omega)) _ | refine Below.alloc ?_ (by first | omega | (simp; done) | (simp; omega)) _ | refine bel_step (by assumption) (by first | omega | (simp; done) | (simp; omega)) ?_))

set_option maxRecDepth 100000 in
set_option maxHeartbeats 1000000 in
theorem runpack3_ok (x s t : Int) (w : World) (h0 : 0 ≤ x) (h1 : x ≤ 18446744073709551615) (hk : x % 4 = 3) (hs : x / 4 % 2097152 = s) (ht : x / 8388608 % 4194304 = t) (hR : Right 3 s 0 0 t) (hw : wordOf 3 s 0 0 t = x) :
    Calls Try.prog 50 #[.int .u64 x] w (Unpacks 3 s 0 0 t 0 w) := by
  have HR := hid hR
  have HS := hid hs
  have bs0 : 0 ≤ s := by omega
  have bs1 : s < 2097152 := by omega
  have HT := hid ht
  have bt0 : 0 ≤ t := by omega
  have bt1 : t < 4194304 := by omega
  have HW := hid hw
  clear hR hw
  clear hs ht
  have es : x / 4 % 2097152 = s := HS.out
  have et : x / 8388608 % 4194304 = t := HT.out
  go_enter Try.func50, Try.ntmps50
  go_wp2_with (first
    | (go_at_call 38; refine (rpack_right 3 s 0 0 t _ HR.out).mono ?_; rintro e w' ⟨rfl, rfl⟩; rw [HW.out]))
  refine bodyPost_ret (v := .tuple #[.agg #[.int .i64 3, .int .i64 s, .int .i64 0, .int .i64 0, .int .i64 t], .int .i64 0]) (by simp [results, Try.results50, go_sem]) rfl ⟨rfl, ?_⟩
  (repeat (first | exact Below.refl _ _ | exact Below.refl _ _ | apply bel_drewN.2 | apply bel_drew.2 | refine Below.setCell ?_ (by first | omega | (simp; done) | (simp; omega)) _ | refine Below.alloc ?_ (by first | omega | (simp; done) | (simp; omega)) _ | refine bel_step (by assumption) (by first | omega | (simp; done) | (simp; omega)) ?_))

set_option maxRecDepth 100000 in
set_option maxHeartbeats 1000000 in
theorem runpack3_other (x s t : Int) (w : World) (h0 : 0 ≤ x) (h1 : x ≤ 18446744073709551615) (hk : x % 4 = 3) (hs : x / 4 % 2097152 = s) (ht : x / 8388608 % 4194304 = t) (hR : Right 3 s 0 0 t) (hw : ¬ wordOf 3 s 0 0 t = x) :
    Calls Try.prog 50 #[.int .u64 x] w (Unpacks 0 0 0 0 0 30 w) := by
  have HR := hid hR
  have HS := hid hs
  have bs0 : 0 ≤ s := by omega
  have bs1 : s < 2097152 := by omega
  have HT := hid ht
  have bt0 : 0 ≤ t := by omega
  have bt1 : t < 4194304 := by omega
  have HB := eqb_false hw
  have HB1 : (wordOf 3 s 0 0 t != x) = true := by simpa using hw
  clear hR hw
  clear hs ht
  have es : x / 4 % 2097152 = s := HS.out
  have et : x / 8388608 % 4194304 = t := HT.out
  go_enter Try.func50, Try.ntmps50
  go_wp2_with (first
    | (go_at_call 38; refine (rpack_right 3 s 0 0 t _ HR.out).mono ?_; rintro e w' ⟨rfl, rfl⟩))
  refine bodyPost_ret (v := .tuple #[.agg #[.int .i64 0, .int .i64 0, .int .i64 0, .int .i64 0, .int .i64 0], .int .i64 30]) (by simp [results, Try.results50, go_sem]) rfl ⟨rfl, ?_⟩
  (repeat (first | exact Below.refl _ _ | exact Below.refl _ _ | apply bel_drewN.2 | apply bel_drew.2 | refine Below.setCell ?_ (by first | omega | (simp; done) | (simp; omega)) _ | refine Below.alloc ?_ (by first | omega | (simp; done) | (simp; omega)) _ | refine bel_step (by assumption) (by first | omega | (simp; done) | (simp; omega)) ?_))

set_option maxRecDepth 100000 in
set_option maxHeartbeats 1000000 in
theorem runpack3_wrong (x s t : Int) (w : World) (h0 : 0 ≤ x) (h1 : x ≤ 18446744073709551615) (hk : x % 4 = 3) (hs : x / 4 % 2097152 = s) (ht : x / 8388608 % 4194304 = t) (hR : ¬ Right 3 s 0 0 t) :
    Calls Try.prog 50 #[.int .u64 x] w (Unpacks 0 0 0 0 0 30 w) := by
  have HR := hid hR
  have HS := hid hs
  have bs0 : 0 ≤ s := by omega
  have bs1 : s < 2097152 := by omega
  have HT := hid ht
  have bt0 : 0 ≤ t := by omega
  have bt1 : t < 4194304 := by omega
  clear hR
  clear hs ht
  have es : x / 4 % 2097152 = s := HS.out
  have et : x / 8388608 % 4194304 = t := HT.out
  go_enter Try.func50, Try.ntmps50
  go_wp2_with (first
    | (go_at_call 38; refine (rpack_wrong 3 s 0 0 t _ HR.out).mono ?_; rintro e w' ⟨rfl, rfl⟩))
  refine bodyPost_ret (v := .tuple #[.agg #[.int .i64 0, .int .i64 0, .int .i64 0, .int .i64 0, .int .i64 0], .int .i64 30]) (by simp [results, Try.results50, go_sem]) rfl ⟨rfl, ?_⟩
  (repeat (first | exact Below.refl _ _ | exact Below.refl _ _ | apply bel_drewN.2 | apply bel_drew.2 | refine Below.setCell ?_ (by first | omega | (simp; done) | (simp; omega)) _ | refine Below.alloc ?_ (by first | omega | (simp; done) | (simp; omega)) _ | refine bel_step (by assumption) (by first | omega | (simp; done) | (simp; omega)) ?_))

end Go.Proofs.Ythmjjmimmbgpaaa
