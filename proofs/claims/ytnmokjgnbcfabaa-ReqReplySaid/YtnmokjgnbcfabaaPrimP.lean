/-
  Plain mathematics of package prim: the varint as lists of bytes. No program in sight.
-/
import Derived.Laws.BitsAllLaws
import Derived.Laws.Bits64b
import Derived.WalkKit
namespace Go.Proofs.Ytnmokjgnbcfabaa
open Go.RowKit

/-- The varint at the front of a list: value, length, error. -/
def rdN : Nat → Nat → Nat → List UInt8 → Nat × Nat × Nat
  | 0, _, _, _ => (0, 0, 4)
  | _ + 1, _, _, [] => (0, 0, 3)
  | f + 1, i, n, c :: r =>
    if (i = 9 ∧ 1 < c.toNat) ∨ (0 < i ∧ c.toNat = 0) then (0, 0, 4)
    else if c.toNat < 128 then (n + c.toNat % 128 * 2 ^ (7 * i), i + 1, 0) else rdN f (i + 1) (n + c.toNat % 128 * 2 ^ (7 * i)) r
def rd (l : List UInt8) : Nat × Nat × Nat := rdN 10 0 0 l

theorem rd_step_val (m c k : Nat) (hk : k ≤ 9) (hm : m < 2 ^ (7 * k)) (hc : c < 256) (h9 : k = 9 → c ≤ 1) :
    bits .or .u64 (m : Int) (IntKind.u64.wrap (IntKind.u64.wrap (bits .and .u8 (c : Int) 127) * 2 ^ (7 * k))) = ((m + c % 128 * 2 ^ (7 * k) : Nat) : Int) := by
  have h1 : bits .and .u8 (c : Int) 127 = ((c % 128 : Nat) : Int) := by
    have := u8_and_nat c 127 hc (by omega)
    rw [show ((127 : Nat) : Int) = 127 from rfl] at this
    rw [this]
    have : c &&& 127 = c % 128 := Nat.and_two_pow_sub_one_eq_mod c 7
    rw [this]
  have hp : 2 ^ (7 * k) ≤ 2 ^ 63 := Nat.pow_le_pow_right (by omega) (by omega)
  have hb : c % 128 * 2 ^ (7 * k) < 18446744073709551616 := by
    by_cases h : k = 9
    · subst h
      have : c ≤ 1 := h9 rfl
      have h2 : c % 128 ≤ 1 := by omega
      have h3 : c % 128 * 2 ^ (7 * 9) ≤ 1 * 2 ^ (7 * 9) := Nat.mul_le_mul_right _ h2
      omega
    · have hp : 2 ^ (7 * k) ≤ 2 ^ 56 := Nat.pow_le_pow_right (by omega) (by omega)
      have h2 : c % 128 ≤ 127 := by omega
      have h3 : c % 128 * 2 ^ (7 * k) ≤ 127 * 2 ^ 56 := Nat.mul_le_mul h2 hp
      omega
  rw [h1]
  have e1 : IntKind.u64.wrap ((c % 128 : Nat) : Int) = ((c % 128 : Nat) : Int) := by rw [IntKind.wrap_u64]; omega
  have e2 : ((c % 128 : Nat) : Int) * 2 ^ (7 * k) = ((c % 128 * 2 ^ (7 * k) : Nat) : Int) := by
    rw [Int.natCast_mul, Int.natCast_pow]; rfl
  rw [e1, e2, IntKind.wrap_u64]
  have e3 : ((c % 128 * 2 ^ (7 * k) : Nat) : Int) % 18446744073709551616 = ((c % 128 * 2 ^ (7 * k) : Nat) : Int) := by omega
  rw [e3, bits_or_u64_nat _ _ (by omega) hb]
  have := Nat.two_pow_add_eq_or_of_lt hm (c % 128)
  rw [Nat.or_comm, Nat.mul_comm, ← this, Nat.add_comm]

theorem rd_step_lt (m c k : Nat) (hm : m < 2 ^ (7 * k)) : m + c % 128 * 2 ^ (7 * k) < 2 ^ (7 * (k + 1)) := by
  have e : 2 ^ (7 * (k + 1)) = 128 * 2 ^ (7 * k) := by rw [Nat.mul_add, Nat.pow_add]; omega
  have h2 : c % 128 ≤ 127 := by omega
  have h3 : c % 128 * 2 ^ (7 * k) ≤ 127 * 2 ^ (7 * k) := Nat.mul_le_mul_right _ h2
  omega
theorem rd_bad (k c : Nat) (h : (k = 9 ∧ 1 < c) ∨ (0 < k ∧ c = 0)) :
    (((k : Int) == 9) = true ∧ 1 < c) ∨ (((k : Int) == 9) = true ∧ c ≤ 1 ∧ 0 < k ∧ ((c : Int) == 0) = true) ∨
    (((k : Int) == 9) = false ∧ 0 < k ∧ ((c : Int) == 0) = true) := by
  simp only [beq_iff_eq, beq_eq_false_iff_ne]; omega
theorem rd_good (k c : Nat) (h : ¬ ((k = 9 ∧ 1 < c) ∨ (0 < k ∧ c = 0))) :
    (((k : Int) == 9) = true ∧ c ≤ 1 ∧ 0 < k ∧ ((c : Int) == 0) = false) ∨
    (((k : Int) == 9) = false ∧ 0 < k ∧ ((c : Int) == 0) = false) ∨ (((k : Int) == 9) = false ∧ k ≤ 0) := by
  simp only [beq_iff_eq, beq_eq_false_iff_ne]; omega

/-- A byte of a varint that is not its last. -/
def hiB (n : Nat) : UInt8 := UInt8.ofNat (n % 128 + 128)
theorem hiB_toNat (n : Nat) : (hiB n).toNat = n % 128 + 128 := by unfold hiB; simp only [UInt8.toNat_ofNat']; omega
/-- The varint of n. -/
def putN (n : Nat) : List UInt8 := if h : n < 128 then [UInt8.ofNat n] else hiB n :: putN (n / 128)
termination_by n

theorem put_step_val (n : Nat) : bits .or .u8 ((n : Int) % 256) 128 = ((hiB n).toNat : Int) := by
  have e1 : (n : Int) % 256 = ((n % 256 : Nat) : Int) := by omega
  have := u8_or_nat (n % 256) 128 (by omega) (by omega)
  rw [show ((128 : Nat) : Int) = 128 from rfl] at this
  rw [e1, this]
  congr 1
  have h3 : n % 256 ||| 128 = n % 128 + 128 := by
    have h4 : n % 256 = 128 * (n / 128 % 2) + n % 128 := by omega
    rcases Nat.mod_two_eq_zero_or_one (n / 128) with h5 | h5
    · rw [h4, h5]
      have := Nat.two_pow_add_eq_or_of_lt (i := 7) (show n % 128 < 2 ^ 7 by omega) 1
      rw [Nat.or_comm]; simp at this ⊢; omega
    · rw [h4, h5]
      have := Nat.two_pow_add_eq_or_of_lt (i := 7) (show n % 128 < 2 ^ 7 by omega) 1
      simp only [Nat.mul_one] at this ⊢
      rw [show (2 : Nat) ^ 7 = 128 from rfl] at this
      rw [this, Nat.or_comm 128, Nat.or_assoc, Nat.or_self, Nat.or_comm, ← this]; omega
  rw [h3, hiB_toNat]
theorem put_last_val (n : Nat) (h : n < 128) : (n : Int) = ((UInt8.ofNat n).toNat : Int) := by
  simp only [UInt8.toNat_ofNat']; omega
theorem putN_lt (n : Nat) (h : n < 128) : putN n = [UInt8.ofNat n] := by rw [putN, dif_pos h]
theorem putN_ge (n : Nat) (h : ¬ n < 128) : putN n = hiB n :: putN (n / 128) := by rw [putN, dif_neg h]
theorem putN_len (n k : Nat) (h : n < 128 ^ (k + 1)) : (putN n).length ≤ k + 1 := by
  induction k generalizing n with
  | zero => rw [putN_lt n (by omega)]; simp
  | succ k ih =>
    by_cases h1 : n < 128
    · rw [putN_lt n h1]; simp
    · rw [putN_ge n h1]
      have := ih (n / 128) (by rw [Nat.pow_succ] at h; exact Nat.div_lt_of_lt_mul (by rw [Nat.mul_comm]; exact h))
      simp only [List.length_cons]; omega
theorem putN_len10 (n : Nat) (h : n < 18446744073709551616) : (putN n).length ≤ 10 := putN_len n 9 (by omega)
theorem putN_pos (n : Nat) : 0 < (putN n).length := by
  by_cases h : n < 128
  · rw [putN_lt n h]; simp
  · rw [putN_ge n h]; simp

def zigI (n : Int) : Int := if n < 0 then -2 * n - 1 else 2 * n
def zagI (n : Nat) : Int := if n % 2 = 0 then ((n / 2 : Nat) : Int) else - (((n + 1) / 2 : Nat) : Int)
theorem zigI_val_neg (n : Int) (h1 : -9223372036854775808 ≤ n) (h : n < 0) :
    bits .xor .u64 (IntKind.u64.wrap (IntKind.u64.wrap n * 2)) (IntKind.u64.wrap (n / 9223372036854775808)) = zigI n := by
  have e1 : n / 9223372036854775808 = -1 := by omega
  have e2 : IntKind.u64.wrap (-1) = ((18446744073709551615 : Nat) : Int) := by rw [IntKind.wrap_u64]; omega
  have e3 : IntKind.u64.wrap (IntKind.u64.wrap n * 2) = (((2 * n + 18446744073709551616).toNat : Nat) : Int) := by
    simp only [IntKind.wrap_u64]; omega
  rw [e1, e2, e3, bits_xor_u64_nat _ _ (by omega) (by omega)]
  have hx : (2 * n + 18446744073709551616).toNat ^^^ 18446744073709551615 = 18446744073709551615 - (2 * n + 18446744073709551616).toNat := by
    have h := congrArg BitVec.toNat (BitVec.xor_allOnes (x := BitVec.ofNat 64 (2 * n + 18446744073709551616).toNat))
    rw [BitVec.toNat_xor, BitVec.toNat_not, BitVec.toNat_ofNat, BitVec.toNat_allOnes, Nat.mod_eq_of_lt (by omega)] at h
    simpa using h
  rw [hx]; unfold zigI; rw [if_pos h]; omega
theorem zigI_val_pos (n : Int) (h2 : n ≤ 9223372036854775807) (h : 0 ≤ n) : bits .xor .u64 (n * 2) (n / 9223372036854775808) = zigI n := by
  have e1 : n / 9223372036854775808 = ((0 : Nat) : Int) := by omega
  have e3 : n * 2 = (((2 * n).toNat : Nat) : Int) := by omega
  rw [e1, e3, bits_xor_u64_nat _ _ (by omega) (by omega), Nat.xor_zero]
  unfold zigI; rw [if_neg (by omega)]; omega
theorem zagI_val (n : Nat) (h : n ≤ 18446744073709551615) : bits .xor .i64 ((n : Int) / 2) (wrap64 (-wrap64 (bits .and .u64 (n : Int) 1))) = zagI n := by
  have e0 : bits .and .u64 (n : Int) 1 = ((n % 2 : Nat) : Int) := by
    have := bits_and_u64_nat n 1 (by omega) (by omega)
    rw [show ((1 : Nat) : Int) = 1 from rfl] at this
    rw [this, Nat.and_one_is_mod]
  rw [e0]
  have hn : (n : Int) / 2 = ((n / 2 : Nat) : Int) := by omega
  have hB : (BitVec.ofInt 64 ((n / 2 : Nat) : Int)).toNat = n / 2 := by rw [BitVec.ofInt_natCast, BitVec.toNat_ofNat]; omega
  unfold zagI
  rcases Nat.mod_two_eq_zero_or_one n with h2 | h2
  · rw [h2, if_pos rfl, hn]
    have e1 : wrap64 (-wrap64 ((0 : Nat) : Int)) = 0 := by simp [wrap64]
    rw [e1]
    show IntKind.i64.wrap ((BitVec.ofInt 64 ((n / 2 : Nat) : Int) ^^^ BitVec.ofInt 64 0).toNat : Int) = _
    rw [BitVec.toNat_xor, hB]
    have : (BitVec.ofInt 64 0).toNat = 0 := by decide
    rw [this, Nat.xor_zero, IntKind.wrap_i64]; omega
  · rw [h2, if_neg (by omega), hn]
    have e1 : wrap64 (-wrap64 ((1 : Nat) : Int)) = -1 := by simp [wrap64]
    rw [e1]
    show IntKind.i64.wrap ((BitVec.ofInt 64 ((n / 2 : Nat) : Int) ^^^ BitVec.ofInt 64 (-1)).toNat : Int) = _
    have e4 : BitVec.ofInt 64 (-1) = BitVec.allOnes 64 := by decide
    rw [e4, BitVec.xor_allOnes, BitVec.toNat_not, hB, IntKind.wrap_i64]; omega
theorem zagI_bounds (n : Nat) (h : n ≤ 18446744073709551615) : -9223372036854775808 ≤ zagI n ∧ zagI n ≤ 9223372036854775807 := by unfold zagI; split <;> omega
theorem zag_zig (n : Int) : zagI (zigI n).toNat = n := by unfold zagI zigI; split <;> split <;> omega
theorem zig_zag (n : Nat) : zigI (zagI n) = n := by unfold zagI zigI; split <;> split <;> omega
theorem zigI_odd (n : Int) : zigI n % 2 = 1 ↔ n < 0 := by unfold zigI; split <;> omega
theorem zigI_nonneg (n : Int) : 0 ≤ zigI n := by unfold zigI; split <;> omega
theorem zigI_lt (n : Int) (h1 : -9223372036854775808 ≤ n) (h2 : n ≤ 9223372036854775807) : zigI n ≤ 18446744073709551615 := by unfold zigI; split <;> omega
end Go.Proofs.Ytnmokjgnbcfabaa
