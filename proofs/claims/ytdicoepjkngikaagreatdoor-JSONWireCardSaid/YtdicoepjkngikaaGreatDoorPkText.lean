/-
  Several texts in one: PrimP, PrimL, PrimW, PrimG, PrimZ, TextW, TextL, WireP, WireQ.
-/
import Derived.Laws.BitsAllLaws
import Derived.Laws.Bits64b
import Derived.WalkKit
import Derived.Test.YtdicoepjkngikaaGreatDoorRows
import Derived.Test.YtdicoepjkngikaaGreatDoorPkBase
import Derived.Test.YtdicoepjkngikaaGreatDoorPkStateA
import Derived.Test.YtdicoepjkngikaaGreatDoorPkFitsP
/-
  Plain mathematics of package prim: the varint as lists of bytes. No program in sight.
-/
namespace Go.Proofs.YtdicoepjkngikaaGreatDoor
open Go.RowKit

/-- The varint at the front of a list: value, length, error. -/
def rdN : Nat → Nat → Nat → List UInt8 → Nat × Nat × Nat
  | 0, _, _, _ => (0, 0, 4)
  | _ + 1, _, _, [] => (0, 0, 3)
  | f + 1, i, n, c :: r =>
    if (i = 9 ∧ 1 < c.toNat) ∨ (0 < i ∧ c.toNat = 0) then (0, 0, 4)
    else if c.toNat < 128 then (n + c.toNat % 128 * 2 ^ (7 * i), i + 1, 0) else rdN f (i + 1) (n + c.toNat % 128 * 2 ^ (7 * i)) r
def rd (l : List UInt8) : Nat × Nat × Nat := rdN 10 0 0 l

theorem rd_step_val (m c k : Nat) (hk : k ≤ 9) (hm : m < 2 ^ (7 * k)) (hc : c < 256) (h9 : k = 9 → c ≤ 1) :
    bits .or .u64 (m : Int) (IntKind.u64.wrap (IntKind.u64.wrap (bits .and .u8 (c : Int) 127) * 2 ^ (7 * k))) = ((m + c % 128 * 2 ^ (7 * k) : Nat) : Int) := by
  have h1 : bits .and .u8 (c : Int) 127 = ((c % 128 : Nat) : Int) := by
    have := u8_and_nat c 127 hc (by omega)
    rw [show ((127 : Nat) : Int) = 127 from rfl] at this
    rw [this]
    have : c &&& 127 = c % 128 := Nat.and_two_pow_sub_one_eq_mod c 7
    rw [this]
  have hp : 2 ^ (7 * k) ≤ 2 ^ 63 := Nat.pow_le_pow_right (by omega) (by omega)
  have hb : c % 128 * 2 ^ (7 * k) < 18446744073709551616 := by
    by_cases h : k = 9
    · subst h
      have : c ≤ 1 := h9 rfl
      have h2 : c % 128 ≤ 1 := by omega
      have h3 : c % 128 * 2 ^ (7 * 9) ≤ 1 * 2 ^ (7 * 9) := Nat.mul_le_mul_right _ h2
      omega
    · have hp : 2 ^ (7 * k) ≤ 2 ^ 56 := Nat.pow_le_pow_right (by omega) (by omega)
      have h2 : c % 128 ≤ 127 := by omega
      have h3 : c % 128 * 2 ^ (7 * k) ≤ 127 * 2 ^ 56 := Nat.mul_le_mul h2 hp
      omega
  rw [h1]
  have e1 : IntKind.u64.wrap ((c % 128 : Nat) : Int) = ((c % 128 : Nat) : Int) := by rw [IntKind.wrap_u64]; omega
  have e2 : ((c % 128 : Nat) : Int) * 2 ^ (7 * k) = ((c % 128 * 2 ^ (7 * k) : Nat) : Int) := by
    rw [Int.natCast_mul, Int.natCast_pow]; rfl
  rw [e1, e2, IntKind.wrap_u64]
  have e3 : ((c % 128 * 2 ^ (7 * k) : Nat) : Int) % 18446744073709551616 = ((c % 128 * 2 ^ (7 * k) : Nat) : Int) := by omega
  rw [e3, bits_or_u64_nat _ _ (by omega) hb]
  have := Nat.two_pow_add_eq_or_of_lt hm (c % 128)
  rw [Nat.or_comm, Nat.mul_comm, ← this, Nat.add_comm]

theorem rd_step_lt (m c k : Nat) (hm : m < 2 ^ (7 * k)) : m + c % 128 * 2 ^ (7 * k) < 2 ^ (7 * (k + 1)) := by
  have e : 2 ^ (7 * (k + 1)) = 128 * 2 ^ (7 * k) := by rw [Nat.mul_add, Nat.pow_add]; omega
  have h2 : c % 128 ≤ 127 := by omega
  have h3 : c % 128 * 2 ^ (7 * k) ≤ 127 * 2 ^ (7 * k) := Nat.mul_le_mul_right _ h2
  omega
theorem rd_bad (k c : Nat) (h : (k = 9 ∧ 1 < c) ∨ (0 < k ∧ c = 0)) :
    (((k : Int) == 9) = true ∧ 1 < c) ∨ (((k : Int) == 9) = true ∧ c ≤ 1 ∧ 0 < k ∧ ((c : Int) == 0) = true) ∨
    (((k : Int) == 9) = false ∧ 0 < k ∧ ((c : Int) == 0) = true) := by
  simp only [beq_iff_eq, beq_eq_false_iff_ne]; omega
theorem rd_good (k c : Nat) (h : ¬ ((k = 9 ∧ 1 < c) ∨ (0 < k ∧ c = 0))) :
    (((k : Int) == 9) = true ∧ c ≤ 1 ∧ 0 < k ∧ ((c : Int) == 0) = false) ∨
    (((k : Int) == 9) = false ∧ 0 < k ∧ ((c : Int) == 0) = false) ∨ (((k : Int) == 9) = false ∧ k ≤ 0) := by
  simp only [beq_iff_eq, beq_eq_false_iff_ne]; omega

/-- A byte of a varint that is not its last. -/
def hiB (n : Nat) : UInt8 := UInt8.ofNat (n % 128 + 128)
theorem hiB_toNat (n : Nat) : (hiB n).toNat = n % 128 + 128 := by unfold hiB; simp only [UInt8.toNat_ofNat']; omega
/-- The varint of n. -/
def putN (n : Nat) : List UInt8 := if h : n < 128 then [UInt8.ofNat n] else hiB n :: putN (n / 128)
termination_by n

theorem put_step_val (n : Nat) : bits .or .u8 ((n : Int) % 256) 128 = ((hiB n).toNat : Int) := by
  have e1 : (n : Int) % 256 = ((n % 256 : Nat) : Int) := by omega
  have := u8_or_nat (n % 256) 128 (by omega) (by omega)
  rw [show ((128 : Nat) : Int) = 128 from rfl] at this
  rw [e1, this]
  congr 1
  have h3 : n % 256 ||| 128 = n % 128 + 128 := by
    have h4 : n % 256 = 128 * (n / 128 % 2) + n % 128 := by omega
    rcases Nat.mod_two_eq_zero_or_one (n / 128) with h5 | h5
    · rw [h4, h5]
      have := Nat.two_pow_add_eq_or_of_lt (i := 7) (show n % 128 < 2 ^ 7 by omega) 1
      rw [Nat.or_comm]; simp at this ⊢; omega
    · rw [h4, h5]
      have := Nat.two_pow_add_eq_or_of_lt (i := 7) (show n % 128 < 2 ^ 7 by omega) 1
      simp only [Nat.mul_one] at this ⊢
      rw [show (2 : Nat) ^ 7 = 128 from rfl] at this
      rw [this, Nat.or_comm 128, Nat.or_assoc, Nat.or_self, Nat.or_comm, ← this]; omega
  rw [h3, hiB_toNat]
theorem put_last_val (n : Nat) (h : n < 128) : (n : Int) = ((UInt8.ofNat n).toNat : Int) := by
  simp only [UInt8.toNat_ofNat']; omega
theorem putN_lt (n : Nat) (h : n < 128) : putN n = [UInt8.ofNat n] := by rw [putN, dif_pos h]
theorem putN_ge (n : Nat) (h : ¬ n < 128) : putN n = hiB n :: putN (n / 128) := by rw [putN, dif_neg h]
theorem putN_len (n k : Nat) (h : n < 128 ^ (k + 1)) : (putN n).length ≤ k + 1 := by
  induction k generalizing n with
  | zero => rw [putN_lt n (by omega)]; simp
  | succ k ih =>
    by_cases h1 : n < 128
    · rw [putN_lt n h1]; simp
    · rw [putN_ge n h1]
      have := ih (n / 128) (by rw [Nat.pow_succ] at h; exact Nat.div_lt_of_lt_mul (by rw [Nat.mul_comm]; exact h))
      simp only [List.length_cons]; omega
theorem putN_len10 (n : Nat) (h : n < 18446744073709551616) : (putN n).length ≤ 10 := putN_len n 9 (by omega)
theorem putN_pos (n : Nat) : 0 < (putN n).length := by
  by_cases h : n < 128
  · rw [putN_lt n h]; simp
  · rw [putN_ge n h]; simp

def zigI (n : Int) : Int := if n < 0 then -2 * n - 1 else 2 * n
def zagI (n : Nat) : Int := if n % 2 = 0 then ((n / 2 : Nat) : Int) else - (((n + 1) / 2 : Nat) : Int)
theorem zigI_val_neg (n : Int) (h1 : -9223372036854775808 ≤ n) (h : n < 0) :
    bits .xor .u64 (IntKind.u64.wrap (IntKind.u64.wrap n * 2)) (IntKind.u64.wrap (n / 9223372036854775808)) = zigI n := by
  have e1 : n / 9223372036854775808 = -1 := by omega
  have e2 : IntKind.u64.wrap (-1) = ((18446744073709551615 : Nat) : Int) := by rw [IntKind.wrap_u64]; omega
  have e3 : IntKind.u64.wrap (IntKind.u64.wrap n * 2) = (((2 * n + 18446744073709551616).toNat : Nat) : Int) := by
    simp only [IntKind.wrap_u64]; omega
  rw [e1, e2, e3, bits_xor_u64_nat _ _ (by omega) (by omega)]
  have hx : (2 * n + 18446744073709551616).toNat ^^^ 18446744073709551615 = 18446744073709551615 - (2 * n + 18446744073709551616).toNat := by
    have h := congrArg BitVec.toNat (BitVec.xor_allOnes (x := BitVec.ofNat 64 (2 * n + 18446744073709551616).toNat))
    rw [BitVec.toNat_xor, BitVec.toNat_not, BitVec.toNat_ofNat, BitVec.toNat_allOnes, Nat.mod_eq_of_lt (by omega)] at h
    simpa using h
  rw [hx]; unfold zigI; rw [if_pos h]; omega
theorem zigI_val_pos (n : Int) (h2 : n ≤ 9223372036854775807) (h : 0 ≤ n) : bits .xor .u64 (n * 2) (n / 9223372036854775808) = zigI n := by
  have e1 : n / 9223372036854775808 = ((0 : Nat) : Int) := by omega
  have e3 : n * 2 = (((2 * n).toNat : Nat) : Int) := by omega
  rw [e1, e3, bits_xor_u64_nat _ _ (by omega) (by omega), Nat.xor_zero]
  unfold zigI; rw [if_neg (by omega)]; omega
theorem zagI_val (n : Nat) (h : n ≤ 18446744073709551615) : bits .xor .i64 ((n : Int) / 2) (wrap64 (-wrap64 (bits .and .u64 (n : Int) 1))) = zagI n := by
  have e0 : bits .and .u64 (n : Int) 1 = ((n % 2 : Nat) : Int) := by
    have := bits_and_u64_nat n 1 (by omega) (by omega)
    rw [show ((1 : Nat) : Int) = 1 from rfl] at this
    rw [this, Nat.and_one_is_mod]
  rw [e0]
  have hn : (n : Int) / 2 = ((n / 2 : Nat) : Int) := by omega
  have hB : (BitVec.ofInt 64 ((n / 2 : Nat) : Int)).toNat = n / 2 := by rw [BitVec.ofInt_natCast, BitVec.toNat_ofNat]; omega
  unfold zagI
  rcases Nat.mod_two_eq_zero_or_one n with h2 | h2
  · rw [h2, if_pos rfl, hn]
    have e1 : wrap64 (-wrap64 ((0 : Nat) : Int)) = 0 := by simp [wrap64]
    rw [e1]
    show IntKind.i64.wrap ((BitVec.ofInt 64 ((n / 2 : Nat) : Int) ^^^ BitVec.ofInt 64 0).toNat : Int) = _
    rw [BitVec.toNat_xor, hB]
    have : (BitVec.ofInt 64 0).toNat = 0 := by decide
    rw [this, Nat.xor_zero, IntKind.wrap_i64]; omega
  · rw [h2, if_neg (by omega), hn]
    have e1 : wrap64 (-wrap64 ((1 : Nat) : Int)) = -1 := by simp [wrap64]
    rw [e1]
    show IntKind.i64.wrap ((BitVec.ofInt 64 ((n / 2 : Nat) : Int) ^^^ BitVec.ofInt 64 (-1)).toNat : Int) = _
    have e4 : BitVec.ofInt 64 (-1) = BitVec.allOnes 64 := by decide
    rw [e4, BitVec.xor_allOnes, BitVec.toNat_not, hB, IntKind.wrap_i64]; omega
theorem zagI_bounds (n : Nat) (h : n ≤ 18446744073709551615) : -9223372036854775808 ≤ zagI n ∧ zagI n ≤ 9223372036854775807 := by unfold zagI; split <;> omega
theorem zag_zig (n : Int) : zagI (zigI n).toNat = n := by unfold zagI zigI; split <;> split <;> omega
theorem zig_zag (n : Nat) : zigI (zagI n) = n := by unfold zagI zigI; split <;> split <;> omega
theorem zigI_odd (n : Int) : zigI n % 2 = 1 ↔ n < 0 := by unfold zigI; split <;> omega
theorem zigI_nonneg (n : Int) : 0 ≤ zigI n := by unfold zigI; split <;> omega
theorem zigI_lt (n : Int) (h1 : -9223372036854775808 ≤ n) (h2 : n ≤ 9223372036854775807) : zigI n ≤ 18446744073709551615 := by unfold zigI; split <;> omega
end Go.Proofs.YtdicoepjkngikaaGreatDoor

/-
  Plain laws of the varint.
-/
set_option linter.unusedVariables false
namespace Go.Proofs.YtdicoepjkngikaaGreatDoor

theorem pow7 (i : Nat) : 2 ^ (7 * (i + 1)) = 128 * 2 ^ (7 * i) := by rw [Nat.mul_add, Nat.pow_add]; omega
theorem split7 (m p : Nat) : m % 128 * p + m / 128 * (128 * p) = m * p := by
  have h : (128 * (m / 128) + m % 128) * p = m * p := by rw [Nat.div_add_mod]
  rw [Nat.add_mul] at h
  have : m / 128 * (128 * p) = 128 * (m / 128) * p := by rw [← Nat.mul_assoc, Nat.mul_comm (m / 128) 128]
  omega
theorem small_of_mul (i m : Nat) (h9 : 9 ≤ i) (h : m * 2 ^ (7 * i) < 18446744073709551616) : m ≤ 1 := by
  have hp : 2 ^ 63 ≤ 2 ^ (7 * i) := Nat.pow_le_pow_right (by omega) (by omega)
  rcases Nat.lt_or_ge m 2 with h2 | h2
  · omega
  · have := Nat.mul_le_mul h2 hp
    omega

theorem rdN_put : ∀ (f i acc m : Nat) (more : List UInt8), i + f = 10 → acc + m * 2 ^ (7 * i) < 18446744073709551616 → (0 < i → m ≠ 0) →
    rdN f i acc (putN m ++ more) = (acc + m * 2 ^ (7 * i), i + (putN m).length, 0)
  | 0, i, acc, m, more, hf, hlt, hm => by
    exfalso
    have h1 : m ≠ 0 := hm (by omega)
    have hp : 2 ^ 70 ≤ 2 ^ (7 * i) := Nat.pow_le_pow_right (by omega) (by omega)
    have := Nat.mul_le_mul (Nat.pos_of_ne_zero h1) hp
    omega
  | f + 1, i, acc, m, more, hf, hlt, hm => by
    by_cases h : m < 128
    · rw [putN_lt m h]
      simp only [List.cons_append, List.nil_append, rdN, List.length_cons, List.length_nil]
      have hc : (UInt8.ofNat m).toNat = m := by simp only [UInt8.toNat_ofNat']; omega
      rw [hc, if_neg, if_pos h, Nat.mod_eq_of_lt h]
      rintro (⟨h9, h1⟩ | ⟨h0, h1⟩)
      · have := small_of_mul i m (by omega) (by omega); omega
      · exact hm h0 h1
    · rw [putN_ge m h]
      simp only [List.cons_append, rdN, List.length_cons]
      have hi : i < 9 := by
        rcases Nat.lt_or_ge i 9 with h1 | h1
        · exact h1
        · have := small_of_mul i m h1 (by omega); omega
      rw [hiB_toNat, if_neg (by omega), if_neg (by omega)]
      have e1 : (m % 128 + 128) % 128 = m % 128 := by omega
      rw [e1]
      have hs := split7 m (2 ^ (7 * i))
      rw [rdN_put f (i + 1) _ (m / 128) more (by omega) (by rw [pow7]; omega) (fun _ => by omega), pow7]
      have : acc + m % 128 * 2 ^ (7 * i) + m / 128 * (128 * 2 ^ (7 * i)) = acc + m * 2 ^ (7 * i) := by omega
      rw [this]
      simp only [Prod.mk.injEq, true_and, and_true]; omega

theorem rd_put (n : Nat) (more : List UInt8) (h : n < 18446744073709551616) : rd (putN n ++ more) = (n, (putN n).length, 0) := by
  have := rdN_put 10 0 0 n more rfl (by simpa using h) (by omega)
  simpa [rd] using this

theorem rdN_err : ∀ (f i acc : Nat) (l : List UInt8), (rdN f i acc l).2.2 ≠ 0 → (rdN f i acc l) = (0, 0, 3) ∨ rdN f i acc l = (0, 0, 4)
  | 0, i, acc, l, h => .inr rfl
  | f + 1, i, acc, [], h => .inl rfl
  | f + 1, i, acc, c :: r, h => by
    simp only [rdN] at h ⊢
    split
    · exact .inr rfl
    · rename_i h1
      rw [if_neg h1] at h
      split
      · rename_i h2; rw [if_pos h2] at h; exact absurd rfl h
      · rename_i h2; rw [if_neg h2] at h; exact rdN_err _ _ _ _ h
theorem rd_err (l : List UInt8) (h : (rd l).2.2 ≠ 0) : rd l = (0, 0, 3) ∨ rd l = (0, 0, 4) := rdN_err _ _ _ _ h

theorem rdN_ok : ∀ (f i acc : Nat) (l : List UInt8), i + f = 10 → acc < 2 ^ (7 * i) → (rdN f i acc l).2.2 = 0 →
    ∃ m j : Nat, rdN f i acc l = (acc + m * 2 ^ (7 * i), i + j, 0) ∧ putN m = l.take j ∧ 1 ≤ j ∧ j ≤ f ∧ j ≤ l.length ∧ (0 < i → m ≠ 0) ∧ acc + m * 2 ^ (7 * i) < 18446744073709551616 ∧
      ∀ a, a < j → rdN f i acc (l.take a) = (0, 0, 3)
  | 0, i, acc, l, hf, ha, h => by simp [rdN] at h
  | f + 1, i, acc, [], hf, ha, h => by simp [rdN] at h
  | f + 1, i, acc, c :: r, hf, ha, h => by
    have hc := c.toNat_lt
    by_cases hbad : (i = 9 ∧ 1 < c.toNat) ∨ (0 < i ∧ c.toNat = 0)
    · simp [rdN, hbad] at h
    · by_cases h128 : c.toNat < 128
      · refine ⟨c.toNat, 1, ?_, ?_, by omega, by omega, by simp, by omega, ?_, ?_⟩
        · simp only [rdN]; rw [if_neg hbad, if_pos h128, Nat.mod_eq_of_lt h128]
        · rw [putN_lt _ h128]; simp
        · have hi : i ≤ 9 := by omega
          have hp : 2 ^ (7 * i) ≤ 2 ^ 63 := Nat.pow_le_pow_right (by omega) (by omega)
          by_cases h9 : i = 9
          · subst h9
            have h1 : c.toNat ≤ 1 := by omega
            have := Nat.mul_le_mul_right (2 ^ (7 * 9)) h1
            omega
          · have hp : 2 ^ (7 * i) ≤ 2 ^ 56 := Nat.pow_le_pow_right (by omega) (by omega)
            have := Nat.mul_le_mul (show c.toNat ≤ 127 by omega) hp
            omega
        · intro a h1
          obtain rfl : a = 0 := by omega
          rfl
      · have e0 : rdN (f + 1) i acc (c :: r) = rdN f (i + 1) (acc + c.toNat % 128 * 2 ^ (7 * i)) r := by
          simp only [rdN]; rw [if_neg hbad, if_neg h128]
        rw [e0] at h
        obtain ⟨m, j, h1, h2, h3, h4, h5, h6, h7, h8⟩ := rdN_ok f (i + 1) _ r (by omega) (rd_step_lt acc c.toNat i ha) h
        have hm : m ≠ 0 := h6 (by omega)
        have hs := split7 (c.toNat % 128 + 128 * m) (2 ^ (7 * i))
        have e2 : (c.toNat % 128 + 128 * m) % 128 = c.toNat % 128 := by omega
        have e3 : (c.toNat % 128 + 128 * m) / 128 = m := by omega
        rw [e2, e3] at hs
        have e4 : acc + c.toNat % 128 * 2 ^ (7 * i) + m * 2 ^ (7 * (i + 1)) = acc + (c.toNat % 128 + 128 * m) * 2 ^ (7 * i) := by rw [pow7]; omega
        refine ⟨c.toNat % 128 + 128 * m, j + 1, ?_, ?_, by omega, by omega, by simpa using h5, by omega, by omega, ?_⟩
        · rw [e0, h1, e4]; simp only [Prod.mk.injEq, true_and, and_true]; omega
        · rw [putN_ge _ (by omega), e3, h2, List.take_succ_cons]
          congr 1
          apply UInt8.toNat_inj.1
          rw [hiB_toNat]; omega
        · intro a h1
          cases a with
          | zero => rfl
          | succ a =>
            rw [List.take_succ_cons]
            simp only [rdN]; rw [if_neg hbad, if_neg h128]
            exact h8 a (by omega)

theorem rd_ok (l : List UInt8) (h : (rd l).2.2 = 0) : ∃ n k : Nat, rd l = (n, k, 0) ∧ putN n = l.take k ∧ 1 ≤ k ∧ k ≤ 10 ∧ k ≤ l.length ∧ n < 18446744073709551616 ∧ ∀ a, a < k → rd (l.take a) = (0, 0, 3) := by
  obtain ⟨m, j, h1, h2, h3, h4, h5, _, h7, h8⟩ := rdN_ok 10 0 0 l rfl (by simp) h
  exact ⟨m, j, by simpa [rd] using h1, h2, h3, h4, h5, by simpa using h7, h8⟩

theorem putN_inj {a b : Nat} (h : putN a = putN b) : a = b := by
  induction a using Nat.strongRecOn generalizing b with
  | _ a ih =>
    by_cases ha : a < 128 <;> by_cases hb : b < 128
    · rw [putN_lt a ha, putN_lt b hb] at h
      have := congrArg UInt8.toNat (List.cons.inj h).1
      simp only [UInt8.toNat_ofNat'] at this; omega
    · rw [putN_lt a ha, putN_ge b hb] at h
      have := congrArg UInt8.toNat (List.cons.inj h).1
      rw [hiB_toNat] at this; simp only [UInt8.toNat_ofNat'] at this; omega
    · rw [putN_ge a ha, putN_lt b hb] at h
      have := congrArg UInt8.toNat (List.cons.inj h).1
      rw [hiB_toNat] at this; simp only [UInt8.toNat_ofNat'] at this; omega
    · rw [putN_ge a ha, putN_ge b hb] at h
      have h1 := congrArg UInt8.toNat (List.cons.inj h).1
      rw [hiB_toNat, hiB_toNat] at h1
      have h2 := ih (a / 128) (by omega) (List.cons.inj h).2
      omega
theorem putN_mono (a : Nat) : ∀ b, a ≤ b → (putN a).length ≤ (putN b).length := by
  induction a using Nat.strongRecOn with
  | _ a ih =>
    intro b hab
    by_cases ha : a < 128
    · rw [putN_lt a ha]; exact putN_pos b
    · rw [putN_ge a ha, putN_ge b (by omega)]
      have := ih (a / 128) (by omega) (b / 128) (by omega)
      simp only [List.length_cons]; omega
end Go.Proofs.YtdicoepjkngikaaGreatDoor

/-
  Contracts of package prim over this seat's translation.
-/
set_option linter.unusedVariables false
set_option linter.unusedSimpArgs false
namespace Go.Proofs.YtdicoepjkngikaaGreatDoor
open Go.RowKit

set_option maxHeartbeats 1000000 in
set_option maxRecDepth 100000 in
theorem readNumber_any (s : ByteArray) (w : World) :
    Calls Tryz.prog 80 #[.string s] w fun e w' => e = .returned (.tuple #[.int .u64 (rd s.data.toList).1, .int .i64 (rd s.data.toList).2.1, .int .i64 (rd s.data.toList).2.2]) ∧ w = w' := by
  go_enter Tryz.func80, Tryz.ntmps80
  go_wp2
  go_loop [5,8] (fun n i => ∃ k m : Nat, k ≤ s.size ∧ k ≤ 10 ∧ m < 2 ^ (7 * k) ∧ Hid (rd s.data.toList = rdN (10 - k) k m (s.data.toList.drop k)) ∧ i = .int .i64 k ∧ n = .int .u64 m) (fun _ i => 10 - (intOf i).toNat)
  case atStart => exact ⟨0, 0, Nat.zero_le _, Nat.zero_le _, by simp, by simp [Hid, rd], rfl, rfl⟩
  case round =>
    obtain ⟨k, m, hk, hk2, hm, H, rfl, rfl⟩ := hrel
    by_cases hlt : k < 10
    · have hf : 10 - k = (10 - (k + 1)) + 1 := by omega
      by_cases hk : k < s.size
      · have H1 := H.out
        rw [drop_cons s k hk, hf, rdN] at H1
        have hc := (s[k]).toNat_lt
        have hv : (k = 9 → (s[k]).toNat ≤ 1) → _ := fun h9 => rd_step_val m (s[k]).toNat k (by omega) hm hc h9
        have hl := rd_step_lt m (s[k]).toNat k hm
        by_cases hbad : (k = 9 ∧ 1 < (s[k]).toNat) ∨ (0 < k ∧ (s[k]).toNat = 0)
        · rw [if_pos hbad] at H1
          have HH := Lib.hid H1
          have hb := rd_bad _ _ hbad
          clear H H1 hbad hv hl hf hm
          rcases hb with ⟨t1, t2⟩ | ⟨t1, t2, t3, t4⟩ | ⟨t1, t2, t3⟩
          all_goals
            go_wp2
            refine bodyPost_ret (results_tmp3 rfl _ _ _) rfl ?_
            exact ⟨by rw [HH.out]; rfl, rfl⟩
        · rw [if_neg hbad] at H1
          have HV := Lib.hid (hv (by omega))
          have HL := Lib.hid hl
          have hg := rd_good _ _ hbad
          by_cases h128 : (s[k]).toNat < 128
          · rw [if_pos h128] at H1
            have HH := Lib.hid H1
            clear H H1 hbad hv hl hf hm
            rcases hg with ⟨t1, t2, t3, t4⟩ | ⟨t1, t2, t3⟩ | ⟨t1, t2⟩
            all_goals
              go_wp2
              refine bodyPost_ret (results_tmp3 rfl _ _ _) rfl ?_
              exact ⟨by rw [HH.out]; exact congrArg Ending.returned (congrArg (fun x => Value.tuple #[.int .u64 x, .int .i64 ((k : Int) + 1), .int .i64 0]) HV.out), rfl⟩
          · rw [if_neg h128] at H1
            have HH := Lib.hid H1
            clear H H1 hbad hv hl hf hm
            rcases hg with ⟨t1, t2, t3, t4⟩ | ⟨t1, t2, t3⟩ | ⟨t1, t2⟩
            · exfalso; omega
            all_goals
              go_wp2
              go_round
              case rel => exact ⟨k + 1, _, by omega, by omega, HL.out, HH, by go_num, congrArg (Value.int .u64) HV.out⟩
              case measure => simp [intOf]; omega
      · have H1 := H.out
        rw [List.drop_of_length_le (by simpa using hk), hf, rdN] at H1
        have HH := Lib.hid H1
        have h2 : ((k : Int) == (s.size : Int)) = true := by simp; omega
        clear H H1 hf hm
        go_wp2
        refine bodyPost_ret (results_tmp3 rfl _ _ _) rfl ?_
        exact ⟨by rw [HH.out]; rfl, rfl⟩
    · obtain rfl : k = 10 := by omega
      have HH : Hid (rd s.data.toList = (0, 0, 4)) := H
      clear H
      go_wp2
      refine bodyPost_ret (results_tmp3 rfl _ _ _) rfl ?_
      exact ⟨by rw [HH.out]; rfl, rfl⟩
theorem u8_info : (Tryz.prog.info? 5).map (fun i => (i.zero, i.size, i.bytes)) = some (some (.int .u8 0), 1, 1) := by kernel_rfl
set_option maxHeartbeats 1000000 in
set_option maxRecDepth 100000 in
theorem put_any (base : Nat) (v : Value) (l : List UInt8) (n : Nat) (w : World) (hn : n < 18446744073709551616) (hl : l.length ≤ 70368744177664) (hbuf : Buf 5 w base v l) (hbase : base ≤ w.heap.size) :
    Calls Tryz.prog 51 #[v, .int .u64 n] w fun e w' => ∃ v', e = .returned v' ∧ Buf 5 w' base v' (l ++ putN n) ∧ Below base w w' := by
  have hn' := putN_len10 n hn
  go_enter Tryz.func51, Tryz.ntmps51
  go_wp2
  go_loopw [0,1] (fun b i wr => ∃ (v' : Value) (l' : List UInt8) (m : Nat), b = v' ∧ i = .int .u64 m ∧ m < 18446744073709551616 ∧ Buf 5 wr base v' l' ∧ Hid (l' ++ putN m = l ++ putN n) ∧ Below base w wr ∧ l'.length ≤ l.length + 10) (fun _ i _ => (intOf i).toNat)
  case atStart => exact ⟨v, l, n, rfl, rfl, hn, hbuf, rfl, Below.refl _ _, by omega⟩
  case round =>
    obtain ⟨v', l', m, rfl, rfl, hm, hb, H, hbel, hlen⟩ := hrel
    have H1 := H.out
    by_cases h128 : m < 128
    · have hv := Lib.hid (put_last_val m h128)
      rw [putN_lt m h128] at H1
      have HH := Lib.hid H1
      clear H1 H
      go_wp2_with (at_builtin; refine wpList_buf_append _ rfl _ _ 43 rfl 5 Tryz.underlying43 u8_info base _ l' rfl (hb.alloc _) ⟨wr.heap.size, 0, none⟩ 1 1 [UInt8.ofNat m] rfl rfl (cells_new _ _ _ _ (congrArg (fun x => [Value.int .u8 x]) hv.out)) (by simp; omega) (by simp; have := hbel.size; omega) ?_)
      intro v2 w2 hb2 hbel2
      go_wp2
      go_ret
      exact ⟨v2, rfl, HH.out ▸ hb2, (hbel.alloc (by have := hbel.size; omega) _).trans hbel2⟩
    · have hv := Lib.hid (put_step_val m)
      rw [putN_ge m h128] at H1
      have HH := Lib.hid H1
      clear H1 H
      go_wp2_with (at_builtin; refine wpList_buf_append _ rfl _ _ 43 rfl 5 Tryz.underlying43 u8_info base _ l' rfl (hb.alloc _) ⟨wr.heap.size, 0, none⟩ 1 1 [hiB m] rfl rfl (cells_new _ _ _ _ (congrArg (fun x => [Value.int .u8 x]) hv.out)) (by simp; omega) (by simp; have := hbel.size; omega) ?_)
      intro v2 w2 hb2 hbel2
      go_wp2
      go_roundw
      case rel => exact ⟨v2, l' ++ [hiB m], m / 128, rfl, by go_num, by omega, hb2, by show _ = _; rw [List.append_assoc]; exact HH.out, (hbel.alloc (by have := hbel.size; omega) _).trans hbel2, by have := congrArg List.length HH.out; have h3 := putN_pos (m / 128); simp only [List.length_append, List.length_cons, List.length_nil] at this ⊢; omega⟩
      case measure => simp [intOf]; omega

set_option maxHeartbeats 1000000 in
set_option maxRecDepth 100000 in
theorem number_any (n : Nat) (w : World) (hn : n < 18446744073709551616) :
    Calls Tryz.prog 87 #[.int .u64 n] w fun e w' => e = .returned (.string ⟨(putN n).toArray⟩) ∧ Below w.heap.size w w' := by
  go_enter Tryz.func87, Tryz.ntmps87
  go_wp2_with (go_at_call 51; refine (put_any w.heap.size _ [] n _ hn (by simp) (Buf.nil _ _ _) (Nat.le_refl _)).mono ?_; rintro e w1 ⟨v1, rfl, hb, hbel⟩; have hcv := buf_string (P := Tryz.prog) (U := 5) (src := 43) (dst := 9) Tryz.underlying43 Tryz.underlying5 Tryz.underlying9 hb)
  go_ret
  exact ⟨by simp, hbel⟩
end Go.Proofs.YtdicoepjkngikaaGreatDoor

/-
  The contract of prim.Zig.
-/
set_option linter.unusedVariables false
set_option linter.unusedSimpArgs false
namespace Go.Proofs.YtdicoepjkngikaaGreatDoor
open Go.RowKit
set_option maxHeartbeats 1000000 in
set_option maxRecDepth 100000 in
theorem zig_any (n : Int) (w : World) (h1 : -9223372036854775808 ≤ n) (h2 : n ≤ 9223372036854775807) :
    Calls Tryz.prog 75 #[.int .i64 n] w fun e w' => e = .returned (.int .u64 (zigI n)) ∧ w = w' := by
  by_cases h : n < 0
  · go_enter Tryz.func75, Tryz.ntmps75
    go_wp2
    go_ret
    exact ⟨congrArg (fun x => Ending.returned (.int .u64 x)) (zigI_val_neg n h1 h), rfl⟩
  · have h' : 0 ≤ n := by omega
    go_enter Tryz.func75, Tryz.ntmps75
    go_wp2
    go_ret
    exact ⟨congrArg (fun x => Ending.returned (.int .u64 x)) (zigI_val_pos n h2 h'), rfl⟩
end Go.Proofs.YtdicoepjkngikaaGreatDoor

/-
  The contract of prim.Zag.
-/
set_option linter.unusedVariables false
set_option linter.unusedSimpArgs false
namespace Go.Proofs.YtdicoepjkngikaaGreatDoor
open Go.RowKit

set_option maxHeartbeats 1000000 in
set_option maxRecDepth 100000 in
theorem zag_any (z : Int) (w : World) (h1 : 0 ≤ z) (h2 : z ≤ 18446744073709551615) :
    Calls Tryz.prog 82 #[.int .u64 z] w fun e w' => e = .returned (.int .i64 (zagI z.toNat)) ∧ w = w' := by
  obtain ⟨n, rfl⟩ := Int.eq_ofNat_of_zero_le h1
  go_enter Tryz.func82, Tryz.ntmps82
  go_wp2
  go_ret
  exact ⟨congrArg (fun x => Ending.returned (.int .i64 x)) (zagI_val n (by omega)), rfl⟩
end Go.Proofs.YtdicoepjkngikaaGreatDoor

/-
  Contracts of prim.Text, prim.ReadText.
-/
set_option linter.unusedVariables false
set_option linter.unusedSimpArgs false
namespace Go.Proofs.YtdicoepjkngikaaGreatDoor
open Go.RowKit
def textE (s : ByteArray) : Nat := if 16 < s.size then 2 else if vT s = true then 0 else 4
def textB (l : List UInt8) : List UInt8 := putN l.length ++ l
theorem textE_0 {s : ByteArray} : textE s = 0 ↔ s.size ≤ 16 ∧ vT s = true := by
  unfold textE
  by_cases h : 16 < s.size
  · rw [if_pos h]; simp; omega
  · rw [if_neg h]
    by_cases h2 : vT s = true
    · rw [if_pos h2]; simp [h2]; omega
    · rw [if_neg h2]; simp [h2]
set_option maxHeartbeats 1000000 in
set_option maxRecDepth 100000 in
theorem text_ok (s : ByteArray) (w : World) (hT : Tabs w) (he : textE s = 0) :
    Calls Tryz.prog 74 #[.string s] w fun e w' => e = .returned (.tuple #[.string (bstr (textB s.data.toList)), .int .i64 0]) ∧ Below w.heap.size w w' := by
  obtain ⟨h16, hv⟩ := textE_0.1 he
  have h1 := valid_any s w (by omega) hT
  rw [hv] at h1
  have H1 := Lib.hid h1
  have hr : (⟨(putN s.size).toArray⟩ : ByteArray) ++ s = bstr (textB s.data.toList) := by
    rw [show (⟨(putN s.size).toArray⟩ : ByteArray) = bstr (putN s.size) from rfl, ← bstr_self s, bstr_append, bstr_self, textB, bl_len]
  have h10 := putN_len10 s.size (by omega)
  have hadd : ∀ W, (Op.stringOp .add (⟨(putN s.size).toArray⟩ : ByteArray) s).run Tryz.prog W = .ok (.string (bstr (textB s.data.toList))) W := fun W => by
    rw [← hr]
    exact run_string_add_sum W _ _ (by have : (⟨(putN s.size).toArray⟩ : ByteArray).size = (putN s.size).length := rfl
                                       omega)
  have hw : IntKind.u64.wrap (s.size : Int) = (s.size : Int) := by rw [IntKind.wrap_u64]; omega
  clear h1 he hv hr
  go_enter Tryz.func74, Tryz.ntmps74
  go_wp2_with fail
  refine H1.out.mono ?_
  rintro e w1 ⟨rfl, hb1⟩
  go_wp2_with fail
  refine (number_any s.size w1 (by omega)).mono ?_
  rintro e w2 ⟨rfl, hb2⟩
  go_wp2_with fail
  go_ret2
  exact ⟨rfl, bthen hb1 hb2⟩
set_option maxHeartbeats 1000000 in
set_option maxRecDepth 100000 in
theorem text_bad (s : ByteArray) (w : World) (hs : s.size ≤ 9223372036854775807) (hT : Tabs w) (he : textE s ≠ 0) :
    Calls Tryz.prog 74 #[.string s] w fun e w' => e = .returned (.tuple #[.string ByteArray.empty, .int .i64 (textE s : Int)]) ∧ Below w.heap.size w w' := by
  by_cases h16 : 16 < s.size
  · have hE : textE s = 2 := by unfold textE; rw [if_pos h16]
    rw [hE]
    clear he hE
    go_enter Tryz.func74, Tryz.ntmps74
    go_wp2_with fail
    go_ret2
    exact ⟨rfl, Below.refl _ _⟩
  · have hv : vT s = false := by
      cases h : vT s
      · rfl
      · exact absurd (textE_0.2 ⟨by omega, h⟩) he
    have hE : textE s = 4 := by unfold textE; rw [if_neg h16, if_neg (by rw [hv]; simp)]
    rw [hE]
    have h1 := valid_any s w hs hT
    rw [hv] at h1
    have H1 := Lib.hid h1
    clear he hE h1 hv
    go_enter Tryz.func74, Tryz.ntmps74
    go_wp2_with fail
    refine H1.out.mono ?_
    rintro e w1 ⟨rfl, hb1⟩
    go_wp2_with fail
    go_ret2
    exact ⟨rfl, hb1⟩
/-- What stands at the front: a text, how far it reaches, the error. -/
def rdT (l : List UInt8) : List UInt8 × Nat × Nat :=
  if (rd l).2.2 ≠ 0 then ([], 0, (rd l).2.2) else if 16 < (rd l).1 then ([], 0, 2) else if l.length < (rd l).2.1 + (rd l).1 then ([], 0, 3) else
  if Lib.validD ((l.drop (rd l).2.1).take (rd l).1) = true then ((l.drop (rd l).2.1).take (rd l).1, (rd l).2.1 + (rd l).1, 0) else ([], 0, 4)
set_option maxHeartbeats 2000000 in
set_option maxRecDepth 100000 in
theorem readText_any (s : ByteArray) (w : World) (hs : s.size ≤ 4611686018427387904) (hT : Tabs w) :
    Calls Tryz.prog 81 #[.string s] w fun e w' => e = .returned (.tuple #[.string (bstr (rdT s.data.toList).1), .int .i64 ((rdT s.data.toList).2.1 : Int), .int .i64 ((rdT s.data.toList).2.2 : Int)]) ∧ Below w.heap.size w w' := by
  have hN := readNumber_any s w
  by_cases h0 : (rd s.data.toList).2.2 = 0
  · obtain ⟨n, k, hr, _, hk1, hk10, hkl, hn, _⟩ := rd_ok _ h0
    have hR : rdT s.data.toList = if 16 < n then ([], 0, 2) else if s.data.toList.length < k + n then ([], 0, 3) else
        if Lib.validD ((s.data.toList.drop k).take n) = true then ((s.data.toList.drop k).take n, k + n, 0) else ([], 0, 4) := by
      unfold rdT
      rw [hr]
      rw [if_neg (by simp)]
    rw [hr] at hN
    simp only [] at hN
    rw [bl_len] at hkl hR
    rw [hR]
    have HN := Lib.hid hN
    clear hN hR h0 hr
    have hw : wrap64 (n : Int) = (n : Int) ∨ 16 < n := by
      rcases Nat.lt_or_ge 16 n with h | h
      · exact .inr h
      · exact .inl (by unfold wrap64; omega)
    by_cases h16 : 16 < n
    · rw [if_pos h16]
      have hi : (16 : Int) < (n : Int) := by omega
      clear hw
      go_enter Tryz.func81, Tryz.ntmps81
      go_wp2_with fail
      refine HN.out.mono ?_
      rintro e w1 ⟨rfl, rfl⟩
      go_wp2_with fail
      go_ret3
      exact ⟨rfl, Below.refl _ _⟩
    · rw [if_neg h16]
      by_cases h3 : s.size < k + n
      · rw [if_pos h3]
        clear hw
        go_enter Tryz.func81, Tryz.ntmps81
        go_wp2_with fail
        refine HN.out.mono ?_
        rintro e w1 ⟨rfl, rfl⟩
        go_wp2_with fail
        go_ret3
        exact ⟨rfl, Below.refl _ _⟩
      · rw [if_neg h3]
        have hx : (s.extract k (k + n)).data.toList = (s.data.toList.drop k).take n := by rw [extract_list]; congr 1; omega
        have hv := valid_any (s.extract k (k + n)) w (by rw [ByteArray.size_extract]; omega) hT
        unfold vT at hv
        rw [hx] at hv
        have hb : bstr ((s.data.toList.drop k).take n) = s.extract k (k + n) := by rw [← hx, bstr_self]
        have i1 : (k : Int) ≤ (k : Int) + (n : Int) := by omega
        have i2 : (k : Int) + (n : Int) ≤ (s.size : Int) := by omega
        cases hV : Lib.validD ((s.data.toList.drop k).take n)
        · rw [if_neg (by simp)]
          rw [hV] at hv
          have HV := Lib.hid hv
          clear hv hx hb hV hw
          go_enter Tryz.func81, Tryz.ntmps81
          go_wp2_with fail
          refine HN.out.mono ?_
          rintro e w1 ⟨rfl, rfl⟩
          go_wp2_with fail
          refine HV.out.mono ?_
          rintro e w1 ⟨rfl, hb1⟩
          go_wp2_with fail
          go_ret3
          exact ⟨rfl, hb1⟩
        · rw [if_pos rfl]
          rw [hV] at hv
          simp only []
          rw [hb]
          have HV := Lib.hid hv
          clear hv hx hb hV hw
          go_enter Tryz.func81, Tryz.ntmps81
          go_wp2_with fail
          refine HN.out.mono ?_
          rintro e w1 ⟨rfl, rfl⟩
          go_wp2_with fail
          refine HV.out.mono ?_
          rintro e w1 ⟨rfl, hb1⟩
          go_wp2_with fail
          go_ret3
          exact ⟨by simp, hb1⟩
  · have hR : rdT s.data.toList = ([], 0, (rd s.data.toList).2.2) := by unfold rdT; rw [if_pos h0]
    rw [hR]
    generalize rd s.data.toList = r at *
    obtain ⟨a, b, c⟩ := r
    simp only [] at hN h0 ⊢
    have h0b : ((c : Int) != 0) = true := by rw [bne_iff_ne]; omega
    have HN := Lib.hid hN
    clear hN hR h0
    go_enter Tryz.func81, Tryz.ntmps81
    go_wp2_with fail
    refine HN.out.mono ?_
    rintro e w1 ⟨rfl, rfl⟩
    go_wp2_with fail
    go_ret3
    exact ⟨rfl, Below.refl _ _⟩
end Go.Proofs.YtdicoepjkngikaaGreatDoor

/-
  Plain laws of texts.
-/
set_option linter.unusedVariables false
set_option linter.unusedSimpArgs false
namespace Go.Proofs.YtdicoepjkngikaaGreatDoor
theorem rdT_text (l more : List UInt8) (h16 : l.length ≤ 16) (hv : Lib.validD l = true) : rdT (textB l ++ more) = (l, (textB l).length, 0) := by
  have hr : rd (textB l ++ more) = (l.length, (putN l.length).length, 0) := by
    unfold textB; rw [List.append_assoc]; exact rd_put _ _ (by omega)
  have hd : ((textB l ++ more).drop (putN l.length).length).take l.length = l := by
    unfold textB; rw [List.append_assoc, List.drop_left, List.take_left]
  unfold rdT
  rw [hr]
  simp only []
  rw [if_neg (by simp), if_neg (by omega), if_neg (by unfold textB; simp only [List.length_append]; omega), hd, if_pos hv]
  unfold textB
  rw [List.length_append]
theorem rdT_err (l : List UInt8) (h : (rdT l).2.2 ≠ 0) : rdT l = ([], 0, (rdT l).2.2) := by
  unfold rdT at h ⊢
  (repeat' split) <;> first | rfl | (exfalso; simp_all)
theorem rdT_inv (l : List UInt8) (h : (rdT l).2.2 = 0) : (rdT l).1.length ≤ 16 ∧ Lib.validD (rdT l).1 = true ∧ textB (rdT l).1 = l.take (rdT l).2.1 ∧ (rdT l).2.1 ≤ l.length ∧ 1 ≤ (rdT l).2.1 := by
  by_cases h0 : (rd l).2.2 = 0
  · obtain ⟨n, k, hr, hp, hk1, hk10, hkl, hn, _⟩ := rd_ok _ h0
    have hR : rdT l = if 16 < n then ([], 0, 2) else if l.length < k + n then ([], 0, 3) else
        if Lib.validD ((l.drop k).take n) = true then ((l.drop k).take n, k + n, 0) else ([], 0, 4) := by
      unfold rdT
      rw [hr]
      rw [if_neg (by simp)]
    by_cases h16 : 16 < n
    · rw [hR, if_pos h16] at h; exact absurd h (by decide)
    · by_cases h3 : l.length < k + n
      · rw [hR, if_neg h16, if_pos h3] at h; exact absurd h (by decide)
      · by_cases hV : Lib.validD ((l.drop k).take n) = true
        · rw [if_neg h16, if_neg h3, if_pos hV] at hR
          rw [hR]
          have hl : ((l.drop k).take n).length = n := by rw [List.length_take, List.length_drop]; omega
          refine ⟨by rw [hl]; omega, hV, ?_, by show k + n ≤ _; omega, by show 1 ≤ k + n; omega⟩
          unfold textB
          rw [hl, hp, ← List.take_add]
        · rw [hR, if_neg h16, if_neg h3, if_neg hV] at h; exact absurd h (by decide)
  · unfold rdT at h; rw [if_pos h0] at h; exact absurd h h0
theorem textE_l {l : List UInt8} : textE (bstr l) = 0 ↔ l.length ≤ 16 ∧ Lib.validD l = true := by rw [textE_0, bstr_size]; unfold vT; rw [bstr_list]
end Go.Proofs.YtdicoepjkngikaaGreatDoor

/-
  Plain: readers of bytes, and what they read back. No program.
-/
set_option linter.unusedVariables false
set_option linter.unusedSimpArgs false
namespace Go.Proofs.YtdicoepjkngikaaGreatDoor
inductive Res (α : Type) where
  | ok (a : α) (rest : List UInt8)
  | bad (e : Nat)
def Res.bind {α β : Type} : Res α → (α → List UInt8 → Res β) → Res β
  | .ok a r, f => f a r
  | .bad e, _ => .bad e
/-- p reads what enc tells, of D; nothing else; and never a part of it. -/
structure PP {α : Type} (p : List UInt8 → Res α) (enc : α → List UInt8) (D : α → Prop) : Prop where
  fwd : ∀ a more, D a → p (enc a ++ more) = .ok a more
  bwd : ∀ l a rest, p l = .ok a rest → D a ∧ l = enc a ++ rest
  cut : ∀ a k, D a → k < (enc a).length → p ((enc a).take k) = .bad 3
  err : ∀ l e, p l = .bad e → e ≠ 0
def pSeq {α β : Type} (p : List UInt8 → Res α) (q : α → List UInt8 → Res β) (l : List UInt8) : Res (α × β) :=
  (p l).bind fun a r => (q a r).bind fun b r' => .ok (a, b) r'
theorem PP.seq {α β : Type} {p : List UInt8 → Res α} {enc : α → List UInt8} {D : α → Prop} {q : α → List UInt8 → Res β} {enc' : α → β → List UInt8} {D' : α → β → Prop}
    (hp : PP p enc D) (hq : ∀ a, D a → PP (q a) (enc' a) (D' a)) : PP (pSeq p q) (fun x => enc x.1 ++ enc' x.1 x.2) (fun x => D x.1 ∧ D' x.1 x.2) where
  fwd := fun ⟨a, b⟩ more ⟨h1, h2⟩ => by
    unfold pSeq
    rw [List.append_assoc, hp.fwd a _ h1]
    show ((q a _).bind _) = _
    rw [(hq a h1).fwd b more h2]; rfl
  bwd := fun l ⟨a, b⟩ rest h => by
    unfold pSeq at h
    cases h1 : p l with
    | bad e => rw [h1] at h; cases h
    | ok a' r =>
      rw [h1] at h
      obtain ⟨g1, g2⟩ := hp.bwd _ _ _ h1
      change ((q a' r).bind _) = _ at h
      cases h2 : q a' r with
      | bad e => rw [h2] at h; cases h
      | ok b' r' =>
        rw [h2] at h
        obtain ⟨g3, g4⟩ := (hq a' g1).bwd _ _ _ h2
        change Res.ok (a', b') r' = _ at h
        injection h with h3 h4
        injection h3 with h5 h6
        subst h5 h6 h4
        exact ⟨⟨g1, g3⟩, by rw [g2, g4, List.append_assoc]⟩
  cut := fun ⟨a, b⟩ k ⟨h1, h2⟩ hk => by
    unfold pSeq
    simp only [] at hk ⊢
    rw [List.length_append] at hk
    by_cases hlt : k < (enc a).length
    · rw [List.take_append_of_le_length (by omega), hp.cut a k h1 hlt]; rfl
    · rw [List.take_append, List.take_of_length_le (by omega), hp.fwd a _ h1]
      show ((q a _).bind _) = _
      rw [(hq a h1).cut b _ h2 (by omega)]; rfl
  err := fun l e h => by
    unfold pSeq at h
    cases h1 : p l with
    | bad e' => rw [h1] at h; injection h with h; subst h; exact hp.err _ _ h1
    | ok a' r =>
      rw [h1] at h
      obtain ⟨g1, g2⟩ := hp.bwd _ _ _ h1
      change ((q a' r).bind _) = _ at h
      cases h2 : q a' r with
      | bad e' => rw [h2] at h; injection h with h; subst h; exact (hq a' g1).err _ _ h2
      | ok b' r' => rw [h2] at h; cases h
def pMap {α β : Type} (f : α → β) (p : List UInt8 → Res α) (l : List UInt8) : Res β := (p l).bind fun a r => .ok (f a) r
theorem PP.map {α β : Type} {p : List UInt8 → Res α} {enc : α → List UInt8} {D : α → Prop} (f : α → β) (g : β → α) {enc' : β → List UInt8} {D' : β → Prop} (hp : PP p enc D)
    (h1 : ∀ a, D a → D' (f a) ∧ g (f a) = a) (h2 : ∀ b, D' b → D (g b) ∧ f (g b) = b) (h3 : ∀ b, D' b → enc' b = enc (g b)) : PP (pMap f p) enc' D' where
  fwd := fun b more hb => by
    unfold pMap
    rw [h3 b hb, hp.fwd _ more (h2 b hb).1]
    show Res.ok (f (g b)) more = _
    rw [(h2 b hb).2]
  bwd := fun l b rest h => by
    unfold pMap at h
    cases h4 : p l with
    | bad e => rw [h4] at h; cases h
    | ok a r =>
      rw [h4] at h
      obtain ⟨g1, g2⟩ := hp.bwd _ _ _ h4
      change Res.ok (f a) r = _ at h
      injection h with h5 h6
      subst h5 h6
      exact ⟨(h1 a g1).1, by rw [h3 _ (h1 a g1).1, (h1 a g1).2]; exact g2⟩
  cut := fun b k hb hk => by
    unfold pMap
    rw [h3 b hb] at hk ⊢
    rw [hp.cut _ k (h2 b hb).1 hk]; rfl
  err := fun l e h => by
    unfold pMap at h
    cases h4 : p l with
    | bad e' => rw [h4] at h; injection h with h; subst h; exact hp.err _ _ h4
    | ok a r => rw [h4] at h; cases h
/-- Nothing is read. -/
def pUnit {α : Type} (a : α) (l : List UInt8) : Res α := .ok a l
theorem PP.unit {α : Type} (a : α) : PP (pUnit a) (fun _ => []) (fun x => x = a) where
  fwd := fun x more h => by subst h; rfl
  bwd := fun l x rest h => by unfold pUnit at h; injection h with h1 h2; subst h1 h2; exact ⟨rfl, rfl⟩
  cut := fun x k _ hk => by simp at hk
  err := fun l e h => by cases h
/-- So many, one behind the other. -/
def pRep {α : Type} (p : List UInt8 → Res α) : Nat → List UInt8 → Res (List α)
  | 0, l => .ok [] l
  | n + 1, l => (p l).bind fun a r => (pRep p n r).bind fun xs r' => .ok (a :: xs) r'
theorem PP.rep {α : Type} {p : List UInt8 → Res α} {enc : α → List UInt8} {D : α → Prop} (hp : PP p enc D) : ∀ n : Nat, PP (pRep p n) (fun l => l.flatMap enc) (fun l => l.length = n ∧ ∀ x ∈ l, D x)
  | 0 => {
    fwd := fun l more ⟨h, _⟩ => by
      obtain rfl := List.eq_nil_of_length_eq_zero h
      rfl
    bwd := fun l a rest h => by unfold pRep at h; injection h with h1 h2; subst h1 h2; exact ⟨⟨rfl, by simp⟩, rfl⟩
    cut := fun l k ⟨h, _⟩ hk => by
      obtain rfl := List.eq_nil_of_length_eq_zero h
      simp at hk
    err := fun l e h => by cases h }
  | n + 1 => by
    have ih := PP.rep hp n
    refine ⟨fun l more ⟨h, hd⟩ => ?_, fun l a rest h => ?_, fun l k ⟨h, hd⟩ hk => ?_, fun l e h => ?_⟩
    · match l, h with
      | x :: r, h =>
        unfold pRep
        rw [List.flatMap_cons, List.append_assoc, hp.fwd x _ (hd x List.mem_cons_self)]
        show ((pRep p n _).bind _) = _
        rw [ih.fwd r more ⟨by simpa using h, fun y hy => hd y (List.mem_cons_of_mem _ hy)⟩]; rfl
    · unfold pRep at h
      cases h1 : p l with
      | bad e => rw [h1] at h; cases h
      | ok x r =>
        rw [h1] at h
        obtain ⟨g1, g2⟩ := hp.bwd _ _ _ h1
        change ((pRep p n r).bind _) = _ at h
        cases h2 : pRep p n r with
        | bad e => rw [h2] at h; cases h
        | ok xs r' =>
          rw [h2] at h
          obtain ⟨⟨g3, g4⟩, g5⟩ := ih.bwd _ _ _ h2
          change Res.ok (x :: xs) r' = _ at h
          injection h with h3 h4
          subst h3 h4
          refine ⟨⟨by simp [g3], fun y hy => ?_⟩, by rw [List.flatMap_cons, List.append_assoc, ← g5]; exact g2⟩
          rcases List.mem_cons.1 hy with rfl | hy
          · exact g1
          · exact g4 y hy
    · match l, h with
      | x :: r, h =>
        have hx := hd x List.mem_cons_self
        unfold pRep
        rw [List.flatMap_cons] at hk ⊢
        rw [List.length_append] at hk
        by_cases hlt : k < (enc x).length
        · rw [List.take_append_of_le_length (by omega), hp.cut x k hx hlt]; rfl
        · rw [List.take_append, List.take_of_length_le (by omega), hp.fwd x _ hx]
          show ((pRep p n _).bind _) = _
          rw [ih.cut r _ ⟨by simpa using h, fun y hy => hd y (List.mem_cons_of_mem _ hy)⟩ (by omega)]; rfl
    · unfold pRep at h
      cases h1 : p l with
      | bad e' => rw [h1] at h; injection h with h; subst h; exact hp.err _ _ h1
      | ok x r =>
        rw [h1] at h
        change ((pRep p n r).bind _) = _ at h
        cases h2 : pRep p n r with
        | bad e' => rw [h2] at h; injection h with h; subst h; exact ih.err _ _ h2
        | ok xs r' => rw [h2] at h; cases h
/-- A number. -/
def pNum (l : List UInt8) : Res Nat := if (rd l).2.2 = 0 then (if 4611686018427387904 < (rd l).1 then .bad 2 else .ok (rd l).1 (l.drop (rd l).2.1)) else .bad (rd l).2.2
theorem pNum_PP : PP pNum putN (fun n => n ≤ 4611686018427387904) where
  fwd := fun n more h => by
    unfold pNum
    rw [rd_put n more (by omega)]
    simp only []
    rw [if_pos trivial, if_neg (by omega), List.drop_left]
  bwd := fun l n rest h => by
    unfold pNum at h
    by_cases h0 : (rd l).2.2 = 0
    · obtain ⟨m, k, hr, hp, hk1, hk10, hkl, hn, _⟩ := rd_ok l h0
      rw [hr] at h
      simp only [] at h
      rw [if_pos trivial] at h
      by_cases h2 : 4611686018427387904 < m
      · rw [if_pos h2] at h; cases h
      · rw [if_neg h2] at h
        injection h with h3 h4
        subst h3 h4
        exact ⟨by omega, by rw [hp, List.take_append_drop]⟩
    · rw [if_neg h0] at h; cases h
  cut := fun n k h hk => by
    unfold pNum
    obtain ⟨m, j, hr, _, _, _, _, _, h7⟩ := rd_ok (putN n) (by have := rd_put n [] (by omega); rw [List.append_nil] at this; rw [this])
    have := rd_put n [] (by omega)
    rw [List.append_nil] at this
    rw [this] at hr
    have hj : j = (putN n).length := by simp at hr; omega
    rw [h7 k (by omega)]
    rfl
  err := fun l e h => by
    unfold pNum at h
    by_cases h0 : (rd l).2.2 = 0
    · rw [if_pos h0] at h
      split at h
      · injection h with h; omega
      · cases h
    · rw [if_neg h0] at h; injection h with h; subst h; exact h0
/-- A signed number. -/
def pSig (l : List UInt8) : Res Int := pMap (fun n : Nat => zagI n) pNum l
theorem pSig_PP : PP pSig (fun n => putN (zigI n).toNat) (fun n => zigI n ≤ 4611686018427387904) :=
  pNum_PP.map (fun n : Nat => zagI n) (fun n => (zigI n).toNat) (fun n h => ⟨by rw [zig_zag]; exact Int.ofNat_le.2 h, by rw [zig_zag]; rfl⟩)
    (fun n h => ⟨by have := zigI_nonneg n; omega, by rw [zag_zig]⟩) (fun _ _ => rfl)
/-- A text. -/
def pText (l : List UInt8) : Res (List UInt8) := if (rdT l).2.2 = 0 then .ok (rdT l).1 (l.drop (rdT l).2.1) else .bad (rdT l).2.2
theorem pText_PP : PP pText textB (fun t => t.length ≤ 16 ∧ Lib.validD t = true) where
  fwd := fun t more h => by
    unfold pText
    rw [rdT_text t more h.1 h.2]
    simp only []
    rw [if_pos trivial, List.drop_left]
  bwd := fun l t rest h => by
    unfold pText at h
    by_cases h0 : (rdT l).2.2 = 0
    · obtain ⟨g1, g2, g3, g4, g5⟩ := rdT_inv l h0
      rw [if_pos h0] at h
      injection h with h3 h4
      subst h3 h4
      exact ⟨⟨g1, g2⟩, by rw [g3, List.take_append_drop]⟩
    · rw [if_neg h0] at h; cases h
  cut := fun t k h hk => by
    have hr0 := rd_put t.length t (by have := h.1; omega)
    have hs : (rdT ((textB t).take k)) = ([], 0, 3) := by
      unfold textB at hk ⊢
      rw [List.length_append] at hk
      by_cases hlt : k < (putN t.length).length
      · obtain ⟨m, j, hr, _, _, _, _, _, h7⟩ := rd_ok (putN t.length ++ t) (by rw [hr0])
        rw [hr0] at hr
        have hj : j = (putN t.length).length := by simp at hr; omega
        unfold rdT
        rw [h7 k (by omega)]
        rfl
      · rw [List.take_append, List.take_of_length_le (by omega)]
        unfold rdT
        rw [rd_put t.length _ (by have := h.1; omega)]
        simp only []
        rw [if_neg (by simp), if_neg (by have := h.1; omega), if_pos (by rw [List.length_append, List.length_take]; omega)]
    unfold pText
    rw [hs]; rfl
  err := fun l e h => by
    unfold pText at h
    by_cases h0 : (rdT l).2.2 = 0
    · rw [if_pos h0] at h; cases h
    · rw [if_neg h0] at h; injection h with h; subst h; exact h0
/-- Rows: their number, and they. -/
def pRows {α : Type} (many : Nat) (p : List UInt8 → Res α) (l : List UInt8) : Res (List α) := (pNum l).bind fun n r => if many < n then .bad 2 else pRep p n r
def rowsB {α : Type} (enc : α → List UInt8) (l : List α) : List UInt8 := putN l.length ++ l.flatMap enc
theorem PP.rows {α : Type} {p : List UInt8 → Res α} {enc : α → List UInt8} {D : α → Prop} (hp : PP p enc D) (many : Nat) (hm : many ≤ 4611686018427387904) : PP (pRows many p) (rowsB enc) (fun l => l.length ≤ many ∧ ∀ x ∈ l, D x) where
  fwd := fun l more ⟨h, hd⟩ => by
    unfold pRows rowsB
    rw [List.append_assoc, pNum_PP.fwd _ _ (by omega)]
    show (if _ then _ else _) = _
    rw [if_neg (by omega)]
    exact (hp.rep l.length).fwd l more ⟨rfl, hd⟩
  bwd := fun l xs rest h => by
    unfold pRows at h
    cases h1 : pNum l with
    | bad e => rw [h1] at h; cases h
    | ok n r =>
      rw [h1] at h
      obtain ⟨g1, g2⟩ := pNum_PP.bwd _ _ _ h1
      change (if many < n then _ else _) = _ at h
      by_cases h2 : many < n
      · rw [if_pos h2] at h; cases h
      · rw [if_neg h2] at h
        obtain ⟨⟨g3, g4⟩, g5⟩ := (hp.rep n).bwd _ _ _ h
        unfold rowsB
        exact ⟨⟨by omega, g4⟩, by rw [g3, List.append_assoc, ← g5]; exact g2⟩
  cut := fun l k ⟨h, hd⟩ hk => by
    unfold pRows
    unfold rowsB at hk ⊢
    rw [List.length_append] at hk
    by_cases hlt : k < (putN l.length).length
    · rw [List.take_append_of_le_length (by omega), pNum_PP.cut _ _ (by omega) hlt]; rfl
    · rw [List.take_append, List.take_of_length_le (by omega), pNum_PP.fwd _ _ (by omega)]
      show (if _ then _ else _) = _
      rw [if_neg (by omega)]
      exact (hp.rep l.length).cut l _ ⟨rfl, hd⟩ (by omega)
  err := fun l e h => by
    unfold pRows at h
    cases h1 : pNum l with
    | bad e' => rw [h1] at h; injection h with h; subst h; exact pNum_PP.err _ _ h1
    | ok n r =>
      rw [h1] at h
      change (if many < n then _ else _) = _ at h
      by_cases h2 : many < n
      · rw [if_pos h2] at h; injection h with h; omega
      · rw [if_neg h2] at h; exact (hp.rep n).err _ _ h
end Go.Proofs.YtdicoepjkngikaaGreatDoor

/-
  Plain: jobs, nodes, leases, states as bytes.
-/
set_option linter.unusedVariables false
set_option linter.unusedSimpArgs false
namespace Go.Proofs.YtdicoepjkngikaaGreatDoor
def pOpt {α : Type} (c : Bool) (p : List UInt8 → Res α) (a : α) (l : List UInt8) : Res α := if c = true then p l else pUnit a l
theorem PP.opt {α : Type} (c : Bool) {p : List UInt8 → Res α} {enc : α → List UInt8} {D : α → Prop} (a : α) (hp : PP p enc D) :
    PP (pOpt c p a) (fun x => if c = true then enc x else []) (fun x => if c = true then D x else x = a) := by
  cases c
  · exact ⟨(PP.unit a).fwd, (PP.unit a).bwd, (PP.unit a).cut, (PP.unit a).err⟩
  · exact ⟨hp.fwd, hp.bwd, hp.cut, hp.err⟩
def okTx (t : List UInt8) : Prop := t.length ≤ 16 ∧ Lib.validD t = true
def okNb (n : Int) : Prop := 0 ≤ n ∧ n ≤ 4611686018427387904
/-- A text as a string; a number as an int. -/
def pStr (l : List UInt8) : Res ByteArray := pMap (fun t => bstr t) pText l
theorem pStr_PP : PP pStr (fun s => textB s.data.toList) (fun s => okTx s.data.toList) :=
  pText_PP.map (fun t => bstr t) (fun s => s.data.toList) (fun t h => ⟨by rw [bstr_list]; exact h, bstr_list t⟩) (fun s h => ⟨h, bstr_self s⟩) (fun _ _ => rfl)
def pInt (l : List UInt8) : Res Int := pMap (fun n : Nat => (n : Int)) pNum l
theorem pInt_PP : PP pInt (fun n => putN n.toNat) okNb :=
  pNum_PP.map (fun n : Nat => (n : Int)) (fun n => n.toNat) (fun n h => ⟨⟨by omega, by omega⟩, by omega⟩) (fun n h => ⟨by have := h.2; omega, by have := h.1; omega⟩) (fun _ _ => rfl)
def encJ (v : Int) (j : JobD) : List UInt8 :=
  textB j.name.data.toList ++ (putN (zigI j.prio).toNat ++ (putN j.need.toNat ++ ((if decide (1 < v) = true then putN j.tries.toNat else []) ++ (if decide (2 < v) = true then textB j.tag.data.toList else []))))
def okJb (v : Int) (j : JobD) : Prop :=
  okTx j.name.data.toList ∧ zigI j.prio ≤ 4611686018427387904 ∧ okNb j.need ∧ (if decide (1 < v) = true then okNb j.tries else j.tries = 0) ∧ (if decide (2 < v) = true then okTx j.tag.data.toList else j.tag = ByteArray.empty)
def pJob (v : Int) (l : List UInt8) : Res JobD :=
  pMap (fun x : ByteArray × Int × Int × Int × ByteArray => (⟨x.1, x.2.1, x.2.2.1, x.2.2.2.1, x.2.2.2.2⟩ : JobD)) (pSeq pStr fun _ => pSeq pSig fun _ => pSeq pInt fun _ => pSeq (pOpt (decide (1 < v)) pInt 0) fun _ => pOpt (decide (2 < v)) pStr ByteArray.empty) l
theorem pJob_PP (v : Int) : PP (pJob v) (encJ v) (okJb v) :=
  PP.map (enc' := encJ v) (D' := okJb v) (fun x : ByteArray × Int × Int × Int × ByteArray => (⟨x.1, x.2.1, x.2.2.1, x.2.2.2.1, x.2.2.2.2⟩ : JobD)) (fun j => (j.name, j.prio, j.need, j.tries, j.tag))
    (pStr_PP.seq fun _ _ => pSig_PP.seq fun _ _ => pInt_PP.seq fun _ _ => (PP.opt (decide (1 < v)) 0 pInt_PP).seq fun _ _ => PP.opt (decide (2 < v)) ByteArray.empty pStr_PP)
    (fun x h => ⟨⟨h.1, h.2.1, h.2.2.1, h.2.2.2.1, h.2.2.2.2⟩, rfl⟩) (fun j h => ⟨⟨h.1, h.2.1, h.2.2.1, h.2.2.2.1, h.2.2.2.2⟩, rfl⟩) (fun _ _ => rfl)
def encN (v : Int) (n : NodeD) : List UInt8 := textB n.name.data.toList ++ (putN n.room.toNat ++ (if decide (1 < v) = true then textB n.zone.data.toList else []))
def okNd (v : Int) (n : NodeD) : Prop := okTx n.name.data.toList ∧ okNb n.room ∧ (if decide (1 < v) = true then okTx n.zone.data.toList else n.zone = ByteArray.empty)
def pNode (v : Int) (l : List UInt8) : Res NodeD :=
  pMap (fun x : ByteArray × Int × ByteArray => (⟨x.1, x.2.1, x.2.2⟩ : NodeD)) (pSeq pStr fun _ => pSeq pInt fun _ => pOpt (decide (1 < v)) pStr ByteArray.empty) l
theorem pNode_PP (v : Int) : PP (pNode v) (encN v) (okNd v) :=
  PP.map (enc' := encN v) (D' := okNd v) (fun x : ByteArray × Int × ByteArray => (⟨x.1, x.2.1, x.2.2⟩ : NodeD)) (fun j => (j.name, j.room, j.zone)) (pStr_PP.seq fun _ _ => pInt_PP.seq fun _ _ => PP.opt (decide (1 < v)) ByteArray.empty pStr_PP)
    (fun x h => ⟨⟨h.1, h.2.1, h.2.2⟩, rfl⟩) (fun j h => ⟨⟨h.1, h.2.1, h.2.2⟩, rfl⟩) (fun _ _ => rfl)
def encL (n : LeaseD) : List UInt8 := textB n.job.data.toList ++ (textB n.node.data.toList ++ putN n.till.toNat)
def okLs (n : LeaseD) : Prop := okTx n.job.data.toList ∧ okTx n.node.data.toList ∧ okNb n.till
def pLease (l : List UInt8) : Res LeaseD := pMap (fun x : ByteArray × ByteArray × Int => (⟨x.1, x.2.1, x.2.2⟩ : LeaseD)) (pSeq pStr fun _ => pSeq pStr fun _ => pInt) l
theorem pLease_PP : PP pLease encL okLs :=
  PP.map (enc' := encL) (D' := okLs) (fun x : ByteArray × ByteArray × Int => (⟨x.1, x.2.1, x.2.2⟩ : LeaseD)) (fun j => (j.job, j.node, j.till)) (pStr_PP.seq fun _ _ => pStr_PP.seq fun _ _ => pInt_PP)
    (fun x h => ⟨⟨h.1, h.2.1, h.2.2⟩, rfl⟩) (fun j h => ⟨⟨h.1, h.2.1, h.2.2⟩, rfl⟩) (fun _ _ => rfl)
def encS (v : Int) (s : St) : List UInt8 := (if decide (2 < v) = true then putN s.rev.toNat else []) ++ (rowsB (encJ v) s.jobs ++ (rowsB (encN v) s.nodes ++ rowsB encL s.leases))
def okSt (v : Int) (s : St) : Prop :=
  (if decide (2 < v) = true then okNb s.rev else s.rev = 0) ∧ (s.jobs.length ≤ 40 ∧ ∀ x ∈ s.jobs, okJb v x) ∧ (s.nodes.length ≤ 20 ∧ ∀ x ∈ s.nodes, okNd v x) ∧ (s.leases.length ≤ 40 ∧ ∀ x ∈ s.leases, okLs x)
def pState (v : Int) (l : List UInt8) : Res St :=
  pMap (fun x : Int × List JobD × List NodeD × List LeaseD => (⟨x.1, x.2.1, x.2.2.1, x.2.2.2⟩ : St)) (pSeq (pOpt (decide (2 < v)) pInt 0) fun _ => pSeq (pRows 40 (pJob v)) fun _ => pSeq (pRows 20 (pNode v)) fun _ => pRows 40 pLease) l
theorem pState_PP (v : Int) : PP (pState v) (encS v) (okSt v) :=
  PP.map (enc' := encS v) (D' := okSt v) (fun x : Int × List JobD × List NodeD × List LeaseD => (⟨x.1, x.2.1, x.2.2.1, x.2.2.2⟩ : St)) (fun s => (s.rev, s.jobs, s.nodes, s.leases))
    ((PP.opt (decide (2 < v)) 0 pInt_PP).seq fun _ _ => ((pJob_PP v).rows 40 (by decide)).seq fun _ _ => ((pNode_PP v).rows 20 (by decide)).seq fun _ _ => pLease_PP.rows 40 (by decide))
    (fun x h => ⟨⟨h.1, h.2.1, h.2.2.1, h.2.2.2⟩, rfl⟩) (fun j h => ⟨⟨h.1, h.2.1, h.2.2.1, h.2.2.2⟩, rfl⟩) (fun _ _ => rfl)
theorem nameOk_tx {s : ByteArray} (h : nameOk s = true) : okTx s.data.toList := by
  unfold nameOk textOk at h
  simp only [Bool.and_eq_true, decide_eq_true_eq] at h
  exact ⟨by rw [bl_len]; exact h.2.1, h.2.2⟩
theorem textOk_tx {s : ByteArray} (h : textOk s = true) : okTx s.data.toList := by
  unfold textOk at h
  simp only [Bool.and_eq_true, decide_eq_true_eq] at h
  exact ⟨by rw [bl_len]; exact h.1, h.2⟩
theorem empty_of {s : ByteArray} (h : s.toList.isEmpty = true) : s = ByteArray.empty := by
  rw [ByteArray.toList_eq, List.isEmpty_iff] at h
  exact bext h
/-- What may be, and fits, can be told. -/
theorem okSt_of (v : Int) (s : St) (h : Fine s) (hf : fitsB s v = true) (hv : 1 ≤ v ∧ v ≤ 3) : okSt v s := by
  unfold fitsB at hf
  simp only [Bool.and_eq_true, List.all_eq_true] at hf
  obtain ⟨⟨f1, f2⟩, f3⟩ := hf
  refine ⟨?_, ⟨h.nj, fun x hx => ?_⟩, ⟨h.nn, fun x hx => ?_⟩, ⟨h.nl, fun x hx => ?_⟩⟩
  · by_cases h2 : 2 < v
    · rw [if_pos (decide_eq_true h2)]
      exact ⟨h.rev.1, by have := h.rev.2; omega⟩
    · rw [if_neg (by simp [h2])]
      unfold fitR at f1
      rw [Bool.or_eq_true] at f1
      rcases f1 with f1 | f1
      · have := (beq_iff_eq.1 f1); omega
      · exact beq_iff_eq.1 f1
  · have hj := h.j x hx
    have hf := f2 x hx
    unfold jobE at hj
    split at hj
    · rename_i hn
      rw [Bool.and_eq_true] at hn
      split at hj
      · rename_i hw
        simp only [Bool.and_eq_true, withinB_iff] at hw
        obtain ⟨⟨⟨w1, w2⟩, w3, w4⟩, w5, w6⟩ := hw
        unfold fitJ at hf
        simp only [Bool.and_eq_true, Bool.or_eq_true, decide_eq_true_eq] at hf
        refine ⟨nameOk_tx hn.1, ?_, ⟨w3, by omega⟩, ?_, ?_⟩
        · unfold zigI; split <;> omega
        · by_cases h1 : 1 < v
          · rw [if_pos (decide_eq_true h1)]; exact ⟨w5, by omega⟩
          · rw [if_neg (by simp [h1])]
            rcases hf.2 with h2 | h2
            · omega
            · exact beq_iff_eq.1 h2
        · by_cases h1 : 2 < v
          · rw [if_pos (decide_eq_true h1)]; exact textOk_tx hn.2
          · rw [if_neg (by simp [h1])]
            rcases hf.1 with h2 | h2
            · omega
            · exact empty_of h2
      · cases hj
    · cases hj
  · have hj := h.n x hx
    have hf := f3 x hx
    unfold nodeE at hj
    split at hj
    · rename_i hn
      rw [Bool.and_eq_true] at hn
      split at hj
      · rename_i hw
        have hw := withinB_iff.1 hw
        unfold fitN at hf
        simp only [Bool.or_eq_true, decide_eq_true_eq] at hf
        refine ⟨nameOk_tx hn.1, ⟨hw.1, by omega⟩, ?_⟩
        by_cases h1 : 1 < v
        · rw [if_pos (decide_eq_true h1)]; exact textOk_tx hn.2
        · rw [if_neg (by simp [h1])]
          rcases hf with h2 | h2
          · omega
          · exact empty_of h2
      · cases hj
    · cases hj
  · obtain ⟨⟨j, hj⟩, ⟨n, hn⟩, t1, t2⟩ := leaseE_zero (h.l x hx)
    obtain ⟨hjm, hjn⟩ := jobAt_mem hj
    obtain ⟨hnm, hnn⟩ := nodeAt_mem hn
    have e1 := h.j j hjm
    have e2 := h.n n hnm
    refine ⟨?_, ?_, ⟨t1, by omega⟩⟩
    · rw [← hjn]
      unfold jobE at e1
      split at e1
      · rename_i hq; rw [Bool.and_eq_true] at hq; exact nameOk_tx hq.1
      · cases e1
    · rw [← hnn]
      unfold nodeE at e2
      split at e2
      · rename_i hq; rw [Bool.and_eq_true] at hq; exact nameOk_tx hq.1
      · cases e2
/-- What was told of a version fits it. -/
theorem fits_of (v : Int) (s : St) (h : okSt v s) (hv : 1 ≤ v ∧ v ≤ 3) : fitsB s v = true := by
  obtain ⟨h1, ⟨_, h2⟩, ⟨_, h3⟩, _⟩ := h
  unfold fitsB
  simp only [Bool.and_eq_true, List.all_eq_true]
  refine ⟨⟨?_, fun x hx => ?_⟩, fun x hx => ?_⟩
  · unfold fitR
    by_cases h4 : 2 < v
    · have : v = 3 := by omega
      subst this; rfl
    · rw [if_neg (by simp [h4])] at h1
      rw [h1]; simp
  · obtain ⟨_, _, _, h5, h6⟩ := h2 x hx
    unfold fitJ
    simp only [Bool.and_eq_true, Bool.or_eq_true, decide_eq_true_eq]
    refine ⟨?_, ?_⟩
    · by_cases h4 : 2 < v
      · exact .inl h4
      · rw [if_neg (by simp [h4])] at h6
        rw [h6]; exact .inr (by rw [ByteArray.toList_eq]; rfl)
    · by_cases h4 : 1 < v
      · exact .inl h4
      · rw [if_neg (by simp [h4])] at h5
        rw [h5]; exact .inr rfl
  · obtain ⟨_, _, h5⟩ := h3 x hx
    unfold fitN
    simp only [Bool.or_eq_true, decide_eq_true_eq]
    by_cases h4 : 1 < v
    · exact .inl h4
    · rw [if_neg (by simp [h4])] at h5
      rw [h5]; exact .inr (by rw [ByteArray.toList_eq]; rfl)
/-- Decode: the state, or the error. -/
inductive DecS where
  | ok (s : St)
  | bad (e : Nat)
def decS (v : Int) (l : List UInt8) : DecS :=
  match pState v l with
  | .bad e => .bad e
  | .ok s rest => if rest ≠ [] then .bad 4 else if checkE s ≠ 0 then .bad (checkE s) else .ok s
theorem decS_enc (v : Int) (s : St) (h : okSt v s) (hc : checkE s = 0) : decS v (encS v s) = .ok s := by
  have := (pState_PP v).fwd s [] h
  rw [List.append_nil] at this
  unfold decS
  rw [this]
  show (if _ then _ else _) = _
  rw [if_neg (by simp), if_neg (by rw [hc]; simp)]
theorem decS_more (v : Int) (s : St) (more : List UInt8) (h : okSt v s) (hm : more ≠ []) : decS v (encS v s ++ more) = .bad 4 := by
  unfold decS
  rw [(pState_PP v).fwd s more h]
  show (if _ then _ else _) = _
  rw [if_pos hm]
theorem decS_cut (v : Int) (s : St) (k : Nat) (h : okSt v s) (hk : k < (encS v s).length) : decS v ((encS v s).take k) = .bad 3 := by
  unfold decS
  rw [(pState_PP v).cut s k h hk]
theorem decS_inv (v : Int) (l : List UInt8) (s : St) (h : decS v l = .ok s) : okSt v s ∧ checkE s = 0 ∧ l = encS v s := by
  unfold decS at h
  cases h1 : pState v l with
  | bad e => rw [h1] at h; cases h
  | ok t rest =>
    rw [h1] at h
    obtain ⟨g1, g2⟩ := (pState_PP v).bwd _ _ _ h1
    change (if _ then _ else if _ then _ else _) = _ at h
    by_cases h2 : rest = []
    · rw [if_neg (by simp [h2])] at h
      by_cases h3 : checkE t = 0
      · rw [if_neg (by simp [h3])] at h
        injection h with h
        subst h
        exact ⟨g1, h3, by rw [g2, h2, List.append_nil]⟩
      · rw [if_pos h3] at h; cases h
    · rw [if_pos h2] at h; cases h
theorem encS_inj (v : Int) (a b : St) (ha : okSt v a) (hb : okSt v b) (h : encS v a = encS v b) : a = b := by
  have h1 := (pState_PP v).fwd a [] ha
  have h2 := (pState_PP v).fwd b [] hb
  rw [h, h2] at h1
  injection h1 with h1
  exact h1.symm
end Go.Proofs.YtdicoepjkngikaaGreatDoor
