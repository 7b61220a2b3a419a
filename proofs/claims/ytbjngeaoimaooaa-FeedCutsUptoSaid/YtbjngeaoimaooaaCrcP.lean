/-
  Plain mathematics of the checksum: a register of 32 bits as a natural number.
-/
import Derived.WalkKit
set_option linter.unusedVariables false
set_option linter.unusedSimpArgs false
namespace Go.Proofs.Ytbjngeaoimaooaa

/-- One bit of the register. -/
def st1 (x : Nat) : Nat := (x / 2) ^^^ (x % 2 * 3988292384)
/-- So many bits. -/
def stk : Nat → Nat → Nat
  | 0, x => x
  | k + 1, x => stk k (st1 x)
def st8 (x : Nat) : Nat := stk 8 x
/-- A byte comes. -/
def upd (x : Nat) (c : UInt8) : Nat := st8 (x ^^^ c.toNat)
def reg (x : Nat) (l : List UInt8) : Nat := l.foldl upd x
def crc (l : List UInt8) : Nat := 4294967295 - reg 4294967295 l

theorem st1_lt (x : Nat) (h : x < 4294967296) : st1 x < 4294967296 := by
  unfold st1
  refine Nat.xor_lt_two_pow (n := 32) (by omega) ?_
  rcases Nat.mod_two_eq_zero_or_one x with h | h <;> rw [h] <;> decide
theorem stk_lt (k x : Nat) (h : x < 4294967296) : stk k x < 4294967296 := by
  induction k generalizing x with
  | zero => exact h
  | succ k ih => exact ih _ (st1_lt x h)
theorem st8_lt (x : Nat) (h : x < 4294967296) : st8 x < 4294967296 := stk_lt 8 x h
theorem stk_succ (k x : Nat) : stk (k + 1) x = st1 (stk k x) := by
  induction k generalizing x with
  | zero => rfl
  | succ k ih => rw [stk, ih]; rfl
theorem xor_lt32 {a b : Nat} (ha : a < 4294967296) (hb : b < 4294967296) : a ^^^ b < 4294967296 := Nat.xor_lt_two_pow (n := 32) ha hb
theorem byte_lt32 (c : UInt8) : c.toNat < 4294967296 := by have := c.toNat_lt; omega
theorem upd_lt (x : Nat) (c : UInt8) (h : x < 4294967296) : upd x c < 4294967296 := st8_lt _ (xor_lt32 h (byte_lt32 c))
theorem reg_lt (l : List UInt8) : ∀ x, x < 4294967296 → reg x l < 4294967296 := by
  induction l with
  | nil => exact fun x h => h
  | cons c r ih => exact fun x h => ih _ (upd_lt x c h)
theorem reg_append (x : Nat) (l r : List UInt8) : reg x (l ++ r) = reg (reg x l) r := by simp [reg, List.foldl_append]
theorem reg_cons (x : Nat) (c : UInt8) (r : List UInt8) : reg x (c :: r) = reg (upd x c) r := rfl
theorem crc_lt (l : List UInt8) : crc l < 4294967296 := by unfold crc; omega

theorem half_xor (a b : Nat) : (a ^^^ b) / 2 = a / 2 ^^^ b / 2 := by
  have := Nat.shiftRight_xor_distrib (a := a) (b := b) (i := 1)
  simpa [Nat.shiftRight_eq_div_pow] using this
theorem xor_mod2 (a b : Nat) : (a ^^^ b) % 2 = (a + b) % 2 := by
  have h := Nat.xor_mod_two_eq_one (a := a) (b := b)
  rcases Nat.mod_two_eq_zero_or_one (a ^^^ b) with h0 | h0 <;> rw [h0] at h ⊢ <;> simp at h <;> omega
theorem xor_zero {a b : Nat} (h : a ^^^ b = 0) : a = b := by
  have := congrArg (· ^^^ b) h
  simpa [Nat.xor_assoc] using this
theorem st1_xor (a b : Nat) : st1 (a ^^^ b) = st1 a ^^^ st1 b := by
  unfold st1
  rw [half_xor, xor_mod2]
  have key : (a + b) % 2 * 3988292384 = a % 2 * 3988292384 ^^^ b % 2 * 3988292384 := by
    rcases Nat.mod_two_eq_zero_or_one a with h1 | h1 <;> rcases Nat.mod_two_eq_zero_or_one b with h2 | h2 <;> rw [Nat.add_mod, h1, h2] <;> decide
  rw [key]
  ac_rfl
theorem stk_xor (k a b : Nat) : stk k (a ^^^ b) = stk k a ^^^ stk k b := by
  induction k generalizing a b with
  | zero => rfl
  | succ k ih => rw [stk, st1_xor, ih]; rfl
theorem st8_xor (a b : Nat) : st8 (a ^^^ b) = st8 a ^^^ st8 b := stk_xor 8 a b
theorem st1_double (q : Nat) : st1 (2 * q) = q := by
  unfold st1
  have h1 : 2 * q / 2 = q := by omega
  have h2 : 2 * q % 2 = 0 := by omega
  rw [h1, h2]; simp
theorem stk_pow (k q : Nat) : stk k (2 ^ k * q) = q := by
  induction k with
  | zero => simp [stk]
  | succ k ih =>
    have e : 2 ^ (k + 1) * q = 2 * (2 ^ k * q) := by rw [Nat.pow_succ, ← Nat.mul_assoc, Nat.mul_comm (2 ^ k) 2]
    rw [stk, e, st1_double, ih]
theorem split8 (x : Nat) : x = 2 ^ 8 * (x / 256) ^^^ x % 256 := by
  have := Nat.two_pow_add_eq_or_of_lt (i := 8) (show x % 256 < 2 ^ 8 by omega) (x / 256)
  have h2 : 2 ^ 8 * (x / 256) ^^^ x % 256 = 2 ^ 8 * (x / 256) ||| x % 256 := by
    apply Nat.eq_of_testBit_eq
    intro i
    rw [Nat.testBit_xor, Nat.testBit_or]
    by_cases h : i < 8
    · have : (2 ^ 8 * (x / 256)).testBit i = false := by rw [Nat.testBit_two_pow_mul]; simp; omega
      rw [this]; simp
    · have : (x % 256).testBit i = false := Nat.testBit_lt_two_pow (Nat.lt_of_lt_of_le (show x % 256 < 2 ^ 8 by omega) (Nat.pow_le_pow_right (by omega) (by omega)))
      rw [this]; simp
  rw [h2, ← this]; omega
/-- A byte comes, by the table. -/
theorem upd_table (x : Nat) (c : UInt8) : x / 256 ^^^ st8 (x % 256 ^^^ c.toNat) = upd x c := by
  have h : x ^^^ c.toNat = 2 ^ 8 * (x / 256) ^^^ (x % 256 ^^^ c.toNat) := by
    rw [← Nat.xor_assoc, ← split8]
  unfold upd
  rw [h, st8_xor (2 ^ 8 * (x / 256))]
  have : st8 (2 ^ 8 * (x / 256)) = x / 256 := stk_pow 8 _
  rw [this]

theorem st1_inj {a b : Nat} (ha : a < 4294967296) (hb : b < 4294967296) (h : st1 a = st1 b) : a = b := by
  have h0 : st1 (a ^^^ b) = 0 := by rw [st1_xor, h, Nat.xor_self]
  have hd := xor_lt32 ha hb
  have hz : a ^^^ b = 0 := by
    generalize a ^^^ b = d at *
    unfold st1 at h0
    have h1 := xor_zero h0
    rcases Nat.mod_two_eq_zero_or_one d with h2 | h2
    · rw [h2] at h1; omega
    · rw [h2] at h1; omega
  exact xor_zero hz
theorem stk_inj (k : Nat) {a b : Nat} (ha : a < 4294967296) (hb : b < 4294967296) (h : stk k a = stk k b) : a = b := by
  induction k generalizing a b with
  | zero => exact h
  | succ k ih => exact st1_inj ha hb (ih (st1_lt a ha) (st1_lt b hb) h)
theorem st8_inj {a b : Nat} (ha : a < 4294967296) (hb : b < 4294967296) (h : st8 a = st8 b) : a = b := stk_inj 8 ha hb h
theorem xor_right_inj {a b c : Nat} (h : a ^^^ c = b ^^^ c) : a = b := by
  have := congrArg (· ^^^ c) h
  simpa [Nat.xor_assoc] using this
theorem upd_inj {a b : Nat} {c : UInt8} (ha : a < 4294967296) (hb : b < 4294967296) (h : upd a c = upd b c) : a = b :=
  xor_right_inj (st8_inj (xor_lt32 ha (byte_lt32 c)) (xor_lt32 hb (byte_lt32 c)) h)
theorem reg_inj (l : List UInt8) : ∀ {a b : Nat}, a < 4294967296 → b < 4294967296 → reg a l = reg b l → a = b := by
  induction l with
  | nil => exact fun _ _ h => h
  | cons c r ih => exact fun ha hb h => upd_inj ha hb (ih (upd_lt _ c ha) (upd_lt _ c hb) h)
theorem upd_byte {x : Nat} {c d : UInt8} (hx : x < 4294967296) (h : upd x c = upd x d) : c = d := by
  have h1 := st8_inj (xor_lt32 hx (byte_lt32 c)) (xor_lt32 hx (byte_lt32 d)) h
  rw [Nat.xor_comm x, Nat.xor_comm x] at h1
  exact UInt8.toNat_inj.1 (xor_right_inj h1)
theorem crc_eq_iff (a b : List UInt8) : crc a = crc b ↔ reg 4294967295 a = reg 4294967295 b := by
  have h1 := reg_lt a 4294967295 (by omega)
  have h2 := reg_lt b 4294967295 (by omega)
  unfold crc; omega
theorem st8_fix : ∀ d, d < 256 → st8 d = d → d = 0 := by decide +kernel
theorem upd_swap {x : Nat} {c d : UInt8} (hx : x < 4294967296) (h : upd (upd x c) d = upd (upd x d) c) : c = d := by
  have h1 := st8_inj (xor_lt32 (upd_lt x c hx) (byte_lt32 d)) (xor_lt32 (upd_lt x d hx) (byte_lt32 c)) h
  unfold upd at h1
  rw [st8_xor, st8_xor] at h1
  have h2 : st8 c.toNat ^^^ d.toNat = st8 d.toNat ^^^ c.toNat := by
    have := congrArg (st8 x ^^^ ·) h1
    simpa [← Nat.xor_assoc] using this
  have h3 : st8 (c.toNat ^^^ d.toNat) = c.toNat ^^^ d.toNat := by
    rw [st8_xor]
    have := congrArg (· ^^^ (d.toNat ^^^ st8 d.toNat)) h2
    have e1 : st8 c.toNat ^^^ d.toNat ^^^ (d.toNat ^^^ st8 d.toNat) = st8 c.toNat ^^^ st8 d.toNat := by
      rw [Nat.xor_assoc, ← Nat.xor_assoc d.toNat, Nat.xor_self, Nat.zero_xor]
    have e2 : st8 d.toNat ^^^ c.toNat ^^^ (d.toNat ^^^ st8 d.toNat) = c.toNat ^^^ d.toNat := by
      rw [Nat.xor_comm (st8 d.toNat), Nat.xor_assoc, Nat.xor_comm d.toNat, ← Nat.xor_assoc (st8 d.toNat), Nat.xor_self, Nat.zero_xor]
    exact e1.symm.trans (this.trans e2)
  have hc := c.toNat_lt
  have hd := d.toNat_lt
  have h4 := st8_fix _ (Nat.xor_lt_two_pow (n := 8) hc hd) h3
  exact UInt8.toNat_inj.1 (xor_zero h4)
def mix : List UInt8 → List UInt8 → List UInt8 → List UInt8
  | x :: a, y :: b, z :: c => (x ^^^ y ^^^ z) :: mix a b c
  | _, _, _ => []
theorem reg_mix : ∀ (a b c : List UInt8) (x y z : Nat), a.length = b.length → b.length = c.length → reg (x ^^^ y ^^^ z) (mix a b c) = reg x a ^^^ reg y b ^^^ reg z c
  | [], [], [], x, y, z, _, _ => rfl
  | p :: a, q :: b, r :: c, x, y, z, h1, h2 => by
    simp only [mix, reg_cons]
    rw [← reg_mix a b c (upd x p) (upd y q) (upd z r) (by simpa using h1) (by simpa using h2)]
    congr 1
    unfold upd
    rw [UInt8.toNat_xor, UInt8.toNat_xor, ← st8_xor, ← st8_xor]
    congr 1
    ac_rfl
theorem crc_xor (x : Nat) (h : x < 4294967296) : 4294967295 - x = 4294967295 ^^^ x := by
  have h := congrArg BitVec.toNat (BitVec.xor_allOnes (x := BitVec.ofNat 32 x))
  rw [BitVec.toNat_xor, BitVec.toNat_not, BitVec.toNat_ofNat, BitVec.toNat_allOnes, Nat.mod_eq_of_lt (by omega)] at h
  rw [Nat.xor_comm]; simp at h; omega
theorem crc_mix (a b c : List UInt8) (h1 : a.length = b.length) (h2 : b.length = c.length) : crc (mix a b c) = crc a ^^^ crc b ^^^ crc c := by
  have hm := reg_mix a b c 4294967295 4294967295 4294967295 h1 h2
  rw [Nat.xor_self, Nat.zero_xor] at hm
  unfold crc
  rw [crc_xor _ (reg_lt _ _ (by omega)), crc_xor _ (reg_lt _ _ (by omega)), crc_xor _ (reg_lt _ _ (by omega)), crc_xor _ (reg_lt _ _ (by omega)), hm]
  generalize reg 4294967295 a = A
  generalize reg 4294967295 b = B
  generalize reg 4294967295 c = C
  have : 4294967295 ^^^ A ^^^ (4294967295 ^^^ B) ^^^ (4294967295 ^^^ C) = (4294967295 ^^^ 4294967295) ^^^ (4294967295 ^^^ (A ^^^ B ^^^ C)) := by ac_rfl
  rw [this, Nat.xor_self, Nat.zero_xor]
theorem crc_check : crc [49, 50, 51, 52, 53, 54, 55, 56, 57] = 3421780262 := by decide +kernel
end Go.Proofs.Ytbjngeaoimaooaa
