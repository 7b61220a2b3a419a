/-
  Plain laws of the varint.
-/
import Derived.Test.YtnmokjgnbcfabaaPrimP
set_option linter.unusedVariables false
namespace Go.Proofs.Ytnmokjgnbcfabaa

theorem pow7 (i : Nat) : 2 ^ (7 * (i + 1)) = 128 * 2 ^ (7 * i) := by rw [Nat.mul_add, Nat.pow_add]; omega
theorem split7 (m p : Nat) : m % 128 * p + m / 128 * (128 * p) = m * p := by
  have h : (128 * (m / 128) + m % 128) * p = m * p := by rw [Nat.div_add_mod]
  rw [Nat.add_mul] at h
  have : m / 128 * (128 * p) = 128 * (m / 128) * p := by rw [← Nat.mul_assoc, Nat.mul_comm (m / 128) 128]
  omega
theorem small_of_mul (i m : Nat) (h9 : 9 ≤ i) (h : m * 2 ^ (7 * i) < 18446744073709551616) : m ≤ 1 := by
  have hp : 2 ^ 63 ≤ 2 ^ (7 * i) := Nat.pow_le_pow_right (by omega) (by omega)
  rcases Nat.lt_or_ge m 2 with h2 | h2
  · omega
  · have := Nat.mul_le_mul h2 hp
    omega

theorem rdN_put : ∀ (f i acc m : Nat) (more : List UInt8), i + f = 10 → acc + m * 2 ^ (7 * i) < 18446744073709551616 → (0 < i → m ≠ 0) →
    rdN f i acc (putN m ++ more) = (acc + m * 2 ^ (7 * i), i + (putN m).length, 0)
  | 0, i, acc, m, more, hf, hlt, hm => by
    exfalso
    have h1 : m ≠ 0 := hm (by omega)
    have hp : 2 ^ 70 ≤ 2 ^ (7 * i) := Nat.pow_le_pow_right (by omega) (by omega)
    have := Nat.mul_le_mul (Nat.pos_of_ne_zero h1) hp
    omega
  | f + 1, i, acc, m, more, hf, hlt, hm => by
    by_cases h : m < 128
    · rw [putN_lt m h]
      simp only [List.cons_append, List.nil_append, rdN, List.length_cons, List.length_nil]
      have hc : (UInt8.ofNat m).toNat = m := by simp only [UInt8.toNat_ofNat']; omega
      rw [hc, if_neg, if_pos h, Nat.mod_eq_of_lt h]
      rintro (⟨h9, h1⟩ | ⟨h0, h1⟩)
      · have := small_of_mul i m (by omega) (by omega); omega
      · exact hm h0 h1
    · rw [putN_ge m h]
      simp only [List.cons_append, rdN, List.length_cons]
      have hi : i < 9 := by
        rcases Nat.lt_or_ge i 9 with h1 | h1
        · exact h1
        · have := small_of_mul i m h1 (by omega); omega
      rw [hiB_toNat, if_neg (by omega), if_neg (by omega)]
      have e1 : (m % 128 + 128) % 128 = m % 128 := by omega
      rw [e1]
      have hs := split7 m (2 ^ (7 * i))
      rw [rdN_put f (i + 1) _ (m / 128) more (by omega) (by rw [pow7]; omega) (fun _ => by omega), pow7]
      have : acc + m % 128 * 2 ^ (7 * i) + m / 128 * (128 * 2 ^ (7 * i)) = acc + m * 2 ^ (7 * i) := by omega
      rw [this]
      simp only [Prod.mk.injEq, true_and, and_true]; omega

theorem rd_put (n : Nat) (more : List UInt8) (h : n < 18446744073709551616) : rd (putN n ++ more) = (n, (putN n).length, 0) := by
  have := rdN_put 10 0 0 n more rfl (by simpa using h) (by omega)
  simpa [rd] using this

theorem rdN_err : ∀ (f i acc : Nat) (l : List UInt8), (rdN f i acc l).2.2 ≠ 0 → (rdN f i acc l) = (0, 0, 3) ∨ rdN f i acc l = (0, 0, 4)
  | 0, i, acc, l, h => .inr rfl
  | f + 1, i, acc, [], h => .inl rfl
  | f + 1, i, acc, c :: r, h => by
    simp only [rdN] at h ⊢
    split
    · exact .inr rfl
    · rename_i h1
      rw [if_neg h1] at h
      split
      · rename_i h2; rw [if_pos h2] at h; exact absurd rfl h
      · rename_i h2; rw [if_neg h2] at h; exact rdN_err _ _ _ _ h
theorem rd_err (l : List UInt8) (h : (rd l).2.2 ≠ 0) : rd l = (0, 0, 3) ∨ rd l = (0, 0, 4) := rdN_err _ _ _ _ h

theorem rdN_ok : ∀ (f i acc : Nat) (l : List UInt8), i + f = 10 → acc < 2 ^ (7 * i) → (rdN f i acc l).2.2 = 0 →
    ∃ m j : Nat, rdN f i acc l = (acc + m * 2 ^ (7 * i), i + j, 0) ∧ putN m = l.take j ∧ 1 ≤ j ∧ j ≤ f ∧ j ≤ l.length ∧ (0 < i → m ≠ 0) ∧ acc + m * 2 ^ (7 * i) < 18446744073709551616 ∧
      ∀ a, a < j → rdN f i acc (l.take a) = (0, 0, 3)
  | 0, i, acc, l, hf, ha, h => by simp [rdN] at h
  | f + 1, i, acc, [], hf, ha, h => by simp [rdN] at h
  | f + 1, i, acc, c :: r, hf, ha, h => by
    have hc := c.toNat_lt
    by_cases hbad : (i = 9 ∧ 1 < c.toNat) ∨ (0 < i ∧ c.toNat = 0)
    · simp [rdN, hbad] at h
    · by_cases h128 : c.toNat < 128
      · refine ⟨c.toNat, 1, ?_, ?_, by omega, by omega, by simp, by omega, ?_, ?_⟩
        · simp only [rdN]; rw [if_neg hbad, if_pos h128, Nat.mod_eq_of_lt h128]
        · rw [putN_lt _ h128]; simp
        · have hi : i ≤ 9 := by omega
          have hp : 2 ^ (7 * i) ≤ 2 ^ 63 := Nat.pow_le_pow_right (by omega) (by omega)
          by_cases h9 : i = 9
          · subst h9
            have h1 : c.toNat ≤ 1 := by omega
            have := Nat.mul_le_mul_right (2 ^ (7 * 9)) h1
            omega
          · have hp : 2 ^ (7 * i) ≤ 2 ^ 56 := Nat.pow_le_pow_right (by omega) (by omega)
            have := Nat.mul_le_mul (show c.toNat ≤ 127 by omega) hp
            omega
        · intro a h1
          obtain rfl : a = 0 := by omega
          rfl
      · have e0 : rdN (f + 1) i acc (c :: r) = rdN f (i + 1) (acc + c.toNat % 128 * 2 ^ (7 * i)) r := by
          simp only [rdN]; rw [if_neg hbad, if_neg h128]
        rw [e0] at h
        obtain ⟨m, j, h1, h2, h3, h4, h5, h6, h7, h8⟩ := rdN_ok f (i + 1) _ r (by omega) (rd_step_lt acc c.toNat i ha) h
        have hm : m ≠ 0 := h6 (by omega)
        have hs := split7 (c.toNat % 128 + 128 * m) (2 ^ (7 * i))
        have e2 : (c.toNat % 128 + 128 * m) % 128 = c.toNat % 128 := by omega
        have e3 : (c.toNat % 128 + 128 * m) / 128 = m := by omega
        rw [e2, e3] at hs
        have e4 : acc + c.toNat % 128 * 2 ^ (7 * i) + m * 2 ^ (7 * (i + 1)) = acc + (c.toNat % 128 + 128 * m) * 2 ^ (7 * i) := by rw [pow7]; omega
        refine ⟨c.toNat % 128 + 128 * m, j + 1, ?_, ?_, by omega, by omega, by simpa using h5, by omega, by omega, ?_⟩
        · rw [e0, h1, e4]; simp only [Prod.mk.injEq, true_and, and_true]; omega
        · rw [putN_ge _ (by omega), e3, h2, List.take_succ_cons]
          congr 1
          apply UInt8.toNat_inj.1
          rw [hiB_toNat]; omega
        · intro a h1
          cases a with
          | zero => rfl
          | succ a =>
            rw [List.take_succ_cons]
            simp only [rdN]; rw [if_neg hbad, if_neg h128]
            exact h8 a (by omega)

theorem rd_ok (l : List UInt8) (h : (rd l).2.2 = 0) : ∃ n k : Nat, rd l = (n, k, 0) ∧ putN n = l.take k ∧ 1 ≤ k ∧ k ≤ 10 ∧ k ≤ l.length ∧ n < 18446744073709551616 ∧ ∀ a, a < k → rd (l.take a) = (0, 0, 3) := by
  obtain ⟨m, j, h1, h2, h3, h4, h5, _, h7, h8⟩ := rdN_ok 10 0 0 l rfl (by simp) h
  exact ⟨m, j, by simpa [rd] using h1, h2, h3, h4, h5, by simpa using h7, h8⟩

theorem putN_inj {a b : Nat} (h : putN a = putN b) : a = b := by
  induction a using Nat.strongRecOn generalizing b with
  | _ a ih =>
    by_cases ha : a < 128 <;> by_cases hb : b < 128
    · rw [putN_lt a ha, putN_lt b hb] at h
      have := congrArg UInt8.toNat (List.cons.inj h).1
      simp only [UInt8.toNat_ofNat'] at this; omega
    · rw [putN_lt a ha, putN_ge b hb] at h
      have := congrArg UInt8.toNat (List.cons.inj h).1
      rw [hiB_toNat] at this; simp only [UInt8.toNat_ofNat'] at this; omega
    · rw [putN_ge a ha, putN_lt b hb] at h
      have := congrArg UInt8.toNat (List.cons.inj h).1
      rw [hiB_toNat] at this; simp only [UInt8.toNat_ofNat'] at this; omega
    · rw [putN_ge a ha, putN_ge b hb] at h
      have h1 := congrArg UInt8.toNat (List.cons.inj h).1
      rw [hiB_toNat, hiB_toNat] at h1
      have h2 := ih (a / 128) (by omega) (List.cons.inj h).2
      omega
theorem putN_mono (a : Nat) : ∀ b, a ≤ b → (putN a).length ≤ (putN b).length := by
  induction a using Nat.strongRecOn with
  | _ a ih =>
    intro b hab
    by_cases ha : a < 128
    · rw [putN_lt a ha]; exact putN_pos b
    · rw [putN_ge a ha, putN_ge b (by omega)]
      have := ih (a / 128) (by omega) (b / 128) (by omega)
      simp only [List.length_cons]; omega
end Go.Proofs.Ytnmokjgnbcfabaa
