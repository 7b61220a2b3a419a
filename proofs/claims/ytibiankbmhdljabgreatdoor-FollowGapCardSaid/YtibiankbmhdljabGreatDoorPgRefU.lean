/-
  Several texts in one: UtfR.
-/
import Derived.Test.YtibiankbmhdljabGreatDoorPgBase
import Derived.Lib.ValidLaws
import Derived.Lib.TrimUEq
set_option linter.all false
set_option maxHeartbeats 16000000
set_option maxRecDepth 100000
namespace Go.Proofs.YtibiankbmhdljabGreatDoor
open Go.Proofs.Tryz
open Go.Lib
def uMany (c : Nat) : Nat := if c < 128 then 0 else if 194 <= c ∧ c <= 223 then 1 else if 224 <= c ∧ c <= 239 then 2 else if 240 <= c ∧ c <= 244 then 3 else 9
def uLo (c : Nat) : Nat := if c = 224 then 160 else if c = 240 then 144 else 128
def uHi (c : Nat) : Nat := if c = 237 then 159 else if c = 244 then 143 else 191
def uL (c j : Nat) : Nat := if j = 1 then uLo c else 128
def uH (c j : Nat) : Nat := if j = 1 then uHi c else 191
def uFit (c j b : Nat) : Prop := uL c j <= b ∧ b <= uH c j
theorem decN (n b0 b1 b2 b3 : Nat) (h0 : b0 < 256) (h1 : b1 < 256) (h2 : b2 < 256) (h3 : b3 < 256) (hn : 0 < n) :
  ((uMany b0 <= 3 ∧ uMany b0 < n ∧ (1 <= uMany b0 -> uFit b0 1 b1) ∧ (2 <= uMany b0 -> uFit b0 2 b2) ∧ (3 <= uMany b0 -> uFit b0 3 b3)) -> ¬ ((decodeN n b0 b1 b2 b3).1 = 65533 ∧ (decodeN n b0 b1 b2 b3).2 = 1) ∧ (decodeN n b0 b1 b2 b3).2 = uMany b0 + 1)
  ∧ (¬ (uMany b0 <= 3 ∧ uMany b0 < n ∧ (1 <= uMany b0 -> uFit b0 1 b1) ∧ (2 <= uMany b0 -> uFit b0 2 b2) ∧ (3 <= uMany b0 -> uFit b0 3 b3)) -> (decodeN n b0 b1 b2 b3).1 = 65533 ∧ (decodeN n b0 b1 b2 b3).2 = 1) := by
 have e1 : (b1 / 64 = 2) = (128 <= b1 ∧ b1 <= 191) := propext (by omega)
 have e2 : (b2 / 64 = 2) = (128 <= b2 ∧ b2 <= 191) := propext (by omega)
 have e3 : (b3 / 64 = 2) = (128 <= b3 ∧ b3 <= 191) := propext (by omega)
 have d6 : (b0 / 32 = 6) = (192 <= b0 ∧ b0 <= 223) := propext (by omega)
 have d14 : (b0 / 16 = 14) = (224 <= b0 ∧ b0 <= 239) := propext (by omega)
 have d30 : (b0 / 8 = 30) = (240 <= b0 ∧ b0 <= 247) := propext (by omega)
 unfold uFit uL uH
 simp only [if_true, show ((2 : Nat) = 1) = False from by simp, show ((3 : Nat) = 1) = False from by simp, if_false]
 unfold uMany uLo uHi decodeN
 simp only [e1, e2, e3, d6, d14, d30]
 by_cases c1 : b0 < 128
 ·simp only [c1, if_true]
  exact ⟨fun _ => ⟨by omega, trivial⟩, fun h => absurd ⟨by omega, by omega, fun h => by omega, fun h => by omega, fun h => by omega⟩ h⟩
 simp only [c1, if_false]
 by_cases c2 : b0 <= 223
 ·have n14 : ¬ (224 <= b0 ∧ b0 <= 239) := by omega
  have n30 : ¬ (240 <= b0 ∧ b0 <= 247) := by omega
  have n31 : ¬ (240 <= b0 ∧ b0 <= 244) := by omega
  have q1 : b0 ≠ 224 ∧ b0 ≠ 240 ∧ b0 ≠ 237 ∧ b0 ≠ 244 := by omega
  simp only [n14, n30, n31, if_false, false_and, q1.1, q1.2.1, q1.2.2.1, q1.2.2.2]
  by_cases c3 : 194 <= b0
  ·simp only [show (194 <= b0 ∧ b0 <= 223) = True from eq_true ⟨c3, c2⟩, if_true, show (192 <= b0 ∧ b0 <= 223) = True from eq_true (by omega), true_and]
   by_cases hc : 1 < n ∧ 128 <= b1 ∧ b1 <= 191
   ·have m1 : b0 % 32 * 64 + b1 % 64 ≥ 128 := by omega
    have m2 : b0 % 32 * 64 + b1 % 64 ≠ 65533 := by omega
    rw [if_pos hc, if_pos m1]
    omega
   ·rw [if_neg hc]; omega
  ·simp only [show (194 <= b0 ∧ b0 <= 223) = False from eq_false (by omega), if_false]
   have m1 : ¬ (b0 % 32 * 64 + b1 % 64 ≥ 128) ∨ b0 < 192 := by omega
   by_cases hc : (192 <= b0 ∧ b0 <= 223) ∧ 1 < n ∧ 128 <= b1 ∧ b1 <= 191
   ·rw [if_pos hc, if_neg (by omega)]; omega
   ·rw [if_neg hc]; omega
 by_cases c3 : b0 <= 239
 ·have n6 : ¬ (192 <= b0 ∧ b0 <= 223) := by omega
  have n7 : ¬ (194 <= b0 ∧ b0 <= 223) := by omega
  have n30 : ¬ (240 <= b0 ∧ b0 <= 247) := by omega
  have n31 : ¬ (240 <= b0 ∧ b0 <= 244) := by omega
  have y14 : (224 <= b0 ∧ b0 <= 239) = True := eq_true (by omega)
  have q1 : b0 ≠ 240 ∧ b0 ≠ 244 := by omega
  simp only [n6, n7, n30, n31, y14, if_false, if_true, false_and, true_and, q1.1, q1.2]
  have m0 : b0 % 16 = b0 - 224 := by omega
  rw [m0]
  by_cases hc : (1 < n ∧ 128 <= b1 ∧ b1 <= 191) ∧ 2 < n ∧ 128 <= b2 ∧ b2 <= 191
  ·have m1 : b1 % 64 = b1 - 128 := by omega
   have m2 : b2 % 64 = b2 - 128 := by omega
   rw [m1, m2, if_pos hc]
   repeat' split
   all_goals (try dsimp only)
   all_goals omega
  ·rw [if_neg hc]
   repeat' split
   all_goals omega
 have n6 : ¬ (192 <= b0 ∧ b0 <= 223) := by omega
 have n7 : ¬ (194 <= b0 ∧ b0 <= 223) := by omega
 have n14 : ¬ (224 <= b0 ∧ b0 <= 239) := by omega
 simp only [n6, n7, n14, if_false, false_and]
 by_cases hc : (240 <= b0 ∧ b0 <= 247) ∧ (1 < n ∧ 128 <= b1 ∧ b1 <= 191) ∧ (2 < n ∧ 128 <= b2 ∧ b2 <= 191) ∧ 3 < n ∧ 128 <= b3 ∧ b3 <= 191
 ·have m0 : b0 % 8 = b0 - 240 := by omega
  have m1 : b1 % 64 = b1 - 128 := by omega
  have m2 : b2 % 64 = b2 - 128 := by omega
  have m3 : b3 % 64 = b3 - 128 := by omega
  rw [m0, m1, m2, m3, if_pos hc]
  repeat' split
  all_goals (try dsimp only)
  all_goals omega
 ·rw [if_neg hc]
  repeat' split
  all_goals omega
theorem wkf (l : List UInt8) (h : l ≠ []) : validD l = if (decodeL l).1 = 65533 ∧ (decodeL l).2 = 1 then false else validD (l.drop (decodeL l).2) := by
 unfold validD
 obtain ⟨n, hn⟩ : ∃ n, l.length = n + 1 := by cases l; exact absurd rfl h; exact ⟨_, rfl⟩
 rw [hn]
 show (if l = [] then true else _) = _
 rw [if_neg h]
 split
 ·rfl
 ·have := decodeL_width l
  exact validGoD_fuel _ _ _ (by rw [List.length_drop]; omega) (zra _)
def uB (l : List UInt8) (k : Nat) : Nat := (l.getD k 0).toNat
def uOk (l : List UInt8) (i : Nat) : Prop := uMany (uB l i) <= 3 ∧ i + uMany (uB l i) < l.length ∧ ∀ j, 1 <= j -> j <= uMany (uB l i) -> uFit (uB l i) j (uB l (i + j))
theorem uB_get (s : ByteArray) (k : Nat) (h : k < s.size) : (s[k]'h).toNat = uB s.data.toList k := by
 unfold uB
 rw [getD_get!']
 congr 1
 cases s with
 | mk d => show d[k] = d[k]!; exact (getElem!_pos d k h).symm
theorem uB_lt (l : List UInt8) (k : Nat) : uB l k < 256 := UInt8.toNat_lt _
theorem uStep (l : List UInt8) (i : Nat) (h : i < l.length) : (uOk l i -> validD (l.drop i) = validD (l.drop (i + (uMany (uB l i) + 1)))) ∧ (¬ uOk l i -> validD (l.drop i) = false) := by
 have hne : l.drop i ≠ [] := fun e => by have := congrArg List.length e; rw [List.length_drop] at this; simp at this; omega
 have hD := decN (l.length - i) (uB l i) (uB l (i + 1)) (uB l (i + 2)) (uB l (i + 3)) (uB_lt _ _) (uB_lt _ _) (uB_lt _ _) (uB_lt _ _) (by omega)
 have hq : decodeL (l.drop i) = decodeN (l.length - i) (uB l i) (uB l (i + 1)) (uB l (i + 2)) (uB l (i + 3)) := by
  rw [decodeL_N, List.length_drop, getD_dropU, getD_dropU, getD_dropU, getD_dropU, Nat.add_zero]; rfl
 rw [<- hq] at hD
 have hv := wkf (l.drop i) hne
 have hiff : uOk l i ↔ (uMany (uB l i) <= 3 ∧ uMany (uB l i) < l.length - i ∧ (1 <= uMany (uB l i) -> uFit (uB l i) 1 (uB l (i + 1))) ∧ (2 <= uMany (uB l i) -> uFit (uB l i) 2 (uB l (i + 2))) ∧ (3 <= uMany (uB l i) -> uFit (uB l i) 3 (uB l (i + 3)))) := by
  constructor
  ·rintro ⟨a, b, c⟩
   exact ⟨a, by omega, fun h => c 1 (by omega) h, fun h => c 2 (by omega) h, fun h => c 3 (by omega) h⟩
  ·rintro ⟨a, b, c1, c2, c3⟩
   refine ⟨a, by omega, fun j h1 h2 => ?_⟩
   have : j = 1 ∨ j = 2 ∨ j = 3 := by omega
   rcases this with rfl | rfl | rfl
   ·exact c1 h2
   ·exact c2 h2
   ·exact c3 h2
 rw [<- hiff] at hD
 constructor
 ·intro hk
  obtain ⟨ha, hb⟩ := hD.1 hk
  rw [hv, if_neg ha, List.drop_drop, hb]
 ·intro hk
  rw [hv, if_pos (hD.2 hk)]
theorem wy1 (l : List UInt8) (i : Nat) (h : l.length <= i) : validD (l.drop i) = true := by
 rw [List.drop_eq_nil_of_le h]; rfl
end Go.Proofs.YtibiankbmhdljabGreatDoor
