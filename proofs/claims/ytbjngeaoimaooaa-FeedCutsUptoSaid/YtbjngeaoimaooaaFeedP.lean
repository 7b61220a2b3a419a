/-
  Plain mathematics of a feed: the frames at the front of bytes, how far they reach, and what stops them.
-/
import Derived.Test.YtbjngeaoimaooaaFrameL
set_option linter.unusedVariables false
set_option linter.unusedSimpArgs false
namespace Go.Proofs.Ytbjngeaoimaooaa
structure Fr where
  ver : Nat
  kind : Nat
  pl : List UInt8
structure FeedR where
  out : List Fr
  n : Nat
  e : Nat
def feedN : Nat → List UInt8 → FeedR
  | 0, _ => ⟨[], 0, 3⟩
  | f + 1, l => if (decF l).e = 0 then ⟨⟨(decF l).ver, (decF l).kind, (decF l).pl⟩ :: (feedN f (l.drop (decF l).n)).out, (decF l).n + (feedN f (l.drop (decF l).n)).n, (feedN f (l.drop (decF l).n)).e⟩ else ⟨[], 0, (decF l).e⟩
def feedF (l : List UInt8) : FeedR := feedN (l.length + 1) l
theorem decF_pos (l : List UInt8) (h : (decF l).e = 0) : 0 < (decF l).n := by
  obtain ⟨_, _, _, h4, h5⟩ := decF_inv l h
  have := congrArg List.length h4
  rw [wireF_length, List.length_take] at this
  omega
theorem feedN_more (f g : Nat) (l : List UInt8) (hf : l.length < f) (hg : l.length < g) : feedN f l = feedN g l := by
  induction f generalizing g l with
  | zero => omega
  | succ f ih =>
    obtain ⟨g, rfl⟩ : ∃ k, g = k + 1 := ⟨g - 1, by omega⟩
    unfold feedN
    by_cases h : (decF l).e = 0
    · have hp := decF_pos l h
      have hi := (decF_inv l h).2.2.2.2
      rw [if_pos h, if_pos h, ih g (l.drop (decF l).n) (by rw [List.length_drop]; omega) (by rw [List.length_drop]; omega)]
    · rw [if_neg h, if_neg h]
theorem feedF_ok (l : List UInt8) (h : (decF l).e = 0) :
    feedF l = ⟨⟨(decF l).ver, (decF l).kind, (decF l).pl⟩ :: (feedF (l.drop (decF l).n)).out, (decF l).n + (feedF (l.drop (decF l).n)).n, (feedF (l.drop (decF l).n)).e⟩ := by
  have hp := decF_pos l h
  have hi := (decF_inv l h).2.2.2.2
  have hm : feedF (l.drop (decF l).n) = feedN l.length (l.drop (decF l).n) := feedN_more _ _ _ (by omega) (by rw [List.length_drop]; omega)
  rw [hm]
  show feedN (l.length + 1) l = _
  rw [feedN, if_pos h]
theorem feedF_bad (l : List UInt8) (h : (decF l).e ≠ 0) : feedF l = ⟨[], 0, (decF l).e⟩ := by
  show feedN (l.length + 1) l = _
  rw [feedN, if_neg h]
theorem feedN_le (f : Nat) (l : List UInt8) : (feedN f l).out.length ≤ (feedN f l).n ∧ (feedN f l).n ≤ l.length := by
  induction f generalizing l with
  | zero => simp [feedN]
  | succ f ih =>
    unfold feedN
    by_cases h : (decF l).e = 0
    · have hp := decF_pos l h
      have hi := (decF_inv l h).2.2.2.2
      have := ih (l.drop (decF l).n)
      rw [if_pos h]
      rw [List.length_drop] at this
      simp only [List.length_cons]
      omega
    · rw [if_neg h]; simp
theorem feedF_le (l : List UInt8) : (feedF l).out.length ≤ l.length := Nat.le_trans (feedN_le _ l).1 (feedN_le _ l).2
theorem feedF_n (l : List UInt8) : (feedF l).n ≤ l.length := (feedN_le _ l).2
end Go.Proofs.Ytbjngeaoimaooaa
