/-
  Several texts in one: FineSz.
-/
import Derived.Test.YtnmokjgnbcfabaaDoorPkStateA
import Derived.Test.YtnmokjgnbcfabaaDoorPkStateB
/-
  Plain: a state that may be is small.
-/
set_option linter.unusedVariables false
set_option linter.unusedSimpArgs false
namespace Go.Proofs.YtnmokjgnbcfabaaDoor
theorem jobE_iff {j : JobD} : jobE j = 0 ↔ (nameOk j.name = true ∧ textOk j.tag = true) ∧ (-1000 ≤ j.prio ∧ j.prio ≤ 1000) ∧ (0 ≤ j.need ∧ j.need ≤ 1000000) ∧ 0 ≤ j.tries ∧ j.tries ≤ 100 := by
  unfold jobE
  constructor
  · intro h
    split at h
    · rename_i h1
      split at h
      · rename_i h2
        simp only [Bool.and_eq_true, withinB_iff] at h1 h2
        exact ⟨h1, h2.1.1, h2.1.2, h2.2⟩
      · cases h
    · cases h
  · intro ⟨h1, h2, h3, h4⟩
    rw [if_pos (by simp only [Bool.and_eq_true]; exact h1), if_pos (by simp only [Bool.and_eq_true, withinB_iff]; exact ⟨⟨h2, h3⟩, h4⟩)]
theorem nodeE_iff {n : NodeD} : nodeE n = 0 ↔ (nameOk n.name = true ∧ textOk n.zone = true) ∧ 0 ≤ n.room ∧ n.room ≤ 1000000 := by
  unfold nodeE
  constructor
  · intro h
    split at h
    · rename_i h1
      split at h
      · rename_i h2
        simp only [Bool.and_eq_true, withinB_iff] at h1 h2
        exact ⟨h1, h2⟩
      · cases h
    · cases h
  · intro ⟨h1, h2⟩
    rw [if_pos (by simp only [Bool.and_eq_true]; exact h1), if_pos (by simp only [withinB_iff]; exact h2)]
theorem textOk_sz {s : ByteArray} (h : textOk s = true) : s.size ≤ 16 := by
  unfold textOk at h
  rw [Bool.and_eq_true] at h
  exact of_decide_eq_true h.1
theorem nameOk_sz {s : ByteArray} (h : nameOk s = true) : s.size ≤ 16 := by
  unfold nameOk at h
  rw [Bool.and_eq_true] at h
  exact textOk_sz h.2
theorem Fine.sz {s : St} (h : Fine s) : StSz s where
  j := fun x hx => by
    obtain ⟨⟨h1, h2⟩, _⟩ := jobE_iff.1 (h.j x hx)
    have := nameOk_sz h1
    have := textOk_sz h2
    omega
  n := fun x hx => by
    obtain ⟨⟨h1, h2⟩, _⟩ := nodeE_iff.1 (h.n x hx)
    have := nameOk_sz h1
    have := textOk_sz h2
    omega
  nr := fun x hx => by
    obtain ⟨_, h1, h2⟩ := nodeE_iff.1 (h.n x hx)
    omega
  lj := by have := h.nj; omega
  ln := by have := h.nn; omega
  ll := by have := h.nl; omega
end Go.Proofs.YtnmokjgnbcfabaaDoor
