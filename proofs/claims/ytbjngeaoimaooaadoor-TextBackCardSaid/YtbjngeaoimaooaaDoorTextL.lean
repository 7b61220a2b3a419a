/-
  Plain laws of texts.
-/
import Derived.Test.YtbjngeaoimaooaaDoorTextW
set_option linter.unusedVariables false
set_option linter.unusedSimpArgs false
namespace Go.Proofs.YtbjngeaoimaooaaDoor
theorem rdT_text (l more : List UInt8) (h16 : l.length ≤ 16) (hv : Lib.validD l = true) : rdT (textB l ++ more) = (l, (textB l).length, 0) := by
  have hr : rd (textB l ++ more) = (l.length, (putN l.length).length, 0) := by
    unfold textB; rw [List.append_assoc]; exact rd_put _ _ (by omega)
  have hd : ((textB l ++ more).drop (putN l.length).length).take l.length = l := by
    unfold textB; rw [List.append_assoc, List.drop_left, List.take_left]
  unfold rdT
  rw [hr]
  simp only []
  rw [if_neg (by simp), if_neg (by omega), if_neg (by unfold textB; simp only [List.length_append]; omega), hd, if_pos hv]
  unfold textB
  rw [List.length_append]
theorem rdT_err (l : List UInt8) (h : (rdT l).2.2 ≠ 0) : rdT l = ([], 0, (rdT l).2.2) := by
  unfold rdT at h ⊢
  (repeat' split) <;> first | rfl | (exfalso; simp_all)
theorem rdT_inv (l : List UInt8) (h : (rdT l).2.2 = 0) : (rdT l).1.length ≤ 16 ∧ Lib.validD (rdT l).1 = true ∧ textB (rdT l).1 = l.take (rdT l).2.1 ∧ (rdT l).2.1 ≤ l.length ∧ 1 ≤ (rdT l).2.1 := by
  by_cases h0 : (rd l).2.2 = 0
  · obtain ⟨n, k, hr, hp, hk1, hk10, hkl, hn, _⟩ := rd_ok _ h0
    have hR : rdT l = if 16 < n then ([], 0, 2) else if l.length < k + n then ([], 0, 3) else
        if Lib.validD ((l.drop k).take n) = true then ((l.drop k).take n, k + n, 0) else ([], 0, 4) := by
      unfold rdT
      rw [hr]
      rw [if_neg (by simp)]
    by_cases h16 : 16 < n
    · rw [hR, if_pos h16] at h; exact absurd h (by decide)
    · by_cases h3 : l.length < k + n
      · rw [hR, if_neg h16, if_pos h3] at h; exact absurd h (by decide)
      · by_cases hV : Lib.validD ((l.drop k).take n) = true
        · rw [if_neg h16, if_neg h3, if_pos hV] at hR
          rw [hR]
          have hl : ((l.drop k).take n).length = n := by rw [List.length_take, List.length_drop]; omega
          refine ⟨by rw [hl]; omega, hV, ?_, by show k + n ≤ _; omega, by show 1 ≤ k + n; omega⟩
          unfold textB
          rw [hl, hp, ← List.take_add]
        · rw [hR, if_neg h16, if_neg h3, if_neg hV] at h; exact absurd h (by decide)
  · unfold rdT at h; rw [if_pos h0] at h; exact absurd h h0
theorem textE_l {l : List UInt8} : textE (bstr l) = 0 ↔ l.length ≤ 16 ∧ Lib.validD l = true := by rw [textE_0, bstr_size]; unfold vT; rw [bstr_list]
end Go.Proofs.YtbjngeaoimaooaaDoor
