/-
 Plain: what is quoted has no bare sign in it. No program.
-/
import Derived.Test.YtoepchgoacdodaaDoorJsonP
set_option linter.unusedVariables false
set_option linter.unusedSimpArgs false
namespace Go.Proofs.YtoepchgoacdodaaDoor
/-- What may stand behind the first sign of a quoted text: the last sign, or a plain one, or an escaped one, and so on. -/
inductive Quo : List UInt8 → Prop
 | last : Quo [34]
 | plain {c : UInt8} {l : List UInt8} : 32 ≤ c.toNat → c ≠ 34 → c ≠ 92 → Quo l → Quo (c :: l)
 | esc {c : UInt8} {l : List UInt8} : Quo l → Quo (92 :: c :: l)
theorem Quo.ne {l : List UInt8} (h : Quo l) : 0 < l.length := by cases h <;> simp
theorem hexD_ok : ∀ k < 16, 32 ≤ (hexD k).toNat ∧ hexD k ≠ 34 ∧ hexD k ≠ 92 := by decide
theorem quo_qB (c : UInt8) {l : List UInt8} (h : Quo l) : Quo (qB c ++ l) := by
 unfold qB
 split
 · exact .esc h
 · rename_i h1
   have h34 : c ≠ 34 := fun e => h1 (.inl e)
   have h92 : c ≠ 92 := fun e => h1 (.inr e)
   split
   · have hc := c.toNat_lt
     have a := hexD_ok (c.toNat / 16) (by omega)
     have b := hexD_ok (c.toNat % 16) (by omega)
     exact .esc (.plain (by decide) (by decide) (by decide) (.plain (by decide) (by decide) (by decide) (.plain a.1 a.2.1 a.2.2 (.plain b.1 b.2.1 b.2.2 h))))
   · rename_i h2
     have h3 : 32 ≤ c.toNat := by
      rcases Nat.lt_or_ge c.toNat 32 with h | h
      · exact absurd (by rw [UInt8.lt_iff_toNat_lt]; exact h) h2
      · exact h
     exact .plain h3 h34 h92 h
theorem quo_quote (s : List UInt8) : Quo (quoteI s ++ [34]) := by
 induction s with
 | nil => exact .last
 | cons c s ih => rw [quoteI_cons, List.append_assoc]; exact quo_qB c ih
theorem quoteL_inj {a b : List UInt8} : quoteL a = quoteL b ↔ a = b := by
 constructor
 · intro h
   have h1 := txR_app a []
   have h2 := txR_app b []
   rw [h, h2] at h1
   injection h1 with h1 _
   exact h1.symm
 · rintro rfl; rfl
/-- Two texts one behind the other. -/
theorem quoteL_app (a b : List UInt8) : quoteL (a ++ b) = (quoteL a).take ((quoteL a).length - 1) ++ (quoteL b).drop 1 := by
 have e : (quoteL a).take ((quoteL a).length - 1) = 34 :: quoteI a := by
  unfold quoteL
  rw [← List.cons_append, List.take_append_of_le_length (by simp)]
  simp
 rw [e]; unfold quoteL; rw [quoteI_append]; simp
end Go.Proofs.YtoepchgoacdodaaDoor
