/-
  What the contracts of state.Rows need beside the small functions' contracts.
-/
import Derived.Test.YtoepchgoacdodaaDoorStW1
import Derived.Test.YtoepchgoacdodaaDoorAbv
import Derived.IntWalk
set_option linter.unusedVariables false
set_option linter.unusedSimpArgs false
namespace Go.Proofs.YtoepchgoacdodaaDoor
open Go.RowKit
theorem rowsE_cons_bad {α : Type} (key : α → ByteArray) (chk : α → Nat) (p : Option α) (x : α) (r : List α) (h : chk x ≠ 0) : rowsE key chk p (x :: r) = chk x := by simp [rowsE, h]
theorem rowsE_cons_ord {α : Type} (key : α → ByteArray) (chk : α → Nat) (p : Option α) (x : α) (r : List α) (h : chk x = 0) (hb : badOrd key p x = true) : rowsE key chk p (x :: r) = 8 := by simp [rowsE, h, hb]
theorem rowsE_cons_ok {α : Type} (key : α → ByteArray) (chk : α → Nat) (p : Option α) (x : α) (r : List α) (h : chk x = 0) (hb : badOrd key p x = false) : rowsE key chk p (x :: r) = rowsE key chk (some x) r := by simp [rowsE, h, hb]
theorem drop_at {α : Type} (l : List α) (k : Nat) (x : α) (h : l[k]? = some x) : l.drop k = x :: l.drop (k + 1) := by
  obtain ⟨hk, rfl⟩ := List.getElem?_eq_some_iff.1 h
  exact List.drop_eq_getElem_cons hk
theorem prevOf_at {α : Type} (l : List α) (k : Nat) (x : α) (h : l[k]? = some x) : prevOf l (k + 1) = some x := h

theorem job_size : (Tryd.prog.info? 44).map (·.size) = some 5 := by kernel_rfl
theorem node_size : (Tryd.prog.info? 48).map (·.size) = some 3 := by kernel_rfl
theorem lease_size : (Tryd.prog.info? 52).map (·.size) = some 3 := by kernel_rfl
end Go.Proofs.YtoepchgoacdodaaDoor
