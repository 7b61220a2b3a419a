/-
  Several texts in one: IntsI.
-/
import Derived.Test.YtibiankbmhdljabGreatDoorPkBase
set_option linter.all false
set_option maxHeartbeats 16000000
set_option maxRecDepth 100000
namespace Go.Proofs.YtibiankbmhdljabGreatDoor
open Go.Proofs.Tryz
open Go.RowKit Go.ChangeShapes Go.WideShapes Go.Deep
theorem elem_Ix {H : Type} {enc : TypeId × Value -> H} {w : World} {base : Nat} {spare : Nat -> Bool} {held : Bool} (n : Nat) (cs : List Value) (d : DataW H) (pl : List MemPlace) (hl : cs.length = 1)
  (h : DataW.trod enc prog w base spare held n 3 cs = some (d, pl)) : ∃ x : Int, cs = rowI x ∧ d = datI x ∧ okI x := by
 obtain ⟨a, e0, e1, wa⟩ := DataW.trod_int underlying3 h
 simp only [Prod.mk.injEq] at e1
 have ba := bounds_i64 wa
 exact ⟨a, e0, e1.1, ba.1, ba.2⟩
theorem bulk_onex {H : Type} (d : DataW H) : 1 <= Rows.uptoBulk d := by
 cases d with
 | lit l => cases l <;> simp [Rows.uptoBulk]
 | nil => simp [Rows.uptoBulk]
 | ptr d => simp [Rows.uptoBulk]
 | slice elems spare => simp [Rows.uptoBulk]
 | agg parts => simp [Rows.uptoBulk]
 | iface t d => simp [Rows.uptoBulk]
 | map entries => simp [Rows.uptoBulk]
 | held h => simp [Rows.uptoBulk]
theorem bulk_lenx {H : Type} (l : List (DataW H)) : l.length <= Rows.uptoBulkAll l := by
 induction l with
 | nil => simp
 | cons x r ih => have := bulk_onex x; simp only [Rows.uptoBulkAll, List.length_cons]; omega
theorem rows_bulkx {H α : Type} {datOf : α -> DataW H} {l : List α} {p : Option Addr} {c : Nat} {d : DataW H} (hd : (l = [] ∧ p = none ∧ c = 0 ∧ d = .nil) ∨ ∃ rest : List α, d = .slice (l.map datOf) (rest.map datOf)) : l.length <= Rows.uptoBulk d := by
 rcases hd with ⟨rfl, _⟩ | ⟨rest, rfl⟩
 ·simp
 ·have := bulk_lenx (l.map datOf)
  simp only [Rows.uptoBulk, zre] at this ⊢
  omega
end Go.Proofs.YtibiankbmhdljabGreatDoor
