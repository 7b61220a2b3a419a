/-
  Plain: where a name stands in a list.
-/
import Derived.Test.YtbjngeaoimaooaaDoorRowsH
import Derived.Test.YtbjngeaoimaooaaDoorStL
set_option linter.unusedVariables false
set_option linter.unusedSimpArgs false
namespace Go.Proofs.YtbjngeaoimaooaaDoor
def ixBy {α : Type} (key : α → ByteArray) : List α → ByteArray → Nat → Int
  | [], _, _ => -1
  | x :: r, nm, i => if key x = nm then (i : Int) else ixBy key r nm (i + 1)
theorem ixBy_cons {α : Type} (key : α → ByteArray) (x : α) (r : List α) (nm : ByteArray) (i : Nat) : ixBy key (x :: r) nm i = if key x = nm then (i : Int) else ixBy key r nm (i + 1) := rfl
theorem dropAt {α : Type} (l : List α) (k : Nat) (x : α) (h : l[k]? = some x) : l.drop k = x :: l.drop (k + 1) := by
  obtain ⟨hk, rfl⟩ := List.getElem?_eq_some_iff.1 h
  exact List.drop_eq_getElem_cons hk
theorem bytesNe {a b : ByteArray} (h : a ≠ b) : (a.toList == b.toList) = false := by
  rw [beq_eq_false_iff_ne]
  exact fun e => h (toList_inj e)
theorem ixBy_neg {α : Type} (key : α → ByteArray) : ∀ (l : List α) (nm : ByteArray) (i : Nat), (∀ x ∈ l, key x ≠ nm) → ixBy key l nm i = -1
  | [], _, _, _ => rfl
  | x :: r, nm, i, h => by
    unfold ixBy
    rw [if_neg (h x List.mem_cons_self)]
    exact ixBy_neg key r nm (i + 1) fun y hy => h y (List.mem_cons_of_mem _ hy)
theorem ixBy_pos {α : Type} (key : α → ByteArray) : ∀ (l : List α) (nm : ByteArray) (i : Nat) (x : α), x ∈ l → key x = nm → 0 ≤ ixBy key l nm i
  | y :: r, nm, i, x, hx, hk => by
    unfold ixBy
    split
    · omega
    · rename_i h
      rcases List.mem_cons.1 hx with rfl | hx
      · exact absurd hk h
      · exact ixBy_pos key r nm (i + 1) x hx hk
end Go.Proofs.YtbjngeaoimaooaaDoor
