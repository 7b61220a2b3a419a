/-
  Several texts in one: SvMem.
-/
import Derived.Test.YtaioadbenigdpaaGreatDoorPkSvLaw
import Derived.Test.YtaioadbenigdpaaGreatDoorPkCopyW
set_option linter.unusedVariables false
set_option linter.unusedSimpArgs false
set_option maxHeartbeats 16000000
set_option maxRecDepth 100000
namespace Go.Proofs.YtaioadbenigdpaaGreatDoor
open Go.RowKit
theorem putAtJ {w : World} {base c : Nat} {p : Option Addr} {l : List JobD} (hO : OwnR w base 31 5 p c (l.map rowJ)) {k : Nat} {y : JobD} (hy : l[k]? = some y) (x : JobD) :
  ∃ (g : Nat) (A R : List Value) (CS : Array Value), p = some ⟨g, 0, none⟩ ∧ base ≤ g ∧ w.heap[g]? = some (.cells (A ++ rowJ y ++ R).toArray 31 (0, 0)) ∧ k * 5 = A.length ∧ (A ++ rowJ x ++ R).toArray = CS ∧ OwnR (w.setRow g CS) base 31 5 p c ((l.set k x).map rowJ) := by
 obtain ⟨hk, hyk⟩ := List.getElem?_eq_some_iff.1 hy
 have hset : l.set k x = l.take k ++ x :: l.drop (k + 1) := by rw [List.set_eq_take_append_cons_drop, if_pos hk]
 have hA : l = l.take k ++ y :: l.drop (k + 1) := by rw [← hyk, ← List.drop_eq_getElem_cons hk, List.take_append_drop]
 have hne : l.map rowJ ≠ [] := by intro h; have := congrArg List.length h; simp at this; subst this; simp at hk
 obtain ⟨g, rest, rfl, hbg, hg, hlen, hlc, hcm⟩ := hO.at_ hne
 have hla : (l.take k).length = k := by rw [List.length_take]; omega
 have hg1 : w.heap[g]? = some (.cells (((l.take k).map rowJ).flatten ++ rowJ y ++ (((l.drop (k + 1)).map rowJ).flatten ++ rest)).toArray 31 (0, 0)) := by
  rw [hg]; conv => lhs; rw [hA]
  simp
 have ha : (((l.take k).map rowJ).flatten).length = k * 5 := by rw [flat_len (map_rowJ_len _), List.length_map, hla]
 have hg2 := setRow_at (cs' := (((l.take k).map rowJ).flatten ++ rowJ x ++ (((l.drop (k + 1)).map rowJ).flatten ++ rest)).toArray) hg1
 refine ⟨g, ((l.take k).map rowJ).flatten, ((l.drop (k + 1)).map rowJ).flatten ++ rest, _, rfl, hbg, hg1, ha.symm, rfl, ?_⟩
 refine OwnR.of_ (rest := rest) (map_rowJ_len _) hbg ?_ ?_ (by rw [List.length_map, List.length_set]; simpa using hlc) hcm
 ·rw [hg2, hset]; simp
 ·have h3 := hlen
  rw [List.length_append, flat_len (map_rowJ_len _), List.length_map] at h3 ⊢
  rw [List.length_set]; exact h3
theorem putAtL {w : World} {base c : Nat} {p : Option Addr} {l : List LeaseD} (hO : OwnR w base 37 3 p c (l.map rowL)) {k : Nat} {y : LeaseD} (hy : l[k]? = some y) (x : LeaseD) :
  ∃ (g : Nat) (A R : List Value) (CS : Array Value), p = some ⟨g, 0, none⟩ ∧ base ≤ g ∧ w.heap[g]? = some (.cells (A ++ rowL y ++ R).toArray 37 (0, 0)) ∧ k * 3 = A.length ∧ (A ++ rowL x ++ R).toArray = CS ∧ OwnR (w.setRow g CS) base 37 3 p c ((l.set k x).map rowL) := by
 obtain ⟨hk, hyk⟩ := List.getElem?_eq_some_iff.1 hy
 have hset : l.set k x = l.take k ++ x :: l.drop (k + 1) := by rw [List.set_eq_take_append_cons_drop, if_pos hk]
 have hA : l = l.take k ++ y :: l.drop (k + 1) := by rw [← hyk, ← List.drop_eq_getElem_cons hk, List.take_append_drop]
 have hne : l.map rowL ≠ [] := by intro h; have := congrArg List.length h; simp at this; subst this; simp at hk
 obtain ⟨g, rest, rfl, hbg, hg, hlen, hlc, hcm⟩ := hO.at_ hne
 have hla : (l.take k).length = k := by rw [List.length_take]; omega
 have hg1 : w.heap[g]? = some (.cells (((l.take k).map rowL).flatten ++ rowL y ++ (((l.drop (k + 1)).map rowL).flatten ++ rest)).toArray 37 (0, 0)) := by
  rw [hg]; conv => lhs; rw [hA]
  simp
 have ha : (((l.take k).map rowL).flatten).length = k * 3 := by rw [flat_len (map_rowL_len _), List.length_map, hla]
 have hg2 := setRow_at (cs' := (((l.take k).map rowL).flatten ++ rowL x ++ (((l.drop (k + 1)).map rowL).flatten ++ rest)).toArray) hg1
 refine ⟨g, ((l.take k).map rowL).flatten, ((l.drop (k + 1)).map rowL).flatten ++ rest, _, rfl, hbg, hg1, ha.symm, rfl, ?_⟩
 refine OwnR.of_ (rest := rest) (map_rowL_len _) hbg ?_ ?_ (by rw [List.length_map, List.length_set]; simpa using hlc) hcm
 ·rw [hg2, hset]; simp
 ·have h3 := hlen
  rw [List.length_append, flat_len (map_rowL_len _), List.length_map] at h3 ⊢
  rw [List.length_set]; exact h3
theorem eq_self {α : Type} [DecidableEq α] (l : List α) : decide (l = l) = true := decide_eq_true rfl
theorem own_rowsR {w : World} {base size c : Nat} {E : TypeId} {p : Option Addr} {rows : List (List Value)} (h : Own w base E size p c rows) (hn : rows ≠ []) : OwnR w base E size p c rows := by
 rcases h.toR with ⟨h1, _⟩ | h1
 ·exact absurd h1 hn
 ·exact h1
end Go.Proofs.YtaioadbenigdpaaGreatDoor
