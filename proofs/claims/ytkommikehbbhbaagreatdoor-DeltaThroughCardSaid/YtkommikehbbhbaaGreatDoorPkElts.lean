/-
  Several texts in one: EltsTD.
-/
import Derived.Test.YtkommikehbbhbaaGreatDoorPkBase
/-
  A slice's first rows, and the rest of them.
-/
set_option linter.unusedVariables false
set_option linter.unusedSimpArgs false
namespace Go.Proofs.YtkommikehbbhbaaGreatDoor
section
variable {w : World} {B size : Nat} {p : Option Addr} {rows : List (List Value)}
theorem Elts.take_ (h : Elts w B size p rows) (k : Nat) : Elts w B size p (rows.take k) := by
  refine ⟨fun r hr => h.1 r (List.mem_of_mem_take hr), fun h0 => ?_⟩
  obtain ⟨a, e, hb, hc⟩ := h.2 (by rw [List.length_take] at h0; omega)
  refine ⟨a, e, hb, fun i r hr => hc i r ?_⟩
  have hi := (List.getElem?_eq_some_iff.1 hr).1
  rw [List.length_take] at hi
  rw [List.getElem?_take_of_lt (by omega)] at hr
  exact hr
theorem Elts.drop_ {a : Addr} (h : Elts w B size (some a) rows) (k : Nat) : Elts w B size (some (a.add (k * size))) (rows.drop k) := by
  refine ⟨fun r hr => h.1 r (List.mem_of_mem_drop hr), fun h0 => ?_⟩
  obtain ⟨a', e, hb, hc⟩ := h.2 (by rw [List.length_drop] at h0; omega)
  injection e with e
  subst e
  refine ⟨_, rfl, by rw [block_of_add]; exact hb, fun i r hr => ?_⟩
  rw [List.getElem?_drop] at hr
  have := hc (k + i) r hr
  rwa [add_of_add, ← Nat.add_mul]
theorem Elts.dropIf (h : Elts w B size p rows) {c k : Nat} (hc : rows.length ≤ c) : Elts w B size (if c = k then p else Option.map (fun x => x.add (k * size)) p) (rows.drop k) := by
  by_cases hk : c = k
  · subst hk
    rw [List.drop_eq_nil_of_le hc]
    exact Elts.nil_
  · rw [if_neg hk]
    cases p with
    | none =>
      have h0 : rows.drop k = [] := by
        rcases Nat.eq_zero_or_pos rows.length with h1 | h1
        · rw [List.eq_nil_of_length_eq_zero h1]; simp
        · obtain ⟨a, e, _⟩ := h.2 h1; cases e
      rw [h0]; exact Elts.nil_
    | some a => exact h.drop_ k
theorem Blk.reads1 {g : Nat} {t : TypeId} {cs : Array Value} (h : Blk w g t cs) (hs : cs.size = size) : Reads w w.heap.size size (some ⟨g, 0, none⟩) 1 cs.toList := by
  refine ⟨by simp [hs], fun _ => ⟨_, rfl, h.lt, fun j u hu => ?_⟩⟩
  have hadd : (⟨g, 0, none⟩ : Addr).add j = ⟨g, j, none⟩ := by unfold Addr.add; split <;> simp_all
  rw [hadd, h.cell j]
  simpa using hu
end
end Go.Proofs.YtkommikehbbhbaaGreatDoor
