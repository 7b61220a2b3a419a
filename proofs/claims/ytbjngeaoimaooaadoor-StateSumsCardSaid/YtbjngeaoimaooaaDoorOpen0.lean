/-
  General lemmas: arguments that are slices of structs, opened to rows. No program.
-/
import Derived.Test.YtbjngeaoimaooaaDoorRows0
import Derived.Deep.Slices
import Derived.Deep.Fields
import Derived.ChangeSame
set_option linter.unusedVariables false
set_option linter.unusedSimpArgs false
namespace Go.Proofs.YtbjngeaoimaooaaDoor
open Go.RowKit Go.ChangeShapes Go.WideShapes Go.Deep

theorem list_of {α : Type} (R : Nat → α → Prop) : ∀ n : Nat, (∀ i, i < n → ∃ x, R i x) → ∃ l : List α, l.length = n ∧ ∀ i x, l[i]? = some x → R i x
  | 0, _ => ⟨[], rfl, fun i x h => by simp at h⟩
  | n + 1, h => by
    obtain ⟨l, hl, hr⟩ := list_of R n (fun i hi => h i (by omega))
    obtain ⟨x, hx⟩ := h n (by omega)
    refine ⟨l ++ [x], by simp [hl], fun i y hy => ?_⟩
    rcases Nat.lt_or_ge i l.length with hi | hi
    · rw [List.getElem?_append_left hi] at hy; exact hr i y hy
    · rw [List.getElem?_append_right hi] at hy
      have : i - l.length = 0 := by
        rcases Nat.eq_zero_or_pos (i - l.length) with h0 | h0
        · exact h0
        · rw [List.getElem?_eq_none (by simp; omega)] at hy; cases hy
      rw [this] at hy
      simp at hy; subst hy
      have : i = n := by omega
      subst this
      exact hx

section
variable {H : Type} {enc : TypeId × Value → H} {P : Program} {w : World} {base : Nat} {spare : Nat → Bool} {held : Bool}
/-- A struct of one-cell fields, field by field. -/
theorem struct_fields {e : TypeId} {fs : Array Field} {fuel : Nat} {cs : List Value} {d : DataW H} {pl : List MemPlace} (he : P.underlying e = some (.struct fs)) (hone : oneCellFields P fs = true) (hl : cs.length = fs.size)
    (h : DataW.trod enc P w base spare held fuel e cs = some (d, pl)) :
    ∃ (ys : List (DataW H × List MemPlace)) (n : Nat), d = .agg (ys.map (·.1)) ∧ ys.length = fs.size ∧
      ∀ (j : Nat) (f : Field), fs[j]? = some f → ∃ (v : Value) (y : DataW H × List MemPlace), cs[j]? = some v ∧ ys[j]? = some y ∧ DataW.trod enc P w base spare held n f.type [v] = some y := by
  obtain ⟨ys, n', hn', hy, hlen, hyl, hf⟩ := DataW.trod_struct he h
  simp only [Prod.mk.injEq] at hy
  refine ⟨ys, n', hy.1, hyl, fun j f hj => ?_⟩
  obtain ⟨ho, hk⟩ := hone_of hone j f hj
  have hjl : j < fs.size := (Array.getElem?_eq_some_iff.1 hj).1
  have hv : cs[j]? = some (cs[j]'(by omega)) := List.getElem?_eq_getElem (by omega)
  have h1 := hf j f hj
  rw [ho, hk] at h1
  have hone' : (cs.drop j).take 1 = [cs[j]'(by omega)] := by
    rw [List.drop_eq_getElem_cons (by omega)]
    rfl
  rw [hone'] at h1
  have hys : ys[j]? = some (ys[j]'(by omega)) := List.getElem?_eq_getElem (by omega)
  exact ⟨_, _, hv, hys, h1.trans hys⟩

theorem open_rows1 {α : Type} (rowOf : α → List Value) (datOf : α → DataW H) (ok : α → Prop) (C : Nat) {t e : TypeId} {v : Value} {d : DataW H} {ps : List MemPlace} {fuel : Nat}
    (ht : P.underlying t = some (.slice e)) (hC : P.cellsOf e = C) (hpos : 0 < C) (hf : DataW.trod enc P w base spare held fuel t [v] = some (d, ps))
    (hel : ∀ n cs' d' pl, cs'.length = C → DataW.trod enc P w base spare held n e cs' = some (d', pl) → ∃ x, cs' = rowOf x ∧ d' = datOf x ∧ ok x) :
    ∃ p c, ∃ l : List α, v = .slice p l.length c ∧ l.length ≤ c ∧ c ≤ maxLen ∧ Elts w w.heap.size C p (l.map rowOf) ∧ (∀ x ∈ l, ok x) ∧
      ((l = [] ∧ p = none ∧ c = 0 ∧ d = .nil) ∨ ∃ rest : List α, d = .slice (l.map datOf) (rest.map datOf)) := by
  rcases open_slice ht hf with ⟨h0, hx⟩ | ⟨a, len, cap, m, n, D, Pl, hcs, hb, hl, hm, hmm, hx, hi⟩
  · simp at h0
    subst h0
    simp only [Prod.mk.injEq] at hx
    exact ⟨none, 0, [], rfl, by simp, by simp, Elts.nil_, by simp, .inl ⟨rfl, rfl, rfl, hx.1⟩⟩
  · simp at hcs
    subst hcs
    rw [hC] at hi
    have hlm : len ≤ m := by rw [hmm]; split <;> omega
    obtain ⟨all, hall, hR⟩ := list_of (fun i (x : α) => ok x ∧ D i = datOf x ∧ (rowOf x).length = C ∧ At w (a.add (i * C)) (rowOf x)) m (fun i him => by
      obtain ⟨cs', hc, ht'⟩ := hi i him
      obtain ⟨_, hcl, hat⟩ := World.cells?_some hc
      obtain ⟨x, hrow, hd, hok⟩ := hel n cs' _ _ hcl ht'
      refine ⟨x, hok, hd, hrow ▸ hcl, fun j u hj => ?_⟩
      rw [← hrow] at hj
      have hjl : j < C := by rw [← hcl]; exact (List.getElem?_eq_some_iff.1 hj).1
      rw [hat j hjl, hj])
    have hat : ∀ i x, (all.take len)[i]? = some x → ok x ∧ D i = datOf x ∧ (rowOf x).length = C ∧ At w (a.add (i * C)) (rowOf x) := by
      intro i x hx
      refine hR i x ?_
      rw [List.getElem?_take] at hx
      split at hx
      · exact hx
      · cases hx
    have hlen : (all.take len).length = len := by rw [List.length_take]; omega
    refine ⟨some a, cap, all.take len, by rw [hlen], by omega, hm, ⟨?_, fun hp => ⟨a, rfl, ?_, ?_⟩⟩, ?_, .inr ⟨all.drop len, ?_⟩⟩
    · intro r hr
      obtain ⟨x, hx, rfl⟩ := List.mem_map.1 hr
      obtain ⟨i, hi2⟩ := List.mem_iff_getElem?.1 hx
      exact (hat i x hi2).2.2.1
    · rw [List.length_map] at hp
      have hx : (all.take len)[0]? = some (all.take len)[0] := List.getElem?_eq_getElem hp
      obtain ⟨_, _, h3, h4⟩ := hat 0 _ hx
      have : 0 < (rowOf (all.take len)[0]).length := by omega
      have hc := h4 0 _ (List.getElem?_eq_getElem this)
      have := World.block_lt_of_cell? w _ hc
      rwa [block_of_add, block_of_add] at this
    · intro k r hr
      rw [List.getElem?_map] at hr
      cases hx : (all.take len)[k]? with
      | none => rw [hx] at hr; cases hr
      | some x =>
        rw [hx] at hr
        injection hr with hr
        subst hr
        exact (hat k x hx).2.2.2
    · intro x hx
      obtain ⟨i, hi2⟩ := List.mem_iff_getElem?.1 hx
      exact (hat i x hi2).1
    · simp only [Prod.mk.injEq] at hx
      rw [hx.1]
      have eD : ∀ i (h : i < m), D i = datOf (all[i]'(by omega)) := fun i h => (hR i _ (List.getElem?_eq_getElem (by omega))).2.1
      congr 1
      · apply List.ext_getElem
        · simp; omega
        · intro i h1 h2
          simp at h1 h2 ⊢
          exact eD i (by omega)
      · apply List.ext_getElem
        · simp; omega
        · intro i h1 h2
          simp at h1 h2 ⊢
          exact eD (len + i) (by omega)
theorem open_rows {α : Type} (rowOf : α → List Value) (datOf : α → DataW H) (ok : α → Prop) (C : Nat) {r : Reach} {b0 : Nat} {t e : TypeId} {v : Value} {d : DataW H} {ps : List MemPlace}
    (ht : P.underlying t = some (.slice e)) (hC : P.cellsOf e = C) (hpos : 0 < C) (hv : Value.okWide P w r b0 t v) (h : DataW.Trod enc P w base spare held t v d ps)
    (hel : ∀ n cs' d' pl, cs'.length = C → DataW.trod enc P w base spare held n e cs' = some (d', pl) → ∃ x, cs' = rowOf x ∧ d' = datOf x ∧ ok x) :
    ∃ p c, ∃ l : List α, v = .slice p l.length c ∧ l.length ≤ c ∧ c ≤ maxLen ∧ Elts w w.heap.size C p (l.map rowOf) ∧ (∀ x ∈ l, ok x) ∧
      ((l = [] ∧ p = none ∧ c = 0 ∧ d = .nil) ∨ ∃ rest : List α, d = .slice (l.map datOf) (rest.map datOf)) := by
  obtain ⟨a0, n0, c0, rfl⟩ := okWide_slice ht hv
  obtain ⟨fuel, hf⟩ := h
  exact open_rows1 rowOf datOf ok C ht hC hpos hf hel
end
/-- Every weight of a part is one of the whole's. -/
theorem weights_all {H : Type} {P : Program} {e : TypeId} : ∀ {ds : List (DataW H)} {d : DataW H}, d ∈ ds → ∀ n ∈ d.weights P e, n ∈ DataW.weightsAll P e ds
  | x :: r, d, h, n, hn => by
    simp only [DataW.weightsAll, List.mem_append]
    rcases List.mem_cons.1 h with rfl | h
    · exact .inl hn
    · exact .inr (weights_all h n hn)
end Go.Proofs.YtbjngeaoimaooaaDoor
