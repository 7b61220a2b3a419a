/-
  Maps with string keys that the call itself makes: as lists of keys and values. No program.
-/
import Derived.Test.YtoepchgoacdodaaDoorRows0
import Derived.ChangeMaps4
import Derived.MapViews
set_option linter.unusedVariables false
set_option linter.unusedSimpArgs false
namespace Go.Proofs.YtoepchgoacdodaaDoor
open Go.RowKit Go.ChangeMaps
def Ents (es : List MapEntry) (m : List (ByteArray × Value)) : Prop := es.map (fun e => (e.key, e.val)) = m.map (fun p => (Value.string p.1, p.2))
/-- Block b is a map that holds m: each key once. -/
def MapIs (w : World) (b : Nat) (m : List (ByteArray × Value)) : Prop := ∃ es clock, w.heap[b]? = some (.map es clock) ∧ Ents es.toList m ∧ (m.map (·.1)).Nodup
theorem bqT (a b : ByteArray) : (a == b) = decide (a = b) := by
  rw [Bool.eq_iff_iff, MapKept.bytes_beq, decide_eq_true_iff]
def getM : List (ByteArray × Value) → ByteArray → Option Value
  | [], _ => none
  | p :: m, k => if p.1 = k then some p.2 else getM m k
def putM : List (ByteArray × Value) → ByteArray → Value → List (ByteArray × Value)
  | [], k, v => [(k, v)]
  | p :: m, k, v => if p.1 = k then (k, v) :: m else p :: putM m k v
theorem getM_none {m : List (ByteArray × Value)} {k : ByteArray} : getM m k = none ↔ k ∉ m.map (·.1) := by
  induction m with
  | nil => simp [getM]
  | cons p m ih =>
    unfold getM
    by_cases h : p.1 = k
    · simp [h]
    · rw [if_neg h, ih]
      simp only [List.map_cons, List.mem_cons, not_or]
      exact ⟨fun h2 => ⟨fun h3 => h h3.symm, h2⟩, fun h2 => h2.2⟩
theorem getM_put (m : List (ByteArray × Value)) (k k' : ByteArray) (v : Value) : getM (putM m k v) k' = if k = k' then some v else getM m k' := by
  induction m with
  | nil => rfl
  | cons p m ih =>
    unfold putM
    by_cases hp : p.1 = k
    · rw [if_pos hp]
      show (if k = k' then some v else getM m k') = if k = k' then some v else (if p.1 = k' then some p.2 else getM m k')
      by_cases hk : k = k'
      · rw [if_pos hk, if_pos hk]
      · rw [if_neg hk, if_neg hk, if_neg (by rw [hp]; exact hk)]
    · rw [if_neg hp]
      show (if p.1 = k' then some p.2 else getM (putM m k v) k') = if k = k' then some v else (if p.1 = k' then some p.2 else getM m k')
      rw [ih]
      by_cases hk : k = k'
      · rw [if_pos hk, if_pos hk, if_neg (by rw [← hk]; exact hp)]
      · rw [if_neg hk, if_neg hk]
theorem putM_mem (m : List (ByteArray × Value)) (k : ByteArray) (v : Value) (x : ByteArray) (h : x ∈ (putM m k v).map (·.1)) : x = k ∨ x ∈ m.map (·.1) := by
  induction m with
  | nil => simp [putM] at h; exact .inl h
  | cons p m ih =>
    unfold putM at h
    by_cases hp : p.1 = k
    · rw [if_pos hp] at h
      rcases List.mem_cons.1 h with h | h
      · exact .inl h
      · exact .inr (List.mem_cons_of_mem _ h)
    · rw [if_neg hp] at h
      rcases List.mem_cons.1 h with h | h
      · exact .inr (by rw [h]; exact List.mem_cons_self)
      · rcases ih h with h | h
        · exact .inl h
        · exact .inr (List.mem_cons_of_mem _ h)
theorem putM_keys (m : List (ByteArray × Value)) (k : ByteArray) (v : Value) (h : (m.map (·.1)).Nodup) : ((putM m k v).map (·.1)).Nodup := by
  induction m with
  | nil => simp [putM]
  | cons p m ih =>
    rw [List.map_cons, List.nodup_cons] at h
    unfold putM
    by_cases hp : p.1 = k
    · rw [if_pos hp, List.map_cons, List.nodup_cons]
      exact ⟨by rw [← hp]; exact h.1, h.2⟩
    · rw [if_neg hp, List.map_cons, List.nodup_cons]
      refine ⟨fun hm => ?_, ih h.2⟩
      rcases putM_mem m k v _ hm with h2 | h2
      · exact hp h2
      · exact h.1 h2
theorem putM_new (m : List (ByteArray × Value)) (k : ByteArray) (v : Value) (h : getM m k = none) : putM m k v = m ++ [(k, v)] := by
  induction m with
  | nil => rfl
  | cons p m ih =>
    unfold getM at h
    by_cases hp : p.1 = k
    · rw [if_pos hp] at h; cases h
    · rw [if_neg hp] at h
      unfold putM
      rw [if_neg hp, ih h]; rfl
theorem putM_at : ∀ (m : List (ByteArray × Value)) (k : ByteArray) (v v0 : Value) (j : Nat), m[j]? = some (k, v0) → (m.map (·.1)).Nodup → putM m k v = m.set j (k, v)
  | [], k, v, v0, j, h, _ => by simp at h
  | p :: m, k, v, v0, 0, h, _ => by
    simp at h; subst h
    simp [putM]
  | p :: m, k, v, v0, j + 1, h, hn => by
    rw [List.map_cons, List.nodup_cons] at hn
    have hj : m[j]? = some (k, v0) := by simpa using h
    have hp : p.1 ≠ k := fun e => hn.1 (by rw [e]; exact List.mem_map.2 ⟨(k, v0), List.mem_of_getElem? hj, rfl⟩)
    unfold putM
    rw [if_neg hp, putM_at m k v v0 j hj hn.2, List.set_cons_succ]
theorem findNow_str (k : ByteArray) : ∀ (es : List MapEntry) (m : List (ByteArray × Value)) (i : Nat), Ents es m →
    (getM m k = none ∧ Instr.findNow .string (.string k) es i = some none) ∨ ∃ j v e, getM m k = some v ∧ es[j]? = some e ∧ e.key = .string k ∧ e.val = v ∧ m[j]? = some (k, v) ∧ Instr.findNow .string (.string k) es i = some (some (i + j, v))
  | [], m, i, h => by
    cases m with
    | nil => exact .inl ⟨rfl, rfl⟩
    | cons p m => simp [Ents] at h
  | e :: es, [], i, h => by simp [Ents] at h
  | e :: es, p :: m, i, h => by
    simp only [Ents, List.map_cons, List.cons.injEq, Prod.mk.injEq] at h
    obtain ⟨⟨h1, h2⟩, h3⟩ := h
    unfold getM
    by_cases hk : p.1 = k
    · rw [if_pos hk]
      refine .inr ⟨0, p.2, e, rfl, rfl, by rw [h1, hk], h2, by rw [← hk]; rfl, ?_⟩
      simp [Instr.findNow, Instr.sameNow, h1, hk, h2, bqT]
    · rw [if_neg hk]
      have hf : Instr.findNow .string (.string k) (e :: es) i = Instr.findNow .string (.string k) es (i + 1) := by
        have : (k == p.1) = false := by rw [bqT, decide_eq_false_iff_not]; exact fun h => hk h.symm
        simp [Instr.findNow, Instr.sameNow, h1, this]
      rw [hf]
      rcases findNow_str k es m (i + 1) h3 with ⟨a, b⟩ | ⟨j, v, e', a1, a2, a3, a4, a5, a6⟩
      · exact .inl ⟨a, b⟩
      · exact .inr ⟨j + 1, v, e', a1, by simpa using a2, a3, a4, by simpa using a5, by rw [a6]; congr 3; omega⟩
section
variable {P : Program} {w : World} {b : Nat} {m : List (ByteArray × Value)} {t k e : TypeId}
theorem run_checkKey_str (hk : P.underlying k = some .string) (c : Bool) (s : ByteArray) : (Instr.checkKey c 10000 k (.string s)).run P w = .ok () w := by
  unfold Instr.checkKey
  simp [run_underlying hk]
theorem run_lookup_map (h : MapIs w b m) (ht : P.underlying t = some (.map k e)) (hk : P.underlying k = some .string) (s : ByteArray) (z : Value) (hz : (zeroValue e).run P w = .ok z w) (c : Bool) :
    (Instr.lookup t (.map (some b)) (.string s) c).run P w = .ok (if c then .tuple #[(getM m s).getD z, .bool (getM m s).isSome] else (getM m s).getD z) w := by
  obtain ⟨es, clock, hb, he, hn⟩ := h
  rcases findNow_str s es.toList m 0 he with ⟨a1, a2⟩ | ⟨j, v, e', a1, _, _, _, _, a2⟩
  · cases c <;> simp [Instr.lookup, run_underlying ht, MapKept.run_getObj_map hb, run_checkKey_str hk, Instr.findKey, run_underlying hk, a1, a2, hz, Result.andThen]
  · cases c <;> simp [Instr.lookup, run_underlying ht, MapKept.run_getObj_map hb, run_checkKey_str hk, Instr.findKey, run_underlying hk, a1, a2, Result.andThen]
theorem Ents.push {es : List MapEntry} (h : Ents es m) (s : ByteArray) (v : Value) (c : Nat) : Ents (es ++ [⟨.string s, v, c⟩]) (m ++ [(s, v)]) := by
  unfold Ents at h ⊢
  simp [h]
theorem run_update_map (h : MapIs w b m) (ht : P.underlying t = some (.map k e)) (hk : P.underlying k = some .string) (s : ByteArray) (v : Value) :
    ∃ w', (Instr.mapUpdate t (.map (some b)) (.string s) v).run P w = .ok () w' ∧ MapIs w' b (putM m s v) ∧ w.grownBy w' (some b) ∧ w'.heap.size = w.heap.size := by
  obtain ⟨es, clock, hb, he, hn⟩ := h
  have hg : ∀ o : Obj, w.grownBy (setBlock w b o) (some b) := fun o => ⟨rfl, rfl, rfl, by simp [setBlock], fun i _ hi => heap_setBlock_other hb _ (fun e => hi (by rw [e]))⟩
  rcases findNow_str s es.toList m 0 he with ⟨a1, a2⟩ | ⟨j, v0, e', a1, a3, a4, a5, a6, a2⟩
  · refine ⟨setBlock w b (.map (es.push ⟨.string s, v, clock⟩) (clock + 1)), ?_, ⟨_, _, heap_setBlock_same hb _, ?_, putM_keys m s v hn⟩, hg _, by simp [setBlock]⟩
    · simp [Instr.mapUpdate, run_underlying ht, MapKept.run_getObj_map hb, run_checkKey_str hk, Instr.findKey, run_underlying hk, a2, MapKept.run_setObj_map _ hb, Result.andThen, setBlock]
    · rw [putM_new m s v a1, Array.toList_push]
      exact he.push s v clock
  · have hj : es[j]? = some e' := by simpa using a3
    have hjl : j < es.size := (Array.getElem?_eq_some_iff.1 hj).1
    have hsb : (Instr.keyThatStays (.string s) (.string s)).run P w = .ok (.string s) w := by
      unfold Instr.keyThatStays
      rw [if_pos (by simp [Instr.sameBits, bqT])]
      rfl
    have hm : es.modify j (fun e => { e with key := .string s, val := v }) = es.setIfInBounds j { e' with key := .string s, val := v } := by
      apply Array.ext
      · simp
      · intro i h1 h2
        simp at h1
        rw [Array.getElem_modify, Array.getElem_setIfInBounds]
        by_cases hji : j = i
        · subst hji
          rw [if_pos rfl, if_pos rfl]
          have : es[j] = e' := by rw [Array.getElem?_eq_getElem hjl] at hj; injection hj
          rw [this]
        · rw [if_neg hji, if_neg hji]
    refine ⟨setBlock w b (.map (es.modify j fun e => { e with key := .string s, val := v }) clock), ?_, ⟨_, _, heap_setBlock_same hb _, ?_, putM_keys m s v hn⟩, hg _, by simp [setBlock]⟩
    · simp [Instr.mapUpdate, run_underlying ht, MapKept.run_getObj_map hb, run_checkKey_str hk, Instr.findKey, run_underlying hk, a2, hj, a4, hsb, MapKept.run_setObj_map _ hb, Result.andThen, setBlock]
    · rw [putM_at m s v v0 j a6 hn, hm, Array.toList_setIfInBounds]
      unfold Ents at he ⊢
      rw [List.map_set, List.map_set, he]
end
end Go.Proofs.YtoepchgoacdodaaDoor
