/-
  Plain laws of states: the order of names; rows that are in order have each name once.
-/
import Derived.Test.YtoepchgoacdodaaDoorStP
set_option linter.unusedVariables false
set_option linter.unusedSimpArgs false
namespace Go.Proofs.YtoepchgoacdodaaDoor
theorem bl_irrefl : ∀ a : List UInt8, Op.bytesLess a a = false
  | [] => rfl
  | x :: r => by
    simp only [Op.bytesLess, bl_irrefl r, Bool.and_false, Bool.or_false, decide_eq_false_iff_not]
    exact UInt8.lt_irrefl x
theorem bl_trans : ∀ a b c : List UInt8, Op.bytesLess a b = true → Op.bytesLess b c = true → Op.bytesLess a c = true
  | _, [], _, h, _ => by simp [Op.bytesLess] at h
  | _, _ :: _, [], _, h => by simp [Op.bytesLess] at h
  | [], _ :: _, _ :: _, _, _ => rfl
  | x :: a, y :: b, z :: c, h1, h2 => by
    simp only [Op.bytesLess, Bool.or_eq_true, decide_eq_true_eq, Bool.and_eq_true, beq_iff_eq] at h1 h2 ⊢
    rcases h1 with h1 | ⟨rfl, h1⟩
    · rcases h2 with h2 | ⟨rfl, h2⟩
      · exact .inl (UInt8.lt_trans h1 h2)
      · exact .inl h1
    · rcases h2 with h2 | ⟨rfl, h2⟩
      · exact .inl h2
      · exact .inr ⟨rfl, bl_trans a b c h1 h2⟩
theorem bl_total : ∀ a b : List UInt8, Op.bytesLess a b = true ∨ a = b ∨ Op.bytesLess b a = true
  | [], [] => .inr (.inl rfl)
  | [], _ :: _ => .inl rfl
  | _ :: _, [] => .inr (.inr rfl)
  | x :: a, y :: b => by
    simp only [Op.bytesLess, Bool.or_eq_true, decide_eq_true_eq, Bool.and_eq_true, beq_iff_eq, List.cons.injEq]
    rcases Nat.lt_trichotomy x.toNat y.toNat with h | h | h
    · exact .inl (.inl (UInt8.lt_iff_toNat_lt.2 h))
    · have h := UInt8.toNat_inj.1 h
      subst h
      rcases bl_total a b with h | h | h
      · exact .inl (.inr ⟨rfl, h⟩)
      · exact .inr (.inl ⟨rfl, h⟩)
      · exact .inr (.inr (.inr ⟨rfl, h⟩))
    · exact .inr (.inr (.inl (UInt8.lt_iff_toNat_lt.2 h)))
def ltS (a b : ByteArray) : Bool := Op.bytesLess a.toList b.toList
theorem ltS_irrefl (a : ByteArray) : ltS a a = false := bl_irrefl _
theorem ltS_trans {a b c : ByteArray} (h1 : ltS a b = true) (h2 : ltS b c = true) : ltS a c = true := bl_trans _ _ _ h1 h2
theorem toList_inj {a b : ByteArray} (h : a.toList = b.toList) : a = b := by
  rw [ByteArray.toList_eq, ByteArray.toList_eq] at h
  exact ByteArray.ext (Array.toList_inj.1 h)
theorem ltS_total (a b : ByteArray) : ltS a b = true ∨ a = b ∨ ltS b a = true := by
  rcases bl_total a.toList b.toList with h | h | h
  · exact .inl h
  · exact .inr (.inl (toList_inj h))
  · exact .inr (.inr h)
theorem leS_iff {a b : ByteArray} : leS a b = false ↔ ltS b a = true := by
  unfold leS
  rw [Bool.or_eq_false_iff]
  constructor
  · intro ⟨h1, h2⟩
    rcases ltS_total a b with h | h | h
    · unfold ltS at h; rw [h1] at h; cases h
    · rw [h] at h2; simp at h2
    · exact h
  · intro h
    refine ⟨?_, ?_⟩
    · cases h1 : Op.bytesLess a.toList b.toList
      · rfl
      · have := ltS_trans (a := a) (b := b) (c := a) h1 h
        rw [ltS_irrefl] at this; cases this
    · rw [beq_eq_false_iff_ne]
      intro h1
      have := toList_inj h1
      subst this
      rw [ltS_irrefl] at h; cases h
theorem ltS_ne {a b : ByteArray} (h : ltS a b = true) : a ≠ b := by rintro rfl; rw [ltS_irrefl] at h; cases h
/-- Each row as it should be, and in order. -/
def Sorted {α : Type} (key : α → ByteArray) (l : List α) : Prop := l.Pairwise fun x y => ltS (key x) (key y) = true
theorem rowsE_zero {α : Type} (key : α → ByteArray) (chk : α → Nat) : ∀ (l : List α) (p : Option α), rowsE key chk p l = 0 ↔ ((∀ x ∈ l, chk x = 0) ∧ Sorted key l ∧ ∀ y, p = some y → ∀ x ∈ l, ltS (key y) (key x) = true)
  | [], p => by simp [rowsE, Sorted]
  | x :: r, p => by
    have ih := rowsE_zero key chk r (some x)
    have hb : badOrd key p x = false ↔ ∀ y, p = some y → ltS (key y) (key x) = true := by
      cases p with
      | none => simp [badOrd]
      | some y => simp only [badOrd, leS_iff, Option.some.injEq, forall_eq']
    unfold rowsE
    by_cases hc : chk x = 0
    · rw [if_neg (by simp [hc])]
      cases ho : badOrd key p x
      · rw [if_neg (by simp), ih]
        have hb' := hb.1 ho
        constructor
        · intro ⟨h1, h2, h3⟩
          refine ⟨?_, ?_, ?_⟩
          · intro z hz
            rcases List.mem_cons.1 hz with rfl | hz
            · exact hc
            · exact h1 z hz
          · exact List.pairwise_cons.2 ⟨fun z hz => h3 x rfl z hz, h2⟩
          · intro y hy z hz
            rcases List.mem_cons.1 hz with rfl | hz
            · exact hb' y hy
            · exact ltS_trans (hb' y hy) (h3 x rfl z hz)
        · intro ⟨h1, h2, h3⟩
          obtain ⟨h4, h5⟩ := List.pairwise_cons.1 h2
          exact ⟨fun z hz => h1 z (List.mem_cons_of_mem _ hz), h5, fun y hy z hz => by injection hy with hy; subst hy; exact h4 z hz⟩
      · rw [if_pos rfl]
        constructor
        · intro h; cases h
        · intro ⟨_, _, h3⟩
          have := hb.2 (fun y hy => h3 y hy x List.mem_cons_self)
          rw [ho] at this; cases this
    · rw [if_pos hc]
      constructor
      · intro h; exact absurd h hc
      · intro ⟨h1, _⟩; exact absurd (h1 x List.mem_cons_self) hc
theorem rowsE_ok {α : Type} {key : α → ByteArray} {chk : α → Nat} {l : List α} : rowsE key chk none l = 0 ↔ (∀ x ∈ l, chk x = 0) ∧ Sorted key l := by
  rw [rowsE_zero]
  simp
theorem jobAt_none {l : List JobD} {nm : ByteArray} (h : ∀ x ∈ l, x.name ≠ nm) : jobAt l nm = none := by
  unfold jobAt
  rw [List.find?_eq_none]
  intro x hx
  simpa using h x hx
theorem nodeAt_none {l : List NodeD} {nm : ByteArray} (h : ∀ x ∈ l, x.name ≠ nm) : nodeAt l nm = none := by
  unfold nodeAt
  rw [List.find?_eq_none]
  intro x hx
  simpa using h x hx
theorem sorted_before {α : Type} {key : α → ByteArray} {l : List α} (h : Sorted key l) {k : Nat} {x : α} (hx : l[k]? = some x) : ∀ y ∈ l.take k, key y ≠ key x := by
  intro y hy
  obtain ⟨i, hi, rfl⟩ := List.mem_iff_getElem.1 hy
  rw [List.length_take] at hi
  obtain ⟨hk, rfl⟩ := List.getElem?_eq_some_iff.1 hx
  rw [List.getElem_take]
  exact ltS_ne (List.pairwise_iff_getElem.1 h i k (by omega) hk (by omega))
theorem jobE_need {j : JobD} (h : jobE j = 0) : 0 ≤ j.need ∧ j.need ≤ 1000000 := by
  unfold jobE at h
  split at h
  · split at h
    · rename_i h2
      simp only [Bool.and_eq_true, withinB_iff] at h2
      exact h2.1.2
    · cases h
  · cases h
theorem needOf_bd {jobs : List JobD} (h : ∀ j ∈ jobs, jobE j = 0) (nm : ByteArray) : 0 ≤ needOf jobs nm ∧ needOf jobs nm ≤ 1000000 := by
  unfold needOf
  cases hj : jobAt jobs nm with
  | none => simp
  | some j => exact jobE_need (h j (List.mem_of_find?_eq_some hj))
end Go.Proofs.YtoepchgoacdodaaDoor
