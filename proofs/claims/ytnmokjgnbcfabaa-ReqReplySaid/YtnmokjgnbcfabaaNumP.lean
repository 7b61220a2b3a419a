/-
  Plain: readers of bytes, of numbers alone. No program.
-/
import Derived.Test.YtnmokjgnbcfabaaPrimL
set_option linter.unusedVariables false
set_option linter.unusedSimpArgs false
namespace Go.Proofs.Ytnmokjgnbcfabaa
inductive Res (α : Type) where
  | ok (a : α) (rest : List UInt8)
  | bad (e : Nat)
def Res.bind {α β : Type} : Res α → (α → List UInt8 → Res β) → Res β
  | .ok a r, f => f a r
  | .bad e, _ => .bad e
/-- p reads what enc tells, of D; nothing else; and never a part of it. -/
structure PP {α : Type} (p : List UInt8 → Res α) (enc : α → List UInt8) (D : α → Prop) : Prop where
  fwd : ∀ a more, D a → p (enc a ++ more) = .ok a more
  bwd : ∀ l a rest, p l = .ok a rest → D a ∧ l = enc a ++ rest
  cut : ∀ a k, D a → k < (enc a).length → p ((enc a).take k) = .bad 3
  err : ∀ l e, p l = .bad e → e ≠ 0
def pSeq {α β : Type} (p : List UInt8 → Res α) (q : α → List UInt8 → Res β) (l : List UInt8) : Res (α × β) :=
  (p l).bind fun a r => (q a r).bind fun b r' => .ok (a, b) r'
theorem PP.seq {α β : Type} {p : List UInt8 → Res α} {enc : α → List UInt8} {D : α → Prop} {q : α → List UInt8 → Res β} {enc' : α → β → List UInt8} {D' : α → β → Prop}
    (hp : PP p enc D) (hq : ∀ a, D a → PP (q a) (enc' a) (D' a)) : PP (pSeq p q) (fun x => enc x.1 ++ enc' x.1 x.2) (fun x => D x.1 ∧ D' x.1 x.2) where
  fwd := fun ⟨a, b⟩ more ⟨h1, h2⟩ => by
    unfold pSeq
    rw [List.append_assoc, hp.fwd a _ h1]
    show ((q a _).bind _) = _
    rw [(hq a h1).fwd b more h2]; rfl
  bwd := fun l ⟨a, b⟩ rest h => by
    unfold pSeq at h
    cases h1 : p l with
    | bad e => rw [h1] at h; cases h
    | ok a' r =>
      rw [h1] at h
      obtain ⟨g1, g2⟩ := hp.bwd _ _ _ h1
      change ((q a' r).bind _) = _ at h
      cases h2 : q a' r with
      | bad e => rw [h2] at h; cases h
      | ok b' r' =>
        rw [h2] at h
        obtain ⟨g3, g4⟩ := (hq a' g1).bwd _ _ _ h2
        change Res.ok (a', b') r' = _ at h
        injection h with h3 h4
        injection h3 with h5 h6
        subst h5 h6 h4
        exact ⟨⟨g1, g3⟩, by rw [g2, g4, List.append_assoc]⟩
  cut := fun ⟨a, b⟩ k ⟨h1, h2⟩ hk => by
    unfold pSeq
    simp only [] at hk ⊢
    rw [List.length_append] at hk
    by_cases hlt : k < (enc a).length
    · rw [List.take_append_of_le_length (by omega), hp.cut a k h1 hlt]; rfl
    · rw [List.take_append, List.take_of_length_le (by omega), hp.fwd a _ h1]
      show ((q a _).bind _) = _
      rw [(hq a h1).cut b _ h2 (by omega)]; rfl
  err := fun l e h => by
    unfold pSeq at h
    cases h1 : p l with
    | bad e' => rw [h1] at h; injection h with h; subst h; exact hp.err _ _ h1
    | ok a' r =>
      rw [h1] at h
      obtain ⟨g1, g2⟩ := hp.bwd _ _ _ h1
      change ((q a' r).bind _) = _ at h
      cases h2 : q a' r with
      | bad e' => rw [h2] at h; injection h with h; subst h; exact (hq a' g1).err _ _ h2
      | ok b' r' => rw [h2] at h; cases h
def pMap {α β : Type} (f : α → β) (p : List UInt8 → Res α) (l : List UInt8) : Res β := (p l).bind fun a r => .ok (f a) r
theorem PP.map {α β : Type} {p : List UInt8 → Res α} {enc : α → List UInt8} {D : α → Prop} (f : α → β) (g : β → α) {enc' : β → List UInt8} {D' : β → Prop} (hp : PP p enc D)
    (h1 : ∀ a, D a → D' (f a) ∧ g (f a) = a) (h2 : ∀ b, D' b → D (g b) ∧ f (g b) = b) (h3 : ∀ b, D' b → enc' b = enc (g b)) : PP (pMap f p) enc' D' where
  fwd := fun b more hb => by
    unfold pMap
    rw [h3 b hb, hp.fwd _ more (h2 b hb).1]
    show Res.ok (f (g b)) more = _
    rw [(h2 b hb).2]
  bwd := fun l b rest h => by
    unfold pMap at h
    cases h4 : p l with
    | bad e => rw [h4] at h; cases h
    | ok a r =>
      rw [h4] at h
      obtain ⟨g1, g2⟩ := hp.bwd _ _ _ h4
      change Res.ok (f a) r = _ at h
      injection h with h5 h6
      subst h5 h6
      exact ⟨(h1 a g1).1, by rw [h3 _ (h1 a g1).1, (h1 a g1).2]; exact g2⟩
  cut := fun b k hb hk => by
    unfold pMap
    rw [h3 b hb] at hk ⊢
    rw [hp.cut _ k (h2 b hb).1 hk]; rfl
  err := fun l e h => by
    unfold pMap at h
    cases h4 : p l with
    | bad e' => rw [h4] at h; injection h with h; subst h; exact hp.err _ _ h4
    | ok a r => rw [h4] at h; cases h
/-- Nothing is read. -/
def pUnit {α : Type} (a : α) (l : List UInt8) : Res α := .ok a l
theorem PP.unit {α : Type} (a : α) : PP (pUnit a) (fun _ => []) (fun x => x = a) where
  fwd := fun x more h => by subst h; rfl
  bwd := fun l x rest h => by unfold pUnit at h; injection h with h1 h2; subst h1 h2; exact ⟨rfl, rfl⟩
  cut := fun x k _ hk => by simp at hk
  err := fun l e h => by cases h
/-- So many, one behind the other. -/
def pRep {α : Type} (p : List UInt8 → Res α) : Nat → List UInt8 → Res (List α)
  | 0, l => .ok [] l
  | n + 1, l => (p l).bind fun a r => (pRep p n r).bind fun xs r' => .ok (a :: xs) r'
theorem PP.rep {α : Type} {p : List UInt8 → Res α} {enc : α → List UInt8} {D : α → Prop} (hp : PP p enc D) : ∀ n : Nat, PP (pRep p n) (fun l => l.flatMap enc) (fun l => l.length = n ∧ ∀ x ∈ l, D x)
  | 0 => {
    fwd := fun l more ⟨h, _⟩ => by
      obtain rfl := List.eq_nil_of_length_eq_zero h
      rfl
    bwd := fun l a rest h => by unfold pRep at h; injection h with h1 h2; subst h1 h2; exact ⟨⟨rfl, by simp⟩, rfl⟩
    cut := fun l k ⟨h, _⟩ hk => by
      obtain rfl := List.eq_nil_of_length_eq_zero h
      simp at hk
    err := fun l e h => by cases h }
  | n + 1 => by
    have ih := PP.rep hp n
    refine ⟨fun l more ⟨h, hd⟩ => ?_, fun l a rest h => ?_, fun l k ⟨h, hd⟩ hk => ?_, fun l e h => ?_⟩
    · match l, h with
      | x :: r, h =>
        unfold pRep
        rw [List.flatMap_cons, List.append_assoc, hp.fwd x _ (hd x List.mem_cons_self)]
        show ((pRep p n _).bind _) = _
        rw [ih.fwd r more ⟨by simpa using h, fun y hy => hd y (List.mem_cons_of_mem _ hy)⟩]; rfl
    · unfold pRep at h
      cases h1 : p l with
      | bad e => rw [h1] at h; cases h
      | ok x r =>
        rw [h1] at h
        obtain ⟨g1, g2⟩ := hp.bwd _ _ _ h1
        change ((pRep p n r).bind _) = _ at h
        cases h2 : pRep p n r with
        | bad e => rw [h2] at h; cases h
        | ok xs r' =>
          rw [h2] at h
          obtain ⟨⟨g3, g4⟩, g5⟩ := ih.bwd _ _ _ h2
          change Res.ok (x :: xs) r' = _ at h
          injection h with h3 h4
          subst h3 h4
          refine ⟨⟨by simp [g3], fun y hy => ?_⟩, by rw [List.flatMap_cons, List.append_assoc, ← g5]; exact g2⟩
          rcases List.mem_cons.1 hy with rfl | hy
          · exact g1
          · exact g4 y hy
    · match l, h with
      | x :: r, h =>
        have hx := hd x List.mem_cons_self
        unfold pRep
        rw [List.flatMap_cons] at hk ⊢
        rw [List.length_append] at hk
        by_cases hlt : k < (enc x).length
        · rw [List.take_append_of_le_length (by omega), hp.cut x k hx hlt]; rfl
        · rw [List.take_append, List.take_of_length_le (by omega), hp.fwd x _ hx]
          show ((pRep p n _).bind _) = _
          rw [ih.cut r _ ⟨by simpa using h, fun y hy => hd y (List.mem_cons_of_mem _ hy)⟩ (by omega)]; rfl
    · unfold pRep at h
      cases h1 : p l with
      | bad e' => rw [h1] at h; injection h with h; subst h; exact hp.err _ _ h1
      | ok x r =>
        rw [h1] at h
        change ((pRep p n r).bind _) = _ at h
        cases h2 : pRep p n r with
        | bad e' => rw [h2] at h; injection h with h; subst h; exact ih.err _ _ h2
        | ok xs r' => rw [h2] at h; cases h
/-- A number. -/
def pNum (l : List UInt8) : Res Nat := if (rd l).2.2 = 0 then (if 4611686018427387904 < (rd l).1 then .bad 2 else .ok (rd l).1 (l.drop (rd l).2.1)) else .bad (rd l).2.2
theorem pNum_PP : PP pNum putN (fun n => n ≤ 4611686018427387904) where
  fwd := fun n more h => by
    unfold pNum
    rw [rd_put n more (by omega)]
    simp only []
    rw [if_pos trivial, if_neg (by omega), List.drop_left]
  bwd := fun l n rest h => by
    unfold pNum at h
    by_cases h0 : (rd l).2.2 = 0
    · obtain ⟨m, k, hr, hp, hk1, hk10, hkl, hn, _⟩ := rd_ok l h0
      rw [hr] at h
      simp only [] at h
      rw [if_pos trivial] at h
      by_cases h2 : 4611686018427387904 < m
      · rw [if_pos h2] at h; cases h
      · rw [if_neg h2] at h
        injection h with h3 h4
        subst h3 h4
        exact ⟨by omega, by rw [hp, List.take_append_drop]⟩
    · rw [if_neg h0] at h; cases h
  cut := fun n k h hk => by
    unfold pNum
    obtain ⟨m, j, hr, _, _, _, _, _, h7⟩ := rd_ok (putN n) (by have := rd_put n [] (by omega); rw [List.append_nil] at this; rw [this])
    have := rd_put n [] (by omega)
    rw [List.append_nil] at this
    rw [this] at hr
    have hj : j = (putN n).length := by simp at hr; omega
    rw [h7 k (by omega)]
    rfl
  err := fun l e h => by
    unfold pNum at h
    by_cases h0 : (rd l).2.2 = 0
    · rw [if_pos h0] at h
      split at h
      · injection h with h; omega
      · cases h
    · rw [if_neg h0] at h; injection h with h; subst h; exact h0
def okNb (n : Int) : Prop := 0 ≤ n ∧ n ≤ 4611686018427387904
def pInt (l : List UInt8) : Res Int := pMap (fun n : Nat => (n : Int)) pNum l
theorem pInt_PP : PP pInt (fun n => putN n.toNat) okNb :=
  pNum_PP.map (fun n : Nat => (n : Int)) (fun n => n.toNat) (fun n h => ⟨⟨by omega, by omega⟩, by omega⟩) (fun n h => ⟨by have := h.2; omega, by have := h.1; omega⟩) (fun _ _ => rfl)
def pOpt {α : Type} (c : Bool) (p : List UInt8 → Res α) (a : α) (l : List UInt8) : Res α := if c = true then p l else pUnit a l
theorem PP.opt {α : Type} (c : Bool) {p : List UInt8 → Res α} {enc : α → List UInt8} {D : α → Prop} (a : α) (hp : PP p enc D) :
    PP (pOpt c p a) (fun x => if c = true then enc x else []) (fun x => if c = true then D x else x = a) := by
  cases c
  · exact ⟨(PP.unit a).fwd, (PP.unit a).bwd, (PP.unit a).cut, (PP.unit a).err⟩
  · exact ⟨hp.fwd, hp.bwd, hp.cut, hp.err⟩
end Go.Proofs.Ytnmokjgnbcfabaa
