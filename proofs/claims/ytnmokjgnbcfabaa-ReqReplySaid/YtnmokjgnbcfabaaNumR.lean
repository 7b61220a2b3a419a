/-
  Contracts of wire.Reader: numbers and the end alone.
-/
import Derived.Test.YtnmokjgnbcfabaaNumP
import Derived.Test.YtnmokjgnbcfabaaPrimW
import Derived.Test.YtnmokjgnbcfabaaBase
import Derived.Test.YtnmokjgnbcfabaaRows0
import Derived.Test.YtnmokjgnbcfabaaBstr
import Derived.Lib.Hide
set_option linter.unusedVariables false
set_option linter.unusedSimpArgs false
namespace Go.Proofs.Ytnmokjgnbcfabaa
open Go.RowKit
/-- From l, where the error is x, a reading by p came to a, left l', and the error is y. -/
def Step {α : Type} (p : List UInt8 → Res α) (l : List UInt8) (x : Nat) (a : α) (l' : List UInt8) (y : Nat) : Prop :=
  l'.length ≤ l.length ∧ (x ≠ 0 → y = x) ∧ (x = 0 → (∀ b r, p l = .ok b r → a = b ∧ l' = r ∧ y = 0) ∧ ∀ z, p l = .bad z → y = z)
theorem Step.stay {α : Type} {p : List UInt8 → Res α} {l : List UInt8} {x : Nat} {a : α} (hx : x ≠ 0) : Step p l x a l x := ⟨Nat.le_refl _, fun _ => rfl, fun h => absurd h hx⟩
theorem Step.stays {α : Type} {p : List UInt8 → Res α} {l l' : List UInt8} {x y : Nat} {a a' : α} (h : Step p l x a l' y) (hp : ∀ l e, p l = .bad e → e ≠ 0) (hy : y ≠ 0) : Step p l x a' l' y := by
  refine ⟨h.1, h.2.1, fun hx => ⟨fun b r hb => ?_, (h.2.2 hx).2⟩⟩
  exact absurd (((h.2.2 hx).1 b r hb).2.2) hy
theorem Step.unit {α : Type} (a : α) (l : List UInt8) (x : Nat) : Step (pUnit a) l x a l x :=
  ⟨Nat.le_refl _, fun _ => rfl, fun hx => ⟨fun b r hb => by unfold pUnit at hb; injection hb with h1 h2; exact ⟨h1, h2, hx⟩, fun z hz => by cases hz⟩⟩
theorem Step.map {α β : Type} {p : List UInt8 → Res α} {l l' : List UInt8} {x y : Nat} {a : α} (f : α → β) (h : Step p l x a l' y) : Step (pMap f p) l x (f a) l' y := by
  refine ⟨h.1, h.2.1, fun hx => ⟨fun b r hb => ?_, fun z hz => ?_⟩⟩
  · unfold pMap at hb
    cases h1 : p l with
    | bad e => rw [h1] at hb; cases hb
    | ok a' r' =>
      rw [h1] at hb
      obtain ⟨rfl, rfl, h4⟩ := (h.2.2 hx).1 _ _ h1
      change Res.ok (f a) l' = _ at hb
      injection hb with h5 h6
      exact ⟨h5, h6, h4⟩
  · unfold pMap at hz
    cases h1 : p l with
    | bad e => rw [h1] at hz; injection hz with hz; subst hz; exact (h.2.2 hx).2 _ h1
    | ok a' r' => rw [h1] at hz; cases hz
theorem Step.seq {α β : Type} {p : List UInt8 → Res α} {q : α → List UInt8 → Res β} {l l1 l2 : List UInt8} {x y1 y2 : Nat} {a : α} {b : β}
    (h : Step p l x a l1 y1) (h' : Step (q a) l1 y1 b l2 y2) (hp : ∀ l e, p l = .bad e → e ≠ 0) : Step (pSeq p q) l x (a, b) l2 y2 := by
  refine ⟨Nat.le_trans h'.1 h.1, fun hx => ?_, fun hx => ⟨fun c r hc => ?_, fun z hz => ?_⟩⟩
  · have h1 := h.2.1 hx
    rw [h'.2.1 (by omega), h1]
  · unfold pSeq at hc
    cases h1 : p l with
    | bad e => rw [h1] at hc; cases hc
    | ok a' r' =>
      rw [h1] at hc
      obtain ⟨rfl, rfl, h4⟩ := (h.2.2 hx).1 _ _ h1
      change ((q a l1).bind _) = _ at hc
      cases h2 : q a l1 with
      | bad e => rw [h2] at hc; cases hc
      | ok b' r'' =>
        rw [h2] at hc
        obtain ⟨rfl, rfl, h5⟩ := (h'.2.2 h4).1 _ _ h2
        change Res.ok (a, b) l2 = _ at hc
        injection hc with h6 h7
        exact ⟨h6, h7, h5⟩
  · unfold pSeq at hz
    cases h1 : p l with
    | bad e =>
      rw [h1] at hz
      injection hz with hz
      subst hz
      have h2 := (h.2.2 hx).2 _ h1
      have h3 := hp _ _ h1
      rw [h'.2.1 (by omega), h2]
    | ok a' r' =>
      rw [h1] at hz
      obtain ⟨rfl, rfl, h4⟩ := (h.2.2 hx).1 _ _ h1
      change ((q a l1).bind _) = _ at hz
      cases h2 : q a l1 with
      | bad e => rw [h2] at hz; injection hz with hz; subst hz; exact (h'.2.2 h4).2 _ h2
      | ok b' r'' => rw [h2] at hz; cases hz
theorem Step.opt {α : Type} {p : List UInt8 → Res α} {l l' : List UInt8} {x y : Nat} {a d : α} {c : Bool} (h1 : c = true → Step p l x a l' y) (h2 : c = false → a = d ∧ l' = l ∧ y = x) : Step (pOpt c p d) l x a l' y := by
  unfold pOpt
  cases c with
  | true => simpa using h1 rfl
  | false =>
    obtain ⟨rfl, rfl, rfl⟩ := h2 rfl
    simpa using Step.unit a l' y
theorem pRep_snoc {α : Type} (p : List UInt8 → Res α) : ∀ (n : Nat) (l : List UInt8), pRep p (n + 1) l = (pRep p n l).bind fun xs r => (p r).bind fun a r' => .ok (xs ++ [a]) r'
  | 0, l => by
    show ((p l).bind fun a r => (Res.ok [] r).bind fun xs r' => .ok (a :: xs) r') = ((p l).bind fun a r' => .ok ([] ++ [a]) r')
    cases p l <;> rfl
  | n + 1, l => by
    have ih := pRep_snoc p n
    show ((p l).bind fun a r => (pRep p (n + 1) r).bind fun xs r' => .ok (a :: xs) r') = (((p l).bind fun a r => (pRep p n r).bind fun xs r' => .ok (a :: xs) r').bind _)
    cases p l with
    | bad e => rfl
    | ok a r =>
      show ((pRep p (n + 1) r).bind _) = (((pRep p n r).bind fun xs r' => .ok (a :: xs) r').bind _)
      rw [ih r]
      cases pRep p n r with
      | bad e => rfl
      | ok xs r' =>
        show (((p r').bind fun a r' => .ok (xs ++ [a]) r').bind _) = ((p r').bind _)
        cases p r' <;> rfl
theorem Step.snoc {α : Type} {p : List UInt8 → Res α} {n : Nat} {l l1 l2 : List UInt8} {x y1 y2 : Nat} {xs : List α} {b : α}
    (h : Step (pRep p n) l x xs l1 y1) (h' : Step p l1 y1 b l2 y2) (hp : ∀ l e, pRep p n l = .bad e → e ≠ 0) : Step (pRep p (n + 1)) l x (xs ++ [b]) l2 y2 := by
  have h1 := Step.map (fun z : List α × α => z.1 ++ [z.2]) (Step.seq (q := fun _ => p) h h' hp)
  have h2 : pMap (fun z : List α × α => z.1 ++ [z.2]) (pSeq (pRep p n) fun _ => p) = pRep p (n + 1) := by
    funext l
    rw [pRep_snoc]
    unfold pMap pSeq
    cases pRep p n l with
    | bad e => rfl
    | ok xs r =>
      show (((p r).bind _).bind _) = ((p r).bind _)
      cases p r <;> rfl
  rwa [h2] at h1
/-- The reader in block g: what is left, its error. -/
def Rd (w : World) (g : Nat) (l : List UInt8) (e : Nat) : Prop := Blk w g 60 #[.string (bstr l), .int .i64 (e : Int)]
/-- What a reading leaves. -/
def RdP {α : Type} (val : α → Value) (p : List UInt8 → Res α) (w : World) (g : Nat) (l : List UInt8) (x : Nat) (e : Ending) (w' : World) : Prop :=
  w.grownBy w' (some g) ∧ ∃ a l' y, e = .returned (val a) ∧ Rd w' g l' y ∧ Step p l x a l' y
theorem grow_set (w : World) (g i : Nat) (u : Value) : w.grownBy (w.setCell ⟨g, i, none⟩ u) (some g) :=
  ⟨rfl, rfl, rfl, by simp, fun k hk hk2 => Below.heap_setCell w ⟨g, i, none⟩ u k (by intro h0; exact hk2 (by rw [h0]))⟩
theorem grow_refl (w : World) (r : Option Nat) : w.grownBy w r := ⟨rfl, rfl, rfl, Nat.le_refl _, fun k hk _ => rfl⟩
theorem grow_below {a b : World} (h : Below a.heap.size a b) (r : Option Nat) : a.grownBy b r := ⟨h.os, h.tape, h.output, h.size, fun k hk _ => h.block k hk⟩
theorem grow_trans {a b c : World} {r : Option Nat} (h1 : a.grownBy b r) (h2 : b.grownBy c r) : a.grownBy c r :=
  ⟨h2.os.trans h1.os, h2.tape.trans h1.tape, h2.output.trans h1.output, Nat.le_trans h1.size h2.size, fun k hk hne => (h2.block k (Nat.lt_of_lt_of_le hk h1.size) hne).trans (h1.block k hk hne)⟩
set_option maxHeartbeats 1000000 in
set_option maxRecDepth 100000 in
theorem rFail_any (g x z : Nat) (l : List UInt8) (w : World) (hR : Rd w g l x) :
    Calls Try.prog 22 #[.pointer (some ⟨g, 0, none⟩), .int .i64 (z : Int)] w fun e w' => e = .returned (.tuple #[]) ∧ w.grownBy w' (some g) ∧ Rd w' g l (if x = 0 then z else x) := by
  have c1 : w.cell? ⟨g, 1, none⟩ = some (.int .i64 (x : Int)) := hR.cell 1
  have f1 := hR.frozen 1
  by_cases hx : x = 0
  · subst hx
    have hb : (((0 : Nat) : Int) == 0) = true := rfl
    go_enter Try.func22, Try.ntmps22
    go_wp2
    go_end0
    exact ⟨rfl, grow_set _ _ _ _, hR.set_ 1 _⟩
  · have hb : ((x : Int) == 0) = false := by rw [beq_eq_false_iff_ne]; omega
    go_enter Try.func22, Try.ntmps22
    go_wp2
    go_end0
    exact ⟨rfl, grow_refl _ _, hR⟩
theorem bstr_drop {l : List UInt8} {s : ByteArray} (h : bstr l = s) (k : Nat) : s.extract k s.size = bstr (l.drop k) := by
  subst h
  rw [← bstr_self ((bstr l).extract k (bstr l).size), extract_list, bstr_list, bstr_size, List.take_of_length_le (by rw [List.length_drop]; omega)]
set_option maxHeartbeats 2000000 in
set_option maxRecDepth 100000 in
theorem rnumber_any (g x : Nat) (l : List UInt8) (w : World) (hR : Rd w g l x) :
    Calls Try.prog 21 #[.pointer (some ⟨g, 0, none⟩)] w fun e w' => w.grownBy w' (some g) ∧ ∃ (n : Nat) (l' : List UInt8) (y : Nat), e = .returned (.int .u64 (n : Int)) ∧ Rd w' g l' y ∧ Step pNum l x n l' y ∧ (y ≠ 0 → n = 0) ∧ n ≤ 4611686018427387904 := by
  have c0 : w.cell? ⟨g, 0, none⟩ = some (.string (bstr l)) := hR.cell 0
  have c1 : w.cell? ⟨g, 1, none⟩ = some (.int .i64 (x : Int)) := hR.cell 1
  have f0 := hR.frozen 0
  have HR := Lib.hid hR
  by_cases hx : x = 0
  · subst hx
    have hb : (((0 : Nat) : Int) != 0) = false := rfl
    have HN := Lib.hid (fun w => readNumber_any (bstr l) w)
    rw [bstr_list] at HN
    have hF := fun z => rFail_any g 0 z l w hR
    have HF := Lib.hid hF
    clear hF hR
    by_cases h0 : (rd l).2.2 = 0
    · obtain ⟨n, k, hr, _, hk1, hk10, hkl, hn, _⟩ := rd_ok _ h0
      rw [hr] at HN
      by_cases hm : 4611686018427387904 < n
      · have hP : pNum l = .bad 2 := by unfold pNum; rw [hr]; simp only []; rw [if_pos trivial, if_pos hm]
        have HP := Lib.hid hP
        clear hP
        go_enter Try.func21, Try.ntmps21
        go_wp2_with fail
        refine (HN.out _).mono ?_
        rintro e w1 ⟨rfl, rfl⟩
        go_wp2_with fail
        refine (HF.out 2).mono ?_
        rintro e w1 ⟨rfl, hg, h1⟩
        go_wp2_with fail
        go_ret
        refine ⟨hg, 0, l, 2, rfl, h1, ⟨Nat.le_refl _, fun h => absurd rfl h, fun _ => ⟨fun b r hbr => ?_, fun z hz => ?_⟩⟩, fun _ => rfl, by omega⟩
        · rw [HP.out] at hbr; cases hbr
        · rw [HP.out] at hz; injection hz
      · have hP : pNum l = .ok n (l.drop k) := by unfold pNum; rw [hr]; simp only []; rw [if_pos trivial, if_neg hm]
        have HP := Lib.hid hP
        have hsz : (bstr l).size = l.length := bstr_size l
        generalize hs : bstr l = s at *
        have HS := Lib.hid hs
        have hks : k ≤ s.size := by omega
        clear hP hs
        go_enter Try.func21, Try.ntmps21
        go_wp2_with fail
        refine (HN.out _).mono ?_
        rintro e w1 ⟨rfl, rfl⟩
        go_wp2_with fail
        go_ret
        refine ⟨grow_set _ _ _ _, n, l.drop k, 0, rfl, ?_, ⟨by simp, fun h => absurd rfl h, fun _ => ⟨fun b r hbr => ?_, fun z hz => ?_⟩⟩, fun h => absurd rfl h, by omega⟩
        · unfold Rd
          rw [← bstr_drop HS.out k, show s.size = l.length from by rw [← HS.out, bstr_size]]
          exact HR.out.set_ 0 _
        · rw [HP.out] at hbr; injection hbr with h1 h2; exact ⟨h1, h2, rfl⟩
        · rw [HP.out] at hz; cases hz
    · rcases rd_err l h0 with hr | hr
      all_goals (
        have hP : pNum l = .bad (rd l).2.2 := by unfold pNum; rw [if_neg h0]
        rw [hr] at hP HN
        have HP := Lib.hid hP
        clear hP h0
        go_enter Try.func21, Try.ntmps21
        go_wp2_with fail
        refine (HN.out _).mono ?_
        rintro e w1 ⟨rfl, rfl⟩
        go_wp2_with fail
        refine (HF.out _).mono ?_
        rintro e w1 ⟨rfl, hg, h1⟩
        go_wp2_with fail
        go_ret
        refine ⟨hg, 0, l, _, rfl, h1, ⟨Nat.le_refl _, fun h => absurd rfl h, fun _ => ⟨fun b r hbr => ?_, fun z hz => ?_⟩⟩, fun _ => rfl, by omega⟩
        · rw [HP.out] at hbr; cases hbr
        · rw [HP.out] at hz; injection hz)
  · have hb : ((x : Int) != 0) = true := by rw [bne_iff_ne]; omega
    go_enter Try.func21, Try.ntmps21
    go_wp2_with fail
    go_ret
    exact ⟨grow_refl _ _, 0, l, x, rfl, HR.out, .stay hx, fun _ => rfl, by omega⟩
set_option maxHeartbeats 1000000 in
set_option maxRecDepth 100000 in
theorem rNumber_any (g x : Nat) (l : List UInt8) (w : World) (hR : Rd w g l x) :
    Calls Try.prog 17 #[.pointer (some ⟨g, 0, none⟩)] w fun e w' => w.grownBy w' (some g) ∧ ∃ (n : Nat) (l' : List UInt8) (y : Nat), e = .returned (.int .i64 (n : Int)) ∧ Rd w' g l' y ∧ Step pInt l x (n : Int) l' y ∧ Step pNum l x n l' y ∧ (y ≠ 0 → n = 0) ∧ n ≤ 4611686018427387904 := by
  have H := Lib.hid (rnumber_any g x l w hR)
  go_enter Try.func17, Try.ntmps17
  go_wp2_with fail
  refine H.out.mono ?_
  rintro e w1 ⟨hg, n, l', y, rfl, hR1, hS, hy, hn⟩
  have hw : IntKind.i64.wrap (n : Int) = (n : Int) := IntWalk.i64_in _ (by omega)
  have HH := Lib.hid (show Rd w1 g l' y ∧ Step pInt l x (n : Int) l' y ∧ Step pNum l x n l' y ∧ (y ≠ 0 → n = 0) ∧ n ≤ 4611686018427387904 from ⟨hR1, hS.map _, hS, hy, hn⟩)
  clear hR1 hS hy hn
  go_wp2_with fail
  go_ret
  exact ⟨hg, n, l', y, rfl, HH.out⟩
/-- What End answers. -/
def endE (x : Nat) (l : List UInt8) : Nat := if x ≠ 0 then x else if l = [] then 0 else 4
set_option maxHeartbeats 1000000 in
set_option maxRecDepth 100000 in
theorem rEnd_any (g x : Nat) (l : List UInt8) (w : World) (hR : Rd w g l x) :
    Calls Try.prog 18 #[.pointer (some ⟨g, 0, none⟩)] w fun e w' => w.grownBy w' (some g) ∧ e = .returned (.int .i64 (endE x l : Int)) := by
  have c0 : w.cell? ⟨g, 0, none⟩ = some (.string (bstr l)) := hR.cell 0
  have c1 : w.cell? ⟨g, 1, none⟩ = some (.int .i64 (x : Int)) := hR.cell 1
  have f0 := hR.frozen 0
  by_cases hl : l = []
  · subst hl
    have e0 : (bstr []).toList.isEmpty = true := by rw [ByteArray.toList_eq, bstr_list]; rfl
    have HX := Lib.hid (show x = endE x [] from by unfold endE; split <;> simp_all)
    go_enter Try.func18, Try.ntmps18
    go_wp2_with fail
    go_ret
    exact ⟨grow_refl _ _, by rw [← HX.out]; rfl⟩
  · have e0 : (bstr l).toList.isEmpty = false := by
      rw [ByteArray.toList_eq, bstr_list]
      cases l with
      | nil => exact absurd rfl hl
      | cons a r => rfl
    have HX := Lib.hid (show (if x = 0 then 4 else x) = endE x l from by unfold endE; split <;> simp_all)
    have HF := Lib.hid (rFail_any g x 4 l w hR)
    clear hR
    go_enter Try.func18, Try.ntmps18
    go_wp2_with fail
    refine HF.out.mono ?_
    rintro e w1 ⟨rfl, hg, h1⟩
    rw [HX.out] at h1
    have d1 : w1.cell? ⟨g, 1, none⟩ = some (.int .i64 (endE x l : Int)) := h1.cell 1
    clear HX
    generalize hE : endE x l = y at *
    have HE := Lib.hid hE
    clear hE
    go_wp2_with fail
    go_ret
    exact ⟨hg, by rw [HE.out]; rfl⟩
end Go.Proofs.Ytnmokjgnbcfabaa
