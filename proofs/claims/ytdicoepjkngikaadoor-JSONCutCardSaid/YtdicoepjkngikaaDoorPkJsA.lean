/-
  Several texts in one: JsonP, JsonQ, JsonE, JsonS, JsonF.
-/
import Derived.Test.YtdicoepjkngikaaDoorPkStateA
import Derived.Lib.ItoaNum
import Derived.Lib.ItoaMem
import Derived.Lib.AtoiAll
import Derived.Lib.AtoiAllCases
import Derived.Test.YtdicoepjkngikaaDoorPkBase
import Derived.Test.YtdicoepjkngikaaDoorShelfK
import Derived.Shelf.Strings.Prefix
import Derived.Test.YtdicoepjkngikaaDoorShelfJ
import Derived.Shelf.Strconv.AppendIntPublic10
import Derived.Shelf.Strconv.ErrVarAll
import Derived.Shelf.Strconv.ToError
import Derived.Lib.ItoaLen
import Derived.BigRegion
/-
 Plain: states to be read: texts quoted, numbers, records, rows; and how they are read. No program.
-/
set_option linter.unusedVariables false
set_option linter.unusedSimpArgs false
namespace Go.Proofs.YtdicoepjkngikaaDoor
/-! Quoting. -/
def hexD (k : Nat) : UInt8 := if k < 10 then UInt8.ofNat (48 + k) else UInt8.ofNat (87 + k)
def qB (c : UInt8) : List UInt8 :=
 if c = 34 ∨ c = 92 then [92, c] else if c < 32 then [92, 117, 48, 48, hexD (c.toNat / 16), hexD (c.toNat % 16)] else [c]
def quoteI (l : List UInt8) : List UInt8 := l.flatMap qB
def quoteL (l : List UInt8) : List UInt8 := 34 :: (quoteI l ++ [34])
theorem quoteI_nil : quoteI [] = [] := rfl
theorem quoteI_cons (c : UInt8) (l : List UInt8) : quoteI (c :: l) = qB c ++ quoteI l := rfl
theorem quoteI_append (a b : List UInt8) : quoteI (a ++ b) = quoteI a ++ quoteI b := by simp [quoteI]
theorem qB_len (c : UInt8) : 1 ≤ (qB c).length ∧ (qB c).length ≤ 6 := by
 unfold qB; split
 · simp
 · split <;> simp
theorem quoteI_len (l : List UInt8) : l.length ≤ (quoteI l).length ∧ (quoteI l).length ≤ 6 * l.length := by
 induction l with
 | nil => simp [quoteI]
 | cons c l ih => rw [quoteI_cons]; have := qB_len c; simp only [List.length_append, List.length_cons]; omega
theorem quoteL_len (l : List UInt8) : l.length + 2 ≤ (quoteL l).length ∧ (quoteL l).length ≤ 6 * l.length + 2 := by
 have := quoteI_len l; unfold quoteL; simp only [List.length_cons, List.length_append, List.length_nil]; omega
/-! Reading: what is left, and whether it went wrong. -/
abbrev RdS := List UInt8 × Bool
def mustL (p : List UInt8) (s : RdS) : RdS := if s.2 = true then s else if p <+: s.1 then (s.1.drop p.length, false) else (s.1, true)
def numCh (c : UInt8) : Bool := c == 45 || (decide (48 ≤ c) && decide (c ≤ 57))
def numL (l : List UInt8) : Nat := (l.takeWhile numCh).length
def numV (l : List UInt8) : Int := match Lib.atoiAll (l.take (numL l)) with
 | .ok v => v
 | .range => Lib.atoiSat (l.take (numL l))
 | _ => 0
def numE (l : List UInt8) : Bool := match Lib.atoiAll (l.take (numL l)) with
 | .ok _ => false
 | _ => true
def numR (s : RdS) : Int × RdS := (numV s.1, s.1.drop (numL s.1), s.2 || numE s.1)
def hexV (c : UInt8) : Option Nat :=
 if 48 ≤ c.toNat ∧ c.toNat ≤ 57 then some (c.toNat - 48) else if 97 ≤ c.toNat ∧ c.toNat ≤ 102 then some (c.toNat - 87) else if 65 ≤ c.toNat ∧ c.toNat ≤ 70 then some (c.toNat - 55) else none
/-- Two signs as a number below 256. -/
def hex2 (a b : UInt8) : Option Nat := match hexV a, hexV b with
 | some x, some y => some (16 * x + y)
 | _, _ => none
def bsu : List UInt8 := [92, 117, 48, 48]
/-- The inside of a text, to its end: what was read, what is left, whether it went wrong. -/
def txN : Nat → List UInt8 → List UInt8 → List UInt8 × RdS
 | 0, l, acc => (acc, l, true)
 | f + 1, l, acc =>
  if [34] <+: l then (acc, l.drop 1, false)
  else if l = [] then (acc, [], true)
  else if bsu <+: l then
   match l.drop 4 with
   | a :: b :: r => match hex2 a b with
    | some n => txN f r (acc ++ [UInt8.ofNat n])
    | none => (acc ++ [0], r, true)
   | r => (acc, r, true)
  else if [92] <+: l then
   match l.drop 1 with
   | c :: r => txN f r (acc ++ [c])
   | [] => (acc, [], true)
  else match l with
   | c :: r => txN f r (acc ++ [c])
   | [] => (acc, [], true)
def txR (s : RdS) : List UInt8 × RdS :=
 if (mustL [34] s).2 = true then ([], mustL [34] s) else txN ((mustL [34] s).1.length + 1) (mustL [34] s).1 []
/-- A record: its fields' names, and which are numbers. -/
abbrev Spec := List (ByteArray × Bool)
inductive FV where
 | num (n : Int)
 | txt (s : ByteArray)
 deriving DecidableEq
def FV.val : FV → Value
 | .num n => .int .i64 n
 | .txt s => .string s
def FV.isNum : FV → Bool
 | .num _ => true
 | .txt _ => false
/-- Printed fields, each with a comma ahead but the first. -/
def fieldB (name : ByteArray) (v : FV) : List UInt8 := quoteL name.data.toList ++ 58 :: (match v with
 | .num n => Lib.itoa n
 | .txt s => quoteL s.data.toList)
def fieldsB : Bool → List (ByteArray × FV) → List UInt8
 | _, [] => []
 | c, (n, v) :: r => (if c = true then [44] else []) ++ (fieldB n v ++ fieldsB true r)
def objB (l : List (ByteArray × FV)) : List UInt8 := 123 :: (fieldsB false l ++ [125])
/-- Fields read. -/
def fieldR (name : ByteArray) (isN : Bool) (s : RdS) : FV × RdS :=
 let t := mustL (quoteL name.data.toList ++ [58]) s
 if isN = true then (.num (numR t).1, (numR t).2) else (.txt ⟨(txR t).1.toArray⟩, (txR t).2)
def fieldsR : Bool → Spec → RdS → List FV × RdS
 | _, [], s => ([], s)
 | c, (n, k) :: r, s =>
  let x := fieldR n k (if c = true then mustL [44] s else s)
  let y := fieldsR true r x.2
  (x.1 :: y.1, y.2)
def objR (p : Spec) (s : RdS) : List FV × RdS :=
 let y := fieldsR false p (mustL [123] s)
 (y.1, mustL [125] y.2)
/-! Rows. -/
def rowsJ (c : Bool) : List (List UInt8) → List UInt8
 | [] => []
 | x :: r => (if c = true then [44] else []) ++ (x ++ rowsJ true r)
def arrB (name : ByteArray) (l : List (List UInt8)) : List UInt8 := 44 :: (quoteL name.data.toList ++ (58 :: 91 :: (rowsJ false l ++ [93])))
def elN (p : Spec) : Nat → List UInt8 → List (List FV) → List (List FV) × RdS
 | 0, l, acc => (acc, l, true)
 | f + 1, l, acc =>
  if [93] <+: l then (acc, l.drop 1, false)
  else
   let x := objR p (if acc ≠ [] then mustL [44] (l, false) else (l, false))
   if x.2.2 = true then (acc ++ [x.1], x.2.1, true) else elN p f x.2.1 (acc ++ [x.1])
def elR (p : Spec) (name : ByteArray) (s : RdS) : List (List FV) × RdS :=
 let t := mustL (44 :: (quoteL name.data.toList ++ [58, 91])) s
 if t.2 = true then ([], t) else elN p (t.1.length + 1) t.1 []
/-! Nothing is put in: what is left is no longer than what there was. -/
theorem mustL_le (p : List UInt8) (s : RdS) : (mustL p s).1.length ≤ s.1.length := by
 unfold mustL; split
 · exact Nat.le_refl _
 · split
   · simp
   · exact Nat.le_refl _
theorem mustL_ok {p : List UInt8} {s : RdS} (h : (mustL p s).2 = false) : s.2 = false ∧ s.1 = p ++ (mustL p s).1 := by
 unfold mustL at h ⊢
 by_cases h1 : s.2 = true
 · rw [if_pos h1] at h; rw [h] at h1; cases h1
 · rw [if_neg h1] at h ⊢
   by_cases h2 : p <+: s.1
   · rw [if_pos h2]; obtain ⟨t, ht⟩ := h2; exact ⟨by simpa using h1, by rw [← ht]; simp⟩
   · rw [if_neg h2] at h; cases h
theorem mustL_app (p m : List UInt8) : mustL p (p ++ m, false) = (m, false) := by
 unfold mustL; simp
theorem mustL_wrong (p l : List UInt8) : mustL p (l, true) = (l, true) := by unfold mustL; simp
theorem txN_le (f : Nat) (l acc : List UInt8) : (txN f l acc).2.1.length ≤ l.length := by
 induction f generalizing l acc with
 | zero => simp [txN]
 | succ f ih =>
  unfold txN
  split
  · simp
  · split
    · simp
    · split
      · split
        · rename_i a b r hd
          have hl : r.length + 2 = (l.drop 4).length := by rw [hd]; rfl
          simp at hl
          split
          · have := ih r (acc ++ [UInt8.ofNat ‹Nat›]); omega
          · show r.length ≤ _; omega
        · simp
      · split
        · split
          · rename_i c r hd
            have hl : r.length + 1 = (l.drop 1).length := by rw [hd]; rfl
            simp at hl
            have := ih r (acc ++ [c]); omega
          · simp
        · split
          · rename_i c r _ _ _ _
            have := ih r (acc ++ [c]); simp; omega
          · simp
theorem txR_le (s : RdS) : (txR s).2.1.length ≤ s.1.length := by
 unfold txR; have h0 := mustL_le [34] s; split
 · exact h0
 · exact Nat.le_trans (txN_le _ _ _) h0
theorem fieldR_le (n : ByteArray) (k : Bool) (s : RdS) : (fieldR n k s).2.1.length ≤ s.1.length := by
 unfold fieldR; have h0 := mustL_le (quoteL n.data.toList ++ [58]) s
 dsimp only
 split
 · simp only [numR, List.length_drop]; omega
 · exact Nat.le_trans (txR_le _) h0
theorem fieldsR_le (c : Bool) (p : Spec) (s : RdS) : (fieldsR c p s).2.1.length ≤ s.1.length := by
 induction p generalizing c s with
 | nil => exact Nat.le_refl _
 | cons x p ih =>
  obtain ⟨n, k⟩ := x
  show (fieldsR true p _).2.1.length ≤ _
  refine Nat.le_trans (ih true _) (Nat.le_trans (fieldR_le _ _ _) ?_)
  split
  · exact mustL_le _ _
  · exact Nat.le_refl _
theorem objR_lt (p : Spec) (s : RdS) (h : (objR p s).2.2 = false) : (objR p s).2.1.length < s.1.length := by
 have h1 := mustL_ok (p := [125]) (s := (fieldsR false p (mustL [123] s)).2) h
 have h2 := congrArg List.length h1.2
 have h3 := fieldsR_le false p (mustL [123] s)
 have h4 := mustL_le [123] s
 simp only [List.length_append, List.length_cons, List.length_nil] at h2
 show (mustL [125] (fieldsR false p (mustL [123] s)).2).1.length < _
 omega
theorem fieldsR_len (c : Bool) (p : Spec) (s : RdS) : (fieldsR c p s).1.length = p.length := by
 induction p generalizing c s with
 | nil => rfl
 | cons x p ih => obtain ⟨n, k⟩ := x; show (_ :: (fieldsR true p _).1).length = _; simp [ih]
/-- What was read has the kinds that it should have. -/
theorem fieldsR_kind (c : Bool) (p : Spec) (s : RdS) : (fieldsR c p s).1.map FV.isNum = p.map (·.2) := by
 induction p generalizing c s with
 | nil => rfl
 | cons x p ih =>
  obtain ⟨n, k⟩ := x
  show ((fieldR n k _).1 :: (fieldsR true p _).1).map FV.isNum = _
  rw [List.map_cons, ih, List.map_cons]
  congr 1
  unfold fieldR
  cases k <;> rfl
/-! What was printed is read. -/
theorem atoi_digits (u : Nat) (r : List UInt8) (acc : Nat) : ∀ k, u < 10 ^ (k + 1) → acc * 10 ^ (Lib.nDigits u) + u < 18446744073709551616 → Lib.parseUint10 acc (Lib.decDigits u ++ r) = Lib.parseUint10 (acc * 10 ^ (Lib.nDigits u) + u) r := by
 induction u using Nat.strongRecOn generalizing r acc with
 | _ u ih =>
  intro k hk hb
  have hdig : ∀ (a d : Nat) (r : List UInt8), d < 10 → a * 10 + d < 18446744073709551616 → Lib.parseUint10 a (UInt8.ofNat (48 + d) :: r) = Lib.parseUint10 (a * 10 + d) r := by
   intro a d r hd hlt
   have e : (UInt8.ofNat (48 + d)).toNat = 48 + d := by simp only [UInt8.toNat_ofNat']; omega
   rw [Lib.parseUint10]
   simp only [e]
   rw [if_pos (by omega), if_neg (by omega), if_neg (by omega)]
   congr 1; omega
  by_cases h : u < 10
  · rw [Lib.decDigits, dif_pos h, Lib.nDigits_small h] at *
    simpa using hdig acc u r h (by simpa using hb)
  · rw [Lib.decDigits, dif_neg h, Lib.nDigits_big h, List.append_assoc]
    rw [Lib.nDigits_big h, Nat.pow_succ] at hb
    have hk' : u / 10 < 10 ^ (k - 1 + 1) := by
     have : 1 ≤ k := by
      rcases Nat.eq_zero_or_pos k with rfl | h0
      · simp at hk; omega
      · exact h0
     rw [show k - 1 + 1 = k by omega]; rw [Nat.pow_succ] at hk; omega
    have hm : acc * (10 ^ Lib.nDigits (u / 10) * 10) = acc * 10 ^ Lib.nDigits (u / 10) * 10 := by rw [Nat.mul_assoc]
    rw [ih (u / 10) (by omega) _ _ (k - 1) hk' (by omega)]
    rw [List.singleton_append, hdig _ (u % 10) r (by omega) (by omega), Nat.pow_succ]
    congr 1; omega
theorem decDigits_num (u : Nat) : ∀ c ∈ Lib.decDigits u, numCh c = true ∧ c.toNat ≠ 45 ∧ c.toNat ≠ 43 := by
 induction u using Nat.strongRecOn with
 | _ u ih =>
  have hd : ∀ d < 10, numCh (UInt8.ofNat (48 + d)) = true ∧ (UInt8.ofNat (48 + d)).toNat ≠ 45 ∧ (UInt8.ofNat (48 + d)).toNat ≠ 43 := by decide
  by_cases h : u < 10
  · rw [Lib.decDigits, dif_pos h]; intro c hc; simp only [List.mem_singleton] at hc; subst hc; exact hd u h
  · rw [Lib.decDigits, dif_neg h]; intro c hc
    simp only [List.mem_append, List.mem_singleton] at hc
    rcases hc with hc | rfl
    · exact ih _ (by omega) c hc
    · exact hd _ (by omega)
theorem decDigits_ne (u : Nat) : Lib.decDigits u ≠ [] := by
 intro h; have := congrArg List.length h; rw [Lib.decDigits_length] at this; have := Lib.nDigits_pos u; simp at *; omega
theorem itoa_num (n : Int) : ∀ c ∈ Lib.itoa n, numCh c = true := by
 unfold Lib.itoa; split
 · intro c hc; simp only [List.mem_cons] at hc
   rcases hc with rfl | hc
   · decide
   · exact (decDigits_num _ c hc).1
 · intro c hc; exact (decDigits_num _ c hc).1
theorem atoi_itoa (n : Int) (h1 : -9223372036854775808 ≤ n) (h2 : n ≤ 9223372036854775807) : Lib.atoiAll (Lib.itoa n) = .ok n := by
 have hpm : ∀ u : Nat, u < 18446744073709551616 → Lib.parseMag (Lib.decDigits u) = .ok u := by
  intro u hu
  unfold Lib.parseMag
  rw [if_neg (decDigits_ne u)]
  have := atoi_digits u [] 0 19 (by omega) (by omega)
  rw [List.append_nil] at this
  rw [this]; simp [Lib.parseUint10]
 unfold Lib.itoa
 split
 · unfold Lib.atoiAll
   simp only
   rw [if_pos (Or.inr (by decide)), hpm _ (by omega)]
   simp only
   rw [if_neg (by simp), if_neg (by omega), if_pos (by decide)]
   congr 1; omega
 · cases hd : Lib.decDigits n.toNat with
   | nil => exact absurd hd (decDigits_ne _)
   | cons c r =>
    have hc := decDigits_num n.toNat c (by rw [hd]; simp)
    unfold Lib.atoiAll
    simp only
    rw [if_neg (by omega), ← hd, hpm _ (by omega)]
    simp only
    rw [if_neg (by omega), if_neg (by omega), if_neg (by omega)]
    congr 1; omega
theorem takeWhile_app {p : UInt8 → Bool} {a m : List UInt8} (ha : ∀ c ∈ a, p c = true) (hm : ∀ c, m.head? = some c → p c = false) : (a ++ m).takeWhile p = a := by
 induction a with
 | nil => cases m with
  | nil => rfl
  | cons c m => simp [hm c rfl]
 | cons c a ih => rw [List.cons_append, List.takeWhile_cons, if_pos (ha c (by simp)), ih (fun d hd => ha d (by simp [hd]))]
theorem numR_app (n : Int) (h1 : -9223372036854775808 ≤ n) (h2 : n ≤ 9223372036854775807) (m : List UInt8) (hm : ∀ c, m.head? = some c → numCh c = false) : numR (Lib.itoa n ++ m, false) = (n, m, false) := by
 have hl : numL (Lib.itoa n ++ m) = (Lib.itoa n).length := by unfold numL; rw [takeWhile_app (itoa_num n) hm]
 have ht : (Lib.itoa n ++ m).take (numL (Lib.itoa n ++ m)) = Lib.itoa n := by rw [hl]; simp
 unfold numR numV numE
 simp only
 rw [ht, atoi_itoa n h1 h2, hl]
 simp
theorem hex_hexD : ∀ a < 16, ∀ b < 16, hex2 (hexD a) (hexD b) = some (16 * a + b) := by decide
theorem txN_qB (c : UInt8) (f : Nat) (m acc : List UInt8) : txN (f + 1) (qB c ++ m) acc = txN f m (acc ++ [c]) := by
 unfold qB
 by_cases h : c = 34 ∨ c = 92
 · rw [if_pos h]
   rcases h with rfl | rfl
   · rw [txN.eq_def]; simp [bsu]
   · rw [txN.eq_def]; simp [bsu]
 · rw [if_neg h]
   have h34 : c ≠ 34 := fun e => h (.inl e)
   have h92 : c ≠ 92 := fun e => h (.inr e)
   by_cases hs : c < 32
   · rw [if_pos hs]
     have hc : c.toNat < 32 := by simpa [UInt8.lt_iff_toNat_lt] using hs
     have he := hex_hexD (c.toNat / 16) (by omega) (c.toNat % 16) (by omega)
     have hn : 16 * (c.toNat / 16) + c.toNat % 16 = c.toNat := by omega
     rw [hn] at he
     rw [txN.eq_def]
     simp [bsu, he]
   · rw [if_neg hs, txN.eq_def]
     simp only
     have e1 : ¬ [34] <+: [c] ++ m := by simp [Ne.symm h34]
     have e2 : ¬ [92] <+: [c] ++ m := by simp [Ne.symm h92]
     have e3 : ¬ bsu <+: [c] ++ m := by simp [bsu, Ne.symm h92]
     rw [if_neg e1, if_neg (by simp), if_neg e3, if_neg e2]
     rfl
theorem txN_app (s m acc : List UInt8) (f : Nat) (hf : s.length < f) : txN f (quoteI s ++ 34 :: m) acc = (acc ++ s, m, false) := by
 induction s generalizing f acc with
 | nil =>
  obtain ⟨f, rfl⟩ : ∃ k, f = k + 1 := ⟨f - 1, by simp at hf; omega⟩
  rw [quoteI_nil, txN.eq_def]; simp
 | cons c s ih =>
  obtain ⟨f, rfl⟩ : ∃ k, f = k + 1 := ⟨f - 1, by simp at hf; omega⟩
  rw [quoteI_cons, List.append_assoc, txN_qB, ih _ _ (by simp at hf; omega)]
  simp
theorem txR_app (s m : List UInt8) : txR (quoteL s ++ m, false) = (s, m, false) := by
 have e : mustL [34] (quoteL s ++ m, false) = (quoteI s ++ 34 :: m, false) := by
  have := mustL_app [34] (quoteI s ++ 34 :: m)
  rw [← this]; congr 2; simp [quoteL]
 unfold txR
 rw [e, if_neg (by simp)]
 have := txN_app s m [] ((quoteI s ++ 34 :: m).length + 1) (by have := quoteI_len s; simp; omega)
 simpa using this
def FV.ok : FV → Prop
 | .num n => -9223372036854775808 ≤ n ∧ n ≤ 9223372036854775807
 | .txt _ => True
def sep (m : List UInt8) : Prop := ∀ c, m.head? = some c → numCh c = false
theorem fieldR_app (n : ByteArray) (v : FV) (hv : v.ok) (m : List UInt8) (hm : sep m) : fieldR n v.isNum (fieldB n v ++ m, false) = (v, m, false) := by
 unfold fieldR fieldB
 cases v with
 | num k =>
  have e : mustL (quoteL n.data.toList ++ [58]) (quoteL n.data.toList ++ 58 :: Lib.itoa k ++ m, false) = (Lib.itoa k ++ m, false) := by
   rw [← mustL_app (quoteL n.data.toList ++ [58]) (Lib.itoa k ++ m)]; congr 2; simp
  simp only [FV.isNum]
  rw [e, numR_app k hv.1 hv.2 m hm]
  rfl
 | txt s =>
  have e : mustL (quoteL n.data.toList ++ [58]) (quoteL n.data.toList ++ 58 :: quoteL s.data.toList ++ m, false) = (quoteL s.data.toList ++ m, false) := by
   rw [← mustL_app (quoteL n.data.toList ++ [58]) (quoteL s.data.toList ++ m)]; congr 2; simp
  simp only [FV.isNum]
  rw [e, txR_app]
  simp
theorem sep_cons {c : UInt8} (h : numCh c = false) (m : List UInt8) : sep (c :: m) := by intro d hd; simp at hd; subst hd; exact h
theorem fieldsR_app (c : Bool) (l : List (ByteArray × FV)) (hl : ∀ x ∈ l, x.2.ok) (m : List UInt8) (hm : sep m) : fieldsR c (l.map fun x => (x.1, x.2.isNum)) (fieldsB c l ++ m, false) = (l.map (·.2), m, false) := by
 induction l generalizing c with
 | nil => rfl
 | cons x l ih =>
  obtain ⟨n, v⟩ := x
  have hs : sep (fieldsB true l ++ m) := by
   cases l with
   | nil => exact hm
   | cons y l => exact sep_cons (by decide) _
  have e1 : (if c = true then mustL [44] (fieldsB c ((n, v) :: l) ++ m, false) else (fieldsB c ((n, v) :: l) ++ m, false)) = (fieldB n v ++ (fieldsB true l ++ m), false) := by
   cases c
   · simp [fieldsB]
   · rw [if_pos rfl, ← mustL_app [44] (fieldB n v ++ (fieldsB true l ++ m))]; congr 2; simp [fieldsB]
  rw [List.map_cons]
  show (let x := fieldR n v.isNum (if c = true then mustL [44] (fieldsB c ((n, v) :: l) ++ m, false) else (fieldsB c ((n, v) :: l) ++ m, false)); let y := fieldsR true _ x.2; (x.1 :: y.1, y.2)) = _
  rw [e1, fieldR_app n v (hl (n, v) (by simp)) _ hs]
  simp only
  rw [ih true (fun x hx => hl x (by simp [hx]))]
  rfl
theorem objR_app (l : List (ByteArray × FV)) (hl : ∀ x ∈ l, x.2.ok) (m : List UInt8) : objR (l.map fun x => (x.1, x.2.isNum)) (objB l ++ m, false) = (l.map (·.2), m, false) := by
 have e : mustL [123] (objB l ++ m, false) = (fieldsB false l ++ 125 :: m, false) := by
  rw [← mustL_app [123] (fieldsB false l ++ 125 :: m)]; congr 2; simp [objB]
 unfold objR
 simp only
 rw [e, fieldsR_app false l hl _ (sep_cons (by decide) _)]
 simp only
 rw [show (125 :: m, false) = (([125] ++ m, false) : RdS) from rfl, mustL_app]
theorem objB_head (l : List (ByteArray × FV)) : ∃ r, objB l = 123 :: r := ⟨_, rfl⟩
/-- Rows of one spec. -/
theorem elN_app (p : Spec) (ls : List (List (ByteArray × FV))) (hp : ∀ l ∈ ls, (l.map fun x => (x.1, x.2.isNum)) = p) (hl : ∀ l ∈ ls, ∀ x ∈ l, x.2.ok) (m : List UInt8) (acc : List (List FV)) (f : Nat) (hf : ls.length < f) :
  elN p f (rowsJ (!acc.isEmpty) (ls.map objB) ++ 93 :: m) acc = (acc ++ ls.map (fun l => l.map (·.2)), m, false) := by
 induction ls generalizing acc f with
 | nil =>
  obtain ⟨f, rfl⟩ : ∃ k, f = k + 1 := ⟨f - 1, by simp at hf; omega⟩
  rw [elN]; simp [rowsJ]
 | cons l ls ih =>
  obtain ⟨f, rfl⟩ : ∃ k, f = k + 1 := ⟨f - 1, by simp at hf; omega⟩
  have e1 : (if acc ≠ [] then mustL [44] (rowsJ (!acc.isEmpty) ((l :: ls).map objB) ++ 93 :: m, false) else (rowsJ (!acc.isEmpty) ((l :: ls).map objB) ++ 93 :: m, false)) = (objB l ++ (rowsJ true (ls.map objB) ++ 93 :: m), false) := by
   cases acc with
   | nil => simp [rowsJ]
   | cons y acc => rw [if_pos (by simp), ← mustL_app [44] (objB l ++ (rowsJ true (ls.map objB) ++ 93 :: m))]; congr 2; simp [rowsJ]
  have e2 : ¬ [93] <+: rowsJ (!acc.isEmpty) ((l :: ls).map objB) ++ 93 :: m := by
   cases acc with
   | nil => simp [rowsJ, objB]
   | cons y acc => simp [rowsJ]
  rw [elN, if_neg e2]
  simp only
  rw [e1]
  have := objR_app l (hl l (by simp)) (rowsJ true (ls.map objB) ++ 93 :: m)
  rw [hp l (by simp)] at this
  rw [this]
  simp only
  rw [if_neg (by simp)]
  have h3 := ih (fun l hl => hp l (by simp [hl])) (fun l h => hl l (by simp [h])) (acc ++ [l.map (·.2)]) f (by simp at hf; omega)
  rw [show (!(acc ++ [l.map (·.2)]).isEmpty) = true by simp] at h3
  rw [h3]
  simp
theorem rowsJ_len (c : Bool) (ls : List (List (ByteArray × FV))) : ls.length ≤ (rowsJ c (ls.map objB)).length := by
 induction ls generalizing c with
 | nil => simp [rowsJ]
 | cons l ls ih => have := ih true; simp [rowsJ, objB]; omega
theorem elR_app (p : Spec) (name : ByteArray) (ls : List (List (ByteArray × FV))) (hp : ∀ l ∈ ls, (l.map fun x => (x.1, x.2.isNum)) = p) (hl : ∀ l ∈ ls, ∀ x ∈ l, x.2.ok) (m : List UInt8) :
  elR p name (arrB name (ls.map objB) ++ m, false) = (ls.map (fun l => l.map (·.2)), m, false) := by
 have e : mustL (44 :: (quoteL name.data.toList ++ [58, 91])) (arrB name (ls.map objB) ++ m, false) = (rowsJ false (ls.map objB) ++ 93 :: m, false) := by
  rw [← mustL_app (44 :: (quoteL name.data.toList ++ [58, 91])) (rowsJ false (ls.map objB) ++ 93 :: m)]; congr 2; simp [arrB]
 unfold elR
 simp only
 rw [e, if_neg (by simp)]
 have := elN_app p ls hp hl m [] ((rowsJ false (ls.map objB) ++ 93 :: m).length + 1) (by have := rowsJ_len false ls; simp; omega)
 simpa using this
end Go.Proofs.YtdicoepjkngikaaDoor

/-
 Plain: states as they are printed, and parsed. No program.
-/
set_option linter.unusedVariables false
set_option linter.unusedSimpArgs false
namespace Go.Proofs.YtdicoepjkngikaaDoor
def nName : ByteArray := ⟨#[110, 97, 109, 101]⟩
def nPrio : ByteArray := ⟨#[112, 114, 105, 111]⟩
def nNeed : ByteArray := ⟨#[110, 101, 101, 100]⟩
def nTries : ByteArray := ⟨#[116, 114, 105, 101, 115]⟩
def nTag : ByteArray := ⟨#[116, 97, 103]⟩
def nRoom : ByteArray := ⟨#[114, 111, 111, 109]⟩
def nZone : ByteArray := ⟨#[122, 111, 110, 101]⟩
def nJob : ByteArray := ⟨#[106, 111, 98]⟩
def nNode : ByteArray := ⟨#[110, 111, 100, 101]⟩
def nUntil : ByteArray := ⟨#[117, 110, 116, 105, 108]⟩
def nJobs : ByteArray := ⟨#[106, 111, 98, 115]⟩
def nNodes : ByteArray := ⟨#[110, 111, 100, 101, 115]⟩
def nLeases : ByteArray := ⟨#[108, 101, 97, 115, 101, 115]⟩
def hdrJ : List UInt8 := [123, 34, 114, 101, 118, 34, 58]
def specJ : Spec := [(nName, false), (nPrio, true), (nNeed, true), (nTries, true), (nTag, false)]
def specN : Spec := [(nName, false), (nRoom, true), (nZone, false)]
def specL : Spec := [(nJob, false), (nNode, false), (nUntil, true)]
def fvJ (j : JobD) : List (ByteArray × FV) := [(nName, .txt j.name), (nPrio, .num j.prio), (nNeed, .num j.need), (nTries, .num j.tries), (nTag, .txt j.tag)]
def fvN (n : NodeD) : List (ByteArray × FV) := [(nName, .txt n.name), (nRoom, .num n.room), (nZone, .txt n.zone)]
def fvL (l : LeaseD) : List (ByteArray × FV) := [(nJob, .txt l.job), (nNode, .txt l.node), (nUntil, .num l.till)]
def toJ : List FV → JobD
 | [.txt a, .num p, .num n, .num t, .txt g] => ⟨a, p, n, t, g⟩
 | _ => ⟨ByteArray.empty, 0, 0, 0, ByteArray.empty⟩
def toN : List FV → NodeD
 | [.txt a, .num p, .txt g] => ⟨a, p, g⟩
 | _ => ⟨ByteArray.empty, 0, ByteArray.empty⟩
def toL : List FV → LeaseD
 | [.txt a, .txt g, .num p] => ⟨a, g, p⟩
 | _ => ⟨ByteArray.empty, ByteArray.empty, 0⟩
def jobsB (l : List JobD) : List UInt8 := arrB nJobs ((l.map fvJ).map objB)
def nodesB (l : List NodeD) : List UInt8 := arrB nNodes ((l.map fvN).map objB)
def leasesB (l : List LeaseD) : List UInt8 := arrB nLeases ((l.map fvL).map objB)
def printL (s : St) : List UInt8 := hdrJ ++ (Lib.itoa s.rev ++ (jobsB s.jobs ++ (nodesB s.nodes ++ (leasesB s.leases ++ [125]))))
def readL (t : List UInt8) : St × RdS :=
 let r := numR (mustL hdrJ (t, false))
 let a := elR specJ nJobs r.2
 let b := elR specN nNodes a.2
 let c := elR specL nLeases b.2
 (⟨r.1, a.1.map toJ, b.1.map toN, c.1.map toL⟩, mustL [125] c.2)
def parseE (t : List UInt8) : Nat :=
 if 60000 < t.length then 2 else if (readL t).2.2 = true ∨ (readL t).2.1 ≠ [] ∨ checkE (readL t).1 ≠ 0 ∨ printL (readL t).1 ≠ t then 4 else 0
theorem jobE_int {j : JobD} (h : jobE j = 0) : (-9223372036854775808 ≤ j.prio ∧ j.prio ≤ 9223372036854775807) ∧ (-9223372036854775808 ≤ j.need ∧ j.need ≤ 9223372036854775807) ∧ (-9223372036854775808 ≤ j.tries ∧ j.tries ≤ 9223372036854775807) := by
 unfold jobE at h
 split at h
 · split at h
   · rename_i h2; simp only [Bool.and_eq_true, withinB_iff] at h2; omega
   · cases h
 · cases h
theorem nodeE_int {n : NodeD} (h : nodeE n = 0) : -9223372036854775808 ≤ n.room ∧ n.room ≤ 9223372036854775807 := by
 unfold nodeE at h
 split at h
 · split at h
   · rename_i h2; simp only [withinB_iff] at h2; omega
   · cases h
 · cases h
theorem readL_print (s : St) (F : Fine s) (hl : ∀ x ∈ s.leases, -9223372036854775808 ≤ x.till ∧ x.till ≤ 9223372036854775807) (m : List UInt8) : readL (printL s ++ m) = (s, m, false) := by
 have e0 : mustL hdrJ (printL s ++ m, false) = (Lib.itoa s.rev ++ (jobsB s.jobs ++ (nodesB s.nodes ++ (leasesB s.leases ++ ([125] ++ m)))), false) := by
  rw [← mustL_app hdrJ (Lib.itoa s.rev ++ (jobsB s.jobs ++ (nodesB s.nodes ++ (leasesB s.leases ++ ([125] ++ m)))))]; congr 2; simp [printL]
 have e1 := numR_app s.rev (by have := F.rev.1; omega) (by have := F.rev.2; omega) (jobsB s.jobs ++ (nodesB s.nodes ++ (leasesB s.leases ++ ([125] ++ m)))) (by show sep (44 :: _); exact sep_cons (by decide) _)
 have e2 := elR_app specJ nJobs (s.jobs.map fvJ) (by intro l h; obtain ⟨j, _, rfl⟩ := List.mem_map.1 h; rfl)
  (by intro l h x hx; obtain ⟨j, hj, rfl⟩ := List.mem_map.1 h; have := jobE_int (F.j j hj); simp only [fvJ, List.mem_cons, List.not_mem_nil, or_false] at hx; rcases hx with rfl | rfl | rfl | rfl | rfl <;> simp only [FV.ok] <;> omega)
  (nodesB s.nodes ++ (leasesB s.leases ++ ([125] ++ m)))
 have e3 := elR_app specN nNodes (s.nodes.map fvN) (by intro l h; obtain ⟨j, _, rfl⟩ := List.mem_map.1 h; rfl)
  (by intro l h x hx; obtain ⟨j, hj, rfl⟩ := List.mem_map.1 h; have := nodeE_int (F.n j hj); simp only [fvN, List.mem_cons, List.not_mem_nil, or_false] at hx; rcases hx with rfl | rfl | rfl <;> simp only [FV.ok] <;> omega)
  (leasesB s.leases ++ ([125] ++ m))
 have e4 := elR_app specL nLeases (s.leases.map fvL) (by intro l h; obtain ⟨j, _, rfl⟩ := List.mem_map.1 h; rfl)
  (by intro l h x hx; obtain ⟨j, hj, rfl⟩ := List.mem_map.1 h; have := hl j hj; simp only [fvL, List.mem_cons, List.not_mem_nil, or_false] at hx; rcases hx with rfl | rfl | rfl <;> simp only [FV.ok] <;> omega)
  ([125] ++ m)
 unfold readL
 simp only
 rw [e0, e1]
 simp only
 rw [show jobsB s.jobs = arrB nJobs ((s.jobs.map fvJ).map objB) from rfl, e2]
 simp only
 rw [show nodesB s.nodes = arrB nNodes ((s.nodes.map fvN).map objB) from rfl, e3]
 simp only
 rw [show leasesB s.leases = arrB nLeases ((s.leases.map fvL).map objB) from rfl, e4]
 simp only
 rw [mustL_app]
 have m1 : ((s.jobs.map fvJ).map (fun l => l.map (·.2))).map toJ = s.jobs := by
  rw [List.map_map, List.map_map]
  exact (List.map_congr_left (fun x _ => rfl)).trans (List.map_id _)
 have m2 : ((s.nodes.map fvN).map (fun l => l.map (·.2))).map toN = s.nodes := by
  rw [List.map_map, List.map_map]
  exact (List.map_congr_left (fun x _ => rfl)).trans (List.map_id _)
 have m3 : ((s.leases.map fvL).map (fun l => l.map (·.2))).map toL = s.leases := by
  rw [List.map_map, List.map_map]
  exact (List.map_congr_left (fun x _ => rfl)).trans (List.map_id _)
 rw [m1, m2, m3]
theorem fine_till {s : St} (F : Fine s) : ∀ x ∈ s.leases, -9223372036854775808 ≤ x.till ∧ x.till ≤ 9223372036854775807 := by
 intro x hx
 have h := F.l x hx
 unfold leaseE at h
 repeat' split at h
 all_goals first
  | (cases h; done)
  | (simp only [withinB_iff, Bool.and_eq_true, Bool.not_eq_true', Bool.not_eq_false] at *; omega)
theorem parse_print {s : St} (F : Fine s) (h : (printL s).length ≤ 60000) : parseE (printL s) = 0 ∧ (readL (printL s)).1 = s := by
 have e := readL_print s F (fine_till F) []
 rw [List.append_nil] at e
 unfold parseE
 rw [if_neg (by omega), e]
 refine ⟨if_neg ?_, rfl⟩
 simp [(fine_iff s).2 F]
theorem parse_ok {t : List UInt8} (h : parseE t = 0) : Fine (readL t).1 ∧ printL (readL t).1 = t ∧ t.length ≤ 60000 := by
 unfold parseE at h
 split at h
 · cases h
 · split at h
   · cases h
   · rename_i h1 h2
     simp only [not_or, Classical.not_not] at h2
     exact ⟨(fine_iff _).1 h2.2.2.1, h2.2.2.2, by omega⟩
/-- Nothing behind what was printed, nothing less. -/
theorem print_whole {s r : St} (F : Fine s) (G : Fine r) {m : List UInt8} (h : printL s = printL r ++ m) : s = r ∧ m = [] := by
 have e := readL_print s F (fine_till F) []
 rw [List.append_nil, h, readL_print r G (fine_till G) m] at e
 injection e with e1 e2
 injection e2 with e2 _
 exact ⟨e1.symm, e2⟩
theorem parse_cut {s : St} (F : Fine s) (h : (printL s).length ≤ 60000) {k : Nat} (hk : k < (printL s).length) : parseE ((printL s).take k) = 4 := by
 by_cases h0 : parseE ((printL s).take k) = 0
 · obtain ⟨G, e, _⟩ := parse_ok h0
   have := print_whole F G (m := (printL s).drop k) (by rw [e, List.take_append_drop])
   have := congrArg List.length this.2
   simp at this; omega
 · unfold parseE at h0 ⊢
   rw [if_neg (by simp; omega)] at h0 ⊢
   split at h0
   · rename_i h1; rw [if_pos h1]
   · exact absurd rfl h0
theorem parse_more {s : St} (F : Fine s) (h : (printL s).length ≤ 60000) (m : List UInt8) : parseE (printL s ++ m) = 0 ↔ m = [] := by
 constructor
 · intro h0
   obtain ⟨G, e, _⟩ := parse_ok h0
   have e2 := readL_print s F (fine_till F) m
   by_cases hm : m = []
   · exact hm
   · unfold parseE at h0
     rw [e2] at h0
     split at h0
     · cases h0
     · rw [if_pos (by simp [hm])] at h0; cases h0
 · rintro rfl; rw [List.append_nil]; exact (parse_print F h).1
end Go.Proofs.YtdicoepjkngikaaDoor

/-
 Contracts of package json: the reader's words 'is' and 'must'.
-/
set_option linter.unusedVariables false
set_option linter.unusedSimpArgs false
namespace Go.Proofs.YtdicoepjkngikaaDoor
open Go.RowKit
/-- Nothing has turned but block g and new ones. -/
def Rt (w : World) (g : Nat) (w' : World) : Prop := w.grownBy w' (some g)
section
variable {w w' w2 : World} {g : Nat}
theorem Rt.refl (w : World) (g : Nat) : Rt w g w := World.grownBy.refl w _
theorem Rt.trans (h : Rt w g w') (k : Rt w' g w2) : Rt w g w2 :=
  ⟨k.os.trans h.os, k.tape.trans h.tape, k.output.trans h.output, Nat.le_trans h.size k.size, fun b hb hne => (k.block b (Nat.lt_of_lt_of_le hb h.size) hne).trans (h.block b hb hne)⟩
theorem Rt.new (h : Below w.heap.size w w') : Rt w g w' := ⟨h.os, h.tape, h.output, h.size, fun b hb _ => h.block b hb⟩
theorem Rt.set_ (w : World) (g i : Nat) (u : Value) : Rt w g (w.setCell ⟨g, i, none⟩ u) :=
  ⟨rfl, rfl, rfl, by simp, fun k hk hne => Below.heap_setCell w ⟨g, i, none⟩ u k (fun h0 => hne (by rw [h0]))⟩
theorem Rt.size (h : Rt w g w') : w.heap.size ≤ w'.heap.size := World.grownBy.size h
theorem Rt.blk (h : Rt w g w') {b : Nat} {t : TypeId} {cs : Array Value} (hb : Blk w b t cs) (hne : b ≠ g) : Blk w' b t cs :=
  (World.grownBy.block h b hb.lt (fun h0 => hne (by injection h0))).trans hb
theorem Rt.below (h : Rt w g w') {B : Nat} (hB : B ≤ g) (hw : B ≤ w.heap.size) : Below B w w' :=
  ⟨h.os, h.tape, h.output, World.grownBy.size h, fun k hk => World.grownBy.block h k (by omega) (fun h0 => by injection h0; omega)⟩
end
/-- A reader in memory. -/
def RdB (w : World) (g : Nat) (s : RdS) : Prop := Blk w g 44 #[.string (bstr s.1), .bool s.2]
def isL (p l : List UInt8) : Bool × List UInt8 := if p <+: l then (true, l.drop p.length) else (false, l)
theorem mustL_is (p : List UInt8) (s : RdS) (h : s.2 = false) : mustL p s = ((isL p s.1).2, !(isL p s.1).1) := by
  unfold mustL isL
  rw [if_neg (by rw [h]; simp)]
  split <;> rfl
theorem hasPre (p l : List UInt8) : Lib.hasPrefix l p = true ↔ p <+: l := by unfold Lib.hasPrefix; exact List.isPrefixOf_iff_prefix
theorem drop_ext (l : List UInt8) (k : Nat) (h : k ≤ l.length) : (bstr l).extract k (bstr l).size = bstr (l.drop k) := by
  apply bext
  rw [extract_list, bstr_list, bstr_list, bstr_size]
  exact List.take_of_length_le (by simp)
set_option maxHeartbeats 4000000 in
set_option maxRecDepth 100000 in
theorem cutLite_any (l : List UInt8) (p : ByteArray) (w : World) :
    Calls Tryd.prog 53 #[.string (bstr l), .string p] w fun e w' => e = .returned (.tuple #[.string (bstr (isL p.data.toList l).2), .bool (isL p.data.toList l).1]) ∧ w' = w := by
  have HX := Lib.hid (Any.stringslite_HasPrefix Tryd.laysHasPre (bstr l) p w)
  rw [bstr_list] at HX
  by_cases hp : p.data.toList <+: l
  · have hb : Lib.hasPrefix l p.data.toList = true := (hasPre _ _).2 hp
    have hle : p.size ≤ (bstr l).size := by rw [bstr_size, ← bl_len]; exact hp.length_le
    have hle1 : (p.size : Int) ≤ ((bstr l).size : Int) := by omega
    have hd : (bstr l).extract p.size (bstr l).size = bstr (l.drop p.size) := drop_ext l p.size (by rw [bstr_size] at hle; exact hle)
    have hr : isL p.data.toList l = (true, l.drop p.size) := by unfold isL; rw [if_pos hp, bl_len]
    rw [hr]
    rw [hb] at HX
    generalize bstr (l.drop p.size) = d at *
    generalize bstr l = s at *
    have HD := Lib.hid hd
    clear hd hr hb hp
    go_enter Tryd.func53, Tryd.ntmps53
    go_wp2_with fail
    refine HX.out.mono ?_
    rintro e w' ⟨rfl, rfl⟩
    go_wp2_with fail
    go_ret2
    exact ⟨by rw [← HD.out]; rfl, rfl⟩
  · have hb : Lib.hasPrefix l p.data.toList = false := by
      cases h : Lib.hasPrefix l p.data.toList
      · rfl
      · exact absurd ((hasPre _ _).1 h) hp
    have hr : isL p.data.toList l = (false, l) := by unfold isL; rw [if_neg hp]
    rw [hr]
    rw [hb] at HX
    clear hr hb hp
    go_enter Tryd.func53, Tryd.ntmps53
    go_wp2_with fail
    refine HX.out.mono ?_
    rintro e w' ⟨rfl, rfl⟩
    go_wp2_with fail
    go_ret2
    exact ⟨rfl, rfl⟩
set_option maxHeartbeats 4000000 in
set_option maxRecDepth 100000 in
theorem cutPre_any (l : List UInt8) (p : ByteArray) (w : World) :
    Calls Tryd.prog 47 #[.string (bstr l), .string p] w fun e w' => e = .returned (.tuple #[.string (bstr (isL p.data.toList l).2), .bool (isL p.data.toList l).1]) ∧ w' = w := by
  have HX := Lib.hid (cutLite_any l p w)
  generalize isL p.data.toList l = x at *
  generalize bstr x.2 = y at *
  go_enter Tryd.func47, Tryd.ntmps47
  go_wp2_with fail
  refine HX.out.mono ?_
  rintro e w' ⟨rfl, rfl⟩
  go_wp2_with fail
  go_ret2
  exact ⟨rfl, rfl⟩
set_option maxHeartbeats 4000000 in
set_option maxRecDepth 100000 in
theorem is_any (g : Nat) (s : RdS) (p : ByteArray) (w : World) (hb : RdB w g s) :
    Calls Tryd.prog 38 #[.pointer (some ⟨g, 0, none⟩), .string p] w fun e w' => e = .returned (.bool (isL p.data.toList s.1).1) ∧ RdB w' g ((isL p.data.toList s.1).2, s.2) ∧ Rt w g w' := by
  have hb : Blk w g 44 #[.string (bstr s.1), .bool s.2] := hb
  have c0 : w.cell? ⟨g, 0, none⟩ = some (.string (bstr s.1)) := hb.cell 0
  have f0 := hb.frozen 0
  have hs := hb.set_ 0 (.string (bstr (isL p.data.toList s.1).2))
  have HS := Lib.hid (show RdB (w.setCell ⟨g, 0, none⟩ (.string (bstr (isL p.data.toList s.1).2))) g ((isL p.data.toList s.1).2, s.2) from hs)
  have HX := Lib.hid (cutPre_any s.1 p w)
  clear hs hb
  generalize isL p.data.toList s.1 = x at *
  go_enter Tryd.func38, Tryd.ntmps38
  go_wp2_with fail
  refine HX.out.mono ?_
  rintro e w' ⟨rfl, rfl⟩
  go_wp2_with fail
  go_ret
  exact ⟨rfl, HS.out, Rt.set_ _ _ _ _⟩
set_option maxHeartbeats 4000000 in
set_option maxRecDepth 100000 in
theorem must_any (g : Nat) (s : RdS) (p : ByteArray) (w : World) (hb : RdB w g s) :
    Calls Tryd.prog 13 #[.pointer (some ⟨g, 0, none⟩), .string p] w fun e w' => e = .returned (.tuple #[]) ∧ RdB w' g (mustL p.data.toList s) ∧ Rt w g w' := by
  have hb : Blk w g 44 #[.string (bstr s.1), .bool s.2] := hb
  have c1 : w.cell? ⟨g, 1, none⟩ = some (.bool s.2) := hb.cell 1
  have f1 := hb.frozen 1
  obtain ⟨l, b⟩ := s
  cases b
  · have hm := mustL_is p.data.toList (l, false) rfl
    have HX := Lib.hid (is_any g (l, false) p w hb)
    have HM := Lib.hid hm
    clear hm f1
    generalize isL p.data.toList (l, false).1 = x at *
    go_enter Tryd.func13, Tryd.ntmps13
    go_wp2_with fail
    refine HX.out.mono ?_
    rintro e w1 ⟨rfl, hb1, hR1⟩
    have hb1 : Blk w1 g 44 #[.string (bstr x.2), .bool false] := hb1
    have f1 := hb1.frozen 1
    have d1 : w1.cell? ⟨g, 1, none⟩ = some (.bool false) := hb1.cell 1
    go_wp2_with fail
    go_end0
    rw [HM.out]
    exact ⟨rfl, hb1.set_ 1 _, hR1.trans (Rt.set_ _ _ _ _)⟩
  · have hm : mustL p.data.toList (l, true) = (l, true) := mustL_wrong _ _
    rw [hm]
    clear hm
    go_enter Tryd.func13, Tryd.ntmps13
    go_wp2_with fail
    go_end0
    exact ⟨rfl, hb.set_ 1 _, Rt.set_ _ _ _ _⟩
end Go.Proofs.YtdicoepjkngikaaDoor

/-
 strconv.AppendInt and strconv.Atoi at this translation; what the rows list of the library's variables, as it is carried along a walk.
-/
set_option linter.unusedVariables false
set_option linter.unusedSimpArgs false
namespace Go.Proofs.YtdicoepjkngikaaDoor
open Go.RowKit
theorem u8J2 : (Tryd.prog.info? 5).map (fun i => (i.zero, i.size, i.bytes)) = some (some (.int .u8 0), 1, 1) := by kernel_rfl
/-- What is read of the library's variables while a state is printed. -/
structure LibP (B : Nat) (w : World) : Prop where
  pow : Lib.TabBelow Tryd.prog B w "internal/strconv.uint64pow10" .u64 Lib.pow10Tab
  tabs : ∀ W, Below B w W → Tabs W
theorem LibP.below {B : Nat} {w W : World} (h : LibP B w) (hb : Below B w W) : LibP B W := ⟨h.pow.on hb, fun X hX => h.tabs X (hb.trans hX)⟩
theorem LibP.more {B B' : Nat} {w : World} (h : LibP B w) (hB : B ≤ B') : LibP B' w := ⟨fun W hW => h.pow W (hW.mono hB), fun W hW => h.tabs W (hW.mono hB)⟩
theorem LibP.here {B : Nat} {w : World} (h : LibP B w) : Tabs w := h.tabs w (Below.refl _ _)
theorem appInt_any (base : Nat) (i : Int) (h0 : -9223372036854775808 ≤ i) (h1 : i ≤ 9223372036854775807) (v : Value) (l : List UInt8) (w : World) (hbuf : Buf 5 w base v l) (hbase : base ≤ w.heap.size) (hl : l.length + 21 ≤ 140737488355328) (hP : LibP base w) :
    Calls Tryd.prog 24 #[v, .int .i64 i, .int .i64 10] w fun e w' => ∃ v', e = .returned v' ∧ Buf 5 w' base v' (l ++ Lib.itoa i) ∧ Gr 5 base w w' := by
  refine (Any.strconv_AppendInt_10 Tryd.laysAppInt base l.length i h0 h1 v (bytesV l) w hbuf hbase hl hP.pow).mono ?_
  rintro e w' ⟨v', rfl, ho, hb, hk⟩
  refine ⟨v', rfl, ?_, hb, hk⟩
  unfold Buf
  rw [bytesV_append, List.length_append]
  exact ho
end Go.Proofs.YtdicoepjkngikaaDoor

/-
 Contracts of package json: a number read.
-/
set_option linter.unusedVariables false
set_option linter.unusedSimpArgs false
namespace Go.Proofs.YtdicoepjkngikaaDoor
open Go.RowKit
/-- What is read of the library's variables while a state is parsed. -/
structure LibJ (B : Nat) (w : World) : Prop where
  p : LibP B w
  syn : ∀ W, Below B w W → ∃ tp v, W.var? Tryd.prog "strconv.ErrSyntax" = some #[.iface tp v]
  rng : ∀ W, Below B w W → ∃ tp v, W.var? Tryd.prog "strconv.ErrRange" = some #[.iface tp v]
theorem LibJ.below {B : Nat} {w W : World} (h : LibJ B w) (hb : Below B w W) : LibJ B W := ⟨h.p.below hb, fun X hX => h.syn X (hb.trans hX), fun X hX => h.rng X (hb.trans hX)⟩
theorem LibJ.more {B B' : Nat} {w : World} (h : LibJ B w) (hB : B ≤ B') : LibJ B' w := ⟨h.p.more hB, fun W hW => h.syn W (hW.mono hB), fun W hW => h.rng W (hW.mono hB)⟩
def atV (l : List UInt8) : Int := match Lib.atoiAll l with
  | .ok v => v
  | .range => Lib.atoiSat l
  | _ => 0
def atE (l : List UInt8) : Bool := match Lib.atoiAll l with
  | .ok _ => false
  | _ => true
theorem atoi_any (B : Nat) (l : List UInt8) (hl : l.length ≤ 60000) (w : World) (hJ : LibJ B w) :
    Calls Tryd.prog 39 #[.string (bstr l)] w fun e w' => ∃ ev, e = .returned (.tuple #[.int .i64 (atV l), ev]) ∧ (atE l = false ∧ ev = .nilIface ∨ atE l = true ∧ ∃ t p, ev = .iface t p) ∧ Below w.heap.size w w' := by
  have hsz : (bstr l).size = l.length := bstr_size l
  rcases h : Lib.atoiAll l with v | _ | _
  · refine (Any.strconv_Atoi_ok Tryd.laysAtoi (bstr l) (by omega) v (by rw [bstr_list]; exact h) w).mono ?_
    rintro e w' ⟨rfl, hw⟩
    refine ⟨.nilIface, by unfold atV; rw [h], .inl ⟨by unfold atE; rw [h], rfl⟩, ?_⟩
    rcases hw with rfl | ⟨t, rfl⟩
    · exact Below.refl _ _
    · exact Lib.bytesWorld_below _ _ _
  · obtain ⟨tp, p, hv⟩ := hJ.syn w (Below.refl _ _)
    refine (Any.strconv_Atoi_syntax_var Tryd.laysAtoi (bstr l) (by omega) (by rw [bstr_list]; exact h) tp p w hv).mono ?_
    rintro e w' ⟨N, rfl, _, _, hb⟩
    exact ⟨_, by unfold atV; rw [h], .inr ⟨by unfold atE; rw [h], _, _, rfl⟩, hb⟩
  · obtain ⟨tp, p, hv⟩ := hJ.rng w (Below.refl _ _)
    refine (Any.strconv_Atoi_range_var Tryd.laysAtoi (bstr l) (by omega) (by rw [bstr_list]; exact h) tp p w hv).mono ?_
    rintro e w' ⟨N, rfl, _, _, hb⟩
    exact ⟨_, by unfold atV; rw [h, bstr_list], .inr ⟨by unfold atE; rw [h], _, _, rfl⟩, hb⟩
theorem rd_two {l : List UInt8} {b : Bool} {w : World} {g : Nat} (hb : Blk w g 44 #[.string (bstr l), .bool b]) (d : ByteArray) (x : Bool) :
    Blk ((w.setCell ⟨g, 0, none⟩ (.string d)).setCell ⟨g, 1, none⟩ (.bool x)).drew g 44 #[.string d, .bool x] ∧ Rt w g ((w.setCell ⟨g, 0, none⟩ (.string d)).setCell ⟨g, 1, none⟩ (.bool x)).drew :=
  ⟨(hb.set_ 0 (.string d)).set_ 1 (.bool x), ((Rt.set_ _ _ _ _).trans (Rt.set_ _ _ _ _)).trans (Rt.new ((Below.refl _ _).drew))⟩
theorem numL_nil : numL [] = 0 := rfl
theorem numL_cons (c : UInt8) (r : List UInt8) : numL (c :: r) = if numCh c = true then numL r + 1 else 0 := by
  unfold numL
  rw [List.takeWhile_cons]
  split <;> simp
theorem numL_le (l : List UInt8) : numL l ≤ l.length := by
  induction l with
  | nil => exact Nat.le_refl _
  | cons c r ih => rw [numL_cons]; split <;> simp <;> omega
set_option maxHeartbeats 8000000 in
set_option maxRecDepth 100000 in
theorem jnumber_any (B g : Nat) (s : RdS) (hl : s.1.length ≤ 60000) (w : World) (hb : RdB w g s) (hJ : LibJ B w) :
    Calls Tryd.prog 14 #[.pointer (some ⟨g, 0, none⟩)] w fun e w' => e = .returned (.int .i64 (numR s).1) ∧ RdB w' g (numR s).2 ∧ Rt w g w' := by
  have hb : Blk w g 44 #[.string (bstr s.1), .bool s.2] := hb
  have c0 : w.cell? ⟨g, 0, none⟩ = some (.string (bstr s.1)) := hb.cell 0
  have hlt := hb.lt
  have hnl := numL_le s.1
  have hsz : (bstr s.1).size = s.1.length := bstr_size _
  have hext : (bstr s.1).extract 0 (numL s.1) = bstr (s.1.take (numL s.1)) := by
    apply bext; rw [extract_list, bstr_list, bstr_list]; simp
  have hdr := drop_ext s.1 (numL s.1) hnl
  rw [bstr_size] at hdr
  have hat : ∀ k, k < s.1.length → ∀ (h : k < (bstr s.1).size), s.1.drop k = (bstr s.1)[k] :: s.1.drop (k + 1) := by
    intro k hk h
    have := drop_cons (bstr s.1) k h
    rw [bstr_list] at this
    exact this
  have HA := Lib.hid (atoi_any B (s.1.take (numL s.1)) (by simp; omega) w hJ)
  have hN : numR s = (atV (s.1.take (numL s.1)), s.1.drop (numL s.1), s.2 || atE (s.1.take (numL s.1))) := rfl
  rw [hN]
  have HAT := Lib.hid hat
  have HE := Lib.hid hext
  have HD := Lib.hid hdr
  clear hat hext hdr hN hJ
  go_enter Tryd.func14, Tryd.ntmps14
  go_wp2_with fail
  go_loopg [3] (s.1.length + 1) (fun gk i wx => ∃ k : Nat, i = .int .i64 k ∧ k ≤ s.1.length ∧ Hid (numL s.1 = k + numL (s.1.drop k)) ∧ wx = w ∧ s.1.length < gk + k)
  case atStart => exact ⟨0, rfl, by omega, (show numL s.1 = 0 + numL (s.1.drop 0) by simp), rfl, by omega⟩
  case round =>
    obtain ⟨k, rfl, hk, H, rfl, hgk⟩ := hrel
    rw [← HE.out] at HA
    by_cases hkl : k < s.1.length
    · have hks : k < (bstr s.1).size := by omega
      have hd := HAT.out k hkl hks
      have H1 := H.out
      rw [hd, numL_cons] at H1
      have h256 := ((bstr s.1)[k]).toNat_lt
      by_cases hc : numCh (bstr s.1)[k] = true
      · rw [if_pos hc] at H1
        have HH : Hid (numL s.1 = (k + 1) + numL (s.1.drop (k + 1))) := Lib.hid (by rw [H1]; omega)
        have hcc : ((((bstr s.1)[k]).toNat : Int) == 45) = true ∨ ((((bstr s.1)[k]).toNat : Int) == 45) = false ∧ (48 : Int) ≤ (((bstr s.1)[k]).toNat : Int) ∧ (((bstr s.1)[k]).toNat : Int) ≤ 57 := by
          unfold numCh at hc
          simp only [Bool.or_eq_true, beq_iff_eq, Bool.and_eq_true, decide_eq_true_eq, UInt8.le_iff_toNat_le] at hc
          rcases hc with h | ⟨h1, h2⟩
          · left; rw [h]; rfl
          · right
            have h1 : 48 ≤ ((bstr s.1)[k]).toNat := h1
            have h2 : ((bstr s.1)[k]).toNat ≤ 57 := h2
            refine ⟨beq_eq_false_iff_ne.2 (by omega), by omega, by omega⟩
        clear hc H1 H hd
        rcases hcc with a1 | ⟨a1, a2, a3⟩
        all_goals
          go_wp2_with fail
          go_roundg (gk - 1)
          case rel => exact ⟨k + 1, by go_num, by omega, HH, rfl, by omega⟩
          case measure => omega
      · rw [if_neg hc] at H1
        obtain rfl : k = numL s.1 := by omega
        have hcc : ((((bstr s.1)[numL s.1]).toNat : Int) == 45) = false ∧ (¬ (48 : Int) ≤ (((bstr s.1)[numL s.1]).toNat : Int) ∨ (48 : Int) ≤ (((bstr s.1)[numL s.1]).toNat : Int) ∧ ¬ (((bstr s.1)[numL s.1]).toNat : Int) ≤ 57) := by
          unfold numCh at hc
          simp only [Bool.or_eq_true, beq_iff_eq, Bool.and_eq_true, decide_eq_true_eq, UInt8.le_iff_toNat_le, not_or, not_and] at hc
          refine ⟨beq_eq_false_iff_ne.2 (fun h => hc.1 (UInt8.toNat_inj.1 (by simpa using Int.ofNat.inj h))), ?_⟩
          by_cases h : 48 ≤ ((bstr s.1)[numL s.1]).toNat
          · exact .inr ⟨by omega, fun h2 => hc.2 h (show ((bstr s.1)[numL s.1]).toNat ≤ 57 by omega)⟩
          · exact .inl (by omega)
        obtain ⟨a1, a2⟩ := hcc
        clear hc H1 H hd
        rcases a2 with a2 | ⟨a2, a3⟩
        all_goals
          go_wp2_with fail
          refine HA.out.mono ?_
          rintro e w1 ⟨ev, rfl, hev, hB1⟩
          have hb1 : Blk w1 g 44 #[.string (bstr s.1), .bool s.2] := hb.below hB1 hlt
          have hR1 := Rt.new (g := g) hB1
          have z0 : w1.drew.cell? ⟨g, 0, none⟩ = some (.string (bstr s.1)) := hb1.cell 0
          have z1 : w1.drew.cell? ⟨g, 1, none⟩ = some (.bool s.2) := hb1.cell 1
          have y0 : w1.drew.frozen? ⟨g, 0, none⟩ = false := hb1.frozen 0
          have y1 : w1.drew.frozen? ⟨g, 1, none⟩ = false := hb1.frozen 1
          have zz1 : ((w1.setCell ⟨g, 0, none⟩ (.string ((bstr s.1).extract (numL s.1) s.1.length))).drew).cell? ⟨g, 1, none⟩ = some (.bool s.2) := (hb1.set_ 0 _).cell 1
          have yy1 : ((w1.setCell ⟨g, 0, none⟩ (.string ((bstr s.1).extract (numL s.1) s.1.length))).drew).frozen? ⟨g, 1, none⟩ = false := (hb1.set_ 0 _).frozen 1
          have hnl2 : (numL s.1 : Int) ≤ ((bstr s.1).size : Int) := by omega
          have HF := Lib.hid (fun (x : Bool) => rd_two (l := s.1) (b := s.2) (w := w1) (g := g) hb1 (bstr (s.1.drop (numL s.1))) x)
          rw [← HD.out] at HF
          obtain ⟨b, hbb⟩ : ∃ b, b = s.2 := ⟨_, rfl⟩
          rw [← hbb] at hb1 z1 zz1
          have HB := Lib.hid hbb
          clear hbb
          cases b
          · rcases hev with ⟨he, rfl⟩ | ⟨he, tt, pp, rfl⟩
            · have HE2 := Lib.hid he
              clear he
              go_wp2_with fail
              go_big_region
              go_wp2_with fail
              go_ret
              rw [HE2.out, ← HB.out]
              exact ⟨rfl, by unfold RdB; rw [← HD.out]; exact (HF.out false).1, hR1.trans (HF.out false).2⟩
            · have HE2 := Lib.hid he
              clear he
              go_wp2_with fail
              go_big_region
              go_wp2_with fail
              go_ret
              rw [HE2.out, ← HB.out]
              exact ⟨rfl, by unfold RdB; rw [← HD.out]; exact (HF.out true).1, hR1.trans (HF.out true).2⟩
          · go_wp2_with fail
            go_big_region
            go_wp2_with fail
            go_ret
            rw [← HB.out]
            exact ⟨rfl, by unfold RdB; rw [← HD.out]; exact (HF.out true).1, hR1.trans (HF.out true).2⟩
    · have H1 := H.out
      rw [List.drop_of_length_le (by omega)] at H1
      obtain rfl : k = numL s.1 := by rw [H1]; simp [numL]
      clear H1 H
      go_wp2_with fail
      refine HA.out.mono ?_
      rintro e w1 ⟨ev, rfl, hev, hB1⟩
      have hb1 : Blk w1 g 44 #[.string (bstr s.1), .bool s.2] := hb.below hB1 hlt
      have hR1 := Rt.new (g := g) hB1
      have z0 : w1.drew.cell? ⟨g, 0, none⟩ = some (.string (bstr s.1)) := hb1.cell 0
      have z1 : w1.drew.cell? ⟨g, 1, none⟩ = some (.bool s.2) := hb1.cell 1
      have y0 : w1.drew.frozen? ⟨g, 0, none⟩ = false := hb1.frozen 0
      have y1 : w1.drew.frozen? ⟨g, 1, none⟩ = false := hb1.frozen 1
      have zz1 : ((w1.setCell ⟨g, 0, none⟩ (.string ((bstr s.1).extract (numL s.1) s.1.length))).drew).cell? ⟨g, 1, none⟩ = some (.bool s.2) := (hb1.set_ 0 _).cell 1
      have yy1 : ((w1.setCell ⟨g, 0, none⟩ (.string ((bstr s.1).extract (numL s.1) s.1.length))).drew).frozen? ⟨g, 1, none⟩ = false := (hb1.set_ 0 _).frozen 1
      have hnl2 : (numL s.1 : Int) ≤ ((bstr s.1).size : Int) := by omega
      have HF := Lib.hid (fun (x : Bool) => rd_two (l := s.1) (b := s.2) (w := w1) (g := g) hb1 (bstr (s.1.drop (numL s.1))) x)
      rw [← HD.out] at HF
      obtain ⟨b, hbb⟩ : ∃ b, b = s.2 := ⟨_, rfl⟩
      rw [← hbb] at hb1 z1 zz1
      have HB := Lib.hid hbb
      clear hbb
      cases b
      · rcases hev with ⟨he, rfl⟩ | ⟨he, tt, pp, rfl⟩
        · have HE2 := Lib.hid he
          clear he
          go_wp2_with fail
          go_big_region
          go_wp2_with fail
          go_ret
          rw [HE2.out, ← HB.out]
          exact ⟨rfl, by unfold RdB; rw [← HD.out]; exact (HF.out false).1, hR1.trans (HF.out false).2⟩
        · have HE2 := Lib.hid he
          clear he
          go_wp2_with fail
          go_big_region
          go_wp2_with fail
          go_ret
          rw [HE2.out, ← HB.out]
          exact ⟨rfl, by unfold RdB; rw [← HD.out]; exact (HF.out true).1, hR1.trans (HF.out true).2⟩
      · go_wp2_with fail
        go_big_region
        go_wp2_with fail
        go_ret
        rw [← HB.out]
        exact ⟨rfl, by unfold RdB; rw [← HD.out]; exact (HF.out true).1, hR1.trans (HF.out true).2⟩
end Go.Proofs.YtdicoepjkngikaaDoor
