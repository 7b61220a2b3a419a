/-
 Plain: states to be read: texts quoted, numbers, records, rows; and how they are read. No program.
-/
import Derived.Test.YtoepchgoacdodaaDoorStP
import Derived.Lib.ItoaNum
import Derived.Lib.ItoaMem
import Derived.Lib.AtoiAll
import Derived.Lib.AtoiAllCases
set_option linter.unusedVariables false
set_option linter.unusedSimpArgs false
namespace Go.Proofs.YtoepchgoacdodaaDoor
/-! Quoting. -/
def hexD (k : Nat) : UInt8 := if k < 10 then UInt8.ofNat (48 + k) else UInt8.ofNat (87 + k)
def qB (c : UInt8) : List UInt8 :=
 if c = 34 ∨ c = 92 then [92, c] else if c < 32 then [92, 117, 48, 48, hexD (c.toNat / 16), hexD (c.toNat % 16)] else [c]
def quoteI (l : List UInt8) : List UInt8 := l.flatMap qB
def quoteL (l : List UInt8) : List UInt8 := 34 :: (quoteI l ++ [34])
theorem quoteI_nil : quoteI [] = [] := rfl
theorem quoteI_cons (c : UInt8) (l : List UInt8) : quoteI (c :: l) = qB c ++ quoteI l := rfl
theorem quoteI_append (a b : List UInt8) : quoteI (a ++ b) = quoteI a ++ quoteI b := by simp [quoteI]
theorem qB_len (c : UInt8) : 1 ≤ (qB c).length ∧ (qB c).length ≤ 6 := by
 unfold qB; split
 · simp
 · split <;> simp
theorem quoteI_len (l : List UInt8) : l.length ≤ (quoteI l).length ∧ (quoteI l).length ≤ 6 * l.length := by
 induction l with
 | nil => simp [quoteI]
 | cons c l ih => rw [quoteI_cons]; have := qB_len c; simp only [List.length_append, List.length_cons]; omega
theorem quoteL_len (l : List UInt8) : l.length + 2 ≤ (quoteL l).length ∧ (quoteL l).length ≤ 6 * l.length + 2 := by
 have := quoteI_len l; unfold quoteL; simp only [List.length_cons, List.length_append, List.length_nil]; omega
/-! Reading: what is left, and whether it went wrong. -/
abbrev RdS := List UInt8 × Bool
def mustL (p : List UInt8) (s : RdS) : RdS := if s.2 = true then s else if p <+: s.1 then (s.1.drop p.length, false) else (s.1, true)
def numCh (c : UInt8) : Bool := c == 45 || (decide (48 ≤ c) && decide (c ≤ 57))
def numL (l : List UInt8) : Nat := (l.takeWhile numCh).length
def numV (l : List UInt8) : Int := match Lib.atoiAll (l.take (numL l)) with
 | .ok v => v
 | .range => Lib.atoiSat (l.take (numL l))
 | _ => 0
def numE (l : List UInt8) : Bool := match Lib.atoiAll (l.take (numL l)) with
 | .ok _ => false
 | _ => true
def numR (s : RdS) : Int × RdS := (numV s.1, s.1.drop (numL s.1), s.2 || numE s.1)
def hexV (c : UInt8) : Option Nat :=
 if 48 ≤ c.toNat ∧ c.toNat ≤ 57 then some (c.toNat - 48) else if 97 ≤ c.toNat ∧ c.toNat ≤ 102 then some (c.toNat - 87) else if 65 ≤ c.toNat ∧ c.toNat ≤ 70 then some (c.toNat - 55) else none
/-- Two signs as a number below 256. -/
def hex2 (a b : UInt8) : Option Nat := match hexV a, hexV b with
 | some x, some y => some (16 * x + y)
 | _, _ => none
def bsu : List UInt8 := [92, 117, 48, 48]
/-- The inside of a text, to its end: what was read, what is left, whether it went wrong. -/
def txN : Nat → List UInt8 → List UInt8 → List UInt8 × RdS
 | 0, l, acc => (acc, l, true)
 | f + 1, l, acc =>
  if [34] <+: l then (acc, l.drop 1, false)
  else if l = [] then (acc, [], true)
  else if bsu <+: l then
   match l.drop 4 with
   | a :: b :: r => match hex2 a b with
    | some n => txN f r (acc ++ [UInt8.ofNat n])
    | none => (acc ++ [0], r, true)
   | r => (acc, r, true)
  else if [92] <+: l then
   match l.drop 1 with
   | c :: r => txN f r (acc ++ [c])
   | [] => (acc, [], true)
  else match l with
   | c :: r => txN f r (acc ++ [c])
   | [] => (acc, [], true)
def txR (s : RdS) : List UInt8 × RdS :=
 if (mustL [34] s).2 = true then ([], mustL [34] s) else txN ((mustL [34] s).1.length + 1) (mustL [34] s).1 []
/-- A record: its fields' names, and which are numbers. -/
abbrev Spec := List (ByteArray × Bool)
inductive FV where
 | num (n : Int)
 | txt (s : ByteArray)
 deriving DecidableEq
def FV.val : FV → Value
 | .num n => .int .i64 n
 | .txt s => .string s
def FV.isNum : FV → Bool
 | .num _ => true
 | .txt _ => false
/-- Printed fields, each with a comma ahead but the first. -/
def fieldB (name : ByteArray) (v : FV) : List UInt8 := quoteL name.data.toList ++ 58 :: (match v with
 | .num n => Lib.itoa n
 | .txt s => quoteL s.data.toList)
def fieldsB : Bool → List (ByteArray × FV) → List UInt8
 | _, [] => []
 | c, (n, v) :: r => (if c = true then [44] else []) ++ (fieldB n v ++ fieldsB true r)
def objB (l : List (ByteArray × FV)) : List UInt8 := 123 :: (fieldsB false l ++ [125])
/-- Fields read. -/
def fieldR (name : ByteArray) (isN : Bool) (s : RdS) : FV × RdS :=
 let t := mustL (quoteL name.data.toList ++ [58]) s
 if isN = true then (.num (numR t).1, (numR t).2) else (.txt ⟨(txR t).1.toArray⟩, (txR t).2)
def fieldsR : Bool → Spec → RdS → List FV × RdS
 | _, [], s => ([], s)
 | c, (n, k) :: r, s =>
  let x := fieldR n k (if c = true then mustL [44] s else s)
  let y := fieldsR true r x.2
  (x.1 :: y.1, y.2)
def objR (p : Spec) (s : RdS) : List FV × RdS :=
 let y := fieldsR false p (mustL [123] s)
 (y.1, mustL [125] y.2)
/-! Rows. -/
def rowsJ (c : Bool) : List (List UInt8) → List UInt8
 | [] => []
 | x :: r => (if c = true then [44] else []) ++ (x ++ rowsJ true r)
def arrB (name : ByteArray) (l : List (List UInt8)) : List UInt8 := 44 :: (quoteL name.data.toList ++ (58 :: 91 :: (rowsJ false l ++ [93])))
def elN (p : Spec) : Nat → List UInt8 → List (List FV) → List (List FV) × RdS
 | 0, l, acc => (acc, l, true)
 | f + 1, l, acc =>
  if [93] <+: l then (acc, l.drop 1, false)
  else
   let x := objR p (if acc ≠ [] then mustL [44] (l, false) else (l, false))
   if x.2.2 = true then (acc ++ [x.1], x.2.1, true) else elN p f x.2.1 (acc ++ [x.1])
def elR (p : Spec) (name : ByteArray) (s : RdS) : List (List FV) × RdS :=
 let t := mustL (44 :: (quoteL name.data.toList ++ [58, 91])) s
 if t.2 = true then ([], t) else elN p (t.1.length + 1) t.1 []
/-! Nothing is put in: what is left is no longer than what there was. -/
theorem mustL_le (p : List UInt8) (s : RdS) : (mustL p s).1.length ≤ s.1.length := by
 unfold mustL; split
 · exact Nat.le_refl _
 · split
   · simp
   · exact Nat.le_refl _
theorem mustL_ok {p : List UInt8} {s : RdS} (h : (mustL p s).2 = false) : s.2 = false ∧ s.1 = p ++ (mustL p s).1 := by
 unfold mustL at h ⊢
 by_cases h1 : s.2 = true
 · rw [if_pos h1] at h; rw [h] at h1; cases h1
 · rw [if_neg h1] at h ⊢
   by_cases h2 : p <+: s.1
   · rw [if_pos h2]; obtain ⟨t, ht⟩ := h2; exact ⟨by simpa using h1, by rw [← ht]; simp⟩
   · rw [if_neg h2] at h; cases h
theorem mustL_app (p m : List UInt8) : mustL p (p ++ m, false) = (m, false) := by
 unfold mustL; simp
theorem mustL_wrong (p l : List UInt8) : mustL p (l, true) = (l, true) := by unfold mustL; simp
theorem txN_le (f : Nat) (l acc : List UInt8) : (txN f l acc).2.1.length ≤ l.length := by
 induction f generalizing l acc with
 | zero => simp [txN]
 | succ f ih =>
  unfold txN
  split
  · simp
  · split
    · simp
    · split
      · split
        · rename_i a b r hd
          have hl : r.length + 2 = (l.drop 4).length := by rw [hd]; rfl
          simp at hl
          split
          · have := ih r (acc ++ [UInt8.ofNat ‹Nat›]); omega
          · show r.length ≤ _; omega
        · simp
      · split
        · split
          · rename_i c r hd
            have hl : r.length + 1 = (l.drop 1).length := by rw [hd]; rfl
            simp at hl
            have := ih r (acc ++ [c]); omega
          · simp
        · split
          · rename_i c r _ _ _ _
            have := ih r (acc ++ [c]); simp; omega
          · simp
theorem txR_le (s : RdS) : (txR s).2.1.length ≤ s.1.length := by
 unfold txR; have h0 := mustL_le [34] s; split
 · exact h0
 · exact Nat.le_trans (txN_le _ _ _) h0
theorem fieldR_le (n : ByteArray) (k : Bool) (s : RdS) : (fieldR n k s).2.1.length ≤ s.1.length := by
 unfold fieldR; have h0 := mustL_le (quoteL n.data.toList ++ [58]) s
 dsimp only
 split
 · simp only [numR, List.length_drop]; omega
 · exact Nat.le_trans (txR_le _) h0
theorem fieldsR_le (c : Bool) (p : Spec) (s : RdS) : (fieldsR c p s).2.1.length ≤ s.1.length := by
 induction p generalizing c s with
 | nil => exact Nat.le_refl _
 | cons x p ih =>
  obtain ⟨n, k⟩ := x
  show (fieldsR true p _).2.1.length ≤ _
  refine Nat.le_trans (ih true _) (Nat.le_trans (fieldR_le _ _ _) ?_)
  split
  · exact mustL_le _ _
  · exact Nat.le_refl _
theorem objR_lt (p : Spec) (s : RdS) (h : (objR p s).2.2 = false) : (objR p s).2.1.length < s.1.length := by
 have h1 := mustL_ok (p := [125]) (s := (fieldsR false p (mustL [123] s)).2) h
 have h2 := congrArg List.length h1.2
 have h3 := fieldsR_le false p (mustL [123] s)
 have h4 := mustL_le [123] s
 simp only [List.length_append, List.length_cons, List.length_nil] at h2
 show (mustL [125] (fieldsR false p (mustL [123] s)).2).1.length < _
 omega
theorem fieldsR_len (c : Bool) (p : Spec) (s : RdS) : (fieldsR c p s).1.length = p.length := by
 induction p generalizing c s with
 | nil => rfl
 | cons x p ih => obtain ⟨n, k⟩ := x; show (_ :: (fieldsR true p _).1).length = _; simp [ih]
/-- What was read has the kinds that it should have. -/
theorem fieldsR_kind (c : Bool) (p : Spec) (s : RdS) : (fieldsR c p s).1.map FV.isNum = p.map (·.2) := by
 induction p generalizing c s with
 | nil => rfl
 | cons x p ih =>
  obtain ⟨n, k⟩ := x
  show ((fieldR n k _).1 :: (fieldsR true p _).1).map FV.isNum = _
  rw [List.map_cons, ih, List.map_cons]
  congr 1
  unfold fieldR
  cases k <;> rfl
/-! What was printed is read. -/
theorem atoi_digits (u : Nat) (r : List UInt8) (acc : Nat) : ∀ k, u < 10 ^ (k + 1) → acc * 10 ^ (Lib.nDigits u) + u < 18446744073709551616 → Lib.parseUint10 acc (Lib.decDigits u ++ r) = Lib.parseUint10 (acc * 10 ^ (Lib.nDigits u) + u) r := by
 induction u using Nat.strongRecOn generalizing r acc with
 | _ u ih =>
  intro k hk hb
  have hdig : ∀ (a d : Nat) (r : List UInt8), d < 10 → a * 10 + d < 18446744073709551616 → Lib.parseUint10 a (UInt8.ofNat (48 + d) :: r) = Lib.parseUint10 (a * 10 + d) r := by
   intro a d r hd hlt
   have e : (UInt8.ofNat (48 + d)).toNat = 48 + d := by simp only [UInt8.toNat_ofNat']; omega
   rw [Lib.parseUint10]
   simp only [e]
   rw [if_pos (by omega), if_neg (by omega), if_neg (by omega)]
   congr 1; omega
  by_cases h : u < 10
  · rw [Lib.decDigits, dif_pos h, Lib.nDigits_small h] at *
    simpa using hdig acc u r h (by simpa using hb)
  · rw [Lib.decDigits, dif_neg h, Lib.nDigits_big h, List.append_assoc]
    rw [Lib.nDigits_big h, Nat.pow_succ] at hb
    have hk' : u / 10 < 10 ^ (k - 1 + 1) := by
     have : 1 ≤ k := by
      rcases Nat.eq_zero_or_pos k with rfl | h0
      · simp at hk; omega
      · exact h0
     rw [show k - 1 + 1 = k by omega]; rw [Nat.pow_succ] at hk; omega
    have hm : acc * (10 ^ Lib.nDigits (u / 10) * 10) = acc * 10 ^ Lib.nDigits (u / 10) * 10 := by rw [Nat.mul_assoc]
    rw [ih (u / 10) (by omega) _ _ (k - 1) hk' (by omega)]
    rw [List.singleton_append, hdig _ (u % 10) r (by omega) (by omega), Nat.pow_succ]
    congr 1; omega
theorem decDigits_num (u : Nat) : ∀ c ∈ Lib.decDigits u, numCh c = true ∧ c.toNat ≠ 45 ∧ c.toNat ≠ 43 := by
 induction u using Nat.strongRecOn with
 | _ u ih =>
  have hd : ∀ d < 10, numCh (UInt8.ofNat (48 + d)) = true ∧ (UInt8.ofNat (48 + d)).toNat ≠ 45 ∧ (UInt8.ofNat (48 + d)).toNat ≠ 43 := by decide
  by_cases h : u < 10
  · rw [Lib.decDigits, dif_pos h]; intro c hc; simp only [List.mem_singleton] at hc; subst hc; exact hd u h
  · rw [Lib.decDigits, dif_neg h]; intro c hc
    simp only [List.mem_append, List.mem_singleton] at hc
    rcases hc with hc | rfl
    · exact ih _ (by omega) c hc
    · exact hd _ (by omega)
theorem decDigits_ne (u : Nat) : Lib.decDigits u ≠ [] := by
 intro h; have := congrArg List.length h; rw [Lib.decDigits_length] at this; have := Lib.nDigits_pos u; simp at *; omega
theorem itoa_num (n : Int) : ∀ c ∈ Lib.itoa n, numCh c = true := by
 unfold Lib.itoa; split
 · intro c hc; simp only [List.mem_cons] at hc
   rcases hc with rfl | hc
   · decide
   · exact (decDigits_num _ c hc).1
 · intro c hc; exact (decDigits_num _ c hc).1
theorem atoi_itoa (n : Int) (h1 : -9223372036854775808 ≤ n) (h2 : n ≤ 9223372036854775807) : Lib.atoiAll (Lib.itoa n) = .ok n := by
 have hpm : ∀ u : Nat, u < 18446744073709551616 → Lib.parseMag (Lib.decDigits u) = .ok u := by
  intro u hu
  unfold Lib.parseMag
  rw [if_neg (decDigits_ne u)]
  have := atoi_digits u [] 0 19 (by omega) (by omega)
  rw [List.append_nil] at this
  rw [this]; simp [Lib.parseUint10]
 unfold Lib.itoa
 split
 · unfold Lib.atoiAll
   simp only
   rw [if_pos (Or.inr (by decide)), hpm _ (by omega)]
   simp only
   rw [if_neg (by simp), if_neg (by omega), if_pos (by decide)]
   congr 1; omega
 · cases hd : Lib.decDigits n.toNat with
   | nil => exact absurd hd (decDigits_ne _)
   | cons c r =>
    have hc := decDigits_num n.toNat c (by rw [hd]; simp)
    unfold Lib.atoiAll
    simp only
    rw [if_neg (by omega), ← hd, hpm _ (by omega)]
    simp only
    rw [if_neg (by omega), if_neg (by omega), if_neg (by omega)]
    congr 1; omega
theorem takeWhile_app {p : UInt8 → Bool} {a m : List UInt8} (ha : ∀ c ∈ a, p c = true) (hm : ∀ c, m.head? = some c → p c = false) : (a ++ m).takeWhile p = a := by
 induction a with
 | nil => cases m with
  | nil => rfl
  | cons c m => simp [hm c rfl]
 | cons c a ih => rw [List.cons_append, List.takeWhile_cons, if_pos (ha c (by simp)), ih (fun d hd => ha d (by simp [hd]))]
theorem numR_app (n : Int) (h1 : -9223372036854775808 ≤ n) (h2 : n ≤ 9223372036854775807) (m : List UInt8) (hm : ∀ c, m.head? = some c → numCh c = false) : numR (Lib.itoa n ++ m, false) = (n, m, false) := by
 have hl : numL (Lib.itoa n ++ m) = (Lib.itoa n).length := by unfold numL; rw [takeWhile_app (itoa_num n) hm]
 have ht : (Lib.itoa n ++ m).take (numL (Lib.itoa n ++ m)) = Lib.itoa n := by rw [hl]; simp
 unfold numR numV numE
 simp only
 rw [ht, atoi_itoa n h1 h2, hl]
 simp
theorem hex_hexD : ∀ a < 16, ∀ b < 16, hex2 (hexD a) (hexD b) = some (16 * a + b) := by decide
theorem txN_qB (c : UInt8) (f : Nat) (m acc : List UInt8) : txN (f + 1) (qB c ++ m) acc = txN f m (acc ++ [c]) := by
 unfold qB
 by_cases h : c = 34 ∨ c = 92
 · rw [if_pos h]
   rcases h with rfl | rfl
   · rw [txN.eq_def]; simp [bsu]
   · rw [txN.eq_def]; simp [bsu]
 · rw [if_neg h]
   have h34 : c ≠ 34 := fun e => h (.inl e)
   have h92 : c ≠ 92 := fun e => h (.inr e)
   by_cases hs : c < 32
   · rw [if_pos hs]
     have hc : c.toNat < 32 := by simpa [UInt8.lt_iff_toNat_lt] using hs
     have he := hex_hexD (c.toNat / 16) (by omega) (c.toNat % 16) (by omega)
     have hn : 16 * (c.toNat / 16) + c.toNat % 16 = c.toNat := by omega
     rw [hn] at he
     rw [txN.eq_def]
     simp [bsu, he]
   · rw [if_neg hs, txN.eq_def]
     simp only
     have e1 : ¬ [34] <+: [c] ++ m := by simp [Ne.symm h34]
     have e2 : ¬ [92] <+: [c] ++ m := by simp [Ne.symm h92]
     have e3 : ¬ bsu <+: [c] ++ m := by simp [bsu, Ne.symm h92]
     rw [if_neg e1, if_neg (by simp), if_neg e3, if_neg e2]
     rfl
theorem txN_app (s m acc : List UInt8) (f : Nat) (hf : s.length < f) : txN f (quoteI s ++ 34 :: m) acc = (acc ++ s, m, false) := by
 induction s generalizing f acc with
 | nil =>
  obtain ⟨f, rfl⟩ : ∃ k, f = k + 1 := ⟨f - 1, by simp at hf; omega⟩
  rw [quoteI_nil, txN.eq_def]; simp
 | cons c s ih =>
  obtain ⟨f, rfl⟩ : ∃ k, f = k + 1 := ⟨f - 1, by simp at hf; omega⟩
  rw [quoteI_cons, List.append_assoc, txN_qB, ih _ _ (by simp at hf; omega)]
  simp
theorem txR_app (s m : List UInt8) : txR (quoteL s ++ m, false) = (s, m, false) := by
 have e : mustL [34] (quoteL s ++ m, false) = (quoteI s ++ 34 :: m, false) := by
  have := mustL_app [34] (quoteI s ++ 34 :: m)
  rw [← this]; congr 2; simp [quoteL]
 unfold txR
 rw [e, if_neg (by simp)]
 have := txN_app s m [] ((quoteI s ++ 34 :: m).length + 1) (by have := quoteI_len s; simp; omega)
 simpa using this
def FV.ok : FV → Prop
 | .num n => -9223372036854775808 ≤ n ∧ n ≤ 9223372036854775807
 | .txt _ => True
def sep (m : List UInt8) : Prop := ∀ c, m.head? = some c → numCh c = false
theorem fieldR_app (n : ByteArray) (v : FV) (hv : v.ok) (m : List UInt8) (hm : sep m) : fieldR n v.isNum (fieldB n v ++ m, false) = (v, m, false) := by
 unfold fieldR fieldB
 cases v with
 | num k =>
  have e : mustL (quoteL n.data.toList ++ [58]) (quoteL n.data.toList ++ 58 :: Lib.itoa k ++ m, false) = (Lib.itoa k ++ m, false) := by
   rw [← mustL_app (quoteL n.data.toList ++ [58]) (Lib.itoa k ++ m)]; congr 2; simp
  simp only [FV.isNum]
  rw [e, numR_app k hv.1 hv.2 m hm]
  rfl
 | txt s =>
  have e : mustL (quoteL n.data.toList ++ [58]) (quoteL n.data.toList ++ 58 :: quoteL s.data.toList ++ m, false) = (quoteL s.data.toList ++ m, false) := by
   rw [← mustL_app (quoteL n.data.toList ++ [58]) (quoteL s.data.toList ++ m)]; congr 2; simp
  simp only [FV.isNum]
  rw [e, txR_app]
  simp
theorem sep_cons {c : UInt8} (h : numCh c = false) (m : List UInt8) : sep (c :: m) := by intro d hd; simp at hd; subst hd; exact h
theorem fieldsR_app (c : Bool) (l : List (ByteArray × FV)) (hl : ∀ x ∈ l, x.2.ok) (m : List UInt8) (hm : sep m) : fieldsR c (l.map fun x => (x.1, x.2.isNum)) (fieldsB c l ++ m, false) = (l.map (·.2), m, false) := by
 induction l generalizing c with
 | nil => rfl
 | cons x l ih =>
  obtain ⟨n, v⟩ := x
  have hs : sep (fieldsB true l ++ m) := by
   cases l with
   | nil => exact hm
   | cons y l => exact sep_cons (by decide) _
  have e1 : (if c = true then mustL [44] (fieldsB c ((n, v) :: l) ++ m, false) else (fieldsB c ((n, v) :: l) ++ m, false)) = (fieldB n v ++ (fieldsB true l ++ m), false) := by
   cases c
   · simp [fieldsB]
   · rw [if_pos rfl, ← mustL_app [44] (fieldB n v ++ (fieldsB true l ++ m))]; congr 2; simp [fieldsB]
  rw [List.map_cons]
  show (let x := fieldR n v.isNum (if c = true then mustL [44] (fieldsB c ((n, v) :: l) ++ m, false) else (fieldsB c ((n, v) :: l) ++ m, false)); let y := fieldsR true _ x.2; (x.1 :: y.1, y.2)) = _
  rw [e1, fieldR_app n v (hl (n, v) (by simp)) _ hs]
  simp only
  rw [ih true (fun x hx => hl x (by simp [hx]))]
  rfl
theorem objR_app (l : List (ByteArray × FV)) (hl : ∀ x ∈ l, x.2.ok) (m : List UInt8) : objR (l.map fun x => (x.1, x.2.isNum)) (objB l ++ m, false) = (l.map (·.2), m, false) := by
 have e : mustL [123] (objB l ++ m, false) = (fieldsB false l ++ 125 :: m, false) := by
  rw [← mustL_app [123] (fieldsB false l ++ 125 :: m)]; congr 2; simp [objB]
 unfold objR
 simp only
 rw [e, fieldsR_app false l hl _ (sep_cons (by decide) _)]
 simp only
 rw [show (125 :: m, false) = (([125] ++ m, false) : RdS) from rfl, mustL_app]
theorem objB_head (l : List (ByteArray × FV)) : ∃ r, objB l = 123 :: r := ⟨_, rfl⟩
/-- Rows of one spec. -/
theorem elN_app (p : Spec) (ls : List (List (ByteArray × FV))) (hp : ∀ l ∈ ls, (l.map fun x => (x.1, x.2.isNum)) = p) (hl : ∀ l ∈ ls, ∀ x ∈ l, x.2.ok) (m : List UInt8) (acc : List (List FV)) (f : Nat) (hf : ls.length < f) :
  elN p f (rowsJ (!acc.isEmpty) (ls.map objB) ++ 93 :: m) acc = (acc ++ ls.map (fun l => l.map (·.2)), m, false) := by
 induction ls generalizing acc f with
 | nil =>
  obtain ⟨f, rfl⟩ : ∃ k, f = k + 1 := ⟨f - 1, by simp at hf; omega⟩
  rw [elN]; simp [rowsJ]
 | cons l ls ih =>
  obtain ⟨f, rfl⟩ : ∃ k, f = k + 1 := ⟨f - 1, by simp at hf; omega⟩
  have e1 : (if acc ≠ [] then mustL [44] (rowsJ (!acc.isEmpty) ((l :: ls).map objB) ++ 93 :: m, false) else (rowsJ (!acc.isEmpty) ((l :: ls).map objB) ++ 93 :: m, false)) = (objB l ++ (rowsJ true (ls.map objB) ++ 93 :: m), false) := by
   cases acc with
   | nil => simp [rowsJ]
   | cons y acc => rw [if_pos (by simp), ← mustL_app [44] (objB l ++ (rowsJ true (ls.map objB) ++ 93 :: m))]; congr 2; simp [rowsJ]
  have e2 : ¬ [93] <+: rowsJ (!acc.isEmpty) ((l :: ls).map objB) ++ 93 :: m := by
   cases acc with
   | nil => simp [rowsJ, objB]
   | cons y acc => simp [rowsJ]
  rw [elN, if_neg e2]
  simp only
  rw [e1]
  have := objR_app l (hl l (by simp)) (rowsJ true (ls.map objB) ++ 93 :: m)
  rw [hp l (by simp)] at this
  rw [this]
  simp only
  rw [if_neg (by simp)]
  have h3 := ih (fun l hl => hp l (by simp [hl])) (fun l h => hl l (by simp [h])) (acc ++ [l.map (·.2)]) f (by simp at hf; omega)
  rw [show (!(acc ++ [l.map (·.2)]).isEmpty) = true by simp] at h3
  rw [h3]
  simp
theorem rowsJ_len (c : Bool) (ls : List (List (ByteArray × FV))) : ls.length ≤ (rowsJ c (ls.map objB)).length := by
 induction ls generalizing c with
 | nil => simp [rowsJ]
 | cons l ls ih => have := ih true; simp [rowsJ, objB]; omega
theorem elR_app (p : Spec) (name : ByteArray) (ls : List (List (ByteArray × FV))) (hp : ∀ l ∈ ls, (l.map fun x => (x.1, x.2.isNum)) = p) (hl : ∀ l ∈ ls, ∀ x ∈ l, x.2.ok) (m : List UInt8) :
  elR p name (arrB name (ls.map objB) ++ m, false) = (ls.map (fun l => l.map (·.2)), m, false) := by
 have e : mustL (44 :: (quoteL name.data.toList ++ [58, 91])) (arrB name (ls.map objB) ++ m, false) = (rowsJ false (ls.map objB) ++ 93 :: m, false) := by
  rw [← mustL_app (44 :: (quoteL name.data.toList ++ [58, 91])) (rowsJ false (ls.map objB) ++ 93 :: m)]; congr 2; simp [arrB]
 unfold elR
 simp only
 rw [e, if_neg (by simp)]
 have := elN_app p ls hp hl m [] ((rowsJ false (ls.map objB) ++ 93 :: m).length + 1) (by have := rowsJ_len false ls; simp; omega)
 simpa using this
end Go.Proofs.YtoepchgoacdodaaDoor
