/-
  Plain laws of a feed: what it returns, encoded, is what it has read; how it goes on; encodings one behind the other.
-/
import Derived.Test.YtbjngeaoimaooaaFeedP
set_option linter.unusedVariables false
set_option linter.unusedSimpArgs false
namespace Go.Proofs.Ytbjngeaoimaooaa

theorem rdN_more : ∀ (f i n : Nat) (l m : List UInt8), (rdN f i n l).2.2 ≠ 3 → rdN f i n (l ++ m) = rdN f i n l
  | 0, _, _, _, _, _ => rfl
  | f + 1, i, n, [], m, h => absurd rfl h
  | f + 1, i, n, c :: r, m, h => by
    simp only [rdN, List.cons_append] at h ⊢
    by_cases hb : (i = 9 ∧ 1 < c.toNat) ∨ (0 < i ∧ c.toNat = 0)
    · rw [if_pos hb, if_pos hb]
    · rw [if_neg hb] at h ⊢
      rw [if_neg hb]
      by_cases h1 : c.toNat < 128
      · rw [if_pos h1, if_pos h1]
      · rw [if_neg h1] at h ⊢
        rw [if_neg h1]
        exact rdN_more f (i + 1) _ r m h
theorem rd_more (l m : List UInt8) (h : (rd l).2.2 ≠ 3) : rd (l ++ m) = rd l := rdN_more _ _ _ _ _ h
theorem rdN_short : ∀ (f i n : Nat) (l : List UInt8), (rdN f i n l).2.2 = 3 → l.length < f
  | 0, _, _, _, h => absurd h (by simp [rdN])
  | f + 1, i, n, [], _ => by simp
  | f + 1, i, n, c :: r, h => by
    simp only [rdN] at h
    by_cases hb : (i = 9 ∧ 1 < c.toNat) ∨ (0 < i ∧ c.toNat = 0)
    · rw [if_pos hb] at h; exact absurd h (by simp)
    · rw [if_neg hb] at h
      by_cases h1 : c.toNat < 128
      · rw [if_pos h1] at h; exact absurd h (by simp)
      · rw [if_neg h1] at h
        have := rdN_short f (i + 1) _ r h
        simp only [List.length_cons]; omega
theorem rd_short (l : List UInt8) (h : (rd l).2.2 = 3) : l.length < 10 := rdN_short _ _ _ _ h
theorem hdE_more : ∀ (f i : Nat) (l m : List UInt8), hdE f i l ≠ 0 → hdE f i (l ++ m) = hdE f i l
  | 0, _, _, _, h => absurd rfl h
  | f + 1, _, [], _, h => absurd rfl h
  | f + 1, i, c :: r, m, h => by
    simp only [hdE, List.cons_append] at h ⊢
    by_cases hb : badAt i c = 0
    · rw [if_pos hb] at h ⊢; rw [if_pos hb]; exact hdE_more f (i + 1) r m h
    · rw [if_neg hb, if_neg hb]
theorem hdE_full : ∀ (f i : Nat) (l m : List UInt8), f ≤ l.length → hdE f i (l ++ m) = hdE f i l
  | 0, _, _, _, _ => rfl
  | f + 1, _, [], _, h => absurd h (by simp)
  | f + 1, i, c :: r, m, h => by
    simp only [hdE, List.cons_append]
    rw [hdE_full f (i + 1) r m (by simp only [List.length_cons] at h; omega)]
theorem badAt_3 (i : Nat) (c : UInt8) : badAt i c ≠ 3 := by unfold badAt; (repeat' split) <;> decide
theorem hdE_3 : ∀ (f i : Nat) (l : List UInt8), hdE f i l ≠ 3
  | 0, _, _ => by simp [hdE]
  | f + 1, _, [] => by simp [hdE]
  | f + 1, i, c :: r => by
    simp only [hdE]
    by_cases hb : badAt i c = 0
    · rw [if_pos hb]; exact hdE_3 f _ r
    · rw [if_neg hb]; exact badAt_3 i c

/-- Too few bytes: then there are not many. -/
theorem decF_few (l : List UInt8) (h : (decF l).e = 3) : l.length ≤ 6020 := by
  by_cases h0 : hdE 4 0 l = 0
  · by_cases h4 : l.length < 4
    · omega
    · by_cases hr0 : (rd (l.drop 4)).2.2 = 0
      · obtain ⟨n, k, hr, hp, hk1, hk10, hkl, hn, _⟩ := rd_ok _ hr0
        rw [decF, if_neg (by rw [h0]; simp), if_neg h4, hr] at h
        simp only [] at h
        rw [if_neg (by simp)] at h
        by_cases h6 : 6000 < n
        · rw [if_pos h6] at h; exact absurd h (by decide)
        · rw [if_neg h6] at h
          by_cases h3 : l.length < 4 + k + n + 4
          · omega
          · rw [if_neg h3] at h
            by_cases hs : sum4 (crc (l.take (4 + k + n))) ≠ (l.drop (4 + k + n)).take 4
            · rw [if_pos hs] at h; exact absurd h (by decide)
            · rw [if_neg hs] at h; exact absurd h (by simp)
      · rw [decF, if_neg (by rw [h0]; simp), if_neg h4, if_pos hr0] at h
        have := rd_short _ h
        rw [List.length_drop] at this
        omega
  · rw [decF, if_pos h0] at h; exact absurd h (hdE_3 _ _ _)

theorem decF_eq (l : List UInt8) (n k : Nat) (h0 : hdE 4 0 l = 0) (h4 : ¬ l.length < 4) (hr : rd (l.drop 4) = (n, k, 0)) :
    decF l = if 6000 < n then .err 2 else if l.length < 4 + k + n + 4 then .err 3 else
      if sum4 (crc (l.take (4 + k + n))) ≠ (l.drop (4 + k + n)).take 4 then .err 5 else ⟨0, (l.getD 2 0).toNat, (l.getD 3 0).toNat, (l.drop (4 + k)).take n, 4 + k + n + 4⟩ := by
  rw [decF, if_neg (by rw [h0]; simp), if_neg h4, hr]
  simp only []
  rw [if_neg (by simp)]
/-- What is decided stays so, whatever follows. -/
theorem decF_more (l m : List UInt8) (h : (decF l).e ≠ 3) : decF (l ++ m) = decF l := by
  by_cases h0 : hdE 4 0 l = 0
  · by_cases h4 : l.length < 4
    · rw [decF, if_neg (by rw [h0]; simp), if_pos h4] at h; exact absurd rfl h
    · have hd : (l ++ m).drop 4 = l.drop 4 ++ m := by rw [List.drop_append_of_le_length (by omega)]
      have hh : hdE 4 0 (l ++ m) = 0 := by rw [hdE_full _ _ _ _ (by omega), h0]
      have h4' : ¬ (l ++ m).length < 4 := by rw [List.length_append]; omega
      by_cases hr0 : (rd (l.drop 4)).2.2 = 0
      · obtain ⟨n, k, hr, hp, hk1, hk10, hkl, hn, _⟩ := rd_ok _ hr0
        have hr' : rd ((l ++ m).drop 4) = (n, k, 0) := by rw [hd, rd_more _ _ (by rw [hr]; simp), hr]
        rw [List.length_drop] at hkl
        have e1 := decF_eq l n k h0 h4 hr
        have e2 := decF_eq (l ++ m) n k hh h4' hr'
        by_cases h6 : 6000 < n
        · rw [e1, e2, if_pos h6, if_pos h6]
        · rw [if_neg h6] at e1 e2
          by_cases h3 : l.length < 4 + k + n + 4
          · rw [if_pos h3] at e1; rw [e1] at h; exact absurd rfl h
          · rw [if_neg h3] at e1
            rw [if_neg (by rw [List.length_append]; omega)] at e2
            have f1 : (l ++ m).take (4 + k + n) = l.take (4 + k + n) := List.take_append_of_le_length (by omega)
            have f2 : ((l ++ m).drop (4 + k + n)).take 4 = (l.drop (4 + k + n)).take 4 := by
              rw [List.drop_append_of_le_length (by omega), List.take_append_of_le_length (by rw [List.length_drop]; omega)]
            have f3 : ((l ++ m).drop (4 + k)).take n = (l.drop (4 + k)).take n := by
              rw [List.drop_append_of_le_length (by omega), List.take_append_of_le_length (by rw [List.length_drop]; omega)]
            have f4 : (l ++ m).getD 2 0 = l.getD 2 0 := by simp only [List.getD_eq_getElem?_getD]; rw [List.getElem?_append_left (by omega)]
            have f5 : (l ++ m).getD 3 0 = l.getD 3 0 := by simp only [List.getD_eq_getElem?_getD]; rw [List.getElem?_append_left (by omega)]
            rw [f1, f2, f3, f4, f5] at e2
            rw [e1, e2]
      · have hr3 : (rd (l.drop 4)).2.2 ≠ 3 := by
          intro h3
          rw [decF, if_neg (by rw [h0]; simp), if_neg h4, if_pos hr0] at h
          exact h h3
        have hr' : rd ((l ++ m).drop 4) = rd (l.drop 4) := by rw [hd, rd_more _ _ hr3]
        rw [decF, if_neg (by rw [hh]; simp), if_neg h4', hr', if_pos hr0, decF, if_neg (by rw [h0]; simp), if_neg h4, if_pos hr0]
  · have hm := hdE_more 4 0 l m h0
    rw [decF, hm, if_pos h0, decF, if_pos h0]

def encs (l : List Fr) : List UInt8 := l.flatMap fun x => wireF x.ver x.kind x.pl
theorem encs_append (l r : List Fr) : encs (l ++ r) = encs l ++ encs r := by simp [encs]
theorem encs_cons (x : Fr) (r : List Fr) : encs (x :: r) = wireF x.ver x.kind x.pl ++ encs r := by simp [encs]
theorem encs_nil : encs [] = [] := rfl
def GoodFr (x : Fr) : Prop := (1 ≤ x.ver ∧ x.ver ≤ 3) ∧ (1 ≤ x.kind ∧ x.kind ≤ 4) ∧ x.pl.length ≤ 6000

theorem feedN_encs (f : Nat) (l : List UInt8) : encs (feedN f l).out = l.take (feedN f l).n ∧ ∀ x ∈ (feedN f l).out, GoodFr x := by
  induction f generalizing l with
  | zero => simp [feedN, encs]
  | succ f ih =>
    unfold feedN
    by_cases h : (decF l).e = 0
    · obtain ⟨h1, h2, h3, h4, h5⟩ := decF_inv l h
      obtain ⟨g1, g2⟩ := ih (l.drop (decF l).n)
      rw [if_pos h]
      refine ⟨?_, ?_⟩
      · show encs (_ :: _) = _
        rw [encs_cons, g1, h4, ← List.take_add]
      · intro x hx
        rcases List.mem_cons.1 hx with rfl | hx
        · exact ⟨h1, h2, h3⟩
        · exact g2 x hx
    · rw [if_neg h]
      simp [encs]
theorem feedF_encs (l : List UInt8) : encs (feedF l).out = l.take (feedF l).n ∧ ∀ x ∈ (feedF l).out, GoodFr x := feedN_encs _ _
theorem feedF_encs_len (l : List UInt8) : (encs (feedF l).out).length = (feedF l).n := by
  rw [(feedF_encs l).1, List.length_take]
  have := feedF_n l
  omega
/-- Where it stops: there no frame stands. -/
theorem feedN_stop (f : Nat) (l : List UInt8) (hf : l.length < f) : (decF (l.drop (feedN f l).n)).e = (feedN f l).e := by
  induction f generalizing l with
  | zero => omega
  | succ f ih =>
    unfold feedN
    by_cases h : (decF l).e = 0
    · have hp := decF_pos l h
      have hi := (decF_inv l h).2.2.2.2
      rw [if_pos h]
      show (decF (l.drop ((decF l).n + (feedN f (l.drop (decF l).n)).n))).e = _
      rw [← List.drop_drop]
      exact ih _ (by rw [List.length_drop]; omega)
    · rw [if_neg h]
      simp
theorem feedF_stop (l : List UInt8) : (decF (l.drop (feedF l).n)).e = (feedF l).e := feedN_stop _ _ (by omega)
theorem feedF_left (l : List UInt8) (h : (feedF l).e = 3) : (l.drop (feedF l).n).length ≤ 6020 := decF_few _ (by rw [feedF_stop, h])

theorem feedN_e_ (l : List UInt8) : (feedF l).e ≠ 0 := by
  have : ∀ (f : Nat) (l : List UInt8), (feedN f l).e ≠ 0 := by
    intro f
    induction f with
    | zero => simp [feedN]
    | succ f ih =>
      intro l
      unfold feedN
      by_cases h : (decF l).e = 0
      · rw [if_pos h]; exact ih _
      · rw [if_neg h]; exact h
  exact this _ _
/-- One frame behind what is read. -/
theorem feedF_wire (x : Fr) (hx : GoodFr x) (l : List UInt8) : feedF (wireF x.ver x.kind x.pl ++ l) = ⟨x :: (feedF l).out, (wireF x.ver x.kind x.pl).length + (feedF l).n, (feedF l).e⟩ := by
  have h := decF_wire x.ver x.kind x.pl l hx.1 hx.2.1 hx.2.2
  rw [feedF_ok _ (by rw [h]), h]
  simp
theorem feedF_encs_append (fs : List Fr) (hg : ∀ x ∈ fs, GoodFr x) (l : List UInt8) : feedF (encs fs ++ l) = ⟨fs ++ (feedF l).out, (encs fs).length + (feedF l).n, (feedF l).e⟩ := by
  induction fs with
  | nil => simp [encs]
  | cons x r ih =>
    rw [encs_cons, List.append_assoc, feedF_wire x (hg x (by simp)), ih fun y hy => hg y (by simp [hy])]
    simp [Nat.add_assoc]
theorem decF_nil : decF [] = .err 3 := rfl
theorem feedF_nil0 : feedF [] = ⟨[], 0, 3⟩ := by rw [feedF_bad _ (by rw [decF_nil]; decide), decF_nil]; rfl
theorem feedF_all (fs : List Fr) (hg : ∀ x ∈ fs, GoodFr x) : feedF (encs fs) = ⟨fs, (encs fs).length, 3⟩ := by
  have h := feedF_encs_append fs hg []
  rw [List.append_nil, feedF_nil0] at h
  simpa using h
/-- Behind more bytes: it goes on where it stood; what stopped it stops it still. -/
theorem feedF_more (l m : List UInt8) : feedF (l ++ m) = if (feedF l).e = 3 then ⟨(feedF l).out ++ (feedF (l.drop (feedF l).n ++ m)).out, (feedF l).n + (feedF (l.drop (feedF l).n ++ m)).n, (feedF (l.drop (feedF l).n ++ m)).e⟩ else feedF l := by
  obtain ⟨h1, h2⟩ := feedF_encs l
  have hlen := feedF_encs_len l
  have hl : l = encs (feedF l).out ++ l.drop (feedF l).n := by rw [h1, List.take_append_drop]
  have hs := feedF_stop l
  have he := feedN_e_ l
  have key : feedF (l ++ m) = ⟨(feedF l).out ++ (feedF (l.drop (feedF l).n ++ m)).out, (feedF l).n + (feedF (l.drop (feedF l).n ++ m)).n, (feedF (l.drop (feedF l).n ++ m)).e⟩ := by
    have h3 := feedF_encs_append (feedF l).out h2 (l.drop (feedF l).n ++ m)
    rw [← List.append_assoc, ← hl, hlen] at h3
    exact h3
  by_cases h3 : (feedF l).e = 3
  · rw [if_pos h3]; exact key
  · rw [if_neg h3, key]
    have hd : decF (l.drop (feedF l).n ++ m) = decF (l.drop (feedF l).n) := decF_more _ _ (by rw [hs]; exact h3)
    rw [feedF_bad (l.drop (feedF l).n ++ m) (by rw [hd, hs]; exact he), hd, hs]
    simp
end Go.Proofs.Ytbjngeaoimaooaa
