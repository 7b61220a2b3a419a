/-
  Contracts of prim.Text, prim.ReadText.
-/
import Derived.Test.YtbjngeaoimaooaaDoorUtfW
import Derived.Test.YtbjngeaoimaooaaDoorPrimW
import Derived.Test.YtbjngeaoimaooaaDoorPrimL
set_option linter.unusedVariables false
set_option linter.unusedSimpArgs false
namespace Go.Proofs.YtbjngeaoimaooaaDoor
open Go.RowKit
def textE (s : ByteArray) : Nat := if 16 < s.size then 2 else if vT s = true then 0 else 4
def textB (l : List UInt8) : List UInt8 := putN l.length ++ l
theorem textE_0 {s : ByteArray} : textE s = 0 ↔ s.size ≤ 16 ∧ vT s = true := by
  unfold textE
  by_cases h : 16 < s.size
  · rw [if_pos h]; simp; omega
  · rw [if_neg h]
    by_cases h2 : vT s = true
    · rw [if_pos h2]; simp [h2]; omega
    · rw [if_neg h2]; simp [h2]
set_option maxHeartbeats 1000000 in
set_option maxRecDepth 100000 in
theorem text_ok (s : ByteArray) (w : World) (hT : Tabs w) (he : textE s = 0) :
    Calls Tryd.prog 12 #[.string s] w fun e w' => e = .returned (.tuple #[.string (bstr (textB s.data.toList)), .int .i64 0]) ∧ Below w.heap.size w w' := by
  obtain ⟨h16, hv⟩ := textE_0.1 he
  have h1 := valid_any s w (by omega) hT
  rw [hv] at h1
  have H1 := Lib.hid h1
  have hr : (⟨(putN s.size).toArray⟩ : ByteArray) ++ s = bstr (textB s.data.toList) := by
    rw [show (⟨(putN s.size).toArray⟩ : ByteArray) = bstr (putN s.size) from rfl, ← bstr_self s, bstr_append, bstr_self, textB, bl_len]
  have h10 := putN_len10 s.size (by omega)
  have hadd : ∀ W, (Op.stringOp .add (⟨(putN s.size).toArray⟩ : ByteArray) s).run Tryd.prog W = .ok (.string (bstr (textB s.data.toList))) W := fun W => by
    rw [← hr]
    exact run_string_add_sum W _ _ (by have : (⟨(putN s.size).toArray⟩ : ByteArray).size = (putN s.size).length := rfl
                                       omega)
  have hw : IntKind.u64.wrap (s.size : Int) = (s.size : Int) := by rw [IntKind.wrap_u64]; omega
  clear h1 he hv hr
  go_enter Tryd.func12, Tryd.ntmps12
  go_wp2_with fail
  refine H1.out.mono ?_
  rintro e w1 ⟨rfl, hb1⟩
  go_wp2_with fail
  refine (number_any s.size w1 (by omega)).mono ?_
  rintro e w2 ⟨rfl, hb2⟩
  go_wp2_with fail
  go_ret2
  exact ⟨rfl, bthen hb1 hb2⟩
set_option maxHeartbeats 1000000 in
set_option maxRecDepth 100000 in
theorem text_bad (s : ByteArray) (w : World) (hs : s.size ≤ 9223372036854775807) (hT : Tabs w) (he : textE s ≠ 0) :
    Calls Tryd.prog 12 #[.string s] w fun e w' => e = .returned (.tuple #[.string ByteArray.empty, .int .i64 (textE s : Int)]) ∧ Below w.heap.size w w' := by
  by_cases h16 : 16 < s.size
  · have hE : textE s = 2 := by unfold textE; rw [if_pos h16]
    rw [hE]
    clear he hE
    go_enter Tryd.func12, Tryd.ntmps12
    go_wp2_with fail
    go_ret2
    exact ⟨rfl, Below.refl _ _⟩
  · have hv : vT s = false := by
      cases h : vT s
      · rfl
      · exact absurd (textE_0.2 ⟨by omega, h⟩) he
    have hE : textE s = 4 := by unfold textE; rw [if_neg h16, if_neg (by rw [hv]; simp)]
    rw [hE]
    have h1 := valid_any s w hs hT
    rw [hv] at h1
    have H1 := Lib.hid h1
    clear he hE h1 hv
    go_enter Tryd.func12, Tryd.ntmps12
    go_wp2_with fail
    refine H1.out.mono ?_
    rintro e w1 ⟨rfl, hb1⟩
    go_wp2_with fail
    go_ret2
    exact ⟨rfl, hb1⟩
/-- What stands at the front: a text, how far it reaches, the error. -/
def rdT (l : List UInt8) : List UInt8 × Nat × Nat :=
  if (rd l).2.2 ≠ 0 then ([], 0, (rd l).2.2) else if 16 < (rd l).1 then ([], 0, 2) else if l.length < (rd l).2.1 + (rd l).1 then ([], 0, 3) else
  if Lib.validD ((l.drop (rd l).2.1).take (rd l).1) = true then ((l.drop (rd l).2.1).take (rd l).1, (rd l).2.1 + (rd l).1, 0) else ([], 0, 4)
set_option maxHeartbeats 2000000 in
set_option maxRecDepth 100000 in
theorem readText_any (s : ByteArray) (w : World) (hs : s.size ≤ 4611686018427387904) (hT : Tabs w) :
    Calls Tryd.prog 13 #[.string s] w fun e w' => e = .returned (.tuple #[.string (bstr (rdT s.data.toList).1), .int .i64 ((rdT s.data.toList).2.1 : Int), .int .i64 ((rdT s.data.toList).2.2 : Int)]) ∧ Below w.heap.size w w' := by
  have hN := readNumber_any s w
  by_cases h0 : (rd s.data.toList).2.2 = 0
  · obtain ⟨n, k, hr, _, hk1, hk10, hkl, hn, _⟩ := rd_ok _ h0
    have hR : rdT s.data.toList = if 16 < n then ([], 0, 2) else if s.data.toList.length < k + n then ([], 0, 3) else
        if Lib.validD ((s.data.toList.drop k).take n) = true then ((s.data.toList.drop k).take n, k + n, 0) else ([], 0, 4) := by
      unfold rdT
      rw [hr]
      rw [if_neg (by simp)]
    rw [hr] at hN
    simp only [] at hN
    rw [bl_len] at hkl hR
    rw [hR]
    have HN := Lib.hid hN
    clear hN hR h0 hr
    have hw : wrap64 (n : Int) = (n : Int) ∨ 16 < n := by
      rcases Nat.lt_or_ge 16 n with h | h
      · exact .inr h
      · exact .inl (by unfold wrap64; omega)
    by_cases h16 : 16 < n
    · rw [if_pos h16]
      have hi : (16 : Int) < (n : Int) := by omega
      clear hw
      go_enter Tryd.func13, Tryd.ntmps13
      go_wp2_with fail
      refine HN.out.mono ?_
      rintro e w1 ⟨rfl, rfl⟩
      go_wp2_with fail
      go_ret3
      exact ⟨rfl, Below.refl _ _⟩
    · rw [if_neg h16]
      by_cases h3 : s.size < k + n
      · rw [if_pos h3]
        clear hw
        go_enter Tryd.func13, Tryd.ntmps13
        go_wp2_with fail
        refine HN.out.mono ?_
        rintro e w1 ⟨rfl, rfl⟩
        go_wp2_with fail
        go_ret3
        exact ⟨rfl, Below.refl _ _⟩
      · rw [if_neg h3]
        have hx : (s.extract k (k + n)).data.toList = (s.data.toList.drop k).take n := by rw [extract_list]; congr 1; omega
        have hv := valid_any (s.extract k (k + n)) w (by rw [ByteArray.size_extract]; omega) hT
        unfold vT at hv
        rw [hx] at hv
        have hb : bstr ((s.data.toList.drop k).take n) = s.extract k (k + n) := by rw [← hx, bstr_self]
        have i1 : (k : Int) ≤ (k : Int) + (n : Int) := by omega
        have i2 : (k : Int) + (n : Int) ≤ (s.size : Int) := by omega
        cases hV : Lib.validD ((s.data.toList.drop k).take n)
        · rw [if_neg (by simp)]
          rw [hV] at hv
          have HV := Lib.hid hv
          clear hv hx hb hV hw
          go_enter Tryd.func13, Tryd.ntmps13
          go_wp2_with fail
          refine HN.out.mono ?_
          rintro e w1 ⟨rfl, rfl⟩
          go_wp2_with fail
          refine HV.out.mono ?_
          rintro e w1 ⟨rfl, hb1⟩
          go_wp2_with fail
          go_ret3
          exact ⟨rfl, hb1⟩
        · rw [if_pos rfl]
          rw [hV] at hv
          simp only []
          rw [hb]
          have HV := Lib.hid hv
          clear hv hx hb hV hw
          go_enter Tryd.func13, Tryd.ntmps13
          go_wp2_with fail
          refine HN.out.mono ?_
          rintro e w1 ⟨rfl, rfl⟩
          go_wp2_with fail
          refine HV.out.mono ?_
          rintro e w1 ⟨rfl, hb1⟩
          go_wp2_with fail
          go_ret3
          exact ⟨by simp, hb1⟩
  · have hR : rdT s.data.toList = ([], 0, (rd s.data.toList).2.2) := by unfold rdT; rw [if_pos h0]
    rw [hR]
    generalize rd s.data.toList = r at *
    obtain ⟨a, b, c⟩ := r
    simp only [] at hN h0 ⊢
    have h0b : ((c : Int) != 0) = true := by rw [bne_iff_ne]; omega
    have HN := Lib.hid hN
    clear hN hR h0
    go_enter Tryd.func13, Tryd.ntmps13
    go_wp2_with fail
    refine HN.out.mono ?_
    rintro e w1 ⟨rfl, rfl⟩
    go_wp2_with fail
    go_ret3
    exact ⟨rfl, Below.refl _ _⟩
end Go.Proofs.YtbjngeaoimaooaaDoor
