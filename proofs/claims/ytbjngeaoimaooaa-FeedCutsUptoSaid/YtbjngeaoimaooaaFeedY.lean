/-
  The laws' own fact 'fed' of the feeds.
-/
import Derived.Test.YtbjngeaoimaooaaFeedX
set_option linter.unusedVariables false
set_option linter.unusedSimpArgs false
namespace Go.Proofs.Ytbjngeaoimaooaa
open Go.RowKit
theorem Asd.toBelow {w w' : World} {g B : Nat} (h : Asd w g w') (hg : B ≤ g) (hB : B ≤ w.heap.size) : Below B w w' :=
  ⟨h.os, h.tape, h.output, h.size, fun k hk => h.block k (by omega) (by intro h0; injection h0; omega)⟩
theorem OwnF.form {w : World} {base : Nat} {v : Value} {l : List Fr} (h : OwnF w base v l) : ∃ a c, v = .slice a l.length c := by
  rcases h.2 with ⟨rfl, h0⟩ | ⟨g, cap, cur, rfl, _⟩
  · exact ⟨none, 0, by rw [h0]⟩
  · exact ⟨_, cap, rfl⟩
theorem feedF_short (v k : Nat) (pl : List UInt8) (hv : 1 ≤ v ∧ v ≤ 3) (hk : 1 ≤ k ∧ k ≤ 4) (hp : pl.length ≤ 6000) (j : Nat) (hj : j < (wireF v k pl).length) : feedF ((wireF v k pl).take j) = ⟨[], 0, 3⟩ := by
  have h := decF_short v k pl hv hk hp j hj
  rw [feedF_bad _ (by rw [h]; decide), h]; rfl
theorem feedF_nil : feedF [] = ⟨[], 0, 3⟩ := by
  have := feedF_short 1 1 [] (by omega) (by omega) (by simp) 0 (by rw [wireF_length]; omega)
  simpa using this
theorem feedF_one (v k : Nat) (pl : List UInt8) (hv : 1 ≤ v ∧ v ≤ 3) (hk : 1 ≤ k ∧ k ≤ 4) (hp : pl.length ≤ 6000) : feedF (wireF v k pl) = ⟨[⟨v, k, pl⟩], (wireF v k pl).length, 3⟩ := by
  have h := decF_wire v k pl [] hv hk hp
  rw [List.append_nil] at h
  rw [feedF_ok _ (by rw [h]), h]
  simp [feedF_nil]
theorem fed_size : (bstr (wireF 1 1 [])).size = 9 := by
  have hl : (wireF 1 1 []).length = 9 := by rw [wireF_length]; show 8 + (putN 0).length + 0 = 9; rw [putN_lt 0 (by omega)]; rfl
  rw [bstr_size, hl]
theorem fed_l1 : (ByteArray.empty ++ (bstr (wireF 1 1 [])).extract 0 3).data.toList = (wireF 1 1 []).take 3 := by
  rw [ByteArray.data_append, Array.toList_append, ByteArray.data_extract, Array.toList_extract, bstr_list]; simp
theorem fed_l2 : (bstr ((wireF 1 1 []).take 3) ++ (bstr (wireF 1 1 [])).extract 3 (bstr (wireF 1 1 [])).size).data.toList = wireF 1 1 [] := by
  have hl := fed_size
  rw [ByteArray.data_append, Array.toList_append, ByteArray.data_extract, Array.toList_extract, bstr_list, bstr_list]
  rw [hl]
  rw [bstr_size] at hl
  simp only [List.extract_eq_take_drop]
  rw [List.take_of_length_le (l := List.drop 3 (wireF 1 1 [])) (by rw [List.length_drop]; omega), List.take_append_drop]
/-- The bytes of an empty frame, under a name. -/
theorem fed_facts : ∃ S T : ByteArray, S.size = 9 ∧ T.size = 3 ∧ S = bstr (wireF 1 1 []) ∧
    (∀ w : World, Calls Try.prog 14 #[.agg #[.int .i64 1, .int .i64 1, .string ByteArray.empty]] w fun e w' => e = .returned (.tuple #[.string S, .int .i64 0]) ∧ Below w.heap.size w w') ∧
    (∀ (w : World) g, Blk w g 43 #[.string ByteArray.empty, .int .i64 0, .int .i64 0] → Calls Try.prog 9 #[.pointer (some ⟨g, 0, none⟩), .string (S.extract 0 3)] w fun e w' =>
      PushPost w g 0 ((wireF 1 1 []).take 3) ⟨[], 0, 3⟩ e w') ∧
    (∀ (w : World) g, Blk w g 43 #[.string T, .int .i64 0, .int .i64 0] → Calls Try.prog 9 #[.pointer (some ⟨g, 0, none⟩), .string (S.extract 3 S.size)] w fun e w' =>
      PushPost w g 0 (wireF 1 1 []) ⟨[⟨1, 1, []⟩], 9, 3⟩ e w') ∧ T = bstr ((wireF 1 1 []).take 3) := by
  have hl : (wireF 1 1 []).length = 9 := by have := fed_size; rwa [bstr_size] at this
  have hT : (bstr ((wireF 1 1 []).take 3)).size = 3 := by rw [bstr_size, List.length_take]; omega
  refine ⟨bstr (wireF 1 1 []), bstr ((wireF 1 1 []).take 3), fed_size, hT, rfl, fun w => encode_good 1 1 [] (by omega) (by omega) (by simp) w, fun w g hb => ?_, fun w g hb => ?_, rfl⟩
  · have h := push_small g 0 ByteArray.empty ((bstr (wireF 1 1 [])).extract 0 3) w hb (by rw [ByteArray.size_extract, fed_size]; decide)
    rw [fed_l1, feedF_short 1 1 [] (by omega) (by omega) (by simp) 3 (by omega)] at h
    exact h
  · have h := push_small g 0 _ ((bstr (wireF 1 1 [])).extract 3 (bstr (wireF 1 1 [])).size) w hb (by rw [ByteArray.size_extract, fed_size, hT]; decide)
    rw [fed_l2, feedF_one 1 1 [] (by omega) (by omega) (by simp), hl] at h
    exact h
set_option maxHeartbeats 2000000 in
set_option maxRecDepth 100000 in
theorem fed_any (w : World) :
    Calls Try.prog 7 #[] w fun e w' => e = .returned (.bool true) ∧ Below w.heap.size w w' := by
  have hz := zero_frame_lit
  obtain ⟨S, T, hS, hT, hSe, hE, hP1, hP2, hTe⟩ := fed_facts
  have h3 : (3 : Int) ≤ (S.size : Int) := by omega
  have HS := Lib.hid hS
  have HT := Lib.hid hTe
  have HE := Lib.hid hE
  have HP1 := Lib.hid hP1
  have HP2 := Lib.hid hP2
  clear hE hS hT hSe hTe hP1 hP2
  go_enter Try.func7, Try.ntmps7
  go_wp2_with fail
  refine (HE.out _).mono ?_
  rintro e w1 ⟨rfl, hb1⟩
  go_wp2_with fail
  refine (new_any _).mono ?_
  rintro e w2 ⟨rfl, rfl⟩
  have b0 := Blk.new w1 43 #[.string ByteArray.empty, .int .i64 0, .int .i64 0]
  have hB := hb1.alloc hb1.size (.cells #[.string ByteArray.empty, .int .i64 0, .int .i64 0] 43)
  have hs1 := hb1.size
  generalize w1.alloc (.cells #[.string ByteArray.empty, .int .i64 0, .int .i64 0] 43) = w2 at *
  go_wp2_with fail
  refine (HP1.out w2 _ b0).mono ?_
  rintro e w3 ⟨v3, rfl, ho3, b3, ha3⟩
  obtain ⟨p3, q3, rfl⟩ := ho3.form
  have hB3 := hB.trans (ha3.toBelow hs1 hB.size)
  simp only [if_pos, Nat.add_zero, List.drop_zero] at b3
  rw [← HT.out] at b3
  clear b0 ho3 ha3
  go_wp2_with fail
  refine (HP2.out w3 _ b3).mono ?_
  rintro e w4 ⟨v4, rfl, ho4, b4, ha4⟩
  obtain ⟨p4, q4, rfl⟩ := ho4.form
  have hB4 := hB3.trans (ha4.toBelow hs1 hB3.size)
  have h9 : ((S.size : Int) == 9) = true := by rw [HS.out]; rfl
  have h9' : ((9 : Int) == (S.size : Int)) = true := by rw [HS.out]; rfl
  clear ho4 ha4 b3
  go_wp2_with fail
  refine (at_any w1.heap.size _ _ _ _ b4).mono ?_
  rintro e w5 ⟨rfl, rfl⟩
  go_wp2_with fail
  go_ret
  exact ⟨rfl, hB4⟩
theorem PushPost.ok {w : World} {g at_ : Nat} {L : List UInt8} {r : FeedR} {e : Ending} {w' : World} (h : PushPost w g at_ L r e w') (he : r.e = 3) :
    ∃ a c, e = .returned (.tuple #[.slice a r.out.length c, .int .i64 0]) ∧ OwnF w' w.heap.size (.slice a r.out.length c) r.out ∧ Blk w' g 43 #[.string (bstr (L.drop r.n)), .int .i64 ((at_ + r.n : Nat) : Int), .int .i64 0] ∧ Asd w g w' := by
  obtain ⟨v, rfl, ho, hb, ha⟩ := h
  obtain ⟨p, q, rfl⟩ := ho.form
  rw [if_pos he, if_pos he] at hb
  exact ⟨p, q, by rw [if_pos he]; rfl, ho, hb, ha⟩
theorem PushPost.bad {w : World} {g at_ : Nat} {L : List UInt8} {r : FeedR} {e : Ending} {w' : World} (h : PushPost w g at_ L r e w') (he : r.e ≠ 3) :
    ∃ a c, e = .returned (.tuple #[.slice a r.out.length c, .int .i64 (r.e : Int)]) ∧ OwnF w' w.heap.size (.slice a r.out.length c) r.out ∧ Blk w' g 43 #[.string ByteArray.empty, .int .i64 ((at_ + r.n : Nat) : Int), .int .i64 (r.e : Int)] ∧ Asd w g w' := by
  obtain ⟨v, rfl, ho, hb, ha⟩ := h
  obtain ⟨p, q, rfl⟩ := ho.form
  rw [if_neg he, if_neg he] at hb
  exact ⟨p, q, by rw [if_neg he], ho, hb, ha⟩
theorem push_first (s : ByteArray) (hs : s.size ≤ 1099511627776) (w : World) (g : Nat) (hb : Blk w g 43 #[.string ByteArray.empty, .int .i64 0, .int .i64 0]) :
    Calls Try.prog 9 #[.pointer (some ⟨g, 0, none⟩), .string s] w fun e w' => PushPost w g 0 s.data.toList (feedF s.data.toList) e w' := by
  have h := push_small g 0 ByteArray.empty s w hb (by have : ByteArray.empty.size = 0 := rfl
                                                      omega)
  rw [show ByteArray.empty ++ s = s by simp] at h
  exact h
theorem feedF_e (l : List UInt8) : (feedF l).e ≠ 0 := feedN_e _ _
end Go.Proofs.Ytbjngeaoimaooaa
