/-
  The law FrameOne of package brackenkeep: for every input it answers true.
-/
import Derived.Test.YtdaapfhmhfbjbaaRows
import Derived.Test.YtdaapfhmhfbjbaaBase
import Derived.Test.YtdaapfhmhfbjbaaFrameT
set_option linter.unusedVariables false
set_option linter.unusedSimpArgs false
namespace Go.Proofs.Ytdaapfhmhfbjbaa.frameOne
open Go.ChangeShapes Go.WideShapes Go.ChangeAt Go.RowKit Go.Joins
open Go.ChangeMaps (open_string)
theorem wire_prefix {v k v' k' : Nat} {pl pl' more : List UInt8} (hv : 1 ≤ v ∧ v ≤ 3) (hk : 1 ≤ k ∧ k ≤ 4) (hp : pl.length ≤ 6000) (hv' : 1 ≤ v' ∧ v' ≤ 3) (hk' : 1 ≤ k' ∧ k' ≤ 4) (hp' : pl'.length ≤ 6000)
    (h : wireF v' k' pl' = wireF v k pl ++ more) : v = v' ∧ k = k' ∧ pl = pl' := by
  have h1 := decF_wire v k pl more hv hk hp
  have h2 := decF_wire v' k' pl' [] hv' hk' hp'
  rw [List.append_nil, h, h1] at h2
  simp only [DecR.mk.injEq] at h2
  exact ⟨h2.2.1, h2.2.2.1, h2.2.2.2.1⟩
theorem one_law (v k v' k' : Nat) (p p' S T : ByteArray) (hS : S.data.toList = wireF v k p.data.toList) (hT : T.data.toList = wireF v' k' p'.data.toList) (hv : 1 ≤ v ∧ v ≤ 3) (hk : 1 ≤ k ∧ k ≤ 4) (hp : p.size ≤ 6000) (hv' : 1 ≤ v' ∧ v' ≤ 3) (hk' : 1 ≤ k' ∧ k' ≤ 4) (hp' : p'.size ≤ 6000) :
    (S.toList = T.toList → v = v' ∧ k = k' ∧ p = p') ∧ (S.toList ≠ T.toList → ¬ (v = v' ∧ k = k' ∧ p = p') ∧ (S.size ≤ T.size → (T.extract 0 S.size).toList ≠ S.toList)) := by
  have q : p.data.toList.length ≤ 6000 := by simpa using hp
  have q' : p'.data.toList.length ≤ 6000 := by simpa using hp'
  have inj : ∀ {a b : ByteArray}, a.data.toList = b.data.toList → a = b := fun {a b} h => by
    cases a; cases b; simp at h; simpa using h
  simp only [ByteArray.toList_eq, ne_eq]
  refine ⟨fun h => ?_, fun h => ⟨?_, fun hl h2 => ?_⟩⟩
  · rw [hS, hT] at h
    obtain ⟨a, b, c⟩ := wireF_inj hv hk q hv' hk' q' h
    exact ⟨a, b, inj c⟩
  · rintro ⟨rfl, rfl, rfl⟩
    exact h (hS.trans hT.symm)
  · have e : T.data.toList = S.data.toList ++ T.data.toList.drop S.size := by
      rw [← h2]; simp [ByteArray.data_extract]
    rw [hS, hT] at e
    obtain ⟨a, b, c⟩ := wire_prefix hv hk q hv' hk' q' e
    subst a; subst b
    exact h (by rw [hS, hT, c])
set_option maxHeartbeats 8000000 in
set_option maxRecDepth 100000 in
theorem walk (v k : Int) (p : ByteArray) (v1 : -9223372036854775808 ≤ v) (v2 : v ≤ 9223372036854775807) (k1 : -9223372036854775808 ≤ k) (k2 : k ≤ 9223372036854775807) (hp : p.size ≤ 140737488351232) (x y : Int) (q : ByteArray) (x1 : -9223372036854775808 ≤ x) (x2 : x ≤ 9223372036854775807) (y1 : -9223372036854775808 ≤ y) (y2 : y ≤ 9223372036854775807) (hq : q.size ≤ 140737488351232) (w : World) :
    Calls Try.prog 4 #[.agg #[.int .i64 v, .int .i64 k, .string p], .agg #[.int .i64 x, .int .i64 y, .string q]] w fun e w' => e = .returned (.bool true) ∧ Below w.heap.size w w' := by
  have hz := zero_frame_lit
  have hz0 : True := trivial
  by_cases hg : goodF v k ∧ p.size ≤ 6000
  · obtain ⟨vn, rfl⟩ := Int.eq_ofNat_of_zero_le (show 0 ≤ v by have := hg.1.1; omega)
    obtain ⟨kn, rfl⟩ := Int.eq_ofNat_of_zero_le (show 0 ≤ k by have := hg.1.2.2.1; omega)
    have hv1 : 1 ≤ vn ∧ vn ≤ 3 := by have := hg.1; unfold goodF at this; omega
    have hk1 : 1 ≤ kn ∧ kn ≤ 4 := by have := hg.1; unfold goodF at this; omega
    have hq1 : p.data.toList.length ≤ 6000 := by have := hg.2; simpa using this
    have hE1 := encode_good vn kn p.data.toList hv1 hk1 hq1
    rw [bstr_self] at hE1
    have hszS : (bstr (wireF vn kn p.data.toList)).size = (wireF vn kn p.data.toList).length := bstr_size _
    have hlS := wireF_length vn kn p.data.toList
    have htS := putN_len10 p.data.toList.length (by omega)
    by_cases hh : goodF x y ∧ q.size ≤ 6000
    · obtain ⟨xn, rfl⟩ := Int.eq_ofNat_of_zero_le (show 0 ≤ x by have := hh.1.1; omega)
      obtain ⟨yn, rfl⟩ := Int.eq_ofNat_of_zero_le (show 0 ≤ y by have := hh.1.2.2.1; omega)
      have hv2 : 1 ≤ xn ∧ xn ≤ 3 := by have := hh.1; unfold goodF at this; omega
      have hk2 : 1 ≤ yn ∧ yn ≤ 4 := by have := hh.1; unfold goodF at this; omega
      have hq2 : q.data.toList.length ≤ 6000 := by have := hh.2; simpa using this
      have hE2 := encode_good xn yn q.data.toList hv2 hk2 hq2
      rw [bstr_self] at hE2
      have hszT : (bstr (wireF xn yn q.data.toList)).size = (wireF xn yn q.data.toList).length := bstr_size _
      have hlT := wireF_length xn yn q.data.toList
      have htT := putN_len10 q.data.toList.length (by omega)
      obtain ⟨hyes, hno⟩ := one_law vn kn xn yn p q (bstr (wireF vn kn p.data.toList)) (bstr (wireF xn yn q.data.toList)) (bstr_list _) (bstr_list _) hv1 hk1 hg.2 hv2 hk2 hh.2
      have hmS : (bstr (wireF vn kn p.data.toList)).size ≤ 6020 := by omega
      have hmT : (bstr (wireF xn yn q.data.toList)).size ≤ 6020 := by omega
      generalize bstr (wireF vn kn p.data.toList) = S at *
      generalize bstr (wireF xn yn q.data.toList) = T at *
      have HE1 := Lib.hid hE1
      have HE2 := Lib.hid hE2
      clear hE1 hE2 hszS hlS htS hszT hlT htT hq1 hq2 hg hh v1 v2 k1 k2 x1 x2 y1 y2
      by_cases hST : S.toList = T.toList
      · obtain ⟨rfl, rfl, rfl⟩ := hyes hST
        have e1 : (S.toList == T.toList) = true := by rw [hST]; simp
        clear hyes hno hST
        clear hz0
        go_enter Try.func4, Try.ntmps4
        have b0 : Blk ((w.alloc (.cells #[.int .i64 (vn : Int), .int .i64 (kn : Int), .string p] 23)).alloc (.cells #[.int .i64 (vn : Int), .int .i64 (kn : Int), .string p] 23)) w.heap.size 23 #[.int .i64 (vn : Int), .int .i64 (kn : Int), .string p] := (Blk.new w 23 #[.int .i64 (vn : Int), .int .i64 (kn : Int), .string p]).alloc _
        have b1 : Blk ((w.alloc (.cells #[.int .i64 (vn : Int), .int .i64 (kn : Int), .string p] 23)).alloc (.cells #[.int .i64 (vn : Int), .int .i64 (kn : Int), .string p] 23)) (w.heap.size + 1) 23 #[.int .i64 (vn : Int), .int .i64 (kn : Int), .string p] := by
          have := Blk.new (w.alloc (.cells #[.int .i64 (vn : Int), .int .i64 (kn : Int), .string p] 23)) 23 #[.int .i64 (vn : Int), .int .i64 (kn : Int), .string p]
          rwa [show (w.alloc (.cells #[.int .i64 (vn : Int), .int .i64 (kn : Int), .string p] 23)).heap.size = w.heap.size + 1 by simp] at this
        have hB0 : Below w.heap.size w ((w.alloc (.cells #[.int .i64 (vn : Int), .int .i64 (kn : Int), .string p] 23)).alloc (.cells #[.int .i64 (vn : Int), .int .i64 (kn : Int), .string p] 23)) := ((Below.refl _ _).alloc (Nat.le_refl _) _).alloc (by simp) _
        have c00 : ((w.alloc (.cells #[.int .i64 (vn : Int), .int .i64 (kn : Int), .string p] 23)).alloc (.cells #[.int .i64 (vn : Int), .int .i64 (kn : Int), .string p] 23)).cell? ⟨w.heap.size, 0, none⟩ = some (Value.int .i64 (vn : Int)) := b0.cell 0
        have c01 : ((w.alloc (.cells #[.int .i64 (vn : Int), .int .i64 (kn : Int), .string p] 23)).alloc (.cells #[.int .i64 (vn : Int), .int .i64 (kn : Int), .string p] 23)).cell? ⟨w.heap.size, 1, none⟩ = some (Value.int .i64 (kn : Int)) := b0.cell 1
        have c02 : ((w.alloc (.cells #[.int .i64 (vn : Int), .int .i64 (kn : Int), .string p] 23)).alloc (.cells #[.int .i64 (vn : Int), .int .i64 (kn : Int), .string p] 23)).cell? ⟨w.heap.size, 2, none⟩ = some (Value.string p) := b0.cell 2
        have c10 : ((w.alloc (.cells #[.int .i64 (vn : Int), .int .i64 (kn : Int), .string p] 23)).alloc (.cells #[.int .i64 (vn : Int), .int .i64 (kn : Int), .string p] 23)).cell? ⟨w.heap.size + 1, 0, none⟩ = some (Value.int .i64 (vn : Int)) := b1.cell 0
        have c11 : ((w.alloc (.cells #[.int .i64 (vn : Int), .int .i64 (kn : Int), .string p] 23)).alloc (.cells #[.int .i64 (vn : Int), .int .i64 (kn : Int), .string p] 23)).cell? ⟨w.heap.size + 1, 1, none⟩ = some (Value.int .i64 (kn : Int)) := b1.cell 1
        have c12 : ((w.alloc (.cells #[.int .i64 (vn : Int), .int .i64 (kn : Int), .string p] 23)).alloc (.cells #[.int .i64 (vn : Int), .int .i64 (kn : Int), .string p] 23)).cell? ⟨w.heap.size + 1, 2, none⟩ = some (Value.string p) := b1.cell 2
        go_wp2_with fail
        generalize (w.alloc (.cells #[.int .i64 (vn : Int), .int .i64 (kn : Int), .string p] 23)).alloc (.cells #[.int .i64 (vn : Int), .int .i64 (kn : Int), .string p] 23) = W0 at *
        refine (HE1.out _).mono ?_
        rintro e w1 ⟨rfl, hb1⟩
        have b2 := b0.below hb1 b0.lt
        have b3 := b1.below hb1 b1.lt
        have hB1 := hB0.trans (hb1.mono hB0.size)
        clear c00 c01 c02 c10 c11 c12
        have d00 : w1.cell? ⟨w.heap.size, 0, none⟩ = some (Value.int .i64 (vn : Int)) := b2.cell 0
        have d01 : w1.cell? ⟨w.heap.size, 1, none⟩ = some (Value.int .i64 (kn : Int)) := b2.cell 1
        have d02 : w1.cell? ⟨w.heap.size, 2, none⟩ = some (Value.string p) := b2.cell 2
        have d10 : w1.cell? ⟨w.heap.size + 1, 0, none⟩ = some (Value.int .i64 (vn : Int)) := b3.cell 0
        have d11 : w1.cell? ⟨w.heap.size + 1, 1, none⟩ = some (Value.int .i64 (kn : Int)) := b3.cell 1
        have d12 : w1.cell? ⟨w.heap.size + 1, 2, none⟩ = some (Value.string p) := b3.cell 2
        go_wp2_with fail
        refine (HE2.out _).mono ?_
        rintro e w2 ⟨rfl, hb2⟩
        have b4 := b2.below hb2 b2.lt
        have b5 := b3.below hb2 b3.lt
        have hB2 := hB1.trans (hb2.mono hB1.size)
        clear d00 d01 d02 d10 d11 d12
        go_wp2_with fail
        refine (framed_any _).mono ?_
        rintro e w3 ⟨rfl, hb3⟩
        have b6 := b4.below hb3 b4.lt
        have b7 := b5.below hb3 b5.lt
        have hB3 := hB2.trans (hb3.mono hB2.size)
        have g00 : w3.cell? ⟨w.heap.size, 0, none⟩ = some (Value.int .i64 (vn : Int)) := b6.cell 0
        have g01 : w3.cell? ⟨w.heap.size, 1, none⟩ = some (Value.int .i64 (kn : Int)) := b6.cell 1
        have g02 : w3.cell? ⟨w.heap.size, 2, none⟩ = some (Value.string p) := b6.cell 2
        have g10 : w3.cell? ⟨w.heap.size + 1, 0, none⟩ = some (Value.int .i64 (vn : Int)) := b7.cell 0
        have g11 : w3.cell? ⟨w.heap.size + 1, 1, none⟩ = some (Value.int .i64 (kn : Int)) := b7.cell 1
        have g12 : w3.cell? ⟨w.heap.size + 1, 2, none⟩ = some (Value.string p) := b7.cell 2
        go_wp2_with fail
        go_ret
        exact ⟨rfl, hB3⟩
      · obtain ⟨hn1, hn2⟩ := hno hST
        have e1 : (S.toList == T.toList) = false := beq_eq_false_iff_ne.2 hST
        have HN := Lib.hid hn1
        clear hyes hno hST hn1
        by_cases hsz : S.size ≤ T.size
        · have hn3 := hn2 hsz
          have e2 : ((T.extract 0 S.size).toList == S.toList) = false := beq_eq_false_iff_ne.2 hn3
          have e3 : ((T.extract 0 S.size).toList != S.toList) = true := by rw [bne_iff_ne]; exact hn3
          have i1 : (S.size : Int) ≤ T.size := by omega
          have i2 : ¬ ((T.size : Int) < S.size) := by omega
          clear hn2 hn3
          clear hz0
          go_enter Try.func4, Try.ntmps4
          have b0 : Blk ((w.alloc (.cells #[.int .i64 (vn : Int), .int .i64 (kn : Int), .string p] 23)).alloc (.cells #[.int .i64 (xn : Int), .int .i64 (yn : Int), .string q] 23)) w.heap.size 23 #[.int .i64 (vn : Int), .int .i64 (kn : Int), .string p] := (Blk.new w 23 #[.int .i64 (vn : Int), .int .i64 (kn : Int), .string p]).alloc _
          have b1 : Blk ((w.alloc (.cells #[.int .i64 (vn : Int), .int .i64 (kn : Int), .string p] 23)).alloc (.cells #[.int .i64 (xn : Int), .int .i64 (yn : Int), .string q] 23)) (w.heap.size + 1) 23 #[.int .i64 (xn : Int), .int .i64 (yn : Int), .string q] := by
            have := Blk.new (w.alloc (.cells #[.int .i64 (vn : Int), .int .i64 (kn : Int), .string p] 23)) 23 #[.int .i64 (xn : Int), .int .i64 (yn : Int), .string q]
            rwa [show (w.alloc (.cells #[.int .i64 (vn : Int), .int .i64 (kn : Int), .string p] 23)).heap.size = w.heap.size + 1 by simp] at this
          have hB0 : Below w.heap.size w ((w.alloc (.cells #[.int .i64 (vn : Int), .int .i64 (kn : Int), .string p] 23)).alloc (.cells #[.int .i64 (xn : Int), .int .i64 (yn : Int), .string q] 23)) := ((Below.refl _ _).alloc (Nat.le_refl _) _).alloc (by simp) _
          have c00 : ((w.alloc (.cells #[.int .i64 (vn : Int), .int .i64 (kn : Int), .string p] 23)).alloc (.cells #[.int .i64 (xn : Int), .int .i64 (yn : Int), .string q] 23)).cell? ⟨w.heap.size, 0, none⟩ = some (Value.int .i64 (vn : Int)) := b0.cell 0
          have c01 : ((w.alloc (.cells #[.int .i64 (vn : Int), .int .i64 (kn : Int), .string p] 23)).alloc (.cells #[.int .i64 (xn : Int), .int .i64 (yn : Int), .string q] 23)).cell? ⟨w.heap.size, 1, none⟩ = some (Value.int .i64 (kn : Int)) := b0.cell 1
          have c02 : ((w.alloc (.cells #[.int .i64 (vn : Int), .int .i64 (kn : Int), .string p] 23)).alloc (.cells #[.int .i64 (xn : Int), .int .i64 (yn : Int), .string q] 23)).cell? ⟨w.heap.size, 2, none⟩ = some (Value.string p) := b0.cell 2
          have c10 : ((w.alloc (.cells #[.int .i64 (vn : Int), .int .i64 (kn : Int), .string p] 23)).alloc (.cells #[.int .i64 (xn : Int), .int .i64 (yn : Int), .string q] 23)).cell? ⟨w.heap.size + 1, 0, none⟩ = some (Value.int .i64 (xn : Int)) := b1.cell 0
          have c11 : ((w.alloc (.cells #[.int .i64 (vn : Int), .int .i64 (kn : Int), .string p] 23)).alloc (.cells #[.int .i64 (xn : Int), .int .i64 (yn : Int), .string q] 23)).cell? ⟨w.heap.size + 1, 1, none⟩ = some (Value.int .i64 (yn : Int)) := b1.cell 1
          have c12 : ((w.alloc (.cells #[.int .i64 (vn : Int), .int .i64 (kn : Int), .string p] 23)).alloc (.cells #[.int .i64 (xn : Int), .int .i64 (yn : Int), .string q] 23)).cell? ⟨w.heap.size + 1, 2, none⟩ = some (Value.string q) := b1.cell 2
          go_wp2_with fail
          generalize (w.alloc (.cells #[.int .i64 (vn : Int), .int .i64 (kn : Int), .string p] 23)).alloc (.cells #[.int .i64 (xn : Int), .int .i64 (yn : Int), .string q] 23) = W0 at *
          refine (HE1.out _).mono ?_
          rintro e w1 ⟨rfl, hb1⟩
          have b2 := b0.below hb1 b0.lt
          have b3 := b1.below hb1 b1.lt
          have hB1 := hB0.trans (hb1.mono hB0.size)
          clear c00 c01 c02 c10 c11 c12
          have d00 : w1.cell? ⟨w.heap.size, 0, none⟩ = some (Value.int .i64 (vn : Int)) := b2.cell 0
          have d01 : w1.cell? ⟨w.heap.size, 1, none⟩ = some (Value.int .i64 (kn : Int)) := b2.cell 1
          have d02 : w1.cell? ⟨w.heap.size, 2, none⟩ = some (Value.string p) := b2.cell 2
          have d10 : w1.cell? ⟨w.heap.size + 1, 0, none⟩ = some (Value.int .i64 (xn : Int)) := b3.cell 0
          have d11 : w1.cell? ⟨w.heap.size + 1, 1, none⟩ = some (Value.int .i64 (yn : Int)) := b3.cell 1
          have d12 : w1.cell? ⟨w.heap.size + 1, 2, none⟩ = some (Value.string q) := b3.cell 2
          go_wp2_with fail
          refine (HE2.out _).mono ?_
          rintro e w2 ⟨rfl, hb2⟩
          have b4 := b2.below hb2 b2.lt
          have b5 := b3.below hb2 b3.lt
          have hB2 := hB1.trans (hb2.mono hB1.size)
          clear d00 d01 d02 d10 d11 d12
          go_wp2_with fail
          refine (framed_any _).mono ?_
          rintro e w3 ⟨rfl, hb3⟩
          have b6 := b4.below hb3 b4.lt
          have b7 := b5.below hb3 b5.lt
          have hB3 := hB2.trans (hb3.mono hB2.size)
          have g00 : w3.cell? ⟨w.heap.size, 0, none⟩ = some (Value.int .i64 (vn : Int)) := b6.cell 0
          have g01 : w3.cell? ⟨w.heap.size, 1, none⟩ = some (Value.int .i64 (kn : Int)) := b6.cell 1
          have g02 : w3.cell? ⟨w.heap.size, 2, none⟩ = some (Value.string p) := b6.cell 2
          have g10 : w3.cell? ⟨w.heap.size + 1, 0, none⟩ = some (Value.int .i64 (xn : Int)) := b7.cell 0
          have g11 : w3.cell? ⟨w.heap.size + 1, 1, none⟩ = some (Value.int .i64 (yn : Int)) := b7.cell 1
          have g12 : w3.cell? ⟨w.heap.size + 1, 2, none⟩ = some (Value.string q) := b7.cell 2
          go_wp2_with fail
          all_goals first
            | (exfalso
               refine HN.out ⟨by omega, by omega, ?_⟩
               have h9 : p.toList = q.toList := by assumption
               rw [ByteArray.toList_eq, ByteArray.toList_eq] at h9
               cases p; cases q; simp at h9; simpa using h9)
            | (go_ret
               exact ⟨congrArg (fun b => Ending.returned (.bool b)) (by simp; omega), hB3⟩)
            | (go_ret
               exact ⟨rfl, hB3⟩)
        · have i2 : (T.size : Int) < S.size := by omega
          clear hn2
          clear hz0
          go_enter Try.func4, Try.ntmps4
          have b0 : Blk ((w.alloc (.cells #[.int .i64 (vn : Int), .int .i64 (kn : Int), .string p] 23)).alloc (.cells #[.int .i64 (xn : Int), .int .i64 (yn : Int), .string q] 23)) w.heap.size 23 #[.int .i64 (vn : Int), .int .i64 (kn : Int), .string p] := (Blk.new w 23 #[.int .i64 (vn : Int), .int .i64 (kn : Int), .string p]).alloc _
          have b1 : Blk ((w.alloc (.cells #[.int .i64 (vn : Int), .int .i64 (kn : Int), .string p] 23)).alloc (.cells #[.int .i64 (xn : Int), .int .i64 (yn : Int), .string q] 23)) (w.heap.size + 1) 23 #[.int .i64 (xn : Int), .int .i64 (yn : Int), .string q] := by
            have := Blk.new (w.alloc (.cells #[.int .i64 (vn : Int), .int .i64 (kn : Int), .string p] 23)) 23 #[.int .i64 (xn : Int), .int .i64 (yn : Int), .string q]
            rwa [show (w.alloc (.cells #[.int .i64 (vn : Int), .int .i64 (kn : Int), .string p] 23)).heap.size = w.heap.size + 1 by simp] at this
          have hB0 : Below w.heap.size w ((w.alloc (.cells #[.int .i64 (vn : Int), .int .i64 (kn : Int), .string p] 23)).alloc (.cells #[.int .i64 (xn : Int), .int .i64 (yn : Int), .string q] 23)) := ((Below.refl _ _).alloc (Nat.le_refl _) _).alloc (by simp) _
          have c00 : ((w.alloc (.cells #[.int .i64 (vn : Int), .int .i64 (kn : Int), .string p] 23)).alloc (.cells #[.int .i64 (xn : Int), .int .i64 (yn : Int), .string q] 23)).cell? ⟨w.heap.size, 0, none⟩ = some (Value.int .i64 (vn : Int)) := b0.cell 0
          have c01 : ((w.alloc (.cells #[.int .i64 (vn : Int), .int .i64 (kn : Int), .string p] 23)).alloc (.cells #[.int .i64 (xn : Int), .int .i64 (yn : Int), .string q] 23)).cell? ⟨w.heap.size, 1, none⟩ = some (Value.int .i64 (kn : Int)) := b0.cell 1
          have c02 : ((w.alloc (.cells #[.int .i64 (vn : Int), .int .i64 (kn : Int), .string p] 23)).alloc (.cells #[.int .i64 (xn : Int), .int .i64 (yn : Int), .string q] 23)).cell? ⟨w.heap.size, 2, none⟩ = some (Value.string p) := b0.cell 2
          have c10 : ((w.alloc (.cells #[.int .i64 (vn : Int), .int .i64 (kn : Int), .string p] 23)).alloc (.cells #[.int .i64 (xn : Int), .int .i64 (yn : Int), .string q] 23)).cell? ⟨w.heap.size + 1, 0, none⟩ = some (Value.int .i64 (xn : Int)) := b1.cell 0
          have c11 : ((w.alloc (.cells #[.int .i64 (vn : Int), .int .i64 (kn : Int), .string p] 23)).alloc (.cells #[.int .i64 (xn : Int), .int .i64 (yn : Int), .string q] 23)).cell? ⟨w.heap.size + 1, 1, none⟩ = some (Value.int .i64 (yn : Int)) := b1.cell 1
          have c12 : ((w.alloc (.cells #[.int .i64 (vn : Int), .int .i64 (kn : Int), .string p] 23)).alloc (.cells #[.int .i64 (xn : Int), .int .i64 (yn : Int), .string q] 23)).cell? ⟨w.heap.size + 1, 2, none⟩ = some (Value.string q) := b1.cell 2
          go_wp2_with fail
          generalize (w.alloc (.cells #[.int .i64 (vn : Int), .int .i64 (kn : Int), .string p] 23)).alloc (.cells #[.int .i64 (xn : Int), .int .i64 (yn : Int), .string q] 23) = W0 at *
          refine (HE1.out _).mono ?_
          rintro e w1 ⟨rfl, hb1⟩
          have b2 := b0.below hb1 b0.lt
          have b3 := b1.below hb1 b1.lt
          have hB1 := hB0.trans (hb1.mono hB0.size)
          clear c00 c01 c02 c10 c11 c12
          have d00 : w1.cell? ⟨w.heap.size, 0, none⟩ = some (Value.int .i64 (vn : Int)) := b2.cell 0
          have d01 : w1.cell? ⟨w.heap.size, 1, none⟩ = some (Value.int .i64 (kn : Int)) := b2.cell 1
          have d02 : w1.cell? ⟨w.heap.size, 2, none⟩ = some (Value.string p) := b2.cell 2
          have d10 : w1.cell? ⟨w.heap.size + 1, 0, none⟩ = some (Value.int .i64 (xn : Int)) := b3.cell 0
          have d11 : w1.cell? ⟨w.heap.size + 1, 1, none⟩ = some (Value.int .i64 (yn : Int)) := b3.cell 1
          have d12 : w1.cell? ⟨w.heap.size + 1, 2, none⟩ = some (Value.string q) := b3.cell 2
          go_wp2_with fail
          refine (HE2.out _).mono ?_
          rintro e w2 ⟨rfl, hb2⟩
          have b4 := b2.below hb2 b2.lt
          have b5 := b3.below hb2 b3.lt
          have hB2 := hB1.trans (hb2.mono hB1.size)
          clear d00 d01 d02 d10 d11 d12
          go_wp2_with fail
          refine (framed_any _).mono ?_
          rintro e w3 ⟨rfl, hb3⟩
          have b6 := b4.below hb3 b4.lt
          have b7 := b5.below hb3 b5.lt
          have hB3 := hB2.trans (hb3.mono hB2.size)
          have g00 : w3.cell? ⟨w.heap.size, 0, none⟩ = some (Value.int .i64 (vn : Int)) := b6.cell 0
          have g01 : w3.cell? ⟨w.heap.size, 1, none⟩ = some (Value.int .i64 (kn : Int)) := b6.cell 1
          have g02 : w3.cell? ⟨w.heap.size, 2, none⟩ = some (Value.string p) := b6.cell 2
          have g10 : w3.cell? ⟨w.heap.size + 1, 0, none⟩ = some (Value.int .i64 (xn : Int)) := b7.cell 0
          have g11 : w3.cell? ⟨w.heap.size + 1, 1, none⟩ = some (Value.int .i64 (yn : Int)) := b7.cell 1
          have g12 : w3.cell? ⟨w.heap.size + 1, 2, none⟩ = some (Value.string q) := b7.cell 2
          go_wp2_with fail
          all_goals first
            | (exfalso
               refine HN.out ⟨by omega, by omega, ?_⟩
               have h9 : p.toList = q.toList := by assumption
               rw [ByteArray.toList_eq, ByteArray.toList_eq] at h9
               cases p; cases q; simp at h9; simpa using h9)
            | (go_ret
               exact ⟨congrArg (fun b => Ending.returned (.bool b)) (by simp; omega), hB3⟩)
            | (go_ret
               exact ⟨rfl, hB3⟩)
    · obtain ⟨z, hzz, hE2⟩ := encode_bad x y q x1 x2 y1 y2 (by omega) hh
      have hx0 : ((z : Int) != 0) = true := by rw [bne_iff_ne]; omega
      have hx1 : ((z : Int) == 0) = false := beq_eq_false_iff_ne.2 (by omega)
      generalize bstr (wireF vn kn p.data.toList) = S at *
      have HE1 := Lib.hid hE1
      have HE2 := Lib.hid hE2
      clear hE1 hE2 hzz hh hg hszS hlS htS hq1
      clear hz0
      go_enter Try.func4, Try.ntmps4
      have b0 : Blk ((w.alloc (.cells #[.int .i64 (vn : Int), .int .i64 (kn : Int), .string p] 23)).alloc (.cells #[.int .i64 x, .int .i64 y, .string q] 23)) w.heap.size 23 #[.int .i64 (vn : Int), .int .i64 (kn : Int), .string p] := (Blk.new w 23 #[.int .i64 (vn : Int), .int .i64 (kn : Int), .string p]).alloc _
      have b1 : Blk ((w.alloc (.cells #[.int .i64 (vn : Int), .int .i64 (kn : Int), .string p] 23)).alloc (.cells #[.int .i64 x, .int .i64 y, .string q] 23)) (w.heap.size + 1) 23 #[.int .i64 x, .int .i64 y, .string q] := by
        have := Blk.new (w.alloc (.cells #[.int .i64 (vn : Int), .int .i64 (kn : Int), .string p] 23)) 23 #[.int .i64 x, .int .i64 y, .string q]
        rwa [show (w.alloc (.cells #[.int .i64 (vn : Int), .int .i64 (kn : Int), .string p] 23)).heap.size = w.heap.size + 1 by simp] at this
      have hB0 : Below w.heap.size w ((w.alloc (.cells #[.int .i64 (vn : Int), .int .i64 (kn : Int), .string p] 23)).alloc (.cells #[.int .i64 x, .int .i64 y, .string q] 23)) := ((Below.refl _ _).alloc (Nat.le_refl _) _).alloc (by simp) _
      have c00 : ((w.alloc (.cells #[.int .i64 (vn : Int), .int .i64 (kn : Int), .string p] 23)).alloc (.cells #[.int .i64 x, .int .i64 y, .string q] 23)).cell? ⟨w.heap.size, 0, none⟩ = some (Value.int .i64 (vn : Int)) := b0.cell 0
      have c01 : ((w.alloc (.cells #[.int .i64 (vn : Int), .int .i64 (kn : Int), .string p] 23)).alloc (.cells #[.int .i64 x, .int .i64 y, .string q] 23)).cell? ⟨w.heap.size, 1, none⟩ = some (Value.int .i64 (kn : Int)) := b0.cell 1
      have c02 : ((w.alloc (.cells #[.int .i64 (vn : Int), .int .i64 (kn : Int), .string p] 23)).alloc (.cells #[.int .i64 x, .int .i64 y, .string q] 23)).cell? ⟨w.heap.size, 2, none⟩ = some (Value.string p) := b0.cell 2
      have c10 : ((w.alloc (.cells #[.int .i64 (vn : Int), .int .i64 (kn : Int), .string p] 23)).alloc (.cells #[.int .i64 x, .int .i64 y, .string q] 23)).cell? ⟨w.heap.size + 1, 0, none⟩ = some (Value.int .i64 x) := b1.cell 0
      have c11 : ((w.alloc (.cells #[.int .i64 (vn : Int), .int .i64 (kn : Int), .string p] 23)).alloc (.cells #[.int .i64 x, .int .i64 y, .string q] 23)).cell? ⟨w.heap.size + 1, 1, none⟩ = some (Value.int .i64 y) := b1.cell 1
      have c12 : ((w.alloc (.cells #[.int .i64 (vn : Int), .int .i64 (kn : Int), .string p] 23)).alloc (.cells #[.int .i64 x, .int .i64 y, .string q] 23)).cell? ⟨w.heap.size + 1, 2, none⟩ = some (Value.string q) := b1.cell 2
      go_wp2_with fail
      generalize (w.alloc (.cells #[.int .i64 (vn : Int), .int .i64 (kn : Int), .string p] 23)).alloc (.cells #[.int .i64 x, .int .i64 y, .string q] 23) = W0 at *
      refine (HE1.out _).mono ?_
      rintro e w1 ⟨rfl, hb1⟩
      have b2 := b0.below hb1 b0.lt
      have b3 := b1.below hb1 b1.lt
      have hB1 := hB0.trans (hb1.mono hB0.size)
      clear c00 c01 c02 c10 c11 c12
      have d00 : w1.cell? ⟨w.heap.size, 0, none⟩ = some (Value.int .i64 (vn : Int)) := b2.cell 0
      have d01 : w1.cell? ⟨w.heap.size, 1, none⟩ = some (Value.int .i64 (kn : Int)) := b2.cell 1
      have d02 : w1.cell? ⟨w.heap.size, 2, none⟩ = some (Value.string p) := b2.cell 2
      have d10 : w1.cell? ⟨w.heap.size + 1, 0, none⟩ = some (Value.int .i64 x) := b3.cell 0
      have d11 : w1.cell? ⟨w.heap.size + 1, 1, none⟩ = some (Value.int .i64 y) := b3.cell 1
      have d12 : w1.cell? ⟨w.heap.size + 1, 2, none⟩ = some (Value.string q) := b3.cell 2
      go_wp2_with fail
      refine (HE2.out _).mono ?_
      rintro e w2 ⟨rfl, hb2⟩
      have b4 := b2.below hb2 b2.lt
      have b5 := b3.below hb2 b3.lt
      have hB2 := hB1.trans (hb2.mono hB1.size)
      clear d00 d01 d02 d10 d11 d12
      go_wp2_with fail
      refine (framed_any _).mono ?_
      rintro e w3 ⟨rfl, hb3⟩
      have b6 := b4.below hb3 b4.lt
      have b7 := b5.below hb3 b5.lt
      have hB3 := hB2.trans (hb3.mono hB2.size)
      go_wp2_with fail
      go_ret
      exact ⟨rfl, hB3⟩
  · obtain ⟨z, hzz, hE1⟩ := encode_bad v k p v1 v2 k1 k2 (by omega) hg
    have hx0 : ((z : Int) != 0) = true := by rw [bne_iff_ne]; omega
    have hx1 : ((z : Int) == 0) = false := beq_eq_false_iff_ne.2 (by omega)
    obtain ⟨S, z2, hE2⟩ : ∃ (S : ByteArray) (z2 : Nat), ∀ w : World, Calls Try.prog 9 #[.agg #[.int .i64 x, .int .i64 y, .string q]] w fun e w' => e = .returned (.tuple #[.string S, .int .i64 z2]) ∧ Below w.heap.size w w' := by
      by_cases hh : goodF x y ∧ q.size ≤ 6000
      · obtain ⟨xn, rfl⟩ := Int.eq_ofNat_of_zero_le (show 0 ≤ x by have := hh.1.1; omega)
        obtain ⟨yn, rfl⟩ := Int.eq_ofNat_of_zero_le (show 0 ≤ y by have := hh.1.2.2.1; omega)
        have hv2 : 1 ≤ xn ∧ xn ≤ 3 := by have := hh.1; unfold goodF at this; omega
        have hk2 : 1 ≤ yn ∧ yn ≤ 4 := by have := hh.1; unfold goodF at this; omega
        have hE2 := encode_good xn yn q.data.toList hv2 hk2 (by have := hh.2; simpa using this)
        rw [bstr_self] at hE2
        exact ⟨_, 0, hE2⟩
      · obtain ⟨z, hzz, hE2⟩ := encode_bad x y q x1 x2 y1 y2 (by omega) hh
        exact ⟨_, z, hE2⟩
    have HE1 := Lib.hid hE1
    have HE2 := Lib.hid hE2
    clear hE1 hE2 hzz hg
    clear hz0
    go_enter Try.func4, Try.ntmps4
    have b0 : Blk ((w.alloc (.cells #[.int .i64 v, .int .i64 k, .string p] 23)).alloc (.cells #[.int .i64 x, .int .i64 y, .string q] 23)) w.heap.size 23 #[.int .i64 v, .int .i64 k, .string p] := (Blk.new w 23 #[.int .i64 v, .int .i64 k, .string p]).alloc _
    have b1 : Blk ((w.alloc (.cells #[.int .i64 v, .int .i64 k, .string p] 23)).alloc (.cells #[.int .i64 x, .int .i64 y, .string q] 23)) (w.heap.size + 1) 23 #[.int .i64 x, .int .i64 y, .string q] := by
      have := Blk.new (w.alloc (.cells #[.int .i64 v, .int .i64 k, .string p] 23)) 23 #[.int .i64 x, .int .i64 y, .string q]
      rwa [show (w.alloc (.cells #[.int .i64 v, .int .i64 k, .string p] 23)).heap.size = w.heap.size + 1 by simp] at this
    have hB0 : Below w.heap.size w ((w.alloc (.cells #[.int .i64 v, .int .i64 k, .string p] 23)).alloc (.cells #[.int .i64 x, .int .i64 y, .string q] 23)) := ((Below.refl _ _).alloc (Nat.le_refl _) _).alloc (by simp) _
    have c00 : ((w.alloc (.cells #[.int .i64 v, .int .i64 k, .string p] 23)).alloc (.cells #[.int .i64 x, .int .i64 y, .string q] 23)).cell? ⟨w.heap.size, 0, none⟩ = some (Value.int .i64 v) := b0.cell 0
    have c01 : ((w.alloc (.cells #[.int .i64 v, .int .i64 k, .string p] 23)).alloc (.cells #[.int .i64 x, .int .i64 y, .string q] 23)).cell? ⟨w.heap.size, 1, none⟩ = some (Value.int .i64 k) := b0.cell 1
    have c02 : ((w.alloc (.cells #[.int .i64 v, .int .i64 k, .string p] 23)).alloc (.cells #[.int .i64 x, .int .i64 y, .string q] 23)).cell? ⟨w.heap.size, 2, none⟩ = some (Value.string p) := b0.cell 2
    have c10 : ((w.alloc (.cells #[.int .i64 v, .int .i64 k, .string p] 23)).alloc (.cells #[.int .i64 x, .int .i64 y, .string q] 23)).cell? ⟨w.heap.size + 1, 0, none⟩ = some (Value.int .i64 x) := b1.cell 0
    have c11 : ((w.alloc (.cells #[.int .i64 v, .int .i64 k, .string p] 23)).alloc (.cells #[.int .i64 x, .int .i64 y, .string q] 23)).cell? ⟨w.heap.size + 1, 1, none⟩ = some (Value.int .i64 y) := b1.cell 1
    have c12 : ((w.alloc (.cells #[.int .i64 v, .int .i64 k, .string p] 23)).alloc (.cells #[.int .i64 x, .int .i64 y, .string q] 23)).cell? ⟨w.heap.size + 1, 2, none⟩ = some (Value.string q) := b1.cell 2
    go_wp2_with fail
    generalize (w.alloc (.cells #[.int .i64 v, .int .i64 k, .string p] 23)).alloc (.cells #[.int .i64 x, .int .i64 y, .string q] 23) = W0 at *
    refine (HE1.out _).mono ?_
    rintro e w1 ⟨rfl, hb1⟩
    have b2 := b0.below hb1 b0.lt
    have b3 := b1.below hb1 b1.lt
    have hB1 := hB0.trans (hb1.mono hB0.size)
    clear c00 c01 c02 c10 c11 c12
    have d00 : w1.cell? ⟨w.heap.size, 0, none⟩ = some (Value.int .i64 v) := b2.cell 0
    have d01 : w1.cell? ⟨w.heap.size, 1, none⟩ = some (Value.int .i64 k) := b2.cell 1
    have d02 : w1.cell? ⟨w.heap.size, 2, none⟩ = some (Value.string p) := b2.cell 2
    have d10 : w1.cell? ⟨w.heap.size + 1, 0, none⟩ = some (Value.int .i64 x) := b3.cell 0
    have d11 : w1.cell? ⟨w.heap.size + 1, 1, none⟩ = some (Value.int .i64 y) := b3.cell 1
    have d12 : w1.cell? ⟨w.heap.size + 1, 2, none⟩ = some (Value.string q) := b3.cell 2
    go_wp2_with fail
    refine (HE2.out _).mono ?_
    rintro e w2 ⟨rfl, hb2⟩
    have b4 := b2.below hb2 b2.lt
    have b5 := b3.below hb2 b3.lt
    have hB2 := hB1.trans (hb2.mono hB1.size)
    clear d00 d01 d02 d10 d11 d12
    go_wp2_with fail
    refine (framed_any _).mono ?_
    rintro e w3 ⟨rfl, hb3⟩
    have b6 := b4.below hb3 b4.lt
    have b7 := b5.below hb3 b5.lt
    have hB3 := hB2.trans (hb3.mono hB2.size)
    go_wp2_with fail
    go_ret
    exact ⟨rfl, hB3⟩

theorem own : ownKnob Try.prog.godebug = none := by kernel_rfl
theorem laid : laidOutB Try.prog = true := by kernel_rfl
set_option maxRecDepth 100000 in
theorem contract (H : Type) (enc : TypeId × Value → H) (W : World) (base : Nat) (args : Array Value) (ds gs : List (DataW H)) (before : List MemPlace)
    (hval0 : ∀ (j : Nat) t v, Try.f4.params[j]? = some t → args[j]? = some v → Value.okWide Try.prog W .any base t v)
    (hW : DataW.Whole enc Try.prog Try.f4.params.toList Rows.frameOneSpec.vars false W args.toList ds gs before)
    (hsz0 : (DataW.weightsEach Try.prog (Try.f4.params.toList ++ Rows.frameOneSpec.plain.varTypes Try.prog) (ds ++ gs)).all (· ≤ reachBytes) = true) :
    Calls Try.prog 4 args W fun e W' => ∃ v, e = .returned v ∧ Rows.frameOneSpec.post enc Try.prog Try.f4 false true false false W args v W' := by
  have hval : ∀ (j : Nat) t v, Try.f4.params[j]? = some t → args[j]? = some v → Value.okWide Try.prog W .any base t v := hval0
  have hsz : (DataW.weightsEach Try.prog (Try.f4.params.toList ++ Rows.frameOneSpec.plain.varTypes Try.prog) (ds ++ gs)).all (· ≤ reachBytes) = true := hsz0
  have hlt : ∀ x ∈ before, x.block < W.heap.size := fun x hx => hW.lt x hx
  have hW' := hW
  obtain ⟨p, q, hA0, hV, rfl, hfz, hnd⟩ := hW
  have hA : DataW.TrodAll enc Try.prog W 0 (fun _ => true) true Try.f4.params.toList args.toList ds p := hA0
  rw [Try.params4] at hA hval hsz
  obtain ⟨v0, vs0, d0, ds0, p0, q0, hargs, rfl, rfl, h0, r0⟩ := trodAll_cons hA
  obtain ⟨v1, vs1, d1, ds1, p1, q1, rfl, rfl, rfl, h1, r1⟩ := trodAll_cons r0
  obtain ⟨rfl, rfl, rfl⟩ := trodAll_nil r1
  obtain rfl : args = #[v0, v1] := by cases args; simp_all
  obtain ⟨rfl, rfl⟩ := trodVars_none hV
  obtain ⟨c00, c01, c02, y00, y01, y02, m0, rfl, rfl, rfl, hy00, hy01, hy02⟩ := open_agg3 Try.underlying23 (by kernel_rfl) cellsFrame (hval 0 23 v0 rfl rfl) h0
  obtain ⟨a0, e00, rfl, wa0⟩ := DataW.trod_int Try.underlying3 hy00
  obtain ⟨b0, e01, rfl, wb0⟩ := DataW.trod_int Try.underlying3 hy01
  obtain ⟨s0, e02, rfl, ws0⟩ := DataW.trod_string Try.underlying9 hy02
  simp at e00 e01 e02; subst e00 e01 e02
  have ba0 := bounds_i64 wa0; have bb0 := bounds_i64 wb0
  have bs0 : s0.size ≤ 140737488351232 := frame_sized hsz (j := 0) rfl rfl
  obtain ⟨c10, c11, c12, y10, y11, y12, m1, rfl, rfl, rfl, hy10, hy11, hy12⟩ := open_agg3 Try.underlying23 (by kernel_rfl) cellsFrame (hval 1 23 v1 rfl rfl) h1
  obtain ⟨a1, e10, rfl, wa1⟩ := DataW.trod_int Try.underlying3 hy10
  obtain ⟨b1, e11, rfl, wb1⟩ := DataW.trod_int Try.underlying3 hy11
  obtain ⟨s1, e12, rfl, ws1⟩ := DataW.trod_string Try.underlying9 hy12
  simp at e10 e11 e12; subst e10 e11 e12
  have ba1 := bounds_i64 wa1; have bb1 := bounds_i64 wb1
  have bs1 : s1.size ≤ 140737488351232 := frame_sized hsz (j := 1) rfl rfl
  refine (walk a0 b0 s0 ba0.1 ba0.2 bb0.1 bb0.2 bs0 a1 b1 s1 ba1.1 ba1.2 bb1.1 bb1.2 bs1 W).mono fun e W' ⟨he, hb⟩ => ?_
  subst he
  exact ⟨_, rfl, law_post laid (by kernel_rfl) Try.underlying4 rfl rfl hW' rfl rfl rfl rfl hb⟩

set_option maxRecDepth 100000 in
theorem lifted (os : Os) (started : os.Started) (H : Type) (enc : TypeId × Value → H) :
    ReturnsInHanded {} Try.checked os 4 .any (Rows.frameOneSpec.pre6 enc Try.prog Try.f4 Rows.frameOneRow.domain false) (Rows.frameOneSpec.post enc Try.prog Try.f4 false true false false) := by
  refine returnsInHanded_of_change_sized (C := Try.checked) own started (by kernel_rfl) Try.func4
    (ChangeSpec.witness6 (enc := enc) (C := Try.checked) false ⟨#[], #[.agg #[.int .i64 0, .int .i64 0, .string ByteArray.empty], .agg #[.int .i64 0, .int .i64 0, .string ByteArray.empty]], []⟩ 8 (by kernel_rfl) (by kernel_rfl) (by kernel_rfl) (by kernel_rfl)) ?_
  intro W base args ds gs before hval0 hW _ hsz0 _
  exact contract H enc W base args ds gs before hval0 hW hsz0

theorem over : Rows.frameOneRow.holds Try.pinned (OpenSpec.ofChange Rows.frameOneSpec) :=
  OpenClaim.holds_of_wide 4 Try.f4 rfl rfl rfl rfl rfl rfl rfl ⟨rfl, rfl, rfl, rfl, rfl⟩ rfl rfl rfl rfl rfl (by kernel_rfl) Try.func4 (by kernel_rfl)
    (of_decide_eq_true (by kernel_rfl)) (by unfold Func.isWrapper; first | (rw [if_pos (by decide +kernel)]; kernel_rfl) | (rw [if_neg (by decide +kernel)]; exact ⟨rfl, rfl⟩))
    (fun os started H enc _ => lifted os started H enc)

/-- The statement. -/
theorem proved : Rows.FrameOneSaid := over
#print axioms proved
end Go.Proofs.Ytdaapfhmhfbjbaa.frameOne
