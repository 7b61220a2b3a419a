/-
  The law FrameTurned of package brackenkeep: for every input it answers true.
-/
import Derived.Test.YtibhffdimcmcoaaRows
import Derived.Test.YtibhffdimcmcoaaBase
import Derived.Test.YtibhffdimcmcoaaFrameT
import Derived.Test.YtibhffdimcmcoaaFrameN
import Derived.Test.YtibhffdimcmcoaaRestW
set_option linter.unusedVariables false
set_option linter.unusedSimpArgs false
namespace Go.Proofs.Ytibhffdimcmcoaa.frameTurned
open Go.ChangeShapes Go.WideShapes Go.ChangeAt Go.RowKit Go.Joins
open Go.ChangeMaps (open_string)
theorem cat_set (s : ByteArray) (k : Nat) (c : UInt8) (h : k < s.size) : (s.extract 0 k ++ { data := #[c] } ++ s.extract (k + 1) s.size).data.toList = s.data.toList.set k c := by
  rw [List.set_eq_take_append_cons_drop, if_pos (by simpa using h)]
  simp only [ByteArray.data_append, ByteArray.data_extract, Array.toList_append, Array.toList_extract]
  simp
  rw [List.take_of_length_le (by simp)]
theorem cat_size (s : ByteArray) (k : Nat) (c : UInt8) (h : k < s.size) : (s.extract 0 k ++ { data := #[c] } ++ s.extract (k + 1) s.size).size = s.size := by
  have hsz : ∀ b : ByteArray, b.size = b.data.toList.length := fun b => by simp
  rw [hsz, cat_set s k c h, List.length_set, ← hsz]
set_option maxHeartbeats 8000000 in
set_option maxRecDepth 100000 in
theorem walk (v k : Int) (pl : ByteArray) (v1 : -9223372036854775808 ≤ v) (v2 : v ≤ 9223372036854775807) (k1 : -9223372036854775808 ≤ k) (k2 : k ≤ 9223372036854775807) (hp : pl.size ≤ 140737488351232) (a : Int) (a1 : -9223372036854775808 ≤ a) (a2 : a ≤ 9223372036854775807) (c : Nat) (hc : c < 256) (w : World) :
    Calls Try.prog 14 #[.agg #[.int .i64 v, .int .i64 k, .string pl], .int .i64 a, .int .u8 c] w fun e w' => e = .returned (.bool true) ∧ Below w.heap.size w w' := by
  have hz := zero_frame_lit
  by_cases hg : goodF v k ∧ pl.size ≤ 6000
  · obtain ⟨hg, hp6⟩ := hg
    obtain ⟨vn, rfl⟩ := Int.eq_ofNat_of_zero_le (show 0 ≤ v by have := hg.1; omega)
    obtain ⟨kn, rfl⟩ := Int.eq_ofNat_of_zero_le (show 0 ≤ k by have := hg.2.2.1; omega)
    have hv : 1 ≤ vn ∧ vn ≤ 3 := by unfold goodF at hg; omega
    have hk : 1 ≤ kn ∧ kn ≤ 4 := by unfold goodF at hg; omega
    have hpl : pl.data.toList.length ≤ 6000 := by simpa using hp6
    have hpz : pl.data.toList.length = pl.size := by simp
    have hE := encode_good vn kn pl.data.toList hv hk hpl
    have hlen := wireF_length vn kn pl.data.toList
    have h10 := putN_len10 pl.data.toList.length (by omega)
    rw [bstr_self] at hE
    have hsz : (bstr (wireF vn kn pl.data.toList)).size = (wireF vn kn pl.data.toList).length := bstr_size _
    have hSl : (bstr (wireF vn kn pl.data.toList)).data.toList = wireF vn kn pl.data.toList := bstr_list _
    have hDok := fun (T : ByteArray) (hT : T.data.toList = wireF vn kn pl.data.toList) (hs : T.size ≤ 4611686018427387904) => decode_wire vn kn pl.data.toList [] hv hk hpl T (by rw [hT]; simp) hs
    rw [bstr_self] at hDok
    have hlaw := fun j c => turned_law vn kn pl.data.toList hv hk hpl j c
    rw [hpz] at h10 hlaw hlen
    have hpos : 0 < (bstr (wireF vn kn pl.data.toList)).size := by omega
    have hmx : (bstr (wireF vn kn pl.data.toList)).size ≤ 6020 := by omega
    generalize bstr (wireF vn kn pl.data.toList) = S at *
    rw [← hSl] at hDok hlaw hsz
    have HL := Lib.hid hlaw
    have HE1 := Lib.hid hE
    have HD1 := Lib.hid hDok
    have HSZ := Lib.hid hsz
    have hcu : (UInt8.ofNat c).toNat = c := by simp only [UInt8.toNat_ofNat']; omega
    have hcv := fun W => conv_lit_drew (P := Try.prog) (src := 39) (dst := 9) Try.underlying39 Try.underlying5 Try.underlying9 #[.int .u8 (c : Int)] [UInt8.ofNat c] (by simp only [bytesV, List.map_cons, List.map_nil, hcu]) 1 1 rfl W 5
    have hwp : IntKind.u64.wrap (pl.size : Int) = (pl.size : Int) := by rw [IntKind.wrap_u64]; omega
    clear hE hDok hlaw hsz hlen hpl v1 v2 k1 k2 hg hpz hSl hcu
    go_enter Try.func14, Try.ntmps14
    go_wp2_with fail
    have b0 := Blk.new w 43 #[.int .i64 (vn : Int), .int .i64 (kn : Int), .string pl]
    have hb0 : Below w.heap.size w (w.alloc (.cells #[.int .i64 (vn : Int), .int .i64 (kn : Int), .string pl] 43)) := (Below.refl _ _).alloc (Nat.le_refl _) _
    generalize w.alloc (.cells #[.int .i64 (vn : Int), .int .i64 (kn : Int), .string pl] 43) = W0 at *
    refine (framed_any _).mono ?_
    rintro e w1 ⟨rfl, hb1⟩
    have b1 := b0.below hb1 b0.lt
    have hB1 := hb0.trans (hb1.mono hb0.size)
    have c0 : w1.cell? ⟨w.heap.size, 0, none⟩ = some (Value.int .i64 (vn : Int)) := b1.cell 0
    have c1 : w1.cell? ⟨w.heap.size, 1, none⟩ = some (Value.int .i64 (kn : Int)) := b1.cell 1
    have c2 : w1.cell? ⟨w.heap.size, 2, none⟩ = some (Value.string pl) := b1.cell 2
    clear hb1 hb0 b0
    go_wp2_with fail
    refine (HE1.out _).mono ?_
    rintro e w2 ⟨rfl, hb2⟩
    have hB2 := hB1.trans (hb2.mono hB1.size)
    have b2 := b1.below hb2 b1.lt
    clear c0 c1 c2 b1
    go_wp2_with fail
    have r0 := Int.emod_nonneg a (show (S.size : Int) ≠ 0 by omega)
    have r1 := Int.emod_lt_of_pos a (show (0 : Int) < (S.size : Int) by omega)
    refine (rest_any a (S.size : Int) _ (by omega) (by omega)).mono ?_
    rintro e w3 ⟨rfl, rfl⟩
    generalize a % (S.size : Int) = i at *
    obtain ⟨j, rfl⟩ := Int.eq_ofNat_of_zero_le r0
    have hj : j < S.size := by omega
    have hle1 : (j : Int) ≤ S.size := by omega
    have hle2 : (j : Int) + 1 ≤ S.size := by omega
    have hw1 : IntKind.i64.wrap ((j : Int) + 1) = (j : Int) + 1 := IntWalk.i64_in _ (by omega)
    have hn1 : (0 : Int) ≤ (j : Int) + 1 := by omega
    have ht1 : ((j : Int) + 1).toNat = j + 1 := by omega
    have hz1 : (S.extract 0 j).size = j := by rw [ByteArray.size_extract]; omega
    have hz2 : (S.extract (j + 1) S.size).size = S.size - (j + 1) := by rw [ByteArray.size_extract]; omega
    go_wp2_with fail
    go_big_region
    have hT := cat_set S j (UInt8.ofNat c) hj
    have hTs := cat_size S j (UInt8.ofNat c) hj
    generalize S.extract 0 j ++ { data := #[UInt8.ofNat c] } ++ S.extract (j + 1) S.size = T at *
    have b3 : Blk (w2.alloc (.cells #[.int .u8 (c : Int)] 5)).drew w.heap.size 43 _ := b2.alloc _
    have hB3 : Below w.heap.size w (w2.alloc (.cells #[.int .u8 (c : Int)] 5)).drew := (hB2.alloc hB2.size _).drew
    generalize (w2.alloc (.cells #[.int .u8 (c : Int)] 5)).drew = w3 at *
    clear hcv hz1 hz2 hw1 hle1 hle2 hn1 ht1 b2 hB2 hb2 r0 r1 HE1
    have hLW := HL.out j (UInt8.ofNat c) (by have := HSZ.out; omega)
    clear HL HSZ
    by_cases hU : S.data.toList.set j (UInt8.ofNat c) = S.data.toList
    · have e1 : (T.toList == S.toList) = true := by rw [ByteArray.toList_eq, ByteArray.toList_eq, hT, hU]; simp
      have HD2 := Lib.hid (HD1.out T (by rw [hT, hU]) (by omega))
      clear hLW HD1 hT hU
      go_wp2_with fail
      refine (HD2.out _).mono ?_
      rintro e w4 ⟨rfl, hb4⟩
      have b4 := (b3.below hb4 b3.lt).alloc (.cells #[Value.int .i64 (vn : Int), Value.int .i64 (kn : Int), Value.string pl] 43)
      have b5 := Blk.new w4 43 #[Value.int .i64 (vn : Int), Value.int .i64 (kn : Int), Value.string pl]
      have hB5 := (hB3.trans (hb4.mono hB3.size)).alloc (Nat.le_trans hB3.size hb4.size) (.cells #[Value.int .i64 (vn : Int), Value.int .i64 (kn : Int), Value.string pl] 43)
      have hlt4 := (b3.below hb4 b3.lt).lt
      have d0 : (w4.alloc (.cells #[Value.int .i64 (vn : Int), Value.int .i64 (kn : Int), Value.string pl] 43)).cell? ⟨w.heap.size, 0, none⟩ = some (Value.int .i64 (vn : Int)) := b4.cell 0
      have d1 : (w4.alloc (.cells #[Value.int .i64 (vn : Int), Value.int .i64 (kn : Int), Value.string pl] 43)).cell? ⟨w.heap.size, 1, none⟩ = some (Value.int .i64 (kn : Int)) := b4.cell 1
      have d2 : (w4.alloc (.cells #[Value.int .i64 (vn : Int), Value.int .i64 (kn : Int), Value.string pl] 43)).cell? ⟨w.heap.size, 2, none⟩ = some (Value.string pl) := b4.cell 2
      go_wp2_with (refine wpList_store_new rfl _ _ _ rfl rfl 43 _ _ rfl frame_size3 rfl (frA_one _ _ _) ?_)
      refine (number_any pl.size _ (by omega)).mono ?_
      rintro e w6 ⟨rfl, hb6⟩
      have b7 := b4.below hb6 b4.lt
      have b8 := b5.below hb6 b5.lt
      have g0 : w6.cell? ⟨w.heap.size, 0, none⟩ = some (Value.int .i64 (vn : Int)) := b7.cell 0
      have g1 : w6.cell? ⟨w.heap.size, 1, none⟩ = some (Value.int .i64 (kn : Int)) := b7.cell 1
      have g2 : w6.cell? ⟨w.heap.size, 2, none⟩ = some (Value.string pl) := b7.cell 2
      have h0 : w6.cell? ⟨w4.heap.size, 0, none⟩ = some (Value.int .i64 (vn : Int)) := b8.cell 0
      have h1 : w6.cell? ⟨w4.heap.size, 1, none⟩ = some (Value.int .i64 (kn : Int)) := b8.cell 1
      have h2 : w6.cell? ⟨w4.heap.size, 2, none⟩ = some (Value.string pl) := b8.cell 2
      clear d0 d1 d2
      go_wp2_with fail
      go_ret
      exact ⟨rfl, hB5.trans (hb6.mono hB5.size)⟩

    · have e1 : (T.toList == S.toList) = false := by rw [beq_eq_false_iff_ne, ByteArray.toList_eq, ByteArray.toList_eq, hT]; exact hU
      rw [← hT] at hLW
      by_cases he : (decF T.data.toList).e = 0
      · have hL2 := hLW (by rw [hT]; exact hU) he
        have HD2 := Lib.hid (decode_good T (by omega) he)
        generalize decF T.data.toList = r at *
        obtain ⟨hne, hj4, hj5⟩ := hL2
        have HN := Lib.hid hne
        clear hLW HD1 hT hU he hne
        go_wp2_with fail
        refine (HD2.out _).mono ?_
        rintro e w4 ⟨rfl, hb4⟩
        have b4 := (b3.below hb4 b3.lt).alloc (.cells #[Value.int .i64 (r.ver : Int), Value.int .i64 (r.kind : Int), Value.string (bstr r.pl)] 43)
        have b5 := Blk.new w4 43 #[Value.int .i64 (r.ver : Int), Value.int .i64 (r.kind : Int), Value.string (bstr r.pl)]
        have hB5 := (hB3.trans (hb4.mono hB3.size)).alloc (Nat.le_trans hB3.size hb4.size) (.cells #[Value.int .i64 (r.ver : Int), Value.int .i64 (r.kind : Int), Value.string (bstr r.pl)] 43)
        have hlt4 := (b3.below hb4 b3.lt).lt
        have d0 : (w4.alloc (.cells #[Value.int .i64 (r.ver : Int), Value.int .i64 (r.kind : Int), Value.string (bstr r.pl)] 43)).cell? ⟨w.heap.size, 0, none⟩ = some (Value.int .i64 (vn : Int)) := b4.cell 0
        have d1 : (w4.alloc (.cells #[Value.int .i64 (r.ver : Int), Value.int .i64 (r.kind : Int), Value.string (bstr r.pl)] 43)).cell? ⟨w.heap.size, 1, none⟩ = some (Value.int .i64 (kn : Int)) := b4.cell 1
        have d2 : (w4.alloc (.cells #[Value.int .i64 (r.ver : Int), Value.int .i64 (r.kind : Int), Value.string (bstr r.pl)] 43)).cell? ⟨w.heap.size, 2, none⟩ = some (Value.string pl) := b4.cell 2
        go_wp2_with (refine wpList_store_new rfl _ _ _ rfl rfl 43 _ _ rfl frame_size3 rfl (frA_one _ _ _) ?_)
        refine (number_any pl.size _ (by omega)).mono ?_
        rintro e w6 ⟨rfl, hb6⟩
        have b7 := b4.below hb6 b4.lt
        have b8 := b5.below hb6 b5.lt
        have g0 : w6.cell? ⟨w.heap.size, 0, none⟩ = some (Value.int .i64 (vn : Int)) := b7.cell 0
        have g1 : w6.cell? ⟨w.heap.size, 1, none⟩ = some (Value.int .i64 (kn : Int)) := b7.cell 1
        have g2 : w6.cell? ⟨w.heap.size, 2, none⟩ = some (Value.string pl) := b7.cell 2
        have h0 : w6.cell? ⟨w4.heap.size, 0, none⟩ = some (Value.int .i64 (r.ver : Int)) := b8.cell 0
        have h1 : w6.cell? ⟨w4.heap.size, 1, none⟩ = some (Value.int .i64 (r.kind : Int)) := b8.cell 1
        have h2 : w6.cell? ⟨w4.heap.size, 2, none⟩ = some (Value.string (bstr r.pl)) := b8.cell 2
        clear d0 d1 d2
        go_wp2_with fail
        all_goals first
          | (exfalso
             refine HN.out ⟨by omega, by omega, ?_⟩
             have h9 : (bstr r.pl).toList = pl.toList := by assumption
             rw [bstr_toList, ByteArray.toList_eq] at h9
             exact h9)
          | (go_ret
             exact ⟨congrArg (fun b => Ending.returned (.bool b)) (by simp; omega), hB5.trans (hb6.mono hB5.size)⟩)

      · have HD2 := Lib.hid (decode_bad T (by omega) he)
        obtain ⟨x, hx⟩ : ∃ x, x = (decF T.data.toList).e := ⟨_, rfl⟩
        rw [← hx] at HD2 he
        have hx0 : ((x : Int) == 0) = false := beq_eq_false_iff_ne.2 (by omega)
        have hx1 : ((x : Int) != 0) = true := by rw [bne_iff_ne]; omega
        clear hLW HD1 hT hU hx he
        go_wp2_with fail
        refine (HD2.out _).mono ?_
        rintro e w4 ⟨rfl, hb4⟩
        have b4 := (b3.below hb4 b3.lt).alloc (.cells #[Value.int .i64 0, Value.int .i64 0, Value.string ByteArray.empty] 43)
        have b5 := Blk.new w4 43 #[Value.int .i64 0, Value.int .i64 0, Value.string ByteArray.empty]
        have hB5 := (hB3.trans (hb4.mono hB3.size)).alloc (Nat.le_trans hB3.size hb4.size) (.cells #[Value.int .i64 0, Value.int .i64 0, Value.string ByteArray.empty] 43)
        have hlt4 := (b3.below hb4 b3.lt).lt
        have d0 : (w4.alloc (.cells #[Value.int .i64 0, Value.int .i64 0, Value.string ByteArray.empty] 43)).cell? ⟨w.heap.size, 0, none⟩ = some (Value.int .i64 (vn : Int)) := b4.cell 0
        have d1 : (w4.alloc (.cells #[Value.int .i64 0, Value.int .i64 0, Value.string ByteArray.empty] 43)).cell? ⟨w.heap.size, 1, none⟩ = some (Value.int .i64 (kn : Int)) := b4.cell 1
        have d2 : (w4.alloc (.cells #[Value.int .i64 0, Value.int .i64 0, Value.string ByteArray.empty] 43)).cell? ⟨w.heap.size, 2, none⟩ = some (Value.string pl) := b4.cell 2
        go_wp2_with (refine wpList_store_new rfl _ _ _ rfl rfl 43 _ _ rfl frame_size3 rfl (frA_one _ _ _) ?_)
        refine (number_any pl.size _ (by omega)).mono ?_
        rintro e w6 ⟨rfl, hb6⟩
        have b7 := b4.below hb6 b4.lt
        have b8 := b5.below hb6 b5.lt
        have g0 : w6.cell? ⟨w.heap.size, 0, none⟩ = some (Value.int .i64 (vn : Int)) := b7.cell 0
        have g1 : w6.cell? ⟨w.heap.size, 1, none⟩ = some (Value.int .i64 (kn : Int)) := b7.cell 1
        have g2 : w6.cell? ⟨w.heap.size, 2, none⟩ = some (Value.string pl) := b7.cell 2
        have h0 : w6.cell? ⟨w4.heap.size, 0, none⟩ = some (Value.int .i64 0) := b8.cell 0
        have h1 : w6.cell? ⟨w4.heap.size, 1, none⟩ = some (Value.int .i64 0) := b8.cell 1
        have h2 : w6.cell? ⟨w4.heap.size, 2, none⟩ = some (Value.string ByteArray.empty) := b8.cell 2
        clear d0 d1 d2
        go_wp2_with fail
        go_ret
        exact ⟨rfl, hB5.trans (hb6.mono hB5.size)⟩

  · obtain ⟨x, hx, hE⟩ := encode_bad v k pl v1 v2 k1 k2 (by omega) hg
    have hx0 : ((x : Int) != 0) = true := by rw [bne_iff_ne]; omega
    have hx1 : ((x : Int) == 0) = false := beq_eq_false_iff_ne.2 (by omega)
    have HE1 := Lib.hid hE
    clear hE hx hg
    go_enter Try.func14, Try.ntmps14
    go_wp2_with fail
    have b0 := Blk.new w 43 #[.int .i64 v, .int .i64 k, .string pl]
    have hb0 : Below w.heap.size w (w.alloc (.cells #[.int .i64 v, .int .i64 k, .string pl] 43)) := (Below.refl _ _).alloc (Nat.le_refl _) _
    generalize w.alloc (.cells #[.int .i64 v, .int .i64 k, .string pl] 43) = W0 at *
    refine (framed_any _).mono ?_
    rintro e w1 ⟨rfl, hb1⟩
    have b1 := b0.below hb1 b0.lt
    have hB1 := hb0.trans (hb1.mono hb0.size)
    have c0 : w1.cell? ⟨w.heap.size, 0, none⟩ = some (Value.int .i64 v) := b1.cell 0
    have c1 : w1.cell? ⟨w.heap.size, 1, none⟩ = some (Value.int .i64 k) := b1.cell 1
    have c2 : w1.cell? ⟨w.heap.size, 2, none⟩ = some (Value.string pl) := b1.cell 2
    clear hb1 hb0 b0
    go_wp2_with fail
    refine (HE1.out _).mono ?_
    rintro e w2 ⟨rfl, hb2⟩
    have hB2 := hB1.trans (hb2.mono hB1.size)
    go_wp2_with fail
    go_ret
    exact ⟨rfl, hB2⟩

theorem own : ownKnob Try.prog.godebug = none := by kernel_rfl
theorem laid : laidOutB Try.prog = true := by kernel_rfl
set_option maxRecDepth 100000 in
theorem contract (H : Type) (enc : TypeId × Value → H) (W : World) (base : Nat) (args : Array Value) (ds gs : List (DataW H)) (before : List MemPlace)
    (hval0 : ∀ (j : Nat) t v, Try.f14.params[j]? = some t → args[j]? = some v → Value.okWide Try.prog W .any base t v)
    (hW : DataW.Whole enc Try.prog Try.f14.params.toList Rows.frameTurnedSpec.vars false W args.toList ds gs before)
    (hsz0 : (DataW.weightsEach Try.prog (Try.f14.params.toList ++ Rows.frameTurnedSpec.plain.varTypes Try.prog) (ds ++ gs)).all (· ≤ reachBytes) = true) :
    Calls Try.prog 14 args W fun e W' => ∃ v, e = .returned v ∧ Rows.frameTurnedSpec.post enc Try.prog Try.f14 false true false false W args v W' := by
  have hval : ∀ (j : Nat) t v, Try.f14.params[j]? = some t → args[j]? = some v → Value.okWide Try.prog W .any base t v := hval0
  have hsz : (DataW.weightsEach Try.prog (Try.f14.params.toList ++ Rows.frameTurnedSpec.plain.varTypes Try.prog) (ds ++ gs)).all (· ≤ reachBytes) = true := hsz0
  have hlt : ∀ x ∈ before, x.block < W.heap.size := fun x hx => hW.lt x hx
  have hW' := hW
  obtain ⟨p, q, hA0, hV, rfl, hfz, hnd⟩ := hW
  have hA : DataW.TrodAll enc Try.prog W 0 (fun _ => true) true Try.f14.params.toList args.toList ds p := hA0
  rw [Try.params14] at hA hval hsz
  obtain ⟨v0, vs0, d0, ds0, p0, q0, hargs, rfl, rfl, h0, r0⟩ := trodAll_cons hA
  obtain ⟨v1, vs1, d1, ds1, p1, q1, rfl, rfl, rfl, h1, r1⟩ := trodAll_cons r0
  obtain ⟨v2, vs2, d2, ds2, p2, q2, rfl, rfl, rfl, h2, r2⟩ := trodAll_cons r1
  obtain ⟨rfl, rfl, rfl⟩ := trodAll_nil r2
  obtain rfl : args = #[v0, v1, v2] := by cases args; simp_all
  obtain ⟨rfl, rfl⟩ := trodVars_none hV
  obtain ⟨c00, c01, c02, y00, y01, y02, m0, rfl, rfl, rfl, hy00, hy01, hy02⟩ := open_agg3 Try.underlying43 (by kernel_rfl) cellsFrame (hval 0 43 v0 rfl rfl) h0
  obtain ⟨a0, e00, rfl, wa0⟩ := DataW.trod_int Try.underlying3 hy00
  obtain ⟨b0, e01, rfl, wb0⟩ := DataW.trod_int Try.underlying3 hy01
  obtain ⟨s0, e02, rfl, ws0⟩ := DataW.trod_string Try.underlying9 hy02
  simp at e00 e01 e02; subst e00 e01 e02
  have ba0 := bounds_i64 wa0; have bb0 := bounds_i64 wb0
  have bs0 : s0.size ≤ 140737488351232 := frame_sized hsz (j := 0) rfl rfl
  obtain ⟨a1, rfl, rfl, rfl, w1⟩ := open_int Try.underlying3 (hval 1 3 v1 rfl rfl) h1
  have b1 := bounds_i64 w1
  obtain ⟨a2, rfl, rfl, rfl, w2⟩ := open_int Try.underlying5 (hval 2 5 v2 rfl rfl) h2
  have b2 := bounds_u8 w2
  obtain ⟨n2, rfl⟩ := Int.eq_ofNat_of_zero_le b2.1
  refine (walk a0 b0 s0 ba0.1 ba0.2 bb0.1 bb0.2 bs0 a1 b1.1 b1.2 n2 (by have := b2.2; omega) W).mono fun e W' ⟨he, hb⟩ => ?_
  subst he
  exact ⟨_, rfl, law_post laid (by kernel_rfl) Try.underlying4 rfl rfl hW' rfl rfl rfl rfl hb⟩

set_option maxRecDepth 100000 in
theorem lifted (os : Os) (started : os.Started) (H : Type) (enc : TypeId × Value → H) :
    ReturnsInHanded {} Try.checked os 14 .any (Rows.frameTurnedSpec.pre6 enc Try.prog Try.f14 Rows.frameTurnedRow.domain false) (Rows.frameTurnedSpec.post enc Try.prog Try.f14 false true false false) := by
  refine returnsInHanded_of_change_sized (C := Try.checked) own started (by kernel_rfl) Try.func14
    (ChangeSpec.witness6 (enc := enc) (C := Try.checked) false ⟨#[], #[.agg #[.int .i64 0, .int .i64 0, .string ByteArray.empty], .int .i64 0, .int .u8 0], []⟩ 8 (by kernel_rfl) (by kernel_rfl) (by kernel_rfl) (by kernel_rfl)) ?_
  intro W base args ds gs before hval0 hW _ hsz0 _
  exact contract H enc W base args ds gs before hval0 hW hsz0

theorem over : Rows.frameTurnedRow.holds Try.pinned (OpenSpec.ofChange Rows.frameTurnedSpec) :=
  OpenClaim.holds_of_wide 14 Try.f14 rfl rfl rfl rfl rfl rfl rfl ⟨rfl, rfl, rfl, rfl, rfl⟩ rfl rfl rfl rfl rfl (by kernel_rfl) Try.func14 (by kernel_rfl)
    (of_decide_eq_true (by kernel_rfl)) (by unfold Func.isWrapper; first | (rw [if_pos (by decide +kernel)]; kernel_rfl) | (rw [if_neg (by decide +kernel)]; exact ⟨rfl, rfl⟩))
    (fun os started H enc _ => lifted os started H enc)

/-- The statement. -/
theorem proved : Rows.FrameTurnedSaid := over
#print axioms proved
end Go.Proofs.Ytibhffdimcmcoaa.frameTurned
