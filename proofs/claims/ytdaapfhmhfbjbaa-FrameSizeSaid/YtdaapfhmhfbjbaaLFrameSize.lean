/-
  The law FrameSize of package brackenkeep: for every input it answers true.
-/
import Derived.Test.YtdaapfhmhfbjbaaRows
import Derived.Test.YtdaapfhmhfbjbaaBase
import Derived.Test.YtdaapfhmhfbjbaaFrameT
set_option linter.unusedVariables false
set_option linter.unusedSimpArgs false
namespace Go.Proofs.Ytdaapfhmhfbjbaa.frameSize
open Go.ChangeShapes Go.WideShapes Go.ChangeAt Go.RowKit Go.Joins
open Go.ChangeMaps (open_string)
theorem wire_head (v k : Nat) (pl : List UInt8) (S : ByteArray) (h : S.data.toList = wireF v k pl) (hv : 1 ≤ v ∧ v ≤ 3) (hk : 1 ≤ k ∧ k ≤ 4) :
    (S.extract 0 2).toList = [66, 75] ∧ ∃ (h2 : 2 < S.size) (h3 : 3 < S.size), S[2].toNat = v ∧ S[3].toNat = k := by
  have hs := wireF_split v k pl
  rw [← h] at hs
  have hz : S.size = S.data.toList.length := by simp
  have h2 : 2 < S.size := by rw [hz, hs]; simp
  have h3 : 3 < S.size := by rw [hz, hs]; simp
  refine ⟨?_, h2, h3, ?_, ?_⟩
  · rw [ByteArray.toList_eq]; simp [ByteArray.data_extract, hs]
  · have e : S[2] = S.data.toList[2]'(by omega) := rfl
    rw [e]; simp only [hs]; exact ofNat_byte v (by omega)
  · have e : S[3] = S.data.toList[3]'(by omega) := rfl
    rw [e]; simp only [hs]; exact ofNat_byte k (by omega)
set_option maxHeartbeats 4000000 in
set_option maxRecDepth 100000 in
theorem walk (v k : Int) (pl : ByteArray) (v1 : -9223372036854775808 ≤ v) (v2 : v ≤ 9223372036854775807) (k1 : -9223372036854775808 ≤ k) (k2 : k ≤ 9223372036854775807) (hp : pl.size ≤ 140737488351232) (w : World) :
    Calls Try.prog 3 #[.agg #[.int .i64 v, .int .i64 k, .string pl]] w fun e w' => e = .returned (.bool true) ∧ Below w.heap.size w w' := by
  have hz := zero_frame_lit
  by_cases hg : goodF v k ∧ pl.size ≤ 6000
  · obtain ⟨hg, hp6⟩ := hg
    obtain ⟨vn, rfl⟩ := Int.eq_ofNat_of_zero_le (show 0 ≤ v by have := hg.1; omega)
    obtain ⟨kn, rfl⟩ := Int.eq_ofNat_of_zero_le (show 0 ≤ k by have := hg.2.2.1; omega)
    have hv : 1 ≤ vn ∧ vn ≤ 3 := by unfold goodF at hg; omega
    have hk : 1 ≤ kn ∧ kn ≤ 4 := by unfold goodF at hg; omega
    have hpl : pl.data.toList.length ≤ 6000 := by simpa using hp6
    have hpz : pl.data.toList.length = pl.size := by simp
    have hE := encode_good vn kn pl.data.toList hv hk hpl
    have hlen := wireF_length vn kn pl.data.toList
    have h10 := putN_len10 pl.data.toList.length (by omega)
    rw [bstr_self] at hE
    have hsz : (bstr (wireF vn kn pl.data.toList)).size = (wireF vn kn pl.data.toList).length := bstr_size _
    obtain ⟨hx, h2, h3, hb2, hb3⟩ := wire_head vn kn pl.data.toList (bstr (wireF vn kn pl.data.toList)) (bstr_list _) hv hk
    rw [hpz] at h10 hlen
    rw [hlen] at hsz
    generalize bstr (wireF vn kn pl.data.toList) = S at *
    have HE1 := Lib.hid hE
    have HX := Lib.hid hx
    have HZ := Lib.hid hsz
    have hw0 : IntKind.u64.wrap (pl.size : Int) = (pl.size : Int) := by rw [IntKind.wrap_u64]; omega
    have hb2' : (S[2].toNat : Int) = vn := by omega
    have hb3' : (S[3].toNat : Int) = kn := by omega
    have hle2 : (2 : Int) ≤ (S.size : Int) := by omega
    clear hE hlen hpl v1 v2 k1 k2 hg hpz hx hsz
    go_enter Try.func3, Try.ntmps3
    have b0 := Blk.new w 23 #[Value.int .i64 (vn : Int), Value.int .i64 (kn : Int), Value.string pl]
    have hB0 : Below w.heap.size w (w.alloc (.cells #[Value.int .i64 (vn : Int), Value.int .i64 (kn : Int), Value.string pl] 23)) := (Below.refl _ _).alloc (Nat.le_refl _) _
    have c0 : (w.alloc (.cells #[Value.int .i64 (vn : Int), Value.int .i64 (kn : Int), Value.string pl] 23)).cell? ⟨w.heap.size, 0, none⟩ = some (Value.int .i64 (vn : Int)) := b0.cell 0
    have c1 : (w.alloc (.cells #[Value.int .i64 (vn : Int), Value.int .i64 (kn : Int), Value.string pl] 23)).cell? ⟨w.heap.size, 1, none⟩ = some (Value.int .i64 (kn : Int)) := b0.cell 1
    have c2 : (w.alloc (.cells #[Value.int .i64 (vn : Int), Value.int .i64 (kn : Int), Value.string pl] 23)).cell? ⟨w.heap.size, 2, none⟩ = some (Value.string pl) := b0.cell 2
    go_wp2_with fail
    generalize w.alloc (.cells #[Value.int .i64 (vn : Int), Value.int .i64 (kn : Int), Value.string pl] 23) = W0 at *
    refine (HE1.out _).mono ?_
    rintro e w1 ⟨rfl, hb1⟩
    have b1 := b0.below hb1 b0.lt
    have hB1 := hB0.trans (hb1.mono hB0.size)
    have d0 : w1.cell? ⟨w.heap.size, 0, none⟩ = some (Value.int .i64 (vn : Int)) := b1.cell 0
    have d1 : w1.cell? ⟨w.heap.size, 1, none⟩ = some (Value.int .i64 (kn : Int)) := b1.cell 1
    have d2 : w1.cell? ⟨w.heap.size, 2, none⟩ = some (Value.string pl) := b1.cell 2
    have hlt1 := b1.lt
    clear c0 c1 c2 hb1 b0 hB0
    have hx2 := HX.out
    have e1 : ((S.extract 0 2).toList == [66, 75]) = true := by rw [hx2]; rfl
    have hs1 : IntKind.i64.wrap (8 + ((putN pl.size).length : Int)) = 8 + ((putN pl.size).length : Int) := IntWalk.i64_in _ (by omega)
    have hs2 : IntKind.i64.wrap (8 + ((putN pl.size).length : Int) + (pl.size : Int)) = 8 + ((putN pl.size).length : Int) + (pl.size : Int) := IntWalk.i64_in _ (by omega)
    have e2 : ((S.size : Int) == 8 + ((putN pl.size).length : Int) + (pl.size : Int)) = true := by rw [beq_iff_eq]; have := HZ.out; omega
    have h2i : (2 : Int) < (S.size : Int) := by omega
    have h3i : (3 : Int) < (S.size : Int) := by omega
    have hwv : IntKind.i64.wrap (vn : Int) = (vn : Int) := IntWalk.i64_in _ (by omega)
    have hwk : IntKind.i64.wrap (kn : Int) = (kn : Int) := IntWalk.i64_in _ (by omega)
    go_wp2_with fail
    go_region_held3 (fun W => W.cell? ⟨w.heap.size, 0, none⟩ = some (Value.int .i64 (vn : Int)) ∧ W.cell? ⟨w.heap.size, 1, none⟩ = some (Value.int .i64 (kn : Int)) ∧ W.cell? ⟨w.heap.size, 2, none⟩ = some (Value.string pl))
      (first
        | go_keep
        | (go_split_ands
           refine ⟨?_, ?_, ?_⟩ <;> (rw [hb2.cell (by simpa using hlt1)]; assumption))
        | (go_split_ands
           refine ⟨?_, ?_, ?_⟩ <;> (rw [hb3.cell (by have := hb2.size; simp at this ⊢; omega)]; assumption)))
      (first
        | (go_at_call 10; refine (framed_any _).mono ?_; rintro e w2 ⟨rfl, hb2⟩)
        | (go_at_call 11; refine (number_any pl.size _ (by omega)).mono ?_; rintro e w3 ⟨rfl, hb3⟩))
    clear hs1 hs2 hwv hwk hw0
    go_wp2
    go_ret
    exact ⟨rfl, (hB1.drew.trans (hb2.mono hB1.size)).trans (hb3.mono (Nat.le_trans hB1.size hb2.size))⟩
  · obtain ⟨z, hzz, hE⟩ := encode_bad v k pl v1 v2 k1 k2 (by omega) hg
    have hx0 : ((z : Int) != 0) = true := by rw [bne_iff_ne]; omega
    have HE1 := Lib.hid hE
    clear hE hzz hg
    have b0 := Blk.new w 23 #[Value.int .i64 v, Value.int .i64 k, Value.string pl]
    have hB0 : Below w.heap.size w (w.alloc (.cells #[Value.int .i64 v, Value.int .i64 k, Value.string pl] 23)) := (Below.refl _ _).alloc (Nat.le_refl _) _
    have c0 : (w.alloc (.cells #[Value.int .i64 v, Value.int .i64 k, Value.string pl] 23)).cell? ⟨w.heap.size, 0, none⟩ = some (Value.int .i64 v) := b0.cell 0
    have c1 : (w.alloc (.cells #[Value.int .i64 v, Value.int .i64 k, Value.string pl] 23)).cell? ⟨w.heap.size, 1, none⟩ = some (Value.int .i64 k) := b0.cell 1
    have c2 : (w.alloc (.cells #[Value.int .i64 v, Value.int .i64 k, Value.string pl] 23)).cell? ⟨w.heap.size, 2, none⟩ = some (Value.string pl) := b0.cell 2
    go_enter Try.func3, Try.ntmps3
    go_wp2_with fail
    generalize w.alloc (.cells #[Value.int .i64 v, Value.int .i64 k, Value.string pl] 23) = W0 at *
    refine (HE1.out _).mono ?_
    rintro e w1 ⟨rfl, hb1⟩
    have hB1 := hB0.trans (hb1.mono hB0.size)
    go_wp2_with fail
    refine (framed_any _).mono ?_
    rintro e w2 ⟨rfl, hb2⟩
    go_wp2_with fail
    go_ret
    exact ⟨rfl, hB1.trans (hb2.mono hB1.size)⟩

theorem own : ownKnob Try.prog.godebug = none := by kernel_rfl
theorem laid : laidOutB Try.prog = true := by kernel_rfl
set_option maxRecDepth 100000 in
theorem contract (H : Type) (enc : TypeId × Value → H) (W : World) (base : Nat) (args : Array Value) (ds gs : List (DataW H)) (before : List MemPlace)
    (hval0 : ∀ (j : Nat) t v, Try.f3.params[j]? = some t → args[j]? = some v → Value.okWide Try.prog W .any base t v)
    (hW : DataW.Whole enc Try.prog Try.f3.params.toList Rows.frameSizeSpec.vars false W args.toList ds gs before)
    (hsz0 : (DataW.weightsEach Try.prog (Try.f3.params.toList ++ Rows.frameSizeSpec.plain.varTypes Try.prog) (ds ++ gs)).all (· ≤ reachBytes) = true) :
    Calls Try.prog 3 args W fun e W' => ∃ v, e = .returned v ∧ Rows.frameSizeSpec.post enc Try.prog Try.f3 false true false false W args v W' := by
  have hval : ∀ (j : Nat) t v, Try.f3.params[j]? = some t → args[j]? = some v → Value.okWide Try.prog W .any base t v := hval0
  have hsz : (DataW.weightsEach Try.prog (Try.f3.params.toList ++ Rows.frameSizeSpec.plain.varTypes Try.prog) (ds ++ gs)).all (· ≤ reachBytes) = true := hsz0
  have hlt : ∀ x ∈ before, x.block < W.heap.size := fun x hx => hW.lt x hx
  have hW' := hW
  obtain ⟨p, q, hA0, hV, rfl, hfz, hnd⟩ := hW
  have hA : DataW.TrodAll enc Try.prog W 0 (fun _ => true) true Try.f3.params.toList args.toList ds p := hA0
  rw [Try.params3] at hA hval hsz
  obtain ⟨v0, vs0, d0, ds0, p0, q0, hargs, rfl, rfl, h0, r0⟩ := trodAll_cons hA
  obtain ⟨rfl, rfl, rfl⟩ := trodAll_nil r0
  obtain rfl : args = #[v0] := by cases args; simp_all
  obtain ⟨rfl, rfl⟩ := trodVars_none hV
  obtain ⟨c00, c01, c02, y00, y01, y02, m0, rfl, rfl, rfl, hy00, hy01, hy02⟩ := open_agg3 Try.underlying23 (by kernel_rfl) cellsFrame (hval 0 23 v0 rfl rfl) h0
  obtain ⟨a0, e00, rfl, wa0⟩ := DataW.trod_int Try.underlying3 hy00
  obtain ⟨b0, e01, rfl, wb0⟩ := DataW.trod_int Try.underlying3 hy01
  obtain ⟨s0, e02, rfl, ws0⟩ := DataW.trod_string Try.underlying9 hy02
  simp at e00 e01 e02; subst e00 e01 e02
  have ba0 := bounds_i64 wa0; have bb0 := bounds_i64 wb0
  have bs0 : s0.size ≤ 140737488351232 := frame_sized hsz (j := 0) rfl rfl
  refine (walk a0 b0 s0 ba0.1 ba0.2 bb0.1 bb0.2 bs0 W).mono fun e W' ⟨he, hb⟩ => ?_
  subst he
  exact ⟨_, rfl, law_post laid (by kernel_rfl) Try.underlying4 rfl rfl hW' rfl rfl rfl rfl hb⟩

set_option maxRecDepth 100000 in
theorem lifted (os : Os) (started : os.Started) (H : Type) (enc : TypeId × Value → H) :
    ReturnsInHanded {} Try.checked os 3 .any (Rows.frameSizeSpec.pre6 enc Try.prog Try.f3 Rows.frameSizeRow.domain false) (Rows.frameSizeSpec.post enc Try.prog Try.f3 false true false false) := by
  refine returnsInHanded_of_change_sized (C := Try.checked) own started (by kernel_rfl) Try.func3
    (ChangeSpec.witness6 (enc := enc) (C := Try.checked) false ⟨#[], #[.agg #[.int .i64 0, .int .i64 0, .string ByteArray.empty]], []⟩ 8 (by kernel_rfl) (by kernel_rfl) (by kernel_rfl) (by kernel_rfl)) ?_
  intro W base args ds gs before hval0 hW _ hsz0 _
  exact contract H enc W base args ds gs before hval0 hW hsz0

theorem over : Rows.frameSizeRow.holds Try.pinned (OpenSpec.ofChange Rows.frameSizeSpec) :=
  OpenClaim.holds_of_wide 3 Try.f3 rfl rfl rfl rfl rfl rfl rfl ⟨rfl, rfl, rfl, rfl, rfl⟩ rfl rfl rfl rfl rfl (by kernel_rfl) Try.func3 (by kernel_rfl)
    (of_decide_eq_true (by kernel_rfl)) (by unfold Func.isWrapper; first | (rw [if_pos (by decide +kernel)]; kernel_rfl) | (rw [if_neg (by decide +kernel)]; exact ⟨rfl, rfl⟩))
    (fun os started H enc _ => lifted os started H enc)

/-- The statement. -/
theorem proved : Rows.FrameSizeSaid := over
#print axioms proved
end Go.Proofs.Ytdaapfhmhfbjbaa.frameSize
