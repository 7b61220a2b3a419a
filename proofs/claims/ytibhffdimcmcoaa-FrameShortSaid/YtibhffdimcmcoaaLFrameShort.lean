/-
  The law FrameShort of package brackenkeep: for every input it answers true.
-/
import Derived.Test.YtibhffdimcmcoaaRows
import Derived.Test.YtibhffdimcmcoaaBase
import Derived.Test.YtibhffdimcmcoaaFrameT
import Derived.Test.YtibhffdimcmcoaaRestW
set_option linter.unusedVariables false
set_option linter.unusedSimpArgs false
namespace Go.Proofs.Ytibhffdimcmcoaa.frameShort
open Go.ChangeShapes Go.WideShapes Go.ChangeAt Go.RowKit Go.Joins
open Go.ChangeMaps (open_string)
set_option maxHeartbeats 4000000 in
set_option maxRecDepth 100000 in
theorem walk (v k : Int) (pl : ByteArray) (v1 : -9223372036854775808 ≤ v) (v2 : v ≤ 9223372036854775807) (k1 : -9223372036854775808 ≤ k) (k2 : k ≤ 9223372036854775807) (hp : pl.size ≤ 140737488351232) (a : Int) (a1 : -9223372036854775808 ≤ a) (a2 : a ≤ 9223372036854775807) (w : World) :
    Calls Try.prog 13 #[.agg #[.int .i64 v, .int .i64 k, .string pl], .int .i64 a] w fun e w' => e = .returned (.bool true) ∧ Below w.heap.size w w' := by
  have hz := zero_frame_lit
  by_cases hg : goodF v k ∧ pl.size ≤ 6000
  · obtain ⟨hg, hp6⟩ := hg
    obtain ⟨vn, rfl⟩ := Int.eq_ofNat_of_zero_le (show 0 ≤ v by have := hg.1; omega)
    obtain ⟨kn, rfl⟩ := Int.eq_ofNat_of_zero_le (show 0 ≤ k by have := hg.2.2.1; omega)
    have hv : 1 ≤ vn ∧ vn ≤ 3 := by unfold goodF at hg; omega
    have hk : 1 ≤ kn ∧ kn ≤ 4 := by unfold goodF at hg; omega
    have hpl : pl.data.toList.length ≤ 6000 := by simpa using hp6
    have hE := encode_good vn kn pl.data.toList hv hk hpl
    have hlen := wireF_length vn kn pl.data.toList
    have h10 := putN_len10 pl.data.toList.length (by omega)
    rw [bstr_self] at hE
    have hsz : (bstr (wireF vn kn pl.data.toList)).size = (wireF vn kn pl.data.toList).length := bstr_size _
    have hD : ∀ j : Nat, j < (bstr (wireF vn kn pl.data.toList)).size → ∀ w, Calls Try.prog 24 #[.string ((bstr (wireF vn kn pl.data.toList)).extract 0 j)] w fun e w' => e = .returned (.tuple #[.agg #[.int .i64 0, .int .i64 0, .string ByteArray.empty], .int .i64 0, .int .i64 3]) ∧ Below w.heap.size w w' := by
      intro j hj w
      have hx : ((bstr (wireF vn kn pl.data.toList)).extract 0 j).data.toList = (wireF vn kn pl.data.toList).take j := by
        simp [ByteArray.data_extract, bstr]
      have hs := decF_short vn kn pl.data.toList hv hk hpl j (by omega)
      have h := decode_any ((bstr (wireF vn kn pl.data.toList)).extract 0 j) w (by rw [ByteArray.size_extract]; omega)
      rw [hx, hs] at h
      exact h
    have hpos : 0 < (bstr (wireF vn kn pl.data.toList)).size := by omega
    have hmx : (bstr (wireF vn kn pl.data.toList)).size ≤ 6020 := by omega
    generalize bstr (wireF vn kn pl.data.toList) = S at *
    have HE1 := Lib.hid hE
    have HD1 := Lib.hid hD
    clear hE hD hsz hlen h10 hpl v1 v2 k1 k2 hg
    go_enter Try.func13, Try.ntmps13
    go_wp2_with fail
    have b0 := Blk.new w 43 #[.int .i64 (vn : Int), .int .i64 (kn : Int), .string pl]
    have hb0 : Below w.heap.size w (w.alloc (.cells #[.int .i64 (vn : Int), .int .i64 (kn : Int), .string pl] 43)) := (Below.refl _ _).alloc (Nat.le_refl _) _
    generalize w.alloc (.cells #[.int .i64 (vn : Int), .int .i64 (kn : Int), .string pl] 43) = W0 at *
    refine (framed_any _).mono ?_
    rintro e w1 ⟨rfl, hb1⟩
    have b1 := b0.below hb1 b0.lt
    have hB1 := hb0.trans (hb1.mono hb0.size)
    have c0 : w1.cell? ⟨w.heap.size, 0, none⟩ = some (Value.int .i64 (vn : Int)) := b1.cell 0
    have c1 : w1.cell? ⟨w.heap.size, 1, none⟩ = some (Value.int .i64 (kn : Int)) := b1.cell 1
    have c2 : w1.cell? ⟨w.heap.size, 2, none⟩ = some (Value.string pl) := b1.cell 2
    clear hb1 hb0 b0
    go_wp2_with fail
    refine (HE1.out _).mono ?_
    rintro e w2 ⟨rfl, hb2⟩
    have hB2 := hB1.trans (hb2.mono hB1.size)
    clear c0 c1 c2 b1
    go_wp2_with fail
    have r0 := Int.emod_nonneg a (show (S.size : Int) ≠ 0 by omega)
    have r1 := Int.emod_lt_of_pos a (show (0 : Int) < (S.size : Int) by omega)
    refine (rest_any a (S.size : Int) _ (by omega) (by omega)).mono ?_
    rintro e w3 ⟨rfl, rfl⟩
    generalize a % (S.size : Int) = i at *
    obtain ⟨j, rfl⟩ := Int.eq_ofNat_of_zero_le r0
    have hj : j < S.size := by omega
    have hj2 : (j : Int) ≤ S.size := by omega
    have HD2 := Lib.hid (HD1.out j hj)
    clear HD1 HE1 hj
    go_wp2_with (first | (go_at_call 24; refine (HD2.out _).mono ?_; rintro e w5 ⟨rfl, hb5⟩) | (refine wpList_store_new rfl _ _ _ rfl rfl 43 _ _ rfl frame_size3 rfl (frA_one _ _ _) ?_))
    go_ret
    exact ⟨rfl, ((hB2.trans (hb5.mono hB2.size)).alloc (Nat.le_trans hB2.size hb5.size) _)⟩
  · obtain ⟨x, hx, hE⟩ := encode_bad v k pl v1 v2 k1 k2 (by omega) hg
    have hx0 : ((x : Int) != 0) = true := by rw [bne_iff_ne]; omega
    have hx1 : ((x : Int) == 0) = false := beq_eq_false_iff_ne.2 (by omega)
    have HE1 := Lib.hid hE
    clear hE hx hg
    go_enter Try.func13, Try.ntmps13
    go_wp2_with fail
    have b0 := Blk.new w 43 #[.int .i64 v, .int .i64 k, .string pl]
    have hb0 : Below w.heap.size w (w.alloc (.cells #[.int .i64 v, .int .i64 k, .string pl] 43)) := (Below.refl _ _).alloc (Nat.le_refl _) _
    generalize w.alloc (.cells #[.int .i64 v, .int .i64 k, .string pl] 43) = W0 at *
    refine (framed_any _).mono ?_
    rintro e w1 ⟨rfl, hb1⟩
    have b1 := b0.below hb1 b0.lt
    have hB1 := hb0.trans (hb1.mono hb0.size)
    have c0 : w1.cell? ⟨w.heap.size, 0, none⟩ = some (Value.int .i64 v) := b1.cell 0
    have c1 : w1.cell? ⟨w.heap.size, 1, none⟩ = some (Value.int .i64 k) := b1.cell 1
    have c2 : w1.cell? ⟨w.heap.size, 2, none⟩ = some (Value.string pl) := b1.cell 2
    clear hb1 hb0 b0
    go_wp2_with fail
    refine (HE1.out _).mono ?_
    rintro e w2 ⟨rfl, hb2⟩
    have hB2 := hB1.trans (hb2.mono hB1.size)
    go_wp2_with fail
    go_ret
    exact ⟨rfl, hB2⟩

theorem own : ownKnob Try.prog.godebug = none := by kernel_rfl
theorem laid : laidOutB Try.prog = true := by kernel_rfl
set_option maxRecDepth 100000 in
theorem contract (H : Type) (enc : TypeId × Value → H) (W : World) (base : Nat) (args : Array Value) (ds gs : List (DataW H)) (before : List MemPlace)
    (hval0 : ∀ (j : Nat) t v, Try.f13.params[j]? = some t → args[j]? = some v → Value.okWide Try.prog W .any base t v)
    (hW : DataW.Whole enc Try.prog Try.f13.params.toList Rows.frameShortSpec.vars false W args.toList ds gs before)
    (hsz0 : (DataW.weightsEach Try.prog (Try.f13.params.toList ++ Rows.frameShortSpec.plain.varTypes Try.prog) (ds ++ gs)).all (· ≤ reachBytes) = true) :
    Calls Try.prog 13 args W fun e W' => ∃ v, e = .returned v ∧ Rows.frameShortSpec.post enc Try.prog Try.f13 false true false false W args v W' := by
  have hval : ∀ (j : Nat) t v, Try.f13.params[j]? = some t → args[j]? = some v → Value.okWide Try.prog W .any base t v := hval0
  have hsz : (DataW.weightsEach Try.prog (Try.f13.params.toList ++ Rows.frameShortSpec.plain.varTypes Try.prog) (ds ++ gs)).all (· ≤ reachBytes) = true := hsz0
  have hlt : ∀ x ∈ before, x.block < W.heap.size := fun x hx => hW.lt x hx
  have hW' := hW
  obtain ⟨p, q, hA0, hV, rfl, hfz, hnd⟩ := hW
  have hA : DataW.TrodAll enc Try.prog W 0 (fun _ => true) true Try.f13.params.toList args.toList ds p := hA0
  rw [Try.params13] at hA hval hsz
  obtain ⟨v0, vs0, d0, ds0, p0, q0, hargs, rfl, rfl, h0, r0⟩ := trodAll_cons hA
  obtain ⟨v1, vs1, d1, ds1, p1, q1, rfl, rfl, rfl, h1, r1⟩ := trodAll_cons r0
  obtain ⟨rfl, rfl, rfl⟩ := trodAll_nil r1
  obtain rfl : args = #[v0, v1] := by cases args; simp_all
  obtain ⟨rfl, rfl⟩ := trodVars_none hV
  obtain ⟨c00, c01, c02, y00, y01, y02, m0, rfl, rfl, rfl, hy00, hy01, hy02⟩ := open_agg3 Try.underlying43 (by kernel_rfl) cellsFrame (hval 0 43 v0 rfl rfl) h0
  obtain ⟨a0, e00, rfl, wa0⟩ := DataW.trod_int Try.underlying3 hy00
  obtain ⟨b0, e01, rfl, wb0⟩ := DataW.trod_int Try.underlying3 hy01
  obtain ⟨s0, e02, rfl, ws0⟩ := DataW.trod_string Try.underlying9 hy02
  simp at e00 e01 e02; subst e00 e01 e02
  have ba0 := bounds_i64 wa0; have bb0 := bounds_i64 wb0
  have bs0 : s0.size ≤ 140737488351232 := frame_sized hsz (j := 0) rfl rfl
  obtain ⟨a1, rfl, rfl, rfl, w1⟩ := open_int Try.underlying3 (hval 1 3 v1 rfl rfl) h1
  have b1 := bounds_i64 w1
  refine (walk a0 b0 s0 ba0.1 ba0.2 bb0.1 bb0.2 bs0 a1 b1.1 b1.2 W).mono fun e W' ⟨he, hb⟩ => ?_
  subst he
  exact ⟨_, rfl, law_post laid (by kernel_rfl) Try.underlying4 rfl rfl hW' rfl rfl rfl rfl hb⟩

set_option maxRecDepth 100000 in
theorem lifted (os : Os) (started : os.Started) (H : Type) (enc : TypeId × Value → H) :
    ReturnsInHanded {} Try.checked os 13 .any (Rows.frameShortSpec.pre6 enc Try.prog Try.f13 Rows.frameShortRow.domain false) (Rows.frameShortSpec.post enc Try.prog Try.f13 false true false false) := by
  refine returnsInHanded_of_change_sized (C := Try.checked) own started (by kernel_rfl) Try.func13
    (ChangeSpec.witness6 (enc := enc) (C := Try.checked) false ⟨#[], #[.agg #[.int .i64 0, .int .i64 0, .string ByteArray.empty], .int .i64 0], []⟩ 8 (by kernel_rfl) (by kernel_rfl) (by kernel_rfl) (by kernel_rfl)) ?_
  intro W base args ds gs before hval0 hW _ hsz0 _
  exact contract H enc W base args ds gs before hval0 hW hsz0

theorem over : Rows.frameShortRow.holds Try.pinned (OpenSpec.ofChange Rows.frameShortSpec) :=
  OpenClaim.holds_of_wide 13 Try.f13 rfl rfl rfl rfl rfl rfl rfl ⟨rfl, rfl, rfl, rfl, rfl⟩ rfl rfl rfl rfl rfl (by kernel_rfl) Try.func13 (by kernel_rfl)
    (of_decide_eq_true (by kernel_rfl)) (by unfold Func.isWrapper; first | (rw [if_pos (by decide +kernel)]; kernel_rfl) | (rw [if_neg (by decide +kernel)]; exact ⟨rfl, rfl⟩))
    (fun os started H enc _ => lifted os started H enc)

/-- The statement. -/
theorem proved : Rows.FrameShortSaid := over
#print axioms proved
end Go.Proofs.Ytibhffdimcmcoaa.frameShort
