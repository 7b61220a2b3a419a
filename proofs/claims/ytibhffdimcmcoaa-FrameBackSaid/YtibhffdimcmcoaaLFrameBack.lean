/-
  The law FrameBack of package brackenkeep: for every input it answers true.
-/
import Derived.Test.YtibhffdimcmcoaaRows
import Derived.Test.YtibhffdimcmcoaaBase
import Derived.Test.YtibhffdimcmcoaaFrameT
set_option linter.unusedVariables false
set_option linter.unusedSimpArgs false
namespace Go.Proofs.Ytibhffdimcmcoaa.frameBack
open Go.ChangeShapes Go.WideShapes Go.ChangeAt Go.RowKit Go.Joins
open Go.ChangeMaps (open_string)
set_option maxHeartbeats 4000000 in
set_option maxRecDepth 100000 in
theorem walk (v k : Int) (pl : ByteArray) (v1 : -9223372036854775808 ≤ v) (v2 : v ≤ 9223372036854775807) (k1 : -9223372036854775808 ≤ k) (k2 : k ≤ 9223372036854775807) (hp : pl.size ≤ 140737488351232) (s : ByteArray) (hs : s.size ≤ 140737488351232) (w : World) :
    Calls Try.prog 12 #[.agg #[.int .i64 v, .int .i64 k, .string pl], .string s] w fun e w' => e = .returned (.bool true) ∧ Below w.heap.size w w' := by
  have hz := zero_frame_lit
  by_cases hg : goodF v k ∧ pl.size ≤ 6000
  · obtain ⟨hg, hp6⟩ := hg
    obtain ⟨vn, rfl⟩ := Int.eq_ofNat_of_zero_le (show 0 ≤ v by have := hg.1; omega)
    obtain ⟨kn, rfl⟩ := Int.eq_ofNat_of_zero_le (show 0 ≤ k by have := hg.2.2.1; omega)
    have hv : 1 ≤ vn ∧ vn ≤ 3 := by unfold goodF at hg; omega
    have hk : 1 ≤ kn ∧ kn ≤ 4 := by unfold goodF at hg; omega
    have hpl : pl.data.toList.length ≤ 6000 := by simpa using hp6
    have hE := encode_good vn kn pl.data.toList hv hk hpl
    have hlen := wireF_length vn kn pl.data.toList
    have h10 := putN_len10 pl.data.toList.length (by omega)
    rw [bstr_self] at hE
    have hD := decode_wire vn kn pl.data.toList s.data.toList hv hk hpl (bstr (wireF vn kn pl.data.toList) ++ s) (by rw [ByteArray.data_append, Array.toList_append, bstr_list]) (by rw [ByteArray.size_append, bstr_size]; omega)
    rw [bstr_self] at hD
    have hsz : (bstr (wireF vn kn pl.data.toList)).size = (wireF vn kn pl.data.toList).length := bstr_size _
    have hadd : ∀ W, (Op.stringOp .add (bstr (wireF vn kn pl.data.toList)) s).run Try.prog W = .ok (.string (bstr (wireF vn kn pl.data.toList) ++ s)) W := fun W => run_string_add_sum W _ _ (by omega)
    rw [← hsz] at hD
    generalize bstr (wireF vn kn pl.data.toList) = S at *
    have HE1 := Lib.hid hE
    have HD1 := Lib.hid hD
    clear hE hD hsz hlen h10 hpl v1 v2 k1 k2 hg
    go_enter Try.func12, Try.ntmps12
    go_wp2_with fail
    have b0 := Blk.new w 43 #[.int .i64 (vn : Int), .int .i64 (kn : Int), .string pl]
    have hb0 : Below w.heap.size w (w.alloc (.cells #[.int .i64 (vn : Int), .int .i64 (kn : Int), .string pl] 43)) := (Below.refl _ _).alloc (Nat.le_refl _) _
    generalize w.alloc (.cells #[.int .i64 (vn : Int), .int .i64 (kn : Int), .string pl] 43) = W0 at *
    refine (framed_any _).mono ?_
    rintro e w1 ⟨rfl, hb1⟩
    have b1 := b0.below hb1 b0.lt
    have hB1 := hb0.trans (hb1.mono hb0.size)
    have c0 : w1.cell? ⟨w.heap.size, 0, none⟩ = some (Value.int .i64 (vn : Int)) := b1.cell 0
    have c1 : w1.cell? ⟨w.heap.size, 1, none⟩ = some (Value.int .i64 (kn : Int)) := b1.cell 1
    have c2 : w1.cell? ⟨w.heap.size, 2, none⟩ = some (Value.string pl) := b1.cell 2
    clear hb1 hb0 b0
    go_wp2_with fail
    refine (HE1.out _).mono ?_
    rintro e w2 ⟨rfl, hb2⟩
    go_wp2_with fail
    refine (HD1.out _).mono ?_
    rintro e w3 ⟨rfl, hb3⟩
    have b3 := (b1.below hb2 b1.lt).below hb3 (b1.below hb2 b1.lt).lt
    have hB3 := (hB1.trans (hb2.mono hB1.size)).trans (hb3.mono (Nat.le_trans hB1.size hb2.size))
    clear c0 c1 c2
    have hlt3 := b3.lt
    have b4 := b3.alloc (.cells #[.int .i64 (vn : Int), .int .i64 (kn : Int), .string pl] 43)
    have b5 := Blk.new w3 43 #[.int .i64 (vn : Int), .int .i64 (kn : Int), .string pl]
    have hB4 := hB3.alloc hB3.size (.cells #[.int .i64 (vn : Int), .int .i64 (kn : Int), .string pl] 43)
    have d0 : (w3.alloc (.cells #[.int .i64 (vn : Int), .int .i64 (kn : Int), .string pl] 43)).cell? ⟨w.heap.size, 0, none⟩ = some (Value.int .i64 (vn : Int)) := b4.cell 0
    have g0 : (w3.alloc (.cells #[.int .i64 (vn : Int), .int .i64 (kn : Int), .string pl] 43)).cell? ⟨w3.heap.size, 0, none⟩ = some (Value.int .i64 (vn : Int)) := b5.cell 0
    have d1 : (w3.alloc (.cells #[.int .i64 (vn : Int), .int .i64 (kn : Int), .string pl] 43)).cell? ⟨w.heap.size, 1, none⟩ = some (Value.int .i64 (kn : Int)) := b4.cell 1
    have g1 : (w3.alloc (.cells #[.int .i64 (vn : Int), .int .i64 (kn : Int), .string pl] 43)).cell? ⟨w3.heap.size, 1, none⟩ = some (Value.int .i64 (kn : Int)) := b5.cell 1
    have d2 : (w3.alloc (.cells #[.int .i64 (vn : Int), .int .i64 (kn : Int), .string pl] 43)).cell? ⟨w.heap.size, 2, none⟩ = some (Value.string pl) := b4.cell 2
    have g2 : (w3.alloc (.cells #[.int .i64 (vn : Int), .int .i64 (kn : Int), .string pl] 43)).cell? ⟨w3.heap.size, 2, none⟩ = some (Value.string pl) := b5.cell 2
    go_wp2_with (refine wpList_store_new rfl _ _ _ rfl rfl 43 _ _ rfl frame_size3 rfl (frA_one _ _ _) ?_)

    clear b4 b5 b3 hb2 hb3 HE1 HD1 hadd hv hk
    by_cases he : (decF s.data.toList).e = 0
    · have hD := decode_good s (by omega) he
      have hI := decF_inv s.data.toList he
      generalize decF s.data.toList = r at *
      obtain ⟨hv, hk, hpl, hw, hn⟩ := hI
      have hns : r.n ≤ s.size := by simpa using hn
      have hni : (r.n : Int) ≤ s.size := by omega
      have hni0 : (0 : Int) ≤ (r.n : Int) := by omega
      have hq : ((bstr (wireF r.ver r.kind r.pl)).toList == (s.extract 0 r.n).toList) = true := by
        rw [bstr_toList, hw, ByteArray.toList_eq]; simp [ByteArray.data_extract]
      have HD := Lib.hid hD
      have HQ := Lib.hid hq
      have hE := encode_good r.ver r.kind r.pl hv hk hpl
      have HE := Lib.hid hE
      clear hD hq hE hw hn he hns
      go_wp2_with (first | (go_at_call 24; refine (HD.out _).mono ?_; rintro e w5 ⟨rfl, hb5⟩) | (refine wpList_store_new rfl _ _ _ rfl rfl 43 _ _ rfl frame_size3 rfl (frA_one _ _ _) ?_) | (go_at_call 23; refine (HE.out _).mono ?_; rintro e w6 ⟨rfl, hb6⟩; have hq2 := HQ.out))
      go_ret
      exact ⟨rfl, ((hB4.trans (hb5.mono hB4.size)).alloc (Nat.le_trans hB4.size hb5.size) _).trans (hb6.mono (by have h1 := hB4.size; have h2 := hb5.size; simp; omega))⟩
    · have hD := decode_bad s (by omega) he
      obtain ⟨x, hx⟩ : ∃ x, x = (decF s.data.toList).e := ⟨_, rfl⟩
      rw [← hx] at hD he
      have hx0 : ((x : Int) == 0) = false := beq_eq_false_iff_ne.2 (by omega)
      have hx1 : ((x : Int) != 0) = true := by rw [bne_iff_ne]; omega
      have HD := Lib.hid hD
      clear hD hx he
      go_wp2_with (first | (go_at_call 24; refine (HD.out _).mono ?_; rintro e w5 ⟨rfl, hb5⟩) | (refine wpList_store_new rfl _ _ _ rfl rfl 43 _ _ rfl frame_size3 rfl (frA_one _ _ _) ?_))
      go_ret
      exact ⟨rfl, ((hB4.trans (hb5.mono hB4.size)).alloc (Nat.le_trans hB4.size hb5.size) _)⟩

  · obtain ⟨x, hx, hE⟩ := encode_bad v k pl v1 v2 k1 k2 (by omega) hg
    have hx0 : ((x : Int) == 0) = false := beq_eq_false_iff_ne.2 (by omega)
    have HE1 := Lib.hid hE
    clear hE hx hg
    go_enter Try.func12, Try.ntmps12
    go_wp2_with fail
    have b0 := Blk.new w 43 #[.int .i64 v, .int .i64 k, .string pl]
    have hb0 : Below w.heap.size w (w.alloc (.cells #[.int .i64 v, .int .i64 k, .string pl] 43)) := (Below.refl _ _).alloc (Nat.le_refl _) _
    generalize w.alloc (.cells #[.int .i64 v, .int .i64 k, .string pl] 43) = W0 at *
    refine (framed_any _).mono ?_
    rintro e w1 ⟨rfl, hb1⟩
    have b1 := b0.below hb1 b0.lt
    have hB1 := hb0.trans (hb1.mono hb0.size)
    have c0 : w1.cell? ⟨w.heap.size, 0, none⟩ = some (Value.int .i64 v) := b1.cell 0
    have c1 : w1.cell? ⟨w.heap.size, 1, none⟩ = some (Value.int .i64 k) := b1.cell 1
    have c2 : w1.cell? ⟨w.heap.size, 2, none⟩ = some (Value.string pl) := b1.cell 2
    clear hb1 hb0 b0
    go_wp2_with fail
    refine (HE1.out _).mono ?_
    rintro e w2 ⟨rfl, hb2⟩
    have hB2 := hB1.trans (hb2.mono hB1.size)
    clear HE1
    by_cases he : (decF s.data.toList).e = 0
    · have hD := decode_good s (by omega) he
      have hI := decF_inv s.data.toList he
      generalize decF s.data.toList = r at *
      obtain ⟨hv, hk, hpl, hw, hn⟩ := hI
      have hns : r.n ≤ s.size := by simpa using hn
      have hni : (r.n : Int) ≤ s.size := by omega
      have hni0 : (0 : Int) ≤ (r.n : Int) := by omega
      have hq : ((bstr (wireF r.ver r.kind r.pl)).toList == (s.extract 0 r.n).toList) = true := by
        rw [bstr_toList, hw, ByteArray.toList_eq]; simp [ByteArray.data_extract]
      have HD := Lib.hid hD
      have HQ := Lib.hid hq
      have hE := encode_good r.ver r.kind r.pl hv hk hpl
      have HE := Lib.hid hE
      clear hD hq hE hw hn he hns
      go_wp2_with (first | (go_at_call 24; refine (HD.out _).mono ?_; rintro e w5 ⟨rfl, hb5⟩) | (refine wpList_store_new rfl _ _ _ rfl rfl 43 _ _ rfl frame_size3 rfl (frA_one _ _ _) ?_) | (go_at_call 23; refine (HE.out _).mono ?_; rintro e w6 ⟨rfl, hb6⟩; have hq2 := HQ.out))
      go_ret
      exact ⟨rfl, ((hB2.trans (hb5.mono hB2.size)).alloc (Nat.le_trans hB2.size hb5.size) _).trans (hb6.mono (by have h1 := hB2.size; have h2 := hb5.size; simp; omega))⟩
    · have hD := decode_bad s (by omega) he
      obtain ⟨x, hx⟩ : ∃ x, x = (decF s.data.toList).e := ⟨_, rfl⟩
      rw [← hx] at hD he
      have hx0 : ((x : Int) == 0) = false := beq_eq_false_iff_ne.2 (by omega)
      have hx1 : ((x : Int) != 0) = true := by rw [bne_iff_ne]; omega
      have HD := Lib.hid hD
      clear hD hx he
      go_wp2_with (first | (go_at_call 24; refine (HD.out _).mono ?_; rintro e w5 ⟨rfl, hb5⟩) | (refine wpList_store_new rfl _ _ _ rfl rfl 43 _ _ rfl frame_size3 rfl (frA_one _ _ _) ?_))
      go_ret
      exact ⟨rfl, ((hB2.trans (hb5.mono hB2.size)).alloc (Nat.le_trans hB2.size hb5.size) _)⟩

theorem own : ownKnob Try.prog.godebug = none := by kernel_rfl
theorem laid : laidOutB Try.prog = true := by kernel_rfl
set_option maxRecDepth 100000 in
theorem contract (H : Type) (enc : TypeId × Value → H) (W : World) (base : Nat) (args : Array Value) (ds gs : List (DataW H)) (before : List MemPlace)
    (hval0 : ∀ (j : Nat) t v, Try.f12.params[j]? = some t → args[j]? = some v → Value.okWide Try.prog W .any base t v)
    (hW : DataW.Whole enc Try.prog Try.f12.params.toList Rows.frameBackSpec.vars false W args.toList ds gs before)
    (hsz0 : (DataW.weightsEach Try.prog (Try.f12.params.toList ++ Rows.frameBackSpec.plain.varTypes Try.prog) (ds ++ gs)).all (· ≤ reachBytes) = true) :
    Calls Try.prog 12 args W fun e W' => ∃ v, e = .returned v ∧ Rows.frameBackSpec.post enc Try.prog Try.f12 false true false false W args v W' := by
  have hval : ∀ (j : Nat) t v, Try.f12.params[j]? = some t → args[j]? = some v → Value.okWide Try.prog W .any base t v := hval0
  have hsz : (DataW.weightsEach Try.prog (Try.f12.params.toList ++ Rows.frameBackSpec.plain.varTypes Try.prog) (ds ++ gs)).all (· ≤ reachBytes) = true := hsz0
  have hlt : ∀ x ∈ before, x.block < W.heap.size := fun x hx => hW.lt x hx
  have hW' := hW
  obtain ⟨p, q, hA0, hV, rfl, hfz, hnd⟩ := hW
  have hA : DataW.TrodAll enc Try.prog W 0 (fun _ => true) true Try.f12.params.toList args.toList ds p := hA0
  rw [Try.params12] at hA hval hsz
  obtain ⟨v0, vs0, d0, ds0, p0, q0, hargs, rfl, rfl, h0, r0⟩ := trodAll_cons hA
  obtain ⟨v1, vs1, d1, ds1, p1, q1, rfl, rfl, rfl, h1, r1⟩ := trodAll_cons r0
  obtain ⟨rfl, rfl, rfl⟩ := trodAll_nil r1
  obtain rfl : args = #[v0, v1] := by cases args; simp_all
  obtain ⟨rfl, rfl⟩ := trodVars_none hV
  obtain ⟨c00, c01, c02, y00, y01, y02, m0, rfl, rfl, rfl, hy00, hy01, hy02⟩ := open_agg3 Try.underlying43 (by kernel_rfl) cellsFrame (hval 0 43 v0 rfl rfl) h0
  obtain ⟨a0, e00, rfl, wa0⟩ := DataW.trod_int Try.underlying3 hy00
  obtain ⟨b0, e01, rfl, wb0⟩ := DataW.trod_int Try.underlying3 hy01
  obtain ⟨s0, e02, rfl, ws0⟩ := DataW.trod_string Try.underlying9 hy02
  simp at e00 e01 e02; subst e00 e01 e02
  have ba0 := bounds_i64 wa0; have bb0 := bounds_i64 wb0
  have bs0 : s0.size ≤ 140737488351232 := frame_sized hsz (j := 0) rfl rfl
  obtain ⟨a1, rfl, rfl, rfl, w1⟩ := open_string Try.underlying9 (hval 1 9 v1 rfl rfl) h1
  have b1 : a1.size ≤ 140737488351232 := by have := sized_string hsz (j := 1) (t := 9) rfl rfl; simpa [reachBytes] using this
  refine (walk a0 b0 s0 ba0.1 ba0.2 bb0.1 bb0.2 bs0 a1 b1 W).mono fun e W' ⟨he, hb⟩ => ?_
  subst he
  exact ⟨_, rfl, law_post laid (by kernel_rfl) Try.underlying4 rfl rfl hW' rfl rfl rfl rfl hb⟩

set_option maxRecDepth 100000 in
theorem lifted (os : Os) (started : os.Started) (H : Type) (enc : TypeId × Value → H) :
    ReturnsInHanded {} Try.checked os 12 .any (Rows.frameBackSpec.pre6 enc Try.prog Try.f12 Rows.frameBackRow.domain false) (Rows.frameBackSpec.post enc Try.prog Try.f12 false true false false) := by
  refine returnsInHanded_of_change_sized (C := Try.checked) own started (by kernel_rfl) Try.func12
    (ChangeSpec.witness6 (enc := enc) (C := Try.checked) false ⟨#[], #[.agg #[.int .i64 0, .int .i64 0, .string ByteArray.empty], .string ByteArray.empty], []⟩ 8 (by kernel_rfl) (by kernel_rfl) (by kernel_rfl) (by kernel_rfl)) ?_
  intro W base args ds gs before hval0 hW _ hsz0 _
  exact contract H enc W base args ds gs before hval0 hW hsz0

theorem over : Rows.frameBackRow.holds Try.pinned (OpenSpec.ofChange Rows.frameBackSpec) :=
  OpenClaim.holds_of_wide 12 Try.f12 rfl rfl rfl rfl rfl rfl rfl ⟨rfl, rfl, rfl, rfl, rfl⟩ rfl rfl rfl rfl rfl (by kernel_rfl) Try.func12 (by kernel_rfl)
    (of_decide_eq_true (by kernel_rfl)) (by unfold Func.isWrapper; first | (rw [if_pos (by decide +kernel)]; kernel_rfl) | (rw [if_neg (by decide +kernel)]; exact ⟨rfl, rfl⟩))
    (fun os started H enc _ => lifted os started H enc)

/-- The statement. -/
theorem proved : Rows.FrameBackSaid := over
#print axioms proved
end Go.Proofs.Ytibhffdimcmcoaa.frameBack
