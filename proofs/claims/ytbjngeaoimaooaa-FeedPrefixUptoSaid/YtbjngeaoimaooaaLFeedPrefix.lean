/-
  The law FeedPrefix of package brackenkeep: for every input it answers true.
-/
import Derived.Test.YtbjngeaoimaooaaRows
import Derived.Test.YtbjngeaoimaooaaBase
import Derived.Test.YtbjngeaoimaooaaFeedZ
set_option linter.unusedVariables false
set_option linter.unusedSimpArgs false
namespace Go.Proofs.Ytbjngeaoimaooaa.feedPrefix
open Go.ChangeShapes Go.WideShapes Go.ChangeAt Go.RowKit Go.Joins
open Go.ChangeMaps (open_string)
set_option maxHeartbeats 2000000 in
set_option maxRecDepth 100000 in
theorem walk (s : ByteArray) (hs : s.size ≤ 1048576) (w : World) :
    Calls Try.prog 5 #[.string s] w fun e w' => e = .returned (.bool true) ∧ Below w.heap.size w w' := by
  have hP := push_first s (by omega)
  have hn := feedF_e s.data.toList
  obtain ⟨hen, hgood⟩ := feedF_encs s.data.toList
  have hlen := feedF_encs_len s.data.toList
  have hnl := feedF_n s.data.toList
  have hleft := feedF_left s.data.toList
  have hol := feedF_le s.data.toList
  have hsl : s.data.toList.length = s.size := by simp
  rw [hsl] at hnl hol
  rw [List.length_drop, hsl] at hleft
  generalize feedF s.data.toList = r at *
  by_cases he : r.e = 3
  · have hlf := hleft he
    have HP := Lib.hid (fun w g hb => (hP w g hb).mono fun e w' h => h.ok he)
    have HG := Lib.hid hgood
    have HE := Lib.hid hen
    have HL := Lib.hid hlen
    clear he hP hn hgood hleft hen hsl hlen
    go_enter Try.func5, Try.ntmps5
    go_wp2_with fail
    refine (fed_any _).mono ?_
    rintro e w1 ⟨rfl, hb1⟩
    go_wp2_with fail
    refine (new_any _).mono ?_
    rintro e w2 ⟨rfl, rfl⟩
    have b0 := Blk.new w1 43 #[.string ByteArray.empty, .int .i64 0, .int .i64 0]
    have hB := hb1.alloc hb1.size (.cells #[.string ByteArray.empty, .int .i64 0, .int .i64 0] 43)
    have hs1 := hb1.size
    generalize w1.alloc (.cells #[.string ByteArray.empty, .int .i64 0, .int .i64 0] 43) = w2 at *
    go_wp2_with fail
    refine (HP.out w2 _ b0).mono ?_
    rintro e w3 ⟨p3, q3, rfl, ho3, b3, ha3⟩
    have hB3 := hB.trans (ha3.toBelow hs1 hB.size)
    have hel := ho3.elts
    have hlt3 := b3.lt
    clear ho3 ha3 hB hb1 b0
    go_wp2_with fail
    go_loopw [6, 22] (fun t i wr => ∃ k : Nat, k ≤ r.out.length ∧ i = .int .i64 k ∧ t = .string (bstr (encs (r.out.take k))) ∧ Below w3.heap.size w3 wr) (fun _ i _ => r.out.length - (intOf i).toNat)
    case atStart => exact ⟨0, Nat.zero_le _, rfl, rfl, Below.refl _ _⟩
    case round =>
      obtain ⟨k, hk, rfl, rfl, hbr⟩ := hrel
      by_cases hlt : k < r.out.length
      · have hx : r.out[k]? = some r.out[k] := List.getElem?_eq_getElem hlt
        have hg := HG.out r.out[k] (List.getElem_mem hlt)
        have hstep := encs_take r.out k _ hx
        have hle := encs_take_le r.out (k + 1)
        have hlr := HL.out
        generalize r.out[k] = x at *
        rw [hlr] at hle
        rw [hstep, List.length_append] at hle
        obtain ⟨a, rfl, hab, _, hat⟩ := (hel.below hbr).at_ (k := k) (r := rowFr x) (by rw [List.getElem?_map, hx]; rfl)
        have hE := fun w => encode_good x.ver x.kind x.pl hg.1 hg.2.1 hg.2.2 w
        have HX := Lib.hid hE
        have HS := Lib.hid hstep
        have hz : ∀ W, (Op.stringOp .add (bstr (encs (r.out.take k))) (bstr (wireF x.ver x.kind x.pl))).run Try.prog W = .ok (.string (bstr (encs (r.out.take k)) ++ bstr (wireF x.ver x.kind x.pl))) W :=
          fun W => run_string_add_sum W _ _ (by rw [bstr_size, bstr_size]; omega)
        clear hE hstep hlr hle hx hg
        go_wp2_with (refine wpList_load_at rfl _ _ rfl (a.add (k * 3)) rfl [Value.int .i64 (x.ver : Int), Value.int .i64 (x.kind : Int), Value.string (bstr x.pl)] _ hat Try.underlying34 rfl frame_size3 ?_)
        refine (HX.out _).mono ?_
        rintro e w4 ⟨rfl, hb4⟩
        have hb5 := (hbr.alloc hbr.size (.cells #[Value.int .i64 (x.ver : Int), Value.int .i64 (x.kind : Int), Value.string (bstr x.pl)] 34))
        have hb6 := hb5.trans (hb4.mono hb5.size)
        clear hat hb4
        go_wp2_with fail
        go_roundw
        case rel => exact ⟨k + 1, by omega, by go_num, by rw [HS.out, bstr_append], hb6⟩
        case measure => simp [intOf]; omega
      · obtain rfl : k = r.out.length := by omega
        have hB4 := hB3.trans (hbr.mono hB3.size)
        have b4 := b3.below hbr hlt3
        rw [List.take_length]
        have hS : (bstr (encs r.out)).size = r.n := by rw [bstr_size, HL.out]
        have hS2 : bstr (encs r.out) = s.extract 0 r.n := by
          apply ByteArray.ext
          apply Array.toList_inj.1
          rw [bstr_list, HE.out, ByteArray.data_extract, Array.toList_extract]
          simp
        have b5 : Blk wr w1.heap.size 43 #[.string (bstr (s.data.toList.drop r.n)), .int .i64 (r.n : Int), .int .i64 0] := by
          rw [Nat.zero_add] at b4; exact b4
        have hd : (bstr (s.data.toList.drop r.n)).size = s.size - r.n := by rw [bstr_size, List.length_drop]; simp
        generalize bstr (encs r.out) = T at *
        generalize bstr (s.data.toList.drop r.n) = D at *
        have e1 : ((r.n : Int) == (T.size : Int)) = true := by rw [hS]; simp
        have e2 : (T.toList == (s.extract 0 T.size).toList) = true := by rw [hS, ← hS2]; simp
        have i1 : (T.size : Int) ≤ (s.size : Int) := by omega
        have e3 : ((D.size : Int) == (s.size : Int) - (T.size : Int)) = true := by rw [hS, hd, beq_iff_eq]; omega
        have e4 : (D.size : Int) ≤ 6020 := by omega
        clear hS hS2 hd b4 b3 hel
        go_wp2_with fail
        refine (at_any w1.heap.size _ _ _ _ b5).mono ?_
        rintro e w5 ⟨rfl, rfl⟩
        go_wp2_with fail
        refine (left_any w1.heap.size _ _ _ _ b5).mono ?_
        rintro e w5 ⟨rfl, rfl⟩
        go_wp2_with fail
        refine (left_any w1.heap.size _ _ _ _ b5).mono ?_
        rintro e w5 ⟨rfl, rfl⟩
        go_wp2_with fail
        go_ret
        exact ⟨rfl, hB4⟩
  · have hne : ((r.e : Int) != 0) = true := by rw [bne_iff_ne]; omega
    have HP := Lib.hid (fun w g hb => (hP w g hb).mono fun e w' h => h.bad he)
    have HG := Lib.hid hgood
    have HE := Lib.hid hen
    have HL := Lib.hid hlen
    clear he hP hn hgood hleft hen hsl hlen
    go_enter Try.func5, Try.ntmps5
    go_wp2_with fail
    refine (fed_any _).mono ?_
    rintro e w1 ⟨rfl, hb1⟩
    go_wp2_with fail
    refine (new_any _).mono ?_
    rintro e w2 ⟨rfl, rfl⟩
    have b0 := Blk.new w1 43 #[.string ByteArray.empty, .int .i64 0, .int .i64 0]
    have hB := hb1.alloc hb1.size (.cells #[.string ByteArray.empty, .int .i64 0, .int .i64 0] 43)
    have hs1 := hb1.size
    generalize w1.alloc (.cells #[.string ByteArray.empty, .int .i64 0, .int .i64 0] 43) = w2 at *
    go_wp2_with fail
    refine (HP.out w2 _ b0).mono ?_
    rintro e w3 ⟨p3, q3, rfl, ho3, b3, ha3⟩
    have hB3 := hB.trans (ha3.toBelow hs1 hB.size)
    have hel := ho3.elts
    have hlt3 := b3.lt
    clear ho3 ha3 hB hb1 b0
    go_wp2_with fail
    go_loopw [6, 22] (fun t i wr => ∃ k : Nat, k ≤ r.out.length ∧ i = .int .i64 k ∧ t = .string (bstr (encs (r.out.take k))) ∧ Below w3.heap.size w3 wr) (fun _ i _ => r.out.length - (intOf i).toNat)
    case atStart => exact ⟨0, Nat.zero_le _, rfl, rfl, Below.refl _ _⟩
    case round =>
      obtain ⟨k, hk, rfl, rfl, hbr⟩ := hrel
      by_cases hlt : k < r.out.length
      · have hx : r.out[k]? = some r.out[k] := List.getElem?_eq_getElem hlt
        have hg := HG.out r.out[k] (List.getElem_mem hlt)
        have hstep := encs_take r.out k _ hx
        have hle := encs_take_le r.out (k + 1)
        have hlr := HL.out
        generalize r.out[k] = x at *
        rw [hlr] at hle
        rw [hstep, List.length_append] at hle
        obtain ⟨a, rfl, hab, _, hat⟩ := (hel.below hbr).at_ (k := k) (r := rowFr x) (by rw [List.getElem?_map, hx]; rfl)
        have hE := fun w => encode_good x.ver x.kind x.pl hg.1 hg.2.1 hg.2.2 w
        have HX := Lib.hid hE
        have HS := Lib.hid hstep
        have hz : ∀ W, (Op.stringOp .add (bstr (encs (r.out.take k))) (bstr (wireF x.ver x.kind x.pl))).run Try.prog W = .ok (.string (bstr (encs (r.out.take k)) ++ bstr (wireF x.ver x.kind x.pl))) W :=
          fun W => run_string_add_sum W _ _ (by rw [bstr_size, bstr_size]; omega)
        clear hE hstep hlr hle hx hg
        go_wp2_with (refine wpList_load_at rfl _ _ rfl (a.add (k * 3)) rfl [Value.int .i64 (x.ver : Int), Value.int .i64 (x.kind : Int), Value.string (bstr x.pl)] _ hat Try.underlying34 rfl frame_size3 ?_)
        refine (HX.out _).mono ?_
        rintro e w4 ⟨rfl, hb4⟩
        have hb5 := (hbr.alloc hbr.size (.cells #[Value.int .i64 (x.ver : Int), Value.int .i64 (x.kind : Int), Value.string (bstr x.pl)] 34))
        have hb6 := hb5.trans (hb4.mono hb5.size)
        clear hat hb4
        go_wp2_with fail
        go_roundw
        case rel => exact ⟨k + 1, by omega, by go_num, by rw [HS.out, bstr_append], hb6⟩
        case measure => simp [intOf]; omega
      · obtain rfl : k = r.out.length := by omega
        have hB4 := hB3.trans (hbr.mono hB3.size)
        have b4 := b3.below hbr hlt3
        rw [List.take_length]
        have hS : (bstr (encs r.out)).size = r.n := by rw [bstr_size, HL.out]
        have hS2 : bstr (encs r.out) = s.extract 0 r.n := by
          apply ByteArray.ext
          apply Array.toList_inj.1
          rw [bstr_list, HE.out, ByteArray.data_extract, Array.toList_extract]
          simp
        have b5 : Blk wr w1.heap.size 43 #[.string ByteArray.empty, .int .i64 (r.n : Int), .int .i64 (r.e : Int)] := by
          rw [Nat.zero_add] at b4; exact b4
        generalize bstr (encs r.out) = T at *
        have e1 : ((r.n : Int) == (T.size : Int)) = true := by rw [hS]; simp
        have e2 : (T.toList == (s.extract 0 T.size).toList) = true := by rw [hS, ← hS2]; simp
        have i1 : (T.size : Int) ≤ (s.size : Int) := by omega
        clear hS hS2 b4 b3 hel
        go_wp2_with fail
        refine (at_any w1.heap.size _ _ _ _ b5).mono ?_
        rintro e w5 ⟨rfl, rfl⟩
        go_wp2_with fail
        refine (left_any w1.heap.size _ _ _ _ b5).mono ?_
        rintro e w5 ⟨rfl, rfl⟩
        go_wp2_with fail
        go_ret
        exact ⟨rfl, hB4⟩

theorem own : ownKnob Try.prog.godebug = none := by kernel_rfl
theorem laid : laidOutB Try.prog = true := by kernel_rfl
set_option maxRecDepth 100000 in
theorem contract (H : Type) (enc : TypeId × Value → H) (W : World) (base : Nat) (args : Array Value) (ds gs : List (DataW H)) (before : List MemPlace)
    (hval0 : ∀ (j : Nat) t v, Try.f5.params[j]? = some t → args[j]? = some v → Value.okWide Try.prog W .any base t v)
    (hW : DataW.Whole enc Try.prog Try.f5.params.toList Rows.feedPrefixSpec.vars false W args.toList ds gs before)
    (hsz0 : (DataW.weightsEach Try.prog (Try.f5.params.toList ++ Rows.feedPrefixSpec.plain.varTypes Try.prog) (ds ++ gs)).all (· ≤ reachBytes) = true)
    (hk : Rows.uptoSmall H (ds ++ gs) = true) :
    Calls Try.prog 5 args W fun e W' => ∃ v, e = .returned v ∧ Rows.feedPrefixSpec.post enc Try.prog Try.f5 false true false false W args v W' := by
  have hval : ∀ (j : Nat) t v, Try.f5.params[j]? = some t → args[j]? = some v → Value.okWide Try.prog W .any base t v := hval0
  have hsz : (DataW.weightsEach Try.prog (Try.f5.params.toList ++ Rows.feedPrefixSpec.plain.varTypes Try.prog) (ds ++ gs)).all (· ≤ reachBytes) = true := hsz0
  have hlt : ∀ x ∈ before, x.block < W.heap.size := fun x hx => hW.lt x hx
  have hW' := hW
  obtain ⟨p, q, hA0, hV, rfl, hfz, hnd⟩ := hW
  have hA : DataW.TrodAll enc Try.prog W 0 (fun _ => true) true Try.f5.params.toList args.toList ds p := hA0
  rw [Try.params5] at hA hval hsz
  obtain ⟨v0, vs0, d0, ds0, p0, q0, hargs, rfl, rfl, h0, r0⟩ := trodAll_cons hA
  obtain ⟨rfl, rfl, rfl⟩ := trodAll_nil r0
  obtain rfl : args = #[v0] := by cases args; simp_all
  obtain ⟨rfl, rfl⟩ := trodVars_none hV
  obtain ⟨a0, rfl, rfl, rfl, w0⟩ := open_string Try.underlying9 (hval 0 9 v0 rfl rfl) h0
  have b0 : a0.size ≤ 140737488351232 := by have := sized_string hsz (j := 0) (t := 9) rfl rfl; simpa [reachBytes] using this
  have hB := of_decide_eq_true hk
  simp only [List.append_nil, List.cons_append, List.nil_append, Rows.uptoBulkAll, Rows.uptoBulk] at hB
  have u0 : a0.size ≤ 1048576 := by have hl : a0.data.toList.length = a0.size := (by simp); omega
  refine (walk a0 u0 W).mono fun e W' ⟨he, hb⟩ => ?_
  subst he
  exact ⟨_, rfl, law_post laid (by kernel_rfl) Try.underlying4 rfl rfl hW' rfl rfl rfl rfl hb⟩

set_option maxRecDepth 100000 in
theorem lifted (os : Os) (started : os.Started) (H : Type) (enc : TypeId × Value → H) (F : Stop.Interp) :
    ReturnsInHanded {} Try.checked os 5 .any ((Rows.OpenSpec.upto Rows.feedPrefixSpec).pre6 enc Try.prog Try.f5 Rows.feedPrefixUptoRow.domain false) (((Rows.OpenSpec.upto Rows.feedPrefixSpec).at F).post enc Try.prog Try.f5 false true false false) := by
  refine returnsInHanded_of_cond_sized (C := Try.checked) (s := Rows.OpenSpec.upto Rows.feedPrefixSpec) (k := Rows.uptoSmall) rfl own started (by kernel_rfl) Try.func5
    (OpenSpec.witness (enc := enc) (C := Try.checked) (s := Rows.OpenSpec.upto Rows.feedPrefixSpec) (k := Rows.uptoSmall) rfl false ⟨#[], #[.string ByteArray.empty], []⟩ 8 (by kernel_rfl) (by kernel_rfl) (by kernel_rfl)
      (x := ([.lit (.string [])], [], [])) (by kernel_rfl) rfl (by kernel_rfl)) ?_
  intro W base args ds gs before hval0 hW _ hk hsz0 _
  exact contract H enc W base args ds gs before hval0 hW hsz0 hk

theorem over : Rows.feedPrefixUptoRow.holds Try.pinned (Rows.OpenSpec.upto Rows.feedPrefixSpec) :=
  OpenClaim.holds_of_cond 5 Try.f5 rfl rfl rfl rfl rfl rfl rfl ⟨rfl, rfl, rfl, rfl, rfl⟩ rfl rfl rfl rfl rfl (by kernel_rfl) Try.func5 (by kernel_rfl)
    (of_decide_eq_true (by kernel_rfl)) (by unfold Func.isWrapper; first | (rw [if_pos (by decide +kernel)]; kernel_rfl) | (rw [if_neg (by decide +kernel)]; exact ⟨rfl, rfl⟩))
    (fun os started H enc _ F => lifted os started H enc F)

/-- The statement. -/
theorem proved : Rows.FeedPrefixUptoSaid := over
#print axioms proved
end Go.Proofs.Ytbjngeaoimaooaa.feedPrefix
