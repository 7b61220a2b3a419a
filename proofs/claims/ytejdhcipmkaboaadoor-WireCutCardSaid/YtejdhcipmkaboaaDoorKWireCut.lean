/-
  The law WireCut of package brackenkeep: for every input it answers true.
-/
import Derived.Test.YtejdhcipmkaboaaDoorRows
import Derived.Test.YtejdhcipmkaboaaDoorPkBase
import Derived.Test.YtejdhcipmkaboaaDoorPkEnc
import Derived.Test.YtejdhcipmkaboaaDoorPkWired
import Derived.Test.YtejdhcipmkaboaaDoorPkStateB
set_option linter.unusedVariables false
set_option linter.unusedSimpArgs false
namespace Go.Proofs.YtejdhcipmkaboaaDoor.wireCut
open Go.ChangeShapes Go.WideShapes Go.ChangeAt Go.RowKit Go.Joins
open Go.ChangeMaps (open_string)
theorem cut_str (l : List UInt8) (k : Nat) : (bstr l).extract 0 k = bstr (l.take k) := by
  rw [← bstr_self ((bstr l).extract 0 k), extract_list, bstr_list, List.drop_zero, Nat.sub_zero]
set_option maxHeartbeats 8000000 in
set_option maxRecDepth 100000 in
theorem walk (s : St) (p1 p2 p3 : Option Addr) (c1 c2 c3 : Nat) (w : World) (hm : StM w w.heap.size p1 p2 p3 s) (hk : StOk s) (a : Int) (a1 : -9223372036854775808 ≤ a) (a2 : a ≤ 9223372036854775807) (more : ByteArray) (hbs : more.size ≤ 140737488351232) (hT : Tabs w) :
    Calls Tryd.prog 4 #[.agg #[.int .i64 s.rev, .slice p1 s.jobs.length c1, .slice p2 s.nodes.length c2, .slice p3 s.leases.length c3], .int .i64 a, .string more] w fun e w' => e = .returned (.bool true) ∧ Below w.heap.size w w' := by
  have hb0 : Below w.heap.size w (w.alloc (.cells #[Value.int .i64 s.rev, Value.slice p1 s.jobs.length c1, Value.slice p2 s.nodes.length c2, Value.slice p3 s.leases.length c3] 26)) := (Below.refl _ _).alloc (Nat.le_refl _) _
  have bx0 := Blk.new w 26 #[Value.int .i64 s.rev, Value.slice p1 s.jobs.length c1, Value.slice p2 s.nodes.length c2, Value.slice p3 s.leases.length c3]
  have hz := hk.sz
  have HE := Lib.hid (fun (W : World) (hW : Below w.heap.size w W) => encode_state s 3 p1 p2 p3 c1 c2 c3 W ((hm.below hW).more hW.size) hz (hT.below hW))
  have HT := Lib.hid hT
  clear hT hm hz hk
  by_cases hE : (encR 3 s).2 = 0
  · obtain ⟨h1, h2, h3, _⟩ := encR_ok hE
    have hl := encS_len h2
    have hl3 := encS_pos 3 s
    have hd := decT_enc h2 h3 (by decide)
    have hcut := decT_cut h2 (by decide)
    have hmore := decT_more h2 (by decide)
    have he := HE.out
    rw [h1] at he
    have HE2 := Lib.hid he
    have HD := Lib.hid hd
    have HCUT := Lib.hid hcut
    have HMORE := Lib.hid hmore
    generalize encS 3 s = out at *
    have hsz : (bstr out).size = out.length := bstr_size out
    have HR := Lib.hid (fun (W : World) => rest_any a (out.length : Int) W (by omega) (by omega))
    have hk0 := Int.emod_nonneg a (show (out.length : Int) ≠ 0 by omega)
    have hk1 := Int.emod_lt_of_pos a (show (0 : Int) < (out.length : Int) by omega)
    generalize a % (out.length : Int) = m at *
    obtain ⟨k, rfl⟩ := Int.eq_ofNat_of_zero_le hk0
    clear h1 h2 h3 hE HE he hd hcut hmore hk0
    have HL := Lib.hid hsz
    have HCS := Lib.hid (cut_str out k)
    clear hsz
    go_enter Tryd.func4, Tryd.ntmps4
    go_wp2_with fail
    generalize w.alloc _ = W0 at *
    refine (wired_any W0 (HT.out.below hb0)).mono ?_
    rintro e w1 ⟨rfl, hb1⟩
    have hB1 := hb0.trans (hb1.mono hb0.size)
    have bx1 := bx0.below hb1 bx0.lt
    clear hb1 hb0 bx0
    have e0 : w1.cell? ⟨w.heap.size, 0, none⟩ = some (.int .i64 s.rev) := bx1.cell 0
    have e1 : w1.cell? ⟨w.heap.size, 1, none⟩ = some (.slice p1 s.jobs.length c1) := bx1.cell 1
    have e2 : w1.cell? ⟨w.heap.size, 2, none⟩ = some (.slice p2 s.nodes.length c2) := bx1.cell 2
    have e3 : w1.cell? ⟨w.heap.size, 3, none⟩ = some (.slice p3 s.leases.length c3) := bx1.cell 3
    go_wp2_with fail
    refine (HE2.out w1 hB1).mono ?_
    rintro e w2 ⟨rfl, hb2⟩
    have hB2 := hB1.trans (hb2.mono hB1.size)
    clear hb2 hB1 bx1 e0 e1 e2 e3 HE2
    have hsz := HL.out
    have hks : k ≤ (bstr out).size := by omega
    have hcon := HCS.out
    generalize hb : bstr out = bo at *
    have HBO := Lib.hid hb
    clear hb
    go_wp2_with fail
    refine (HR.out w2).mono ?_
    rintro e w' ⟨rfl, rfl⟩
    clear hsz
    go_wp2_with fail
    refine (decode_state (bstr (out.take k)) 3 w2 (by rw [bstr_size, List.length_take]; omega) (HT.out.below hB2)).mono ?_
    rintro e w3 ⟨t, er, q1, q2, q3, d1, d2, d3, rfl, hmt, _, hb3, hd⟩
    rw [bstr_list, HCUT.out k (by omega)] at hd
    injection hd with hd1 hd2
    subst hd1 hd2
    have hB3 := hB2.trans (hb3.mono hB2.size)
    have hB4 := hB3.alloc hB3.size (.cells #[Value.int .i64 zeroSt.rev, Value.slice q1 zeroSt.jobs.length d1, Value.slice q2 zeroSt.nodes.length d2, Value.slice q3 zeroSt.leases.length d3] 26)
    clear hmt hb3 hB3 hB2 hcon
    have hbm : (bo ++ more).data.toList = out ++ more.data.toList := by rw [← HBO.out, ByteArray.data_append]; simp [bstr]
    have HBM := Lib.hid hbm
    have hbz : (bo ++ more).size ≤ 4611686018427387904 := by rw [ByteArray.size_append, HL.out]; omega
    have HBZ := Lib.hid hbz
    have hbo10 : bo.size ≤ 20000 := by rw [HL.out]; omega
    have hzz : bo.size + more.size ≤ 9223372036854775807 := by omega
    clear hbm hbz
    by_cases hmo : more = ByteArray.empty
    · have hme : more.toList.isEmpty = true := by rw [hmo]; exact bnil_empty
      have HMO := Lib.hid (show more.data.toList = [] from by rw [hmo]; rfl)
      clear hmo
      go_wp2_with fail
      generalize w3.alloc _ = W4 at *
      refine (decode_state (bo ++ more) 3 W4 HBZ.out (HT.out.below hB4)).mono ?_
      rintro e w5 ⟨t, er, r1, r2, r3, g1, g2, g3, rfl, hmt, _, hb5, hd⟩
      rw [HBM.out, HMO.out, List.append_nil, HD.out] at hd
      injection hd with hd1 hd2
      subst hd1 hd2
      have hB5 := hB4.trans (hb5.mono hB4.size)
      have hB6 := hB5.alloc hB5.size (.cells #[Value.int .i64 s.rev, Value.slice r1 s.jobs.length g1, Value.slice r2 s.nodes.length g2, Value.slice r3 s.leases.length g3] 26)
      clear hmt hb5
      go_wp2_with fail
      go_ret
      exact ⟨rfl, hB6⟩
    · have hme : more.toList.isEmpty = false := by
        cases hq : more.toList.isEmpty
        · rfl
        · exact absurd (empty_of hq) hmo
      have HMO := Lib.hid (show more.data.toList ≠ [] from fun e => hmo (by rw [← bstr_self more, e]; rfl))
      clear hmo
      go_wp2_with fail
      generalize w3.alloc _ = W4 at *
      refine (decode_state (bo ++ more) 3 W4 HBZ.out (HT.out.below hB4)).mono ?_
      rintro e w5 ⟨t, er, r1, r2, r3, g1, g2, g3, rfl, hmt, _, hb5, hd⟩
      rw [HBM.out, HMORE.out _ HMO.out] at hd
      injection hd with hd1 hd2
      subst hd1 hd2
      have hB5 := hB4.trans (hb5.mono hB4.size)
      have hB6 := hB5.alloc hB5.size (.cells #[Value.int .i64 zeroSt.rev, Value.slice r1 zeroSt.jobs.length g1, Value.slice r2 zeroSt.nodes.length g2, Value.slice r3 zeroSt.leases.length g3] 26)
      clear hmt hb5
      go_wp2_with fail
      go_ret
      exact ⟨rfl, hB6⟩
  · have hne : (((encR 3 s).2 : Int) != 0) = true := by rw [bne_iff_ne]; omega
    have HE2 := Lib.hid HE.out
    generalize encR 3 s = ee at *
    clear hE HE
    go_enter Tryd.func4, Tryd.ntmps4
    go_wp2_with fail
    generalize w.alloc _ = W0 at *
    refine (wired_any W0 (HT.out.below hb0)).mono ?_
    rintro e w1 ⟨rfl, hb1⟩
    have hB1 := hb0.trans (hb1.mono hb0.size)
    have bx1 := bx0.below hb1 bx0.lt
    clear hb1 hb0 bx0
    have e0 : w1.cell? ⟨w.heap.size, 0, none⟩ = some (.int .i64 s.rev) := bx1.cell 0
    have e1 : w1.cell? ⟨w.heap.size, 1, none⟩ = some (.slice p1 s.jobs.length c1) := bx1.cell 1
    have e2 : w1.cell? ⟨w.heap.size, 2, none⟩ = some (.slice p2 s.nodes.length c2) := bx1.cell 2
    have e3 : w1.cell? ⟨w.heap.size, 3, none⟩ = some (.slice p3 s.leases.length c3) := bx1.cell 3
    go_wp2_with fail
    refine (HE2.out w1 hB1).mono ?_
    rintro e w2 ⟨rfl, hb2⟩
    go_wp2_with fail
    go_ret
    exact ⟨rfl, hB1.trans (hb2.mono hB1.size)⟩

theorem own : ownKnob Tryd.prog.godebug = none := by kernel_rfl
theorem laid : laidOutB Tryd.prog = true := by kernel_rfl
set_option maxRecDepth 100000 in
theorem contract (H : Type) (enc : TypeId × Value → H) (W : World) (base : Nat) (args : Array Value) (ds gs : List (DataW H)) (before : List MemPlace)
    (hval0 : ∀ (j : Nat) t v, Tryd.f4.params[j]? = some t → args[j]? = some v → Value.okWide Tryd.prog W .any base t v)
    (hW : DataW.Whole enc Tryd.prog Tryd.f4.params.toList Rows.wireCutSpec.vars false W args.toList ds gs before)
    (hsz0 : (DataW.weightsEach Tryd.prog (Tryd.f4.params.toList ++ Rows.wireCutSpec.plain.varTypes Tryd.prog) (ds ++ gs)).all (· ≤ reachBytes) = true)
    (hT : Tabs W) :
    Calls Tryd.prog 4 args W fun e W' => ∃ v, e = .returned v ∧ Rows.wireCutSpec.post enc Tryd.prog Tryd.f4 false true false false W args v W' := by
  have hval : ∀ (j : Nat) t v, Tryd.f4.params[j]? = some t → args[j]? = some v → Value.okWide Tryd.prog W .any base t v := hval0
  have hsz : (DataW.weightsEach Tryd.prog (Tryd.f4.params.toList ++ Rows.wireCutSpec.plain.varTypes Tryd.prog) (ds ++ gs)).all (· ≤ reachBytes) = true := hsz0
  have hlt : ∀ x ∈ before, x.block < W.heap.size := fun x hx => hW.lt x hx
  have hW' := hW
  obtain ⟨p, q, hA0, hV, rfl, hfz, hnd⟩ := hW
  have hA : DataW.TrodAll enc Tryd.prog W 0 (fun _ => true) true Tryd.f4.params.toList args.toList ds p := hA0
  rw [Tryd.params4] at hA hval hsz
  obtain ⟨v0, vs0, d0, ds0, p0, q0, hargs, rfl, rfl, h0, r0⟩ := trodAll_cons hA
  obtain ⟨v1, vs1, d1, ds1, p1, q1, rfl, rfl, rfl, h1, r1⟩ := trodAll_cons r0
  obtain ⟨v2, vs2, d2, ds2, p2, q2, rfl, rfl, rfl, h2, r2⟩ := trodAll_cons r1
  obtain ⟨rfl, rfl, rfl⟩ := trodAll_nil r2
  obtain rfl : args = #[v0, v1, v2] := by cases args; simp_all
  obtain ⟨rfl, rfl⟩ := trodVars_none hV
  obtain ⟨s0, pj0, pn0, pl0, cj0, cn0, cl0, rfl, hm0, hk0⟩ := open_state (hval 0 26 v0 rfl rfl) h0 hsz (j := 0) rfl rfl
  obtain ⟨a1, rfl, rfl, rfl, w1⟩ := open_int Tryd.underlying3 (hval 1 3 v1 rfl rfl) h1
  have b1 := bounds_i64 w1
  obtain ⟨a2, rfl, rfl, rfl, w2⟩ := open_string Tryd.underlying9 (hval 2 9 v2 rfl rfl) h2
  have b2 : a2.size ≤ 140737488351232 := by have := sized_string hsz (j := 2) (t := 9) rfl rfl; simpa [reachBytes] using this
  refine (walk s0 pj0 pn0 pl0 cj0 cn0 cl0 W hm0 hk0 a1 b1.1 b1.2 a2 b2 hT).mono fun e W' ⟨he, hb⟩ => ?_
  subst he
  exact ⟨_, rfl, law_post laid (by kernel_rfl) Tryd.underlying4 rfl rfl hW' rfl rfl rfl rfl hb⟩

theorem reads (os : Os) {H : Type} (enc : TypeId × Value → H) : ∃ places, DataW.whole enc Tryd.prog ((laidWorld os).forCall (fun _ _ => 0) ⟨#[], #[.agg #[.int .i64 0, .slice none 0 0, .slice none 0 0, .slice none 0 0], .int .i64 0, .string ByteArray.empty], []⟩).memory Tryd.f4.params.toList Rows.wireCutSpec.vars false (#[.agg #[.int .i64 0, .slice none 0 0, .slice none 0 0, .slice none 0 0], .int .i64 0, .string ByteArray.empty] : Array Value).toList 8 = some ([.agg [.lit (.int .i64 0), .nil, .nil, .nil], .lit (.int .i64 0), .lit (.string [])], [], places) :=
  ⟨[], by kernel_rfl⟩
set_option maxRecDepth 100000 in
theorem lifted (os : Os) (started : os.Started) (H : Type) (enc : TypeId × Value → H) (F : Stop.Interp) :
    ReturnsInHanded {} Tryd.checked os 4 .any ((OpenSpec.ofChange Rows.wireCutSpec).preRow enc Tryd.prog Tryd.f4 Rows.wireCutRow.domain false Rows.wireCutRow.laid) (((OpenSpec.ofChange Rows.wireCutSpec).at F).post enc Tryd.prog Tryd.f4 false true false false) := by
  obtain ⟨places, hx⟩ := reads os enc
  refine returnsInHanded_of_row (C := Tryd.checked) (s := (OpenSpec.ofChange Rows.wireCutSpec)) own started (by kernel_rfl) Tryd.func4
    (witness_row_atRef (enc := enc) (C := Tryd.checked) false (laidWorld os) #[.agg #[.int .i64 0, .slice none 0 0, .slice none 0 0, .slice none 0 0], .int .i64 0, .string ByteArray.empty] rfl (by kernel_rfl) (by kernel_rfl) (by kernel_rfl)
      (OpenSpec.preRow_of_cond 8 hx (by kernel_rfl) (fun k hk => by cases hk) (by kernel_rfl) (laid_met os _))) ?_
  intro W base args ds gs before hval0 hW _ hcond hsz0 hL _ _
  exact contract H enc W base args ds gs before hval0 hW hsz0 (tabs_of_laid hL)

theorem said : Rows.WireCutSaid :=
  OpenClaim.holds_of_cond 4 Tryd.f4 rfl rfl rfl rfl rfl rfl rfl ⟨rfl, rfl, rfl, rfl, rfl⟩ rfl rfl rfl rfl rfl (by kernel_rfl) Tryd.func4 (by kernel_rfl)
    (of_decide_eq_true (by kernel_rfl)) (by unfold Func.isWrapper; first | (rw [if_pos (by decide +kernel)]; kernel_rfl) | (rw [if_neg (by decide +kernel)]; exact ⟨rfl, rfl⟩))
    (fun os started H enc _ F => by rw [OpenClaim.pre_eq_preRow]; exact lifted os started H enc F)

/-- No parameter wants a stand-in; the program's own looks are off. -/
theorem plain (f : FuncId) (fn : Func) (hf : Tryd.pinned.checked.prog.funcNamed "bracken/brackenkeep.WireCut" = some f) (hfn : Tryd.pinned.checked.prog.funcs[f]? = some fn) :
    false = Tryd.pinned.checked.prog.looks [] ∧ ∀ (j : Nat) t, fn.params[j]? = some t → Tryd.pinned.checked.prog.wantsStandIn t = false := by
  obtain rfl : f = 4 := Option.some.inj ((show Tryd.prog.funcNamed "bracken/brackenkeep.WireCut" = some 4 by kernel_rfl).symm.trans hf) |>.symm
  obtain rfl : fn = Tryd.f4 := (Option.some.inj (Tryd.func4.symm.trans hfn)).symm
  refine ⟨by kernel_rfl, fun j t ht => ?_⟩
  rw [Tryd.params4] at ht
  have hm := Array.mem_of_getElem? ht
  have hall : (#[26, 3, 9] : Array TypeId).all (fun t => !Tryd.prog.wantsStandIn t) = true := by kernel_rfl
  have := Array.all_eq_true_iff_forall_mem.1 hall t (by simpa using hm)
  show Tryd.prog.wantsStandIn t = false
  simpa using this

/-- The statement. -/
theorem proved : Rows.WireCutCardSaid :=
  Claim7.holds_tied_plain_at .later [] _ _ _ _ said (fun _ h => by cases h) (by kernel_rfl) (fun _ h => by cases h) wireCut_row_tie rfl ⟨rfl, rfl⟩ (by kernel_rfl) rfl plain (by kernel_rfl)
#print axioms proved
end Go.Proofs.YtejdhcipmkaboaaDoor.wireCut
