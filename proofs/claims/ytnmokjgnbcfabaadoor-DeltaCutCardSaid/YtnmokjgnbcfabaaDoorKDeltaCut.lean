/-
  The law DeltaCut of package brackenkeep: for every input it answers true.
-/
import Derived.Test.YtnmokjgnbcfabaaDoorRows
import Derived.Test.YtnmokjgnbcfabaaDoorPkBase
import Derived.Test.YtnmokjgnbcfabaaDoorPkDelOpen
import Derived.Test.YtnmokjgnbcfabaaDoorPkPutD
import Derived.Test.YtnmokjgnbcfabaaDoorPkTakeD
import Derived.Test.YtnmokjgnbcfabaaDoorPkDelB
import Derived.Test.YtnmokjgnbcfabaaDoorPkHeld
import Derived.IntWalk
set_option linter.unusedVariables false
set_option linter.unusedSimpArgs false
namespace Go.Proofs.YtnmokjgnbcfabaaDoor.deltaCut
open Go.ChangeShapes Go.WideShapes Go.ChangeAt Go.RowKit Go.Joins
open Go.ChangeMaps (open_string)
theorem cut_str (l : List UInt8) (k : Nat) : (bstr l).extract 0 k = bstr (l.take k) := by
  rw [← bstr_self ((bstr l).extract 0 k), extract_list, bstr_list, List.drop_zero, Nat.sub_zero]
theorem bnil_empty : (bstr []).toList.isEmpty = true := by rw [bstr_toList]; rfl
theorem encD_pos (d : DeltaD) : 0 < (encD d).length := by
  have := putN_pos d.frm.toNat
  unfold encD
  rw [List.length_append]; omega
set_option maxHeartbeats 8000000 in
set_option maxRecDepth 100000 in
theorem walk (d : DeltaD) (p1 p2 p3 p4 p5 p6 : Option Addr) (c1 c2 c3 c4 c5 c6 : Nat) (w : World) (hm : DelM w w.heap.size p1 p2 p3 p4 p5 p6 d) (hk : DelOk d) (a : Int) (a1 : -9223372036854775808 ≤ a) (a2 : a ≤ 9223372036854775807) (more : ByteArray) (hbs : more.size ≤ 140737488351232) (hT : Tabs w) :
    Calls Tryd.prog 9 #[.agg #[.int .i64 d.frm, .int .i64 d.upto, .slice p1 d.jobs.length c1, .slice p2 d.nodes.length c2, .slice p3 d.leases.length c3, .slice p4 d.gj.length c4, .slice p5 d.gn.length c5, .slice p6 d.gl.length c6], .int .i64 a, .string more] w fun e w' => e = .returned (.bool true) ∧ Below w.heap.size w w' := by
  have hzd := zero_delta_lit
  have hb0 : Below w.heap.size w (w.alloc (.cells #[Value.int .i64 d.frm, Value.int .i64 d.upto, Value.slice p1 d.jobs.length c1, Value.slice p2 d.nodes.length c2, Value.slice p3 d.leases.length c3, Value.slice p4 d.gj.length c4, Value.slice p5 d.gn.length c5, Value.slice p6 d.gl.length c6] 51)) := (Below.refl _ _).alloc (Nat.le_refl _) _
  have bx0 := Blk.new w 51 #[Value.int .i64 d.frm, Value.int .i64 d.upto, Value.slice p1 d.jobs.length c1, Value.slice p2 d.nodes.length c2, Value.slice p3 d.leases.length c3, Value.slice p4 d.gj.length c4, Value.slice p5 d.gn.length c5, Value.slice p6 d.gl.length c6]
  have HE := Lib.hid (fun (W : World) (hW : Below w.heap.size w W) => encDelta_any d p1 p2 p3 p4 p5 p6 c1 c2 c3 c4 c5 c6 W ((hm.below hW).more hW.size) hk (hT.below hW))
  have HT := Lib.hid hT
  clear hT hm hk
  by_cases hE : (encDR d).2 = 0
  · obtain ⟨h1, h2, hl⟩ := encDR_ok hE
    have hl3 := encD_pos d
    have hd := decDR_enc h2 hl
    have hcut := decDR_cut h2 hl
    have hmore := decDR_more h2
    have he := HE.out
    unfold EncPost at he
    rw [h1] at he
    have HE2 := Lib.hid he
    have HD := Lib.hid hd
    have HCUT := Lib.hid hcut
    have HMORE := Lib.hid hmore
    generalize encD d = out at *
    have hsz : (bstr out).size = out.length := bstr_size out
    have HR := Lib.hid (fun (W : World) => rest_any a (out.length : Int) W (by omega) (by omega))
    have hk0 := Int.emod_nonneg a (show (out.length : Int) ≠ 0 by omega)
    have hk1 := Int.emod_lt_of_pos a (show (0 : Int) < (out.length : Int) by omega)
    generalize a % (out.length : Int) = m at *
    obtain ⟨k, rfl⟩ := Int.eq_ofNat_of_zero_le hk0
    clear h1 h2 hE HE he hd hcut hmore hk0
    have HL := Lib.hid hsz
    have HCS := Lib.hid (cut_str out k)
    clear hsz
    go_enter Tryd.func9, Tryd.ntmps9
    go_wp2_with fail
    generalize w.alloc _ = W0 at *
    refine (differed_any W0 (HT.out.below hb0)).mono ?_
    rintro e w1 ⟨rfl, hb1⟩
    have hB1 := hb0.trans (hb1.mono hb0.size)
    have bx1 := bx0.below hb1 bx0.lt
    clear hb1 hb0 bx0
    have z0 : (((0 : Nat) : Int) != 0) = false := rfl
    go_wp2_with (first | (refine wpList_load_blk_w (by rfl) _ _ rfl w.heap.size rfl _ #[Value.int .i64 d.frm, Value.int .i64 d.upto, Value.slice p1 d.jobs.length c1, Value.slice p2 d.nodes.length c2, Value.slice p3 d.leases.length c3, Value.slice p4 d.gj.length c4, Value.slice p5 d.gn.length c5, Value.slice p6 d.gl.length c6] bx1 _ Tryd.underlying51 rfl delta_size ?_))
    refine (HE2.out w1 hB1).mono ?_
    rintro e w2 ⟨rfl, hb2⟩
    have hB2 := hB1.trans (hb2.mono hB1.size)
    clear hb2 hB1 bx1 HE2
    have hsz := HL.out
    have hks : k ≤ (bstr out).size := by omega
    have hcon := HCS.out
    generalize hb : bstr out = bo at *
    have HBO := Lib.hid hb
    clear hb
    go_wp2_with fail
    refine (HR.out w2).mono ?_
    rintro e w' ⟨rfl, rfl⟩
    clear hsz
    go_wp2_with fail
    refine (decDelta_any (bstr (out.take k)) w2 (by rw [bstr_size, List.length_take]; omega) (HT.out.below hB2)).mono ?_
    rintro e w3 ⟨t, er, r1, r2, r3, r4, r5, r6, e1, e2, e3, e4, e5, e6, rfl, hmt, hb3, hd⟩
    have her : er = 3 := by have := HCUT.out k (by omega); rw [bstr_list] at hd; rw [hd] at this; exact this
    subst her
    have hB3 := hB2.trans (hb3.mono hB2.size)
    clear hmt hb3 hB2 hcon hd
    have hB4 := hB3.alloc hB3.size (.cells #[Value.int .i64 t.frm, Value.int .i64 t.upto, Value.slice r1 t.jobs.length e1, Value.slice r2 t.nodes.length e2, Value.slice r3 t.leases.length e3, Value.slice r4 t.gj.length e4, Value.slice r5 t.gn.length e5, Value.slice r6 t.gl.length e6] 51)
    have hbm : (bo ++ more).data.toList = out ++ more.data.toList := by rw [← HBO.out, ByteArray.data_append]; simp [bstr]
    have HBM := Lib.hid hbm
    have hbz : (bo ++ more).size ≤ 4611686018427387904 := by rw [ByteArray.size_append, HL.out]; omega
    have HBZ := Lib.hid hbz
    have hbo10 : bo.size ≤ 20000 := by rw [HL.out]; omega
    have hzz : bo.size + more.size ≤ 9223372036854775807 := by omega
    clear hbm hbz
    have z3 : (((3 : Nat) : Int) == 3) = true := rfl
    by_cases hmo : more = ByteArray.empty
    · have hme : more.toList.isEmpty = true := by
        rw [hmo]; exact bnil_empty
      have HMO := Lib.hid (show more.data.toList = [] from by rw [hmo]; rfl)
      clear hmo
      go_wp2_with (first | (refine wpList_store_new rfl _ _ _ rfl rfl _ _ #[Value.int .i64 t.frm, Value.int .i64 t.upto, Value.slice r1 t.jobs.length e1, Value.slice r2 t.nodes.length e2, Value.slice r3 t.leases.length e3, Value.slice r4 t.gj.length e4, Value.slice r5 t.gn.length e5, Value.slice r6 t.gl.length e6] rfl delta_size rfl (one_d8 _ _ _ _ _ _ _ _ _ _ _ _ _ _ _ _ _ _ _ _) ?_))
      generalize w3.alloc _ = W4 at *
      refine (decDelta_any (bo ++ more) W4 HBZ.out (HT.out.below hB4)).mono ?_
      rintro e w5 ⟨t2, er2, s1, s2, s3, s4, s5, s6, f1, f2, f3, f4, f5, f6, rfl, hmt, hb5, hd⟩
      have hB5 := hB4.trans (hb5.mono hB4.size)
      have hB6 := hB5.alloc hB5.size (.cells #[Value.int .i64 t2.frm, Value.int .i64 t2.upto, Value.slice s1 t2.jobs.length f1, Value.slice s2 t2.nodes.length f2, Value.slice s3 t2.leases.length f3, Value.slice s4 t2.gj.length f4, Value.slice s5 t2.gn.length f5, Value.slice s6 t2.gl.length f6] 51)
      clear hmt hb5
      have her2 : er2 = 0 := by have := HD.out; rw [HBM.out, HMO.out, List.append_nil, this] at hd; injection hd with _ h; exact h.symm
      have hq0 : ((er2 : Int) == 0) = true := by rw [her2]; rfl
      clear her2 hd
      go_wp2_with (first | (refine wpList_store_new rfl _ _ _ rfl rfl _ _ #[Value.int .i64 t2.frm, Value.int .i64 t2.upto, Value.slice s1 t2.jobs.length f1, Value.slice s2 t2.nodes.length f2, Value.slice s3 t2.leases.length f3, Value.slice s4 t2.gj.length f4, Value.slice s5 t2.gn.length f5, Value.slice s6 t2.gl.length f6] rfl delta_size rfl (one_d8 _ _ _ _ _ _ _ _ _ _ _ _ _ _ _ _ _ _ _ _) ?_))
      go_ret
      exact ⟨rfl, hB6⟩
    · have hme : more.toList.isEmpty = false := by
        cases hq : more.toList.isEmpty
        · rfl
        · exact absurd (empty_of hq) hmo
      have HMO := Lib.hid (show more.data.toList ≠ [] from fun e => hmo (by rw [← bstr_self more, e]; rfl))
      clear hmo
      go_wp2_with (first | (refine wpList_store_new rfl _ _ _ rfl rfl _ _ #[Value.int .i64 t.frm, Value.int .i64 t.upto, Value.slice r1 t.jobs.length e1, Value.slice r2 t.nodes.length e2, Value.slice r3 t.leases.length e3, Value.slice r4 t.gj.length e4, Value.slice r5 t.gn.length e5, Value.slice r6 t.gl.length e6] rfl delta_size rfl (one_d8 _ _ _ _ _ _ _ _ _ _ _ _ _ _ _ _ _ _ _ _) ?_))
      generalize w3.alloc _ = W4 at *
      refine (decDelta_any (bo ++ more) W4 HBZ.out (HT.out.below hB4)).mono ?_
      rintro e w5 ⟨t2, er2, s1, s2, s3, s4, s5, s6, f1, f2, f3, f4, f5, f6, rfl, hmt, hb5, hd⟩
      have hB5 := hB4.trans (hb5.mono hB4.size)
      have hB6 := hB5.alloc hB5.size (.cells #[Value.int .i64 t2.frm, Value.int .i64 t2.upto, Value.slice s1 t2.jobs.length f1, Value.slice s2 t2.nodes.length f2, Value.slice s3 t2.leases.length f3, Value.slice s4 t2.gj.length f4, Value.slice s5 t2.gn.length f5, Value.slice s6 t2.gl.length f6] 51)
      clear hmt hb5
      have her2 : er2 ≠ 0 := by have := HMORE.out _ HMO.out; rw [HBM.out] at hd; rw [hd] at this; exact this
      have hq0 : ((er2 : Int) == 0) = false := by rw [beq_eq_false_iff_ne]; omega
      clear her2 hd
      go_wp2_with (first | (refine wpList_store_new rfl _ _ _ rfl rfl _ _ #[Value.int .i64 t2.frm, Value.int .i64 t2.upto, Value.slice s1 t2.jobs.length f1, Value.slice s2 t2.nodes.length f2, Value.slice s3 t2.leases.length f3, Value.slice s4 t2.gj.length f4, Value.slice s5 t2.gn.length f5, Value.slice s6 t2.gl.length f6] rfl delta_size rfl (one_d8 _ _ _ _ _ _ _ _ _ _ _ _ _ _ _ _ _ _ _ _) ?_))
      go_ret
      exact ⟨rfl, hB6⟩
  · have he := HE.out
    unfold EncPost at he
    have HE2 := Lib.hid he
    generalize encDR d = er at *
    obtain ⟨eb, ee⟩ := er
    have hne : ((ee : Int) != 0) = true := by rw [bne_iff_ne]; intro h; exact hE (by show ee = 0; omega)
    clear hE HE he
    go_enter Tryd.func9, Tryd.ntmps9
    go_wp2_with fail
    generalize w.alloc _ = W0 at *
    refine (differed_any W0 (HT.out.below hb0)).mono ?_
    rintro e w1 ⟨rfl, hb1⟩
    have hB1 := hb0.trans (hb1.mono hb0.size)
    have bx1 := bx0.below hb1 bx0.lt
    clear hb1 hb0 bx0
    go_wp2_with (first | (refine wpList_load_blk_w (by rfl) _ _ rfl w.heap.size rfl _ #[Value.int .i64 d.frm, Value.int .i64 d.upto, Value.slice p1 d.jobs.length c1, Value.slice p2 d.nodes.length c2, Value.slice p3 d.leases.length c3, Value.slice p4 d.gj.length c4, Value.slice p5 d.gn.length c5, Value.slice p6 d.gl.length c6] bx1 _ Tryd.underlying51 rfl delta_size ?_))
    refine (HE2.out w1 hB1).mono ?_
    rintro e w2 ⟨rfl, hb2⟩
    have hB2 := hB1.trans (hb2.mono hB1.size)
    go_wp2_with fail
    go_ret
    exact ⟨rfl, hB2⟩

theorem own : ownKnob Tryd.prog.godebug = none := by kernel_rfl
theorem laid : laidOutB Tryd.prog = true := by kernel_rfl
set_option maxRecDepth 100000 in
theorem contract (H : Type) (enc : TypeId × Value → H) (W : World) (base : Nat) (args : Array Value) (ds gs : List (DataW H)) (before : List MemPlace)
    (hval0 : ∀ (j : Nat) t v, Tryd.f9.params[j]? = some t → args[j]? = some v → Value.okWide Tryd.prog W .any base t v)
    (hW : DataW.Whole enc Tryd.prog Tryd.f9.params.toList Rows.deltaCutSpec.vars false W args.toList ds gs before)
    (hsz0 : (DataW.weightsEach Tryd.prog (Tryd.f9.params.toList ++ Rows.deltaCutSpec.plain.varTypes Tryd.prog) (ds ++ gs)).all (· ≤ reachBytes) = true)
    (hT : Tabs W) :
    Calls Tryd.prog 9 args W fun e W' => ∃ v, e = .returned v ∧ Rows.deltaCutSpec.post enc Tryd.prog Tryd.f9 false true false false W args v W' := by
  have hval : ∀ (j : Nat) t v, Tryd.f9.params[j]? = some t → args[j]? = some v → Value.okWide Tryd.prog W .any base t v := hval0
  have hsz : (DataW.weightsEach Tryd.prog (Tryd.f9.params.toList ++ Rows.deltaCutSpec.plain.varTypes Tryd.prog) (ds ++ gs)).all (· ≤ reachBytes) = true := hsz0
  have hlt : ∀ x ∈ before, x.block < W.heap.size := fun x hx => hW.lt x hx
  have hW' := hW
  obtain ⟨p, q, hA0, hV, rfl, hfz, hnd⟩ := hW
  have hA : DataW.TrodAll enc Tryd.prog W 0 (fun _ => true) true Tryd.f9.params.toList args.toList ds p := hA0
  rw [Tryd.params9] at hA hval hsz
  obtain ⟨v0, vs0, d0, ds0, p0, q0, hargs, rfl, rfl, h0, r0⟩ := trodAll_cons hA
  obtain ⟨v1, vs1, d1, ds1, p1, q1, rfl, rfl, rfl, h1, r1⟩ := trodAll_cons r0
  obtain ⟨v2, vs2, d2, ds2, p2, q2, rfl, rfl, rfl, h2, r2⟩ := trodAll_cons r1
  obtain ⟨rfl, rfl, rfl⟩ := trodAll_nil r2
  obtain rfl : args = #[v0, v1, v2] := by cases args; simp_all
  obtain ⟨rfl, rfl⟩ := trodVars_none hV
  obtain ⟨x0, pd0a, pd0b, pd0c, pd0d, pd0e, pd0f, cd0a, cd0b, cd0c, cd0d, cd0e, cd0f, rfl, hm0, hk0⟩ := open_delta (hval 0 51 v0 rfl rfl) h0 hsz (j := 0) rfl rfl
  obtain ⟨a1, rfl, rfl, rfl, w1⟩ := open_int Tryd.underlying3 (hval 1 3 v1 rfl rfl) h1
  have b1 := bounds_i64 w1
  obtain ⟨a2, rfl, rfl, rfl, w2⟩ := open_string Tryd.underlying9 (hval 2 9 v2 rfl rfl) h2
  have b2 : a2.size ≤ 140737488351232 := by have := sized_string hsz (j := 2) (t := 9) rfl rfl; simpa [reachBytes] using this
  refine (walk x0 pd0a pd0b pd0c pd0d pd0e pd0f cd0a cd0b cd0c cd0d cd0e cd0f W hm0 hk0 a1 b1.1 b1.2 a2 b2 hT).mono fun e W' ⟨he, hb⟩ => ?_
  subst he
  exact ⟨_, rfl, law_post laid (by kernel_rfl) Tryd.underlying4 rfl rfl hW' rfl rfl rfl rfl hb⟩

theorem reads (os : Os) {H : Type} (enc : TypeId × Value → H) : ∃ places, DataW.whole enc Tryd.prog ((laidWorld os).forCall (fun _ _ => 0) ⟨#[], #[.agg #[.int .i64 0, .int .i64 0, .slice none 0 0, .slice none 0 0, .slice none 0 0, .slice none 0 0, .slice none 0 0, .slice none 0 0], .int .i64 0, .string ByteArray.empty], []⟩).memory Tryd.f9.params.toList Rows.deltaCutSpec.vars false (#[.agg #[.int .i64 0, .int .i64 0, .slice none 0 0, .slice none 0 0, .slice none 0 0, .slice none 0 0, .slice none 0 0, .slice none 0 0], .int .i64 0, .string ByteArray.empty] : Array Value).toList 8 = some ([.agg [.lit (.int .i64 0), .lit (.int .i64 0), .nil, .nil, .nil, .nil, .nil, .nil], .lit (.int .i64 0), .lit (.string [])], [], places) :=
  ⟨[], by kernel_rfl⟩
set_option maxRecDepth 100000 in
theorem lifted (os : Os) (started : os.Started) (H : Type) (enc : TypeId × Value → H) (F : Stop.Interp) :
    ReturnsInHanded {} Tryd.checked os 9 .any ((OpenSpec.ofChange Rows.deltaCutSpec).preRow enc Tryd.prog Tryd.f9 Rows.deltaCutRow.domain false Rows.deltaCutRow.laid) (((OpenSpec.ofChange Rows.deltaCutSpec).at F).post enc Tryd.prog Tryd.f9 false true false false) := by
  obtain ⟨places, hx⟩ := reads os enc
  refine returnsInHanded_of_row (C := Tryd.checked) (s := (OpenSpec.ofChange Rows.deltaCutSpec)) own started (by kernel_rfl) Tryd.func9
    (witness_row_atRef (enc := enc) (C := Tryd.checked) false (laidWorld os) #[.agg #[.int .i64 0, .int .i64 0, .slice none 0 0, .slice none 0 0, .slice none 0 0, .slice none 0 0, .slice none 0 0, .slice none 0 0], .int .i64 0, .string ByteArray.empty] rfl (by kernel_rfl) (by kernel_rfl) (by kernel_rfl)
      (OpenSpec.preRow_of_cond 8 hx (by kernel_rfl) (fun k hk => by cases hk) (by kernel_rfl) (laid_met os _))) ?_
  intro W base args ds gs before hval0 hW _ hcond hsz0 hL _ _
  exact contract H enc W base args ds gs before hval0 hW hsz0 (tabs_of_laid hL)

theorem said : Rows.DeltaCutSaid :=
  OpenClaim.holds_of_cond 9 Tryd.f9 rfl rfl rfl rfl rfl rfl rfl ⟨rfl, rfl, rfl, rfl, rfl⟩ rfl rfl rfl rfl rfl (by kernel_rfl) Tryd.func9 (by kernel_rfl)
    (of_decide_eq_true (by kernel_rfl)) (by unfold Func.isWrapper; first | (rw [if_pos (by decide +kernel)]; kernel_rfl) | (rw [if_neg (by decide +kernel)]; exact ⟨rfl, rfl⟩))
    (fun os started H enc _ F => by rw [OpenClaim.pre_eq_preRow]; exact lifted os started H enc F)

/-- No parameter wants a stand-in; the program's own looks are off. -/
theorem plain (f : FuncId) (fn : Func) (hf : Tryd.pinned.checked.prog.funcNamed "bracken/brackenkeep.DeltaCut" = some f) (hfn : Tryd.pinned.checked.prog.funcs[f]? = some fn) :
    false = Tryd.pinned.checked.prog.looks [] ∧ ∀ (j : Nat) t, fn.params[j]? = some t → Tryd.pinned.checked.prog.wantsStandIn t = false := by
  obtain rfl : f = 9 := Option.some.inj ((show Tryd.prog.funcNamed "bracken/brackenkeep.DeltaCut" = some 9 by kernel_rfl).symm.trans hf) |>.symm
  obtain rfl : fn = Tryd.f9 := (Option.some.inj (Tryd.func9.symm.trans hfn)).symm
  refine ⟨by kernel_rfl, fun j t ht => ?_⟩
  rw [Tryd.params9] at ht
  have hm := Array.mem_of_getElem? ht
  have hall : (#[51, 3, 9] : Array TypeId).all (fun t => !Tryd.prog.wantsStandIn t) = true := by kernel_rfl
  have := Array.all_eq_true_iff_forall_mem.1 hall t (by simpa using hm)
  show Tryd.prog.wantsStandIn t = false
  simpa using this

/-- The statement. -/
theorem proved : Rows.DeltaCutCardSaid :=
  Claim7.holds_tied_plain_at .later [] _ _ _ _ said (fun _ h => by cases h) (by kernel_rfl) (fun _ h => by cases h) deltaCut_row_tie rfl ⟨rfl, rfl⟩ (by kernel_rfl) rfl plain (by kernel_rfl)
#print axioms proved
end Go.Proofs.YtnmokjgnbcfabaaDoor.deltaCut
