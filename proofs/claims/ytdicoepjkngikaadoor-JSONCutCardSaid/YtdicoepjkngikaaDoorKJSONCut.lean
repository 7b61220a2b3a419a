/-
  The law JSONCut of package brackenkeep: for every input it answers true.
-/
import Derived.Test.YtdicoepjkngikaaDoorRows
import Derived.Test.YtdicoepjkngikaaDoorPkBase
import Derived.Test.YtdicoepjkngikaaDoorPkLaidJ
import Derived.BigQuiet
import Derived.Test.YtdicoepjkngikaaDoorPkJsY
set_option linter.unusedVariables false
set_option linter.unusedSimpArgs false
namespace Go.Proofs.YtdicoepjkngikaaDoor.jSONCut
open Go.ChangeShapes Go.WideShapes Go.ChangeAt Go.RowKit Go.Joins
open Go.ChangeMaps (open_string)
theorem cut_str (l : List UInt8) (k : Nat) : (bstr l).extract 0 k = bstr (l.take k) := by
  rw [← bstr_self ((bstr l).extract 0 k), extract_list, bstr_list, List.drop_zero, Nat.sub_zero]
set_option maxHeartbeats 8000000 in
set_option maxRecDepth 100000 in
theorem walk (s0 : St) (pj0 pn0 pl0 : Option Addr) (cj0 cn0 cl0 : Nat) (w : World) (hm0 : StM w w.heap.size pj0 pn0 pl0 s0) (hk0 : StOk s0) (a : Int) (a1 : -9223372036854775808 ≤ a) (a2 : a ≤ 9223372036854775807) (more : ByteArray) (hbs : more.size ≤ 140737488351232) (hT : LibJ w.heap.size w) :
    Calls Tryd.prog 4 #[.agg #[Value.int .i64 s0.rev, Value.slice pj0 s0.jobs.length cj0, Value.slice pn0 s0.nodes.length cn0, Value.slice pl0 s0.leases.length cl0], .int .i64 a, .string more] w fun e w' => e = .returned (.bool true) ∧ Below w.heap.size w w' := by
  have bb0 := Blk.new w 26 #[Value.int .i64 s0.rev, Value.slice pj0 s0.jobs.length cj0, Value.slice pn0 s0.nodes.length cn0, Value.slice pl0 s0.leases.length cl0]
  have cc : Below w.heap.size w (w.alloc (.cells #[Value.int .i64 s0.rev, Value.slice pj0 s0.jobs.length cj0, Value.slice pn0 s0.nodes.length cn0, Value.slice pl0 s0.leases.length cl0] 26)) := (Below.refl _ _).alloc (by simp) (.cells #[Value.int .i64 s0.rev, Value.slice pj0 s0.jobs.length cj0, Value.slice pn0 s0.nodes.length cn0, Value.slice pl0 s0.leases.length cl0] 26)
  have HM0 := Lib.hid hm0
  have HZ0 := Lib.hid hk0.sz
  have HT := Lib.hid hT
  have hzs := zero_st_lit
  have z0 : (((0 : Nat) : Int) != 0) = false := rfl
  have z1 : (((0 : Nat) : Int) == 0) = true := rfl
  have HPr := Lib.hid (fun (W : World) (hW : Below w.heap.size w W) => Print_any s0 pj0 pn0 pl0 cj0 cn0 cl0 W ((HM0.out.below hW).more hW.size) HZ0.out (HT.out.atP hW))
  have HCk := Lib.hid (fun (W : World) (hW : Below w.heap.size w W) => stCheck_any s0 pj0 pn0 pl0 cj0 cn0 cl0 W ((HM0.out.below hW).more hW.size) HZ0.out (HT.out.atT hW))
  clear hT hm0 hk0
  by_cases hE : checkE s0 = 0
  · have F := (fine_iff s0).1 hE
    have hpr : printE s0 = printL s0 := by unfold printE; rw [if_pos hE]
    rw [hpr, hE] at HPr
    have hus : (bstr (printL s0)).size = (printL s0).length := bstr_size _
    clear hpr hE
    by_cases hl : (printL s0).length ≤ 50000
    · have hp0 : 0 < (printL s0).length := by simp [printL, hdrJ]
      have hl6 : (printL s0).length ≤ 60000 := by omega
      have HCu := Lib.hid (fun (k : Nat) (hk : k < (printL s0).length) => parse_cut F hl6 hk)
      have HMo := Lib.hid (fun (m : List UInt8) => parse_more F hl6 m)
      generalize printL s0 = out at *
      have hul : ¬ ((bstr out).size : Int) > 50000 := by omega
      have hul2 : ¬ (50000 : Int) < ((bstr out).size : Int) := by omega
      have HR := Lib.hid (fun (W : World) => rest_any a (out.length : Int) W (by omega) (by omega))
      have hk0 := Int.emod_nonneg a (show (out.length : Int) ≠ 0 by omega)
      have hk1 := Int.emod_lt_of_pos a (show (0 : Int) < (out.length : Int) by omega)
      generalize a % (out.length : Int) = m at *
      obtain ⟨k, rfl⟩ := Int.eq_ofNat_of_zero_le hk0
      clear hk0 F hl6
      have HCS := Lib.hid (cut_str out k)
      have HL := Lib.hid hus
      clear hus
      go_enter Tryd.func4, Tryd.ntmps4
      go_wp2_with fail
      generalize w.alloc _ = W0 at *
      refine (printedF_any _ (HT.out.atP cc)).mono ?_
      rintro e w1 ⟨rfl, hb2⟩
      have b3 := bb0.below hb2 bb0.lt
      have c4 := cc.trans (hb2.mono cc.size)
      clear bb0 cc hb2
      go_wp2_with (first | (refine wpList_load_blk_w (by rfl) _ _ rfl (w.heap.size) rfl _ #[Value.int .i64 s0.rev, Value.slice pj0 s0.jobs.length cj0, Value.slice pn0 s0.nodes.length cn0, Value.slice pl0 s0.leases.length cl0] b3 _ Tryd.underlying26 rfl state_size4 ?_))
      refine (HPr.out _ c4).mono ?_
      rintro e w5 ⟨rfl, hb6⟩
      have b7 := b3.below hb6 b3.lt
      have c8 := c4.trans (hb6.mono c4.size)
      clear b3 c4 hb6
      have hsz := HL.out
      have hks : k ≤ (bstr out).size := by omega
      have hcon := HCS.out
      have hadd : ∀ W, (Op.stringOp .add (bstr out) more).run Tryd.prog W = .ok (.string (bstr out ++ more)) W := fun W => run_string_add_sum W _ _ (by omega)
      have hcat : bstr out ++ more = bstr (out ++ more.data.toList) := by
        apply bext
        rw [ByteArray.data_append, Array.toList_append, bstr_list, bstr_list]
      rw [hcat] at hadd
      generalize hb : bstr out = bo at *
      have HBO := Lib.hid hb
      clear hb hcat
      go_wp2_with (first | (refine wpList_load_blk_w (by rfl) _ _ rfl (w.heap.size) rfl _ #[Value.int .i64 s0.rev, Value.slice pj0 s0.jobs.length cj0, Value.slice pn0 s0.nodes.length cn0, Value.slice pl0 s0.leases.length cl0] b7 _ Tryd.underlying26 rfl state_size4 ?_))
      refine (HR.out _).mono ?_
      rintro e w' ⟨rfl, rfl⟩
      clear hsz
      go_wp2_with (first | (refine wpList_load_blk_w (by rfl) _ _ rfl (w.heap.size) rfl _ #[Value.int .i64 s0.rev, Value.slice pj0 s0.jobs.length cj0, Value.slice pn0 s0.nodes.length cn0, Value.slice pl0 s0.leases.length cl0] b7 _ Tryd.underlying26 rfl state_size4 ?_))
      have hP1 := fun (W : World) (hW : Below w.heap.size w W) => Parse_any (out.take k) W (HT.out.at_ hW)
      have hE1 := HCu.out k (by omega)
      have hS1 := parse_t1 (t := out.take k) (by rw [hE1]; decide)
      rw [hE1, hS1] at hP1
      clear hE1 hS1
      refine (hP1 _ c8).mono ?_
      rintro e w11 ⟨q9a, q9b, q9c, d9a, d9b, d9c, rfl, m10, hb12⟩
      have b13 := b7.below hb12 b7.lt
      have c14 := c8.trans (hb12.mono c8.size)
      clear b7 c8 hb12
      have hb15 : Below w11.heap.size w11 (w11.alloc (.cells #[Value.int .i64 noSt.rev, Value.slice q9a noSt.jobs.length d9a, Value.slice q9b noSt.nodes.length d9b, Value.slice q9c noSt.leases.length d9c] 26)) := (Below.refl _ _).alloc (Nat.le_refl _) _
      have b16 := Blk.new w11 26 #[Value.int .i64 noSt.rev, Value.slice q9a noSt.jobs.length d9a, Value.slice q9b noSt.nodes.length d9b, Value.slice q9c noSt.leases.length d9c]
      have b17 := b13.below hb15 b13.lt
      have m18 := (m10.below hb15).more hb15.size
      have c19 := c14.trans (hb15.mono c14.size)
      clear b13 m10 c14 hb15
      go_wp2_with (first | (refine wpList_store_new rfl _ _ _ rfl rfl 26 _ #[Value.int .i64 noSt.rev, Value.slice q9a noSt.jobs.length d9a, Value.slice q9b noSt.nodes.length d9b, Value.slice q9c noSt.leases.length d9c] rfl state_size4 rfl (one_stJ _ _ _ _ _ _ _ _ _ _) ?_) | (first | (refine wpList_load_blk_w (by rfl) _ _ rfl (w.heap.size) rfl _ #[Value.int .i64 s0.rev, Value.slice pj0 s0.jobs.length cj0, Value.slice pn0 s0.nodes.length cn0, Value.slice pl0 s0.leases.length cl0] b17 _ Tryd.underlying26 rfl state_size4 ?_) | (refine wpList_load_blk_w (by rfl) _ _ rfl (w11.heap.size) rfl _ #[Value.int .i64 noSt.rev, Value.slice q9a noSt.jobs.length d9a, Value.slice q9b noSt.nodes.length d9b, Value.slice q9c noSt.leases.length d9c] b16 _ Tryd.underlying26 rfl state_size4 ?_)))
      generalize w11.alloc _ = W20 at *
      generalize w11.heap.size = g21 at *
      clear hP1
      have hP2 := fun (W : World) (hW : Below w.heap.size w W) => Parse_any (out ++ more.data.toList) W (HT.out.at_ hW)
      have hM := HMo.out more.data.toList
      have hres : decide (parseE (out ++ more.data.toList) = 0) = decide (more.data.toList = []) := by rw [decide_eq_decide]; exact hM
      have hmo : more.toList.isEmpty = decide (more.data.toList = []) := by rw [ByteArray.toList_eq]; cases more.data.toList <;> simp
      have hge : ((parseE (out ++ more.data.toList) : Int) == 0) = decide (parseE (out ++ more.data.toList) = 0) := by rw [Bool.eq_iff_iff, beq_iff_eq, decide_eq_true_iff]; omega
      rw [hres] at hge
      generalize parseE (out ++ more.data.toList) = er at *
      generalize parseS (out ++ more.data.toList) = xs at *
      generalize decide (more.data.toList = []) = bb at *
      clear hM hres
      refine (hP2 _ c19).mono ?_
      rintro e w23 ⟨q10a, q10b, q10c, d10a, d10b, d10c, rfl, m22, hb24⟩
      have b25 := b17.below hb24 b17.lt
      have b26 := b16.below hb24 b16.lt
      have m27 := (m18.below hb24).more hb24.size
      have c28 := c19.trans (hb24.mono c19.size)
      clear b17 b16 m18 c19 hb24
      have hb29 : Below w23.heap.size w23 (w23.alloc (.cells #[Value.int .i64 xs.rev, Value.slice q10a xs.jobs.length d10a, Value.slice q10b xs.nodes.length d10b, Value.slice q10c xs.leases.length d10c] 26)) := (Below.refl _ _).alloc (Nat.le_refl _) _
      have b30 := Blk.new w23 26 #[Value.int .i64 xs.rev, Value.slice q10a xs.jobs.length d10a, Value.slice q10b xs.nodes.length d10b, Value.slice q10c xs.leases.length d10c]
      have b31 := b25.below hb29 b25.lt
      have b32 := b26.below hb29 b26.lt
      have m33 := (m27.below hb29).more hb29.size
      have m34 := (m22.below hb29).more hb29.size
      have c35 := c28.trans (hb29.mono c28.size)
      clear b25 b26 m27 m22 c28 hb29
      go_wp2_with (first | (refine wpList_store_new rfl _ _ _ rfl rfl 26 _ #[Value.int .i64 xs.rev, Value.slice q10a xs.jobs.length d10a, Value.slice q10b xs.nodes.length d10b, Value.slice q10c xs.leases.length d10c] rfl state_size4 rfl (one_stJ _ _ _ _ _ _ _ _ _ _) ?_) | (first | (refine wpList_load_blk_w (by rfl) _ _ rfl (w.heap.size) rfl _ #[Value.int .i64 s0.rev, Value.slice pj0 s0.jobs.length cj0, Value.slice pn0 s0.nodes.length cn0, Value.slice pl0 s0.leases.length cl0] b31 _ Tryd.underlying26 rfl state_size4 ?_) | (refine wpList_load_blk_w (by rfl) _ _ rfl (g21) rfl _ #[Value.int .i64 noSt.rev, Value.slice q9a noSt.jobs.length d9a, Value.slice q9b noSt.nodes.length d9b, Value.slice q9c noSt.leases.length d9c] b32 _ Tryd.underlying26 rfl state_size4 ?_) | (refine wpList_load_blk_w (by rfl) _ _ rfl (w23.heap.size) rfl _ #[Value.int .i64 xs.rev, Value.slice q10a xs.jobs.length d10a, Value.slice q10b xs.nodes.length d10b, Value.slice q10c xs.leases.length d10c] b30 _ Tryd.underlying26 rfl state_size4 ?_)))
      generalize w23.alloc _ = W36 at *
      generalize w23.heap.size = g37 at *
      go_wp2_with (first | (refine wpList_load_blk_w (by rfl) _ _ rfl (w.heap.size) rfl _ #[Value.int .i64 s0.rev, Value.slice pj0 s0.jobs.length cj0, Value.slice pn0 s0.nodes.length cn0, Value.slice pl0 s0.leases.length cl0] b31 _ Tryd.underlying26 rfl state_size4 ?_) | (refine wpList_load_blk_w (by rfl) _ _ rfl (g21) rfl _ #[Value.int .i64 noSt.rev, Value.slice q9a noSt.jobs.length d9a, Value.slice q9b noSt.nodes.length d9b, Value.slice q9c noSt.leases.length d9c] b32 _ Tryd.underlying26 rfl state_size4 ?_) | (refine wpList_load_blk_w (by rfl) _ _ rfl (g37) rfl _ #[Value.int .i64 xs.rev, Value.slice q10a xs.jobs.length d10a, Value.slice q10b xs.nodes.length d10b, Value.slice q10c xs.leases.length d10c] b30 _ Tryd.underlying26 rfl state_size4 ?_))
      go_ret
      exact ⟨by simp [hmo], c35⟩
    · have hul : ((bstr (printL s0)).size : Int) > 50000 := by omega
      generalize bstr (printL s0) = u at *
      clear hl F hus
      go_enter Tryd.func4, Tryd.ntmps4
      go_wp2_with fail
      generalize w.alloc _ = W0 at *
      refine (printedF_any _ (HT.out.atP cc)).mono ?_
      rintro e w1 ⟨rfl, hb2⟩
      have b3 := bb0.below hb2 bb0.lt
      have c4 := cc.trans (hb2.mono cc.size)
      clear bb0 cc hb2
      go_wp2_with (first | (refine wpList_load_blk_w (by rfl) _ _ rfl (w.heap.size) rfl _ #[Value.int .i64 s0.rev, Value.slice pj0 s0.jobs.length cj0, Value.slice pn0 s0.nodes.length cn0, Value.slice pl0 s0.leases.length cl0] b3 _ Tryd.underlying26 rfl state_size4 ?_))
      refine (HPr.out _ c4).mono ?_
      rintro e w5 ⟨rfl, hb6⟩
      have b7 := b3.below hb6 b3.lt
      have c8 := c4.trans (hb6.mono c4.size)
      clear b3 c4 hb6
      go_wp2_with (first | (refine wpList_load_blk_w (by rfl) _ _ rfl (w.heap.size) rfl _ #[Value.int .i64 s0.rev, Value.slice pj0 s0.jobs.length cj0, Value.slice pn0 s0.nodes.length cn0, Value.slice pl0 s0.leases.length cl0] b7 _ Tryd.underlying26 rfl state_size4 ?_))
      go_ret
      exact ⟨rfl, c8⟩
  · have hne1 : ((checkE s0 : Int) != 0) = true := by rw [bne_iff_ne]; omega
    generalize bstr (printE s0) = u at *
    generalize checkE s0 = er0 at *
    clear hE
    go_enter Tryd.func4, Tryd.ntmps4
    go_wp2_with fail
    generalize w.alloc _ = W0 at *
    refine (printedF_any _ (HT.out.atP cc)).mono ?_
    rintro e w1 ⟨rfl, hb2⟩
    have b3 := bb0.below hb2 bb0.lt
    have c4 := cc.trans (hb2.mono cc.size)
    clear bb0 cc hb2
    go_wp2_with (first | (refine wpList_load_blk_w (by rfl) _ _ rfl (w.heap.size) rfl _ #[Value.int .i64 s0.rev, Value.slice pj0 s0.jobs.length cj0, Value.slice pn0 s0.nodes.length cn0, Value.slice pl0 s0.leases.length cl0] b3 _ Tryd.underlying26 rfl state_size4 ?_))
    refine (HPr.out _ c4).mono ?_
    rintro e w5 ⟨rfl, hb6⟩
    have b7 := b3.below hb6 b3.lt
    have c8 := c4.trans (hb6.mono c4.size)
    clear b3 c4 hb6
    go_wp2_with (first | (refine wpList_load_blk_w (by rfl) _ _ rfl (w.heap.size) rfl _ #[Value.int .i64 s0.rev, Value.slice pj0 s0.jobs.length cj0, Value.slice pn0 s0.nodes.length cn0, Value.slice pl0 s0.leases.length cl0] b7 _ Tryd.underlying26 rfl state_size4 ?_))
    go_ret
    exact ⟨rfl, c8⟩

theorem own : ownKnob Tryd.prog.godebug = none := by kernel_rfl
theorem laid : laidOutB Tryd.prog = true := by kernel_rfl
set_option maxRecDepth 100000 in
theorem contract (H : Type) (enc : TypeId × Value → H) (W : World) (base : Nat) (args : Array Value) (ds gs : List (DataW H)) (before : List MemPlace)
    (hval0 : ∀ (j : Nat) t v, Tryd.f4.params[j]? = some t → args[j]? = some v → Value.okWide Tryd.prog W .any base t v)
    (hW : DataW.Whole enc Tryd.prog Tryd.f4.params.toList Rows.jSONCutSpec.vars false W args.toList ds gs before)
    (hsz0 : (DataW.weightsEach Tryd.prog (Tryd.f4.params.toList ++ Rows.jSONCutSpec.plain.varTypes Tryd.prog) (ds ++ gs)).all (· ≤ reachBytes) = true)
    (hT : LibJ W.heap.size W) :
    Calls Tryd.prog 4 args W fun e W' => ∃ v, e = .returned v ∧ Rows.jSONCutSpec.post enc Tryd.prog Tryd.f4 false true false false W args v W' := by
  have hval : ∀ (j : Nat) t v, Tryd.f4.params[j]? = some t → args[j]? = some v → Value.okWide Tryd.prog W .any base t v := hval0
  have hsz : (DataW.weightsEach Tryd.prog (Tryd.f4.params.toList ++ Rows.jSONCutSpec.plain.varTypes Tryd.prog) (ds ++ gs)).all (· ≤ reachBytes) = true := hsz0
  have hlt : ∀ x ∈ before, x.block < W.heap.size := fun x hx => hW.lt x hx
  have hW' := hW
  obtain ⟨p, q, hA0, hV, rfl, hfz, hnd⟩ := hW
  have hA : DataW.TrodAll enc Tryd.prog W 0 (fun _ => true) true Tryd.f4.params.toList args.toList ds p := hA0
  rw [Tryd.params4] at hA hval hsz
  obtain ⟨v0, vs0, d0, ds0, p0, q0, hargs, rfl, rfl, h0, r0⟩ := trodAll_cons hA
  obtain ⟨v1, vs1, d1, ds1, p1, q1, rfl, rfl, rfl, h1, r1⟩ := trodAll_cons r0
  obtain ⟨v2, vs2, d2, ds2, p2, q2, rfl, rfl, rfl, h2, r2⟩ := trodAll_cons r1
  obtain ⟨rfl, rfl, rfl⟩ := trodAll_nil r2
  obtain rfl : args = #[v0, v1, v2] := by cases args; simp_all
  obtain ⟨rfl, rfl⟩ := trodVars_none hV
  obtain ⟨s0, pj0, pn0, pl0, cj0, cn0, cl0, rfl, hm0, hk0⟩ := open_state (hval 0 26 v0 rfl rfl) h0 hsz (j := 0) rfl rfl
  obtain ⟨a1, rfl, rfl, rfl, w1⟩ := open_int Tryd.underlying3 (hval 1 3 v1 rfl rfl) h1
  have b1 := bounds_i64 w1
  obtain ⟨a2, rfl, rfl, rfl, w2⟩ := open_string Tryd.underlying9 (hval 2 9 v2 rfl rfl) h2
  have b2 : a2.size ≤ 140737488351232 := by have := sized_string hsz (j := 2) (t := 9) rfl rfl; simpa [reachBytes] using this
  refine (walk s0 pj0 pn0 pl0 cj0 cn0 cl0 W hm0 hk0 a1 b1.1 b1.2 a2 b2 hT).mono fun e W' ⟨he, hb⟩ => ?_
  subst he
  exact ⟨_, rfl, law_post laid (by kernel_rfl) Tryd.underlying4 rfl rfl hW' rfl rfl rfl rfl hb⟩

theorem reads (os : Os) {H : Type} (enc : TypeId × Value → H) : ∃ places, DataW.whole enc Tryd.prog ((laidWorldJ os).forCall (fun _ _ => 0) ⟨#[], #[.agg #[.int .i64 0, .slice none 0 0, .slice none 0 0, .slice none 0 0], .int .i64 0, .string ByteArray.empty], []⟩).memory Tryd.f4.params.toList Rows.jSONCutSpec.vars false (#[.agg #[.int .i64 0, .slice none 0 0, .slice none 0 0, .slice none 0 0], .int .i64 0, .string ByteArray.empty] : Array Value).toList 8 = some ([.agg [.lit (.int .i64 0), .nil, .nil, .nil], .lit (.int .i64 0), .lit (.string [])], [], places) :=
  ⟨[], by kernel_rfl⟩
set_option maxRecDepth 100000 in
theorem lifted (os : Os) (started : os.Started) (H : Type) (enc : TypeId × Value → H) (F : Stop.Interp) :
    ReturnsInHanded {} Tryd.checked os 4 .any ((OpenSpec.ofChange Rows.jSONCutSpec).preRow enc Tryd.prog Tryd.f4 Rows.jSONCutRow.domain false Rows.jSONCutRow.laid) (((OpenSpec.ofChange Rows.jSONCutSpec).at F).post enc Tryd.prog Tryd.f4 false true false false) := by
  obtain ⟨places, hx⟩ := reads os enc
  refine returnsInHanded_of_row (C := Tryd.checked) (s := (OpenSpec.ofChange Rows.jSONCutSpec)) own started (by kernel_rfl) Tryd.func4
    (witness_row_atRef (enc := enc) (C := Tryd.checked) false (laidWorldJ os) #[.agg #[.int .i64 0, .slice none 0 0, .slice none 0 0, .slice none 0 0], .int .i64 0, .string ByteArray.empty] rfl (by kernel_rfl) (by kernel_rfl) (by kernel_rfl)
      (OpenSpec.preRow_of_cond 8 hx (by kernel_rfl) (fun k hk => by cases hk) (by kernel_rfl) (laid_metJ os _))) ?_
  intro W base args ds gs before hval0 hW _ hcond hsz0 hL _ _
  exact contract H enc W base args ds gs before hval0 hW hsz0 (libJ_of_laid hL)

theorem said : Rows.JSONCutSaid :=
  OpenClaim.holds_of_cond 4 Tryd.f4 rfl rfl rfl rfl rfl rfl rfl ⟨rfl, rfl, rfl, rfl, rfl⟩ rfl rfl rfl rfl rfl (by kernel_rfl) Tryd.func4 (by kernel_rfl)
    (of_decide_eq_true (by kernel_rfl)) (by unfold Func.isWrapper; first | (rw [if_pos (by decide +kernel)]; kernel_rfl) | (rw [if_neg (by decide +kernel)]; exact ⟨rfl, rfl⟩))
    (fun os started H enc _ F => by rw [OpenClaim.pre_eq_preRow]; exact lifted os started H enc F)

/-- No parameter wants a stand-in; the program's own looks are off. -/
theorem plain (f : FuncId) (fn : Func) (hf : Tryd.pinned.checked.prog.funcNamed "bracken/brackenkeep.JSONCut" = some f) (hfn : Tryd.pinned.checked.prog.funcs[f]? = some fn) :
    true = Tryd.pinned.checked.prog.looks [] ∧ ∀ (j : Nat) t, fn.params[j]? = some t → Tryd.pinned.checked.prog.wantsStandIn t = false := by
  obtain rfl : f = 4 := Option.some.inj ((show Tryd.prog.funcNamed "bracken/brackenkeep.JSONCut" = some 4 by kernel_rfl).symm.trans hf) |>.symm
  obtain rfl : fn = Tryd.f4 := (Option.some.inj (Tryd.func4.symm.trans hfn)).symm
  refine ⟨by kernel_rfl, fun j t ht => ?_⟩
  rw [Tryd.params4] at ht
  have hm := Array.mem_of_getElem? ht
  have hall : (#[26, 3, 9] : Array TypeId).all (fun t => !Tryd.prog.wantsStandIn t) = true := by kernel_rfl
  have := Array.all_eq_true_iff_forall_mem.1 hall t (by simpa using hm)
  show Tryd.prog.wantsStandIn t = false
  simpa using this

/-- The statement. -/
theorem proved : Rows.JSONCutCardSaid :=
  Claim7.holds_tied_plain_at .later [] _ _ _ _ said (fun _ h => by cases h) (by kernel_rfl) (fun _ h => by cases h) jSONCut_row_tie rfl ⟨rfl, rfl⟩ (by kernel_rfl) rfl plain (by kernel_rfl)
#print axioms proved
end Go.Proofs.YtdicoepjkngikaaDoor.jSONCut
