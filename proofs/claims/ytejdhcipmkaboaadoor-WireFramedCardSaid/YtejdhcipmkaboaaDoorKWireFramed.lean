/-
  The law WireFramed of package brackenkeep: for every input it answers true.
-/
import Derived.Test.YtejdhcipmkaboaaDoorRows
import Derived.Test.YtejdhcipmkaboaaDoorPkBase
import Derived.Test.YtejdhcipmkaboaaDoorPkEnc
import Derived.Test.YtejdhcipmkaboaaDoorPkWFrame
import Derived.Test.YtejdhcipmkaboaaDoorPkWired
import Derived.Test.YtejdhcipmkaboaaDoorPkStateB
set_option linter.unusedVariables false
set_option linter.unusedSimpArgs false
namespace Go.Proofs.YtejdhcipmkaboaaDoor.wireFramed
open Go.ChangeShapes Go.WideShapes Go.ChangeAt Go.RowKit Go.Joins
open Go.ChangeMaps (open_string)
set_option maxHeartbeats 8000000 in
set_option maxRecDepth 100000 in
theorem walk (s : St) (p1 p2 p3 : Option Addr) (c1 c2 c3 : Nat) (w : World) (hm : StM w w.heap.size p1 p2 p3 s) (hk : StOk s) (n : Int) (n1 : -9223372036854775808 ≤ n) (n2 : n ≤ 9223372036854775807) (hT : Tabs w) :
    Calls Tryd.prog 7 #[.agg #[.int .i64 s.rev, .slice p1 s.jobs.length c1, .slice p2 s.nodes.length c2, .slice p3 s.leases.length c3], .int .i64 n] w fun e w' => e = .returned (.bool true) ∧ Below w.heap.size w w' := by
  have hb0 : Below w.heap.size w (w.alloc (.cells #[Value.int .i64 s.rev, Value.slice p1 s.jobs.length c1, Value.slice p2 s.nodes.length c2, Value.slice p3 s.leases.length c3] 26)) := (Below.refl _ _).alloc (Nat.le_refl _) _
  have bx0 := Blk.new w 26 #[Value.int .i64 s.rev, Value.slice p1 s.jobs.length c1, Value.slice p2 s.nodes.length c2, Value.slice p3 s.leases.length c3]
  have hz := hk.sz
  have hzf := zero_frame_lit
  have h30 := Int.emod_nonneg n (show (3 : Int) ≠ 0 by decide)
  have h33 := Int.emod_lt_of_pos n (show (0 : Int) < 3 by decide)
  have HR := Lib.hid (fun (W : World) => rest_any n 3 W (by decide) (by decide))
  generalize n % 3 = m at *
  obtain ⟨v, rfl⟩ : ∃ v : Nat, m = (v : Int) - 1 := ⟨(m + 1).toNat, by omega⟩
  have hv : 1 ≤ v ∧ v ≤ 3 := by omega
  have hvv : (v : Int) - 1 + 1 = (v : Int) := by omega
  have hlen : (encR (v : Int) s).1.length ≤ 4611686018427387904 := by
    by_cases hE : (encR (v : Int) s).2 = 0
    · obtain ⟨h1, h2, _⟩ := encR_ok hE
      rw [h1]; exact Nat.le_trans (encS_len h2) (by decide)
    · rw [encR_bad hE]; decide
  have HE := Lib.hid (fun (W : World) (hW : Below w.heap.size w W) => encode_state s (v : Int) p1 p2 p3 c1 c2 c3 W ((hm.below hW).more hW.size) hz (hT.below hW))
  have HF := Lib.hid (fun (W : World) (hW : Below w.heap.size w W) => wframe_any s (v : Int) p1 p2 p3 c1 c2 c3 W ((hm.below hW).more hW.size) hz (hT.below hW) hlen (by omega) (by omega))
  have HT := Lib.hid hT
  have HVV := Lib.hid hvv
  clear hT hm hz hk n1 n2 hlen hvv
  by_cases hE : (encR (v : Int) s).2 = 0
  · obtain ⟨h1, h2, h3, _⟩ := encR_ok hE
    have hl := encS_len h2
    have hf : sfrR (v : Int) s = encF (v : Int) 1 (encS (v : Int) s) := by unfold sfrR; rw [h1, if_neg (by simp)]
    have he := HE.out
    have hfr := HF.out
    rw [h1] at he
    rw [hf] at hfr
    have HE2 := Lib.hid he
    have hg : goodF (v : Int) 1 := ⟨by omega, by omega, by decide, by decide⟩
    generalize encS (v : Int) s = out at *
    have hsz : (bstr out).size = out.length := bstr_size out
    clear h1 h2 h3 hE HE HF he hf
    by_cases h6 : 6000 < out.length
    · have hff : encF (v : Int) 1 out = ([], 2) := by unfold encF; rw [if_pos hg, if_pos h6]
      rw [hff] at hfr
      have HF2 := Lib.hid hfr
      have hi6 : (6000 : Int) < (out.length : Int) := by omega
      have HG : Hid (goodF (v : Int) 1) := Lib.hid hg
      clear hff hfr hg
      go_enter Tryd.func7, Tryd.ntmps7
      go_wp2_with fail
      generalize w.alloc _ = W0 at *
      refine (wired_any W0 (HT.out.below hb0)).mono ?_
      rintro e w1 ⟨rfl, hb1⟩
      have hB1 := hb0.trans (hb1.mono hb0.size)
      have bx1 := bx0.below hb1 bx0.lt
      clear hb1 hb0 bx0
      go_wp2_with fail
      refine (HR.out w1).mono ?_
      rintro e w' ⟨rfl, rfl⟩
      have e0 : w1.cell? ⟨w.heap.size, 0, none⟩ = some (.int .i64 s.rev) := bx1.cell 0
      have e1 : w1.cell? ⟨w.heap.size, 1, none⟩ = some (.slice p1 s.jobs.length c1) := bx1.cell 1
      have e2 : w1.cell? ⟨w.heap.size, 2, none⟩ = some (.slice p2 s.nodes.length c2) := bx1.cell 2
      have e3 : w1.cell? ⟨w.heap.size, 3, none⟩ = some (.slice p3 s.leases.length c3) := bx1.cell 3
      go_wp2_with fail
      refine (HF2.out w1 hB1).mono ?_
      rintro e w2 ⟨rfl, hb2⟩
      have hB2 := hB1.trans (hb2.mono hB1.size)
      have bx2 := bx1.below hb2 bx1.lt
      clear e0 e1 e2 e3 hb2 hB1 bx1
      have e0 : w2.cell? ⟨w.heap.size, 0, none⟩ = some (.int .i64 s.rev) := bx2.cell 0
      have e1 : w2.cell? ⟨w.heap.size, 1, none⟩ = some (.slice p1 s.jobs.length c1) := bx2.cell 1
      have e2 : w2.cell? ⟨w.heap.size, 2, none⟩ = some (.slice p2 s.nodes.length c2) := bx2.cell 2
      have e3 : w2.cell? ⟨w.heap.size, 3, none⟩ = some (.slice p3 s.leases.length c3) := bx2.cell 3
      go_wp2_with fail
      refine (HE2.out w2 hB2).mono ?_
      rintro e w3 ⟨rfl, hb3⟩
      have hB3 := hB2.trans (hb3.mono hB2.size)
      clear e0 e1 e2 e3 hb3 hB2 bx2
      go_wp2_with fail
      go_ret
      exact ⟨rfl, hB3⟩
    · have hff : encF (v : Int) 1 out = (wireF v 1 out, 0) := by unfold encF; rw [if_pos hg, if_neg h6]; rfl
      rw [hff] at hfr
      have HF2 := Lib.hid hfr
      have hD := fun (W : World) => decode_wire v 1 out [] hv (by decide) (by omega) (bstr (wireF v 1 out)) (by rw [bstr_list, List.append_nil]) (by rw [bstr_size, wireF_length]; have := putN_len10 out.length (by omega); omega) W
      have HD := Lib.hid hD
      have hsw : (bstr (wireF v 1 out)).size = (wireF v 1 out).length := bstr_size _
      generalize wireF v 1 out = fr at *
      have HG : Hid (goodF (v : Int) 1) := Lib.hid hg
      clear hff hfr hg hD
      go_enter Tryd.func7, Tryd.ntmps7
      go_wp2_with fail
      generalize w.alloc _ = W0 at *
      refine (wired_any W0 (HT.out.below hb0)).mono ?_
      rintro e w1 ⟨rfl, hb1⟩
      have hB1 := hb0.trans (hb1.mono hb0.size)
      have bx1 := bx0.below hb1 bx0.lt
      clear hb1 hb0 bx0
      go_wp2_with fail
      refine (HR.out w1).mono ?_
      rintro e w' ⟨rfl, rfl⟩
      have e0 : w1.cell? ⟨w.heap.size, 0, none⟩ = some (.int .i64 s.rev) := bx1.cell 0
      have e1 : w1.cell? ⟨w.heap.size, 1, none⟩ = some (.slice p1 s.jobs.length c1) := bx1.cell 1
      have e2 : w1.cell? ⟨w.heap.size, 2, none⟩ = some (.slice p2 s.nodes.length c2) := bx1.cell 2
      have e3 : w1.cell? ⟨w.heap.size, 3, none⟩ = some (.slice p3 s.leases.length c3) := bx1.cell 3
      go_wp2_with fail
      refine (HF2.out w1 hB1).mono ?_
      rintro e w2 ⟨rfl, hb2⟩
      have hB2 := hB1.trans (hb2.mono hB1.size)
      have bx2 := bx1.below hb2 bx1.lt
      clear e0 e1 e2 e3 hb2 hB1 bx1
      have e0 : w2.cell? ⟨w.heap.size, 0, none⟩ = some (.int .i64 s.rev) := bx2.cell 0
      have e1 : w2.cell? ⟨w.heap.size, 1, none⟩ = some (.slice p1 s.jobs.length c1) := bx2.cell 1
      have e2 : w2.cell? ⟨w.heap.size, 2, none⟩ = some (.slice p2 s.nodes.length c2) := bx2.cell 2
      have e3 : w2.cell? ⟨w.heap.size, 3, none⟩ = some (.slice p3 s.leases.length c3) := bx2.cell 3
      go_wp2_with fail
      refine (HE2.out w2 hB2).mono ?_
      rintro e w3 ⟨rfl, hb3⟩
      have hB3 := hB2.trans (hb3.mono hB2.size)
      clear e0 e1 e2 e3 hb3 hB2 bx2
      go_wp2_with fail
      refine (HD.out w3).mono ?_
      rintro e w4 ⟨rfl, hb4⟩
      have hB4 := hB3.trans (hb4.mono hB3.size)
      have hB5 := hB4.alloc hB4.size (.cells #[.int .i64 (v : Int), .int .i64 ((1 : Nat) : Int), .string (bstr out)] 40)
      have b5 := Blk.new w4 40 #[.int .i64 (v : Int), .int .i64 ((1 : Nat) : Int), .string (bstr out)]
      go_wp2_with (first
        | (refine wpList_store_new rfl _ _ _ rfl rfl 40 _ #[.int .i64 (v : Int), .int .i64 ((1 : Nat) : Int), .string (bstr out)] rfl frame_size3 rfl (frA_one _ _ _) ?_)
        | (refine wpList_load_blk rfl _ _ rfl w4.heap.size rfl _ #[.int .i64 (v : Int), .int .i64 ((1 : Nat) : Int), .string (bstr out)] b5 _ Tryd.underlying40 rfl frame_size3 ?_))
      go_ret
      exact ⟨rfl, hB5⟩
  · have hf : sfrR (v : Int) s = ([], (encR (v : Int) s).2) := by unfold sfrR; rw [if_pos hE]
    have hfr := HF.out
    have hne : (((encR (v : Int) s).2 : Int) != 0) = true := by rw [bne_iff_ne]; omega
    rw [hf] at hfr
    have HF2 := Lib.hid hfr
    have HE2 := Lib.hid HE.out
    generalize encR (v : Int) s = ee at *
    clear hE HE HF hf hfr
    go_enter Tryd.func7, Tryd.ntmps7
    go_wp2_with fail
    generalize w.alloc _ = W0 at *
    refine (wired_any W0 (HT.out.below hb0)).mono ?_
    rintro e w1 ⟨rfl, hb1⟩
    have hB1 := hb0.trans (hb1.mono hb0.size)
    have bx1 := bx0.below hb1 bx0.lt
    clear hb1 hb0 bx0
    go_wp2_with fail
    refine (HR.out w1).mono ?_
    rintro e w' ⟨rfl, rfl⟩
    have e0 : w1.cell? ⟨w.heap.size, 0, none⟩ = some (.int .i64 s.rev) := bx1.cell 0
    have e1 : w1.cell? ⟨w.heap.size, 1, none⟩ = some (.slice p1 s.jobs.length c1) := bx1.cell 1
    have e2 : w1.cell? ⟨w.heap.size, 2, none⟩ = some (.slice p2 s.nodes.length c2) := bx1.cell 2
    have e3 : w1.cell? ⟨w.heap.size, 3, none⟩ = some (.slice p3 s.leases.length c3) := bx1.cell 3
    go_wp2_with fail
    refine (HF2.out w1 hB1).mono ?_
    rintro e w2 ⟨rfl, hb2⟩
    have hB2 := hB1.trans (hb2.mono hB1.size)
    have bx2 := bx1.below hb2 bx1.lt
    clear e0 e1 e2 e3 hb2 hB1 bx1
    have e0 : w2.cell? ⟨w.heap.size, 0, none⟩ = some (.int .i64 s.rev) := bx2.cell 0
    have e1 : w2.cell? ⟨w.heap.size, 1, none⟩ = some (.slice p1 s.jobs.length c1) := bx2.cell 1
    have e2 : w2.cell? ⟨w.heap.size, 2, none⟩ = some (.slice p2 s.nodes.length c2) := bx2.cell 2
    have e3 : w2.cell? ⟨w.heap.size, 3, none⟩ = some (.slice p3 s.leases.length c3) := bx2.cell 3
    go_wp2_with fail
    refine (HE2.out w2 hB2).mono ?_
    rintro e w3 ⟨rfl, hb3⟩
    have hB3 := hB2.trans (hb3.mono hB2.size)
    clear e0 e1 e2 e3 hb3 hB2 bx2
    go_wp2_with fail
    go_ret
    exact ⟨rfl, hB3⟩

theorem own : ownKnob Tryd.prog.godebug = none := by kernel_rfl
theorem laid : laidOutB Tryd.prog = true := by kernel_rfl
set_option maxRecDepth 100000 in
theorem contract (H : Type) (enc : TypeId × Value → H) (W : World) (base : Nat) (args : Array Value) (ds gs : List (DataW H)) (before : List MemPlace)
    (hval0 : ∀ (j : Nat) t v, Tryd.f7.params[j]? = some t → args[j]? = some v → Value.okWide Tryd.prog W .any base t v)
    (hW : DataW.Whole enc Tryd.prog Tryd.f7.params.toList Rows.wireFramedSpec.vars false W args.toList ds gs before)
    (hsz0 : (DataW.weightsEach Tryd.prog (Tryd.f7.params.toList ++ Rows.wireFramedSpec.plain.varTypes Tryd.prog) (ds ++ gs)).all (· ≤ reachBytes) = true)
    (hT : Tabs W) :
    Calls Tryd.prog 7 args W fun e W' => ∃ v, e = .returned v ∧ Rows.wireFramedSpec.post enc Tryd.prog Tryd.f7 false true false false W args v W' := by
  have hval : ∀ (j : Nat) t v, Tryd.f7.params[j]? = some t → args[j]? = some v → Value.okWide Tryd.prog W .any base t v := hval0
  have hsz : (DataW.weightsEach Tryd.prog (Tryd.f7.params.toList ++ Rows.wireFramedSpec.plain.varTypes Tryd.prog) (ds ++ gs)).all (· ≤ reachBytes) = true := hsz0
  have hlt : ∀ x ∈ before, x.block < W.heap.size := fun x hx => hW.lt x hx
  have hW' := hW
  obtain ⟨p, q, hA0, hV, rfl, hfz, hnd⟩ := hW
  have hA : DataW.TrodAll enc Tryd.prog W 0 (fun _ => true) true Tryd.f7.params.toList args.toList ds p := hA0
  rw [Tryd.params7] at hA hval hsz
  obtain ⟨v0, vs0, d0, ds0, p0, q0, hargs, rfl, rfl, h0, r0⟩ := trodAll_cons hA
  obtain ⟨v1, vs1, d1, ds1, p1, q1, rfl, rfl, rfl, h1, r1⟩ := trodAll_cons r0
  obtain ⟨rfl, rfl, rfl⟩ := trodAll_nil r1
  obtain rfl : args = #[v0, v1] := by cases args; simp_all
  obtain ⟨rfl, rfl⟩ := trodVars_none hV
  obtain ⟨s0, pj0, pn0, pl0, cj0, cn0, cl0, rfl, hm0, hk0⟩ := open_state (hval 0 26 v0 rfl rfl) h0 hsz (j := 0) rfl rfl
  obtain ⟨a1, rfl, rfl, rfl, w1⟩ := open_int Tryd.underlying3 (hval 1 3 v1 rfl rfl) h1
  have b1 := bounds_i64 w1
  refine (walk s0 pj0 pn0 pl0 cj0 cn0 cl0 W hm0 hk0 a1 b1.1 b1.2 hT).mono fun e W' ⟨he, hb⟩ => ?_
  subst he
  exact ⟨_, rfl, law_post laid (by kernel_rfl) Tryd.underlying4 rfl rfl hW' rfl rfl rfl rfl hb⟩

theorem reads (os : Os) {H : Type} (enc : TypeId × Value → H) : ∃ places, DataW.whole enc Tryd.prog ((laidWorld os).forCall (fun _ _ => 0) ⟨#[], #[.agg #[.int .i64 0, .slice none 0 0, .slice none 0 0, .slice none 0 0], .int .i64 0], []⟩).memory Tryd.f7.params.toList Rows.wireFramedSpec.vars false (#[.agg #[.int .i64 0, .slice none 0 0, .slice none 0 0, .slice none 0 0], .int .i64 0] : Array Value).toList 8 = some ([.agg [.lit (.int .i64 0), .nil, .nil, .nil], .lit (.int .i64 0)], [], places) :=
  ⟨[], by kernel_rfl⟩
set_option maxRecDepth 100000 in
theorem lifted (os : Os) (started : os.Started) (H : Type) (enc : TypeId × Value → H) (F : Stop.Interp) :
    ReturnsInHanded {} Tryd.checked os 7 .any ((OpenSpec.ofChange Rows.wireFramedSpec).preRow enc Tryd.prog Tryd.f7 Rows.wireFramedRow.domain false Rows.wireFramedRow.laid) (((OpenSpec.ofChange Rows.wireFramedSpec).at F).post enc Tryd.prog Tryd.f7 false true false false) := by
  obtain ⟨places, hx⟩ := reads os enc
  refine returnsInHanded_of_row (C := Tryd.checked) (s := (OpenSpec.ofChange Rows.wireFramedSpec)) own started (by kernel_rfl) Tryd.func7
    (witness_row_atRef (enc := enc) (C := Tryd.checked) false (laidWorld os) #[.agg #[.int .i64 0, .slice none 0 0, .slice none 0 0, .slice none 0 0], .int .i64 0] rfl (by kernel_rfl) (by kernel_rfl) (by kernel_rfl)
      (OpenSpec.preRow_of_cond 8 hx (by kernel_rfl) (fun k hk => by cases hk) (by kernel_rfl) (laid_met os _))) ?_
  intro W base args ds gs before hval0 hW _ hcond hsz0 hL _ _
  exact contract H enc W base args ds gs before hval0 hW hsz0 (tabs_of_laid hL)

theorem said : Rows.WireFramedSaid :=
  OpenClaim.holds_of_cond 7 Tryd.f7 rfl rfl rfl rfl rfl rfl rfl ⟨rfl, rfl, rfl, rfl, rfl⟩ rfl rfl rfl rfl rfl (by kernel_rfl) Tryd.func7 (by kernel_rfl)
    (of_decide_eq_true (by kernel_rfl)) (by unfold Func.isWrapper; first | (rw [if_pos (by decide +kernel)]; kernel_rfl) | (rw [if_neg (by decide +kernel)]; exact ⟨rfl, rfl⟩))
    (fun os started H enc _ F => by rw [OpenClaim.pre_eq_preRow]; exact lifted os started H enc F)

/-- No parameter wants a stand-in; the program's own looks are off. -/
theorem plain (f : FuncId) (fn : Func) (hf : Tryd.pinned.checked.prog.funcNamed "bracken/brackenkeep.WireFramed" = some f) (hfn : Tryd.pinned.checked.prog.funcs[f]? = some fn) :
    false = Tryd.pinned.checked.prog.looks [] ∧ ∀ (j : Nat) t, fn.params[j]? = some t → Tryd.pinned.checked.prog.wantsStandIn t = false := by
  obtain rfl : f = 7 := Option.some.inj ((show Tryd.prog.funcNamed "bracken/brackenkeep.WireFramed" = some 7 by kernel_rfl).symm.trans hf) |>.symm
  obtain rfl : fn = Tryd.f7 := (Option.some.inj (Tryd.func7.symm.trans hfn)).symm
  refine ⟨by kernel_rfl, fun j t ht => ?_⟩
  rw [Tryd.params7] at ht
  have hm := Array.mem_of_getElem? ht
  have hall : (#[26, 3] : Array TypeId).all (fun t => !Tryd.prog.wantsStandIn t) = true := by kernel_rfl
  have := Array.all_eq_true_iff_forall_mem.1 hall t (by simpa using hm)
  show Tryd.prog.wantsStandIn t = false
  simpa using this

/-- The statement. -/
theorem proved : Rows.WireFramedCardSaid :=
  Claim7.holds_tied_plain_at .later [] _ _ _ _ said (fun _ h => by cases h) (by kernel_rfl) (fun _ h => by cases h) wireFramed_row_tie rfl ⟨rfl, rfl⟩ (by kernel_rfl) rfl plain (by kernel_rfl)
#print axioms proved
end Go.Proofs.YtejdhcipmkaboaaDoor.wireFramed
