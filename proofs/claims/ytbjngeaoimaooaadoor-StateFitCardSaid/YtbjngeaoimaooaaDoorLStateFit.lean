/-
  The law StateFit of package brackenkeep: for every input it answers true.
-/
import Derived.Test.YtbjngeaoimaooaaDoorRows
import Derived.Test.YtbjngeaoimaooaaDoorBase
import Derived.Test.YtbjngeaoimaooaaDoorLaid
import Derived.Test.YtbjngeaoimaooaaDoorFitsW
import Derived.Test.YtbjngeaoimaooaaDoorSampleW
import Derived.Test.YtbjngeaoimaooaaDoorStOpen
set_option linter.unusedVariables false
set_option linter.unusedSimpArgs false
namespace Go.Proofs.YtbjngeaoimaooaaDoor.stateFit
open Go.ChangeShapes Go.WideShapes Go.ChangeAt Go.RowKit Go.Joins
open Go.ChangeMaps (open_string)
theorem fit_mono (s : St) : (fitsB s 1 = true → fitsB s 2 = true) ∧ (fitsB s 2 = true → fitsB s 3 = true) := by
  unfold fitsB
  simp only [Bool.and_eq_true, List.all_eq_true, fitR, fitJ, fitN]
  constructor
  · intro ⟨⟨h1, h2⟩, h3⟩
    refine ⟨⟨?_, fun x hx => ?_⟩, fun x hx => by simp⟩
    · simpa using h1
    · have := h2 x hx
      simp at this ⊢
      exact this.1
  · intro _
    exact ⟨⟨by simp, fun x hx => by simp⟩, fun x hx => by simp⟩
theorem fit_three (s : St) : fitsB s 3 = true := by
  unfold fitsB
  simp [fitR, fitJ, fitN]
set_option maxHeartbeats 4000000 in
set_option maxRecDepth 100000 in
theorem walk (s : St) (p1 p2 p3 : Option Addr) (c1 c2 c3 : Nat) (w : World) (hm : StM w w.heap.size p1 p2 p3 s) (hk : StOk s) (hT : Tabs w) :
    Calls Tryd.prog 8 #[.agg #[.int .i64 s.rev, .slice p1 s.jobs.length c1, .slice p2 s.nodes.length c2, .slice p3 s.leases.length c3]] w fun e w' => e = .returned (.bool true) ∧ Below w.heap.size w w' := by
  have hb0 : Below w.heap.size w (w.alloc (.cells #[Value.int .i64 s.rev, Value.slice p1 s.jobs.length c1, Value.slice p2 s.nodes.length c2, Value.slice p3 s.leases.length c3] 33)) := (Below.refl _ _).alloc (Nat.le_refl _) _
  have bx0 := Blk.new w 33 #[Value.int .i64 s.rev, Value.slice p1 s.jobs.length c1, Value.slice p2 s.nodes.length c2, Value.slice p3 s.leases.length c3]
  have hz := hk.sz
  have hF := fun (v : Int) (W : World) (hW : Below w.heap.size w W) => stFits_any s v p1 p2 p3 c1 c2 c3 W ((hm.below hW).more hW.size) hz (hT.below hW)
  have hC := fun (W : World) (hW : Below w.heap.size w W) => stCheck_any s p1 p2 p3 c1 c2 c3 W ((hm.below hW).more hW.size) hz (hT.below hW)
  have hx0 : (w.alloc (.cells #[Value.int .i64 s.rev, Value.slice p1 s.jobs.length c1, Value.slice p2 s.nodes.length c2, Value.slice p3 s.leases.length c3] 33)).heap.size = w.heap.size + 1 := by simp
  by_cases h0 : checkE s = 0
  · have hR : ∀ v : Int, 1 ≤ v ∧ v ≤ 3 → fitsR s v = (fitsB s v, 0) := fun v hv => by unfold fitsR; rw [if_neg (by rw [h0]; simp), withinB_iff.2 hv]; rfl
    have HR := Lib.hid hR
    have HF := Lib.hid hF
    have HM := Lib.hid (fit_mono s)
    have H3 := Lib.hid (fit_three s)
    obtain ⟨was, hwas⟩ : ∃ was : Nat → Bool, was = fun k : Nat => if k = 1 then false else fitsB s ((k : Int) - 1) := ⟨_, rfl⟩
    have HW := Lib.hid hwas
    clear hR hF h0 hm hk hz hC hx0 hwas
    go_enter Tryd.func8, Tryd.ntmps8
    go_wp2_with fail
    refine (stated_any _ (hT.below hb0)).mono ?_
    rintro e w1 ⟨rfl, hb1⟩
    have hB1 := hb0.trans (hb1.mono hb0.size)
    have bx1 := bx0.below hb1 bx0.lt
    clear hb1
    go_wp2_with fail
    go_loopw [3, 4] (fun b v wr => ∃ k : Nat, 1 ≤ k ∧ k ≤ 4 ∧ v = .int .i64 k ∧ b = .bool (was k) ∧ Below w1.heap.size w1 wr) (fun _ v _ => 4 - (intOf v).toNat)
    case atStart => exact ⟨1, by omega, by omega, rfl, by rw [HW.out]; rfl, Below.refl _ _⟩
    case round =>
      obtain ⟨k, hk1, hk4, rfl, rfl, hbr⟩ := hrel
      have hB2 := hB1.trans (hbr.mono hB1.size)
      have bxr := bx1.below hbr bx1.lt
      have e0 : wr.cell? ⟨w.heap.size, 0, none⟩ = some (.int .i64 s.rev) := bxr.cell 0
      have e1 : wr.cell? ⟨w.heap.size, 1, none⟩ = some (.slice p1 s.jobs.length c1) := bxr.cell 1
      have e2 : wr.cell? ⟨w.heap.size, 2, none⟩ = some (.slice p2 s.nodes.length c2) := bxr.cell 2
      have e3 : wr.cell? ⟨w.heap.size, 3, none⟩ = some (.slice p3 s.leases.length c3) := bxr.cell 3
      by_cases hk3 : k ≤ 3
      · have hf := HF.out (k : Int) wr hB2
        rw [HR.out (k : Int) (by omega)] at hf
        have hnext : was (k + 1) = fitsB s (k : Int) := by
          rw [HW.out]
          show (if k + 1 = 1 then false else fitsB s (((k + 1 : Nat) : Int) - 1)) = _
          rw [if_neg (by omega)]
          congr 1; omega
        have himp : was k = true → fitsB s (k : Int) = true := by
          intro h
          rw [HW.out] at h
          obtain rfl | rfl | rfl : k = 1 ∨ k = 2 ∨ k = 3 := by omega
          · cases h
          · exact HM.out.1 h
          · exact H3.out
        have HN := Lib.hid hnext
        generalize fitsB s (k : Int) = is at *
        generalize was k = wk at *
        have HFF := Lib.hid hf
        clear hf hnext
        cases wk
        all_goals cases is
        all_goals first | (have h9 := himp rfl; cases h9; done) | skip
        all_goals
          clear himp
          go_wp2_with fail
          refine HFF.out.mono ?_
          rintro e w2 ⟨rfl, hb2⟩
          go_wp2_with fail
          go_roundw
          case rel => exact ⟨k + 1, by omega, by omega, by go_num, by rw [HN.out], hbr.trans (hb2.mono hbr.size)⟩
          case measure => simp [intOf]; omega
      · obtain rfl : k = 4 := by omega
        have hw4 : was 4 = true := by rw [HW.out]; exact H3.out
        rw [hw4]
        clear hw4
        go_wp2_with fail
        go_ret
        exact ⟨rfl, hB2⟩
  · have hR : fitsR s 1 = (false, checkE s) := by unfold fitsR; rw [if_pos h0]
    have hf := hF 1
    rw [hR] at hf
    have hne : ((checkE s : Int) != 0) = true := by rw [bne_iff_ne]; omega
    have HF := Lib.hid hf
    have HC := Lib.hid hC
    clear hF hR hf hC h0 hm hk hz
    go_enter Tryd.func8, Tryd.ntmps8
    go_wp2_with fail
    refine (stated_any _ (hT.below hb0)).mono ?_
    rintro e w1 ⟨rfl, hb1⟩
    have hB1 := hb0.trans (hb1.mono hb0.size)
    have bx1 := bx0.below hb1 bx0.lt
    clear hb1
    go_wp2_with fail
    go_loopw [3, 4] (fun b v wr => v = .int .i64 1 ∧ b = .bool false ∧ Below w1.heap.size w1 wr) (fun _ v _ => 4 - (intOf v).toNat)
    case atStart => exact ⟨rfl, rfl, Below.refl _ _⟩
    case round =>
      obtain ⟨rfl, rfl, hbr⟩ := hrel
      have hB2 := hB1.trans (hbr.mono hB1.size)
      have bxr := bx1.below hbr bx1.lt
      have e0 : wr.cell? ⟨w.heap.size, 0, none⟩ = some (.int .i64 s.rev) := bxr.cell 0
      have e1 : wr.cell? ⟨w.heap.size, 1, none⟩ = some (.slice p1 s.jobs.length c1) := bxr.cell 1
      have e2 : wr.cell? ⟨w.heap.size, 2, none⟩ = some (.slice p2 s.nodes.length c2) := bxr.cell 2
      have e3 : wr.cell? ⟨w.heap.size, 3, none⟩ = some (.slice p3 s.leases.length c3) := bxr.cell 3
      go_wp2_with fail
      refine (HF.out wr hB2).mono ?_
      rintro e w2 ⟨rfl, hb2⟩
      have hB3 := hB2.trans (hb2.mono hB2.size)
      have bx2 := bxr.below hb2 bxr.lt
      have f0 : w2.cell? ⟨w.heap.size, 0, none⟩ = some (.int .i64 s.rev) := bx2.cell 0
      have f1 : w2.cell? ⟨w.heap.size, 1, none⟩ = some (.slice p1 s.jobs.length c1) := bx2.cell 1
      have f2 : w2.cell? ⟨w.heap.size, 2, none⟩ = some (.slice p2 s.nodes.length c2) := bx2.cell 2
      have f3 : w2.cell? ⟨w.heap.size, 3, none⟩ = some (.slice p3 s.leases.length c3) := bx2.cell 3
      go_wp2_with fail
      refine (HC.out w2 hB3).mono ?_
      rintro e w4 ⟨rfl, hb4⟩
      go_wp2_with fail
      go_ret
      exact ⟨rfl, hB3.trans (hb4.mono hB3.size)⟩

theorem own : ownKnob Tryd.prog.godebug = none := by kernel_rfl
theorem laid : laidOutB Tryd.prog = true := by kernel_rfl
set_option maxRecDepth 100000 in
theorem contract (H : Type) (enc : TypeId × Value → H) (W : World) (base : Nat) (args : Array Value) (ds gs : List (DataW H)) (before : List MemPlace)
    (hval0 : ∀ (j : Nat) t v, Tryd.f8.params[j]? = some t → args[j]? = some v → Value.okWide Tryd.prog W .any base t v)
    (hW : DataW.Whole enc Tryd.prog Tryd.f8.params.toList Rows.stateFitSpec.vars false W args.toList ds gs before)
    (hsz0 : (DataW.weightsEach Tryd.prog (Tryd.f8.params.toList ++ Rows.stateFitSpec.plain.varTypes Tryd.prog) (ds ++ gs)).all (· ≤ reachBytes) = true)
    (hT : Tabs W) :
    Calls Tryd.prog 8 args W fun e W' => ∃ v, e = .returned v ∧ Rows.stateFitSpec.post enc Tryd.prog Tryd.f8 false true false false W args v W' := by
  have hval : ∀ (j : Nat) t v, Tryd.f8.params[j]? = some t → args[j]? = some v → Value.okWide Tryd.prog W .any base t v := hval0
  have hsz : (DataW.weightsEach Tryd.prog (Tryd.f8.params.toList ++ Rows.stateFitSpec.plain.varTypes Tryd.prog) (ds ++ gs)).all (· ≤ reachBytes) = true := hsz0
  have hlt : ∀ x ∈ before, x.block < W.heap.size := fun x hx => hW.lt x hx
  have hW' := hW
  obtain ⟨p, q, hA0, hV, rfl, hfz, hnd⟩ := hW
  have hA : DataW.TrodAll enc Tryd.prog W 0 (fun _ => true) true Tryd.f8.params.toList args.toList ds p := hA0
  rw [Tryd.params8] at hA hval hsz
  obtain ⟨v0, vs0, d0, ds0, p0, q0, hargs, rfl, rfl, h0, r0⟩ := trodAll_cons hA
  obtain ⟨rfl, rfl, rfl⟩ := trodAll_nil r0
  obtain rfl : args = #[v0] := by cases args; simp_all
  obtain ⟨rfl, rfl⟩ := trodVars_none hV
  obtain ⟨s0, pj0, pn0, pl0, cj0, cn0, cl0, rfl, hm0, hk0⟩ := open_state (hval 0 33 v0 rfl rfl) h0 hsz (j := 0) rfl rfl
  refine (walk s0 pj0 pn0 pl0 cj0 cn0 cl0 W hm0 hk0 hT).mono fun e W' ⟨he, hb⟩ => ?_
  subst he
  exact ⟨_, rfl, law_post laid (by kernel_rfl) Tryd.underlying4 rfl rfl hW' rfl rfl rfl rfl hb⟩

theorem reads (os : Os) {H : Type} (enc : TypeId × Value → H) : ∃ places, DataW.whole enc Tryd.prog ((laidWorld os).forCall (fun _ _ => 0) ⟨#[], #[.agg #[.int .i64 0, .slice none 0 0, .slice none 0 0, .slice none 0 0]], []⟩).memory Tryd.f8.params.toList Rows.stateFitSpec.vars false (#[.agg #[.int .i64 0, .slice none 0 0, .slice none 0 0, .slice none 0 0]] : Array Value).toList 8 = some ([.agg [.lit (.int .i64 0), .nil, .nil, .nil]], [], places) :=
  ⟨[], by kernel_rfl⟩
set_option maxRecDepth 100000 in
theorem lifted (os : Os) (started : os.Started) (H : Type) (enc : TypeId × Value → H) (F : Stop.Interp) :
    ReturnsInHanded {} Tryd.checked os 8 .any ((OpenSpec.ofChange Rows.stateFitSpec).preRow enc Tryd.prog Tryd.f8 Rows.stateFitRow.domain false Rows.stateFitRow.laid) (((OpenSpec.ofChange Rows.stateFitSpec).at F).post enc Tryd.prog Tryd.f8 false true false false) := by
  obtain ⟨places, hx⟩ := reads os enc
  refine returnsInHanded_of_row (C := Tryd.checked) (s := (OpenSpec.ofChange Rows.stateFitSpec)) own started (by kernel_rfl) Tryd.func8
    (witness_row_atRef (enc := enc) (C := Tryd.checked) false (laidWorld os) #[.agg #[.int .i64 0, .slice none 0 0, .slice none 0 0, .slice none 0 0]] rfl (by kernel_rfl) (by kernel_rfl) (by kernel_rfl)
      (OpenSpec.preRow_of_cond 8 hx (by kernel_rfl) (fun k hk => by cases hk) (by kernel_rfl) (laid_met os _))) ?_
  intro W base args ds gs before hval0 hW _ hcond hsz0 hL _ _
  exact contract H enc W base args ds gs before hval0 hW hsz0 (tabs_of_laid hL)

theorem said : Rows.StateFitSaid :=
  OpenClaim.holds_of_cond 8 Tryd.f8 rfl rfl rfl rfl rfl rfl rfl ⟨rfl, rfl, rfl, rfl, rfl⟩ rfl rfl rfl rfl rfl (by kernel_rfl) Tryd.func8 (by kernel_rfl)
    (of_decide_eq_true (by kernel_rfl)) (by unfold Func.isWrapper; first | (rw [if_pos (by decide +kernel)]; kernel_rfl) | (rw [if_neg (by decide +kernel)]; exact ⟨rfl, rfl⟩))
    (fun os started H enc _ F => by rw [OpenClaim.pre_eq_preRow]; exact lifted os started H enc F)

/-- No parameter wants a stand-in; the program's own looks are off. -/
theorem plain (f : FuncId) (fn : Func) (hf : Tryd.pinned.checked.prog.funcNamed "bracken/brackenkeep.StateFit" = some f) (hfn : Tryd.pinned.checked.prog.funcs[f]? = some fn) :
    false = Tryd.pinned.checked.prog.looks [] ∧ ∀ (j : Nat) t, fn.params[j]? = some t → Tryd.pinned.checked.prog.wantsStandIn t = false := by
  obtain rfl : f = 8 := Option.some.inj ((show Tryd.prog.funcNamed "bracken/brackenkeep.StateFit" = some 8 by kernel_rfl).symm.trans hf) |>.symm
  obtain rfl : fn = Tryd.f8 := (Option.some.inj (Tryd.func8.symm.trans hfn)).symm
  refine ⟨by kernel_rfl, fun j t ht => ?_⟩
  rw [Tryd.params8] at ht
  have hm := Array.mem_of_getElem? ht
  have hall : (#[33] : Array TypeId).all (fun t => !Tryd.prog.wantsStandIn t) = true := by kernel_rfl
  have := Array.all_eq_true_iff_forall_mem.1 hall t (by simpa using hm)
  show Tryd.prog.wantsStandIn t = false
  simpa using this

/-- The statement. -/
theorem proved : Rows.StateFitCardSaid :=
  Claim7.holds_tied_plain_at .later [] _ _ _ _ said (fun _ h => by cases h) (by kernel_rfl) (fun _ h => by cases h) stateFit_row_tie rfl ⟨rfl, rfl⟩ (by kernel_rfl) rfl plain (by kernel_rfl)
#print axioms proved
end Go.Proofs.YtbjngeaoimaooaaDoor.stateFit
