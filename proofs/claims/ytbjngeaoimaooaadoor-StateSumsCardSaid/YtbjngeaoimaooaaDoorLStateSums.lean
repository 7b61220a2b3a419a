/-
  The law StateSums of package brackenkeep: for every input it answers true.
-/
import Derived.Test.YtbjngeaoimaooaaDoorRows
import Derived.Test.YtbjngeaoimaooaaDoorBase
import Derived.Test.YtbjngeaoimaooaaDoorLaid
import Derived.Test.YtbjngeaoimaooaaDoorAtL
import Derived.Test.YtbjngeaoimaooaaDoorSumsL
import Derived.Test.YtbjngeaoimaooaaDoorSampleW
import Derived.Test.YtbjngeaoimaooaaDoorStOpen
set_option linter.unusedVariables false
set_option linter.unusedSimpArgs false
namespace Go.Proofs.YtbjngeaoimaooaaDoor.stateSums
open Go.ChangeShapes Go.WideShapes Go.ChangeAt Go.RowKit Go.Joins
open Go.ChangeMaps (open_string)
set_option maxHeartbeats 4000000 in
set_option maxRecDepth 100000 in
theorem walk (s : St) (p1 p2 p3 : Option Addr) (c1 c2 c3 : Nat) (w : World) (hm : StM w w.heap.size p1 p2 p3 s) (hk : StOk s) (hT : Tabs w) :
    Calls Tryd.prog 5 #[.agg #[.int .i64 s.rev, .slice p1 s.jobs.length c1, .slice p2 s.nodes.length c2, .slice p3 s.leases.length c3]] w fun e w' => e = .returned (.bool true) ∧ Below w.heap.size w w' := by
  have hb0 : Below w.heap.size w (w.alloc (.cells #[Value.int .i64 s.rev, Value.slice p1 s.jobs.length c1, Value.slice p2 s.nodes.length c2, Value.slice p3 s.leases.length c3] 33)) := (Below.refl _ _).alloc (Nat.le_refl _) _
  have bx0 := Blk.new w 33 #[Value.int .i64 s.rev, Value.slice p1 s.jobs.length c1, Value.slice p2 s.nodes.length c2, Value.slice p3 s.leases.length c3]
  have hz := hk.sz
  have hU := fun (nm : ByteArray) (W : World) (hW : Below w.heap.size w W) => stUsed_any s nm p1 p2 p3 c1 c2 c3 W ((hm.below hW).more hW.size) hz (hT.below hW)
  have hC := fun (W : World) (hW : Below w.heap.size w W) => stCheck_any s p1 p2 p3 c1 c2 c3 W ((hm.below hW).more hW.size) hz (hT.below hW)
  have hL := fun (nm : ByteArray) (W : World) (hW : Below w.heap.size w W) => atL_any p3 c3 s.leases nm W ((hm.l.below hW).more hW.size) (by have := hk.ll; omega)
  have hmj := hm.j
  have hmn := hm.n
  have hlj := hk.lj
  have hln := hk.ln
  by_cases h0 : checkE s = 0
  · have hf := (fine_iff s).1 h0
    have hR : ∀ n ∈ s.nodes, usedR s n.name = (usedBy s.jobs n.name s.leases, 0) := fun n hn => by
      unfold usedR; rw [if_neg (by rw [h0]; simp), nodeAt_of hf.sn hn]; rfl
    have hroom := hf.room
    have hsum := sums_eq s hf
    have hbn := sumN_bd s hf
    have hbj := sumJ_bd s hf
    have hbu := fun nm => usedBy_bd0 s.jobs (needOf_bd hf.j) nm s.leases
    have hnl := hf.nl
    have hneed : ∀ x ∈ s.jobs, 0 ≤ x.need ∧ x.need ≤ 1000000 := fun x hx => jobE_need (hf.j x hx)
    rw [h0] at hC
    have HU := Lib.hid hU
    have HC := Lib.hid hC
    have HL := Lib.hid hL
    have HR := Lib.hid hR
    have HRO := Lib.hid hroom
    have HS := Lib.hid hsum
    have HBN := Lib.hid hbn
    have HBJ := Lib.hid hbj
    have HBU := Lib.hid hbu
    have HND := Lib.hid hneed
    clear hU hC hL hR hroom hsum hbn hbj hbu hneed h0 hf hz hm hk
    go_enter Tryd.func5, Tryd.ntmps5
    go_wp2_with fail
    refine (stated_any _ (hT.below hb0)).mono ?_
    rintro e w1 ⟨rfl, hb1⟩
    have hB1 := hb0.trans (hb1.mono hb0.size)
    have bx1 := bx0.below hb1 bx0.lt
    clear hb1
    have e0 : w1.cell? ⟨w.heap.size, 0, none⟩ = some (.int .i64 s.rev) := bx1.cell 0
    have e1 : w1.cell? ⟨w.heap.size, 1, none⟩ = some (.slice p1 s.jobs.length c1) := bx1.cell 1
    have e2 : w1.cell? ⟨w.heap.size, 2, none⟩ = some (.slice p2 s.nodes.length c2) := bx1.cell 2
    have e3 : w1.cell? ⟨w.heap.size, 3, none⟩ = some (.slice p3 s.leases.length c3) := bx1.cell 3
    go_wp2_with fail
    refine (HC.out _ hB1).mono ?_
    rintro e w2 ⟨rfl, hb2⟩
    have hB2 := hB1.trans (hb2.mono hB1.size)
    have bx2 := bx1.below hb2 bx1.lt
    clear hb2 e0 e1 e2 e3
    have e2 : w2.cell? ⟨w.heap.size, 2, none⟩ = some (.slice p2 s.nodes.length c2) := bx2.cell 2
    go_wp2_with fail
    go_loopw [3, 19] (fun t i wr => ∃ k : Nat, k ≤ s.nodes.length ∧ i = .int .i64 k ∧ t = .int .i64 (sumN s (s.nodes.take k)) ∧ Below w2.heap.size w2 wr) (fun _ i _ => s.nodes.length - (intOf i).toNat)
    case atStart => exact ⟨0, Nat.zero_le _, rfl, by rw [List.take_zero]; rfl, Below.refl _ _⟩
    case round =>
      obtain ⟨k, hk, rfl, rfl, hbr⟩ := hrel
      have hBr := hB2.trans (hbr.mono hB2.size)
      have bxr := bx2.below hbr bx2.lt
      clear e2
      have bd := HBN.out k hk
      by_cases hlt : k < s.nodes.length
      · have hx : s.nodes[k]? = some s.nodes[k] := List.getElem?_eq_getElem hlt
        have hmem : s.nodes[k] ∈ s.nodes := List.getElem_mem hlt
        have hsn := sumN_snoc s s.nodes k _ hx
        generalize s.nodes[k] = x at *
        obtain ⟨a, ha, hab, _, hat⟩ := (hmn.below hBr).at_ (k := k) (r := rowN x) (by rw [List.getElem?_map, hx]; rfl)
        subst ha
        have hb5 := hBr.alloc hBr.size (.cells #[Value.string x.name, Value.int .i64 x.room, Value.string x.zone] 40)
        have bn := Blk.new wr 40 #[Value.string x.name, Value.int .i64 x.room, Value.string x.zone]
        have hb' : Below wr.heap.size wr (wr.alloc (.cells #[Value.string x.name, Value.int .i64 x.room, Value.string x.zone] 40)) := (Below.refl _ _).alloc (Nat.le_refl _) _
        have hu := HU.out x.name _ hb5
        rw [HR.out x hmem] at hu
        have hro := HRO.out x hmem
        have hub := HBU.out x.name
        have bs5 := bxr.below hb' bxr.lt
        have e0 : (wr.alloc (.cells #[Value.string x.name, Value.int .i64 x.room, Value.string x.zone] 40)).cell? ⟨w.heap.size, 0, none⟩ = some (.int .i64 s.rev) := bs5.cell 0
        have e1 : (wr.alloc (.cells #[Value.string x.name, Value.int .i64 x.room, Value.string x.zone] 40)).cell? ⟨w.heap.size, 1, none⟩ = some (.slice p1 s.jobs.length c1) := bs5.cell 1
        have e2 : (wr.alloc (.cells #[Value.string x.name, Value.int .i64 x.room, Value.string x.zone] 40)).cell? ⟨w.heap.size, 2, none⟩ = some (.slice (some a) s.nodes.length c2) := bs5.cell 2
        have e3 : (wr.alloc (.cells #[Value.string x.name, Value.int .i64 x.room, Value.string x.zone] 40)).cell? ⟨w.heap.size, 3, none⟩ = some (.slice p3 s.leases.length c3) := bs5.cell 3
        have d0 : (wr.alloc (.cells #[Value.string x.name, Value.int .i64 x.room, Value.string x.zone] 40)).cell? ⟨wr.heap.size, 0, none⟩ = some (.string x.name) := bn.cell 0
        have HSN := Lib.hid hsn
        have HUU := Lib.hid hu
        clear hu hsn hx hmem bxr
        generalize hub2 : usedBy s.jobs x.name s.leases = ux at *
        clear hub2
        generalize sumN s (s.nodes.take k) = sk at *
        go_wp2_with (refine wpList_load_at rfl _ _ rfl (a.add (k * 3)) rfl [Value.string x.name, Value.int .i64 x.room, Value.string x.zone] _ hat Tryd.underlying40 rfl node_size ?_)
        generalize wr.alloc (.cells #[Value.string x.name, Value.int .i64 x.room, Value.string x.zone] 40) = W5 at *
        go_wp2_with fail
        refine HUU.out.mono ?_
        rintro e w6 ⟨rfl, hb6⟩
        have bn6 := bn.below hb6 bn.lt
        have d1 : w6.cell? ⟨wr.heap.size, 1, none⟩ = some (.int .i64 x.room) := bn6.cell 1
        have hng : ¬ x.room < ux := by omega
        have hd : decide (x.room < ux) = false := decide_eq_false hng
        clear e0 e1 e2 e3 d0 hat
        go_wp2_with fail
        go_roundw
        case rel => exact ⟨k + 1, by omega, by go_num, by rw [HSN.out], (hbr.trans (hb'.mono hbr.size)).trans (hb6.mono (Nat.le_trans hbr.size hb'.size))⟩
        case measure => simp [intOf]; omega
      · obtain rfl : k = s.nodes.length := by omega
        rw [List.take_length, HS.out]
        have e1 : wr.cell? ⟨w.heap.size, 1, none⟩ = some (.slice p1 s.jobs.length c1) := bxr.cell 1
        generalize hsj : sumJ s s.jobs = tot at *
        have HSJ := Lib.hid hsj
        clear hsj bd
        go_wp2_with fail
        obtain ⟨wo, rfl⟩ : ∃ wo : World, wo = wr := ⟨_, rfl⟩
        go_loopw [4, 45] (fun t i wz => ∃ k : Nat, k ≤ s.jobs.length ∧ i = .int .i64 k ∧ t = .int .i64 (sumJ s (s.jobs.take k)) ∧ Below wo.heap.size wo wz) (fun _ i _ => s.jobs.length - (intOf i).toNat)
        case atStart => exact ⟨0, Nat.zero_le _, rfl, by rw [List.take_zero]; rfl, Below.refl _ _⟩
        case round =>
          clear e1
          obtain ⟨k, hk, rfl, rfl, hbx⟩ := hrel
          have hBx := hBr.trans (hbx.mono hBr.size)
          have bxx := bxr.below hbx bxr.lt
          have bd := HBJ.out k hk
          by_cases hlt : k < s.jobs.length
          · have hx : s.jobs[k]? = some s.jobs[k] := List.getElem?_eq_getElem hlt
            have hmem : s.jobs[k] ∈ s.jobs := List.getElem_mem hlt
            have hsn := sumJ_snoc s s.jobs k _ hx
            have hnd := HND.out _ hmem
            generalize s.jobs[k] = x at *
            obtain ⟨a, ha, hab, _, hat⟩ := (hmj.below hBx).at_ (k := k) (r := rowJ x) (by rw [List.getElem?_map, hx]; rfl)
            subst ha
            have hb5 := hBx.alloc hBx.size (.cells #[Value.string x.name, Value.int .i64 x.prio, Value.int .i64 x.need, Value.int .i64 x.tries, Value.string x.tag] 37)
            have bn := Blk.new wr 37 #[Value.string x.name, Value.int .i64 x.prio, Value.int .i64 x.need, Value.int .i64 x.tries, Value.string x.tag]
            have hb' : Below wr.heap.size wr (wr.alloc (.cells #[Value.string x.name, Value.int .i64 x.prio, Value.int .i64 x.need, Value.int .i64 x.tries, Value.string x.tag] 37)) := (Below.refl _ _).alloc (Nat.le_refl _) _
            have hu := HL.out x.name _ hb5
            have bs5 := bxx.below hb' bxx.lt
            have e3 : (wr.alloc (.cells #[Value.string x.name, Value.int .i64 x.prio, Value.int .i64 x.need, Value.int .i64 x.tries, Value.string x.tag] 37)).cell? ⟨w.heap.size, 3, none⟩ = some (.slice p3 s.leases.length c3) := bs5.cell 3
            have d0 : (wr.alloc (.cells #[Value.string x.name, Value.int .i64 x.prio, Value.int .i64 x.need, Value.int .i64 x.tries, Value.string x.tag] 37)).cell? ⟨wr.heap.size, 0, none⟩ = some (.string x.name) := bn.cell 0
            have HUU := Lib.hid hu
            generalize ixBy LeaseD.job s.leases x.name 0 = ix at *
            have HSN := Lib.hid hsn
            clear hu hsn hx hmem bxx
            generalize sumJ s (s.jobs.take k) = sk at *
            go_wp2_with (refine wpList_load_at rfl _ _ rfl (a.add (k * 5)) rfl [Value.string x.name, Value.int .i64 x.prio, Value.int .i64 x.need, Value.int .i64 x.tries, Value.string x.tag] _ hat Tryd.underlying37 rfl job_size ?_)
            generalize wr.alloc (.cells #[Value.string x.name, Value.int .i64 x.prio, Value.int .i64 x.need, Value.int .i64 x.tries, Value.string x.tag] 37) = W5 at *
            go_wp2_with fail
            refine HUU.out.mono ?_
            rintro e w6 ⟨rfl, hb6⟩
            have bn6 := bn.below hb6 bn.lt
            have d2 : w6.cell? ⟨wr.heap.size, 2, none⟩ = some (.int .i64 x.need) := bn6.cell 2
            clear e3 d0 hat
            have hs1 := HSN.out
            by_cases hix : 0 ≤ ix
            · rw [if_pos hix] at hs1
              have HS1 := Lib.hid hs1
              clear hs1
              go_wp2_with fail
              go_roundw
              case rel => exact ⟨k + 1, by omega, by go_num, by rw [HS1.out], (hbx.trans (hb'.mono hbx.size)).trans (hb6.mono (Nat.le_trans hbx.size hb'.size))⟩
              case measure => simp [intOf]; omega
            · rw [if_neg hix, Int.add_zero] at hs1
              have HS1 := Lib.hid hs1
              have hix2 : ix < 0 := by omega
              clear hs1
              go_wp2_with fail
              go_roundw
              case rel => exact ⟨k + 1, by omega, by go_num, by rw [HS1.out], (hbx.trans (hb'.mono hbx.size)).trans (hb6.mono (Nat.le_trans hbx.size hb'.size))⟩
              case measure => simp [intOf]; omega
          · obtain rfl : k = s.jobs.length := by omega
            rw [List.take_length, HSJ.out]
            go_wp2_with fail
            go_ret
            exact ⟨rfl, hBx⟩
  · have hne : ((checkE s : Int) != 0) = true := by rw [bne_iff_ne]; omega
    have HC := Lib.hid hC
    clear hU hC hL h0 hm hk hz
    go_enter Tryd.func5, Tryd.ntmps5
    go_wp2_with fail
    refine (stated_any _ (hT.below hb0)).mono ?_
    rintro e w1 ⟨rfl, hb1⟩
    have hB1 := hb0.trans (hb1.mono hb0.size)
    have bx1 := bx0.below hb1 bx0.lt
    clear hb1
    have e0 : w1.cell? ⟨w.heap.size, 0, none⟩ = some (.int .i64 s.rev) := bx1.cell 0
    have e1 : w1.cell? ⟨w.heap.size, 1, none⟩ = some (.slice p1 s.jobs.length c1) := bx1.cell 1
    have e2 : w1.cell? ⟨w.heap.size, 2, none⟩ = some (.slice p2 s.nodes.length c2) := bx1.cell 2
    have e3 : w1.cell? ⟨w.heap.size, 3, none⟩ = some (.slice p3 s.leases.length c3) := bx1.cell 3
    go_wp2_with fail
    refine (HC.out _ hB1).mono ?_
    rintro e w2 ⟨rfl, hb2⟩
    go_wp2_with fail
    go_ret
    exact ⟨rfl, hB1.trans (hb2.mono hB1.size)⟩

theorem own : ownKnob Tryd.prog.godebug = none := by kernel_rfl
theorem laid : laidOutB Tryd.prog = true := by kernel_rfl
set_option maxRecDepth 100000 in
theorem contract (H : Type) (enc : TypeId × Value → H) (W : World) (base : Nat) (args : Array Value) (ds gs : List (DataW H)) (before : List MemPlace)
    (hval0 : ∀ (j : Nat) t v, Tryd.f5.params[j]? = some t → args[j]? = some v → Value.okWide Tryd.prog W .any base t v)
    (hW : DataW.Whole enc Tryd.prog Tryd.f5.params.toList Rows.stateSumsSpec.vars false W args.toList ds gs before)
    (hsz0 : (DataW.weightsEach Tryd.prog (Tryd.f5.params.toList ++ Rows.stateSumsSpec.plain.varTypes Tryd.prog) (ds ++ gs)).all (· ≤ reachBytes) = true)
    (hT : Tabs W) :
    Calls Tryd.prog 5 args W fun e W' => ∃ v, e = .returned v ∧ Rows.stateSumsSpec.post enc Tryd.prog Tryd.f5 false true false false W args v W' := by
  have hval : ∀ (j : Nat) t v, Tryd.f5.params[j]? = some t → args[j]? = some v → Value.okWide Tryd.prog W .any base t v := hval0
  have hsz : (DataW.weightsEach Tryd.prog (Tryd.f5.params.toList ++ Rows.stateSumsSpec.plain.varTypes Tryd.prog) (ds ++ gs)).all (· ≤ reachBytes) = true := hsz0
  have hlt : ∀ x ∈ before, x.block < W.heap.size := fun x hx => hW.lt x hx
  have hW' := hW
  obtain ⟨p, q, hA0, hV, rfl, hfz, hnd⟩ := hW
  have hA : DataW.TrodAll enc Tryd.prog W 0 (fun _ => true) true Tryd.f5.params.toList args.toList ds p := hA0
  rw [Tryd.params5] at hA hval hsz
  obtain ⟨v0, vs0, d0, ds0, p0, q0, hargs, rfl, rfl, h0, r0⟩ := trodAll_cons hA
  obtain ⟨rfl, rfl, rfl⟩ := trodAll_nil r0
  obtain rfl : args = #[v0] := by cases args; simp_all
  obtain ⟨rfl, rfl⟩ := trodVars_none hV
  obtain ⟨s0, pj0, pn0, pl0, cj0, cn0, cl0, rfl, hm0, hk0⟩ := open_state (hval 0 33 v0 rfl rfl) h0 hsz (j := 0) rfl rfl
  refine (walk s0 pj0 pn0 pl0 cj0 cn0 cl0 W hm0 hk0 hT).mono fun e W' ⟨he, hb⟩ => ?_
  subst he
  exact ⟨_, rfl, law_post laid (by kernel_rfl) Tryd.underlying4 rfl rfl hW' rfl rfl rfl rfl hb⟩

theorem reads (os : Os) {H : Type} (enc : TypeId × Value → H) : ∃ places, DataW.whole enc Tryd.prog ((laidWorld os).forCall (fun _ _ => 0) ⟨#[], #[.agg #[.int .i64 0, .slice none 0 0, .slice none 0 0, .slice none 0 0]], []⟩).memory Tryd.f5.params.toList Rows.stateSumsSpec.vars false (#[.agg #[.int .i64 0, .slice none 0 0, .slice none 0 0, .slice none 0 0]] : Array Value).toList 8 = some ([.agg [.lit (.int .i64 0), .nil, .nil, .nil]], [], places) :=
  ⟨[], by kernel_rfl⟩
set_option maxRecDepth 100000 in
theorem lifted (os : Os) (started : os.Started) (H : Type) (enc : TypeId × Value → H) (F : Stop.Interp) :
    ReturnsInHanded {} Tryd.checked os 5 .any ((OpenSpec.ofChange Rows.stateSumsSpec).preRow enc Tryd.prog Tryd.f5 Rows.stateSumsRow.domain false Rows.stateSumsRow.laid) (((OpenSpec.ofChange Rows.stateSumsSpec).at F).post enc Tryd.prog Tryd.f5 false true false false) := by
  obtain ⟨places, hx⟩ := reads os enc
  refine returnsInHanded_of_row (C := Tryd.checked) (s := (OpenSpec.ofChange Rows.stateSumsSpec)) own started (by kernel_rfl) Tryd.func5
    (witness_row_atRef (enc := enc) (C := Tryd.checked) false (laidWorld os) #[.agg #[.int .i64 0, .slice none 0 0, .slice none 0 0, .slice none 0 0]] rfl (by kernel_rfl) (by kernel_rfl) (by kernel_rfl)
      (OpenSpec.preRow_of_cond 8 hx (by kernel_rfl) (fun k hk => by cases hk) (by kernel_rfl) (laid_met os _))) ?_
  intro W base args ds gs before hval0 hW _ hcond hsz0 hL _ _
  exact contract H enc W base args ds gs before hval0 hW hsz0 (tabs_of_laid hL)

theorem said : Rows.StateSumsSaid :=
  OpenClaim.holds_of_cond 5 Tryd.f5 rfl rfl rfl rfl rfl rfl rfl ⟨rfl, rfl, rfl, rfl, rfl⟩ rfl rfl rfl rfl rfl (by kernel_rfl) Tryd.func5 (by kernel_rfl)
    (of_decide_eq_true (by kernel_rfl)) (by unfold Func.isWrapper; first | (rw [if_pos (by decide +kernel)]; kernel_rfl) | (rw [if_neg (by decide +kernel)]; exact ⟨rfl, rfl⟩))
    (fun os started H enc _ F => by rw [OpenClaim.pre_eq_preRow]; exact lifted os started H enc F)

/-- No parameter wants a stand-in; the program's own looks are off. -/
theorem plain (f : FuncId) (fn : Func) (hf : Tryd.pinned.checked.prog.funcNamed "bracken/brackenkeep.StateSums" = some f) (hfn : Tryd.pinned.checked.prog.funcs[f]? = some fn) :
    false = Tryd.pinned.checked.prog.looks [] ∧ ∀ (j : Nat) t, fn.params[j]? = some t → Tryd.pinned.checked.prog.wantsStandIn t = false := by
  obtain rfl : f = 5 := Option.some.inj ((show Tryd.prog.funcNamed "bracken/brackenkeep.StateSums" = some 5 by kernel_rfl).symm.trans hf) |>.symm
  obtain rfl : fn = Tryd.f5 := (Option.some.inj (Tryd.func5.symm.trans hfn)).symm
  refine ⟨by kernel_rfl, fun j t ht => ?_⟩
  rw [Tryd.params5] at ht
  have hm := Array.mem_of_getElem? ht
  have hall : (#[33] : Array TypeId).all (fun t => !Tryd.prog.wantsStandIn t) = true := by kernel_rfl
  have := Array.all_eq_true_iff_forall_mem.1 hall t (by simpa using hm)
  show Tryd.prog.wantsStandIn t = false
  simpa using this

/-- The statement. -/
theorem proved : Rows.StateSumsCardSaid :=
  Claim7.holds_tied_plain_at .later [] _ _ _ _ said (fun _ h => by cases h) (by kernel_rfl) (fun _ h => by cases h) stateSums_row_tie rfl ⟨rfl, rfl⟩ (by kernel_rfl) rfl plain (by kernel_rfl)
#print axioms proved
end Go.Proofs.YtbjngeaoimaooaaDoor.stateSums
