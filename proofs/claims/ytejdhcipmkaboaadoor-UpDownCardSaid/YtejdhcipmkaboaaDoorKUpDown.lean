/-
  The law UpDown of package brackenkeep: for every input it answers true.
-/
import Derived.Test.YtejdhcipmkaboaaDoorRows
import Derived.Test.YtejdhcipmkaboaaDoorPkBase
import Derived.Test.YtejdhcipmkaboaaDoorPkDown
import Derived.Test.YtejdhcipmkaboaaDoorPkUp
import Derived.Test.YtejdhcipmkaboaaDoorPkUpB
import Derived.Test.YtejdhcipmkaboaaDoorPkSame
import Derived.Test.YtejdhcipmkaboaaDoorPkStateB
set_option linter.unusedVariables false
set_option linter.unusedSimpArgs false
namespace Go.Proofs.YtejdhcipmkaboaaDoor.upDown
open Go.ChangeShapes Go.WideShapes Go.ChangeAt Go.RowKit Go.Joins
open Go.ChangeMaps (open_string)
set_option maxHeartbeats 8000000 in
set_option maxRecDepth 100000 in
theorem walk (s : St) (p1 p2 p3 : Option Addr) (c1 c2 c3 : Nat) (w : World) (hm : StM w w.heap.size p1 p2 p3 s) (hk : StOk s) (n : Int) (n1 : -9223372036854775808 ≤ n) (n2 : n ≤ 9223372036854775807) (hT : Tabs w) :
    Calls Tryd.prog 10 #[.agg #[.int .i64 s.rev, .slice p1 s.jobs.length c1, .slice p2 s.nodes.length c2, .slice p3 s.leases.length c3], .int .i64 n] w fun e w' => e = .returned (.bool true) ∧ Below w.heap.size w w' := by
  have hb0 : Below w.heap.size w (w.alloc (.cells #[Value.int .i64 s.rev, Value.slice p1 s.jobs.length c1, Value.slice p2 s.nodes.length c2, Value.slice p3 s.leases.length c3] 26)) := (Below.refl _ _).alloc (Nat.le_refl _) _
  have bx0 := Blk.new w 26 #[Value.int .i64 s.rev, Value.slice p1 s.jobs.length c1, Value.slice p2 s.nodes.length c2, Value.slice p3 s.leases.length c3]
  have hz := hk.sz
  have h30 := Int.emod_nonneg n (show (3 : Int) ≠ 0 by decide)
  have h33 := Int.emod_lt_of_pos n (show (0 : Int) < 3 by decide)
  have HR := Lib.hid (fun (W : World) => rest_any n 3 W (by decide) (by decide))
  generalize n % 3 = m at *
  obtain ⟨v, rfl⟩ : ∃ v : Nat, m = (v : Int) - 1 := ⟨(m + 1).toNat, by omega⟩
  have hv : 1 ≤ v ∧ v ≤ 3 := by omega
  have HU := Lib.hid (fun (W : World) (hW : Below w.heap.size w W) => upState_any s (v : Int) 3 p1 p2 p3 c1 c2 c3 W ((hm.below hW).more hW.size) hz (hT.below hW))
  have HM := Lib.hid hm
  have HZ := Lib.hid hz
  have HT := Lib.hid hT
  have hzs := zero_state_lit
  clear hm hk hz hT n1 n2
  by_cases h0 : (upR s (v : Int) 3).2 = 0
  · obtain ⟨_, hF, hf, hu⟩ := upR_ok h0
    rw [show ((v : Int)).toNat = v by omega, show ((3 : Int) - (v : Int)).toNat = 3 - v by omega] at hu
    have hd1 := down_upTo (s := s) v (3 - v) hf hv.1 (by omega)
    have hFu := hF.upTo v (3 - v)
    have hdn := downR_of (k := (v : Int)) hFu ⟨by omega, by omega⟩
    have hlast : upLast (upTo s v (3 - v)) (v : Int) = upTo s v (3 - v) := by unfold upLast; rw [hd1, show ((v : Int)).toNat = v by omega, show ((3 : Int) - (v : Int)).toNat = 3 - v by omega]
    rw [hd1, downB_iff, decide_eq_true hlast] at hdn
    have HU2 := Lib.hid hu
    have HD2 := Lib.hid hdn
    have HSU := Lib.hid hFu.sz
    generalize upTo s v (3 - v) = u at *
    clear h0 hF hf hu hd1 hFu hdn hlast
    go_enter Tryd.func10, Tryd.ntmps10
    go_wp2_with fail
    generalize w.alloc _ = W_1 at *
    refine (upped_any _ (HT.out.below hb0)).mono ?_
    rintro e w_2 ⟨rfl, hb_3⟩
    have b_4 := bx0.below hb_3 bx0.lt
    have c_5 := hb0.trans (hb_3.mono hb0.size)
    clear bx0 hb0 hb_3
    go_wp2_with (first | (refine wpList_load_blk_w (by rfl) _ _ rfl (w.heap.size) rfl _ #[Value.int .i64 s.rev, Value.slice p1 s.jobs.length c1, Value.slice p2 s.nodes.length c2, Value.slice p3 s.leases.length c3] b_4 _ Tryd.underlying26 rfl state_size ?_))
    refine (HR.out _).mono ?_
    rintro e w' ⟨rfl, rfl⟩
    go_wp2_with (first | (refine wpList_load_blk_w (by rfl) _ _ rfl (w.heap.size) rfl _ #[Value.int .i64 s.rev, Value.slice p1 s.jobs.length c1, Value.slice p2 s.nodes.length c2, Value.slice p3 s.leases.length c3] b_4 _ Tryd.underlying26 rfl state_size ?_))
    refine (HU.out _ c_5).mono ?_
    rintro e w_6 ⟨t, er, q1, q2, q3, d1, d2, d3, rfl, hmt, hb_7, hd⟩
    rw [HU2.out] at hd
    injection hd with h1 h2
    subst h1 h2
    have b_8 := b_4.below hb_7 b_4.lt
    have c_9 := c_5.trans (hb_7.mono c_5.size)
    clear b_4 c_5 hb_7
    have k_10 := Below.refl w_6.heap.size w_6
    have HMU := Lib.hid hmt
    clear hmt
    have b_11 := b_8.alloc (.cells #[Value.int .i64 u.rev, Value.slice q1 u.jobs.length d1, Value.slice q2 u.nodes.length d2, Value.slice q3 u.leases.length d3] 26)
    have b_12 := Blk.new w_6 26 #[Value.int .i64 u.rev, Value.slice q1 u.jobs.length d1, Value.slice q2 u.nodes.length d2, Value.slice q3 u.leases.length d3]
    have c_13 := c_9.alloc c_9.size (.cells #[Value.int .i64 u.rev, Value.slice q1 u.jobs.length d1, Value.slice q2 u.nodes.length d2, Value.slice q3 u.leases.length d3] 26)
    have c_14 := k_10.alloc k_10.size (.cells #[Value.int .i64 u.rev, Value.slice q1 u.jobs.length d1, Value.slice q2 u.nodes.length d2, Value.slice q3 u.leases.length d3] 26)
    clear b_8 c_9 k_10
    go_wp2_with (first | (refine wpList_store_new rfl _ _ _ rfl rfl 26 _ #[Value.int .i64 u.rev, Value.slice q1 u.jobs.length d1, Value.slice q2 u.nodes.length d2, Value.slice q3 u.leases.length d3] rfl state_size rfl (one_st4 _ _ _ _ _ _ _ _ _ _) ?_) | (refine wpList_load_blk_w (by rfl) _ _ rfl (w.heap.size) rfl _ #[Value.int .i64 s.rev, Value.slice p1 s.jobs.length c1, Value.slice p2 s.nodes.length c2, Value.slice p3 s.leases.length c3] b_11 _ Tryd.underlying26 rfl state_size ?_) | (refine wpList_load_blk_w (by rfl) _ _ rfl (w_6.heap.size) rfl _ #[Value.int .i64 u.rev, Value.slice q1 u.jobs.length d1, Value.slice q2 u.nodes.length d2, Value.slice q3 u.leases.length d3] b_12 _ Tryd.underlying26 rfl state_size ?_))
    generalize w_6.alloc _ = W_15 at *
    refine (upDown_any u (v : Int) q1 q2 q3 d1 d2 d3 _ ((HMU.out.below c_14).more c_14.size) HSU.out (HT.out.below c_13)).mono ?_
    rintro e w_16 ⟨t, is, er, r1, r2, r3, g1, g2, g3, rfl, hmt, hb_17, hd⟩
    rw [HD2.out] at hd
    injection hd with h1 h2
    injection h2 with h2 h3
    subst h1 h2 h3
    have b_18 := b_11.below hb_17 b_11.lt
    have b_19 := b_12.below hb_17 b_12.lt
    have c_20 := c_13.trans (hb_17.mono c_13.size)
    have c_21 := c_14.trans (hb_17.mono c_14.size)
    clear b_11 b_12 c_13 c_14 hb_17
    have k_22 := Below.refl w_16.heap.size w_16
    have HMD := Lib.hid hmt
    clear hmt
    have b_23 := b_18.alloc (.cells #[Value.int .i64 s.rev, Value.slice r1 s.jobs.length g1, Value.slice r2 s.nodes.length g2, Value.slice r3 s.leases.length g3] 26)
    have b_24 := b_19.alloc (.cells #[Value.int .i64 s.rev, Value.slice r1 s.jobs.length g1, Value.slice r2 s.nodes.length g2, Value.slice r3 s.leases.length g3] 26)
    have b_25 := Blk.new w_16 26 #[Value.int .i64 s.rev, Value.slice r1 s.jobs.length g1, Value.slice r2 s.nodes.length g2, Value.slice r3 s.leases.length g3]
    have c_26 := c_20.alloc c_20.size (.cells #[Value.int .i64 s.rev, Value.slice r1 s.jobs.length g1, Value.slice r2 s.nodes.length g2, Value.slice r3 s.leases.length g3] 26)
    have c_27 := c_21.alloc c_21.size (.cells #[Value.int .i64 s.rev, Value.slice r1 s.jobs.length g1, Value.slice r2 s.nodes.length g2, Value.slice r3 s.leases.length g3] 26)
    have c_28 := k_22.alloc k_22.size (.cells #[Value.int .i64 s.rev, Value.slice r1 s.jobs.length g1, Value.slice r2 s.nodes.length g2, Value.slice r3 s.leases.length g3] 26)
    clear b_18 b_19 c_20 c_21 k_22
    go_wp2_with (first | (refine wpList_store_new rfl _ _ _ rfl rfl 26 _ #[Value.int .i64 s.rev, Value.slice r1 s.jobs.length g1, Value.slice r2 s.nodes.length g2, Value.slice r3 s.leases.length g3] rfl state_size rfl (one_st4 _ _ _ _ _ _ _ _ _ _) ?_) | (refine wpList_load_blk_w (by rfl) _ _ rfl (w.heap.size) rfl _ #[Value.int .i64 s.rev, Value.slice p1 s.jobs.length c1, Value.slice p2 s.nodes.length c2, Value.slice p3 s.leases.length c3] b_23 _ Tryd.underlying26 rfl state_size ?_) | (refine wpList_load_blk_w (by rfl) _ _ rfl (w_6.heap.size) rfl _ #[Value.int .i64 u.rev, Value.slice q1 u.jobs.length d1, Value.slice q2 u.nodes.length d2, Value.slice q3 u.leases.length d3] b_24 _ Tryd.underlying26 rfl state_size ?_) | (refine wpList_load_blk_w (by rfl) _ _ rfl (w_16.heap.size) rfl _ #[Value.int .i64 s.rev, Value.slice r1 s.jobs.length g1, Value.slice r2 s.nodes.length g2, Value.slice r3 s.leases.length g3] b_25 _ Tryd.underlying26 rfl state_size ?_))
    generalize w_16.alloc _ = W_29 at *
    refine (same_any s s r1 r2 r3 p1 p2 p3 g1 g2 g3 c1 c2 c3 _ ((HMD.out.below c_28).more c_28.size) ((HM.out.below c_26).more c_26.size) HZ.out HZ.out).mono ?_
    rintro e w_30 ⟨rfl, hb_31⟩
    have b_32 := b_23.below hb_31 b_23.lt
    have b_33 := b_24.below hb_31 b_24.lt
    have b_34 := b_25.below hb_31 b_25.lt
    have c_35 := c_26.trans (hb_31.mono c_26.size)
    have c_36 := c_27.trans (hb_31.mono c_27.size)
    have c_37 := c_28.trans (hb_31.mono c_28.size)
    clear b_23 b_24 b_25 c_26 c_27 c_28 hb_31
    simp only [decide_true]
    go_wp2_with (first | (refine wpList_load_blk_w (by rfl) _ _ rfl (w.heap.size) rfl _ #[Value.int .i64 s.rev, Value.slice p1 s.jobs.length c1, Value.slice p2 s.nodes.length c2, Value.slice p3 s.leases.length c3] b_32 _ Tryd.underlying26 rfl state_size ?_) | (refine wpList_load_blk_w (by rfl) _ _ rfl (w_6.heap.size) rfl _ #[Value.int .i64 u.rev, Value.slice q1 u.jobs.length d1, Value.slice q2 u.nodes.length d2, Value.slice q3 u.leases.length d3] b_33 _ Tryd.underlying26 rfl state_size ?_) | (refine wpList_load_blk_w (by rfl) _ _ rfl (w_16.heap.size) rfl _ #[Value.int .i64 s.rev, Value.slice r1 s.jobs.length g1, Value.slice r2 s.nodes.length g2, Value.slice r3 s.leases.length g3] b_34 _ Tryd.underlying26 rfl state_size ?_))
    go_ret
    exact ⟨rfl, c_35⟩
  · have hz1 := upR_bad h0
    have hne : (((upR s (v : Int) 3).2 : Int) != 0) = true := by rw [bne_iff_ne]; omega
    have hu : upR s (v : Int) 3 = (zeroSt, (upR s (v : Int) 3).2) := Prod.ext hz1 rfl
    have HU2 := Lib.hid hu
    generalize (upR s (v : Int) 3).2 = ee at *
    clear h0 hu hz1
    have HU3 : Hid (upR s (v : Int) 3 = (zeroSt, ee)) := HU2
    clear HU2
    go_enter Tryd.func10, Tryd.ntmps10
    go_wp2_with fail
    generalize w.alloc _ = W_1 at *
    refine (upped_any _ (HT.out.below hb0)).mono ?_
    rintro e w_2 ⟨rfl, hb_3⟩
    have b_4 := bx0.below hb_3 bx0.lt
    have c_5 := hb0.trans (hb_3.mono hb0.size)
    clear bx0 hb0 hb_3
    go_wp2_with (first | (refine wpList_load_blk_w (by rfl) _ _ rfl (w.heap.size) rfl _ #[Value.int .i64 s.rev, Value.slice p1 s.jobs.length c1, Value.slice p2 s.nodes.length c2, Value.slice p3 s.leases.length c3] b_4 _ Tryd.underlying26 rfl state_size ?_))
    refine (HR.out _).mono ?_
    rintro e w' ⟨rfl, rfl⟩
    go_wp2_with (first | (refine wpList_load_blk_w (by rfl) _ _ rfl (w.heap.size) rfl _ #[Value.int .i64 s.rev, Value.slice p1 s.jobs.length c1, Value.slice p2 s.nodes.length c2, Value.slice p3 s.leases.length c3] b_4 _ Tryd.underlying26 rfl state_size ?_))
    refine (HU.out _ c_5).mono ?_
    rintro e w_6 ⟨t, er, q1, q2, q3, d1, d2, d3, rfl, hmt, hb_7, hd⟩
    rw [HU3.out] at hd
    injection hd with h1 h2
    subst h1 h2
    have b_8 := b_4.below hb_7 b_4.lt
    have c_9 := c_5.trans (hb_7.mono c_5.size)
    clear b_4 c_5 hb_7
    have k_10 := Below.refl w_6.heap.size w_6
    have HMU := Lib.hid hmt
    clear hmt
    have b_11 := b_8.alloc (.cells #[Value.int .i64 zeroSt.rev, Value.slice q1 zeroSt.jobs.length d1, Value.slice q2 zeroSt.nodes.length d2, Value.slice q3 zeroSt.leases.length d3] 26)
    have b_12 := Blk.new w_6 26 #[Value.int .i64 zeroSt.rev, Value.slice q1 zeroSt.jobs.length d1, Value.slice q2 zeroSt.nodes.length d2, Value.slice q3 zeroSt.leases.length d3]
    have c_13 := c_9.alloc c_9.size (.cells #[Value.int .i64 zeroSt.rev, Value.slice q1 zeroSt.jobs.length d1, Value.slice q2 zeroSt.nodes.length d2, Value.slice q3 zeroSt.leases.length d3] 26)
    have c_14 := k_10.alloc k_10.size (.cells #[Value.int .i64 zeroSt.rev, Value.slice q1 zeroSt.jobs.length d1, Value.slice q2 zeroSt.nodes.length d2, Value.slice q3 zeroSt.leases.length d3] 26)
    clear b_8 c_9 k_10
    go_wp2_with (first | (refine wpList_store_new rfl _ _ _ rfl rfl 26 _ #[Value.int .i64 zeroSt.rev, Value.slice q1 zeroSt.jobs.length d1, Value.slice q2 zeroSt.nodes.length d2, Value.slice q3 zeroSt.leases.length d3] rfl state_size rfl (one_st4 _ _ _ _ _ _ _ _ _ _) ?_) | (refine wpList_load_blk_w (by rfl) _ _ rfl (w.heap.size) rfl _ #[Value.int .i64 s.rev, Value.slice p1 s.jobs.length c1, Value.slice p2 s.nodes.length c2, Value.slice p3 s.leases.length c3] b_11 _ Tryd.underlying26 rfl state_size ?_) | (refine wpList_load_blk_w (by rfl) _ _ rfl (w_6.heap.size) rfl _ #[Value.int .i64 zeroSt.rev, Value.slice q1 zeroSt.jobs.length d1, Value.slice q2 zeroSt.nodes.length d2, Value.slice q3 zeroSt.leases.length d3] b_12 _ Tryd.underlying26 rfl state_size ?_))
    generalize w_6.alloc _ = W_15 at *
    refine (same_any zeroSt zeroSt q1 q2 q3 none none none d1 d2 d3 0 0 0 _ ((HMU.out.below c_14).more c_14.size) (stM_zero _) zeroSt_sz zeroSt_sz).mono ?_
    rintro e w_16 ⟨rfl, hb_17⟩
    have b_18 := b_11.below hb_17 b_11.lt
    have b_19 := b_12.below hb_17 b_12.lt
    have c_20 := c_13.trans (hb_17.mono c_13.size)
    have c_21 := c_14.trans (hb_17.mono c_14.size)
    clear b_11 b_12 c_13 c_14 hb_17
    simp only [decide_true]
    go_wp2_with (first | (refine wpList_load_blk_w (by rfl) _ _ rfl (w.heap.size) rfl _ #[Value.int .i64 s.rev, Value.slice p1 s.jobs.length c1, Value.slice p2 s.nodes.length c2, Value.slice p3 s.leases.length c3] b_18 _ Tryd.underlying26 rfl state_size ?_) | (refine wpList_load_blk_w (by rfl) _ _ rfl (w_6.heap.size) rfl _ #[Value.int .i64 zeroSt.rev, Value.slice q1 zeroSt.jobs.length d1, Value.slice q2 zeroSt.nodes.length d2, Value.slice q3 zeroSt.leases.length d3] b_19 _ Tryd.underlying26 rfl state_size ?_))
    go_ret
    exact ⟨rfl, c_20⟩

theorem own : ownKnob Tryd.prog.godebug = none := by kernel_rfl
theorem laid : laidOutB Tryd.prog = true := by kernel_rfl
set_option maxRecDepth 100000 in
theorem contract (H : Type) (enc : TypeId × Value → H) (W : World) (base : Nat) (args : Array Value) (ds gs : List (DataW H)) (before : List MemPlace)
    (hval0 : ∀ (j : Nat) t v, Tryd.f10.params[j]? = some t → args[j]? = some v → Value.okWide Tryd.prog W .any base t v)
    (hW : DataW.Whole enc Tryd.prog Tryd.f10.params.toList Rows.upDownSpec.vars false W args.toList ds gs before)
    (hsz0 : (DataW.weightsEach Tryd.prog (Tryd.f10.params.toList ++ Rows.upDownSpec.plain.varTypes Tryd.prog) (ds ++ gs)).all (· ≤ reachBytes) = true)
    (hT : Tabs W) :
    Calls Tryd.prog 10 args W fun e W' => ∃ v, e = .returned v ∧ Rows.upDownSpec.post enc Tryd.prog Tryd.f10 false true false false W args v W' := by
  have hval : ∀ (j : Nat) t v, Tryd.f10.params[j]? = some t → args[j]? = some v → Value.okWide Tryd.prog W .any base t v := hval0
  have hsz : (DataW.weightsEach Tryd.prog (Tryd.f10.params.toList ++ Rows.upDownSpec.plain.varTypes Tryd.prog) (ds ++ gs)).all (· ≤ reachBytes) = true := hsz0
  have hlt : ∀ x ∈ before, x.block < W.heap.size := fun x hx => hW.lt x hx
  have hW' := hW
  obtain ⟨p, q, hA0, hV, rfl, hfz, hnd⟩ := hW
  have hA : DataW.TrodAll enc Tryd.prog W 0 (fun _ => true) true Tryd.f10.params.toList args.toList ds p := hA0
  rw [Tryd.params10] at hA hval hsz
  obtain ⟨v0, vs0, d0, ds0, p0, q0, hargs, rfl, rfl, h0, r0⟩ := trodAll_cons hA
  obtain ⟨v1, vs1, d1, ds1, p1, q1, rfl, rfl, rfl, h1, r1⟩ := trodAll_cons r0
  obtain ⟨rfl, rfl, rfl⟩ := trodAll_nil r1
  obtain rfl : args = #[v0, v1] := by cases args; simp_all
  obtain ⟨rfl, rfl⟩ := trodVars_none hV
  obtain ⟨s0, pj0, pn0, pl0, cj0, cn0, cl0, rfl, hm0, hk0⟩ := open_state (hval 0 26 v0 rfl rfl) h0 hsz (j := 0) rfl rfl
  obtain ⟨a1, rfl, rfl, rfl, w1⟩ := open_int Tryd.underlying3 (hval 1 3 v1 rfl rfl) h1
  have b1 := bounds_i64 w1
  refine (walk s0 pj0 pn0 pl0 cj0 cn0 cl0 W hm0 hk0 a1 b1.1 b1.2 hT).mono fun e W' ⟨he, hb⟩ => ?_
  subst he
  exact ⟨_, rfl, law_post laid (by kernel_rfl) Tryd.underlying4 rfl rfl hW' rfl rfl rfl rfl hb⟩

theorem reads (os : Os) {H : Type} (enc : TypeId × Value → H) : ∃ places, DataW.whole enc Tryd.prog ((laidWorld os).forCall (fun _ _ => 0) ⟨#[], #[.agg #[.int .i64 0, .slice none 0 0, .slice none 0 0, .slice none 0 0], .int .i64 0], []⟩).memory Tryd.f10.params.toList Rows.upDownSpec.vars false (#[.agg #[.int .i64 0, .slice none 0 0, .slice none 0 0, .slice none 0 0], .int .i64 0] : Array Value).toList 8 = some ([.agg [.lit (.int .i64 0), .nil, .nil, .nil], .lit (.int .i64 0)], [], places) :=
  ⟨[], by kernel_rfl⟩
set_option maxRecDepth 100000 in
theorem lifted (os : Os) (started : os.Started) (H : Type) (enc : TypeId × Value → H) (F : Stop.Interp) :
    ReturnsInHanded {} Tryd.checked os 10 .any ((OpenSpec.ofChange Rows.upDownSpec).preRow enc Tryd.prog Tryd.f10 Rows.upDownRow.domain false Rows.upDownRow.laid) (((OpenSpec.ofChange Rows.upDownSpec).at F).post enc Tryd.prog Tryd.f10 false true false false) := by
  obtain ⟨places, hx⟩ := reads os enc
  refine returnsInHanded_of_row (C := Tryd.checked) (s := (OpenSpec.ofChange Rows.upDownSpec)) own started (by kernel_rfl) Tryd.func10
    (witness_row_atRef (enc := enc) (C := Tryd.checked) false (laidWorld os) #[.agg #[.int .i64 0, .slice none 0 0, .slice none 0 0, .slice none 0 0], .int .i64 0] rfl (by kernel_rfl) (by kernel_rfl) (by kernel_rfl)
      (OpenSpec.preRow_of_cond 8 hx (by kernel_rfl) (fun k hk => by cases hk) (by kernel_rfl) (laid_met os _))) ?_
  intro W base args ds gs before hval0 hW _ hcond hsz0 hL _ _
  exact contract H enc W base args ds gs before hval0 hW hsz0 (tabs_of_laid hL)

theorem said : Rows.UpDownSaid :=
  OpenClaim.holds_of_cond 10 Tryd.f10 rfl rfl rfl rfl rfl rfl rfl ⟨rfl, rfl, rfl, rfl, rfl⟩ rfl rfl rfl rfl rfl (by kernel_rfl) Tryd.func10 (by kernel_rfl)
    (of_decide_eq_true (by kernel_rfl)) (by unfold Func.isWrapper; first | (rw [if_pos (by decide +kernel)]; kernel_rfl) | (rw [if_neg (by decide +kernel)]; exact ⟨rfl, rfl⟩))
    (fun os started H enc _ F => by rw [OpenClaim.pre_eq_preRow]; exact lifted os started H enc F)

/-- No parameter wants a stand-in; the program's own looks are off. -/
theorem plain (f : FuncId) (fn : Func) (hf : Tryd.pinned.checked.prog.funcNamed "bracken/brackenkeep.UpDown" = some f) (hfn : Tryd.pinned.checked.prog.funcs[f]? = some fn) :
    false = Tryd.pinned.checked.prog.looks [] ∧ ∀ (j : Nat) t, fn.params[j]? = some t → Tryd.pinned.checked.prog.wantsStandIn t = false := by
  obtain rfl : f = 10 := Option.some.inj ((show Tryd.prog.funcNamed "bracken/brackenkeep.UpDown" = some 10 by kernel_rfl).symm.trans hf) |>.symm
  obtain rfl : fn = Tryd.f10 := (Option.some.inj (Tryd.func10.symm.trans hfn)).symm
  refine ⟨by kernel_rfl, fun j t ht => ?_⟩
  rw [Tryd.params10] at ht
  have hm := Array.mem_of_getElem? ht
  have hall : (#[26, 3] : Array TypeId).all (fun t => !Tryd.prog.wantsStandIn t) = true := by kernel_rfl
  have := Array.all_eq_true_iff_forall_mem.1 hall t (by simpa using hm)
  show Tryd.prog.wantsStandIn t = false
  simpa using this

/-- The statement. -/
theorem proved : Rows.UpDownCardSaid :=
  Claim7.holds_tied_plain_at .later [] _ _ _ _ said (fun _ h => by cases h) (by kernel_rfl) (fun _ h => by cases h) upDown_row_tie rfl ⟨rfl, rfl⟩ (by kernel_rfl) rfl plain (by kernel_rfl)
#print axioms proved
end Go.Proofs.YtejdhcipmkaboaaDoor.upDown
