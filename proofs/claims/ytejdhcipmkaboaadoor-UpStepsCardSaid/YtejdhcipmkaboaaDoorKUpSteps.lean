/-
  The law UpSteps of package brackenkeep: for every input it answers true.
-/
import Derived.Test.YtejdhcipmkaboaaDoorRows
import Derived.Test.YtejdhcipmkaboaaDoorPkBase
import Derived.Test.YtejdhcipmkaboaaDoorPkUp
import Derived.Test.YtejdhcipmkaboaaDoorPkUpB
import Derived.Test.YtejdhcipmkaboaaDoorPkSame
import Derived.Test.YtejdhcipmkaboaaDoorPkStateB
set_option linter.unusedVariables false
set_option linter.unusedSimpArgs false
namespace Go.Proofs.YtejdhcipmkaboaaDoor.upSteps
open Go.ChangeShapes Go.WideShapes Go.ChangeAt Go.RowKit Go.Joins
open Go.ChangeMaps (open_string)
set_option maxHeartbeats 8000000 in
set_option maxRecDepth 100000 in
theorem walk (s : St) (p1 p2 p3 : Option Addr) (c1 c2 c3 : Nat) (w : World) (hm : StM w w.heap.size p1 p2 p3 s) (hk : StOk s) (hT : Tabs w) :
    Calls Tryd.prog 8 #[.agg #[.int .i64 s.rev, .slice p1 s.jobs.length c1, .slice p2 s.nodes.length c2, .slice p3 s.leases.length c3]] w fun e w' => e = .returned (.bool true) ∧ Below w.heap.size w w' := by
  have hb0 : Below w.heap.size w (w.alloc (.cells #[Value.int .i64 s.rev, Value.slice p1 s.jobs.length c1, Value.slice p2 s.nodes.length c2, Value.slice p3 s.leases.length c3] 26)) := (Below.refl _ _).alloc (Nat.le_refl _) _
  have bx0 := Blk.new w 26 #[Value.int .i64 s.rev, Value.slice p1 s.jobs.length c1, Value.slice p2 s.nodes.length c2, Value.slice p3 s.leases.length c3]
  have hz := hk.sz
  have HU := Lib.hid (fun (b : Int) (W : World) (hW : Below w.heap.size w W) => upState_any s 1 b p1 p2 p3 c1 c2 c3 W ((hm.below hW).more hW.size) hz (hT.below hW))
  have HT := Lib.hid hT
  clear hm hk hz hT
  by_cases h0 : (upR s 1 3).2 = 0
  · obtain ⟨_, hF, hf, h13⟩ := upR_ok h0
    have h12 := upR_of (s := s) (a := 1) (b := 2) (by decide) hF hf
    have hF1 := hF.upTo 1 1
    have hf1 : fitsB (upTo s 1 1) 2 = true := by have := fits_upTo 1 1 hf (by decide) (by decide); exact this
    have h23 := upR_of (s := upTo s 1 1) (a := 2) (b := 3) (by decide) hF1 hf1
    have hadd : upTo s 1 2 = upTo (upTo s 1 1) 2 1 := upTo_add s 1 1 1
    rw [show (1 : Int).toNat = 1 from rfl, show ((3 : Int) - 1).toNat = 2 from rfl] at h13
    rw [show (1 : Int).toNat = 1 from rfl, show ((2 : Int) - 1).toNat = 1 from rfl] at h12
    rw [show (2 : Int).toNat = 2 from rfl, show ((3 : Int) - 2).toNat = 1 from rfl, ← hadd] at h23
    have hFu := hF.upTo 1 2
    have HSB := Lib.hid hF1.sz
    have HSU := Lib.hid hFu.sz
    have H13 := Lib.hid h13
    have H12 := Lib.hid h12
    have H23 := Lib.hid h23
    generalize upTo s 1 2 = u at *
    generalize upTo s 1 1 = b at *
    clear h0 hF hf h13 h12 hF1 hf1 h23 hadd hFu
    go_enter Tryd.func8, Tryd.ntmps8
    go_wp2_with fail
    generalize w.alloc _ = W_1 at *
    refine (upped_any _ (HT.out.below hb0)).mono ?_
    rintro e w_2 ⟨rfl, hb_3⟩
    have b_4 := bx0.below hb_3 bx0.lt
    have c_5 := hb0.trans (hb_3.mono hb0.size)
    clear bx0 hb0 hb_3
    go_wp2_with (first | (refine wpList_load_blk_w (by rfl) _ _ rfl (w.heap.size) rfl _ #[Value.int .i64 s.rev, Value.slice p1 s.jobs.length c1, Value.slice p2 s.nodes.length c2, Value.slice p3 s.leases.length c3] b_4 _ Tryd.underlying26 rfl state_size ?_))
    refine (HU.out 3 _ c_5).mono ?_
    rintro e w_6 ⟨t, er, q1, q2, q3, d1, d2, d3, rfl, hmt, hb_7, hd⟩
    rw [H13.out] at hd
    injection hd with h1 h2
    subst h1 h2
    have b_8 := b_4.below hb_7 b_4.lt
    have c_9 := c_5.trans (hb_7.mono c_5.size)
    clear b_4 c_5 hb_7
    have k_10 := Below.refl w_6.heap.size w_6
    have HMU := Lib.hid hmt
    clear hmt
    have b_11 := b_8.alloc (.cells #[Value.int .i64 u.rev, Value.slice q1 u.jobs.length d1, Value.slice q2 u.nodes.length d2, Value.slice q3 u.leases.length d3] 26)
    have b_12 := Blk.new w_6 26 #[Value.int .i64 u.rev, Value.slice q1 u.jobs.length d1, Value.slice q2 u.nodes.length d2, Value.slice q3 u.leases.length d3]
    have c_13 := c_9.alloc c_9.size (.cells #[Value.int .i64 u.rev, Value.slice q1 u.jobs.length d1, Value.slice q2 u.nodes.length d2, Value.slice q3 u.leases.length d3] 26)
    have c_14 := k_10.alloc k_10.size (.cells #[Value.int .i64 u.rev, Value.slice q1 u.jobs.length d1, Value.slice q2 u.nodes.length d2, Value.slice q3 u.leases.length d3] 26)
    clear b_8 c_9 k_10
    go_wp2_with (first | (refine wpList_store_new rfl _ _ _ rfl rfl 26 _ #[Value.int .i64 u.rev, Value.slice q1 u.jobs.length d1, Value.slice q2 u.nodes.length d2, Value.slice q3 u.leases.length d3] rfl state_size rfl (one_st4 _ _ _ _ _ _ _ _ _ _) ?_) | (refine wpList_load_blk_w (by rfl) _ _ rfl (w.heap.size) rfl _ #[Value.int .i64 s.rev, Value.slice p1 s.jobs.length c1, Value.slice p2 s.nodes.length c2, Value.slice p3 s.leases.length c3] b_11 _ Tryd.underlying26 rfl state_size ?_) | (refine wpList_load_blk_w (by rfl) _ _ rfl (w_6.heap.size) rfl _ #[Value.int .i64 u.rev, Value.slice q1 u.jobs.length d1, Value.slice q2 u.nodes.length d2, Value.slice q3 u.leases.length d3] b_12 _ Tryd.underlying26 rfl state_size ?_))
    generalize w_6.alloc _ = W_15 at *
    refine (HU.out 2 _ c_13).mono ?_
    rintro e w_16 ⟨t, er, r1, r2, r3, g1, g2, g3, rfl, hmt, hb_17, hd⟩
    rw [H12.out] at hd
    injection hd with h1 h2
    subst h1 h2
    have b_18 := b_11.below hb_17 b_11.lt
    have b_19 := b_12.below hb_17 b_12.lt
    have c_20 := c_13.trans (hb_17.mono c_13.size)
    have c_21 := c_14.trans (hb_17.mono c_14.size)
    clear b_11 b_12 c_13 c_14 hb_17
    have k_22 := Below.refl w_16.heap.size w_16
    have HMB := Lib.hid hmt
    clear hmt
    have b_23 := b_18.alloc (.cells #[Value.int .i64 b.rev, Value.slice r1 b.jobs.length g1, Value.slice r2 b.nodes.length g2, Value.slice r3 b.leases.length g3] 26)
    have b_24 := b_19.alloc (.cells #[Value.int .i64 b.rev, Value.slice r1 b.jobs.length g1, Value.slice r2 b.nodes.length g2, Value.slice r3 b.leases.length g3] 26)
    have b_25 := Blk.new w_16 26 #[Value.int .i64 b.rev, Value.slice r1 b.jobs.length g1, Value.slice r2 b.nodes.length g2, Value.slice r3 b.leases.length g3]
    have c_26 := c_20.alloc c_20.size (.cells #[Value.int .i64 b.rev, Value.slice r1 b.jobs.length g1, Value.slice r2 b.nodes.length g2, Value.slice r3 b.leases.length g3] 26)
    have c_27 := c_21.alloc c_21.size (.cells #[Value.int .i64 b.rev, Value.slice r1 b.jobs.length g1, Value.slice r2 b.nodes.length g2, Value.slice r3 b.leases.length g3] 26)
    have c_28 := k_22.alloc k_22.size (.cells #[Value.int .i64 b.rev, Value.slice r1 b.jobs.length g1, Value.slice r2 b.nodes.length g2, Value.slice r3 b.leases.length g3] 26)
    clear b_18 b_19 c_20 c_21 k_22
    go_wp2_with (first | (refine wpList_store_new rfl _ _ _ rfl rfl 26 _ #[Value.int .i64 b.rev, Value.slice r1 b.jobs.length g1, Value.slice r2 b.nodes.length g2, Value.slice r3 b.leases.length g3] rfl state_size rfl (one_st4 _ _ _ _ _ _ _ _ _ _) ?_) | (refine wpList_load_blk_w (by rfl) _ _ rfl (w.heap.size) rfl _ #[Value.int .i64 s.rev, Value.slice p1 s.jobs.length c1, Value.slice p2 s.nodes.length c2, Value.slice p3 s.leases.length c3] b_23 _ Tryd.underlying26 rfl state_size ?_) | (refine wpList_load_blk_w (by rfl) _ _ rfl (w_6.heap.size) rfl _ #[Value.int .i64 u.rev, Value.slice q1 u.jobs.length d1, Value.slice q2 u.nodes.length d2, Value.slice q3 u.leases.length d3] b_24 _ Tryd.underlying26 rfl state_size ?_) | (refine wpList_load_blk_w (by rfl) _ _ rfl (w_16.heap.size) rfl _ #[Value.int .i64 b.rev, Value.slice r1 b.jobs.length g1, Value.slice r2 b.nodes.length g2, Value.slice r3 b.leases.length g3] b_25 _ Tryd.underlying26 rfl state_size ?_))
    generalize w_16.alloc _ = W_29 at *
    refine (upState_any b 2 3 r1 r2 r3 g1 g2 g3 _ ((HMB.out.below c_28).more c_28.size) HSB.out (HT.out.below c_26)).mono ?_
    rintro e w_30 ⟨t, er, x1, x2, x3, y1, y2, y3, rfl, hmt, hb_31, hd⟩
    rw [H23.out] at hd
    injection hd with h1 h2
    subst h1 h2
    have b_32 := b_23.below hb_31 b_23.lt
    have b_33 := b_24.below hb_31 b_24.lt
    have b_34 := b_25.below hb_31 b_25.lt
    have c_35 := c_26.trans (hb_31.mono c_26.size)
    have c_36 := c_27.trans (hb_31.mono c_27.size)
    have c_37 := c_28.trans (hb_31.mono c_28.size)
    clear b_23 b_24 b_25 c_26 c_27 c_28 hb_31
    have k_38 := Below.refl w_30.heap.size w_30
    have HMC := Lib.hid hmt
    clear hmt
    have b_39 := b_32.alloc (.cells #[Value.int .i64 u.rev, Value.slice x1 u.jobs.length y1, Value.slice x2 u.nodes.length y2, Value.slice x3 u.leases.length y3] 26)
    have b_40 := b_33.alloc (.cells #[Value.int .i64 u.rev, Value.slice x1 u.jobs.length y1, Value.slice x2 u.nodes.length y2, Value.slice x3 u.leases.length y3] 26)
    have b_41 := b_34.alloc (.cells #[Value.int .i64 u.rev, Value.slice x1 u.jobs.length y1, Value.slice x2 u.nodes.length y2, Value.slice x3 u.leases.length y3] 26)
    have b_42 := Blk.new w_30 26 #[Value.int .i64 u.rev, Value.slice x1 u.jobs.length y1, Value.slice x2 u.nodes.length y2, Value.slice x3 u.leases.length y3]
    have c_43 := c_35.alloc c_35.size (.cells #[Value.int .i64 u.rev, Value.slice x1 u.jobs.length y1, Value.slice x2 u.nodes.length y2, Value.slice x3 u.leases.length y3] 26)
    have c_44 := c_36.alloc c_36.size (.cells #[Value.int .i64 u.rev, Value.slice x1 u.jobs.length y1, Value.slice x2 u.nodes.length y2, Value.slice x3 u.leases.length y3] 26)
    have c_45 := c_37.alloc c_37.size (.cells #[Value.int .i64 u.rev, Value.slice x1 u.jobs.length y1, Value.slice x2 u.nodes.length y2, Value.slice x3 u.leases.length y3] 26)
    have c_46 := k_38.alloc k_38.size (.cells #[Value.int .i64 u.rev, Value.slice x1 u.jobs.length y1, Value.slice x2 u.nodes.length y2, Value.slice x3 u.leases.length y3] 26)
    clear b_32 b_33 b_34 c_35 c_36 c_37 k_38
    go_wp2_with (first | (refine wpList_store_new rfl _ _ _ rfl rfl 26 _ #[Value.int .i64 u.rev, Value.slice x1 u.jobs.length y1, Value.slice x2 u.nodes.length y2, Value.slice x3 u.leases.length y3] rfl state_size rfl (one_st4 _ _ _ _ _ _ _ _ _ _) ?_) | (refine wpList_load_blk_w (by rfl) _ _ rfl (w.heap.size) rfl _ #[Value.int .i64 s.rev, Value.slice p1 s.jobs.length c1, Value.slice p2 s.nodes.length c2, Value.slice p3 s.leases.length c3] b_39 _ Tryd.underlying26 rfl state_size ?_) | (refine wpList_load_blk_w (by rfl) _ _ rfl (w_6.heap.size) rfl _ #[Value.int .i64 u.rev, Value.slice q1 u.jobs.length d1, Value.slice q2 u.nodes.length d2, Value.slice q3 u.leases.length d3] b_40 _ Tryd.underlying26 rfl state_size ?_) | (refine wpList_load_blk_w (by rfl) _ _ rfl (w_16.heap.size) rfl _ #[Value.int .i64 b.rev, Value.slice r1 b.jobs.length g1, Value.slice r2 b.nodes.length g2, Value.slice r3 b.leases.length g3] b_41 _ Tryd.underlying26 rfl state_size ?_) | (refine wpList_load_blk_w (by rfl) _ _ rfl (w_30.heap.size) rfl _ #[Value.int .i64 u.rev, Value.slice x1 u.jobs.length y1, Value.slice x2 u.nodes.length y2, Value.slice x3 u.leases.length y3] b_42 _ Tryd.underlying26 rfl state_size ?_))
    generalize w_30.alloc _ = W_47 at *
    refine (same_any u u q1 q2 q3 x1 x2 x3 d1 d2 d3 y1 y2 y3 _ ((HMU.out.below c_44).more c_44.size) ((HMC.out.below c_46).more c_46.size) HSU.out HSU.out).mono ?_
    rintro e w_48 ⟨rfl, hb_49⟩
    have b_50 := b_39.below hb_49 b_39.lt
    have b_51 := b_40.below hb_49 b_40.lt
    have b_52 := b_41.below hb_49 b_41.lt
    have b_53 := b_42.below hb_49 b_42.lt
    have c_54 := c_43.trans (hb_49.mono c_43.size)
    have c_55 := c_44.trans (hb_49.mono c_44.size)
    have c_56 := c_45.trans (hb_49.mono c_45.size)
    have c_57 := c_46.trans (hb_49.mono c_46.size)
    clear b_39 b_40 b_41 b_42 c_43 c_44 c_45 c_46 hb_49
    simp only [decide_true]
    go_wp2_with (first | (refine wpList_load_blk_w (by rfl) _ _ rfl (w.heap.size) rfl _ #[Value.int .i64 s.rev, Value.slice p1 s.jobs.length c1, Value.slice p2 s.nodes.length c2, Value.slice p3 s.leases.length c3] b_50 _ Tryd.underlying26 rfl state_size ?_) | (refine wpList_load_blk_w (by rfl) _ _ rfl (w_6.heap.size) rfl _ #[Value.int .i64 u.rev, Value.slice q1 u.jobs.length d1, Value.slice q2 u.nodes.length d2, Value.slice q3 u.leases.length d3] b_51 _ Tryd.underlying26 rfl state_size ?_) | (refine wpList_load_blk_w (by rfl) _ _ rfl (w_16.heap.size) rfl _ #[Value.int .i64 b.rev, Value.slice r1 b.jobs.length g1, Value.slice r2 b.nodes.length g2, Value.slice r3 b.leases.length g3] b_52 _ Tryd.underlying26 rfl state_size ?_) | (refine wpList_load_blk_w (by rfl) _ _ rfl (w_30.heap.size) rfl _ #[Value.int .i64 u.rev, Value.slice x1 u.jobs.length y1, Value.slice x2 u.nodes.length y2, Value.slice x3 u.leases.length y3] b_53 _ Tryd.underlying26 rfl state_size ?_))
    go_ret
    exact ⟨rfl, c_54⟩
  · have h12 : (upR s 1 2).2 = (upR s 1 3).2 := upR_err s (by decide) (by decide)
    have hne : (((upR s 1 3).2 : Int) != 0) = true := by rw [bne_iff_ne]; omega
    have hd13 : upR s 1 3 = ((upR s 1 3).1, (upR s 1 3).2) := rfl
    have hd12 : upR s 1 2 = ((upR s 1 2).1, (upR s 1 3).2) := by rw [← h12]
    have H13 := Lib.hid hd13
    have H12 := Lib.hid hd12
    clear h12 hd13 hd12 h0
    have H13' : Hid (∃ z, upR s 1 3 = (z, (upR s 1 3).2)) := Lib.hid ⟨_, H13.out⟩
    have H12' : Hid (∃ z, upR s 1 2 = (z, (upR s 1 3).2)) := Lib.hid ⟨_, H12.out⟩
    clear H13 H12
    generalize (upR s 1 3).2 = ee at *
    go_enter Tryd.func8, Tryd.ntmps8
    go_wp2_with fail
    generalize w.alloc _ = W_1 at *
    refine (upped_any _ (HT.out.below hb0)).mono ?_
    rintro e w_2 ⟨rfl, hb_3⟩
    have b_4 := bx0.below hb_3 bx0.lt
    have c_5 := hb0.trans (hb_3.mono hb0.size)
    clear bx0 hb0 hb_3
    go_wp2_with (first | (refine wpList_load_blk_w (by rfl) _ _ rfl (w.heap.size) rfl _ #[Value.int .i64 s.rev, Value.slice p1 s.jobs.length c1, Value.slice p2 s.nodes.length c2, Value.slice p3 s.leases.length c3] b_4 _ Tryd.underlying26 rfl state_size ?_))
    refine (HU.out 3 _ c_5).mono ?_
    rintro e w_6 ⟨t, er, q1, q2, q3, d1, d2, d3, rfl, hmt, hb_7, hd⟩
    obtain ⟨z, hz⟩ := H13'.out
    rw [hz] at hd
    injection hd with h1 h2
    subst h1 h2
    clear hmt hz
    have b_8 := b_4.below hb_7 b_4.lt
    have c_9 := c_5.trans (hb_7.mono c_5.size)
    clear b_4 c_5 hb_7
    have k_10 := Below.refl w_6.heap.size w_6
    clear k_10
    have b_11 := b_8.alloc (.cells #[Value.int .i64 z.rev, Value.slice q1 z.jobs.length d1, Value.slice q2 z.nodes.length d2, Value.slice q3 z.leases.length d3] 26)
    have b_12 := Blk.new w_6 26 #[Value.int .i64 z.rev, Value.slice q1 z.jobs.length d1, Value.slice q2 z.nodes.length d2, Value.slice q3 z.leases.length d3]
    have c_13 := c_9.alloc c_9.size (.cells #[Value.int .i64 z.rev, Value.slice q1 z.jobs.length d1, Value.slice q2 z.nodes.length d2, Value.slice q3 z.leases.length d3] 26)
    clear b_8 c_9
    go_wp2_with (first | (refine wpList_store_new rfl _ _ _ rfl rfl 26 _ #[Value.int .i64 z.rev, Value.slice q1 z.jobs.length d1, Value.slice q2 z.nodes.length d2, Value.slice q3 z.leases.length d3] rfl state_size rfl (one_st4 _ _ _ _ _ _ _ _ _ _) ?_) | (refine wpList_load_blk_w (by rfl) _ _ rfl (w.heap.size) rfl _ #[Value.int .i64 s.rev, Value.slice p1 s.jobs.length c1, Value.slice p2 s.nodes.length c2, Value.slice p3 s.leases.length c3] b_11 _ Tryd.underlying26 rfl state_size ?_) | (refine wpList_load_blk_w (by rfl) _ _ rfl (w_6.heap.size) rfl _ #[Value.int .i64 z.rev, Value.slice q1 z.jobs.length d1, Value.slice q2 z.nodes.length d2, Value.slice q3 z.leases.length d3] b_12 _ Tryd.underlying26 rfl state_size ?_))
    generalize w_6.alloc _ = W_14 at *
    refine (HU.out 2 _ c_13).mono ?_
    rintro e w_15 ⟨t, er, r1, r2, r3, g1, g2, g3, rfl, hmt, hb_16, hd⟩
    obtain ⟨y, hy⟩ := H12'.out
    rw [hy] at hd
    injection hd with h1 h2
    subst h1 h2
    clear hmt hy
    have b_17 := b_11.below hb_16 b_11.lt
    have b_18 := b_12.below hb_16 b_12.lt
    have c_19 := c_13.trans (hb_16.mono c_13.size)
    clear b_11 b_12 c_13 hb_16
    have k_20 := Below.refl w_15.heap.size w_15
    clear k_20
    have b_21 := b_17.alloc (.cells #[Value.int .i64 y.rev, Value.slice r1 y.jobs.length g1, Value.slice r2 y.nodes.length g2, Value.slice r3 y.leases.length g3] 26)
    have b_22 := b_18.alloc (.cells #[Value.int .i64 y.rev, Value.slice r1 y.jobs.length g1, Value.slice r2 y.nodes.length g2, Value.slice r3 y.leases.length g3] 26)
    have b_23 := Blk.new w_15 26 #[Value.int .i64 y.rev, Value.slice r1 y.jobs.length g1, Value.slice r2 y.nodes.length g2, Value.slice r3 y.leases.length g3]
    have c_24 := c_19.alloc c_19.size (.cells #[Value.int .i64 y.rev, Value.slice r1 y.jobs.length g1, Value.slice r2 y.nodes.length g2, Value.slice r3 y.leases.length g3] 26)
    clear b_17 b_18 c_19
    go_wp2_with (first | (refine wpList_store_new rfl _ _ _ rfl rfl 26 _ #[Value.int .i64 y.rev, Value.slice r1 y.jobs.length g1, Value.slice r2 y.nodes.length g2, Value.slice r3 y.leases.length g3] rfl state_size rfl (one_st4 _ _ _ _ _ _ _ _ _ _) ?_) | (refine wpList_load_blk_w (by rfl) _ _ rfl (w.heap.size) rfl _ #[Value.int .i64 s.rev, Value.slice p1 s.jobs.length c1, Value.slice p2 s.nodes.length c2, Value.slice p3 s.leases.length c3] b_21 _ Tryd.underlying26 rfl state_size ?_) | (refine wpList_load_blk_w (by rfl) _ _ rfl (w_6.heap.size) rfl _ #[Value.int .i64 z.rev, Value.slice q1 z.jobs.length d1, Value.slice q2 z.nodes.length d2, Value.slice q3 z.leases.length d3] b_22 _ Tryd.underlying26 rfl state_size ?_) | (refine wpList_load_blk_w (by rfl) _ _ rfl (w_15.heap.size) rfl _ #[Value.int .i64 y.rev, Value.slice r1 y.jobs.length g1, Value.slice r2 y.nodes.length g2, Value.slice r3 y.leases.length g3] b_23 _ Tryd.underlying26 rfl state_size ?_))
    go_ret
    exact ⟨rfl, c_24⟩

theorem own : ownKnob Tryd.prog.godebug = none := by kernel_rfl
theorem laid : laidOutB Tryd.prog = true := by kernel_rfl
set_option maxRecDepth 100000 in
theorem contract (H : Type) (enc : TypeId × Value → H) (W : World) (base : Nat) (args : Array Value) (ds gs : List (DataW H)) (before : List MemPlace)
    (hval0 : ∀ (j : Nat) t v, Tryd.f8.params[j]? = some t → args[j]? = some v → Value.okWide Tryd.prog W .any base t v)
    (hW : DataW.Whole enc Tryd.prog Tryd.f8.params.toList Rows.upStepsSpec.vars false W args.toList ds gs before)
    (hsz0 : (DataW.weightsEach Tryd.prog (Tryd.f8.params.toList ++ Rows.upStepsSpec.plain.varTypes Tryd.prog) (ds ++ gs)).all (· ≤ reachBytes) = true)
    (hT : Tabs W) :
    Calls Tryd.prog 8 args W fun e W' => ∃ v, e = .returned v ∧ Rows.upStepsSpec.post enc Tryd.prog Tryd.f8 false true false false W args v W' := by
  have hval : ∀ (j : Nat) t v, Tryd.f8.params[j]? = some t → args[j]? = some v → Value.okWide Tryd.prog W .any base t v := hval0
  have hsz : (DataW.weightsEach Tryd.prog (Tryd.f8.params.toList ++ Rows.upStepsSpec.plain.varTypes Tryd.prog) (ds ++ gs)).all (· ≤ reachBytes) = true := hsz0
  have hlt : ∀ x ∈ before, x.block < W.heap.size := fun x hx => hW.lt x hx
  have hW' := hW
  obtain ⟨p, q, hA0, hV, rfl, hfz, hnd⟩ := hW
  have hA : DataW.TrodAll enc Tryd.prog W 0 (fun _ => true) true Tryd.f8.params.toList args.toList ds p := hA0
  rw [Tryd.params8] at hA hval hsz
  obtain ⟨v0, vs0, d0, ds0, p0, q0, hargs, rfl, rfl, h0, r0⟩ := trodAll_cons hA
  obtain ⟨rfl, rfl, rfl⟩ := trodAll_nil r0
  obtain rfl : args = #[v0] := by cases args; simp_all
  obtain ⟨rfl, rfl⟩ := trodVars_none hV
  obtain ⟨s0, pj0, pn0, pl0, cj0, cn0, cl0, rfl, hm0, hk0⟩ := open_state (hval 0 26 v0 rfl rfl) h0 hsz (j := 0) rfl rfl
  refine (walk s0 pj0 pn0 pl0 cj0 cn0 cl0 W hm0 hk0 hT).mono fun e W' ⟨he, hb⟩ => ?_
  subst he
  exact ⟨_, rfl, law_post laid (by kernel_rfl) Tryd.underlying4 rfl rfl hW' rfl rfl rfl rfl hb⟩

theorem reads (os : Os) {H : Type} (enc : TypeId × Value → H) : ∃ places, DataW.whole enc Tryd.prog ((laidWorld os).forCall (fun _ _ => 0) ⟨#[], #[.agg #[.int .i64 0, .slice none 0 0, .slice none 0 0, .slice none 0 0]], []⟩).memory Tryd.f8.params.toList Rows.upStepsSpec.vars false (#[.agg #[.int .i64 0, .slice none 0 0, .slice none 0 0, .slice none 0 0]] : Array Value).toList 8 = some ([.agg [.lit (.int .i64 0), .nil, .nil, .nil]], [], places) :=
  ⟨[], by kernel_rfl⟩
set_option maxRecDepth 100000 in
theorem lifted (os : Os) (started : os.Started) (H : Type) (enc : TypeId × Value → H) (F : Stop.Interp) :
    ReturnsInHanded {} Tryd.checked os 8 .any ((OpenSpec.ofChange Rows.upStepsSpec).preRow enc Tryd.prog Tryd.f8 Rows.upStepsRow.domain false Rows.upStepsRow.laid) (((OpenSpec.ofChange Rows.upStepsSpec).at F).post enc Tryd.prog Tryd.f8 false true false false) := by
  obtain ⟨places, hx⟩ := reads os enc
  refine returnsInHanded_of_row (C := Tryd.checked) (s := (OpenSpec.ofChange Rows.upStepsSpec)) own started (by kernel_rfl) Tryd.func8
    (witness_row_atRef (enc := enc) (C := Tryd.checked) false (laidWorld os) #[.agg #[.int .i64 0, .slice none 0 0, .slice none 0 0, .slice none 0 0]] rfl (by kernel_rfl) (by kernel_rfl) (by kernel_rfl)
      (OpenSpec.preRow_of_cond 8 hx (by kernel_rfl) (fun k hk => by cases hk) (by kernel_rfl) (laid_met os _))) ?_
  intro W base args ds gs before hval0 hW _ hcond hsz0 hL _ _
  exact contract H enc W base args ds gs before hval0 hW hsz0 (tabs_of_laid hL)

theorem said : Rows.UpStepsSaid :=
  OpenClaim.holds_of_cond 8 Tryd.f8 rfl rfl rfl rfl rfl rfl rfl ⟨rfl, rfl, rfl, rfl, rfl⟩ rfl rfl rfl rfl rfl (by kernel_rfl) Tryd.func8 (by kernel_rfl)
    (of_decide_eq_true (by kernel_rfl)) (by unfold Func.isWrapper; first | (rw [if_pos (by decide +kernel)]; kernel_rfl) | (rw [if_neg (by decide +kernel)]; exact ⟨rfl, rfl⟩))
    (fun os started H enc _ F => by rw [OpenClaim.pre_eq_preRow]; exact lifted os started H enc F)

/-- No parameter wants a stand-in; the program's own looks are off. -/
theorem plain (f : FuncId) (fn : Func) (hf : Tryd.pinned.checked.prog.funcNamed "bracken/brackenkeep.UpSteps" = some f) (hfn : Tryd.pinned.checked.prog.funcs[f]? = some fn) :
    false = Tryd.pinned.checked.prog.looks [] ∧ ∀ (j : Nat) t, fn.params[j]? = some t → Tryd.pinned.checked.prog.wantsStandIn t = false := by
  obtain rfl : f = 8 := Option.some.inj ((show Tryd.prog.funcNamed "bracken/brackenkeep.UpSteps" = some 8 by kernel_rfl).symm.trans hf) |>.symm
  obtain rfl : fn = Tryd.f8 := (Option.some.inj (Tryd.func8.symm.trans hfn)).symm
  refine ⟨by kernel_rfl, fun j t ht => ?_⟩
  rw [Tryd.params8] at ht
  have hm := Array.mem_of_getElem? ht
  have hall : (#[26] : Array TypeId).all (fun t => !Tryd.prog.wantsStandIn t) = true := by kernel_rfl
  have := Array.all_eq_true_iff_forall_mem.1 hall t (by simpa using hm)
  show Tryd.prog.wantsStandIn t = false
  simpa using this

/-- The statement. -/
theorem proved : Rows.UpStepsCardSaid :=
  Claim7.holds_tied_plain_at .later [] _ _ _ _ said (fun _ h => by cases h) (by kernel_rfl) (fun _ h => by cases h) upSteps_row_tie rfl ⟨rfl, rfl⟩ (by kernel_rfl) rfl plain (by kernel_rfl)
#print axioms proved
end Go.Proofs.YtejdhcipmkaboaaDoor.upSteps
