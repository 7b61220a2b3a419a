/-
  The law UpLost of package brackenkeep: for every input it answers true.
-/
import Derived.Test.YtejdhcipmkaboaaDoorRows
import Derived.Test.YtejdhcipmkaboaaDoorPkBase
import Derived.Test.YtejdhcipmkaboaaDoorPkDown
import Derived.Test.YtejdhcipmkaboaaDoorPkUp
import Derived.Test.YtejdhcipmkaboaaDoorPkUpB
import Derived.Test.YtejdhcipmkaboaaDoorPkSame
import Derived.Test.YtejdhcipmkaboaaDoorPkStateB
set_option linter.unusedVariables false
set_option linter.unusedSimpArgs false
namespace Go.Proofs.YtejdhcipmkaboaaDoor.upLost
open Go.ChangeShapes Go.WideShapes Go.ChangeAt Go.RowKit Go.Joins
open Go.ChangeMaps (open_string)
set_option maxHeartbeats 8000000 in
set_option maxRecDepth 100000 in
theorem walk (s : St) (p1 p2 p3 : Option Addr) (c1 c2 c3 : Nat) (w : World) (hm : StM w w.heap.size p1 p2 p3 s) (hk : StOk s) (n : Int) (n1 : -9223372036854775808 ≤ n) (n2 : n ≤ 9223372036854775807) (hT : Tabs w) :
    Calls Tryd.prog 11 #[.agg #[.int .i64 s.rev, .slice p1 s.jobs.length c1, .slice p2 s.nodes.length c2, .slice p3 s.leases.length c3], .int .i64 n] w fun e w' => e = .returned (.bool true) ∧ Below w.heap.size w w' := by
  have hb0 : Below w.heap.size w (w.alloc (.cells #[Value.int .i64 s.rev, Value.slice p1 s.jobs.length c1, Value.slice p2 s.nodes.length c2, Value.slice p3 s.leases.length c3] 26)) := (Below.refl _ _).alloc (Nat.le_refl _) _
  have bx0 := Blk.new w 26 #[Value.int .i64 s.rev, Value.slice p1 s.jobs.length c1, Value.slice p2 s.nodes.length c2, Value.slice p3 s.leases.length c3]
  have hz := hk.sz
  have h30 := Int.emod_nonneg n (show (3 : Int) ≠ 0 by decide)
  have h33 := Int.emod_lt_of_pos n (show (0 : Int) < 3 by decide)
  have HR := Lib.hid (fun (W : World) => rest_any n 3 W (by decide) (by decide))
  generalize n % 3 = m at *
  obtain ⟨v, rfl⟩ : ∃ v : Nat, m = (v : Int) - 1 := ⟨(m + 1).toNat, by omega⟩
  have hv : 1 ≤ v ∧ v ≤ 3 := by omega
  have HD := Lib.hid (fun (W : World) (hW : Below w.heap.size w W) => upDown_any s (v : Int) p1 p2 p3 c1 c2 c3 W ((hm.below hW).more hW.size) hz (hT.below hW))
  have HM := Lib.hid hm
  have HZ := Lib.hid hz
  have HT := Lib.hid hT
  have hzs := zero_state_lit
  clear hm hk hz hT n1 n2
  by_cases h0 : (downR s (v : Int)).2.2 = 0
  · obtain ⟨hF, hvv, hdn⟩ := downR_ok h0
    have hFd := hF.down (v : Int)
    have hfd := fits_down s hvv.1 hvv.2
    have hu := upR_of (a := (v : Int)) (b := 3) ⟨hvv.1, hvv.2, by decide⟩ hFd hfd
    have hft : fitsR (downS (v : Int) s) (v : Int) = (true, 0) := by rw [fitsR_in _ _ hvv, if_neg (by rw [(fine_iff _).2 hFd]; simp), hfd]
    have hd2 := downR_of (k := (v : Int)) hFd hvv
    have hdd := down_down s (v : Int) (v : Int) (Int.le_refl _)
    rw [hdd] at hd2
    have hB := downB_iff (s := s) (k := (v : Int))
    have hul : upTo (downS (v : Int) s) ((v : Int)).toNat ((3 : Int) - (v : Int)).toNat = upLast s (v : Int) := rfl
    rw [hul] at hu
    have hFu : Fine (upLast s (v : Int)) := hFd.upTo _ _
    have HDN := Lib.hid hdn
    have HU2 := Lib.hid hu
    have HFT := Lib.hid hft
    have HD2 := Lib.hid hd2
    have HB := Lib.hid hB
    have HSD := Lib.hid hFd.sz
    have HSU := Lib.hid hFu.sz
    generalize upLast s (v : Int) = u at *
    generalize downB s (v : Int) = bb at *
    generalize downB (downS (v : Int) s) (v : Int) = b2 at *
    generalize downS (v : Int) s = dd at *
    clear h0 hF hvv hdn hFd hfd hu hft hd2 hdd hB hul hFu
    go_enter Tryd.func11, Tryd.ntmps11
    go_wp2_with fail
    generalize w.alloc _ = W_1 at *
    refine (upped_any _ (HT.out.below hb0)).mono ?_
    rintro e w_2 ⟨rfl, hb_3⟩
    have b_4 := bx0.below hb_3 bx0.lt
    have c_5 := hb0.trans (hb_3.mono hb0.size)
    clear bx0 hb0 hb_3
    go_wp2_with (first | (refine wpList_load_blk_w (by rfl) _ _ rfl (w.heap.size) rfl _ #[Value.int .i64 s.rev, Value.slice p1 s.jobs.length c1, Value.slice p2 s.nodes.length c2, Value.slice p3 s.leases.length c3] b_4 _ Tryd.underlying26 rfl state_size ?_))
    refine (HR.out _).mono ?_
    rintro e w' ⟨rfl, rfl⟩
    go_wp2_with (first | (refine wpList_load_blk_w (by rfl) _ _ rfl (w.heap.size) rfl _ #[Value.int .i64 s.rev, Value.slice p1 s.jobs.length c1, Value.slice p2 s.nodes.length c2, Value.slice p3 s.leases.length c3] b_4 _ Tryd.underlying26 rfl state_size ?_))
    refine (HD.out _ c_5).mono ?_
    rintro e w_6 ⟨t, is, er, q1, q2, q3, d1, d2, d3, rfl, hmt, hb_7, hd⟩
    rw [HDN.out] at hd
    injection hd with h1 h2
    injection h2 with h2 h3
    subst h1 h2 h3
    have b_8 := b_4.below hb_7 b_4.lt
    have c_9 := c_5.trans (hb_7.mono c_5.size)
    clear b_4 c_5 hb_7
    have k_10 := Below.refl w_6.heap.size w_6
    have HMD := Lib.hid hmt
    clear hmt
    have b_11 := b_8.alloc (.cells #[Value.int .i64 dd.rev, Value.slice q1 dd.jobs.length d1, Value.slice q2 dd.nodes.length d2, Value.slice q3 dd.leases.length d3] 26)
    have b_12 := Blk.new w_6 26 #[Value.int .i64 dd.rev, Value.slice q1 dd.jobs.length d1, Value.slice q2 dd.nodes.length d2, Value.slice q3 dd.leases.length d3]
    have c_13 := c_9.alloc c_9.size (.cells #[Value.int .i64 dd.rev, Value.slice q1 dd.jobs.length d1, Value.slice q2 dd.nodes.length d2, Value.slice q3 dd.leases.length d3] 26)
    have c_14 := k_10.alloc k_10.size (.cells #[Value.int .i64 dd.rev, Value.slice q1 dd.jobs.length d1, Value.slice q2 dd.nodes.length d2, Value.slice q3 dd.leases.length d3] 26)
    clear b_8 c_9 k_10
    go_wp2_with (first | (refine wpList_store_new rfl _ _ _ rfl rfl 26 _ #[Value.int .i64 dd.rev, Value.slice q1 dd.jobs.length d1, Value.slice q2 dd.nodes.length d2, Value.slice q3 dd.leases.length d3] rfl state_size rfl (one_st4 _ _ _ _ _ _ _ _ _ _) ?_) | (refine wpList_load_blk_w (by rfl) _ _ rfl (w.heap.size) rfl _ #[Value.int .i64 s.rev, Value.slice p1 s.jobs.length c1, Value.slice p2 s.nodes.length c2, Value.slice p3 s.leases.length c3] b_11 _ Tryd.underlying26 rfl state_size ?_) | (refine wpList_load_blk_w (by rfl) _ _ rfl (w_6.heap.size) rfl _ #[Value.int .i64 dd.rev, Value.slice q1 dd.jobs.length d1, Value.slice q2 dd.nodes.length d2, Value.slice q3 dd.leases.length d3] b_12 _ Tryd.underlying26 rfl state_size ?_))
    generalize w_6.alloc _ = W_15 at *
    have hft := stFits_any dd (v : Int) q1 q2 q3 d1 d2 d3 _ ((HMD.out.below c_14).more c_14.size) HSD.out (HT.out.below c_13)
    rw [HFT.out] at hft
    have HF1 := Lib.hid hft
    clear hft
    refine (HF1.out).mono ?_
    rintro e w_16 ⟨rfl, hb_17⟩
    have b_18 := b_11.below hb_17 b_11.lt
    have b_19 := b_12.below hb_17 b_12.lt
    have c_20 := c_13.trans (hb_17.mono c_13.size)
    have c_21 := c_14.trans (hb_17.mono c_14.size)
    clear b_11 b_12 c_13 c_14 hb_17
    go_wp2_with (first | (refine wpList_load_blk_w (by rfl) _ _ rfl (w.heap.size) rfl _ #[Value.int .i64 s.rev, Value.slice p1 s.jobs.length c1, Value.slice p2 s.nodes.length c2, Value.slice p3 s.leases.length c3] b_18 _ Tryd.underlying26 rfl state_size ?_) | (refine wpList_load_blk_w (by rfl) _ _ rfl (w_6.heap.size) rfl _ #[Value.int .i64 dd.rev, Value.slice q1 dd.jobs.length d1, Value.slice q2 dd.nodes.length d2, Value.slice q3 dd.leases.length d3] b_19 _ Tryd.underlying26 rfl state_size ?_))
    refine (upState_any dd (v : Int) 3 q1 q2 q3 d1 d2 d3 _ ((HMD.out.below c_21).more c_21.size) HSD.out (HT.out.below c_20)).mono ?_
    rintro e w_22 ⟨t, er, r1, r2, r3, g1, g2, g3, rfl, hmt, hb_23, hd⟩
    rw [HU2.out] at hd
    injection hd with h1 h2
    subst h1 h2
    have b_24 := b_18.below hb_23 b_18.lt
    have b_25 := b_19.below hb_23 b_19.lt
    have c_26 := c_20.trans (hb_23.mono c_20.size)
    have c_27 := c_21.trans (hb_23.mono c_21.size)
    clear b_18 b_19 c_20 c_21 hb_23
    have k_28 := Below.refl w_22.heap.size w_22
    have HMU := Lib.hid hmt
    clear hmt
    have b_29 := b_24.alloc (.cells #[Value.int .i64 u.rev, Value.slice r1 u.jobs.length g1, Value.slice r2 u.nodes.length g2, Value.slice r3 u.leases.length g3] 26)
    have b_30 := b_25.alloc (.cells #[Value.int .i64 u.rev, Value.slice r1 u.jobs.length g1, Value.slice r2 u.nodes.length g2, Value.slice r3 u.leases.length g3] 26)
    have b_31 := Blk.new w_22 26 #[Value.int .i64 u.rev, Value.slice r1 u.jobs.length g1, Value.slice r2 u.nodes.length g2, Value.slice r3 u.leases.length g3]
    have c_32 := c_26.alloc c_26.size (.cells #[Value.int .i64 u.rev, Value.slice r1 u.jobs.length g1, Value.slice r2 u.nodes.length g2, Value.slice r3 u.leases.length g3] 26)
    have c_33 := c_27.alloc c_27.size (.cells #[Value.int .i64 u.rev, Value.slice r1 u.jobs.length g1, Value.slice r2 u.nodes.length g2, Value.slice r3 u.leases.length g3] 26)
    have c_34 := k_28.alloc k_28.size (.cells #[Value.int .i64 u.rev, Value.slice r1 u.jobs.length g1, Value.slice r2 u.nodes.length g2, Value.slice r3 u.leases.length g3] 26)
    clear b_24 b_25 c_26 c_27 k_28
    go_wp2_with (first | (refine wpList_store_new rfl _ _ _ rfl rfl 26 _ #[Value.int .i64 u.rev, Value.slice r1 u.jobs.length g1, Value.slice r2 u.nodes.length g2, Value.slice r3 u.leases.length g3] rfl state_size rfl (one_st4 _ _ _ _ _ _ _ _ _ _) ?_) | (refine wpList_load_blk_w (by rfl) _ _ rfl (w.heap.size) rfl _ #[Value.int .i64 s.rev, Value.slice p1 s.jobs.length c1, Value.slice p2 s.nodes.length c2, Value.slice p3 s.leases.length c3] b_29 _ Tryd.underlying26 rfl state_size ?_) | (refine wpList_load_blk_w (by rfl) _ _ rfl (w_6.heap.size) rfl _ #[Value.int .i64 dd.rev, Value.slice q1 dd.jobs.length d1, Value.slice q2 dd.nodes.length d2, Value.slice q3 dd.leases.length d3] b_30 _ Tryd.underlying26 rfl state_size ?_) | (refine wpList_load_blk_w (by rfl) _ _ rfl (w_22.heap.size) rfl _ #[Value.int .i64 u.rev, Value.slice r1 u.jobs.length g1, Value.slice r2 u.nodes.length g2, Value.slice r3 u.leases.length g3] b_31 _ Tryd.underlying26 rfl state_size ?_))
    generalize w_22.alloc _ = W_35 at *
    refine (upDown_any dd (v : Int) q1 q2 q3 d1 d2 d3 _ ((HMD.out.below c_33).more c_33.size) HSD.out (HT.out.below c_32)).mono ?_
    rintro e w_36 ⟨t, is, er, x1, x2, x3, y1, y2, y3, rfl, hmt, hb_37, hd⟩
    rw [HD2.out] at hd
    injection hd with h1 h2
    injection h2 with h2 h3
    subst h1 h2 h3
    have b_38 := b_29.below hb_37 b_29.lt
    have b_39 := b_30.below hb_37 b_30.lt
    have b_40 := b_31.below hb_37 b_31.lt
    have c_41 := c_32.trans (hb_37.mono c_32.size)
    have c_42 := c_33.trans (hb_37.mono c_33.size)
    have c_43 := c_34.trans (hb_37.mono c_34.size)
    clear b_29 b_30 b_31 c_32 c_33 c_34 hb_37
    have k_44 := Below.refl w_36.heap.size w_36
    have HMX := Lib.hid hmt
    clear hmt
    have b_45 := b_38.alloc (.cells #[Value.int .i64 dd.rev, Value.slice x1 dd.jobs.length y1, Value.slice x2 dd.nodes.length y2, Value.slice x3 dd.leases.length y3] 26)
    have b_46 := b_39.alloc (.cells #[Value.int .i64 dd.rev, Value.slice x1 dd.jobs.length y1, Value.slice x2 dd.nodes.length y2, Value.slice x3 dd.leases.length y3] 26)
    have b_47 := b_40.alloc (.cells #[Value.int .i64 dd.rev, Value.slice x1 dd.jobs.length y1, Value.slice x2 dd.nodes.length y2, Value.slice x3 dd.leases.length y3] 26)
    have b_48 := Blk.new w_36 26 #[Value.int .i64 dd.rev, Value.slice x1 dd.jobs.length y1, Value.slice x2 dd.nodes.length y2, Value.slice x3 dd.leases.length y3]
    have c_49 := c_41.alloc c_41.size (.cells #[Value.int .i64 dd.rev, Value.slice x1 dd.jobs.length y1, Value.slice x2 dd.nodes.length y2, Value.slice x3 dd.leases.length y3] 26)
    have c_50 := c_42.alloc c_42.size (.cells #[Value.int .i64 dd.rev, Value.slice x1 dd.jobs.length y1, Value.slice x2 dd.nodes.length y2, Value.slice x3 dd.leases.length y3] 26)
    have c_51 := c_43.alloc c_43.size (.cells #[Value.int .i64 dd.rev, Value.slice x1 dd.jobs.length y1, Value.slice x2 dd.nodes.length y2, Value.slice x3 dd.leases.length y3] 26)
    have c_52 := k_44.alloc k_44.size (.cells #[Value.int .i64 dd.rev, Value.slice x1 dd.jobs.length y1, Value.slice x2 dd.nodes.length y2, Value.slice x3 dd.leases.length y3] 26)
    clear b_38 b_39 b_40 c_41 c_42 c_43 k_44
    go_wp2_with (first | (refine wpList_store_new rfl _ _ _ rfl rfl 26 _ #[Value.int .i64 dd.rev, Value.slice x1 dd.jobs.length y1, Value.slice x2 dd.nodes.length y2, Value.slice x3 dd.leases.length y3] rfl state_size rfl (one_st4 _ _ _ _ _ _ _ _ _ _) ?_) | (refine wpList_load_blk_w (by rfl) _ _ rfl (w.heap.size) rfl _ #[Value.int .i64 s.rev, Value.slice p1 s.jobs.length c1, Value.slice p2 s.nodes.length c2, Value.slice p3 s.leases.length c3] b_45 _ Tryd.underlying26 rfl state_size ?_) | (refine wpList_load_blk_w (by rfl) _ _ rfl (w_6.heap.size) rfl _ #[Value.int .i64 dd.rev, Value.slice q1 dd.jobs.length d1, Value.slice q2 dd.nodes.length d2, Value.slice q3 dd.leases.length d3] b_46 _ Tryd.underlying26 rfl state_size ?_) | (refine wpList_load_blk_w (by rfl) _ _ rfl (w_22.heap.size) rfl _ #[Value.int .i64 u.rev, Value.slice r1 u.jobs.length g1, Value.slice r2 u.nodes.length g2, Value.slice r3 u.leases.length g3] b_47 _ Tryd.underlying26 rfl state_size ?_) | (refine wpList_load_blk_w (by rfl) _ _ rfl (w_36.heap.size) rfl _ #[Value.int .i64 dd.rev, Value.slice x1 dd.jobs.length y1, Value.slice x2 dd.nodes.length y2, Value.slice x3 dd.leases.length y3] b_48 _ Tryd.underlying26 rfl state_size ?_))
    generalize w_36.alloc _ = W_53 at *
    have hs := same_any u s r1 r2 r3 p1 p2 p3 g1 g2 g3 c1 c2 c3 _ ((HMU.out.below c_51).more c_51.size) ((HM.out.below c_49).more c_49.size) HSU.out HZ.out
    rw [← HB.out] at hs
    have HS1 := Lib.hid hs
    clear hs
    refine (HS1.out).mono ?_
    rintro e w_54 ⟨rfl, hb_55⟩
    have b_56 := b_45.below hb_55 b_45.lt
    have b_57 := b_46.below hb_55 b_46.lt
    have b_58 := b_47.below hb_55 b_47.lt
    have b_59 := b_48.below hb_55 b_48.lt
    have c_60 := c_49.trans (hb_55.mono c_49.size)
    have c_61 := c_50.trans (hb_55.mono c_50.size)
    have c_62 := c_51.trans (hb_55.mono c_51.size)
    have c_63 := c_52.trans (hb_55.mono c_52.size)
    clear b_45 b_46 b_47 b_48 c_49 c_50 c_51 c_52 hb_55
    go_wp2_with (first | (refine wpList_load_blk_w (by rfl) _ _ rfl (w.heap.size) rfl _ #[Value.int .i64 s.rev, Value.slice p1 s.jobs.length c1, Value.slice p2 s.nodes.length c2, Value.slice p3 s.leases.length c3] b_56 _ Tryd.underlying26 rfl state_size ?_) | (refine wpList_load_blk_w (by rfl) _ _ rfl (w_6.heap.size) rfl _ #[Value.int .i64 dd.rev, Value.slice q1 dd.jobs.length d1, Value.slice q2 dd.nodes.length d2, Value.slice q3 dd.leases.length d3] b_57 _ Tryd.underlying26 rfl state_size ?_) | (refine wpList_load_blk_w (by rfl) _ _ rfl (w_22.heap.size) rfl _ #[Value.int .i64 u.rev, Value.slice r1 u.jobs.length g1, Value.slice r2 u.nodes.length g2, Value.slice r3 u.leases.length g3] b_58 _ Tryd.underlying26 rfl state_size ?_) | (refine wpList_load_blk_w (by rfl) _ _ rfl (w_36.heap.size) rfl _ #[Value.int .i64 dd.rev, Value.slice x1 dd.jobs.length y1, Value.slice x2 dd.nodes.length y2, Value.slice x3 dd.leases.length y3] b_59 _ Tryd.underlying26 rfl state_size ?_))
    refine (same_any dd dd x1 x2 x3 q1 q2 q3 y1 y2 y3 d1 d2 d3 _ ((HMX.out.below c_63).more c_63.size) ((HMD.out.below c_61).more c_61.size) HSD.out HSD.out).mono ?_
    rintro e w_64 ⟨rfl, hb_65⟩
    have b_66 := b_56.below hb_65 b_56.lt
    have b_67 := b_57.below hb_65 b_57.lt
    have b_68 := b_58.below hb_65 b_58.lt
    have b_69 := b_59.below hb_65 b_59.lt
    have c_70 := c_60.trans (hb_65.mono c_60.size)
    have c_71 := c_61.trans (hb_65.mono c_61.size)
    have c_72 := c_62.trans (hb_65.mono c_62.size)
    have c_73 := c_63.trans (hb_65.mono c_63.size)
    clear b_56 b_57 b_58 b_59 c_60 c_61 c_62 c_63 hb_65
    simp only [decide_true]
    go_wp2_with (first | (refine wpList_load_blk_w (by rfl) _ _ rfl (w.heap.size) rfl _ #[Value.int .i64 s.rev, Value.slice p1 s.jobs.length c1, Value.slice p2 s.nodes.length c2, Value.slice p3 s.leases.length c3] b_66 _ Tryd.underlying26 rfl state_size ?_) | (refine wpList_load_blk_w (by rfl) _ _ rfl (w_6.heap.size) rfl _ #[Value.int .i64 dd.rev, Value.slice q1 dd.jobs.length d1, Value.slice q2 dd.nodes.length d2, Value.slice q3 dd.leases.length d3] b_67 _ Tryd.underlying26 rfl state_size ?_) | (refine wpList_load_blk_w (by rfl) _ _ rfl (w_22.heap.size) rfl _ #[Value.int .i64 u.rev, Value.slice r1 u.jobs.length g1, Value.slice r2 u.nodes.length g2, Value.slice r3 u.leases.length g3] b_68 _ Tryd.underlying26 rfl state_size ?_) | (refine wpList_load_blk_w (by rfl) _ _ rfl (w_36.heap.size) rfl _ #[Value.int .i64 dd.rev, Value.slice x1 dd.jobs.length y1, Value.slice x2 dd.nodes.length y2, Value.slice x3 dd.leases.length y3] b_69 _ Tryd.underlying26 rfl state_size ?_))
    go_ret
    exact ⟨rfl, c_70⟩
  · obtain ⟨hz1, hz2⟩ := downR_bad h0
    have hne : (((downR s (v : Int)).2.2 : Int) != 0) = true := by rw [bne_iff_ne]; omega
    have hu : downR s (v : Int) = (zeroSt, false, (downR s (v : Int)).2.2) := Prod.ext hz1 (Prod.ext hz2 rfl)
    have HU2 := Lib.hid hu
    generalize (downR s (v : Int)).2.2 = ee at *
    clear h0 hu hz1 hz2
    have HU3 : Hid (downR s (v : Int) = (zeroSt, false, ee)) := HU2
    clear HU2
    go_enter Tryd.func11, Tryd.ntmps11
    go_wp2_with fail
    generalize w.alloc _ = W_1 at *
    refine (upped_any _ (HT.out.below hb0)).mono ?_
    rintro e w_2 ⟨rfl, hb_3⟩
    have b_4 := bx0.below hb_3 bx0.lt
    have c_5 := hb0.trans (hb_3.mono hb0.size)
    clear bx0 hb0 hb_3
    go_wp2_with (first | (refine wpList_load_blk_w (by rfl) _ _ rfl (w.heap.size) rfl _ #[Value.int .i64 s.rev, Value.slice p1 s.jobs.length c1, Value.slice p2 s.nodes.length c2, Value.slice p3 s.leases.length c3] b_4 _ Tryd.underlying26 rfl state_size ?_))
    refine (HR.out _).mono ?_
    rintro e w' ⟨rfl, rfl⟩
    go_wp2_with (first | (refine wpList_load_blk_w (by rfl) _ _ rfl (w.heap.size) rfl _ #[Value.int .i64 s.rev, Value.slice p1 s.jobs.length c1, Value.slice p2 s.nodes.length c2, Value.slice p3 s.leases.length c3] b_4 _ Tryd.underlying26 rfl state_size ?_))
    refine (HD.out _ c_5).mono ?_
    rintro e w_6 ⟨t, is, er, q1, q2, q3, d1, d2, d3, rfl, hmt, hb_7, hd⟩
    rw [HU3.out] at hd
    injection hd with h1 h2
    injection h2 with h2 h3
    subst h1 h2 h3
    have b_8 := b_4.below hb_7 b_4.lt
    have c_9 := c_5.trans (hb_7.mono c_5.size)
    clear b_4 c_5 hb_7
    have k_10 := Below.refl w_6.heap.size w_6
    have HMD := Lib.hid hmt
    clear hmt
    have b_11 := b_8.alloc (.cells #[Value.int .i64 zeroSt.rev, Value.slice q1 zeroSt.jobs.length d1, Value.slice q2 zeroSt.nodes.length d2, Value.slice q3 zeroSt.leases.length d3] 26)
    have b_12 := Blk.new w_6 26 #[Value.int .i64 zeroSt.rev, Value.slice q1 zeroSt.jobs.length d1, Value.slice q2 zeroSt.nodes.length d2, Value.slice q3 zeroSt.leases.length d3]
    have c_13 := c_9.alloc c_9.size (.cells #[Value.int .i64 zeroSt.rev, Value.slice q1 zeroSt.jobs.length d1, Value.slice q2 zeroSt.nodes.length d2, Value.slice q3 zeroSt.leases.length d3] 26)
    have c_14 := k_10.alloc k_10.size (.cells #[Value.int .i64 zeroSt.rev, Value.slice q1 zeroSt.jobs.length d1, Value.slice q2 zeroSt.nodes.length d2, Value.slice q3 zeroSt.leases.length d3] 26)
    clear b_8 c_9 k_10
    go_wp2_with (first | (refine wpList_store_new rfl _ _ _ rfl rfl 26 _ #[Value.int .i64 zeroSt.rev, Value.slice q1 zeroSt.jobs.length d1, Value.slice q2 zeroSt.nodes.length d2, Value.slice q3 zeroSt.leases.length d3] rfl state_size rfl (one_st4 _ _ _ _ _ _ _ _ _ _) ?_) | (refine wpList_load_blk_w (by rfl) _ _ rfl (w.heap.size) rfl _ #[Value.int .i64 s.rev, Value.slice p1 s.jobs.length c1, Value.slice p2 s.nodes.length c2, Value.slice p3 s.leases.length c3] b_11 _ Tryd.underlying26 rfl state_size ?_) | (refine wpList_load_blk_w (by rfl) _ _ rfl (w_6.heap.size) rfl _ #[Value.int .i64 zeroSt.rev, Value.slice q1 zeroSt.jobs.length d1, Value.slice q2 zeroSt.nodes.length d2, Value.slice q3 zeroSt.leases.length d3] b_12 _ Tryd.underlying26 rfl state_size ?_))
    generalize w_6.alloc _ = W_15 at *
    refine (same_any zeroSt zeroSt q1 q2 q3 none none none d1 d2 d3 0 0 0 _ ((HMD.out.below c_14).more c_14.size) (stM_zero _) zeroSt_sz zeroSt_sz).mono ?_
    rintro e w_16 ⟨rfl, hb_17⟩
    have b_18 := b_11.below hb_17 b_11.lt
    have b_19 := b_12.below hb_17 b_12.lt
    have c_20 := c_13.trans (hb_17.mono c_13.size)
    have c_21 := c_14.trans (hb_17.mono c_14.size)
    clear b_11 b_12 c_13 c_14 hb_17
    simp only [decide_true]
    go_wp2_with (first | (refine wpList_load_blk_w (by rfl) _ _ rfl (w.heap.size) rfl _ #[Value.int .i64 s.rev, Value.slice p1 s.jobs.length c1, Value.slice p2 s.nodes.length c2, Value.slice p3 s.leases.length c3] b_18 _ Tryd.underlying26 rfl state_size ?_) | (refine wpList_load_blk_w (by rfl) _ _ rfl (w_6.heap.size) rfl _ #[Value.int .i64 zeroSt.rev, Value.slice q1 zeroSt.jobs.length d1, Value.slice q2 zeroSt.nodes.length d2, Value.slice q3 zeroSt.leases.length d3] b_19 _ Tryd.underlying26 rfl state_size ?_))
    go_ret
    exact ⟨rfl, c_20⟩

theorem own : ownKnob Tryd.prog.godebug = none := by kernel_rfl
theorem laid : laidOutB Tryd.prog = true := by kernel_rfl
set_option maxRecDepth 100000 in
theorem contract (H : Type) (enc : TypeId × Value → H) (W : World) (base : Nat) (args : Array Value) (ds gs : List (DataW H)) (before : List MemPlace)
    (hval0 : ∀ (j : Nat) t v, Tryd.f11.params[j]? = some t → args[j]? = some v → Value.okWide Tryd.prog W .any base t v)
    (hW : DataW.Whole enc Tryd.prog Tryd.f11.params.toList Rows.upLostSpec.vars false W args.toList ds gs before)
    (hsz0 : (DataW.weightsEach Tryd.prog (Tryd.f11.params.toList ++ Rows.upLostSpec.plain.varTypes Tryd.prog) (ds ++ gs)).all (· ≤ reachBytes) = true)
    (hT : Tabs W) :
    Calls Tryd.prog 11 args W fun e W' => ∃ v, e = .returned v ∧ Rows.upLostSpec.post enc Tryd.prog Tryd.f11 false true false false W args v W' := by
  have hval : ∀ (j : Nat) t v, Tryd.f11.params[j]? = some t → args[j]? = some v → Value.okWide Tryd.prog W .any base t v := hval0
  have hsz : (DataW.weightsEach Tryd.prog (Tryd.f11.params.toList ++ Rows.upLostSpec.plain.varTypes Tryd.prog) (ds ++ gs)).all (· ≤ reachBytes) = true := hsz0
  have hlt : ∀ x ∈ before, x.block < W.heap.size := fun x hx => hW.lt x hx
  have hW' := hW
  obtain ⟨p, q, hA0, hV, rfl, hfz, hnd⟩ := hW
  have hA : DataW.TrodAll enc Tryd.prog W 0 (fun _ => true) true Tryd.f11.params.toList args.toList ds p := hA0
  rw [Tryd.params11] at hA hval hsz
  obtain ⟨v0, vs0, d0, ds0, p0, q0, hargs, rfl, rfl, h0, r0⟩ := trodAll_cons hA
  obtain ⟨v1, vs1, d1, ds1, p1, q1, rfl, rfl, rfl, h1, r1⟩ := trodAll_cons r0
  obtain ⟨rfl, rfl, rfl⟩ := trodAll_nil r1
  obtain rfl : args = #[v0, v1] := by cases args; simp_all
  obtain ⟨rfl, rfl⟩ := trodVars_none hV
  obtain ⟨s0, pj0, pn0, pl0, cj0, cn0, cl0, rfl, hm0, hk0⟩ := open_state (hval 0 26 v0 rfl rfl) h0 hsz (j := 0) rfl rfl
  obtain ⟨a1, rfl, rfl, rfl, w1⟩ := open_int Tryd.underlying3 (hval 1 3 v1 rfl rfl) h1
  have b1 := bounds_i64 w1
  refine (walk s0 pj0 pn0 pl0 cj0 cn0 cl0 W hm0 hk0 a1 b1.1 b1.2 hT).mono fun e W' ⟨he, hb⟩ => ?_
  subst he
  exact ⟨_, rfl, law_post laid (by kernel_rfl) Tryd.underlying4 rfl rfl hW' rfl rfl rfl rfl hb⟩

theorem reads (os : Os) {H : Type} (enc : TypeId × Value → H) : ∃ places, DataW.whole enc Tryd.prog ((laidWorld os).forCall (fun _ _ => 0) ⟨#[], #[.agg #[.int .i64 0, .slice none 0 0, .slice none 0 0, .slice none 0 0], .int .i64 0], []⟩).memory Tryd.f11.params.toList Rows.upLostSpec.vars false (#[.agg #[.int .i64 0, .slice none 0 0, .slice none 0 0, .slice none 0 0], .int .i64 0] : Array Value).toList 8 = some ([.agg [.lit (.int .i64 0), .nil, .nil, .nil], .lit (.int .i64 0)], [], places) :=
  ⟨[], by kernel_rfl⟩
set_option maxRecDepth 100000 in
theorem lifted (os : Os) (started : os.Started) (H : Type) (enc : TypeId × Value → H) (F : Stop.Interp) :
    ReturnsInHanded {} Tryd.checked os 11 .any ((OpenSpec.ofChange Rows.upLostSpec).preRow enc Tryd.prog Tryd.f11 Rows.upLostRow.domain false Rows.upLostRow.laid) (((OpenSpec.ofChange Rows.upLostSpec).at F).post enc Tryd.prog Tryd.f11 false true false false) := by
  obtain ⟨places, hx⟩ := reads os enc
  refine returnsInHanded_of_row (C := Tryd.checked) (s := (OpenSpec.ofChange Rows.upLostSpec)) own started (by kernel_rfl) Tryd.func11
    (witness_row_atRef (enc := enc) (C := Tryd.checked) false (laidWorld os) #[.agg #[.int .i64 0, .slice none 0 0, .slice none 0 0, .slice none 0 0], .int .i64 0] rfl (by kernel_rfl) (by kernel_rfl) (by kernel_rfl)
      (OpenSpec.preRow_of_cond 8 hx (by kernel_rfl) (fun k hk => by cases hk) (by kernel_rfl) (laid_met os _))) ?_
  intro W base args ds gs before hval0 hW _ hcond hsz0 hL _ _
  exact contract H enc W base args ds gs before hval0 hW hsz0 (tabs_of_laid hL)

theorem said : Rows.UpLostSaid :=
  OpenClaim.holds_of_cond 11 Tryd.f11 rfl rfl rfl rfl rfl rfl rfl ⟨rfl, rfl, rfl, rfl, rfl⟩ rfl rfl rfl rfl rfl (by kernel_rfl) Tryd.func11 (by kernel_rfl)
    (of_decide_eq_true (by kernel_rfl)) (by unfold Func.isWrapper; first | (rw [if_pos (by decide +kernel)]; kernel_rfl) | (rw [if_neg (by decide +kernel)]; exact ⟨rfl, rfl⟩))
    (fun os started H enc _ F => by rw [OpenClaim.pre_eq_preRow]; exact lifted os started H enc F)

/-- No parameter wants a stand-in; the program's own looks are off. -/
theorem plain (f : FuncId) (fn : Func) (hf : Tryd.pinned.checked.prog.funcNamed "bracken/brackenkeep.UpLost" = some f) (hfn : Tryd.pinned.checked.prog.funcs[f]? = some fn) :
    false = Tryd.pinned.checked.prog.looks [] ∧ ∀ (j : Nat) t, fn.params[j]? = some t → Tryd.pinned.checked.prog.wantsStandIn t = false := by
  obtain rfl : f = 11 := Option.some.inj ((show Tryd.prog.funcNamed "bracken/brackenkeep.UpLost" = some 11 by kernel_rfl).symm.trans hf) |>.symm
  obtain rfl : fn = Tryd.f11 := (Option.some.inj (Tryd.func11.symm.trans hfn)).symm
  refine ⟨by kernel_rfl, fun j t ht => ?_⟩
  rw [Tryd.params11] at ht
  have hm := Array.mem_of_getElem? ht
  have hall : (#[26, 3] : Array TypeId).all (fun t => !Tryd.prog.wantsStandIn t) = true := by kernel_rfl
  have := Array.all_eq_true_iff_forall_mem.1 hall t (by simpa using hm)
  show Tryd.prog.wantsStandIn t = false
  simpa using this

/-- The statement. -/
theorem proved : Rows.UpLostCardSaid :=
  Claim7.holds_tied_plain_at .later [] _ _ _ _ said (fun _ h => by cases h) (by kernel_rfl) (fun _ h => by cases h) upLost_row_tie rfl ⟨rfl, rfl⟩ (by kernel_rfl) rfl plain (by kernel_rfl)
#print axioms proved
end Go.Proofs.YtejdhcipmkaboaaDoor.upLost
