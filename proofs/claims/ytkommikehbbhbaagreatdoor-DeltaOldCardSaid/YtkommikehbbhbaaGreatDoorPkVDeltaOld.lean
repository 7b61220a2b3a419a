/-
  Several texts in one: VDeltaOld.
-/
import Derived.Test.YtkommikehbbhbaaGreatDoorPkBase
import Derived.Test.YtkommikehbbhbaaGreatDoorPkDelLaw
/-
  The walk of the law DeltaOld.
-/
set_option linter.unusedVariables false
set_option linter.unusedSimpArgs false
namespace Go.Proofs.YtkommikehbbhbaaGreatDoor.deltaOld
open Go.ChangeShapes Go.WideShapes Go.ChangeAt Go.RowKit Go.Joins
open Go.ChangeMaps (open_string)
set_option maxHeartbeats 8000000 in
set_option maxRecDepth 100000 in
theorem walk (s0 : St) (pj0 pn0 pl0 : Option Addr) (cj0 cn0 cl0 : Nat) (w : World) (hm0 : StM w w.heap.size pj0 pn0 pl0 s0) (hk0 : StOk s0) (s1 : St) (pj1 pn1 pl1 : Option Addr) (cj1 cn1 cl1 : Nat) (hm1 : StM w w.heap.size pj1 pn1 pl1 s1) (hk1 : StOk s1) (n : Int) (n1 : -9223372036854775808 ≤ n) (n2 : n ≤ 9223372036854775807) (hT : Tabs w) :
    Calls Tryz.prog 4 #[.agg #[Value.int .i64 s0.rev, Value.slice pj0 s0.jobs.length cj0, Value.slice pn0 s0.nodes.length cn0, Value.slice pl0 s0.leases.length cl0], .agg #[Value.int .i64 s1.rev, Value.slice pj1 s1.jobs.length cj1, Value.slice pn1 s1.nodes.length cn1, Value.slice pl1 s1.leases.length cl1], .int .i64 n] w fun e w' => e = .returned (.bool true) ∧ Below w.heap.size w w' := by
  have bb0 := (Blk.new w 26 #[Value.int .i64 s0.rev, Value.slice pj0 s0.jobs.length cj0, Value.slice pn0 s0.nodes.length cn0, Value.slice pl0 s0.leases.length cl0]).alloc (.cells #[Value.int .i64 s1.rev, Value.slice pj1 s1.jobs.length cj1, Value.slice pn1 s1.nodes.length cn1, Value.slice pl1 s1.leases.length cl1] 26)
  have hz1 : (w.alloc (.cells #[Value.int .i64 s0.rev, Value.slice pj0 s0.jobs.length cj0, Value.slice pn0 s0.nodes.length cn0, Value.slice pl0 s0.leases.length cl0] 26)).heap.size = w.heap.size + 1 := by simp
  have bb1 := blk_new_of hz1 26 #[Value.int .i64 s1.rev, Value.slice pj1 s1.jobs.length cj1, Value.slice pn1 s1.nodes.length cn1, Value.slice pl1 s1.leases.length cl1]
  have cc : Below w.heap.size w ((w.alloc (.cells #[Value.int .i64 s0.rev, Value.slice pj0 s0.jobs.length cj0, Value.slice pn0 s0.nodes.length cn0, Value.slice pl0 s0.leases.length cl0] 26)).alloc (.cells #[Value.int .i64 s1.rev, Value.slice pj1 s1.jobs.length cj1, Value.slice pn1 s1.nodes.length cn1, Value.slice pl1 s1.leases.length cl1] 26)) := (((Below.refl _ _).alloc (by simp) (.cells #[Value.int .i64 s0.rev, Value.slice pj0 s0.jobs.length cj0, Value.slice pn0 s0.nodes.length cn0, Value.slice pl0 s0.leases.length cl0] 26)).alloc (by simp) (.cells #[Value.int .i64 s1.rev, Value.slice pj1 s1.jobs.length cj1, Value.slice pn1 s1.nodes.length cn1, Value.slice pl1 s1.leases.length cl1] 26))
  clear hz1
  have HM0 := Lib.hid hm0
  have HZ0 := Lib.hid hk0.sz
  have HM1 := Lib.hid hm1
  have HZ1 := Lib.hid hk1.sz
  have HT := Lib.hid hT
  have hzd := zero_delta_lit
  have hzs := zero_state_lit
  have z0 : (((0 : Nat) : Int) != 0) = false := rfl
  have z1 : (((0 : Nat) : Int) == 0) = true := rfl
  clear hT hm0 hk0 hm1 hk1
  by_cases hE : diffE s0 s1 = 0
  · have hok := diffE_is hE
    have HO := Lib.hid hok
    have hF := Lib.hid ((fine_iff s0).1 hok.1)
    obtain ⟨r, hr, HR⟩ : ∃ r : Int, (0 ≤ r ∧ r < 1099511627776) ∧ Hid (∀ W : World, Calls Tryz.prog 22 #[.int .i64 n, .int .i64 1099511627776] W fun e w' => e = .returned (.int .i64 r) ∧ W = w') := ⟨n % 1099511627776, ⟨Int.emod_nonneg _ (by decide), Int.emod_lt_of_pos _ (by decide)⟩, fun W => rest_any n 1099511627776 W (by decide) (by decide)⟩
    have hr0 := hr.1
    have hr1 := hr.2
    clear hE hok hr n1 n2
    go_enter Tryz.func4, Tryz.ntmps4
    go_wp2_with fail
    generalize ((w.alloc (.cells #[Value.int .i64 s0.rev, Value.slice pj0 s0.jobs.length cj0, Value.slice pn0 s0.nodes.length cn0, Value.slice pl0 s0.leases.length cl0] 26))).alloc _ = W0 at *
    refine (differed_any _ (HT.out.below cc)).mono ?_
    rintro e w1 ⟨rfl, hb2⟩
    have b3 := bb0.below hb2 bb0.lt
    have b4 := bb1.below hb2 bb1.lt
    have c5 := cc.trans (hb2.mono cc.size)
    clear bb0 bb1 cc hb2
    go_wp2_with (first | (refine wpList_load_blk_w (by rfl) _ _ rfl (w.heap.size) rfl _ #[Value.int .i64 s0.rev, Value.slice pj0 s0.jobs.length cj0, Value.slice pn0 s0.nodes.length cn0, Value.slice pl0 s0.leases.length cl0] b3 _ Tryz.underlying26 rfl state_size ?_) | (refine wpList_load_blk_w (by rfl) _ _ rfl (w.heap.size + 1) rfl _ #[Value.int .i64 s1.rev, Value.slice pj1 s1.jobs.length cj1, Value.slice pn1 s1.nodes.length cn1, Value.slice pl1 s1.leases.length cl1] b4 _ Tryz.underlying26 rfl state_size ?_))
    have hgb : w.heap.size < w1.heap.size := b3.lt
    refine (diff_own s0 s1 pj0 pn0 pl0 pj1 pn1 pl1 cj0 cn0 cl0 cj1 cn1 cl1 _ ((HM0.out.below c5).more c5.size) ((HM1.out.below c5).more c5.size) (HT.out.below c5) HO.out).mono ?_
    rintro e w6 ⟨r1, r2, r3, r4, r5, r6, e1, e2, e3, e4, e5, e6, rfl, o8, hb7⟩
    have b9 := b3.below hb7 b3.lt
    have b10 := b4.below hb7 b4.lt
    have c11 := c5.trans (hb7.mono c5.size)
    clear b3 b4 c5 hb7
    generalize w1.heap.size = base at *
    have hgd : w.heap.size < w6.heap.size := b9.lt
    have hb12 : Below w6.heap.size w6 (w6.alloc (.cells #[Value.int .i64 (betw s0 s1).frm, Value.int .i64 (betw s0 s1).upto, Value.slice r1 (betw s0 s1).jobs.length e1, Value.slice r2 (betw s0 s1).nodes.length e2, Value.slice r3 (betw s0 s1).leases.length e3, Value.slice r4 (betw s0 s1).gj.length e4, Value.slice r5 (betw s0 s1).gn.length e5, Value.slice r6 (betw s0 s1).gl.length e6] 30)) := (Below.refl _ _).alloc (Nat.le_refl _) _
    have b13 := Blk.new w6 30 #[Value.int .i64 (betw s0 s1).frm, Value.int .i64 (betw s0 s1).upto, Value.slice r1 (betw s0 s1).jobs.length e1, Value.slice r2 (betw s0 s1).nodes.length e2, Value.slice r3 (betw s0 s1).leases.length e3, Value.slice r4 (betw s0 s1).gj.length e4, Value.slice r5 (betw s0 s1).gn.length e5, Value.slice r6 (betw s0 s1).gl.length e6]
    have b14 := b9.below hb12 b9.lt
    have b15 := b10.below hb12 b10.lt
    have o16 := o8.below hb12
    have c17 := c11.trans (hb12.mono c11.size)
    clear b9 b10 o8 c11 hb12
    go_wp2_with (first | (refine wpList_store_new rfl _ _ _ rfl rfl 30 _ #[Value.int .i64 (betw s0 s1).frm, Value.int .i64 (betw s0 s1).upto, Value.slice r1 (betw s0 s1).jobs.length e1, Value.slice r2 (betw s0 s1).nodes.length e2, Value.slice r3 (betw s0 s1).leases.length e3, Value.slice r4 (betw s0 s1).gj.length e4, Value.slice r5 (betw s0 s1).gn.length e5, Value.slice r6 (betw s0 s1).gl.length e6] rfl delta_size rfl (one_d8 _ _ _ _ _ _ _ _ _ _ _ _ _ _ _ _ _ _ _ _) ?_) | (first | (refine wpList_load_blk_w (by rfl) _ _ rfl (w.heap.size) rfl _ #[Value.int .i64 s0.rev, Value.slice pj0 s0.jobs.length cj0, Value.slice pn0 s0.nodes.length cn0, Value.slice pl0 s0.leases.length cl0] b14 _ Tryz.underlying26 rfl state_size ?_) | (refine wpList_load_blk_w (by rfl) _ _ rfl (w.heap.size + 1) rfl _ #[Value.int .i64 s1.rev, Value.slice pj1 s1.jobs.length cj1, Value.slice pn1 s1.nodes.length cn1, Value.slice pl1 s1.leases.length cl1] b15 _ Tryz.underlying26 rfl state_size ?_) | (refine wpList_load_blk_w (by rfl) _ _ rfl (w6.heap.size) rfl _ #[Value.int .i64 (betw s0 s1).frm, Value.int .i64 (betw s0 s1).upto, Value.slice r1 (betw s0 s1).jobs.length e1, Value.slice r2 (betw s0 s1).nodes.length e2, Value.slice r3 (betw s0 s1).leases.length e3, Value.slice r4 (betw s0 s1).gj.length e4, Value.slice r5 (betw s0 s1).gn.length e5, Value.slice r6 (betw s0 s1).gl.length e6] b13 _ Tryz.underlying30 rfl delta_size ?_)))
    generalize w6.alloc _ = W18 at *
    generalize w6.heap.size = g19 at *
    refine (apply_not s1 s0 s1 pj1 pn1 pl1 cj1 cn1 cl1 _ _ _ _ _ _ _ _ _ _ _ _ _ ((HM1.out.below c17).more c17.size) o16.m (HT.out.below c17) HO.out.2.1 HO.out (Int.ne_of_lt HO.out.2.2)).mono ?_
    rintro e w21 ⟨qt1, qt2, qt3, dt1, dt2, dt3, rfl, m20, hb22⟩
    clear m20
    have b23 := b14.below hb22 b14.lt
    have b24 := b15.below hb22 b15.lt
    have b25 := b13.below hb22 b13.lt
    have o26 := o16.below hb22
    have c27 := c17.trans (hb22.mono c17.size)
    clear b14 b15 b13 o16 c17 hb22
    have hgt : w.heap.size < w21.heap.size := b23.lt
    have hb28 : Below w21.heap.size w21 (w21.alloc (.cells #[Value.int .i64 0, Value.slice qt1 0 dt1, Value.slice qt2 0 dt2, Value.slice qt3 0 dt3] 26)) := (Below.refl _ _).alloc (Nat.le_refl _) _
    have b29 := Blk.new w21 26 #[Value.int .i64 0, Value.slice qt1 0 dt1, Value.slice qt2 0 dt2, Value.slice qt3 0 dt3]
    have b30 := b23.below hb28 b23.lt
    have b31 := b24.below hb28 b24.lt
    have b32 := b25.below hb28 b25.lt
    have o33 := o26.below hb28
    have c34 := c27.trans (hb28.mono c27.size)
    clear b23 b24 b25 o26 c27 hb28
    go_wp2_with (first | (refine wpList_store_new rfl _ _ _ rfl rfl 26 _ #[Value.int .i64 0, Value.slice qt1 0 dt1, Value.slice qt2 0 dt2, Value.slice qt3 0 dt3] rfl state_size rfl (one_st4 _ _ _ _ _ _ _ _ _ _) ?_) | (first | (refine wpList_load_blk_w (by rfl) _ _ rfl (w.heap.size) rfl _ #[Value.int .i64 s0.rev, Value.slice pj0 s0.jobs.length cj0, Value.slice pn0 s0.nodes.length cn0, Value.slice pl0 s0.leases.length cl0] b30 _ Tryz.underlying26 rfl state_size ?_) | (refine wpList_load_blk_w (by rfl) _ _ rfl (w.heap.size + 1) rfl _ #[Value.int .i64 s1.rev, Value.slice pj1 s1.jobs.length cj1, Value.slice pn1 s1.nodes.length cn1, Value.slice pl1 s1.leases.length cl1] b31 _ Tryz.underlying26 rfl state_size ?_) | (refine wpList_load_blk_w (by rfl) _ _ rfl (g19) rfl _ #[Value.int .i64 (betw s0 s1).frm, Value.int .i64 (betw s0 s1).upto, Value.slice r1 (betw s0 s1).jobs.length e1, Value.slice r2 (betw s0 s1).nodes.length e2, Value.slice r3 (betw s0 s1).leases.length e3, Value.slice r4 (betw s0 s1).gj.length e4, Value.slice r5 (betw s0 s1).gn.length e5, Value.slice r6 (betw s0 s1).gl.length e6] b32 _ Tryz.underlying30 rfl delta_size ?_) | (refine wpList_load_blk_w (by rfl) _ _ rfl (w21.heap.size) rfl _ #[Value.int .i64 0, Value.slice qt1 0 dt1, Value.slice qt2 0 dt2, Value.slice qt3 0 dt3] b29 _ Tryz.underlying26 rfl state_size ?_)))
    generalize w21.alloc _ = W35 at *
    generalize w21.heap.size = g36 at *
    refine (HR.out _).mono ?_
    rintro e w' ⟨rfl, rfl⟩
    have y0 : W35.cell? ⟨w.heap.size, 0, none⟩ = some (.int .i64 s0.rev) := b30.cell 0
    have y1 : W35.frozen? ⟨w.heap.size, 0, none⟩ = false := b30.frozen 0
    go_upto_region 8 with fail
    clear y0 y1
    have o37 := o33.cell_ (a := ⟨w.heap.size, 0, none⟩) hgb (.int .i64 r)
    have b38 : Blk (W35.setCell ⟨w.heap.size, 0, none⟩ (.int .i64 r)) (w.heap.size) 26 #[Value.int .i64 r, Value.slice pj0 s0.jobs.length cj0, Value.slice pn0 s0.nodes.length cn0, Value.slice pl0 s0.leases.length cl0] := b30.set_ 0 _
    have b39 := b31.far (p := ⟨w.heap.size, 0, none⟩) (by show _ ≠ w.heap.size; omega) (.int .i64 r)
    have b40 := b32.far (p := ⟨w.heap.size, 0, none⟩) (by show _ ≠ w.heap.size; omega) (.int .i64 r)
    have b41 := b29.far (p := ⟨w.heap.size, 0, none⟩) (by show _ ≠ w.heap.size; omega) (.int .i64 r)
    have c42 := c34.setCell (p := ⟨w.heap.size, 0, none⟩) (Nat.le_refl _) (.int .i64 r)
    clear b30 b31 b32 b29 c34
    clear o33
    generalize W35.setCell _ _ = W43 at *
    have hs0 : checkE { s0 with rev := r } = 0 := (fine_iff _).2 ⟨⟨hr0, Int.le_of_lt hr1⟩, hF.out.nj, hF.out.nl, hF.out.nn, hF.out.j, hF.out.sj, hF.out.n, hF.out.sn, hF.out.l, hF.out.sl, hF.out.room⟩
    have HS0 := Lib.hid hs0
    clear hs0
    have hfrm : (betw s0 s1).frm = s0.rev := rfl
    by_cases hr2 : r = s0.rev
    · subst hr2
      have hq : (s0.rev == (betw s0 s1).frm) = true := by rw [hfrm]; simp
      clear hfrm
      go_wp2_with (first | (refine wpList_load_blk_w (by rfl) _ _ rfl (w.heap.size) rfl _ #[Value.int .i64 s0.rev, Value.slice pj0 s0.jobs.length cj0, Value.slice pn0 s0.nodes.length cn0, Value.slice pl0 s0.leases.length cl0] b38 _ Tryz.underlying26 rfl state_size ?_) | (refine wpList_load_blk_w (by rfl) _ _ rfl (w.heap.size + 1) rfl _ #[Value.int .i64 s1.rev, Value.slice pj1 s1.jobs.length cj1, Value.slice pn1 s1.nodes.length cn1, Value.slice pl1 s1.leases.length cl1] b39 _ Tryz.underlying26 rfl state_size ?_) | (refine wpList_load_blk_w (by rfl) _ _ rfl (g19) rfl _ #[Value.int .i64 (betw s0 s1).frm, Value.int .i64 (betw s0 s1).upto, Value.slice r1 (betw s0 s1).jobs.length e1, Value.slice r2 (betw s0 s1).nodes.length e2, Value.slice r3 (betw s0 s1).leases.length e3, Value.slice r4 (betw s0 s1).gj.length e4, Value.slice r5 (betw s0 s1).gn.length e5, Value.slice r6 (betw s0 s1).gl.length e6] b40 _ Tryz.underlying30 rfl delta_size ?_) | (refine wpList_load_blk_w (by rfl) _ _ rfl (g36) rfl _ #[Value.int .i64 0, Value.slice qt1 0 dt1, Value.slice qt2 0 dt2, Value.slice qt3 0 dt3] b41 _ Tryz.underlying26 rfl state_size ?_))
      refine (apply_ok s0 s1 pj0 pn0 pl0 cj0 cn0 cl0 _ _ _ _ _ _ _ _ _ _ _ _ _ ((HM0.out.below c42).more c42.size) o37.m (HT.out.below c42) HO.out).mono ?_
      rintro e w45 ⟨qu1, qu2, qu3, du1, du2, du3, rfl, m44, hb46⟩
      clear m44
      have b47 := b38.below hb46 b38.lt
      have b48 := b39.below hb46 b39.lt
      have b49 := b40.below hb46 b40.lt
      have b50 := b41.below hb46 b41.lt
      have o51 := o37.below hb46
      have c52 := c42.trans (hb46.mono c42.size)
      clear b38 b39 b40 b41 o37 c42 hb46
      have hb53 : Below w45.heap.size w45 (w45.alloc (.cells #[Value.int .i64 s1.rev, Value.slice qu1 s1.jobs.length du1, Value.slice qu2 s1.nodes.length du2, Value.slice qu3 s1.leases.length du3] 26)) := (Below.refl _ _).alloc (Nat.le_refl _) _
      have b54 := Blk.new w45 26 #[Value.int .i64 s1.rev, Value.slice qu1 s1.jobs.length du1, Value.slice qu2 s1.nodes.length du2, Value.slice qu3 s1.leases.length du3]
      have b55 := b47.below hb53 b47.lt
      have b56 := b48.below hb53 b48.lt
      have b57 := b49.below hb53 b49.lt
      have b58 := b50.below hb53 b50.lt
      have o59 := o51.below hb53
      have c60 := c52.trans (hb53.mono c52.size)
      clear b47 b48 b49 b50 o51 c52 hb53
      have y0 : (w45.alloc (.cells #[Value.int .i64 s1.rev, Value.slice qu1 s1.jobs.length du1, Value.slice qu2 s1.nodes.length du2, Value.slice qu3 s1.leases.length du3] 26)).cell? ⟨w.heap.size, 0, none⟩ = some (.int .i64 s0.rev) := b55.cell 0
      have y2 : (w45.alloc (.cells #[Value.int .i64 s1.rev, Value.slice qu1 s1.jobs.length du1, Value.slice qu2 s1.nodes.length du2, Value.slice qu3 s1.leases.length du3] 26)).cell? ⟨g19, 0, none⟩ = some (.int .i64 (betw s0 s1).frm) := b57.cell 0
      go_wp2_with (first | (refine wpList_store_new rfl _ _ _ rfl rfl 26 _ #[Value.int .i64 s1.rev, Value.slice qu1 s1.jobs.length du1, Value.slice qu2 s1.nodes.length du2, Value.slice qu3 s1.leases.length du3] rfl state_size rfl (one_st4 _ _ _ _ _ _ _ _ _ _) ?_) | (refine wpList_load_blk_w (by rfl) _ _ rfl (w.heap.size) rfl _ #[Value.int .i64 s0.rev, Value.slice pj0 s0.jobs.length cj0, Value.slice pn0 s0.nodes.length cn0, Value.slice pl0 s0.leases.length cl0] b55 _ Tryz.underlying26 rfl state_size ?_) | (refine wpList_load_blk_w (by rfl) _ _ rfl (w.heap.size + 1) rfl _ #[Value.int .i64 s1.rev, Value.slice pj1 s1.jobs.length cj1, Value.slice pn1 s1.nodes.length cn1, Value.slice pl1 s1.leases.length cl1] b56 _ Tryz.underlying26 rfl state_size ?_) | (refine wpList_load_blk_w (by rfl) _ _ rfl (g19) rfl _ #[Value.int .i64 (betw s0 s1).frm, Value.int .i64 (betw s0 s1).upto, Value.slice r1 (betw s0 s1).jobs.length e1, Value.slice r2 (betw s0 s1).nodes.length e2, Value.slice r3 (betw s0 s1).leases.length e3, Value.slice r4 (betw s0 s1).gj.length e4, Value.slice r5 (betw s0 s1).gn.length e5, Value.slice r6 (betw s0 s1).gl.length e6] b57 _ Tryz.underlying30 rfl delta_size ?_) | (refine wpList_load_blk_w (by rfl) _ _ rfl (g36) rfl _ #[Value.int .i64 0, Value.slice qt1 0 dt1, Value.slice qt2 0 dt2, Value.slice qt3 0 dt3] b58 _ Tryz.underlying26 rfl state_size ?_) | (refine wpList_load_blk_w (by rfl) _ _ rfl (w45.heap.size) rfl _ #[Value.int .i64 s1.rev, Value.slice qu1 s1.jobs.length du1, Value.slice qu2 s1.nodes.length du2, Value.slice qu3 s1.leases.length du3] b54 _ Tryz.underlying26 rfl state_size ?_))
      go_ret
      exact ⟨rfl, c60⟩
    · have hq : (r == (betw s0 s1).frm) = false := by rw [hfrm, beq_eq_false_iff_ne]; exact hr2
      have HNE := Lib.hid (show s0.rev ≠ r from fun h => hr2 h.symm)
      clear hfrm hr2
      go_wp2_with (first | (refine wpList_load_blk_w (by rfl) _ _ rfl (w.heap.size) rfl _ #[Value.int .i64 r, Value.slice pj0 s0.jobs.length cj0, Value.slice pn0 s0.nodes.length cn0, Value.slice pl0 s0.leases.length cl0] b38 _ Tryz.underlying26 rfl state_size ?_) | (refine wpList_load_blk_w (by rfl) _ _ rfl (w.heap.size + 1) rfl _ #[Value.int .i64 s1.rev, Value.slice pj1 s1.jobs.length cj1, Value.slice pn1 s1.nodes.length cn1, Value.slice pl1 s1.leases.length cl1] b39 _ Tryz.underlying26 rfl state_size ?_) | (refine wpList_load_blk_w (by rfl) _ _ rfl (g19) rfl _ #[Value.int .i64 (betw s0 s1).frm, Value.int .i64 (betw s0 s1).upto, Value.slice r1 (betw s0 s1).jobs.length e1, Value.slice r2 (betw s0 s1).nodes.length e2, Value.slice r3 (betw s0 s1).leases.length e3, Value.slice r4 (betw s0 s1).gj.length e4, Value.slice r5 (betw s0 s1).gn.length e5, Value.slice r6 (betw s0 s1).gl.length e6] b40 _ Tryz.underlying30 rfl delta_size ?_) | (refine wpList_load_blk_w (by rfl) _ _ rfl (g36) rfl _ #[Value.int .i64 0, Value.slice qt1 0 dt1, Value.slice qt2 0 dt2, Value.slice qt3 0 dt3] b41 _ Tryz.underlying26 rfl state_size ?_))
      refine (apply_not { s0 with rev := r } s0 s1 pj0 pn0 pl0 cj0 cn0 cl0 _ _ _ _ _ _ _ _ _ _ _ _ _ ⟨((HM0.out.below c42).more c42.size).j, ((HM0.out.below c42).more c42.size).n, ((HM0.out.below c42).more c42.size).l⟩ o37.m (HT.out.below c42) HS0.out HO.out HNE.out).mono ?_
      rintro e w45 ⟨qu1, qu2, qu3, du1, du2, du3, rfl, m44, hb46⟩
      have b47 := b38.below hb46 b38.lt
      have b48 := b39.below hb46 b39.lt
      have b49 := b40.below hb46 b40.lt
      have b50 := b41.below hb46 b41.lt
      have o51 := o37.below hb46
      have c52 := c42.trans (hb46.mono c42.size)
      clear b38 b39 b40 b41 o37 c42 hb46
      have hb53 : Below w45.heap.size w45 (w45.alloc (.cells #[Value.int .i64 0, Value.slice qu1 0 du1, Value.slice qu2 0 du2, Value.slice qu3 0 du3] 26)) := (Below.refl _ _).alloc (Nat.le_refl _) _
      have b54 := Blk.new w45 26 #[Value.int .i64 0, Value.slice qu1 0 du1, Value.slice qu2 0 du2, Value.slice qu3 0 du3]
      have b55 := b47.below hb53 b47.lt
      have b56 := b48.below hb53 b48.lt
      have b57 := b49.below hb53 b49.lt
      have b58 := b50.below hb53 b50.lt
      have m59 := (m44.below hb53).more hb53.size
      have o60 := o51.below hb53
      have c61 := c52.trans (hb53.mono c52.size)
      clear b47 b48 b49 b50 m44 o51 c52 hb53
      have y0 : (w45.alloc (.cells #[Value.int .i64 0, Value.slice qu1 0 du1, Value.slice qu2 0 du2, Value.slice qu3 0 du3] 26)).cell? ⟨w.heap.size, 0, none⟩ = some (.int .i64 r) := b55.cell 0
      have y2 : (w45.alloc (.cells #[Value.int .i64 0, Value.slice qu1 0 du1, Value.slice qu2 0 du2, Value.slice qu3 0 du3] 26)).cell? ⟨g19, 0, none⟩ = some (.int .i64 (betw s0 s1).frm) := b57.cell 0
      go_wp2_with (first | (refine wpList_store_new rfl _ _ _ rfl rfl 26 _ #[Value.int .i64 0, Value.slice qu1 0 du1, Value.slice qu2 0 du2, Value.slice qu3 0 du3] rfl state_size rfl (one_st4 _ _ _ _ _ _ _ _ _ _) ?_) | (first | (refine wpList_load_blk_w (by rfl) _ _ rfl (w.heap.size) rfl _ #[Value.int .i64 r, Value.slice pj0 s0.jobs.length cj0, Value.slice pn0 s0.nodes.length cn0, Value.slice pl0 s0.leases.length cl0] b55 _ Tryz.underlying26 rfl state_size ?_) | (refine wpList_load_blk_w (by rfl) _ _ rfl (w.heap.size + 1) rfl _ #[Value.int .i64 s1.rev, Value.slice pj1 s1.jobs.length cj1, Value.slice pn1 s1.nodes.length cn1, Value.slice pl1 s1.leases.length cl1] b56 _ Tryz.underlying26 rfl state_size ?_) | (refine wpList_load_blk_w (by rfl) _ _ rfl (g19) rfl _ #[Value.int .i64 (betw s0 s1).frm, Value.int .i64 (betw s0 s1).upto, Value.slice r1 (betw s0 s1).jobs.length e1, Value.slice r2 (betw s0 s1).nodes.length e2, Value.slice r3 (betw s0 s1).leases.length e3, Value.slice r4 (betw s0 s1).gj.length e4, Value.slice r5 (betw s0 s1).gn.length e5, Value.slice r6 (betw s0 s1).gl.length e6] b57 _ Tryz.underlying30 rfl delta_size ?_) | (refine wpList_load_blk_w (by rfl) _ _ rfl (g36) rfl _ #[Value.int .i64 0, Value.slice qt1 0 dt1, Value.slice qt2 0 dt2, Value.slice qt3 0 dt3] b58 _ Tryz.underlying26 rfl state_size ?_) | (refine wpList_load_blk_w (by rfl) _ _ rfl (w45.heap.size) rfl _ #[Value.int .i64 0, Value.slice qu1 0 du1, Value.slice qu2 0 du2, Value.slice qu3 0 du3] b54 _ Tryz.underlying26 rfl state_size ?_)))
      generalize w45.alloc _ = W62 at *
      generalize w45.heap.size = g63 at *
      have hS := same_any ⟨0, [], [], []⟩ ⟨0, [], [], []⟩ qu1 qu2 qu3 none none none du1 du2 du3 0 0 0 _ m59 ⟨.nil_, .nil_, .nil_⟩ zero_sz zero_sz
      rw [decide_eq_true rfl] at hS
      refine (hS).mono ?_
      rintro e w64 ⟨rfl, hb65⟩
      have b66 := b55.below hb65 b55.lt
      have b67 := b56.below hb65 b56.lt
      have b68 := b57.below hb65 b57.lt
      have b69 := b58.below hb65 b58.lt
      have b70 := b54.below hb65 b54.lt
      have m71 := (m59.below hb65).more hb65.size
      have o72 := o60.below hb65
      have c73 := c61.trans (hb65.mono c61.size)
      clear b55 b56 b57 b58 b54 m59 o60 c61 hb65
      go_wp2_with (first | (refine wpList_load_blk_w (by rfl) _ _ rfl (w.heap.size) rfl _ #[Value.int .i64 r, Value.slice pj0 s0.jobs.length cj0, Value.slice pn0 s0.nodes.length cn0, Value.slice pl0 s0.leases.length cl0] b66 _ Tryz.underlying26 rfl state_size ?_) | (refine wpList_load_blk_w (by rfl) _ _ rfl (w.heap.size + 1) rfl _ #[Value.int .i64 s1.rev, Value.slice pj1 s1.jobs.length cj1, Value.slice pn1 s1.nodes.length cn1, Value.slice pl1 s1.leases.length cl1] b67 _ Tryz.underlying26 rfl state_size ?_) | (refine wpList_load_blk_w (by rfl) _ _ rfl (g19) rfl _ #[Value.int .i64 (betw s0 s1).frm, Value.int .i64 (betw s0 s1).upto, Value.slice r1 (betw s0 s1).jobs.length e1, Value.slice r2 (betw s0 s1).nodes.length e2, Value.slice r3 (betw s0 s1).leases.length e3, Value.slice r4 (betw s0 s1).gj.length e4, Value.slice r5 (betw s0 s1).gn.length e5, Value.slice r6 (betw s0 s1).gl.length e6] b68 _ Tryz.underlying30 rfl delta_size ?_) | (refine wpList_load_blk_w (by rfl) _ _ rfl (g36) rfl _ #[Value.int .i64 0, Value.slice qt1 0 dt1, Value.slice qt2 0 dt2, Value.slice qt3 0 dt3] b69 _ Tryz.underlying26 rfl state_size ?_) | (refine wpList_load_blk_w (by rfl) _ _ rfl (g63) rfl _ #[Value.int .i64 0, Value.slice qu1 0 du1, Value.slice qu2 0 du2, Value.slice qu3 0 du3] b70 _ Tryz.underlying26 rfl state_size ?_))
      go_ret
      exact ⟨rfl, c73⟩
  · have hdf := fun (W : World) (hW : Below w.heap.size w W) => diff_any s0 s1 pj0 pn0 pl0 pj1 pn1 pl1 cj0 cn0 cl0 cj1 cn1 cl1 W ((HM0.out.below hW).more hW.size) ((HM1.out.below hW).more hW.size) HZ0.out HZ1.out (HT.out.below hW)
    have hne : ((diffE s0 s1 : Int) != 0) = true := by rw [bne_iff_ne]; omega
    generalize diffE s0 s1 = er at *
    generalize diffD s0 s1 = dd at *
    have HD := Lib.hid hdf
    clear hdf hE
    go_enter Tryz.func4, Tryz.ntmps4
    go_wp2_with fail
    generalize ((w.alloc (.cells #[Value.int .i64 s0.rev, Value.slice pj0 s0.jobs.length cj0, Value.slice pn0 s0.nodes.length cn0, Value.slice pl0 s0.leases.length cl0] 26))).alloc _ = W0 at *
    refine (differed_any _ (HT.out.below cc)).mono ?_
    rintro e w1 ⟨rfl, hb2⟩
    have b3 := bb0.below hb2 bb0.lt
    have b4 := bb1.below hb2 bb1.lt
    have c5 := cc.trans (hb2.mono cc.size)
    clear bb0 bb1 cc hb2
    go_wp2_with (first | (refine wpList_load_blk_w (by rfl) _ _ rfl (w.heap.size) rfl _ #[Value.int .i64 s0.rev, Value.slice pj0 s0.jobs.length cj0, Value.slice pn0 s0.nodes.length cn0, Value.slice pl0 s0.leases.length cl0] b3 _ Tryz.underlying26 rfl state_size ?_) | (refine wpList_load_blk_w (by rfl) _ _ rfl (w.heap.size + 1) rfl _ #[Value.int .i64 s1.rev, Value.slice pj1 s1.jobs.length cj1, Value.slice pn1 s1.nodes.length cn1, Value.slice pl1 s1.leases.length cl1] b4 _ Tryz.underlying26 rfl state_size ?_))
    refine (HD.out _ c5).mono ?_
    rintro e w6 ⟨r1, r2, r3, r4, r5, r6, e1, e2, e3, e4, e5, e6, rfl, hO8, hb7⟩
    clear hO8
    have b9 := b3.below hb7 b3.lt
    have b10 := b4.below hb7 b4.lt
    have c11 := c5.trans (hb7.mono c5.size)
    clear b3 b4 c5 hb7
    have hb12 : Below w6.heap.size w6 (w6.alloc (.cells #[Value.int .i64 dd.frm, Value.int .i64 dd.upto, Value.slice r1 dd.jobs.length e1, Value.slice r2 dd.nodes.length e2, Value.slice r3 dd.leases.length e3, Value.slice r4 dd.gj.length e4, Value.slice r5 dd.gn.length e5, Value.slice r6 dd.gl.length e6] 30)) := (Below.refl _ _).alloc (Nat.le_refl _) _
    have b13 := Blk.new w6 30 #[Value.int .i64 dd.frm, Value.int .i64 dd.upto, Value.slice r1 dd.jobs.length e1, Value.slice r2 dd.nodes.length e2, Value.slice r3 dd.leases.length e3, Value.slice r4 dd.gj.length e4, Value.slice r5 dd.gn.length e5, Value.slice r6 dd.gl.length e6]
    have b14 := b9.below hb12 b9.lt
    have b15 := b10.below hb12 b10.lt
    have c16 := c11.trans (hb12.mono c11.size)
    clear b9 b10 c11 hb12
    go_wp2_with (first | (refine wpList_store_new rfl _ _ _ rfl rfl 30 _ #[Value.int .i64 dd.frm, Value.int .i64 dd.upto, Value.slice r1 dd.jobs.length e1, Value.slice r2 dd.nodes.length e2, Value.slice r3 dd.leases.length e3, Value.slice r4 dd.gj.length e4, Value.slice r5 dd.gn.length e5, Value.slice r6 dd.gl.length e6] rfl delta_size rfl (one_d8 _ _ _ _ _ _ _ _ _ _ _ _ _ _ _ _ _ _ _ _) ?_) | (refine wpList_load_blk_w (by rfl) _ _ rfl (w.heap.size) rfl _ #[Value.int .i64 s0.rev, Value.slice pj0 s0.jobs.length cj0, Value.slice pn0 s0.nodes.length cn0, Value.slice pl0 s0.leases.length cl0] b14 _ Tryz.underlying26 rfl state_size ?_) | (refine wpList_load_blk_w (by rfl) _ _ rfl (w.heap.size + 1) rfl _ #[Value.int .i64 s1.rev, Value.slice pj1 s1.jobs.length cj1, Value.slice pn1 s1.nodes.length cn1, Value.slice pl1 s1.leases.length cl1] b15 _ Tryz.underlying26 rfl state_size ?_) | (refine wpList_load_blk_w (by rfl) _ _ rfl (w6.heap.size) rfl _ #[Value.int .i64 dd.frm, Value.int .i64 dd.upto, Value.slice r1 dd.jobs.length e1, Value.slice r2 dd.nodes.length e2, Value.slice r3 dd.leases.length e3, Value.slice r4 dd.gj.length e4, Value.slice r5 dd.gn.length e5, Value.slice r6 dd.gl.length e6] b13 _ Tryz.underlying30 rfl delta_size ?_))
    go_ret
    exact ⟨rfl, c16⟩
end Go.Proofs.YtkommikehbbhbaaGreatDoor.deltaOld
