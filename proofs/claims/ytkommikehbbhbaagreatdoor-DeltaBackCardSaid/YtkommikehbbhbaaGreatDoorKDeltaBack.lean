/-
  The law DeltaBack of package brackenkeep: for every input it answers true.
-/
import Derived.Test.YtkommikehbbhbaaGreatDoorRows
import Derived.Test.YtkommikehbbhbaaGreatDoorPkBase
import Derived.Test.YtkommikehbbhbaaGreatDoorPkDelLaw
set_option linter.unusedVariables false
set_option linter.unusedSimpArgs false
namespace Go.Proofs.YtkommikehbbhbaaGreatDoor.deltaBack
open Go.ChangeShapes Go.WideShapes Go.ChangeAt Go.RowKit Go.Joins
open Go.ChangeMaps (open_string)
set_option maxHeartbeats 8000000 in
set_option maxRecDepth 100000 in
theorem walk (s0 : St) (pj0 pn0 pl0 : Option Addr) (cj0 cn0 cl0 : Nat) (w : World) (hm0 : StM w w.heap.size pj0 pn0 pl0 s0) (hk0 : StOk s0) (s1 : St) (pj1 pn1 pl1 : Option Addr) (cj1 cn1 cl1 : Nat) (hm1 : StM w w.heap.size pj1 pn1 pl1 s1) (hk1 : StOk s1) (hT : Tabs w) :
    Calls Tryz.prog 3 #[.agg #[Value.int .i64 s0.rev, Value.slice pj0 s0.jobs.length cj0, Value.slice pn0 s0.nodes.length cn0, Value.slice pl0 s0.leases.length cl0], .agg #[Value.int .i64 s1.rev, Value.slice pj1 s1.jobs.length cj1, Value.slice pn1 s1.nodes.length cn1, Value.slice pl1 s1.leases.length cl1]] w fun e w' => e = .returned (.bool true) ∧ Below w.heap.size w w' := by
  have bb0 := (Blk.new w 26 #[Value.int .i64 s0.rev, Value.slice pj0 s0.jobs.length cj0, Value.slice pn0 s0.nodes.length cn0, Value.slice pl0 s0.leases.length cl0]).alloc (.cells #[Value.int .i64 s1.rev, Value.slice pj1 s1.jobs.length cj1, Value.slice pn1 s1.nodes.length cn1, Value.slice pl1 s1.leases.length cl1] 26)
  have hz1 : (w.alloc (.cells #[Value.int .i64 s0.rev, Value.slice pj0 s0.jobs.length cj0, Value.slice pn0 s0.nodes.length cn0, Value.slice pl0 s0.leases.length cl0] 26)).heap.size = w.heap.size + 1 := by simp
  have bb1 := blk_new_of hz1 26 #[Value.int .i64 s1.rev, Value.slice pj1 s1.jobs.length cj1, Value.slice pn1 s1.nodes.length cn1, Value.slice pl1 s1.leases.length cl1]
  have cc : Below w.heap.size w ((w.alloc (.cells #[Value.int .i64 s0.rev, Value.slice pj0 s0.jobs.length cj0, Value.slice pn0 s0.nodes.length cn0, Value.slice pl0 s0.leases.length cl0] 26)).alloc (.cells #[Value.int .i64 s1.rev, Value.slice pj1 s1.jobs.length cj1, Value.slice pn1 s1.nodes.length cn1, Value.slice pl1 s1.leases.length cl1] 26)) := (((Below.refl _ _).alloc (by simp) (.cells #[Value.int .i64 s0.rev, Value.slice pj0 s0.jobs.length cj0, Value.slice pn0 s0.nodes.length cn0, Value.slice pl0 s0.leases.length cl0] 26)).alloc (by simp) (.cells #[Value.int .i64 s1.rev, Value.slice pj1 s1.jobs.length cj1, Value.slice pn1 s1.nodes.length cn1, Value.slice pl1 s1.leases.length cl1] 26))
  clear hz1
  have HM0 := Lib.hid hm0
  have HZ0 := Lib.hid hk0.sz
  have HM1 := Lib.hid hm1
  have HZ1 := Lib.hid hk1.sz
  have HT := Lib.hid hT
  have hzd := zero_delta_lit
  have hzs := zero_state_lit
  have z0 : (((0 : Nat) : Int) != 0) = false := rfl
  have z1 : (((0 : Nat) : Int) == 0) = true := rfl
  clear hT hm0 hk0 hm1 hk1
  by_cases hE : diffE s0 s1 = 0
  · have hok := diffE_is hE
    have HO := Lib.hid hok
    clear hE hok
    go_enter Tryz.func3, Tryz.ntmps3
    go_wp2_with fail
    generalize ((w.alloc (.cells #[Value.int .i64 s0.rev, Value.slice pj0 s0.jobs.length cj0, Value.slice pn0 s0.nodes.length cn0, Value.slice pl0 s0.leases.length cl0] 26))).alloc _ = W0 at *
    refine (differed_any _ (HT.out.below cc)).mono ?_
    rintro e w1 ⟨rfl, hb2⟩
    have b3 := bb0.below hb2 bb0.lt
    have b4 := bb1.below hb2 bb1.lt
    have c5 := cc.trans (hb2.mono cc.size)
    clear bb0 bb1 cc hb2
    go_wp2_with (first | (refine wpList_load_blk_w (by rfl) _ _ rfl (w.heap.size) rfl _ #[Value.int .i64 s0.rev, Value.slice pj0 s0.jobs.length cj0, Value.slice pn0 s0.nodes.length cn0, Value.slice pl0 s0.leases.length cl0] b3 _ Tryz.underlying26 rfl state_size ?_) | (refine wpList_load_blk_w (by rfl) _ _ rfl (w.heap.size + 1) rfl _ #[Value.int .i64 s1.rev, Value.slice pj1 s1.jobs.length cj1, Value.slice pn1 s1.nodes.length cn1, Value.slice pl1 s1.leases.length cl1] b4 _ Tryz.underlying26 rfl state_size ?_))
    refine (diff_ok s0 s1 pj0 pn0 pl0 pj1 pn1 pl1 cj0 cn0 cl0 cj1 cn1 cl1 _ ((HM0.out.below c5).more c5.size) ((HM1.out.below c5).more c5.size) (HT.out.below c5) HO.out).mono ?_
    rintro e w7 ⟨rx1, rx2, rx3, rx4, rx5, rx6, ex1, ex2, ex3, ex4, ex5, ex6, rfl, m6, hb8⟩
    have b9 := b3.below hb8 b3.lt
    have b10 := b4.below hb8 b4.lt
    have c11 := c5.trans (hb8.mono c5.size)
    clear b3 b4 c5 hb8
    have hb12 : Below w7.heap.size w7 (w7.alloc (.cells #[Value.int .i64 (betw s0 s1).frm, Value.int .i64 (betw s0 s1).upto, Value.slice rx1 (betw s0 s1).jobs.length ex1, Value.slice rx2 (betw s0 s1).nodes.length ex2, Value.slice rx3 (betw s0 s1).leases.length ex3, Value.slice rx4 (betw s0 s1).gj.length ex4, Value.slice rx5 (betw s0 s1).gn.length ex5, Value.slice rx6 (betw s0 s1).gl.length ex6] 30)) := (Below.refl _ _).alloc (Nat.le_refl _) _
    have b13 := Blk.new w7 30 #[Value.int .i64 (betw s0 s1).frm, Value.int .i64 (betw s0 s1).upto, Value.slice rx1 (betw s0 s1).jobs.length ex1, Value.slice rx2 (betw s0 s1).nodes.length ex2, Value.slice rx3 (betw s0 s1).leases.length ex3, Value.slice rx4 (betw s0 s1).gj.length ex4, Value.slice rx5 (betw s0 s1).gn.length ex5, Value.slice rx6 (betw s0 s1).gl.length ex6]
    have b14 := b9.below hb12 b9.lt
    have b15 := b10.below hb12 b10.lt
    have m16 := (m6.below hb12).more hb12.size
    have c17 := c11.trans (hb12.mono c11.size)
    clear b9 b10 m6 c11 hb12
    go_wp2_with (first | (refine wpList_store_new rfl _ _ _ rfl rfl 30 _ #[Value.int .i64 (betw s0 s1).frm, Value.int .i64 (betw s0 s1).upto, Value.slice rx1 (betw s0 s1).jobs.length ex1, Value.slice rx2 (betw s0 s1).nodes.length ex2, Value.slice rx3 (betw s0 s1).leases.length ex3, Value.slice rx4 (betw s0 s1).gj.length ex4, Value.slice rx5 (betw s0 s1).gn.length ex5, Value.slice rx6 (betw s0 s1).gl.length ex6] rfl delta_size rfl (one_d8 _ _ _ _ _ _ _ _ _ _ _ _ _ _ _ _ _ _ _ _) ?_) | (first | (refine wpList_load_blk_w (by rfl) _ _ rfl (w.heap.size) rfl _ #[Value.int .i64 s0.rev, Value.slice pj0 s0.jobs.length cj0, Value.slice pn0 s0.nodes.length cn0, Value.slice pl0 s0.leases.length cl0] b14 _ Tryz.underlying26 rfl state_size ?_) | (refine wpList_load_blk_w (by rfl) _ _ rfl (w.heap.size + 1) rfl _ #[Value.int .i64 s1.rev, Value.slice pj1 s1.jobs.length cj1, Value.slice pn1 s1.nodes.length cn1, Value.slice pl1 s1.leases.length cl1] b15 _ Tryz.underlying26 rfl state_size ?_) | (refine wpList_load_blk_w (by rfl) _ _ rfl (w7.heap.size) rfl _ #[Value.int .i64 (betw s0 s1).frm, Value.int .i64 (betw s0 s1).upto, Value.slice rx1 (betw s0 s1).jobs.length ex1, Value.slice rx2 (betw s0 s1).nodes.length ex2, Value.slice rx3 (betw s0 s1).leases.length ex3, Value.slice rx4 (betw s0 s1).gj.length ex4, Value.slice rx5 (betw s0 s1).gn.length ex5, Value.slice rx6 (betw s0 s1).gl.length ex6] b13 _ Tryz.underlying30 rfl delta_size ?_)))
    generalize w7.alloc _ = W18 at *
    generalize w7.heap.size = g19 at *
    refine (apply_ok s0 s1 pj0 pn0 pl0 cj0 cn0 cl0 _ _ _ _ _ _ _ _ _ _ _ _ _ ((HM0.out.below c17).more c17.size) m16 (HT.out.below c17) HO.out).mono ?_
    rintro e w21 ⟨q1, q2, q3, d1, d2, d3, rfl, m20, hb22⟩
    have b23 := b14.below hb22 b14.lt
    have b24 := b15.below hb22 b15.lt
    have b25 := b13.below hb22 b13.lt
    have m26 := (m16.below hb22).more hb22.size
    have c27 := c17.trans (hb22.mono c17.size)
    clear b14 b15 b13 m16 c17 hb22
    have hb28 : Below w21.heap.size w21 (w21.alloc (.cells #[Value.int .i64 s1.rev, Value.slice q1 s1.jobs.length d1, Value.slice q2 s1.nodes.length d2, Value.slice q3 s1.leases.length d3] 26)) := (Below.refl _ _).alloc (Nat.le_refl _) _
    have b29 := Blk.new w21 26 #[Value.int .i64 s1.rev, Value.slice q1 s1.jobs.length d1, Value.slice q2 s1.nodes.length d2, Value.slice q3 s1.leases.length d3]
    have b30 := b23.below hb28 b23.lt
    have b31 := b24.below hb28 b24.lt
    have b32 := b25.below hb28 b25.lt
    have m33 := (m26.below hb28).more hb28.size
    have m34 := (m20.below hb28).more hb28.size
    have c35 := c27.trans (hb28.mono c27.size)
    clear b23 b24 b25 m26 m20 c27 hb28
    go_wp2_with (first | (refine wpList_store_new rfl _ _ _ rfl rfl 26 _ #[Value.int .i64 s1.rev, Value.slice q1 s1.jobs.length d1, Value.slice q2 s1.nodes.length d2, Value.slice q3 s1.leases.length d3] rfl state_size rfl (one_st4 _ _ _ _ _ _ _ _ _ _) ?_) | (first | (refine wpList_load_blk_w (by rfl) _ _ rfl (w.heap.size) rfl _ #[Value.int .i64 s0.rev, Value.slice pj0 s0.jobs.length cj0, Value.slice pn0 s0.nodes.length cn0, Value.slice pl0 s0.leases.length cl0] b30 _ Tryz.underlying26 rfl state_size ?_) | (refine wpList_load_blk_w (by rfl) _ _ rfl (w.heap.size + 1) rfl _ #[Value.int .i64 s1.rev, Value.slice pj1 s1.jobs.length cj1, Value.slice pn1 s1.nodes.length cn1, Value.slice pl1 s1.leases.length cl1] b31 _ Tryz.underlying26 rfl state_size ?_) | (refine wpList_load_blk_w (by rfl) _ _ rfl (g19) rfl _ #[Value.int .i64 (betw s0 s1).frm, Value.int .i64 (betw s0 s1).upto, Value.slice rx1 (betw s0 s1).jobs.length ex1, Value.slice rx2 (betw s0 s1).nodes.length ex2, Value.slice rx3 (betw s0 s1).leases.length ex3, Value.slice rx4 (betw s0 s1).gj.length ex4, Value.slice rx5 (betw s0 s1).gn.length ex5, Value.slice rx6 (betw s0 s1).gl.length ex6] b32 _ Tryz.underlying30 rfl delta_size ?_) | (refine wpList_load_blk_w (by rfl) _ _ rfl (w21.heap.size) rfl _ #[Value.int .i64 s1.rev, Value.slice q1 s1.jobs.length d1, Value.slice q2 s1.nodes.length d2, Value.slice q3 s1.leases.length d3] b29 _ Tryz.underlying26 rfl state_size ?_)))
    generalize w21.alloc _ = W36 at *
    generalize w21.heap.size = g37 at *
    refine (chk_ok s0 s1 _ _ _ _ _ _ _ _ _ _ _ _ _ m33 (HT.out.below c35) HO.out).mono ?_
    rintro e w38 ⟨rfl, hb39⟩
    have b40 := b30.below hb39 b30.lt
    have b41 := b31.below hb39 b31.lt
    have b42 := b32.below hb39 b32.lt
    have b43 := b29.below hb39 b29.lt
    have m44 := (m33.below hb39).more hb39.size
    have m45 := (m34.below hb39).more hb39.size
    have c46 := c35.trans (hb39.mono c35.size)
    clear b30 b31 b32 b29 m33 m34 c35 hb39
    go_wp2_with (first | (refine wpList_load_blk_w (by rfl) _ _ rfl (w.heap.size) rfl _ #[Value.int .i64 s0.rev, Value.slice pj0 s0.jobs.length cj0, Value.slice pn0 s0.nodes.length cn0, Value.slice pl0 s0.leases.length cl0] b40 _ Tryz.underlying26 rfl state_size ?_) | (refine wpList_load_blk_w (by rfl) _ _ rfl (w.heap.size + 1) rfl _ #[Value.int .i64 s1.rev, Value.slice pj1 s1.jobs.length cj1, Value.slice pn1 s1.nodes.length cn1, Value.slice pl1 s1.leases.length cl1] b41 _ Tryz.underlying26 rfl state_size ?_) | (refine wpList_load_blk_w (by rfl) _ _ rfl (g19) rfl _ #[Value.int .i64 (betw s0 s1).frm, Value.int .i64 (betw s0 s1).upto, Value.slice rx1 (betw s0 s1).jobs.length ex1, Value.slice rx2 (betw s0 s1).nodes.length ex2, Value.slice rx3 (betw s0 s1).leases.length ex3, Value.slice rx4 (betw s0 s1).gj.length ex4, Value.slice rx5 (betw s0 s1).gn.length ex5, Value.slice rx6 (betw s0 s1).gl.length ex6] b42 _ Tryz.underlying30 rfl delta_size ?_) | (refine wpList_load_blk_w (by rfl) _ _ rfl (g37) rfl _ #[Value.int .i64 s1.rev, Value.slice q1 s1.jobs.length d1, Value.slice q2 s1.nodes.length d2, Value.slice q3 s1.leases.length d3] b43 _ Tryz.underlying26 rfl state_size ?_))
    have hS := same_any s1 s1 q1 q2 q3 pj1 pn1 pl1 d1 d2 d3 cj1 cn1 cl1 _ m45 ((HM1.out.below c46).more c46.size) HZ1.out HZ1.out
    rw [decide_eq_true rfl] at hS
    refine (hS).mono ?_
    rintro e w47 ⟨rfl, hb48⟩
    have b49 := b40.below hb48 b40.lt
    have b50 := b41.below hb48 b41.lt
    have b51 := b42.below hb48 b42.lt
    have b52 := b43.below hb48 b43.lt
    have m53 := (m44.below hb48).more hb48.size
    have m54 := (m45.below hb48).more hb48.size
    have c55 := c46.trans (hb48.mono c46.size)
    clear b40 b41 b42 b43 m44 m45 c46 hb48
    go_wp2_with (first | (refine wpList_load_blk_w (by rfl) _ _ rfl (w.heap.size) rfl _ #[Value.int .i64 s0.rev, Value.slice pj0 s0.jobs.length cj0, Value.slice pn0 s0.nodes.length cn0, Value.slice pl0 s0.leases.length cl0] b49 _ Tryz.underlying26 rfl state_size ?_) | (refine wpList_load_blk_w (by rfl) _ _ rfl (w.heap.size + 1) rfl _ #[Value.int .i64 s1.rev, Value.slice pj1 s1.jobs.length cj1, Value.slice pn1 s1.nodes.length cn1, Value.slice pl1 s1.leases.length cl1] b50 _ Tryz.underlying26 rfl state_size ?_) | (refine wpList_load_blk_w (by rfl) _ _ rfl (g19) rfl _ #[Value.int .i64 (betw s0 s1).frm, Value.int .i64 (betw s0 s1).upto, Value.slice rx1 (betw s0 s1).jobs.length ex1, Value.slice rx2 (betw s0 s1).nodes.length ex2, Value.slice rx3 (betw s0 s1).leases.length ex3, Value.slice rx4 (betw s0 s1).gj.length ex4, Value.slice rx5 (betw s0 s1).gn.length ex5, Value.slice rx6 (betw s0 s1).gl.length ex6] b51 _ Tryz.underlying30 rfl delta_size ?_) | (refine wpList_load_blk_w (by rfl) _ _ rfl (g37) rfl _ #[Value.int .i64 s1.rev, Value.slice q1 s1.jobs.length d1, Value.slice q2 s1.nodes.length d2, Value.slice q3 s1.leases.length d3] b52 _ Tryz.underlying26 rfl state_size ?_))
    go_ret
    exact ⟨rfl, c55⟩
  · have hD : diffD s0 s1 = noD := by unfold diffD; rw [if_neg hE]
    have hdf := fun (W : World) (hW : Below w.heap.size w W) => diff_any s0 s1 pj0 pn0 pl0 pj1 pn1 pl1 cj0 cn0 cl0 cj1 cn1 cl1 W ((HM0.out.below hW).more hW.size) ((HM1.out.below hW).more hW.size) HZ0.out HZ1.out (HT.out.below hW)
    rw [hD] at hdf
    have hne : ((diffE s0 s1 : Int) != 0) = true := by rw [bne_iff_ne]; omega
    generalize diffE s0 s1 = er at *
    have HD := Lib.hid hdf
    clear hdf hD hE
    go_enter Tryz.func3, Tryz.ntmps3
    go_wp2_with fail
    generalize ((w.alloc (.cells #[Value.int .i64 s0.rev, Value.slice pj0 s0.jobs.length cj0, Value.slice pn0 s0.nodes.length cn0, Value.slice pl0 s0.leases.length cl0] 26))).alloc _ = W0 at *
    refine (differed_any _ (HT.out.below cc)).mono ?_
    rintro e w1 ⟨rfl, hb2⟩
    have b3 := bb0.below hb2 bb0.lt
    have b4 := bb1.below hb2 bb1.lt
    have c5 := cc.trans (hb2.mono cc.size)
    clear bb0 bb1 cc hb2
    go_wp2_with (first | (refine wpList_load_blk_w (by rfl) _ _ rfl (w.heap.size) rfl _ #[Value.int .i64 s0.rev, Value.slice pj0 s0.jobs.length cj0, Value.slice pn0 s0.nodes.length cn0, Value.slice pl0 s0.leases.length cl0] b3 _ Tryz.underlying26 rfl state_size ?_) | (refine wpList_load_blk_w (by rfl) _ _ rfl (w.heap.size + 1) rfl _ #[Value.int .i64 s1.rev, Value.slice pj1 s1.jobs.length cj1, Value.slice pn1 s1.nodes.length cn1, Value.slice pl1 s1.leases.length cl1] b4 _ Tryz.underlying26 rfl state_size ?_))
    refine (HD.out _ c5).mono ?_
    rintro e w6 ⟨r1, r2, r3, r4, r5, r6, e1, e2, e3, e4, e5, e6, rfl, hO8, hb7⟩
    have mm := hO8.m
    clear hO8
    have b9 := b3.below hb7 b3.lt
    have b10 := b4.below hb7 b4.lt
    have c11 := c5.trans (hb7.mono c5.size)
    clear b3 b4 c5 hb7
    have hb12 : Below w6.heap.size w6 (w6.alloc (.cells #[Value.int .i64 noD.frm, Value.int .i64 noD.upto, Value.slice r1 noD.jobs.length e1, Value.slice r2 noD.nodes.length e2, Value.slice r3 noD.leases.length e3, Value.slice r4 noD.gj.length e4, Value.slice r5 noD.gn.length e5, Value.slice r6 noD.gl.length e6] 30)) := (Below.refl _ _).alloc (Nat.le_refl _) _
    have b13 := Blk.new w6 30 #[Value.int .i64 noD.frm, Value.int .i64 noD.upto, Value.slice r1 noD.jobs.length e1, Value.slice r2 noD.nodes.length e2, Value.slice r3 noD.leases.length e3, Value.slice r4 noD.gj.length e4, Value.slice r5 noD.gn.length e5, Value.slice r6 noD.gl.length e6]
    have b14 := b9.below hb12 b9.lt
    have b15 := b10.below hb12 b10.lt
    have m16 := (mm.below hb12).more hb12.size
    have c17 := c11.trans (hb12.mono c11.size)
    clear b9 b10 mm c11 hb12
    go_wp2_with (first | (refine wpList_store_new rfl _ _ _ rfl rfl 30 _ #[Value.int .i64 noD.frm, Value.int .i64 noD.upto, Value.slice r1 noD.jobs.length e1, Value.slice r2 noD.nodes.length e2, Value.slice r3 noD.leases.length e3, Value.slice r4 noD.gj.length e4, Value.slice r5 noD.gn.length e5, Value.slice r6 noD.gl.length e6] rfl delta_size rfl (one_d8 _ _ _ _ _ _ _ _ _ _ _ _ _ _ _ _ _ _ _ _) ?_) | (first | (refine wpList_load_blk_w (by rfl) _ _ rfl (w.heap.size) rfl _ #[Value.int .i64 s0.rev, Value.slice pj0 s0.jobs.length cj0, Value.slice pn0 s0.nodes.length cn0, Value.slice pl0 s0.leases.length cl0] b14 _ Tryz.underlying26 rfl state_size ?_) | (refine wpList_load_blk_w (by rfl) _ _ rfl (w.heap.size + 1) rfl _ #[Value.int .i64 s1.rev, Value.slice pj1 s1.jobs.length cj1, Value.slice pn1 s1.nodes.length cn1, Value.slice pl1 s1.leases.length cl1] b15 _ Tryz.underlying26 rfl state_size ?_) | (refine wpList_load_blk_w (by rfl) _ _ rfl (w6.heap.size) rfl _ #[Value.int .i64 noD.frm, Value.int .i64 noD.upto, Value.slice r1 noD.jobs.length e1, Value.slice r2 noD.nodes.length e2, Value.slice r3 noD.leases.length e3, Value.slice r4 noD.gj.length e4, Value.slice r5 noD.gn.length e5, Value.slice r6 noD.gl.length e6] b13 _ Tryz.underlying30 rfl delta_size ?_)))
    generalize w6.alloc _ = W18 at *
    generalize w6.heap.size = g19 at *
    have hQ := deltaEq_any noD noD r1 r2 r3 r4 r5 r6 none none none none none none e1 e2 e3 e4 e5 e6 0 0 0 0 0 0 _ m16 (DelM.nil _ _) noD_sz noD_sz
    rw [decide_eq_true rfl] at hQ
    refine (hQ).mono ?_
    rintro e w20 ⟨rfl, hb21⟩
    have b22 := b14.below hb21 b14.lt
    have b23 := b15.below hb21 b15.lt
    have b24 := b13.below hb21 b13.lt
    have m25 := (m16.below hb21).more hb21.size
    have c26 := c17.trans (hb21.mono c17.size)
    clear b14 b15 b13 m16 c17 hb21
    go_wp2_with (first | (refine wpList_load_blk_w (by rfl) _ _ rfl (w.heap.size) rfl _ #[Value.int .i64 s0.rev, Value.slice pj0 s0.jobs.length cj0, Value.slice pn0 s0.nodes.length cn0, Value.slice pl0 s0.leases.length cl0] b22 _ Tryz.underlying26 rfl state_size ?_) | (refine wpList_load_blk_w (by rfl) _ _ rfl (w.heap.size + 1) rfl _ #[Value.int .i64 s1.rev, Value.slice pj1 s1.jobs.length cj1, Value.slice pn1 s1.nodes.length cn1, Value.slice pl1 s1.leases.length cl1] b23 _ Tryz.underlying26 rfl state_size ?_) | (refine wpList_load_blk_w (by rfl) _ _ rfl (g19) rfl _ #[Value.int .i64 noD.frm, Value.int .i64 noD.upto, Value.slice r1 noD.jobs.length e1, Value.slice r2 noD.nodes.length e2, Value.slice r3 noD.leases.length e3, Value.slice r4 noD.gj.length e4, Value.slice r5 noD.gn.length e5, Value.slice r6 noD.gl.length e6] b24 _ Tryz.underlying30 rfl delta_size ?_))
    go_ret
    exact ⟨rfl, c26⟩

theorem own : ownKnob Tryz.prog.godebug = none := by kernel_rfl
theorem laid : laidOutB Tryz.prog = true := by kernel_rfl
set_option maxRecDepth 100000 in
theorem contract (H : Type) (enc : TypeId × Value → H) (W : World) (base : Nat) (args : Array Value) (ds gs : List (DataW H)) (before : List MemPlace)
    (hval0 : ∀ (j : Nat) t v, Tryz.f3.params[j]? = some t → args[j]? = some v → Value.okWide Tryz.prog W .any base t v)
    (hW : DataW.Whole enc Tryz.prog Tryz.f3.params.toList Rows.deltaBackSpec.vars false W args.toList ds gs before)
    (hsz0 : (DataW.weightsEach Tryz.prog (Tryz.f3.params.toList ++ Rows.deltaBackSpec.plain.varTypes Tryz.prog) (ds ++ gs)).all (· ≤ reachBytes) = true)
    (hT : Tabs W) :
    Calls Tryz.prog 3 args W fun e W' => ∃ v, e = .returned v ∧ Rows.deltaBackSpec.post enc Tryz.prog Tryz.f3 false true false false W args v W' := by
  have hval : ∀ (j : Nat) t v, Tryz.f3.params[j]? = some t → args[j]? = some v → Value.okWide Tryz.prog W .any base t v := hval0
  have hsz : (DataW.weightsEach Tryz.prog (Tryz.f3.params.toList ++ Rows.deltaBackSpec.plain.varTypes Tryz.prog) (ds ++ gs)).all (· ≤ reachBytes) = true := hsz0
  have hlt : ∀ x ∈ before, x.block < W.heap.size := fun x hx => hW.lt x hx
  have hW' := hW
  obtain ⟨p, q, hA0, hV, rfl, hfz, hnd⟩ := hW
  have hA : DataW.TrodAll enc Tryz.prog W 0 (fun _ => true) true Tryz.f3.params.toList args.toList ds p := hA0
  rw [Tryz.params3] at hA hval hsz
  obtain ⟨v0, vs0, d0, ds0, p0, q0, hargs, rfl, rfl, h0, r0⟩ := trodAll_cons hA
  obtain ⟨v1, vs1, d1, ds1, p1, q1, rfl, rfl, rfl, h1, r1⟩ := trodAll_cons r0
  obtain ⟨rfl, rfl, rfl⟩ := trodAll_nil r1
  obtain rfl : args = #[v0, v1] := by cases args; simp_all
  obtain ⟨rfl, rfl⟩ := trodVars_none hV
  obtain ⟨s0, pj0, pn0, pl0, cj0, cn0, cl0, rfl, hm0, hk0⟩ := open_state (hval 0 26 v0 rfl rfl) h0 hsz (j := 0) rfl rfl
  obtain ⟨s1, pj1, pn1, pl1, cj1, cn1, cl1, rfl, hm1, hk1⟩ := open_state (hval 1 26 v1 rfl rfl) h1 hsz (j := 1) rfl rfl
  refine (walk s0 pj0 pn0 pl0 cj0 cn0 cl0 W hm0 hk0 s1 pj1 pn1 pl1 cj1 cn1 cl1 hm1 hk1 hT).mono fun e W' ⟨he, hb⟩ => ?_
  subst he
  exact ⟨_, rfl, law_post laid (by kernel_rfl) Tryz.underlying4 rfl rfl hW' rfl rfl rfl rfl hb⟩

theorem reads (os : Os) {H : Type} (enc : TypeId × Value → H) : ∃ places, DataW.whole enc Tryz.prog ((laidWorld os).forCall (fun _ _ => 0) ⟨#[], #[.agg #[.int .i64 0, .slice none 0 0, .slice none 0 0, .slice none 0 0], .agg #[.int .i64 0, .slice none 0 0, .slice none 0 0, .slice none 0 0]], []⟩).memory Tryz.f3.params.toList Rows.deltaBackSpec.vars false (#[.agg #[.int .i64 0, .slice none 0 0, .slice none 0 0, .slice none 0 0], .agg #[.int .i64 0, .slice none 0 0, .slice none 0 0, .slice none 0 0]] : Array Value).toList 8 = some ([.agg [.lit (.int .i64 0), .nil, .nil, .nil], .agg [.lit (.int .i64 0), .nil, .nil, .nil]], [], places) :=
  ⟨[], by kernel_rfl⟩
set_option maxRecDepth 100000 in
theorem lifted (os : Os) (started : os.Started) (H : Type) (enc : TypeId × Value → H) (F : Stop.Interp) :
    ReturnsInHanded {} Tryz.checked os 3 .any ((OpenSpec.ofChange Rows.deltaBackSpec).preRow enc Tryz.prog Tryz.f3 Rows.deltaBackRow.domain false Rows.deltaBackRow.laid) (((OpenSpec.ofChange Rows.deltaBackSpec).at F).post enc Tryz.prog Tryz.f3 false true false false) := by
  obtain ⟨places, hx⟩ := reads os enc
  refine returnsInHanded_of_row (C := Tryz.checked) (s := (OpenSpec.ofChange Rows.deltaBackSpec)) own started (by kernel_rfl) Tryz.func3
    (witness_row_atRef (enc := enc) (C := Tryz.checked) false (laidWorld os) #[.agg #[.int .i64 0, .slice none 0 0, .slice none 0 0, .slice none 0 0], .agg #[.int .i64 0, .slice none 0 0, .slice none 0 0, .slice none 0 0]] rfl (by kernel_rfl) (by kernel_rfl) (by kernel_rfl)
      (OpenSpec.preRow_of_cond 8 hx (by kernel_rfl) (fun k hk => by cases hk) (by kernel_rfl) (laid_met os _))) ?_
  intro W base args ds gs before hval0 hW _ hcond hsz0 hL _ _
  exact contract H enc W base args ds gs before hval0 hW hsz0 (tabs_of_laid hL)

theorem said : Rows.DeltaBackSaid :=
  OpenClaim.holds_of_cond 3 Tryz.f3 rfl rfl rfl rfl rfl rfl rfl ⟨rfl, rfl, rfl, rfl, rfl⟩ rfl rfl rfl rfl rfl (by kernel_rfl) Tryz.func3 (by kernel_rfl)
    (of_decide_eq_true (by kernel_rfl)) (by unfold Func.isWrapper; first | (rw [if_pos (by decide +kernel)]; kernel_rfl) | (rw [if_neg (by decide +kernel)]; exact ⟨rfl, rfl⟩))
    (fun os started H enc _ F => by rw [OpenClaim.pre_eq_preRow]; exact lifted os started H enc F)

/-- No parameter wants a stand-in; the program's own looks are off. -/
theorem plain (f : FuncId) (fn : Func) (hf : Tryz.pinned.checked.prog.funcNamed "bracken/brackenkeep.DeltaBack" = some f) (hfn : Tryz.pinned.checked.prog.funcs[f]? = some fn) :
    false = Tryz.pinned.checked.prog.looks [] ∧ ∀ (j : Nat) t, fn.params[j]? = some t → Tryz.pinned.checked.prog.wantsStandIn t = false := by
  obtain rfl : f = 3 := Option.some.inj ((show Tryz.prog.funcNamed "bracken/brackenkeep.DeltaBack" = some 3 by kernel_rfl).symm.trans hf) |>.symm
  obtain rfl : fn = Tryz.f3 := (Option.some.inj (Tryz.func3.symm.trans hfn)).symm
  refine ⟨by kernel_rfl, fun j t ht => ?_⟩
  rw [Tryz.params3] at ht
  have hm := Array.mem_of_getElem? ht
  have hall : (#[26, 26] : Array TypeId).all (fun t => !Tryz.prog.wantsStandIn t) = true := by kernel_rfl
  have := Array.all_eq_true_iff_forall_mem.1 hall t (by simpa using hm)
  show Tryz.prog.wantsStandIn t = false
  simpa using this

/-- The statement. -/
theorem proved : Rows.DeltaBackCardSaid :=
  Claim7.holds_tied_plain_at .later [] _ _ _ _ said (fun _ h => by cases h) (by kernel_rfl) (fun _ h => by cases h) deltaBack_row_tie rfl ⟨rfl, rfl⟩ (by kernel_rfl) rfl plain (by kernel_rfl)
#print axioms proved
end Go.Proofs.YtkommikehbbhbaaGreatDoor.deltaBack
