/-
  Several texts in one: VDeltaThrough.
-/
import Derived.Test.YtkommikehbbhbaaGreatDoorPkBase
import Derived.Test.YtkommikehbbhbaaGreatDoorPkDelLaw
/-
  The walk of the law DeltaThrough.
-/
set_option linter.unusedVariables false
set_option linter.unusedSimpArgs false
namespace Go.Proofs.YtkommikehbbhbaaGreatDoor.deltaThrough
open Go.ChangeShapes Go.WideShapes Go.ChangeAt Go.RowKit Go.Joins
open Go.ChangeMaps (open_string)
set_option maxHeartbeats 8000000 in
set_option maxRecDepth 100000 in
theorem walk (s0 : St) (pj0 pn0 pl0 : Option Addr) (cj0 cn0 cl0 : Nat) (w : World) (hm0 : StM w w.heap.size pj0 pn0 pl0 s0) (hk0 : StOk s0) (s1 : St) (pj1 pn1 pl1 : Option Addr) (cj1 cn1 cl1 : Nat) (hm1 : StM w w.heap.size pj1 pn1 pl1 s1) (hk1 : StOk s1) (s2 : St) (pj2 pn2 pl2 : Option Addr) (cj2 cn2 cl2 : Nat) (hm2 : StM w w.heap.size pj2 pn2 pl2 s2) (hk2 : StOk s2) (hT : Tabs w) :
    Calls Tryz.prog 5 #[.agg #[Value.int .i64 s0.rev, Value.slice pj0 s0.jobs.length cj0, Value.slice pn0 s0.nodes.length cn0, Value.slice pl0 s0.leases.length cl0], .agg #[Value.int .i64 s1.rev, Value.slice pj1 s1.jobs.length cj1, Value.slice pn1 s1.nodes.length cn1, Value.slice pl1 s1.leases.length cl1], .agg #[Value.int .i64 s2.rev, Value.slice pj2 s2.jobs.length cj2, Value.slice pn2 s2.nodes.length cn2, Value.slice pl2 s2.leases.length cl2]] w fun e w' => e = .returned (.bool true) ∧ Below w.heap.size w w' := by
  have bb0 := ((Blk.new w 26 #[Value.int .i64 s0.rev, Value.slice pj0 s0.jobs.length cj0, Value.slice pn0 s0.nodes.length cn0, Value.slice pl0 s0.leases.length cl0]).alloc (.cells #[Value.int .i64 s1.rev, Value.slice pj1 s1.jobs.length cj1, Value.slice pn1 s1.nodes.length cn1, Value.slice pl1 s1.leases.length cl1] 26)).alloc (.cells #[Value.int .i64 s2.rev, Value.slice pj2 s2.jobs.length cj2, Value.slice pn2 s2.nodes.length cn2, Value.slice pl2 s2.leases.length cl2] 26)
  have hz1 : (w.alloc (.cells #[Value.int .i64 s0.rev, Value.slice pj0 s0.jobs.length cj0, Value.slice pn0 s0.nodes.length cn0, Value.slice pl0 s0.leases.length cl0] 26)).heap.size = w.heap.size + 1 := by simp
  have bb1 := (blk_new_of hz1 26 #[Value.int .i64 s1.rev, Value.slice pj1 s1.jobs.length cj1, Value.slice pn1 s1.nodes.length cn1, Value.slice pl1 s1.leases.length cl1]).alloc (.cells #[Value.int .i64 s2.rev, Value.slice pj2 s2.jobs.length cj2, Value.slice pn2 s2.nodes.length cn2, Value.slice pl2 s2.leases.length cl2] 26)
  have hz2 : ((w.alloc (.cells #[Value.int .i64 s0.rev, Value.slice pj0 s0.jobs.length cj0, Value.slice pn0 s0.nodes.length cn0, Value.slice pl0 s0.leases.length cl0] 26)).alloc (.cells #[Value.int .i64 s1.rev, Value.slice pj1 s1.jobs.length cj1, Value.slice pn1 s1.nodes.length cn1, Value.slice pl1 s1.leases.length cl1] 26)).heap.size = w.heap.size + 2 := by simp
  have bb2 := blk_new_of hz2 26 #[Value.int .i64 s2.rev, Value.slice pj2 s2.jobs.length cj2, Value.slice pn2 s2.nodes.length cn2, Value.slice pl2 s2.leases.length cl2]
  have cc : Below w.heap.size w (((w.alloc (.cells #[Value.int .i64 s0.rev, Value.slice pj0 s0.jobs.length cj0, Value.slice pn0 s0.nodes.length cn0, Value.slice pl0 s0.leases.length cl0] 26)).alloc (.cells #[Value.int .i64 s1.rev, Value.slice pj1 s1.jobs.length cj1, Value.slice pn1 s1.nodes.length cn1, Value.slice pl1 s1.leases.length cl1] 26)).alloc (.cells #[Value.int .i64 s2.rev, Value.slice pj2 s2.jobs.length cj2, Value.slice pn2 s2.nodes.length cn2, Value.slice pl2 s2.leases.length cl2] 26)) := ((((Below.refl _ _).alloc (by simp) (.cells #[Value.int .i64 s0.rev, Value.slice pj0 s0.jobs.length cj0, Value.slice pn0 s0.nodes.length cn0, Value.slice pl0 s0.leases.length cl0] 26)).alloc (by simp) (.cells #[Value.int .i64 s1.rev, Value.slice pj1 s1.jobs.length cj1, Value.slice pn1 s1.nodes.length cn1, Value.slice pl1 s1.leases.length cl1] 26)).alloc (by simp; omega) (.cells #[Value.int .i64 s2.rev, Value.slice pj2 s2.jobs.length cj2, Value.slice pn2 s2.nodes.length cn2, Value.slice pl2 s2.leases.length cl2] 26))
  clear hz1 hz2
  have HM0 := Lib.hid hm0
  have HZ0 := Lib.hid hk0.sz
  have HM1 := Lib.hid hm1
  have HZ1 := Lib.hid hk1.sz
  have HM2 := Lib.hid hm2
  have HZ2 := Lib.hid hk2.sz
  have HT := Lib.hid hT
  have hzd := zero_delta_lit
  have hzs := zero_state_lit
  have z0 : (((0 : Nat) : Int) != 0) = false := rfl
  have z1 : (((0 : Nat) : Int) == 0) = true := rfl
  clear hT hm0 hk0 hm1 hk1 hm2 hk2
  by_cases hE : (checkE s0 = 0 ∧ checkE s1 = 0 ∧ s0.rev < s1.rev) ∧ (checkE s1 = 0 ∧ checkE s2 = 0 ∧ s1.rev < s2.rev)
  · have H1 := Lib.hid hE.1
    have H2 := Lib.hid hE.2
    have H3 := Lib.hid (show checkE s0 = 0 ∧ checkE s2 = 0 ∧ s0.rev < s2.rev from ⟨hE.1.1, hE.2.2.1, Int.lt_trans hE.1.2.2 hE.2.2.2⟩)
    clear hE
    go_enter Tryz.func5, Tryz.ntmps5
    go_wp2_with fail
    generalize (((w.alloc (.cells #[Value.int .i64 s0.rev, Value.slice pj0 s0.jobs.length cj0, Value.slice pn0 s0.nodes.length cn0, Value.slice pl0 s0.leases.length cl0] 26)).alloc (.cells #[Value.int .i64 s1.rev, Value.slice pj1 s1.jobs.length cj1, Value.slice pn1 s1.nodes.length cn1, Value.slice pl1 s1.leases.length cl1] 26))).alloc _ = W0 at *
    refine (differed_any _ (HT.out.below cc)).mono ?_
    rintro e w1 ⟨rfl, hb2⟩
    have b3 := bb0.below hb2 bb0.lt
    have b4 := bb1.below hb2 bb1.lt
    have b5 := bb2.below hb2 bb2.lt
    have c6 := cc.trans (hb2.mono cc.size)
    clear bb0 bb1 bb2 cc hb2
    go_wp2_with (first | (refine wpList_load_blk_w (by rfl) _ _ rfl (w.heap.size) rfl _ #[Value.int .i64 s0.rev, Value.slice pj0 s0.jobs.length cj0, Value.slice pn0 s0.nodes.length cn0, Value.slice pl0 s0.leases.length cl0] b3 _ Tryz.underlying26 rfl state_size ?_) | (refine wpList_load_blk_w (by rfl) _ _ rfl (w.heap.size + 1) rfl _ #[Value.int .i64 s1.rev, Value.slice pj1 s1.jobs.length cj1, Value.slice pn1 s1.nodes.length cn1, Value.slice pl1 s1.leases.length cl1] b4 _ Tryz.underlying26 rfl state_size ?_) | (refine wpList_load_blk_w (by rfl) _ _ rfl (w.heap.size + 2) rfl _ #[Value.int .i64 s2.rev, Value.slice pj2 s2.jobs.length cj2, Value.slice pn2 s2.nodes.length cn2, Value.slice pl2 s2.leases.length cl2] b5 _ Tryz.underlying26 rfl state_size ?_))
    refine (diff_ok s0 s1 pj0 pn0 pl0 pj1 pn1 pl1 cj0 cn0 cl0 cj1 cn1 cl1 _ ((HM0.out.below c6).more c6.size) ((HM1.out.below c6).more c6.size) (HT.out.below c6) H1.out).mono ?_
    rintro e w8 ⟨rx1, rx2, rx3, rx4, rx5, rx6, ex1, ex2, ex3, ex4, ex5, ex6, rfl, m7, hb9⟩
    have b10 := b3.below hb9 b3.lt
    have b11 := b4.below hb9 b4.lt
    have b12 := b5.below hb9 b5.lt
    have c13 := c6.trans (hb9.mono c6.size)
    clear b3 b4 b5 c6 hb9
    have hb14 : Below w8.heap.size w8 (w8.alloc (.cells #[Value.int .i64 (betw s0 s1).frm, Value.int .i64 (betw s0 s1).upto, Value.slice rx1 (betw s0 s1).jobs.length ex1, Value.slice rx2 (betw s0 s1).nodes.length ex2, Value.slice rx3 (betw s0 s1).leases.length ex3, Value.slice rx4 (betw s0 s1).gj.length ex4, Value.slice rx5 (betw s0 s1).gn.length ex5, Value.slice rx6 (betw s0 s1).gl.length ex6] 30)) := (Below.refl _ _).alloc (Nat.le_refl _) _
    have b15 := Blk.new w8 30 #[Value.int .i64 (betw s0 s1).frm, Value.int .i64 (betw s0 s1).upto, Value.slice rx1 (betw s0 s1).jobs.length ex1, Value.slice rx2 (betw s0 s1).nodes.length ex2, Value.slice rx3 (betw s0 s1).leases.length ex3, Value.slice rx4 (betw s0 s1).gj.length ex4, Value.slice rx5 (betw s0 s1).gn.length ex5, Value.slice rx6 (betw s0 s1).gl.length ex6]
    have b16 := b10.below hb14 b10.lt
    have b17 := b11.below hb14 b11.lt
    have b18 := b12.below hb14 b12.lt
    have m19 := (m7.below hb14).more hb14.size
    have c20 := c13.trans (hb14.mono c13.size)
    clear b10 b11 b12 m7 c13 hb14
    go_wp2_with (first | (refine wpList_store_new rfl _ _ _ rfl rfl 30 _ #[Value.int .i64 (betw s0 s1).frm, Value.int .i64 (betw s0 s1).upto, Value.slice rx1 (betw s0 s1).jobs.length ex1, Value.slice rx2 (betw s0 s1).nodes.length ex2, Value.slice rx3 (betw s0 s1).leases.length ex3, Value.slice rx4 (betw s0 s1).gj.length ex4, Value.slice rx5 (betw s0 s1).gn.length ex5, Value.slice rx6 (betw s0 s1).gl.length ex6] rfl delta_size rfl (one_d8 _ _ _ _ _ _ _ _ _ _ _ _ _ _ _ _ _ _ _ _) ?_) | (first | (refine wpList_load_blk_w (by rfl) _ _ rfl (w.heap.size) rfl _ #[Value.int .i64 s0.rev, Value.slice pj0 s0.jobs.length cj0, Value.slice pn0 s0.nodes.length cn0, Value.slice pl0 s0.leases.length cl0] b16 _ Tryz.underlying26 rfl state_size ?_) | (refine wpList_load_blk_w (by rfl) _ _ rfl (w.heap.size + 1) rfl _ #[Value.int .i64 s1.rev, Value.slice pj1 s1.jobs.length cj1, Value.slice pn1 s1.nodes.length cn1, Value.slice pl1 s1.leases.length cl1] b17 _ Tryz.underlying26 rfl state_size ?_) | (refine wpList_load_blk_w (by rfl) _ _ rfl (w.heap.size + 2) rfl _ #[Value.int .i64 s2.rev, Value.slice pj2 s2.jobs.length cj2, Value.slice pn2 s2.nodes.length cn2, Value.slice pl2 s2.leases.length cl2] b18 _ Tryz.underlying26 rfl state_size ?_) | (refine wpList_load_blk_w (by rfl) _ _ rfl (w8.heap.size) rfl _ #[Value.int .i64 (betw s0 s1).frm, Value.int .i64 (betw s0 s1).upto, Value.slice rx1 (betw s0 s1).jobs.length ex1, Value.slice rx2 (betw s0 s1).nodes.length ex2, Value.slice rx3 (betw s0 s1).leases.length ex3, Value.slice rx4 (betw s0 s1).gj.length ex4, Value.slice rx5 (betw s0 s1).gn.length ex5, Value.slice rx6 (betw s0 s1).gl.length ex6] b15 _ Tryz.underlying30 rfl delta_size ?_)))
    generalize w8.alloc _ = W21 at *
    generalize w8.heap.size = g22 at *
    refine (diff_ok s1 s2 pj1 pn1 pl1 pj2 pn2 pl2 cj1 cn1 cl1 cj2 cn2 cl2 _ ((HM1.out.below c20).more c20.size) ((HM2.out.below c20).more c20.size) (HT.out.below c20) H2.out).mono ?_
    rintro e w24 ⟨ry1, ry2, ry3, ry4, ry5, ry6, ey1, ey2, ey3, ey4, ey5, ey6, rfl, m23, hb25⟩
    have b26 := b16.below hb25 b16.lt
    have b27 := b17.below hb25 b17.lt
    have b28 := b18.below hb25 b18.lt
    have b29 := b15.below hb25 b15.lt
    have m30 := (m19.below hb25).more hb25.size
    have c31 := c20.trans (hb25.mono c20.size)
    clear b16 b17 b18 b15 m19 c20 hb25
    have hb32 : Below w24.heap.size w24 (w24.alloc (.cells #[Value.int .i64 (betw s1 s2).frm, Value.int .i64 (betw s1 s2).upto, Value.slice ry1 (betw s1 s2).jobs.length ey1, Value.slice ry2 (betw s1 s2).nodes.length ey2, Value.slice ry3 (betw s1 s2).leases.length ey3, Value.slice ry4 (betw s1 s2).gj.length ey4, Value.slice ry5 (betw s1 s2).gn.length ey5, Value.slice ry6 (betw s1 s2).gl.length ey6] 30)) := (Below.refl _ _).alloc (Nat.le_refl _) _
    have b33 := Blk.new w24 30 #[Value.int .i64 (betw s1 s2).frm, Value.int .i64 (betw s1 s2).upto, Value.slice ry1 (betw s1 s2).jobs.length ey1, Value.slice ry2 (betw s1 s2).nodes.length ey2, Value.slice ry3 (betw s1 s2).leases.length ey3, Value.slice ry4 (betw s1 s2).gj.length ey4, Value.slice ry5 (betw s1 s2).gn.length ey5, Value.slice ry6 (betw s1 s2).gl.length ey6]
    have b34 := b26.below hb32 b26.lt
    have b35 := b27.below hb32 b27.lt
    have b36 := b28.below hb32 b28.lt
    have b37 := b29.below hb32 b29.lt
    have m38 := (m30.below hb32).more hb32.size
    have m39 := (m23.below hb32).more hb32.size
    have c40 := c31.trans (hb32.mono c31.size)
    clear b26 b27 b28 b29 m30 m23 c31 hb32
    go_wp2_with (first | (refine wpList_store_new rfl _ _ _ rfl rfl 30 _ #[Value.int .i64 (betw s1 s2).frm, Value.int .i64 (betw s1 s2).upto, Value.slice ry1 (betw s1 s2).jobs.length ey1, Value.slice ry2 (betw s1 s2).nodes.length ey2, Value.slice ry3 (betw s1 s2).leases.length ey3, Value.slice ry4 (betw s1 s2).gj.length ey4, Value.slice ry5 (betw s1 s2).gn.length ey5, Value.slice ry6 (betw s1 s2).gl.length ey6] rfl delta_size rfl (one_d8 _ _ _ _ _ _ _ _ _ _ _ _ _ _ _ _ _ _ _ _) ?_) | (first | (refine wpList_load_blk_w (by rfl) _ _ rfl (w.heap.size) rfl _ #[Value.int .i64 s0.rev, Value.slice pj0 s0.jobs.length cj0, Value.slice pn0 s0.nodes.length cn0, Value.slice pl0 s0.leases.length cl0] b34 _ Tryz.underlying26 rfl state_size ?_) | (refine wpList_load_blk_w (by rfl) _ _ rfl (w.heap.size + 1) rfl _ #[Value.int .i64 s1.rev, Value.slice pj1 s1.jobs.length cj1, Value.slice pn1 s1.nodes.length cn1, Value.slice pl1 s1.leases.length cl1] b35 _ Tryz.underlying26 rfl state_size ?_) | (refine wpList_load_blk_w (by rfl) _ _ rfl (w.heap.size + 2) rfl _ #[Value.int .i64 s2.rev, Value.slice pj2 s2.jobs.length cj2, Value.slice pn2 s2.nodes.length cn2, Value.slice pl2 s2.leases.length cl2] b36 _ Tryz.underlying26 rfl state_size ?_) | (refine wpList_load_blk_w (by rfl) _ _ rfl (g22) rfl _ #[Value.int .i64 (betw s0 s1).frm, Value.int .i64 (betw s0 s1).upto, Value.slice rx1 (betw s0 s1).jobs.length ex1, Value.slice rx2 (betw s0 s1).nodes.length ex2, Value.slice rx3 (betw s0 s1).leases.length ex3, Value.slice rx4 (betw s0 s1).gj.length ex4, Value.slice rx5 (betw s0 s1).gn.length ex5, Value.slice rx6 (betw s0 s1).gl.length ex6] b37 _ Tryz.underlying30 rfl delta_size ?_) | (refine wpList_load_blk_w (by rfl) _ _ rfl (w24.heap.size) rfl _ #[Value.int .i64 (betw s1 s2).frm, Value.int .i64 (betw s1 s2).upto, Value.slice ry1 (betw s1 s2).jobs.length ey1, Value.slice ry2 (betw s1 s2).nodes.length ey2, Value.slice ry3 (betw s1 s2).leases.length ey3, Value.slice ry4 (betw s1 s2).gj.length ey4, Value.slice ry5 (betw s1 s2).gn.length ey5, Value.slice ry6 (betw s1 s2).gl.length ey6] b33 _ Tryz.underlying30 rfl delta_size ?_)))
    generalize w24.alloc _ = W41 at *
    generalize w24.heap.size = g42 at *
    refine (diff_ok s0 s2 pj0 pn0 pl0 pj2 pn2 pl2 cj0 cn0 cl0 cj2 cn2 cl2 _ ((HM0.out.below c40).more c40.size) ((HM2.out.below c40).more c40.size) (HT.out.below c40) H3.out).mono ?_
    rintro e w44 ⟨rz1, rz2, rz3, rz4, rz5, rz6, ez1, ez2, ez3, ez4, ez5, ez6, rfl, m43, hb45⟩
    have b46 := b34.below hb45 b34.lt
    have b47 := b35.below hb45 b35.lt
    have b48 := b36.below hb45 b36.lt
    have b49 := b37.below hb45 b37.lt
    have b50 := b33.below hb45 b33.lt
    have m51 := (m38.below hb45).more hb45.size
    have m52 := (m39.below hb45).more hb45.size
    have c53 := c40.trans (hb45.mono c40.size)
    clear b34 b35 b36 b37 b33 m38 m39 c40 hb45
    have hb54 : Below w44.heap.size w44 (w44.alloc (.cells #[Value.int .i64 (betw s0 s2).frm, Value.int .i64 (betw s0 s2).upto, Value.slice rz1 (betw s0 s2).jobs.length ez1, Value.slice rz2 (betw s0 s2).nodes.length ez2, Value.slice rz3 (betw s0 s2).leases.length ez3, Value.slice rz4 (betw s0 s2).gj.length ez4, Value.slice rz5 (betw s0 s2).gn.length ez5, Value.slice rz6 (betw s0 s2).gl.length ez6] 30)) := (Below.refl _ _).alloc (Nat.le_refl _) _
    have b55 := Blk.new w44 30 #[Value.int .i64 (betw s0 s2).frm, Value.int .i64 (betw s0 s2).upto, Value.slice rz1 (betw s0 s2).jobs.length ez1, Value.slice rz2 (betw s0 s2).nodes.length ez2, Value.slice rz3 (betw s0 s2).leases.length ez3, Value.slice rz4 (betw s0 s2).gj.length ez4, Value.slice rz5 (betw s0 s2).gn.length ez5, Value.slice rz6 (betw s0 s2).gl.length ez6]
    have b56 := b46.below hb54 b46.lt
    have b57 := b47.below hb54 b47.lt
    have b58 := b48.below hb54 b48.lt
    have b59 := b49.below hb54 b49.lt
    have b60 := b50.below hb54 b50.lt
    have m61 := (m51.below hb54).more hb54.size
    have m62 := (m52.below hb54).more hb54.size
    have m63 := (m43.below hb54).more hb54.size
    have c64 := c53.trans (hb54.mono c53.size)
    clear b46 b47 b48 b49 b50 m51 m52 m43 c53 hb54
    go_wp2_with (first | (refine wpList_store_new rfl _ _ _ rfl rfl 30 _ #[Value.int .i64 (betw s0 s2).frm, Value.int .i64 (betw s0 s2).upto, Value.slice rz1 (betw s0 s2).jobs.length ez1, Value.slice rz2 (betw s0 s2).nodes.length ez2, Value.slice rz3 (betw s0 s2).leases.length ez3, Value.slice rz4 (betw s0 s2).gj.length ez4, Value.slice rz5 (betw s0 s2).gn.length ez5, Value.slice rz6 (betw s0 s2).gl.length ez6] rfl delta_size rfl (one_d8 _ _ _ _ _ _ _ _ _ _ _ _ _ _ _ _ _ _ _ _) ?_) | (first | (refine wpList_load_blk_w (by rfl) _ _ rfl (w.heap.size) rfl _ #[Value.int .i64 s0.rev, Value.slice pj0 s0.jobs.length cj0, Value.slice pn0 s0.nodes.length cn0, Value.slice pl0 s0.leases.length cl0] b56 _ Tryz.underlying26 rfl state_size ?_) | (refine wpList_load_blk_w (by rfl) _ _ rfl (w.heap.size + 1) rfl _ #[Value.int .i64 s1.rev, Value.slice pj1 s1.jobs.length cj1, Value.slice pn1 s1.nodes.length cn1, Value.slice pl1 s1.leases.length cl1] b57 _ Tryz.underlying26 rfl state_size ?_) | (refine wpList_load_blk_w (by rfl) _ _ rfl (w.heap.size + 2) rfl _ #[Value.int .i64 s2.rev, Value.slice pj2 s2.jobs.length cj2, Value.slice pn2 s2.nodes.length cn2, Value.slice pl2 s2.leases.length cl2] b58 _ Tryz.underlying26 rfl state_size ?_) | (refine wpList_load_blk_w (by rfl) _ _ rfl (g22) rfl _ #[Value.int .i64 (betw s0 s1).frm, Value.int .i64 (betw s0 s1).upto, Value.slice rx1 (betw s0 s1).jobs.length ex1, Value.slice rx2 (betw s0 s1).nodes.length ex2, Value.slice rx3 (betw s0 s1).leases.length ex3, Value.slice rx4 (betw s0 s1).gj.length ex4, Value.slice rx5 (betw s0 s1).gn.length ex5, Value.slice rx6 (betw s0 s1).gl.length ex6] b59 _ Tryz.underlying30 rfl delta_size ?_) | (refine wpList_load_blk_w (by rfl) _ _ rfl (g42) rfl _ #[Value.int .i64 (betw s1 s2).frm, Value.int .i64 (betw s1 s2).upto, Value.slice ry1 (betw s1 s2).jobs.length ey1, Value.slice ry2 (betw s1 s2).nodes.length ey2, Value.slice ry3 (betw s1 s2).leases.length ey3, Value.slice ry4 (betw s1 s2).gj.length ey4, Value.slice ry5 (betw s1 s2).gn.length ey5, Value.slice ry6 (betw s1 s2).gl.length ey6] b60 _ Tryz.underlying30 rfl delta_size ?_) | (refine wpList_load_blk_w (by rfl) _ _ rfl (w44.heap.size) rfl _ #[Value.int .i64 (betw s0 s2).frm, Value.int .i64 (betw s0 s2).upto, Value.slice rz1 (betw s0 s2).jobs.length ez1, Value.slice rz2 (betw s0 s2).nodes.length ez2, Value.slice rz3 (betw s0 s2).leases.length ez3, Value.slice rz4 (betw s0 s2).gj.length ez4, Value.slice rz5 (betw s0 s2).gn.length ez5, Value.slice rz6 (betw s0 s2).gl.length ez6] b55 _ Tryz.underlying30 rfl delta_size ?_)))
    generalize w44.alloc _ = W65 at *
    generalize w44.heap.size = g66 at *
    refine (apply_ok s0 s1 pj0 pn0 pl0 cj0 cn0 cl0 _ _ _ _ _ _ _ _ _ _ _ _ _ ((HM0.out.below c64).more c64.size) m61 (HT.out.below c64) H1.out).mono ?_
    rintro e w68 ⟨qs1, qs2, qs3, ds1, ds2, ds3, rfl, m67, hb69⟩
    have b70 := b56.below hb69 b56.lt
    have b71 := b57.below hb69 b57.lt
    have b72 := b58.below hb69 b58.lt
    have b73 := b59.below hb69 b59.lt
    have b74 := b60.below hb69 b60.lt
    have b75 := b55.below hb69 b55.lt
    have m76 := (m61.below hb69).more hb69.size
    have m77 := (m62.below hb69).more hb69.size
    have m78 := (m63.below hb69).more hb69.size
    have c79 := c64.trans (hb69.mono c64.size)
    clear b56 b57 b58 b59 b60 b55 m61 m62 m63 c64 hb69
    have hb80 : Below w68.heap.size w68 (w68.alloc (.cells #[Value.int .i64 s1.rev, Value.slice qs1 s1.jobs.length ds1, Value.slice qs2 s1.nodes.length ds2, Value.slice qs3 s1.leases.length ds3] 26)) := (Below.refl _ _).alloc (Nat.le_refl _) _
    have b81 := Blk.new w68 26 #[Value.int .i64 s1.rev, Value.slice qs1 s1.jobs.length ds1, Value.slice qs2 s1.nodes.length ds2, Value.slice qs3 s1.leases.length ds3]
    have b82 := b70.below hb80 b70.lt
    have b83 := b71.below hb80 b71.lt
    have b84 := b72.below hb80 b72.lt
    have b85 := b73.below hb80 b73.lt
    have b86 := b74.below hb80 b74.lt
    have b87 := b75.below hb80 b75.lt
    have m88 := (m76.below hb80).more hb80.size
    have m89 := (m77.below hb80).more hb80.size
    have m90 := (m78.below hb80).more hb80.size
    have m91 := (m67.below hb80).more hb80.size
    have c92 := c79.trans (hb80.mono c79.size)
    clear b70 b71 b72 b73 b74 b75 m76 m77 m78 m67 c79 hb80
    go_wp2_with (first | (refine wpList_store_new rfl _ _ _ rfl rfl 26 _ #[Value.int .i64 s1.rev, Value.slice qs1 s1.jobs.length ds1, Value.slice qs2 s1.nodes.length ds2, Value.slice qs3 s1.leases.length ds3] rfl state_size rfl (one_st4 _ _ _ _ _ _ _ _ _ _) ?_) | (first | (refine wpList_load_blk_w (by rfl) _ _ rfl (w.heap.size) rfl _ #[Value.int .i64 s0.rev, Value.slice pj0 s0.jobs.length cj0, Value.slice pn0 s0.nodes.length cn0, Value.slice pl0 s0.leases.length cl0] b82 _ Tryz.underlying26 rfl state_size ?_) | (refine wpList_load_blk_w (by rfl) _ _ rfl (w.heap.size + 1) rfl _ #[Value.int .i64 s1.rev, Value.slice pj1 s1.jobs.length cj1, Value.slice pn1 s1.nodes.length cn1, Value.slice pl1 s1.leases.length cl1] b83 _ Tryz.underlying26 rfl state_size ?_) | (refine wpList_load_blk_w (by rfl) _ _ rfl (w.heap.size + 2) rfl _ #[Value.int .i64 s2.rev, Value.slice pj2 s2.jobs.length cj2, Value.slice pn2 s2.nodes.length cn2, Value.slice pl2 s2.leases.length cl2] b84 _ Tryz.underlying26 rfl state_size ?_) | (refine wpList_load_blk_w (by rfl) _ _ rfl (g22) rfl _ #[Value.int .i64 (betw s0 s1).frm, Value.int .i64 (betw s0 s1).upto, Value.slice rx1 (betw s0 s1).jobs.length ex1, Value.slice rx2 (betw s0 s1).nodes.length ex2, Value.slice rx3 (betw s0 s1).leases.length ex3, Value.slice rx4 (betw s0 s1).gj.length ex4, Value.slice rx5 (betw s0 s1).gn.length ex5, Value.slice rx6 (betw s0 s1).gl.length ex6] b85 _ Tryz.underlying30 rfl delta_size ?_) | (refine wpList_load_blk_w (by rfl) _ _ rfl (g42) rfl _ #[Value.int .i64 (betw s1 s2).frm, Value.int .i64 (betw s1 s2).upto, Value.slice ry1 (betw s1 s2).jobs.length ey1, Value.slice ry2 (betw s1 s2).nodes.length ey2, Value.slice ry3 (betw s1 s2).leases.length ey3, Value.slice ry4 (betw s1 s2).gj.length ey4, Value.slice ry5 (betw s1 s2).gn.length ey5, Value.slice ry6 (betw s1 s2).gl.length ey6] b86 _ Tryz.underlying30 rfl delta_size ?_) | (refine wpList_load_blk_w (by rfl) _ _ rfl (g66) rfl _ #[Value.int .i64 (betw s0 s2).frm, Value.int .i64 (betw s0 s2).upto, Value.slice rz1 (betw s0 s2).jobs.length ez1, Value.slice rz2 (betw s0 s2).nodes.length ez2, Value.slice rz3 (betw s0 s2).leases.length ez3, Value.slice rz4 (betw s0 s2).gj.length ez4, Value.slice rz5 (betw s0 s2).gn.length ez5, Value.slice rz6 (betw s0 s2).gl.length ez6] b87 _ Tryz.underlying30 rfl delta_size ?_) | (refine wpList_load_blk_w (by rfl) _ _ rfl (w68.heap.size) rfl _ #[Value.int .i64 s1.rev, Value.slice qs1 s1.jobs.length ds1, Value.slice qs2 s1.nodes.length ds2, Value.slice qs3 s1.leases.length ds3] b81 _ Tryz.underlying26 rfl state_size ?_)))
    generalize w68.alloc _ = W93 at *
    generalize w68.heap.size = g94 at *
    refine (apply_ok s1 s2 qs1 qs2 qs3 ds1 ds2 ds3 _ _ _ _ _ _ _ _ _ _ _ _ _ m91 m89 (HT.out.below c92) H2.out).mono ?_
    rintro e w96 ⟨qt1, qt2, qt3, dt1, dt2, dt3, rfl, m95, hb97⟩
    have b98 := b82.below hb97 b82.lt
    have b99 := b83.below hb97 b83.lt
    have b100 := b84.below hb97 b84.lt
    have b101 := b85.below hb97 b85.lt
    have b102 := b86.below hb97 b86.lt
    have b103 := b87.below hb97 b87.lt
    have b104 := b81.below hb97 b81.lt
    have m105 := (m88.below hb97).more hb97.size
    have m106 := (m89.below hb97).more hb97.size
    have m107 := (m90.below hb97).more hb97.size
    have m108 := (m91.below hb97).more hb97.size
    have c109 := c92.trans (hb97.mono c92.size)
    clear b82 b83 b84 b85 b86 b87 b81 m88 m89 m90 m91 c92 hb97
    have hb110 : Below w96.heap.size w96 (w96.alloc (.cells #[Value.int .i64 s2.rev, Value.slice qt1 s2.jobs.length dt1, Value.slice qt2 s2.nodes.length dt2, Value.slice qt3 s2.leases.length dt3] 26)) := (Below.refl _ _).alloc (Nat.le_refl _) _
    have b111 := Blk.new w96 26 #[Value.int .i64 s2.rev, Value.slice qt1 s2.jobs.length dt1, Value.slice qt2 s2.nodes.length dt2, Value.slice qt3 s2.leases.length dt3]
    have b112 := b98.below hb110 b98.lt
    have b113 := b99.below hb110 b99.lt
    have b114 := b100.below hb110 b100.lt
    have b115 := b101.below hb110 b101.lt
    have b116 := b102.below hb110 b102.lt
    have b117 := b103.below hb110 b103.lt
    have b118 := b104.below hb110 b104.lt
    have m119 := (m105.below hb110).more hb110.size
    have m120 := (m106.below hb110).more hb110.size
    have m121 := (m107.below hb110).more hb110.size
    have m122 := (m108.below hb110).more hb110.size
    have m123 := (m95.below hb110).more hb110.size
    have c124 := c109.trans (hb110.mono c109.size)
    clear b98 b99 b100 b101 b102 b103 b104 m105 m106 m107 m108 m95 c109 hb110
    go_wp2_with (first | (refine wpList_store_new rfl _ _ _ rfl rfl 26 _ #[Value.int .i64 s2.rev, Value.slice qt1 s2.jobs.length dt1, Value.slice qt2 s2.nodes.length dt2, Value.slice qt3 s2.leases.length dt3] rfl state_size rfl (one_st4 _ _ _ _ _ _ _ _ _ _) ?_) | (first | (refine wpList_load_blk_w (by rfl) _ _ rfl (w.heap.size) rfl _ #[Value.int .i64 s0.rev, Value.slice pj0 s0.jobs.length cj0, Value.slice pn0 s0.nodes.length cn0, Value.slice pl0 s0.leases.length cl0] b112 _ Tryz.underlying26 rfl state_size ?_) | (refine wpList_load_blk_w (by rfl) _ _ rfl (w.heap.size + 1) rfl _ #[Value.int .i64 s1.rev, Value.slice pj1 s1.jobs.length cj1, Value.slice pn1 s1.nodes.length cn1, Value.slice pl1 s1.leases.length cl1] b113 _ Tryz.underlying26 rfl state_size ?_) | (refine wpList_load_blk_w (by rfl) _ _ rfl (w.heap.size + 2) rfl _ #[Value.int .i64 s2.rev, Value.slice pj2 s2.jobs.length cj2, Value.slice pn2 s2.nodes.length cn2, Value.slice pl2 s2.leases.length cl2] b114 _ Tryz.underlying26 rfl state_size ?_) | (refine wpList_load_blk_w (by rfl) _ _ rfl (g22) rfl _ #[Value.int .i64 (betw s0 s1).frm, Value.int .i64 (betw s0 s1).upto, Value.slice rx1 (betw s0 s1).jobs.length ex1, Value.slice rx2 (betw s0 s1).nodes.length ex2, Value.slice rx3 (betw s0 s1).leases.length ex3, Value.slice rx4 (betw s0 s1).gj.length ex4, Value.slice rx5 (betw s0 s1).gn.length ex5, Value.slice rx6 (betw s0 s1).gl.length ex6] b115 _ Tryz.underlying30 rfl delta_size ?_) | (refine wpList_load_blk_w (by rfl) _ _ rfl (g42) rfl _ #[Value.int .i64 (betw s1 s2).frm, Value.int .i64 (betw s1 s2).upto, Value.slice ry1 (betw s1 s2).jobs.length ey1, Value.slice ry2 (betw s1 s2).nodes.length ey2, Value.slice ry3 (betw s1 s2).leases.length ey3, Value.slice ry4 (betw s1 s2).gj.length ey4, Value.slice ry5 (betw s1 s2).gn.length ey5, Value.slice ry6 (betw s1 s2).gl.length ey6] b116 _ Tryz.underlying30 rfl delta_size ?_) | (refine wpList_load_blk_w (by rfl) _ _ rfl (g66) rfl _ #[Value.int .i64 (betw s0 s2).frm, Value.int .i64 (betw s0 s2).upto, Value.slice rz1 (betw s0 s2).jobs.length ez1, Value.slice rz2 (betw s0 s2).nodes.length ez2, Value.slice rz3 (betw s0 s2).leases.length ez3, Value.slice rz4 (betw s0 s2).gj.length ez4, Value.slice rz5 (betw s0 s2).gn.length ez5, Value.slice rz6 (betw s0 s2).gl.length ez6] b117 _ Tryz.underlying30 rfl delta_size ?_) | (refine wpList_load_blk_w (by rfl) _ _ rfl (g94) rfl _ #[Value.int .i64 s1.rev, Value.slice qs1 s1.jobs.length ds1, Value.slice qs2 s1.nodes.length ds2, Value.slice qs3 s1.leases.length ds3] b118 _ Tryz.underlying26 rfl state_size ?_) | (refine wpList_load_blk_w (by rfl) _ _ rfl (w96.heap.size) rfl _ #[Value.int .i64 s2.rev, Value.slice qt1 s2.jobs.length dt1, Value.slice qt2 s2.nodes.length dt2, Value.slice qt3 s2.leases.length dt3] b111 _ Tryz.underlying26 rfl state_size ?_)))
    generalize w96.alloc _ = W125 at *
    generalize w96.heap.size = g126 at *
    refine (apply_ok s0 s2 pj0 pn0 pl0 cj0 cn0 cl0 _ _ _ _ _ _ _ _ _ _ _ _ _ ((HM0.out.below c124).more c124.size) m121 (HT.out.below c124) H3.out).mono ?_
    rintro e w128 ⟨qu1, qu2, qu3, du1, du2, du3, rfl, m127, hb129⟩
    have b130 := b112.below hb129 b112.lt
    have b131 := b113.below hb129 b113.lt
    have b132 := b114.below hb129 b114.lt
    have b133 := b115.below hb129 b115.lt
    have b134 := b116.below hb129 b116.lt
    have b135 := b117.below hb129 b117.lt
    have b136 := b118.below hb129 b118.lt
    have b137 := b111.below hb129 b111.lt
    have m138 := (m119.below hb129).more hb129.size
    have m139 := (m120.below hb129).more hb129.size
    have m140 := (m121.below hb129).more hb129.size
    have m141 := (m122.below hb129).more hb129.size
    have m142 := (m123.below hb129).more hb129.size
    have c143 := c124.trans (hb129.mono c124.size)
    clear b112 b113 b114 b115 b116 b117 b118 b111 m119 m120 m121 m122 m123 c124 hb129
    have hb144 : Below w128.heap.size w128 (w128.alloc (.cells #[Value.int .i64 s2.rev, Value.slice qu1 s2.jobs.length du1, Value.slice qu2 s2.nodes.length du2, Value.slice qu3 s2.leases.length du3] 26)) := (Below.refl _ _).alloc (Nat.le_refl _) _
    have b145 := Blk.new w128 26 #[Value.int .i64 s2.rev, Value.slice qu1 s2.jobs.length du1, Value.slice qu2 s2.nodes.length du2, Value.slice qu3 s2.leases.length du3]
    have b146 := b130.below hb144 b130.lt
    have b147 := b131.below hb144 b131.lt
    have b148 := b132.below hb144 b132.lt
    have b149 := b133.below hb144 b133.lt
    have b150 := b134.below hb144 b134.lt
    have b151 := b135.below hb144 b135.lt
    have b152 := b136.below hb144 b136.lt
    have b153 := b137.below hb144 b137.lt
    have m154 := (m138.below hb144).more hb144.size
    have m155 := (m139.below hb144).more hb144.size
    have m156 := (m140.below hb144).more hb144.size
    have m157 := (m141.below hb144).more hb144.size
    have m158 := (m142.below hb144).more hb144.size
    have m159 := (m127.below hb144).more hb144.size
    have c160 := c143.trans (hb144.mono c143.size)
    clear b130 b131 b132 b133 b134 b135 b136 b137 m138 m139 m140 m141 m142 m127 c143 hb144
    go_wp2_with (first | (refine wpList_store_new rfl _ _ _ rfl rfl 26 _ #[Value.int .i64 s2.rev, Value.slice qu1 s2.jobs.length du1, Value.slice qu2 s2.nodes.length du2, Value.slice qu3 s2.leases.length du3] rfl state_size rfl (one_st4 _ _ _ _ _ _ _ _ _ _) ?_) | (first | (refine wpList_load_blk_w (by rfl) _ _ rfl (w.heap.size) rfl _ #[Value.int .i64 s0.rev, Value.slice pj0 s0.jobs.length cj0, Value.slice pn0 s0.nodes.length cn0, Value.slice pl0 s0.leases.length cl0] b146 _ Tryz.underlying26 rfl state_size ?_) | (refine wpList_load_blk_w (by rfl) _ _ rfl (w.heap.size + 1) rfl _ #[Value.int .i64 s1.rev, Value.slice pj1 s1.jobs.length cj1, Value.slice pn1 s1.nodes.length cn1, Value.slice pl1 s1.leases.length cl1] b147 _ Tryz.underlying26 rfl state_size ?_) | (refine wpList_load_blk_w (by rfl) _ _ rfl (w.heap.size + 2) rfl _ #[Value.int .i64 s2.rev, Value.slice pj2 s2.jobs.length cj2, Value.slice pn2 s2.nodes.length cn2, Value.slice pl2 s2.leases.length cl2] b148 _ Tryz.underlying26 rfl state_size ?_) | (refine wpList_load_blk_w (by rfl) _ _ rfl (g22) rfl _ #[Value.int .i64 (betw s0 s1).frm, Value.int .i64 (betw s0 s1).upto, Value.slice rx1 (betw s0 s1).jobs.length ex1, Value.slice rx2 (betw s0 s1).nodes.length ex2, Value.slice rx3 (betw s0 s1).leases.length ex3, Value.slice rx4 (betw s0 s1).gj.length ex4, Value.slice rx5 (betw s0 s1).gn.length ex5, Value.slice rx6 (betw s0 s1).gl.length ex6] b149 _ Tryz.underlying30 rfl delta_size ?_) | (refine wpList_load_blk_w (by rfl) _ _ rfl (g42) rfl _ #[Value.int .i64 (betw s1 s2).frm, Value.int .i64 (betw s1 s2).upto, Value.slice ry1 (betw s1 s2).jobs.length ey1, Value.slice ry2 (betw s1 s2).nodes.length ey2, Value.slice ry3 (betw s1 s2).leases.length ey3, Value.slice ry4 (betw s1 s2).gj.length ey4, Value.slice ry5 (betw s1 s2).gn.length ey5, Value.slice ry6 (betw s1 s2).gl.length ey6] b150 _ Tryz.underlying30 rfl delta_size ?_) | (refine wpList_load_blk_w (by rfl) _ _ rfl (g66) rfl _ #[Value.int .i64 (betw s0 s2).frm, Value.int .i64 (betw s0 s2).upto, Value.slice rz1 (betw s0 s2).jobs.length ez1, Value.slice rz2 (betw s0 s2).nodes.length ez2, Value.slice rz3 (betw s0 s2).leases.length ez3, Value.slice rz4 (betw s0 s2).gj.length ez4, Value.slice rz5 (betw s0 s2).gn.length ez5, Value.slice rz6 (betw s0 s2).gl.length ez6] b151 _ Tryz.underlying30 rfl delta_size ?_) | (refine wpList_load_blk_w (by rfl) _ _ rfl (g94) rfl _ #[Value.int .i64 s1.rev, Value.slice qs1 s1.jobs.length ds1, Value.slice qs2 s1.nodes.length ds2, Value.slice qs3 s1.leases.length ds3] b152 _ Tryz.underlying26 rfl state_size ?_) | (refine wpList_load_blk_w (by rfl) _ _ rfl (g126) rfl _ #[Value.int .i64 s2.rev, Value.slice qt1 s2.jobs.length dt1, Value.slice qt2 s2.nodes.length dt2, Value.slice qt3 s2.leases.length dt3] b153 _ Tryz.underlying26 rfl state_size ?_) | (refine wpList_load_blk_w (by rfl) _ _ rfl (w128.heap.size) rfl _ #[Value.int .i64 s2.rev, Value.slice qu1 s2.jobs.length du1, Value.slice qu2 s2.nodes.length du2, Value.slice qu3 s2.leases.length du3] b145 _ Tryz.underlying26 rfl state_size ?_)))
    generalize w128.alloc _ = W161 at *
    generalize w128.heap.size = g162 at *
    have hS := same_any s2 s2 qt1 qt2 qt3 qu1 qu2 qu3 dt1 dt2 dt3 du1 du2 du3 _ m158 m159 HZ2.out HZ2.out
    rw [decide_eq_true rfl] at hS
    refine (hS).mono ?_
    rintro e w163 ⟨rfl, hb164⟩
    have b165 := b146.below hb164 b146.lt
    have b166 := b147.below hb164 b147.lt
    have b167 := b148.below hb164 b148.lt
    have b168 := b149.below hb164 b149.lt
    have b169 := b150.below hb164 b150.lt
    have b170 := b151.below hb164 b151.lt
    have b171 := b152.below hb164 b152.lt
    have b172 := b153.below hb164 b153.lt
    have b173 := b145.below hb164 b145.lt
    have m174 := (m154.below hb164).more hb164.size
    have m175 := (m155.below hb164).more hb164.size
    have m176 := (m156.below hb164).more hb164.size
    have m177 := (m157.below hb164).more hb164.size
    have m178 := (m158.below hb164).more hb164.size
    have m179 := (m159.below hb164).more hb164.size
    have c180 := c160.trans (hb164.mono c160.size)
    clear b146 b147 b148 b149 b150 b151 b152 b153 b145 m154 m155 m156 m157 m158 m159 c160 hb164
    go_wp2_with (first | (refine wpList_load_blk_w (by rfl) _ _ rfl (w.heap.size) rfl _ #[Value.int .i64 s0.rev, Value.slice pj0 s0.jobs.length cj0, Value.slice pn0 s0.nodes.length cn0, Value.slice pl0 s0.leases.length cl0] b165 _ Tryz.underlying26 rfl state_size ?_) | (refine wpList_load_blk_w (by rfl) _ _ rfl (w.heap.size + 1) rfl _ #[Value.int .i64 s1.rev, Value.slice pj1 s1.jobs.length cj1, Value.slice pn1 s1.nodes.length cn1, Value.slice pl1 s1.leases.length cl1] b166 _ Tryz.underlying26 rfl state_size ?_) | (refine wpList_load_blk_w (by rfl) _ _ rfl (w.heap.size + 2) rfl _ #[Value.int .i64 s2.rev, Value.slice pj2 s2.jobs.length cj2, Value.slice pn2 s2.nodes.length cn2, Value.slice pl2 s2.leases.length cl2] b167 _ Tryz.underlying26 rfl state_size ?_) | (refine wpList_load_blk_w (by rfl) _ _ rfl (g22) rfl _ #[Value.int .i64 (betw s0 s1).frm, Value.int .i64 (betw s0 s1).upto, Value.slice rx1 (betw s0 s1).jobs.length ex1, Value.slice rx2 (betw s0 s1).nodes.length ex2, Value.slice rx3 (betw s0 s1).leases.length ex3, Value.slice rx4 (betw s0 s1).gj.length ex4, Value.slice rx5 (betw s0 s1).gn.length ex5, Value.slice rx6 (betw s0 s1).gl.length ex6] b168 _ Tryz.underlying30 rfl delta_size ?_) | (refine wpList_load_blk_w (by rfl) _ _ rfl (g42) rfl _ #[Value.int .i64 (betw s1 s2).frm, Value.int .i64 (betw s1 s2).upto, Value.slice ry1 (betw s1 s2).jobs.length ey1, Value.slice ry2 (betw s1 s2).nodes.length ey2, Value.slice ry3 (betw s1 s2).leases.length ey3, Value.slice ry4 (betw s1 s2).gj.length ey4, Value.slice ry5 (betw s1 s2).gn.length ey5, Value.slice ry6 (betw s1 s2).gl.length ey6] b169 _ Tryz.underlying30 rfl delta_size ?_) | (refine wpList_load_blk_w (by rfl) _ _ rfl (g66) rfl _ #[Value.int .i64 (betw s0 s2).frm, Value.int .i64 (betw s0 s2).upto, Value.slice rz1 (betw s0 s2).jobs.length ez1, Value.slice rz2 (betw s0 s2).nodes.length ez2, Value.slice rz3 (betw s0 s2).leases.length ez3, Value.slice rz4 (betw s0 s2).gj.length ez4, Value.slice rz5 (betw s0 s2).gn.length ez5, Value.slice rz6 (betw s0 s2).gl.length ez6] b170 _ Tryz.underlying30 rfl delta_size ?_) | (refine wpList_load_blk_w (by rfl) _ _ rfl (g94) rfl _ #[Value.int .i64 s1.rev, Value.slice qs1 s1.jobs.length ds1, Value.slice qs2 s1.nodes.length ds2, Value.slice qs3 s1.leases.length ds3] b171 _ Tryz.underlying26 rfl state_size ?_) | (refine wpList_load_blk_w (by rfl) _ _ rfl (g126) rfl _ #[Value.int .i64 s2.rev, Value.slice qt1 s2.jobs.length dt1, Value.slice qt2 s2.nodes.length dt2, Value.slice qt3 s2.leases.length dt3] b172 _ Tryz.underlying26 rfl state_size ?_) | (refine wpList_load_blk_w (by rfl) _ _ rfl (g162) rfl _ #[Value.int .i64 s2.rev, Value.slice qu1 s2.jobs.length du1, Value.slice qu2 s2.nodes.length du2, Value.slice qu3 s2.leases.length du3] b173 _ Tryz.underlying26 rfl state_size ?_))
    have hS := same_any s2 s2 qu1 qu2 qu3 pj2 pn2 pl2 du1 du2 du3 cj2 cn2 cl2 _ m179 ((HM2.out.below c180).more c180.size) HZ2.out HZ2.out
    rw [decide_eq_true rfl] at hS
    refine (hS).mono ?_
    rintro e w181 ⟨rfl, hb182⟩
    have b183 := b165.below hb182 b165.lt
    have b184 := b166.below hb182 b166.lt
    have b185 := b167.below hb182 b167.lt
    have b186 := b168.below hb182 b168.lt
    have b187 := b169.below hb182 b169.lt
    have b188 := b170.below hb182 b170.lt
    have b189 := b171.below hb182 b171.lt
    have b190 := b172.below hb182 b172.lt
    have b191 := b173.below hb182 b173.lt
    have m192 := (m174.below hb182).more hb182.size
    have m193 := (m175.below hb182).more hb182.size
    have m194 := (m176.below hb182).more hb182.size
    have m195 := (m177.below hb182).more hb182.size
    have m196 := (m178.below hb182).more hb182.size
    have m197 := (m179.below hb182).more hb182.size
    have c198 := c180.trans (hb182.mono c180.size)
    clear b165 b166 b167 b168 b169 b170 b171 b172 b173 m174 m175 m176 m177 m178 m179 c180 hb182
    go_wp2_with (first | (refine wpList_load_blk_w (by rfl) _ _ rfl (w.heap.size) rfl _ #[Value.int .i64 s0.rev, Value.slice pj0 s0.jobs.length cj0, Value.slice pn0 s0.nodes.length cn0, Value.slice pl0 s0.leases.length cl0] b183 _ Tryz.underlying26 rfl state_size ?_) | (refine wpList_load_blk_w (by rfl) _ _ rfl (w.heap.size + 1) rfl _ #[Value.int .i64 s1.rev, Value.slice pj1 s1.jobs.length cj1, Value.slice pn1 s1.nodes.length cn1, Value.slice pl1 s1.leases.length cl1] b184 _ Tryz.underlying26 rfl state_size ?_) | (refine wpList_load_blk_w (by rfl) _ _ rfl (w.heap.size + 2) rfl _ #[Value.int .i64 s2.rev, Value.slice pj2 s2.jobs.length cj2, Value.slice pn2 s2.nodes.length cn2, Value.slice pl2 s2.leases.length cl2] b185 _ Tryz.underlying26 rfl state_size ?_) | (refine wpList_load_blk_w (by rfl) _ _ rfl (g22) rfl _ #[Value.int .i64 (betw s0 s1).frm, Value.int .i64 (betw s0 s1).upto, Value.slice rx1 (betw s0 s1).jobs.length ex1, Value.slice rx2 (betw s0 s1).nodes.length ex2, Value.slice rx3 (betw s0 s1).leases.length ex3, Value.slice rx4 (betw s0 s1).gj.length ex4, Value.slice rx5 (betw s0 s1).gn.length ex5, Value.slice rx6 (betw s0 s1).gl.length ex6] b186 _ Tryz.underlying30 rfl delta_size ?_) | (refine wpList_load_blk_w (by rfl) _ _ rfl (g42) rfl _ #[Value.int .i64 (betw s1 s2).frm, Value.int .i64 (betw s1 s2).upto, Value.slice ry1 (betw s1 s2).jobs.length ey1, Value.slice ry2 (betw s1 s2).nodes.length ey2, Value.slice ry3 (betw s1 s2).leases.length ey3, Value.slice ry4 (betw s1 s2).gj.length ey4, Value.slice ry5 (betw s1 s2).gn.length ey5, Value.slice ry6 (betw s1 s2).gl.length ey6] b187 _ Tryz.underlying30 rfl delta_size ?_) | (refine wpList_load_blk_w (by rfl) _ _ rfl (g66) rfl _ #[Value.int .i64 (betw s0 s2).frm, Value.int .i64 (betw s0 s2).upto, Value.slice rz1 (betw s0 s2).jobs.length ez1, Value.slice rz2 (betw s0 s2).nodes.length ez2, Value.slice rz3 (betw s0 s2).leases.length ez3, Value.slice rz4 (betw s0 s2).gj.length ez4, Value.slice rz5 (betw s0 s2).gn.length ez5, Value.slice rz6 (betw s0 s2).gl.length ez6] b188 _ Tryz.underlying30 rfl delta_size ?_) | (refine wpList_load_blk_w (by rfl) _ _ rfl (g94) rfl _ #[Value.int .i64 s1.rev, Value.slice qs1 s1.jobs.length ds1, Value.slice qs2 s1.nodes.length ds2, Value.slice qs3 s1.leases.length ds3] b189 _ Tryz.underlying26 rfl state_size ?_) | (refine wpList_load_blk_w (by rfl) _ _ rfl (g126) rfl _ #[Value.int .i64 s2.rev, Value.slice qt1 s2.jobs.length dt1, Value.slice qt2 s2.nodes.length dt2, Value.slice qt3 s2.leases.length dt3] b190 _ Tryz.underlying26 rfl state_size ?_) | (refine wpList_load_blk_w (by rfl) _ _ rfl (g162) rfl _ #[Value.int .i64 s2.rev, Value.slice qu1 s2.jobs.length du1, Value.slice qu2 s2.nodes.length du2, Value.slice qu3 s2.leases.length du3] b191 _ Tryz.underlying26 rfl state_size ?_))
    go_ret
    exact ⟨rfl, c198⟩
  · have hor : diffE s0 s1 ≠ 0 ∨ diffE s1 s2 ≠ 0 := by
      by_cases h1 : diffE s0 s1 = 0
      · right; intro h2; exact hE ⟨diffE_is h1, diffE_is h2⟩
      · exact .inl h1
    have HD1 := Lib.hid (fun (W : World) (hW : Below w.heap.size w W) => diff_any s0 s1 pj0 pn0 pl0 pj1 pn1 pl1 cj0 cn0 cl0 cj1 cn1 cl1 W ((HM0.out.below hW).more hW.size) ((HM1.out.below hW).more hW.size) HZ0.out HZ1.out (HT.out.below hW))
    have HD2 := Lib.hid (fun (W : World) (hW : Below w.heap.size w W) => diff_any s1 s2 pj1 pn1 pl1 pj2 pn2 pl2 cj1 cn1 cl1 cj2 cn2 cl2 W ((HM1.out.below hW).more hW.size) ((HM2.out.below hW).more hW.size) HZ1.out HZ2.out (HT.out.below hW))
    have HD3 := Lib.hid (fun (W : World) (hW : Below w.heap.size w W) => diff_any s0 s2 pj0 pn0 pl0 pj2 pn2 pl2 cj0 cn0 cl0 cj2 cn2 cl2 W ((HM0.out.below hW).more hW.size) ((HM2.out.below hW).more hW.size) HZ0.out HZ2.out (HT.out.below hW))
    generalize diffE s0 s1 = er1 at *
    generalize diffD s0 s1 = x1 at *
    generalize diffE s1 s2 = er2 at *
    generalize diffD s1 s2 = x2 at *
    generalize diffE s0 s2 = er3 at *
    generalize diffD s0 s2 = x3 at *
    clear hE
    by_cases h1 : er1 = 0
    · subst h1
      have hne2 : ((er2 : Int) != 0) = true := by
        rw [bne_iff_ne]
        rcases hor with h | h
        · exact absurd rfl h
        · omega
      clear hor
      go_enter Tryz.func5, Tryz.ntmps5
      go_wp2_with fail
      generalize (((w.alloc (.cells #[Value.int .i64 s0.rev, Value.slice pj0 s0.jobs.length cj0, Value.slice pn0 s0.nodes.length cn0, Value.slice pl0 s0.leases.length cl0] 26)).alloc (.cells #[Value.int .i64 s1.rev, Value.slice pj1 s1.jobs.length cj1, Value.slice pn1 s1.nodes.length cn1, Value.slice pl1 s1.leases.length cl1] 26))).alloc _ = W0 at *
      refine (differed_any _ (HT.out.below cc)).mono ?_
      rintro e w1 ⟨rfl, hb2⟩
      have b3 := bb0.below hb2 bb0.lt
      have b4 := bb1.below hb2 bb1.lt
      have b5 := bb2.below hb2 bb2.lt
      have c6 := cc.trans (hb2.mono cc.size)
      clear bb0 bb1 bb2 cc hb2
      go_wp2_with (first | (refine wpList_load_blk_w (by rfl) _ _ rfl (w.heap.size) rfl _ #[Value.int .i64 s0.rev, Value.slice pj0 s0.jobs.length cj0, Value.slice pn0 s0.nodes.length cn0, Value.slice pl0 s0.leases.length cl0] b3 _ Tryz.underlying26 rfl state_size ?_) | (refine wpList_load_blk_w (by rfl) _ _ rfl (w.heap.size + 1) rfl _ #[Value.int .i64 s1.rev, Value.slice pj1 s1.jobs.length cj1, Value.slice pn1 s1.nodes.length cn1, Value.slice pl1 s1.leases.length cl1] b4 _ Tryz.underlying26 rfl state_size ?_) | (refine wpList_load_blk_w (by rfl) _ _ rfl (w.heap.size + 2) rfl _ #[Value.int .i64 s2.rev, Value.slice pj2 s2.jobs.length cj2, Value.slice pn2 s2.nodes.length cn2, Value.slice pl2 s2.leases.length cl2] b5 _ Tryz.underlying26 rfl state_size ?_))
      refine (HD1.out _ c6).mono ?_
      rintro e w7 ⟨rx1, rx2, rx3, rx4, rx5, rx6, ex1, ex2, ex3, ex4, ex5, ex6, rfl, hO9, hb8⟩
      clear hO9
      have b11 := b3.below hb8 b3.lt
      have b12 := b4.below hb8 b4.lt
      have b13 := b5.below hb8 b5.lt
      have c14 := c6.trans (hb8.mono c6.size)
      clear b3 b4 b5 c6 hb8
      have hb15 : Below w7.heap.size w7 (w7.alloc (.cells #[Value.int .i64 x1.frm, Value.int .i64 x1.upto, Value.slice rx1 x1.jobs.length ex1, Value.slice rx2 x1.nodes.length ex2, Value.slice rx3 x1.leases.length ex3, Value.slice rx4 x1.gj.length ex4, Value.slice rx5 x1.gn.length ex5, Value.slice rx6 x1.gl.length ex6] 30)) := (Below.refl _ _).alloc (Nat.le_refl _) _
      have b16 := Blk.new w7 30 #[Value.int .i64 x1.frm, Value.int .i64 x1.upto, Value.slice rx1 x1.jobs.length ex1, Value.slice rx2 x1.nodes.length ex2, Value.slice rx3 x1.leases.length ex3, Value.slice rx4 x1.gj.length ex4, Value.slice rx5 x1.gn.length ex5, Value.slice rx6 x1.gl.length ex6]
      have b17 := b11.below hb15 b11.lt
      have b18 := b12.below hb15 b12.lt
      have b19 := b13.below hb15 b13.lt
      have c20 := c14.trans (hb15.mono c14.size)
      clear b11 b12 b13 c14 hb15
      go_wp2_with (first | (refine wpList_store_new rfl _ _ _ rfl rfl 30 _ #[Value.int .i64 x1.frm, Value.int .i64 x1.upto, Value.slice rx1 x1.jobs.length ex1, Value.slice rx2 x1.nodes.length ex2, Value.slice rx3 x1.leases.length ex3, Value.slice rx4 x1.gj.length ex4, Value.slice rx5 x1.gn.length ex5, Value.slice rx6 x1.gl.length ex6] rfl delta_size rfl (one_d8 _ _ _ _ _ _ _ _ _ _ _ _ _ _ _ _ _ _ _ _) ?_) | (first | (refine wpList_load_blk_w (by rfl) _ _ rfl (w.heap.size) rfl _ #[Value.int .i64 s0.rev, Value.slice pj0 s0.jobs.length cj0, Value.slice pn0 s0.nodes.length cn0, Value.slice pl0 s0.leases.length cl0] b17 _ Tryz.underlying26 rfl state_size ?_) | (refine wpList_load_blk_w (by rfl) _ _ rfl (w.heap.size + 1) rfl _ #[Value.int .i64 s1.rev, Value.slice pj1 s1.jobs.length cj1, Value.slice pn1 s1.nodes.length cn1, Value.slice pl1 s1.leases.length cl1] b18 _ Tryz.underlying26 rfl state_size ?_) | (refine wpList_load_blk_w (by rfl) _ _ rfl (w.heap.size + 2) rfl _ #[Value.int .i64 s2.rev, Value.slice pj2 s2.jobs.length cj2, Value.slice pn2 s2.nodes.length cn2, Value.slice pl2 s2.leases.length cl2] b19 _ Tryz.underlying26 rfl state_size ?_) | (refine wpList_load_blk_w (by rfl) _ _ rfl (w7.heap.size) rfl _ #[Value.int .i64 x1.frm, Value.int .i64 x1.upto, Value.slice rx1 x1.jobs.length ex1, Value.slice rx2 x1.nodes.length ex2, Value.slice rx3 x1.leases.length ex3, Value.slice rx4 x1.gj.length ex4, Value.slice rx5 x1.gn.length ex5, Value.slice rx6 x1.gl.length ex6] b16 _ Tryz.underlying30 rfl delta_size ?_)))
      generalize w7.alloc _ = W21 at *
      generalize w7.heap.size = g22 at *
      refine (HD2.out _ c20).mono ?_
      rintro e w23 ⟨ry1, ry2, ry3, ry4, ry5, ry6, ey1, ey2, ey3, ey4, ey5, ey6, rfl, hO25, hb24⟩
      clear hO25
      have b27 := b17.below hb24 b17.lt
      have b28 := b18.below hb24 b18.lt
      have b29 := b19.below hb24 b19.lt
      have b30 := b16.below hb24 b16.lt
      have c31 := c20.trans (hb24.mono c20.size)
      clear b17 b18 b19 b16 c20 hb24
      have hb32 : Below w23.heap.size w23 (w23.alloc (.cells #[Value.int .i64 x2.frm, Value.int .i64 x2.upto, Value.slice ry1 x2.jobs.length ey1, Value.slice ry2 x2.nodes.length ey2, Value.slice ry3 x2.leases.length ey3, Value.slice ry4 x2.gj.length ey4, Value.slice ry5 x2.gn.length ey5, Value.slice ry6 x2.gl.length ey6] 30)) := (Below.refl _ _).alloc (Nat.le_refl _) _
      have b33 := Blk.new w23 30 #[Value.int .i64 x2.frm, Value.int .i64 x2.upto, Value.slice ry1 x2.jobs.length ey1, Value.slice ry2 x2.nodes.length ey2, Value.slice ry3 x2.leases.length ey3, Value.slice ry4 x2.gj.length ey4, Value.slice ry5 x2.gn.length ey5, Value.slice ry6 x2.gl.length ey6]
      have b34 := b27.below hb32 b27.lt
      have b35 := b28.below hb32 b28.lt
      have b36 := b29.below hb32 b29.lt
      have b37 := b30.below hb32 b30.lt
      have c38 := c31.trans (hb32.mono c31.size)
      clear b27 b28 b29 b30 c31 hb32
      go_wp2_with (first | (refine wpList_store_new rfl _ _ _ rfl rfl 30 _ #[Value.int .i64 x2.frm, Value.int .i64 x2.upto, Value.slice ry1 x2.jobs.length ey1, Value.slice ry2 x2.nodes.length ey2, Value.slice ry3 x2.leases.length ey3, Value.slice ry4 x2.gj.length ey4, Value.slice ry5 x2.gn.length ey5, Value.slice ry6 x2.gl.length ey6] rfl delta_size rfl (one_d8 _ _ _ _ _ _ _ _ _ _ _ _ _ _ _ _ _ _ _ _) ?_) | (first | (refine wpList_load_blk_w (by rfl) _ _ rfl (w.heap.size) rfl _ #[Value.int .i64 s0.rev, Value.slice pj0 s0.jobs.length cj0, Value.slice pn0 s0.nodes.length cn0, Value.slice pl0 s0.leases.length cl0] b34 _ Tryz.underlying26 rfl state_size ?_) | (refine wpList_load_blk_w (by rfl) _ _ rfl (w.heap.size + 1) rfl _ #[Value.int .i64 s1.rev, Value.slice pj1 s1.jobs.length cj1, Value.slice pn1 s1.nodes.length cn1, Value.slice pl1 s1.leases.length cl1] b35 _ Tryz.underlying26 rfl state_size ?_) | (refine wpList_load_blk_w (by rfl) _ _ rfl (w.heap.size + 2) rfl _ #[Value.int .i64 s2.rev, Value.slice pj2 s2.jobs.length cj2, Value.slice pn2 s2.nodes.length cn2, Value.slice pl2 s2.leases.length cl2] b36 _ Tryz.underlying26 rfl state_size ?_) | (refine wpList_load_blk_w (by rfl) _ _ rfl (g22) rfl _ #[Value.int .i64 x1.frm, Value.int .i64 x1.upto, Value.slice rx1 x1.jobs.length ex1, Value.slice rx2 x1.nodes.length ex2, Value.slice rx3 x1.leases.length ex3, Value.slice rx4 x1.gj.length ex4, Value.slice rx5 x1.gn.length ex5, Value.slice rx6 x1.gl.length ex6] b37 _ Tryz.underlying30 rfl delta_size ?_) | (refine wpList_load_blk_w (by rfl) _ _ rfl (w23.heap.size) rfl _ #[Value.int .i64 x2.frm, Value.int .i64 x2.upto, Value.slice ry1 x2.jobs.length ey1, Value.slice ry2 x2.nodes.length ey2, Value.slice ry3 x2.leases.length ey3, Value.slice ry4 x2.gj.length ey4, Value.slice ry5 x2.gn.length ey5, Value.slice ry6 x2.gl.length ey6] b33 _ Tryz.underlying30 rfl delta_size ?_)))
      generalize w23.alloc _ = W39 at *
      generalize w23.heap.size = g40 at *
      refine (HD3.out _ c38).mono ?_
      rintro e w41 ⟨rz1, rz2, rz3, rz4, rz5, rz6, ez1, ez2, ez3, ez4, ez5, ez6, rfl, hO43, hb42⟩
      clear hO43
      have b45 := b34.below hb42 b34.lt
      have b46 := b35.below hb42 b35.lt
      have b47 := b36.below hb42 b36.lt
      have b48 := b37.below hb42 b37.lt
      have b49 := b33.below hb42 b33.lt
      have c50 := c38.trans (hb42.mono c38.size)
      clear b34 b35 b36 b37 b33 c38 hb42
      have hb51 : Below w41.heap.size w41 (w41.alloc (.cells #[Value.int .i64 x3.frm, Value.int .i64 x3.upto, Value.slice rz1 x3.jobs.length ez1, Value.slice rz2 x3.nodes.length ez2, Value.slice rz3 x3.leases.length ez3, Value.slice rz4 x3.gj.length ez4, Value.slice rz5 x3.gn.length ez5, Value.slice rz6 x3.gl.length ez6] 30)) := (Below.refl _ _).alloc (Nat.le_refl _) _
      have b52 := Blk.new w41 30 #[Value.int .i64 x3.frm, Value.int .i64 x3.upto, Value.slice rz1 x3.jobs.length ez1, Value.slice rz2 x3.nodes.length ez2, Value.slice rz3 x3.leases.length ez3, Value.slice rz4 x3.gj.length ez4, Value.slice rz5 x3.gn.length ez5, Value.slice rz6 x3.gl.length ez6]
      have b53 := b45.below hb51 b45.lt
      have b54 := b46.below hb51 b46.lt
      have b55 := b47.below hb51 b47.lt
      have b56 := b48.below hb51 b48.lt
      have b57 := b49.below hb51 b49.lt
      have c58 := c50.trans (hb51.mono c50.size)
      clear b45 b46 b47 b48 b49 c50 hb51
      go_wp2_with (first | (refine wpList_store_new rfl _ _ _ rfl rfl 30 _ #[Value.int .i64 x3.frm, Value.int .i64 x3.upto, Value.slice rz1 x3.jobs.length ez1, Value.slice rz2 x3.nodes.length ez2, Value.slice rz3 x3.leases.length ez3, Value.slice rz4 x3.gj.length ez4, Value.slice rz5 x3.gn.length ez5, Value.slice rz6 x3.gl.length ez6] rfl delta_size rfl (one_d8 _ _ _ _ _ _ _ _ _ _ _ _ _ _ _ _ _ _ _ _) ?_) | (first | (refine wpList_load_blk_w (by rfl) _ _ rfl (w.heap.size) rfl _ #[Value.int .i64 s0.rev, Value.slice pj0 s0.jobs.length cj0, Value.slice pn0 s0.nodes.length cn0, Value.slice pl0 s0.leases.length cl0] b53 _ Tryz.underlying26 rfl state_size ?_) | (refine wpList_load_blk_w (by rfl) _ _ rfl (w.heap.size + 1) rfl _ #[Value.int .i64 s1.rev, Value.slice pj1 s1.jobs.length cj1, Value.slice pn1 s1.nodes.length cn1, Value.slice pl1 s1.leases.length cl1] b54 _ Tryz.underlying26 rfl state_size ?_) | (refine wpList_load_blk_w (by rfl) _ _ rfl (w.heap.size + 2) rfl _ #[Value.int .i64 s2.rev, Value.slice pj2 s2.jobs.length cj2, Value.slice pn2 s2.nodes.length cn2, Value.slice pl2 s2.leases.length cl2] b55 _ Tryz.underlying26 rfl state_size ?_) | (refine wpList_load_blk_w (by rfl) _ _ rfl (g22) rfl _ #[Value.int .i64 x1.frm, Value.int .i64 x1.upto, Value.slice rx1 x1.jobs.length ex1, Value.slice rx2 x1.nodes.length ex2, Value.slice rx3 x1.leases.length ex3, Value.slice rx4 x1.gj.length ex4, Value.slice rx5 x1.gn.length ex5, Value.slice rx6 x1.gl.length ex6] b56 _ Tryz.underlying30 rfl delta_size ?_) | (refine wpList_load_blk_w (by rfl) _ _ rfl (g40) rfl _ #[Value.int .i64 x2.frm, Value.int .i64 x2.upto, Value.slice ry1 x2.jobs.length ey1, Value.slice ry2 x2.nodes.length ey2, Value.slice ry3 x2.leases.length ey3, Value.slice ry4 x2.gj.length ey4, Value.slice ry5 x2.gn.length ey5, Value.slice ry6 x2.gl.length ey6] b57 _ Tryz.underlying30 rfl delta_size ?_) | (refine wpList_load_blk_w (by rfl) _ _ rfl (w41.heap.size) rfl _ #[Value.int .i64 x3.frm, Value.int .i64 x3.upto, Value.slice rz1 x3.jobs.length ez1, Value.slice rz2 x3.nodes.length ez2, Value.slice rz3 x3.leases.length ez3, Value.slice rz4 x3.gj.length ez4, Value.slice rz5 x3.gn.length ez5, Value.slice rz6 x3.gl.length ez6] b52 _ Tryz.underlying30 rfl delta_size ?_)))
      generalize w41.alloc _ = W59 at *
      generalize w41.heap.size = g60 at *
      go_ret
      exact ⟨rfl, c58⟩
    · have hne1 : ((er1 : Int) != 0) = true := by rw [bne_iff_ne]; omega
      clear hor h1
      go_enter Tryz.func5, Tryz.ntmps5
      go_wp2_with fail
      generalize (((w.alloc (.cells #[Value.int .i64 s0.rev, Value.slice pj0 s0.jobs.length cj0, Value.slice pn0 s0.nodes.length cn0, Value.slice pl0 s0.leases.length cl0] 26)).alloc (.cells #[Value.int .i64 s1.rev, Value.slice pj1 s1.jobs.length cj1, Value.slice pn1 s1.nodes.length cn1, Value.slice pl1 s1.leases.length cl1] 26))).alloc _ = W0 at *
      refine (differed_any _ (HT.out.below cc)).mono ?_
      rintro e w1 ⟨rfl, hb2⟩
      have b3 := bb0.below hb2 bb0.lt
      have b4 := bb1.below hb2 bb1.lt
      have b5 := bb2.below hb2 bb2.lt
      have c6 := cc.trans (hb2.mono cc.size)
      clear bb0 bb1 bb2 cc hb2
      go_wp2_with (first | (refine wpList_load_blk_w (by rfl) _ _ rfl (w.heap.size) rfl _ #[Value.int .i64 s0.rev, Value.slice pj0 s0.jobs.length cj0, Value.slice pn0 s0.nodes.length cn0, Value.slice pl0 s0.leases.length cl0] b3 _ Tryz.underlying26 rfl state_size ?_) | (refine wpList_load_blk_w (by rfl) _ _ rfl (w.heap.size + 1) rfl _ #[Value.int .i64 s1.rev, Value.slice pj1 s1.jobs.length cj1, Value.slice pn1 s1.nodes.length cn1, Value.slice pl1 s1.leases.length cl1] b4 _ Tryz.underlying26 rfl state_size ?_) | (refine wpList_load_blk_w (by rfl) _ _ rfl (w.heap.size + 2) rfl _ #[Value.int .i64 s2.rev, Value.slice pj2 s2.jobs.length cj2, Value.slice pn2 s2.nodes.length cn2, Value.slice pl2 s2.leases.length cl2] b5 _ Tryz.underlying26 rfl state_size ?_))
      refine (HD1.out _ c6).mono ?_
      rintro e w7 ⟨rx1, rx2, rx3, rx4, rx5, rx6, ex1, ex2, ex3, ex4, ex5, ex6, rfl, hO9, hb8⟩
      clear hO9
      have b11 := b3.below hb8 b3.lt
      have b12 := b4.below hb8 b4.lt
      have b13 := b5.below hb8 b5.lt
      have c14 := c6.trans (hb8.mono c6.size)
      clear b3 b4 b5 c6 hb8
      have hb15 : Below w7.heap.size w7 (w7.alloc (.cells #[Value.int .i64 x1.frm, Value.int .i64 x1.upto, Value.slice rx1 x1.jobs.length ex1, Value.slice rx2 x1.nodes.length ex2, Value.slice rx3 x1.leases.length ex3, Value.slice rx4 x1.gj.length ex4, Value.slice rx5 x1.gn.length ex5, Value.slice rx6 x1.gl.length ex6] 30)) := (Below.refl _ _).alloc (Nat.le_refl _) _
      have b16 := Blk.new w7 30 #[Value.int .i64 x1.frm, Value.int .i64 x1.upto, Value.slice rx1 x1.jobs.length ex1, Value.slice rx2 x1.nodes.length ex2, Value.slice rx3 x1.leases.length ex3, Value.slice rx4 x1.gj.length ex4, Value.slice rx5 x1.gn.length ex5, Value.slice rx6 x1.gl.length ex6]
      have b17 := b11.below hb15 b11.lt
      have b18 := b12.below hb15 b12.lt
      have b19 := b13.below hb15 b13.lt
      have c20 := c14.trans (hb15.mono c14.size)
      clear b11 b12 b13 c14 hb15
      go_wp2_with (first | (refine wpList_store_new rfl _ _ _ rfl rfl 30 _ #[Value.int .i64 x1.frm, Value.int .i64 x1.upto, Value.slice rx1 x1.jobs.length ex1, Value.slice rx2 x1.nodes.length ex2, Value.slice rx3 x1.leases.length ex3, Value.slice rx4 x1.gj.length ex4, Value.slice rx5 x1.gn.length ex5, Value.slice rx6 x1.gl.length ex6] rfl delta_size rfl (one_d8 _ _ _ _ _ _ _ _ _ _ _ _ _ _ _ _ _ _ _ _) ?_) | (first | (refine wpList_load_blk_w (by rfl) _ _ rfl (w.heap.size) rfl _ #[Value.int .i64 s0.rev, Value.slice pj0 s0.jobs.length cj0, Value.slice pn0 s0.nodes.length cn0, Value.slice pl0 s0.leases.length cl0] b17 _ Tryz.underlying26 rfl state_size ?_) | (refine wpList_load_blk_w (by rfl) _ _ rfl (w.heap.size + 1) rfl _ #[Value.int .i64 s1.rev, Value.slice pj1 s1.jobs.length cj1, Value.slice pn1 s1.nodes.length cn1, Value.slice pl1 s1.leases.length cl1] b18 _ Tryz.underlying26 rfl state_size ?_) | (refine wpList_load_blk_w (by rfl) _ _ rfl (w.heap.size + 2) rfl _ #[Value.int .i64 s2.rev, Value.slice pj2 s2.jobs.length cj2, Value.slice pn2 s2.nodes.length cn2, Value.slice pl2 s2.leases.length cl2] b19 _ Tryz.underlying26 rfl state_size ?_) | (refine wpList_load_blk_w (by rfl) _ _ rfl (w7.heap.size) rfl _ #[Value.int .i64 x1.frm, Value.int .i64 x1.upto, Value.slice rx1 x1.jobs.length ex1, Value.slice rx2 x1.nodes.length ex2, Value.slice rx3 x1.leases.length ex3, Value.slice rx4 x1.gj.length ex4, Value.slice rx5 x1.gn.length ex5, Value.slice rx6 x1.gl.length ex6] b16 _ Tryz.underlying30 rfl delta_size ?_)))
      generalize w7.alloc _ = W21 at *
      generalize w7.heap.size = g22 at *
      refine (HD2.out _ c20).mono ?_
      rintro e w23 ⟨ry1, ry2, ry3, ry4, ry5, ry6, ey1, ey2, ey3, ey4, ey5, ey6, rfl, hO25, hb24⟩
      clear hO25
      have b27 := b17.below hb24 b17.lt
      have b28 := b18.below hb24 b18.lt
      have b29 := b19.below hb24 b19.lt
      have b30 := b16.below hb24 b16.lt
      have c31 := c20.trans (hb24.mono c20.size)
      clear b17 b18 b19 b16 c20 hb24
      have hb32 : Below w23.heap.size w23 (w23.alloc (.cells #[Value.int .i64 x2.frm, Value.int .i64 x2.upto, Value.slice ry1 x2.jobs.length ey1, Value.slice ry2 x2.nodes.length ey2, Value.slice ry3 x2.leases.length ey3, Value.slice ry4 x2.gj.length ey4, Value.slice ry5 x2.gn.length ey5, Value.slice ry6 x2.gl.length ey6] 30)) := (Below.refl _ _).alloc (Nat.le_refl _) _
      have b33 := Blk.new w23 30 #[Value.int .i64 x2.frm, Value.int .i64 x2.upto, Value.slice ry1 x2.jobs.length ey1, Value.slice ry2 x2.nodes.length ey2, Value.slice ry3 x2.leases.length ey3, Value.slice ry4 x2.gj.length ey4, Value.slice ry5 x2.gn.length ey5, Value.slice ry6 x2.gl.length ey6]
      have b34 := b27.below hb32 b27.lt
      have b35 := b28.below hb32 b28.lt
      have b36 := b29.below hb32 b29.lt
      have b37 := b30.below hb32 b30.lt
      have c38 := c31.trans (hb32.mono c31.size)
      clear b27 b28 b29 b30 c31 hb32
      go_wp2_with (first | (refine wpList_store_new rfl _ _ _ rfl rfl 30 _ #[Value.int .i64 x2.frm, Value.int .i64 x2.upto, Value.slice ry1 x2.jobs.length ey1, Value.slice ry2 x2.nodes.length ey2, Value.slice ry3 x2.leases.length ey3, Value.slice ry4 x2.gj.length ey4, Value.slice ry5 x2.gn.length ey5, Value.slice ry6 x2.gl.length ey6] rfl delta_size rfl (one_d8 _ _ _ _ _ _ _ _ _ _ _ _ _ _ _ _ _ _ _ _) ?_) | (first | (refine wpList_load_blk_w (by rfl) _ _ rfl (w.heap.size) rfl _ #[Value.int .i64 s0.rev, Value.slice pj0 s0.jobs.length cj0, Value.slice pn0 s0.nodes.length cn0, Value.slice pl0 s0.leases.length cl0] b34 _ Tryz.underlying26 rfl state_size ?_) | (refine wpList_load_blk_w (by rfl) _ _ rfl (w.heap.size + 1) rfl _ #[Value.int .i64 s1.rev, Value.slice pj1 s1.jobs.length cj1, Value.slice pn1 s1.nodes.length cn1, Value.slice pl1 s1.leases.length cl1] b35 _ Tryz.underlying26 rfl state_size ?_) | (refine wpList_load_blk_w (by rfl) _ _ rfl (w.heap.size + 2) rfl _ #[Value.int .i64 s2.rev, Value.slice pj2 s2.jobs.length cj2, Value.slice pn2 s2.nodes.length cn2, Value.slice pl2 s2.leases.length cl2] b36 _ Tryz.underlying26 rfl state_size ?_) | (refine wpList_load_blk_w (by rfl) _ _ rfl (g22) rfl _ #[Value.int .i64 x1.frm, Value.int .i64 x1.upto, Value.slice rx1 x1.jobs.length ex1, Value.slice rx2 x1.nodes.length ex2, Value.slice rx3 x1.leases.length ex3, Value.slice rx4 x1.gj.length ex4, Value.slice rx5 x1.gn.length ex5, Value.slice rx6 x1.gl.length ex6] b37 _ Tryz.underlying30 rfl delta_size ?_) | (refine wpList_load_blk_w (by rfl) _ _ rfl (w23.heap.size) rfl _ #[Value.int .i64 x2.frm, Value.int .i64 x2.upto, Value.slice ry1 x2.jobs.length ey1, Value.slice ry2 x2.nodes.length ey2, Value.slice ry3 x2.leases.length ey3, Value.slice ry4 x2.gj.length ey4, Value.slice ry5 x2.gn.length ey5, Value.slice ry6 x2.gl.length ey6] b33 _ Tryz.underlying30 rfl delta_size ?_)))
      generalize w23.alloc _ = W39 at *
      generalize w23.heap.size = g40 at *
      refine (HD3.out _ c38).mono ?_
      rintro e w41 ⟨rz1, rz2, rz3, rz4, rz5, rz6, ez1, ez2, ez3, ez4, ez5, ez6, rfl, hO43, hb42⟩
      clear hO43
      have b45 := b34.below hb42 b34.lt
      have b46 := b35.below hb42 b35.lt
      have b47 := b36.below hb42 b36.lt
      have b48 := b37.below hb42 b37.lt
      have b49 := b33.below hb42 b33.lt
      have c50 := c38.trans (hb42.mono c38.size)
      clear b34 b35 b36 b37 b33 c38 hb42
      have hb51 : Below w41.heap.size w41 (w41.alloc (.cells #[Value.int .i64 x3.frm, Value.int .i64 x3.upto, Value.slice rz1 x3.jobs.length ez1, Value.slice rz2 x3.nodes.length ez2, Value.slice rz3 x3.leases.length ez3, Value.slice rz4 x3.gj.length ez4, Value.slice rz5 x3.gn.length ez5, Value.slice rz6 x3.gl.length ez6] 30)) := (Below.refl _ _).alloc (Nat.le_refl _) _
      have b52 := Blk.new w41 30 #[Value.int .i64 x3.frm, Value.int .i64 x3.upto, Value.slice rz1 x3.jobs.length ez1, Value.slice rz2 x3.nodes.length ez2, Value.slice rz3 x3.leases.length ez3, Value.slice rz4 x3.gj.length ez4, Value.slice rz5 x3.gn.length ez5, Value.slice rz6 x3.gl.length ez6]
      have b53 := b45.below hb51 b45.lt
      have b54 := b46.below hb51 b46.lt
      have b55 := b47.below hb51 b47.lt
      have b56 := b48.below hb51 b48.lt
      have b57 := b49.below hb51 b49.lt
      have c58 := c50.trans (hb51.mono c50.size)
      clear b45 b46 b47 b48 b49 c50 hb51
      go_wp2_with (first | (refine wpList_store_new rfl _ _ _ rfl rfl 30 _ #[Value.int .i64 x3.frm, Value.int .i64 x3.upto, Value.slice rz1 x3.jobs.length ez1, Value.slice rz2 x3.nodes.length ez2, Value.slice rz3 x3.leases.length ez3, Value.slice rz4 x3.gj.length ez4, Value.slice rz5 x3.gn.length ez5, Value.slice rz6 x3.gl.length ez6] rfl delta_size rfl (one_d8 _ _ _ _ _ _ _ _ _ _ _ _ _ _ _ _ _ _ _ _) ?_) | (first | (refine wpList_load_blk_w (by rfl) _ _ rfl (w.heap.size) rfl _ #[Value.int .i64 s0.rev, Value.slice pj0 s0.jobs.length cj0, Value.slice pn0 s0.nodes.length cn0, Value.slice pl0 s0.leases.length cl0] b53 _ Tryz.underlying26 rfl state_size ?_) | (refine wpList_load_blk_w (by rfl) _ _ rfl (w.heap.size + 1) rfl _ #[Value.int .i64 s1.rev, Value.slice pj1 s1.jobs.length cj1, Value.slice pn1 s1.nodes.length cn1, Value.slice pl1 s1.leases.length cl1] b54 _ Tryz.underlying26 rfl state_size ?_) | (refine wpList_load_blk_w (by rfl) _ _ rfl (w.heap.size + 2) rfl _ #[Value.int .i64 s2.rev, Value.slice pj2 s2.jobs.length cj2, Value.slice pn2 s2.nodes.length cn2, Value.slice pl2 s2.leases.length cl2] b55 _ Tryz.underlying26 rfl state_size ?_) | (refine wpList_load_blk_w (by rfl) _ _ rfl (g22) rfl _ #[Value.int .i64 x1.frm, Value.int .i64 x1.upto, Value.slice rx1 x1.jobs.length ex1, Value.slice rx2 x1.nodes.length ex2, Value.slice rx3 x1.leases.length ex3, Value.slice rx4 x1.gj.length ex4, Value.slice rx5 x1.gn.length ex5, Value.slice rx6 x1.gl.length ex6] b56 _ Tryz.underlying30 rfl delta_size ?_) | (refine wpList_load_blk_w (by rfl) _ _ rfl (g40) rfl _ #[Value.int .i64 x2.frm, Value.int .i64 x2.upto, Value.slice ry1 x2.jobs.length ey1, Value.slice ry2 x2.nodes.length ey2, Value.slice ry3 x2.leases.length ey3, Value.slice ry4 x2.gj.length ey4, Value.slice ry5 x2.gn.length ey5, Value.slice ry6 x2.gl.length ey6] b57 _ Tryz.underlying30 rfl delta_size ?_) | (refine wpList_load_blk_w (by rfl) _ _ rfl (w41.heap.size) rfl _ #[Value.int .i64 x3.frm, Value.int .i64 x3.upto, Value.slice rz1 x3.jobs.length ez1, Value.slice rz2 x3.nodes.length ez2, Value.slice rz3 x3.leases.length ez3, Value.slice rz4 x3.gj.length ez4, Value.slice rz5 x3.gn.length ez5, Value.slice rz6 x3.gl.length ez6] b52 _ Tryz.underlying30 rfl delta_size ?_)))
      generalize w41.alloc _ = W59 at *
      generalize w41.heap.size = g60 at *
      go_ret
      exact ⟨rfl, c58⟩
end Go.Proofs.YtkommikehbbhbaaGreatDoor.deltaThrough
