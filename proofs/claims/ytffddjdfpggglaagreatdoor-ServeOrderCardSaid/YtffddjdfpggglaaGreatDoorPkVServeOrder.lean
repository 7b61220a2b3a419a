/-
  Several texts in one: VServeOrder.
-/
import Derived.Test.YtffddjdfpggglaaGreatDoorPkBase
import Derived.Test.YtffddjdfpggglaaGreatDoorPkSvLaw
set_option linter.unusedVariables false
set_option linter.unusedSimpArgs false
set_option maxHeartbeats 16000000
set_option maxRecDepth 100000
namespace Go.Proofs.YtffddjdfpggglaaGreatDoor.serveOrder
open Go.ChangeShapes Go.WideShapes Go.ChangeAt Go.RowKit Go.Joins
open Go.ChangeMaps (open_string)
theorem walk (s0 : St) (pj0 pn0 pl0 : Option Addr) (cj0 cn0 cl0 : Nat) (w : World) (hm0 : StM w w.heap.size pj0 pn0 pl0 s0) (hk0 : StOk s0) (x1 : JobD) (hk1 : okJ x1) (x2 : JobD) (hk2 : okJ x2) (hT : Tabs w) :
    Calls Tryz.prog 10 #[.agg #[Value.int .i64 s0.rev, Value.slice pj0 s0.jobs.length cj0, Value.slice pn0 s0.nodes.length cn0, Value.slice pl0 s0.leases.length cl0], .agg #[Value.string x1.name, Value.int .i64 x1.prio, Value.int .i64 x1.need, Value.int .i64 x1.tries, Value.string x1.tag], .agg #[Value.string x2.name, Value.int .i64 x2.prio, Value.int .i64 x2.need, Value.int .i64 x2.tries, Value.string x2.tag]] w fun e w' => e = .returned (.bool true) ∧ Below w.heap.size w w' := by
  have b1 := (((Blk.new w 26 #[Value.int .i64 s0.rev, Value.slice pj0 s0.jobs.length cj0, Value.slice pn0 s0.nodes.length cn0, Value.slice pl0 s0.leases.length cl0]).alloc (.cells #[Value.string x1.name, Value.int .i64 x1.prio, Value.int .i64 x1.need, Value.int .i64 x1.tries, Value.string x1.tag] 34)).alloc (.cells #[Value.string x2.name, Value.int .i64 x2.prio, Value.int .i64 x2.need, Value.int .i64 x2.tries, Value.string x2.tag] 34))
  have hz1 : (w.alloc (.cells #[Value.int .i64 s0.rev, Value.slice pj0 s0.jobs.length cj0, Value.slice pn0 s0.nodes.length cn0, Value.slice pl0 s0.leases.length cl0] 26)).heap.size = w.heap.size + 1 := by simp
  have b2 := ((blk_new_at hz1 34 #[Value.string x1.name, Value.int .i64 x1.prio, Value.int .i64 x1.need, Value.int .i64 x1.tries, Value.string x1.tag]).alloc (.cells #[Value.string x2.name, Value.int .i64 x2.prio, Value.int .i64 x2.need, Value.int .i64 x2.tries, Value.string x2.tag] 34))
  have hz2 : ((w.alloc (.cells #[Value.int .i64 s0.rev, Value.slice pj0 s0.jobs.length cj0, Value.slice pn0 s0.nodes.length cn0, Value.slice pl0 s0.leases.length cl0] 26)).alloc (.cells #[Value.string x1.name, Value.int .i64 x1.prio, Value.int .i64 x1.need, Value.int .i64 x1.tries, Value.string x1.tag] 34)).heap.size = w.heap.size + 2 := by simp
  have b3 := (blk_new_at hz2 34 #[Value.string x2.name, Value.int .i64 x2.prio, Value.int .i64 x2.need, Value.int .i64 x2.tries, Value.string x2.tag])
  have c4 : Below w.heap.size w (((w.alloc (.cells #[Value.int .i64 s0.rev, Value.slice pj0 s0.jobs.length cj0, Value.slice pn0 s0.nodes.length cn0, Value.slice pl0 s0.leases.length cl0] 26)).alloc (.cells #[Value.string x1.name, Value.int .i64 x1.prio, Value.int .i64 x1.need, Value.int .i64 x1.tries, Value.string x1.tag] 34)).alloc (.cells #[Value.string x2.name, Value.int .i64 x2.prio, Value.int .i64 x2.need, Value.int .i64 x2.tries, Value.string x2.tag] 34)) := ((((Below.refl _ _).alloc (Nat.le_refl _) (.cells #[Value.int .i64 s0.rev, Value.slice pj0 s0.jobs.length cj0, Value.slice pn0 s0.nodes.length cn0, Value.slice pl0 s0.leases.length cl0] 26)).alloc (by simp) (.cells #[Value.string x1.name, Value.int .i64 x1.prio, Value.int .i64 x1.need, Value.int .i64 x1.tries, Value.string x1.tag] 34)).alloc (by simp; omega) (.cells #[Value.string x2.name, Value.int .i64 x2.prio, Value.int .i64 x2.need, Value.int .i64 x2.tries, Value.string x2.tag] 34))
  clear hz1 hz2
  have HM0 := Lib.hid hm0
  have HZ0 := Lib.hid hk0.sz
  have H1 := Lib.hid (reqSz_put hk1)
  have H2 := Lib.hid (reqSz_put hk2)
  have HT := Lib.hid hT
  have hzr := zero_rep_lit
  have hzd := zero_delta_lit
  have hzs := zero_state_lit
  have hzq := zero_request_lit
  have hzj := zero_job_lit
  have hzl := zero_lease_lit
  have z0 : (((0 : Nat) : Int) != 0) = false := rfl
  have z1 : (((0 : Nat) : Int) == 0) = true := rfl
  clear hT hm0 hk0 hk1 hk2
  by_cases hE : checkE s0 = 0
  · have HE := Lib.hid hE
    have F0 := Lib.hid ((fine_iff s0).1 hE)
    clear hE
    go_enter Tryz.func10, Tryz.ntmps10
    go_wp2_with fail
    generalize ((w.alloc _).alloc _).alloc _ = W5 at *
    refine (served_any _ (HT.out.below c4)).mono ?_
    rintro e w6 ⟨rfl, hb7⟩
    have b8 := b1.below hb7 b1.lt
    have b9 := b2.below hb7 b2.lt
    have b10 := b3.below hb7 b3.lt
    have c11 := c4.trans (hb7.mono c4.size)
    clear b1 b2 b3 c4 hb7
    go_wp2_with (first | (refine wpList_load_blk_w (by rfl) _ _ rfl (w.heap.size) rfl _ _ b8 _ Tryz.underlying26 rfl state_size ?_) | (refine wpList_load_blk_w (by rfl) _ _ rfl (w.heap.size + 1) rfl _ _ b9 _ Tryz.underlying34 rfl job_size ?_) | (refine wpList_load_blk_w (by rfl) _ _ rfl (w.heap.size + 2) rfl _ _ b10 _ Tryz.underlying34 rfl job_size ?_))
    have OK18 := Lib.hid (show SrvOk ⟨s0, 0⟩ from ⟨F0.out, Int.le_refl _, (by decide : (0 : Int) ≤ 1099511627776)⟩)
    refine (svNew_ok s0 pj0 pn0 pl0 cj0 cn0 cl0 _ ((HM0.out.below c11).more c11.size) HZ0.out (HT.out.below c11) HE.out).mono ?_
    rintro e w12 ⟨g14, rfl, hg15, i16, hb13⟩
    have ge17 : w.heap.size ≤ g14 := Nat.le_trans c11.size hg15
    clear hg15
    have b19 := b8.below hb13 b8.lt
    have b20 := b9.below hb13 b9.lt
    have b21 := b10.below hb13 b10.lt
    have c22 := c11.trans (hb13.mono c11.size)
    clear b8 b9 b10 c11 hb13
    go_wp2_with (first | (refine wpList_load_blk_w (by rfl) _ _ rfl (w.heap.size) rfl _ _ b19 _ Tryz.underlying26 rfl state_size ?_) | (refine wpList_load_blk_w (by rfl) _ _ rfl (w.heap.size + 1) rfl _ _ b20 _ Tryz.underlying34 rfl job_size ?_) | (refine wpList_load_blk_w (by rfl) _ _ rfl (w.heap.size + 2) rfl _ _ b21 _ Tryz.underlying34 rfl job_size ?_))
    have OK29 := Lib.hid (show SrvOk ⟨s0, 0⟩ from ⟨F0.out, Int.le_refl _, (by decide : (0 : Int) ≤ 1099511627776)⟩)
    refine (svNew_ok s0 pj0 pn0 pl0 cj0 cn0 cl0 _ ((HM0.out.below c22).more c22.size) HZ0.out (HT.out.below c22) HE.out).mono ?_
    rintro e w23 ⟨g25, rfl, hg26, i27, hb24⟩
    have ge28 : w.heap.size ≤ g25 := Nat.le_trans c22.size hg26
    have ne30 := Nat.ne_of_lt (Nat.lt_of_lt_of_le i16.lt hg26)
    clear hg26
    have b31 := b19.below hb24 b19.lt
    have b32 := b20.below hb24 b20.lt
    have b33 := b21.below hb24 b21.lt
    have i34 := i16.below hb24
    have c35 := c22.trans (hb24.mono c22.size)
    clear b19 b20 b21 i16 c22 hb24
    have HP := Lib.hid (fun (hne : x1.name ≠ x2.name) => two_puts F0.out hne)
    go_wp2_with (first | (refine wpList_load_blk_w (by rfl) _ _ rfl (w.heap.size) rfl _ _ b31 _ Tryz.underlying26 rfl state_size ?_) | (refine wpList_load_blk_w (by rfl) _ _ rfl (w.heap.size + 1) rfl _ _ b32 _ Tryz.underlying34 rfl job_size ?_) | (refine wpList_load_blk_w (by rfl) _ _ rfl (w.heap.size + 2) rfl _ _ b33 _ Tryz.underlying34 rfl job_size ?_))
    refine (svDo_any (qPut x1) (⟨s0, 0⟩ : Srv) g14 _ i34 OK18.out H1.out (HT.out.below c35)).mono ?_
    rintro e w36 ⟨x40a, x40b, x40c, x40d, x40e, x40f, y40a, y40b, y40c, y40d, y40e, y40f, rfl, i37, hg38, hd39⟩
    obtain ⟨cs41, hc42⟩ := i34.blk
    have b43 := blk_srv i34 hg38 b31 (by decide)
    have b44 := blk_srv i34 hg38 b32 (by decide)
    have b45 := blk_srv i34 hg38 b33 (by decide)
    have i46 := i27.other hg38 hc42 (Ne.symm ne30)
    have c47 := below_grown c35 hg38 ge17 c35.size
    have OK48 := Lib.hid (doR_ok OK18.out (qPut x1)).1
    clear i34 c35 hg38 hc42 b31 b32 b33 i27
    generalize (doR (⟨s0, 0⟩ : Srv) (qPut x1)) = r49 at *
    have t51 := two_first (w := w36)
    have t52 := two_second (w := w36) #[Value.int .i64 ((r49.code : Nat) : Int), Value.int .i64 r49.srv.st.rev]
    obtain ⟨hb53, G50⟩ := two_blks (w := w36) (rc := #[Value.int .i64 ((r49.code : Nat) : Int), Value.int .i64 r49.srv.st.rev]) (dc := #[Value.int .i64 (toldD r49).frm, Value.int .i64 (toldD r49).upto, Value.slice x40a (toldD r49).jobs.length y40a, Value.slice x40b (toldD r49).nodes.length y40b, Value.slice x40c (toldD r49).leases.length y40c, Value.slice x40d (toldD r49).gj.length y40d, Value.slice x40e (toldD r49).gn.length y40e, Value.slice x40f (toldD r49).gl.length y40f])
    have b54 := b43.below hb53 b43.lt
    have b55 := b44.below hb53 b44.lt
    have b56 := b45.below hb53 b45.lt
    have i57 := i37.below hb53
    have i58 := i46.below hb53
    have c59 := c47.trans (hb53.mono c47.size)
    clear b43 b44 b45 i37 i46 c47 hb53 hd39
    go_upto_region 8 with (first | (refine wpList_store_blk rfl _ _ _ rfl w36.heap.size rfl _ _ #[Value.int .i64 ((r49.code : Nat) : Int), Value.int .i64 r49.srv.st.rev] t51 rfl rep_size rfl (one_rep _ _) ?_) | (refine wpList_store_blk rfl _ _ _ rfl (w36.heap.size + 1) rfl _ _ #[Value.int .i64 (toldD r49).frm, Value.int .i64 (toldD r49).upto, Value.slice x40a (toldD r49).jobs.length y40a, Value.slice x40b (toldD r49).nodes.length y40b, Value.slice x40c (toldD r49).leases.length y40c, Value.slice x40d (toldD r49).gj.length y40d, Value.slice x40e (toldD r49).gn.length y40e, Value.slice x40f (toldD r49).gl.length y40f] t52 rfl delta_size rfl (one_d8 _ _ _ _ _ _ _ _ _ _ _ _ _ _ _ _ _ _ _ _) ?_) )
    obtain ⟨b62, b63⟩ := G50
    clear t51 t52
    generalize (((w36.alloc _).alloc _).setRow _ _).setRow _ _ = W60 at *
    generalize w36.heap.size = k61 at *
    go_wp2_with (first | (refine wpList_load_blk_w (by rfl) _ _ rfl (w.heap.size) rfl _ _ b54 _ Tryz.underlying26 rfl state_size ?_) | (refine wpList_load_blk_w (by rfl) _ _ rfl (w.heap.size + 1) rfl _ _ b55 _ Tryz.underlying34 rfl job_size ?_) | (refine wpList_load_blk_w (by rfl) _ _ rfl (w.heap.size + 2) rfl _ _ b56 _ Tryz.underlying34 rfl job_size ?_) | (refine wpList_load_blk_w (by rfl) _ _ rfl (k61) rfl _ _ b62 _ Tryz.underlying42 rfl rep_size ?_))
    refine (svDo_any (qPut x2) r49.srv g14 _ i57 OK48.out H2.out (HT.out.below c59)).mono ?_
    rintro e w64 ⟨x68a, x68b, x68c, x68d, x68e, x68f, y68a, y68b, y68c, y68d, y68e, y68f, rfl, i65, hg66, hd67⟩
    obtain ⟨cs69, hc70⟩ := i57.blk
    have b71 := blk_srv i57 hg66 b54 (by decide)
    have b72 := blk_srv i57 hg66 b55 (by decide)
    have b73 := blk_srv i57 hg66 b56 (by decide)
    have b74 := blk_srv i57 hg66 b62 (by decide)
    have i75 := i58.other hg66 hc70 (Ne.symm ne30)
    have c76 := below_grown c59 hg66 ge17 c59.size
    have OK77 := Lib.hid (doR_ok OK48.out (qPut x2)).1
    clear i57 c59 hg66 hc70 b54 b55 b56 b62 i58
    generalize (doR r49.srv (qPut x2)) = r78 at *
    have t80 := two_first (w := w64)
    have t81 := two_second (w := w64) #[Value.int .i64 ((r78.code : Nat) : Int), Value.int .i64 r78.srv.st.rev]
    obtain ⟨hb82, G79⟩ := two_blks (w := w64) (rc := #[Value.int .i64 ((r78.code : Nat) : Int), Value.int .i64 r78.srv.st.rev]) (dc := #[Value.int .i64 (toldD r78).frm, Value.int .i64 (toldD r78).upto, Value.slice x68a (toldD r78).jobs.length y68a, Value.slice x68b (toldD r78).nodes.length y68b, Value.slice x68c (toldD r78).leases.length y68c, Value.slice x68d (toldD r78).gj.length y68d, Value.slice x68e (toldD r78).gn.length y68e, Value.slice x68f (toldD r78).gl.length y68f])
    have b83 := b71.below hb82 b71.lt
    have b84 := b72.below hb82 b72.lt
    have b85 := b73.below hb82 b73.lt
    have b86 := b74.below hb82 b74.lt
    have i87 := i65.below hb82
    have i88 := i75.below hb82
    have c89 := c76.trans (hb82.mono c76.size)
    clear b71 b72 b73 b74 i65 i75 c76 hb82 hd67
    go_upto_region 9 with (first | (refine wpList_store_blk rfl _ _ _ rfl w64.heap.size rfl _ _ #[Value.int .i64 ((r78.code : Nat) : Int), Value.int .i64 r78.srv.st.rev] t80 rfl rep_size rfl (one_rep _ _) ?_) | (refine wpList_store_blk rfl _ _ _ rfl (w64.heap.size + 1) rfl _ _ #[Value.int .i64 (toldD r78).frm, Value.int .i64 (toldD r78).upto, Value.slice x68a (toldD r78).jobs.length y68a, Value.slice x68b (toldD r78).nodes.length y68b, Value.slice x68c (toldD r78).leases.length y68c, Value.slice x68d (toldD r78).gj.length y68d, Value.slice x68e (toldD r78).gn.length y68e, Value.slice x68f (toldD r78).gl.length y68f] t81 rfl delta_size rfl (one_d8 _ _ _ _ _ _ _ _ _ _ _ _ _ _ _ _ _ _ _ _) ?_) )
    obtain ⟨b92, b93⟩ := G79
    clear t80 t81
    generalize (((w64.alloc _).alloc _).setRow _ _).setRow _ _ = W90 at *
    generalize w64.heap.size = k91 at *
    go_wp2_with (first | (refine wpList_load_blk_w (by rfl) _ _ rfl (w.heap.size) rfl _ _ b83 _ Tryz.underlying26 rfl state_size ?_) | (refine wpList_load_blk_w (by rfl) _ _ rfl (w.heap.size + 1) rfl _ _ b84 _ Tryz.underlying34 rfl job_size ?_) | (refine wpList_load_blk_w (by rfl) _ _ rfl (w.heap.size + 2) rfl _ _ b85 _ Tryz.underlying34 rfl job_size ?_) | (refine wpList_load_blk_w (by rfl) _ _ rfl (k61) rfl _ _ b86 _ Tryz.underlying42 rfl rep_size ?_) | (refine wpList_load_blk_w (by rfl) _ _ rfl (k91) rfl _ _ b92 _ Tryz.underlying42 rfl rep_size ?_))
    refine (svDo_any (qPut x2) (⟨s0, 0⟩ : Srv) g25 _ i88 OK29.out H2.out (HT.out.below c89)).mono ?_
    rintro e w94 ⟨x98a, x98b, x98c, x98d, x98e, x98f, y98a, y98b, y98c, y98d, y98e, y98f, rfl, i95, hg96, hd97⟩
    obtain ⟨cs99, hc100⟩ := i88.blk
    have b101 := blk_srv i88 hg96 b83 (by decide)
    have b102 := blk_srv i88 hg96 b84 (by decide)
    have b103 := blk_srv i88 hg96 b85 (by decide)
    have b104 := blk_srv i88 hg96 b86 (by decide)
    have b105 := blk_srv i88 hg96 b92 (by decide)
    have i106 := i87.other hg96 hc100 (ne30)
    have c107 := below_grown c89 hg96 ge28 c89.size
    have OK108 := Lib.hid (doR_ok OK29.out (qPut x2)).1
    clear i88 c89 hg96 hc100 b83 b84 b85 b86 b92 i87
    generalize (doR (⟨s0, 0⟩ : Srv) (qPut x2)) = r109 at *
    have t111 := two_first (w := w94)
    have t112 := two_second (w := w94) #[Value.int .i64 ((r109.code : Nat) : Int), Value.int .i64 r109.srv.st.rev]
    obtain ⟨hb113, G110⟩ := two_blks (w := w94) (rc := #[Value.int .i64 ((r109.code : Nat) : Int), Value.int .i64 r109.srv.st.rev]) (dc := #[Value.int .i64 (toldD r109).frm, Value.int .i64 (toldD r109).upto, Value.slice x98a (toldD r109).jobs.length y98a, Value.slice x98b (toldD r109).nodes.length y98b, Value.slice x98c (toldD r109).leases.length y98c, Value.slice x98d (toldD r109).gj.length y98d, Value.slice x98e (toldD r109).gn.length y98e, Value.slice x98f (toldD r109).gl.length y98f])
    have b114 := b101.below hb113 b101.lt
    have b115 := b102.below hb113 b102.lt
    have b116 := b103.below hb113 b103.lt
    have b117 := b104.below hb113 b104.lt
    have b118 := b105.below hb113 b105.lt
    have i119 := i106.below hb113
    have i120 := i95.below hb113
    have c121 := c107.trans (hb113.mono c107.size)
    clear b101 b102 b103 b104 b105 i106 i95 c107 hb113 hd97
    go_upto_region 10 with (first | (refine wpList_store_blk rfl _ _ _ rfl w94.heap.size rfl _ _ #[Value.int .i64 ((r109.code : Nat) : Int), Value.int .i64 r109.srv.st.rev] t111 rfl rep_size rfl (one_rep _ _) ?_) | (refine wpList_store_blk rfl _ _ _ rfl (w94.heap.size + 1) rfl _ _ #[Value.int .i64 (toldD r109).frm, Value.int .i64 (toldD r109).upto, Value.slice x98a (toldD r109).jobs.length y98a, Value.slice x98b (toldD r109).nodes.length y98b, Value.slice x98c (toldD r109).leases.length y98c, Value.slice x98d (toldD r109).gj.length y98d, Value.slice x98e (toldD r109).gn.length y98e, Value.slice x98f (toldD r109).gl.length y98f] t112 rfl delta_size rfl (one_d8 _ _ _ _ _ _ _ _ _ _ _ _ _ _ _ _ _ _ _ _) ?_) )
    obtain ⟨b124, b125⟩ := G110
    clear t111 t112
    generalize (((w94.alloc _).alloc _).setRow _ _).setRow _ _ = W122 at *
    generalize w94.heap.size = k123 at *
    go_wp2_with (first | (refine wpList_load_blk_w (by rfl) _ _ rfl (w.heap.size) rfl _ _ b114 _ Tryz.underlying26 rfl state_size ?_) | (refine wpList_load_blk_w (by rfl) _ _ rfl (w.heap.size + 1) rfl _ _ b115 _ Tryz.underlying34 rfl job_size ?_) | (refine wpList_load_blk_w (by rfl) _ _ rfl (w.heap.size + 2) rfl _ _ b116 _ Tryz.underlying34 rfl job_size ?_) | (refine wpList_load_blk_w (by rfl) _ _ rfl (k61) rfl _ _ b117 _ Tryz.underlying42 rfl rep_size ?_) | (refine wpList_load_blk_w (by rfl) _ _ rfl (k91) rfl _ _ b118 _ Tryz.underlying42 rfl rep_size ?_) | (refine wpList_load_blk_w (by rfl) _ _ rfl (k123) rfl _ _ b124 _ Tryz.underlying42 rfl rep_size ?_))
    refine (svDo_any (qPut x1) r109.srv g25 _ i120 OK108.out H1.out (HT.out.below c121)).mono ?_
    rintro e w126 ⟨x130a, x130b, x130c, x130d, x130e, x130f, y130a, y130b, y130c, y130d, y130e, y130f, rfl, i127, hg128, hd129⟩
    obtain ⟨cs131, hc132⟩ := i120.blk
    have b133 := blk_srv i120 hg128 b114 (by decide)
    have b134 := blk_srv i120 hg128 b115 (by decide)
    have b135 := blk_srv i120 hg128 b116 (by decide)
    have b136 := blk_srv i120 hg128 b117 (by decide)
    have b137 := blk_srv i120 hg128 b118 (by decide)
    have b138 := blk_srv i120 hg128 b124 (by decide)
    have i139 := i119.other hg128 hc132 (ne30)
    have c140 := below_grown c121 hg128 ge28 c121.size
    have OK141 := Lib.hid (doR_ok OK108.out (qPut x1)).1
    clear i120 c121 hg128 hc132 b114 b115 b116 b117 b118 b124 i119
    generalize (doR r109.srv (qPut x1)) = r142 at *
    have t144 := two_first (w := w126)
    have t145 := two_second (w := w126) #[Value.int .i64 ((r142.code : Nat) : Int), Value.int .i64 r142.srv.st.rev]
    obtain ⟨hb146, G143⟩ := two_blks (w := w126) (rc := #[Value.int .i64 ((r142.code : Nat) : Int), Value.int .i64 r142.srv.st.rev]) (dc := #[Value.int .i64 (toldD r142).frm, Value.int .i64 (toldD r142).upto, Value.slice x130a (toldD r142).jobs.length y130a, Value.slice x130b (toldD r142).nodes.length y130b, Value.slice x130c (toldD r142).leases.length y130c, Value.slice x130d (toldD r142).gj.length y130d, Value.slice x130e (toldD r142).gn.length y130e, Value.slice x130f (toldD r142).gl.length y130f])
    have b147 := b133.below hb146 b133.lt
    have b148 := b134.below hb146 b134.lt
    have b149 := b135.below hb146 b135.lt
    have b150 := b136.below hb146 b136.lt
    have b151 := b137.below hb146 b137.lt
    have b152 := b138.below hb146 b138.lt
    have i153 := i139.below hb146
    have i154 := i127.below hb146
    have c155 := c140.trans (hb146.mono c140.size)
    clear b133 b134 b135 b136 b137 b138 i139 i127 c140 hb146 hd129
    go_upto_region 11 with (first | (refine wpList_store_blk rfl _ _ _ rfl w126.heap.size rfl _ _ #[Value.int .i64 ((r142.code : Nat) : Int), Value.int .i64 r142.srv.st.rev] t144 rfl rep_size rfl (one_rep _ _) ?_) | (refine wpList_store_blk rfl _ _ _ rfl (w126.heap.size + 1) rfl _ _ #[Value.int .i64 (toldD r142).frm, Value.int .i64 (toldD r142).upto, Value.slice x130a (toldD r142).jobs.length y130a, Value.slice x130b (toldD r142).nodes.length y130b, Value.slice x130c (toldD r142).leases.length y130c, Value.slice x130d (toldD r142).gj.length y130d, Value.slice x130e (toldD r142).gn.length y130e, Value.slice x130f (toldD r142).gl.length y130f] t145 rfl delta_size rfl (one_d8 _ _ _ _ _ _ _ _ _ _ _ _ _ _ _ _ _ _ _ _) ?_) )
    obtain ⟨b158, b159⟩ := G143
    clear t144 t145
    generalize (((w126.alloc _).alloc _).setRow _ _).setRow _ _ = W156 at *
    generalize w126.heap.size = k157 at *
    have cl160 : W156.cell? ⟨k61, 0, none⟩ = some (Value.int .i64 ((r49.code : Nat) : Int)) := b150.cell 0
    have cl161 : W156.cell? ⟨k91, 0, none⟩ = some (Value.int .i64 ((r78.code : Nat) : Int)) := b151.cell 0
    have cl162 : W156.cell? ⟨k123, 0, none⟩ = some (Value.int .i64 ((r109.code : Nat) : Int)) := b152.cell 0
    have cl163 : W156.cell? ⟨k157, 0, none⟩ = some (Value.int .i64 ((r142.code : Nat) : Int)) := b158.cell 0
    have cl164 : W156.cell? ⟨w.heap.size + 1, 0, none⟩ = some (Value.string x1.name) := b148.cell 0
    have cl165 : W156.cell? ⟨w.heap.size + 2, 0, none⟩ = some (Value.string x2.name) := b149.cell 0
    generalize ha : r49.code = ca at *
    generalize hb : r78.code = cb at *
    generalize hc : r109.code = cc_ at *
    generalize hd : r142.code = cd at *
    clear ha hb hc hd
    by_cases hca : ca = 0
    rotate_left
    · have hneca : (((ca : Nat) : Int) != 0) = true := by rw [bne_iff_ne]; omega
      clear hca
      go_wp2_with fail
      go_ret
      exact ⟨rfl, c155⟩
    subst hca
    by_cases hcb : cb = 0
    rotate_left
    · have hnecb : (((cb : Nat) : Int) != 0) = true := by rw [bne_iff_ne]; omega
      clear hcb
      go_wp2_with fail
      go_ret
      exact ⟨rfl, c155⟩
    subst hcb
    by_cases hcc_ : cc_ = 0
    rotate_left
    · have hnecc_ : (((cc_ : Nat) : Int) != 0) = true := by rw [bne_iff_ne]; omega
      clear hcc_
      go_wp2_with fail
      go_ret
      exact ⟨rfl, c155⟩
    subst hcc_
    by_cases hcd : cd = 0
    rotate_left
    · have hnecd : (((cd : Nat) : Int) != 0) = true := by rw [bne_iff_ne]; omega
      clear hcd
      go_wp2_with fail
      go_ret
      exact ⟨rfl, c155⟩
    subst hcd
    by_cases hn : x1.name = x2.name
    · have hnn : (x1.name.toList == x2.name.toList) = true := by rw [hn]; simp
      clear hn
      go_wp2_with fail
      go_ret
      exact ⟨rfl, c155⟩
    have hnn : (x1.name.toList == x2.name.toList) = false := by rw [beq_eq_false_iff_ne]; exact fun e => hn (toList_inj e)
    have HEQ := Lib.hid (HP.out hn rfl rfl rfl rfl)
    clear hn HP
    go_upto_region 13 with fail
    clear cl160 cl161 cl162 cl163 cl164 cl165 hnn
    go_wp2_with (first | (refine wpList_load_blk_w (by rfl) _ _ rfl (w.heap.size) rfl _ _ b147 _ Tryz.underlying26 rfl state_size ?_) | (refine wpList_load_blk_w (by rfl) _ _ rfl (w.heap.size + 1) rfl _ _ b148 _ Tryz.underlying34 rfl job_size ?_) | (refine wpList_load_blk_w (by rfl) _ _ rfl (w.heap.size + 2) rfl _ _ b149 _ Tryz.underlying34 rfl job_size ?_) | (refine wpList_load_blk_w (by rfl) _ _ rfl (k61) rfl _ _ b150 _ Tryz.underlying42 rfl rep_size ?_) | (refine wpList_load_blk_w (by rfl) _ _ rfl (k91) rfl _ _ b151 _ Tryz.underlying42 rfl rep_size ?_) | (refine wpList_load_blk_w (by rfl) _ _ rfl (k123) rfl _ _ b152 _ Tryz.underlying42 rfl rep_size ?_) | (refine wpList_load_blk_w (by rfl) _ _ rfl (k157) rfl _ _ b158 _ Tryz.underlying42 rfl rep_size ?_))
    refine (svState_any g14 r78.srv _ i153 OK77.out.1).mono ?_
    rintro e w166 ⟨q168a, q168b, q168c, d168a, d168b, d168c, rfl, o169, hb167⟩
    have b170 := b147.below hb167 b147.lt
    have b171 := b148.below hb167 b148.lt
    have b172 := b149.below hb167 b149.lt
    have b173 := b150.below hb167 b150.lt
    have b174 := b151.below hb167 b151.lt
    have b175 := b152.below hb167 b152.lt
    have b176 := b158.below hb167 b158.lt
    have i177 := i153.below hb167
    have i178 := i154.below hb167
    have c179 := c155.trans (hb167.mono c155.size)
    clear b147 b148 b149 b150 b151 b152 b158 i153 i154 c155 hb167
    go_wp2_with (first | (refine wpList_load_blk_w (by rfl) _ _ rfl (w.heap.size) rfl _ _ b170 _ Tryz.underlying26 rfl state_size ?_) | (refine wpList_load_blk_w (by rfl) _ _ rfl (w.heap.size + 1) rfl _ _ b171 _ Tryz.underlying34 rfl job_size ?_) | (refine wpList_load_blk_w (by rfl) _ _ rfl (w.heap.size + 2) rfl _ _ b172 _ Tryz.underlying34 rfl job_size ?_) | (refine wpList_load_blk_w (by rfl) _ _ rfl (k61) rfl _ _ b173 _ Tryz.underlying42 rfl rep_size ?_) | (refine wpList_load_blk_w (by rfl) _ _ rfl (k91) rfl _ _ b174 _ Tryz.underlying42 rfl rep_size ?_) | (refine wpList_load_blk_w (by rfl) _ _ rfl (k123) rfl _ _ b175 _ Tryz.underlying42 rfl rep_size ?_) | (refine wpList_load_blk_w (by rfl) _ _ rfl (k157) rfl _ _ b176 _ Tryz.underlying42 rfl rep_size ?_))
    refine (svState_any g25 r142.srv _ i178 OK141.out.1).mono ?_
    rintro e w180 ⟨q182a, q182b, q182c, d182a, d182b, d182c, rfl, o183, hb181⟩
    have b184 := b170.below hb181 b170.lt
    have b185 := b171.below hb181 b171.lt
    have b186 := b172.below hb181 b172.lt
    have b187 := b173.below hb181 b173.lt
    have b188 := b174.below hb181 b174.lt
    have b189 := b175.below hb181 b175.lt
    have b190 := b176.below hb181 b176.lt
    have o191 := o169.below hb181
    have i192 := i177.below hb181
    have i193 := i178.below hb181
    have c194 := c179.trans (hb181.mono c179.size)
    clear b170 b171 b172 b173 b174 b175 b176 o169 i177 i178 c179 hb181
    go_wp2_with (first | (refine wpList_load_blk_w (by rfl) _ _ rfl (w.heap.size) rfl _ _ b184 _ Tryz.underlying26 rfl state_size ?_) | (refine wpList_load_blk_w (by rfl) _ _ rfl (w.heap.size + 1) rfl _ _ b185 _ Tryz.underlying34 rfl job_size ?_) | (refine wpList_load_blk_w (by rfl) _ _ rfl (w.heap.size + 2) rfl _ _ b186 _ Tryz.underlying34 rfl job_size ?_) | (refine wpList_load_blk_w (by rfl) _ _ rfl (k61) rfl _ _ b187 _ Tryz.underlying42 rfl rep_size ?_) | (refine wpList_load_blk_w (by rfl) _ _ rfl (k91) rfl _ _ b188 _ Tryz.underlying42 rfl rep_size ?_) | (refine wpList_load_blk_w (by rfl) _ _ rfl (k123) rfl _ _ b189 _ Tryz.underlying42 rfl rep_size ?_) | (refine wpList_load_blk_w (by rfl) _ _ rfl (k157) rfl _ _ b190 _ Tryz.underlying42 rfl rep_size ?_))
    have HR := Lib.hid (same_any r78.srv.st r142.srv.st q168a q168b q168c q182a q182b q182c d168a d168b d168c d182a d182b d182c _ o191.m o183.m OK77.out.1.sz OK141.out.1.sz)
    rw [decide_eq_true HEQ.out] at HR
    refine (HR.out).mono ?_
    rintro e w195 ⟨rfl, hb196⟩
    have b197 := b184.below hb196 b184.lt
    have b198 := b185.below hb196 b185.lt
    have b199 := b186.below hb196 b186.lt
    have b200 := b187.below hb196 b187.lt
    have b201 := b188.below hb196 b188.lt
    have b202 := b189.below hb196 b189.lt
    have b203 := b190.below hb196 b190.lt
    have o204 := o191.below hb196
    have o205 := o183.below hb196
    have i206 := i192.below hb196
    have i207 := i193.below hb196
    have c208 := c194.trans (hb196.mono c194.size)
    clear b184 b185 b186 b187 b188 b189 b190 o191 o183 i192 i193 c194 hb196
    go_wp2_with fail
    go_ret
    exact ⟨rfl, c208⟩
  · have HB := Lib.hid hE
    have hne : (((checkE s0 : Nat) : Int) != 0) = true := by rw [bne_iff_ne]; omega
    clear hE
    go_enter Tryz.func10, Tryz.ntmps10
    go_wp2_with fail
    generalize ((w.alloc _).alloc _).alloc _ = W5 at *
    refine (served_any _ (HT.out.below c4)).mono ?_
    rintro e w6 ⟨rfl, hb7⟩
    have b8 := b1.below hb7 b1.lt
    have b9 := b2.below hb7 b2.lt
    have b10 := b3.below hb7 b3.lt
    have c11 := c4.trans (hb7.mono c4.size)
    clear b1 b2 b3 c4 hb7
    go_wp2_with (first | (refine wpList_load_blk_w (by rfl) _ _ rfl (w.heap.size) rfl _ _ b8 _ Tryz.underlying26 rfl state_size ?_) | (refine wpList_load_blk_w (by rfl) _ _ rfl (w.heap.size + 1) rfl _ _ b9 _ Tryz.underlying34 rfl job_size ?_) | (refine wpList_load_blk_w (by rfl) _ _ rfl (w.heap.size + 2) rfl _ _ b10 _ Tryz.underlying34 rfl job_size ?_))
    refine (svNew_bad s0 pj0 pn0 pl0 cj0 cn0 cl0 _ ((HM0.out.below c11).more c11.size) HZ0.out (HT.out.below c11) HB.out).mono ?_
    rintro e w12 ⟨rfl, hb13⟩
    have b14 := b8.below hb13 b8.lt
    have b15 := b9.below hb13 b9.lt
    have b16 := b10.below hb13 b10.lt
    have c17 := c11.trans (hb13.mono c11.size)
    clear b8 b9 b10 c11 hb13
    go_wp2_with (first | (refine wpList_load_blk_w (by rfl) _ _ rfl (w.heap.size) rfl _ _ b14 _ Tryz.underlying26 rfl state_size ?_) | (refine wpList_load_blk_w (by rfl) _ _ rfl (w.heap.size + 1) rfl _ _ b15 _ Tryz.underlying34 rfl job_size ?_) | (refine wpList_load_blk_w (by rfl) _ _ rfl (w.heap.size + 2) rfl _ _ b16 _ Tryz.underlying34 rfl job_size ?_))
    refine (svNew_bad s0 pj0 pn0 pl0 cj0 cn0 cl0 _ ((HM0.out.below c17).more c17.size) HZ0.out (HT.out.below c17) HB.out).mono ?_
    rintro e w18 ⟨rfl, hb19⟩
    have b20 := b14.below hb19 b14.lt
    have b21 := b15.below hb19 b15.lt
    have b22 := b16.below hb19 b16.lt
    have c23 := c17.trans (hb19.mono c17.size)
    clear b14 b15 b16 c17 hb19
    go_wp2_with fail
    go_ret
    exact ⟨rfl, c23⟩
end Go.Proofs.YtffddjdfpggglaaGreatDoor.serveOrder
