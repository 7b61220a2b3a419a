/-
  Several texts in one: VServeGrants.
-/
import Derived.Test.YtffddjdfpggglaaGreatDoorPkHeld
import Derived.Test.YtffddjdfpggglaaGreatDoorPkBase
import Derived.Test.YtffddjdfpggglaaGreatDoorPkSvLaw
import Derived.Test.YtffddjdfpggglaaGreatDoorPkSvGrants
import Derived.Test.YtffddjdfpggglaaGreatDoorPkDelA
set_option linter.unusedVariables false
set_option linter.unusedSimpArgs false
set_option maxHeartbeats 16000000
set_option maxRecDepth 100000
namespace Go.Proofs.YtffddjdfpggglaaGreatDoor.serveGrants
open Go.ChangeShapes Go.WideShapes Go.ChangeAt Go.RowKit Go.Joins
open Go.ChangeMaps (open_string)
theorem walk (s0 : St) (pj0 pn0 pl0 : Option Addr) (cj0 cn0 cl0 : Nat) (w : World) (hm0 : StM w w.heap.size pj0 pn0 pl0 s0) (hk0 : StOk s0) (x1 : LeaseD) (hk1 : okL x1) (hT : Tabs w) :
    Calls Tryz.prog 7 #[.agg #[Value.int .i64 s0.rev, Value.slice pj0 s0.jobs.length cj0, Value.slice pn0 s0.nodes.length cn0, Value.slice pl0 s0.leases.length cl0], .agg #[Value.string x1.job, Value.string x1.node, Value.int .i64 x1.till]] w fun e w' => e = .returned (.bool true) ∧ Below w.heap.size w w' := by
  have b1 := ((Blk.new w 26 #[Value.int .i64 s0.rev, Value.slice pj0 s0.jobs.length cj0, Value.slice pn0 s0.nodes.length cn0, Value.slice pl0 s0.leases.length cl0]).alloc (.cells #[Value.string x1.job, Value.string x1.node, Value.int .i64 x1.till] 38))
  have hz1 : (w.alloc (.cells #[Value.int .i64 s0.rev, Value.slice pj0 s0.jobs.length cj0, Value.slice pn0 s0.nodes.length cn0, Value.slice pl0 s0.leases.length cl0] 26)).heap.size = w.heap.size + 1 := by simp
  have b2 := (blk_new_at hz1 38 #[Value.string x1.job, Value.string x1.node, Value.int .i64 x1.till])
  have c3 : Below w.heap.size w ((w.alloc (.cells #[Value.int .i64 s0.rev, Value.slice pj0 s0.jobs.length cj0, Value.slice pn0 s0.nodes.length cn0, Value.slice pl0 s0.leases.length cl0] 26)).alloc (.cells #[Value.string x1.job, Value.string x1.node, Value.int .i64 x1.till] 38)) := (((Below.refl _ _).alloc (Nat.le_refl _) (.cells #[Value.int .i64 s0.rev, Value.slice pj0 s0.jobs.length cj0, Value.slice pn0 s0.nodes.length cn0, Value.slice pl0 s0.leases.length cl0] 26)).alloc (by simp) (.cells #[Value.string x1.job, Value.string x1.node, Value.int .i64 x1.till] 38))
  clear hz1
  have HM0 := Lib.hid hm0
  have HZ0 := Lib.hid hk0.sz
  have H1 := Lib.hid (reqSz_grant hk1)
  have H2 := Lib.hid (reqSz_free hk1.1.1)
  have HT := Lib.hid hT
  have hzr := zero_rep_lit
  have hzd := zero_delta_lit
  have hzs := zero_state_lit
  have hzq := zero_request_lit
  have hzj := zero_job_lit
  have hzl := zero_lease_lit
  have z0 : (((0 : Nat) : Int) != 0) = false := rfl
  have z1 : (((0 : Nat) : Int) == 0) = true := rfl
  clear hT hm0 hk0 hk1
  by_cases hE : checkE s0 = 0
  · have HE := Lib.hid hE
    have F0 := Lib.hid ((fine_iff s0).1 hE)
    clear hE
    go_enter Tryz.func7, Tryz.ntmps7
    go_wp2_with fail
    generalize (w.alloc _).alloc _ = W4 at *
    refine (served_any _ (HT.out.below c3)).mono ?_
    rintro e w5 ⟨rfl, hb6⟩
    have b7 := b1.below hb6 b1.lt
    have b8 := b2.below hb6 b2.lt
    have c9 := c3.trans (hb6.mono c3.size)
    clear b1 b2 c3 hb6
    go_wp2_with (first | (refine wpList_load_blk_w (by rfl) _ _ rfl (w.heap.size) rfl _ _ b7 _ Tryz.underlying26 rfl state_size ?_) | (refine wpList_load_blk_w (by rfl) _ _ rfl ((w.heap.size + 1)) rfl _ #[Value.string x1.job, Value.string x1.node, Value.int .i64 x1.till] b8 _ Tryz.underlying38 rfl lease_size ?_))
    have OK16 := Lib.hid (show SrvOk ⟨s0, 0⟩ from ⟨F0.out, Int.le_refl _, (by decide : (0 : Int) ≤ 1099511627776)⟩)
    refine (svNew_ok s0 pj0 pn0 pl0 cj0 cn0 cl0 _ ((HM0.out.below c9).more c9.size) HZ0.out (HT.out.below c9) HE.out).mono ?_
    rintro e w10 ⟨g12, rfl, hg13, i14, hb11⟩
    have ge15 : w.heap.size ≤ g12 := Nat.le_trans c9.size hg13
    clear hg13
    have b17 := b7.below hb11 b7.lt
    have b18 := b8.below hb11 b8.lt
    have c19 := c9.trans (hb11.mono c9.size)
    clear b7 b8 c9 hb11
    have HG := Lib.hid (fun h => grant2 OK16.out (l := x1) h)
    have HA0 := Lib.hid (fun (h : (doR ⟨s0, 0⟩ (qGrant x1)).code ≠ 0) => (doR_refused h).2)
    have cl20 : w10.cell? ⟨w.heap.size, 1, none⟩ = some (Value.slice pj0 s0.jobs.length cj0) := b17.cell 1
    have cl21 : w10.cell? ⟨(w.heap.size + 1), 0, none⟩ = some (Value.string x1.job) := b18.cell 0
    go_wp2_with (first | (refine wpList_load_blk_w (by rfl) _ _ rfl (w.heap.size) rfl _ _ b17 _ Tryz.underlying26 rfl state_size ?_) | (refine wpList_load_blk_w (by rfl) _ _ rfl ((w.heap.size + 1)) rfl _ #[Value.string x1.job, Value.string x1.node, Value.int .i64 x1.till] b18 _ Tryz.underlying38 rfl lease_size ?_))
    clear cl20 cl21
    refine (atJ_any pj0 cj0 s0.jobs x1.job _ ((HM0.out.below c19).more c19.size).j (Nat.le_trans HZ0.out.lj (by decide))).mono ?_
    rintro e w22 ⟨rfl, hb23⟩
    have b24 := b17.below hb23 b17.lt
    have b25 := b18.below hb23 b18.lt
    have i26 := i14.below hb23
    have c27 := c19.trans (hb23.mono c19.size)
    clear b17 b18 i14 c19 hb23
    generalize hik : ixBy JobD.name s0.jobs x1.job 0 = ik at *
    have HIK := Lib.hid hik
    clear hik
    go_wp2_with (first | (refine wpList_load_blk_w (by rfl) _ _ rfl (w.heap.size) rfl _ _ b24 _ Tryz.underlying26 rfl state_size ?_) | (refine wpList_load_blk_w (by rfl) _ _ rfl ((w.heap.size + 1)) rfl _ #[Value.string x1.job, Value.string x1.node, Value.int .i64 x1.till] b25 _ Tryz.underlying38 rfl lease_size ?_))
    refine (svDo_any (qGrant x1) (⟨s0, 0⟩ : Srv) g12 _ i26 OK16.out H1.out (HT.out.below c27)).mono ?_
    rintro e w28 ⟨x32a, x32b, x32c, x32d, x32e, x32f, y32a, y32b, y32c, y32d, y32e, y32f, rfl, i29, hg30, hd31⟩
    obtain ⟨cs33, hc34⟩ := i26.blk
    have b35 := blk_srv i26 hg30 b24 (by decide)
    have b36 := blk_srv i26 hg30 b25 (by decide)
    have c37 := below_grown c27 hg30 ge15 c27.size
    have OK38 := Lib.hid (doR_ok OK16.out (qGrant x1)).1
    clear i26 c27 hg30 hc34 b24 b25
    generalize (doR (⟨s0, 0⟩ : Srv) (qGrant x1)) = r39 at *
    have t41 := two_first (w := w28)
    have t42 := two_second (w := w28) #[Value.int .i64 ((r39.code : Nat) : Int), Value.int .i64 r39.srv.st.rev]
    obtain ⟨hb43, G40⟩ := two_blks (w := w28) (rc := #[Value.int .i64 ((r39.code : Nat) : Int), Value.int .i64 r39.srv.st.rev]) (dc := #[Value.int .i64 (toldD r39).frm, Value.int .i64 (toldD r39).upto, Value.slice x32a (toldD r39).jobs.length y32a, Value.slice x32b (toldD r39).nodes.length y32b, Value.slice x32c (toldD r39).leases.length y32c, Value.slice x32d (toldD r39).gj.length y32d, Value.slice x32e (toldD r39).gn.length y32e, Value.slice x32f (toldD r39).gl.length y32f])
    have b44 := b35.below hb43 b35.lt
    have b45 := b36.below hb43 b36.lt
    have i46 := i29.below hb43
    have c47 := c37.trans (hb43.mono c37.size)
    clear b35 b36 i29 c37 hb43 hd31
    go_upto_region 8 with (first | (refine wpList_store_blk rfl _ _ _ rfl w28.heap.size rfl _ _ #[Value.int .i64 ((r39.code : Nat) : Int), Value.int .i64 r39.srv.st.rev] t41 rfl rep_size rfl (one_rep _ _) ?_) | (refine wpList_store_blk rfl _ _ _ rfl (w28.heap.size + 1) rfl _ _ #[Value.int .i64 (toldD r39).frm, Value.int .i64 (toldD r39).upto, Value.slice x32a (toldD r39).jobs.length y32a, Value.slice x32b (toldD r39).nodes.length y32b, Value.slice x32c (toldD r39).leases.length y32c, Value.slice x32d (toldD r39).gj.length y32d, Value.slice x32e (toldD r39).gn.length y32e, Value.slice x32f (toldD r39).gl.length y32f] t42 rfl delta_size rfl (one_d8 _ _ _ _ _ _ _ _ _ _ _ _ _ _ _ _ _ _ _ _) ?_) )
    obtain ⟨b50, b51⟩ := G40
    clear t41 t42
    generalize (((w28.alloc _).alloc _).setRow _ _).setRow _ _ = W48 at *
    generalize w28.heap.size = k49 at *
    have cl52 : W48.cell? ⟨k49, 0, none⟩ = some (Value.int .i64 ((r39.code : Nat) : Int)) := b50.cell 0
    generalize hcd : r39.code = cd at *
    clear hcd
    by_cases hA : cd = 0
    rotate_left
    · have HEQ := Lib.hid (show r39.srv.st = s0 from by rw [HA0.out hA])
      have hne : (((cd : Nat) : Int) != 0) = true := by rw [bne_iff_ne]; omega
      clear hA HA0 HG
      go_upto_region 9 with fail
      clear cl52
      have hB_ : Below W48.heap.size W48 W48.drew := (Below.refl _ _).drew
      have b53 := b44.below hB_ b44.lt
      have b54 := b45.below hB_ b45.lt
      have b55 := b50.below hB_ b50.lt
      have i56 := i46.below hB_
      have c57 := c47.trans (hB_.mono c47.size)
      clear b44 b45 b50 i46 c47 hB_
      refine wp_region_held_drew (S := fun W => Blk W w.heap.size 26 #[Value.int .i64 s0.rev, Value.slice pj0 s0.jobs.length cj0, Value.slice pn0 s0.nodes.length cn0, Value.slice pl0 s0.leases.length cl0]) (by kernel_rfl) b53 (fun hHeld => ?_)
      refine tk 0 (v := ?_) rfl (Or.inl ⟨by rfl, ?_⟩) ?_
      rotate_left
      · (intro w5 hw5; (try dsimp only at hw5); go_simp; (try with_reducible rfl))
      (try simp only [Act.put, ma, mb, mc, md, me, mf])
      refine tk 2 (v := ?_) rfl (Or.inl ⟨by rfl, ?_⟩) ?_
      rotate_left
      · (intro w5 hw5; (try dsimp only at hw5); have fhw50_ := hw5.cell 0; have fhw51_ := hw5.cell 1; have fhw52_ := hw5.cell 2; have fhw53_ := hw5.cell 3; go_simp; (try with_reducible rfl))
      (try simp only [Act.put, ma, mb, mc, md, me, mf])
      refine wpAnyH_ready (rs := [1]) (by kernel_rfl) (by simp) ?_
      refine AllReadyH.cons rfl (fun K hK => ?_) AllReadyH.nil
      go_simp
      refine (svState_any g12 r39.srv _ i56 OK38.out.1).mono ?_
      rintro e u1 ⟨qa, qb, qc, da, db, dc, rfl, hO1, hb1⟩
      have G1 := b53.below hb1 b53.lt
      refine hK.out _ _ ?_ (fun hHeld => ?_)
      · exact G1
      clear hK K
      (try simp only [Act.put, ma, mb, mc, md, me, mf])
      have cZ := c57.trans (hb1.mono c57.size)
      refine wpAnyH_ready (rs := [3]) (by kernel_rfl) (by simp) ?_
      refine AllReadyH.cons rfl (fun K hK => ?_) AllReadyH.nil
      go_simp
      have HR := same_any r39.srv.st s0 qa qb qc pj0 pn0 pl0 da db dc cj0 cn0 cl0 u1 hO1.m ((HM0.out.below cZ).more cZ.size) OK38.out.1.sz HZ0.out
      rw [decide_eq_true HEQ.out] at HR
      refine HR.mono ?_
      rintro e u2 ⟨rfl, hb2⟩
      have G2 := G1.below hb2 G1.lt
      have cY := cZ.trans (hb2.mono cZ.size)
      refine hK.out _ _ ?_ (fun hHeld => ?_)
      · exact G2
      clear hK K
      (try simp only [Act.put, ma, mb, mc, md, me, mf])
      refine tk 4 (v := ?_) rfl (Or.inl ⟨by rfl, ?_⟩) ?_
      rotate_left
      · (intro w5 hw5; (try dsimp only at hw5); go_simp; (try with_reducible rfl))
      (try simp only [Act.put, ma, mb, mc, md, me, mf])
      refine wpAnyH_done (by kernel_rfl) ?_ _
      go_wp2_with fail
      go_ret
      exact ⟨rfl, cY⟩
    subst hA
    obtain ⟨⟨j, k, j1, j2, j3, j4, j5⟩, g1, g2, g3, g4, g5⟩ := HG.out rfl
    have J1 := Lib.hid j1
    have J3 := Lib.hid j3
    subst j2
    have G1_ := Lib.hid g1
    have G2_ := Lib.hid g2
    have G3_ := Lib.hid g3
    have G4_ := Lib.hid g4
    have G5_ := Lib.hid g5
    clear HA0 HG j1 j3 g1 g2 g3 g4 g5 HIK
    go_upto_region 10 with fail
    clear cl52
    go_wp2_with (first | (refine wpList_load_blk_w (by rfl) _ _ rfl (w.heap.size) rfl _ _ b44 _ Tryz.underlying26 rfl state_size ?_) | (refine wpList_load_blk_w (by rfl) _ _ rfl ((w.heap.size + 1)) rfl _ #[Value.string x1.job, Value.string x1.node, Value.int .i64 x1.till] b45 _ Tryz.underlying38 rfl lease_size ?_))
    refine (svState_any g12 r39.srv _ i46 OK38.out.1).mono ?_
    rintro e w53 ⟨q55a, q55b, q55c, d55a, d55b, d55c, rfl, o56, hb54⟩
    have b57 := b44.below hb54 b44.lt
    have b58 := b45.below hb54 b45.lt
    have i59 := i46.below hb54
    have c60 := c47.trans (hb54.mono c47.size)
    clear b44 b45 i46 c47 hb54
    have hb61 : Below w53.heap.size w53 (w53.alloc (.cells #[Value.int .i64 r39.srv.st.rev, Value.slice q55a r39.srv.st.jobs.length d55a, Value.slice q55b r39.srv.st.nodes.length d55b, Value.slice q55c r39.srv.st.leases.length d55c] 26)) := (Below.refl _ _).alloc (Nat.le_refl _) _
    have b62 := Blk.new w53 26 #[Value.int .i64 r39.srv.st.rev, Value.slice q55a r39.srv.st.jobs.length d55a, Value.slice q55b r39.srv.st.nodes.length d55b, Value.slice q55c r39.srv.st.leases.length d55c]
    have b63 := b57.below hb61 b57.lt
    have b64 := b58.below hb61 b58.lt
    have o65 := o56.below hb61
    have i66 := i59.below hb61
    have c67 := c60.trans (hb61.mono c60.size)
    clear b57 b58 o56 i59 c60 hb61
    go_upto_region 11 with (first | (refine wpList_store_new rfl _ _ _ rfl rfl 26 _ #[Value.int .i64 r39.srv.st.rev, Value.slice q55a r39.srv.st.jobs.length d55a, Value.slice q55b r39.srv.st.nodes.length d55b, Value.slice q55c r39.srv.st.leases.length d55c] rfl state_size rfl (one_st4 _ _ _ _ _ _ _ _ _ _) ?_) | (refine wpList_load_blk_w (by rfl) _ _ rfl (w.heap.size) rfl _ _ b63 _ Tryz.underlying26 rfl state_size ?_) | (refine wpList_load_blk_w (by rfl) _ _ rfl ((w.heap.size + 1)) rfl _ #[Value.string x1.job, Value.string x1.node, Value.int .i64 x1.till] b64 _ Tryz.underlying38 rfl lease_size ?_) | (refine wpList_load_blk_w (by rfl) _ _ rfl (w53.heap.size) rfl _ _ b62 _ Tryz.underlying26 rfl state_size ?_))
    generalize w53.alloc _ = W68 at *
    generalize w53.heap.size = g69 at *
    go_wp2_with (first | (refine wpList_load_blk_w (by rfl) _ _ rfl (w.heap.size) rfl _ _ b63 _ Tryz.underlying26 rfl state_size ?_) | (refine wpList_load_blk_w (by rfl) _ _ rfl ((w.heap.size + 1)) rfl _ #[Value.string x1.job, Value.string x1.node, Value.int .i64 x1.till] b64 _ Tryz.underlying38 rfl lease_size ?_) | (refine wpList_load_blk_w (by rfl) _ _ rfl (g69) rfl _ _ b62 _ Tryz.underlying26 rfl state_size ?_))
    refine (svDo_any (qGrant x1) r39.srv g12 _ i66 OK38.out H1.out (HT.out.below c67)).mono ?_
    rintro e w70 ⟨x74a, x74b, x74c, x74d, x74e, x74f, y74a, y74b, y74c, y74d, y74e, y74f, rfl, i71, hg72, hd73⟩
    obtain ⟨cs75, hc76⟩ := i66.blk
    have b77 := blk_srv i66 hg72 b63 (by decide)
    have b78 := blk_srv i66 hg72 b64 (by decide)
    have b79 := blk_srv i66 hg72 b62 (by decide)
    have o80 := o65.other hg72 hc76 (by decide) (by decide) (by decide)
    have c81 := below_grown c67 hg72 ge15 c67.size
    have OK82 := Lib.hid (doR_ok OK38.out (qGrant x1)).1
    clear i66 c67 hg72 hc76 b63 b64 b62 o65
    generalize (doR r39.srv (qGrant x1)) = r83 at *
    have t85 := two_first (w := w70)
    have t86 := two_second (w := w70) #[Value.int .i64 ((r83.code : Nat) : Int), Value.int .i64 r83.srv.st.rev]
    obtain ⟨hb87, G84⟩ := two_blks (w := w70) (rc := #[Value.int .i64 ((r83.code : Nat) : Int), Value.int .i64 r83.srv.st.rev]) (dc := #[Value.int .i64 (toldD r83).frm, Value.int .i64 (toldD r83).upto, Value.slice x74a (toldD r83).jobs.length y74a, Value.slice x74b (toldD r83).nodes.length y74b, Value.slice x74c (toldD r83).leases.length y74c, Value.slice x74d (toldD r83).gj.length y74d, Value.slice x74e (toldD r83).gn.length y74e, Value.slice x74f (toldD r83).gl.length y74f])
    have b88 := b77.below hb87 b77.lt
    have b89 := b78.below hb87 b78.lt
    have b90 := b79.below hb87 b79.lt
    have o91 := o80.below hb87
    have i92 := i71.below hb87
    have c93 := c81.trans (hb87.mono c81.size)
    clear b77 b78 b79 o80 i71 c81 hb87 hd73
    go_upto_region 12 with (first | (refine wpList_store_blk rfl _ _ _ rfl w70.heap.size rfl _ _ #[Value.int .i64 ((r83.code : Nat) : Int), Value.int .i64 r83.srv.st.rev] t85 rfl rep_size rfl (one_rep _ _) ?_) | (refine wpList_store_blk rfl _ _ _ rfl (w70.heap.size + 1) rfl _ _ #[Value.int .i64 (toldD r83).frm, Value.int .i64 (toldD r83).upto, Value.slice x74a (toldD r83).jobs.length y74a, Value.slice x74b (toldD r83).nodes.length y74b, Value.slice x74c (toldD r83).leases.length y74c, Value.slice x74d (toldD r83).gj.length y74d, Value.slice x74e (toldD r83).gn.length y74e, Value.slice x74f (toldD r83).gl.length y74f] t86 rfl delta_size rfl (one_d8 _ _ _ _ _ _ _ _ _ _ _ _ _ _ _ _ _ _ _ _) ?_) )
    obtain ⟨b96, b97⟩ := G84
    clear t85 t86
    generalize (((w70.alloc _).alloc _).setRow _ _).setRow _ _ = W94 at *
    generalize w70.heap.size = k95 at *
    have e2 := G4_.out
    rw [← e2] at G5_
    clear G4_ e2
    have cl98 : W94.cell? ⟨(w.heap.size + 1), 0, none⟩ = some (Value.string x1.job) := b89.cell 0
    go_wp2_with (first | (refine wpList_load_blk_w (by rfl) _ _ rfl (w.heap.size) rfl _ _ b88 _ Tryz.underlying26 rfl state_size ?_) | (refine wpList_load_blk_w (by rfl) _ _ rfl ((w.heap.size + 1)) rfl _ #[Value.string x1.job, Value.string x1.node, Value.int .i64 x1.till] b89 _ Tryz.underlying38 rfl lease_size ?_) | (refine wpList_load_blk_w (by rfl) _ _ rfl (g69) rfl _ _ b90 _ Tryz.underlying26 rfl state_size ?_) | (refine wpList_load_blk_w (by rfl) _ _ rfl (k95) rfl _ _ b96 _ Tryz.underlying42 rfl rep_size ?_))
    refine (svDo_any (qFree x1.job) r83.srv g12 _ i92 OK82.out H2.out (HT.out.below c93)).mono ?_
    rintro e w99 ⟨x103a, x103b, x103c, x103d, x103e, x103f, y103a, y103b, y103c, y103d, y103e, y103f, rfl, i100, hg101, hd102⟩
    obtain ⟨cs104, hc105⟩ := i92.blk
    have b106 := blk_srv i92 hg101 b88 (by decide)
    have b107 := blk_srv i92 hg101 b89 (by decide)
    have b108 := blk_srv i92 hg101 b90 (by decide)
    have b109 := blk_srv i92 hg101 b96 (by decide)
    have o110 := o91.other hg101 hc105 (by decide) (by decide) (by decide)
    have c111 := below_grown c93 hg101 ge15 c93.size
    have OK112 := Lib.hid (doR_ok OK82.out (qFree x1.job)).1
    clear i92 c93 hg101 hc105 b88 b89 b90 b96 o91
    generalize (doR r83.srv (qFree x1.job)) = r113 at *
    have t115 := two_first (w := w99)
    have t116 := two_second (w := w99) #[Value.int .i64 ((r113.code : Nat) : Int), Value.int .i64 r113.srv.st.rev]
    obtain ⟨hb117, G114⟩ := two_blks (w := w99) (rc := #[Value.int .i64 ((r113.code : Nat) : Int), Value.int .i64 r113.srv.st.rev]) (dc := #[Value.int .i64 (toldD r113).frm, Value.int .i64 (toldD r113).upto, Value.slice x103a (toldD r113).jobs.length y103a, Value.slice x103b (toldD r113).nodes.length y103b, Value.slice x103c (toldD r113).leases.length y103c, Value.slice x103d (toldD r113).gj.length y103d, Value.slice x103e (toldD r113).gn.length y103e, Value.slice x103f (toldD r113).gl.length y103f])
    have b118 := b106.below hb117 b106.lt
    have b119 := b107.below hb117 b107.lt
    have b120 := b108.below hb117 b108.lt
    have b121 := b109.below hb117 b109.lt
    have o122 := o110.below hb117
    have i123 := i100.below hb117
    have c124 := c111.trans (hb117.mono c111.size)
    clear b106 b107 b108 b109 o110 i100 c111 hb117 hd102
    go_upto_region 13 with (first | (refine wpList_store_blk rfl _ _ _ rfl w99.heap.size rfl _ _ #[Value.int .i64 ((r113.code : Nat) : Int), Value.int .i64 r113.srv.st.rev] t115 rfl rep_size rfl (one_rep _ _) ?_) | (refine wpList_store_blk rfl _ _ _ rfl (w99.heap.size + 1) rfl _ _ #[Value.int .i64 (toldD r113).frm, Value.int .i64 (toldD r113).upto, Value.slice x103a (toldD r113).jobs.length y103a, Value.slice x103b (toldD r113).nodes.length y103b, Value.slice x103c (toldD r113).leases.length y103c, Value.slice x103d (toldD r113).gj.length y103d, Value.slice x103e (toldD r113).gn.length y103e, Value.slice x103f (toldD r113).gl.length y103f] t116 rfl delta_size rfl (one_d8 _ _ _ _ _ _ _ _ _ _ _ _ _ _ _ _ _ _ _ _) ?_) )
    obtain ⟨b127, b128⟩ := G114
    clear t115 t116
    generalize (((w99.alloc _).alloc _).setRow _ _).setRow _ _ = W125 at *
    generalize w99.heap.size = k126 at *
    clear cl98
    have cl129 : W125.cell? ⟨(w.heap.size + 1), 0, none⟩ = some (Value.string x1.job) := b119.cell 0
    go_wp2_with (first | (refine wpList_load_blk_w (by rfl) _ _ rfl (w.heap.size) rfl _ _ b118 _ Tryz.underlying26 rfl state_size ?_) | (refine wpList_load_blk_w (by rfl) _ _ rfl ((w.heap.size + 1)) rfl _ #[Value.string x1.job, Value.string x1.node, Value.int .i64 x1.till] b119 _ Tryz.underlying38 rfl lease_size ?_) | (refine wpList_load_blk_w (by rfl) _ _ rfl (g69) rfl _ _ b120 _ Tryz.underlying26 rfl state_size ?_) | (refine wpList_load_blk_w (by rfl) _ _ rfl (k95) rfl _ _ b121 _ Tryz.underlying42 rfl rep_size ?_) | (refine wpList_load_blk_w (by rfl) _ _ rfl (k126) rfl _ _ b127 _ Tryz.underlying42 rfl rep_size ?_))
    refine (svDo_any (qFree x1.job) r113.srv g12 _ i123 OK112.out H2.out (HT.out.below c124)).mono ?_
    rintro e w130 ⟨x134a, x134b, x134c, x134d, x134e, x134f, y134a, y134b, y134c, y134d, y134e, y134f, rfl, i131, hg132, hd133⟩
    obtain ⟨cs135, hc136⟩ := i123.blk
    have b137 := blk_srv i123 hg132 b118 (by decide)
    have b138 := blk_srv i123 hg132 b119 (by decide)
    have b139 := blk_srv i123 hg132 b120 (by decide)
    have b140 := blk_srv i123 hg132 b121 (by decide)
    have b141 := blk_srv i123 hg132 b127 (by decide)
    have o142 := o122.other hg132 hc136 (by decide) (by decide) (by decide)
    have c143 := below_grown c124 hg132 ge15 c124.size
    have OK144 := Lib.hid (doR_ok OK112.out (qFree x1.job)).1
    clear i123 c124 hg132 hc136 b118 b119 b120 b121 b127 o122
    generalize (doR r113.srv (qFree x1.job)) = r145 at *
    have t147 := two_first (w := w130)
    have t148 := two_second (w := w130) #[Value.int .i64 ((r145.code : Nat) : Int), Value.int .i64 r145.srv.st.rev]
    obtain ⟨hb149, G146⟩ := two_blks (w := w130) (rc := #[Value.int .i64 ((r145.code : Nat) : Int), Value.int .i64 r145.srv.st.rev]) (dc := #[Value.int .i64 (toldD r145).frm, Value.int .i64 (toldD r145).upto, Value.slice x134a (toldD r145).jobs.length y134a, Value.slice x134b (toldD r145).nodes.length y134b, Value.slice x134c (toldD r145).leases.length y134c, Value.slice x134d (toldD r145).gj.length y134d, Value.slice x134e (toldD r145).gn.length y134e, Value.slice x134f (toldD r145).gl.length y134f])
    have b150 := b137.below hb149 b137.lt
    have b151 := b138.below hb149 b138.lt
    have b152 := b139.below hb149 b139.lt
    have b153 := b140.below hb149 b140.lt
    have b154 := b141.below hb149 b141.lt
    have o155 := o142.below hb149
    have i156 := i131.below hb149
    have c157 := c143.trans (hb149.mono c143.size)
    clear b137 b138 b139 b140 b141 o142 i131 c143 hb149 hd133
    go_upto_region 14 with (first | (refine wpList_store_blk rfl _ _ _ rfl w130.heap.size rfl _ _ #[Value.int .i64 ((r145.code : Nat) : Int), Value.int .i64 r145.srv.st.rev] t147 rfl rep_size rfl (one_rep _ _) ?_) | (refine wpList_store_blk rfl _ _ _ rfl (w130.heap.size + 1) rfl _ _ #[Value.int .i64 (toldD r145).frm, Value.int .i64 (toldD r145).upto, Value.slice x134a (toldD r145).jobs.length y134a, Value.slice x134b (toldD r145).nodes.length y134b, Value.slice x134c (toldD r145).leases.length y134c, Value.slice x134d (toldD r145).gj.length y134d, Value.slice x134e (toldD r145).gn.length y134e, Value.slice x134f (toldD r145).gl.length y134f] t148 rfl delta_size rfl (one_d8 _ _ _ _ _ _ _ _ _ _ _ _ _ _ _ _ _ _ _ _) ?_) )
    obtain ⟨b160, b161⟩ := G146
    clear t147 t148
    generalize (((w130.alloc _).alloc _).setRow _ _).setRow _ _ = W158 at *
    generalize w130.heap.size = k159 at *
    clear cl129
    have hkl : k < s0.jobs.length := (List.getElem?_eq_some_iff.1 J1.out).1
    have hkt : k < r39.srv.st.jobs.length := by rw [J3.out, List.length_set]; exact hkl
    obtain ⟨a0, ea0, _, _, hx0⟩ := (HM0.out.below c157).j.at_ (k := k) (r := rowJ j) (by rw [List.getElem?_map, J1.out]; rfl)
    obtain ⟨a1, ea1, _, _, hx1⟩ := o155.m.j.at_ (k := k) (r := rowJ (grantJ j)) (by rw [List.getElem?_map, J3.out, List.getElem?_set_self hkl]; rfl)
    subst ea0 ea1
    have hB_ : Below W158.heap.size W158 W158.drew := (Below.refl _ _).drew
    have b162 := b150.below hB_ b150.lt
    have b163 := b151.below hB_ b151.lt
    have b164 := b152.below hB_ b152.lt
    have b165 := b153.below hB_ b153.lt
    have b166 := b154.below hB_ b154.lt
    have b167 := b160.below hB_ b160.lt
    have o168 := o155.below hB_
    have i169 := i156.below hB_
    have c170 := c157.trans (hB_.mono c157.size)
    clear b150 b151 b152 b153 b154 b160 o155 i156 c157
    have t0 : W158.drew.cell? ⟨(a0.add (k * 5)).block, (a0.add (k * 5)).off + 3, none⟩ = some (.int .i64 j.tries) := hx0 3 _ rfl
    have t1 : W158.drew.cell? ⟨(a1.add (k * 5)).block, (a1.add (k * 5)).off + 3, none⟩ = some (.int .i64 (j.tries + 1)) := hx1 3 _ rfl
    have hk0 : (0 : Int) ≤ (k : Int) := by omega
    have hk1 : (k : Int) < (s0.jobs.length : Int) := by omega
    have hk2 : (k : Int) < (r39.srv.st.jobs.length : Int) := by omega
    have hge : decide ((0 : Int) ≤ (k : Int)) = true := decide_eq_true hk0
    have hwr : IntKind.i64.wrap (j.tries + 1) = j.tries + 1 := IntWalk.i64_in _ (by omega)
    have hwk : IntKind.i64.wrap (k : Int) = (k : Int) := IntWalk.i64_in _ (by have := F0.out.nj; omega)
    have HL := Lib.hid (fun (W : World) (hW : Below W158.drew.heap.size W158.drew W) => atL_any pl0 cl0 s0.leases x1.job W (((HM0.out.below c170).below (hW.mono c170.size)).more (Nat.le_trans c170.size hW.size)).l (Nat.le_trans HZ0.out.ll (by decide)))
    rw [G1_.out] at HL
    have HH := Lib.hid (fun (W : World) (hW : Below W158.drew.heap.size W158.drew W) => hasL_any x1 q55c d55c r39.srv.st.leases W (((o168.m.l).below hW).more hW.size) (Nat.le_trans OK38.out.1.nl (by decide)))
    rw [G2_.out] at HH
    have hg3 := G3_.out
    have hg5 := G5_.out
    generalize hc2 : r83.code = c2 at *
    generalize hc3 : r113.code = c3 at *
    generalize hc4 : r145.code = c4 at *
    clear hc2 hc3 hc4 G1_ G2_ G3_ G5_ J1 J3 hx0 hx1
    subst hg3
    rcases hg5 with hg5 | ⟨hg5, hg6⟩
    · subst hg5
      have z77 : (((7 : Nat) : Int) == 7) = true := rfl
      have z20 : (((2 : Nat) : Int) == 0) = false := rfl
      have z22 : (((2 : Nat) : Int) == 2) = true := rfl
      have z66 : (((6 : Nat) : Int) == 6) = true := rfl
      have G0 : Blk (W158.drew) w.heap.size 26 #[Value.int .i64 s0.rev, Value.slice (some a0) s0.jobs.length cj0, Value.slice pn0 s0.nodes.length cn0, Value.slice pl0 s0.leases.length cl0] ∧ Blk (W158.drew) (w.heap.size + 1) 38 #[Value.string x1.job, Value.string x1.node, Value.int .i64 x1.till] ∧ Blk (W158.drew) g69 26 #[Value.int .i64 r39.srv.st.rev, Value.slice (some a1) r39.srv.st.jobs.length d55a, Value.slice q55b r39.srv.st.nodes.length d55b, Value.slice q55c r39.srv.st.leases.length d55c] ∧ Blk (W158.drew) k95 42 #[Value.int .i64 ((7 : Nat) : Int), Value.int .i64 r83.srv.st.rev] ∧ Blk (W158.drew) k126 42 #[Value.int .i64 ((2 : Nat) : Int), Value.int .i64 r113.srv.st.rev] ∧ Blk (W158.drew) k159 42 #[Value.int .i64 ((c4 : Nat) : Int), Value.int .i64 r145.srv.st.rev] ∧ (W158.drew).cell? ⟨(a0.add (k * 5)).block, (a0.add (k * 5)).off + 3, none⟩ = some (.int .i64 j.tries) ∧ (W158.drew).cell? ⟨(a1.add (k * 5)).block, (a1.add (k * 5)).off + 3, none⟩ = some (.int .i64 (j.tries + 1)) := ⟨b162, b163, b164, b165, b166, b167, t0, t1⟩
      refine wp_region_held_drew (S := fun W => Blk W w.heap.size 26 #[Value.int .i64 s0.rev, Value.slice (some a0) s0.jobs.length cj0, Value.slice pn0 s0.nodes.length cn0, Value.slice pl0 s0.leases.length cl0] ∧ Blk W (w.heap.size + 1) 38 #[Value.string x1.job, Value.string x1.node, Value.int .i64 x1.till] ∧ Blk W g69 26 #[Value.int .i64 r39.srv.st.rev, Value.slice (some a1) r39.srv.st.jobs.length d55a, Value.slice q55b r39.srv.st.nodes.length d55b, Value.slice q55c r39.srv.st.leases.length d55c] ∧ Blk W k95 42 #[Value.int .i64 ((7 : Nat) : Int), Value.int .i64 r83.srv.st.rev] ∧ Blk W k126 42 #[Value.int .i64 ((2 : Nat) : Int), Value.int .i64 r113.srv.st.rev] ∧ Blk W k159 42 #[Value.int .i64 ((c4 : Nat) : Int), Value.int .i64 r145.srv.st.rev] ∧ W.cell? ⟨(a0.add (k * 5)).block, (a0.add (k * 5)).off + 3, none⟩ = some (.int .i64 j.tries) ∧ W.cell? ⟨(a1.add (k * 5)).block, (a1.add (k * 5)).off + 3, none⟩ = some (.int .i64 (j.tries + 1))) (by kernel_rfl) G0 (fun hHeld => ?_)
      refine tk 0 (v := ?_) rfl (Or.inl ⟨by rfl, ?_⟩) ?_
      rotate_left
      · (intro w5 hw5; (try dsimp only at hw5); go_simp; (try with_reducible rfl))
      (try simp only [Act.put, ma, mb, mc, md, me, mf])
      refine tk 1 (v := ?_) rfl (Or.inl ⟨by rfl, ?_⟩) ?_
      rotate_left
      · (intro w5 hw5; (try dsimp only at hw5); go_simp; (try with_reducible rfl))
      (try simp only [Act.put, ma, mb, mc, md, me, mf])
      refine tk 2 (v := ?_) rfl (Or.inl ⟨by rfl, ?_⟩) ?_
      rotate_left
      · (intro w5 hw5; (try dsimp only at hw5); go_simp; (try with_reducible rfl))
      (try simp only [Act.put, ma, mb, mc, md, me, mf])
      refine tk 3 (v := ?_) rfl (Or.inl ⟨by rfl, ?_⟩) ?_
      rotate_left
      · (intro w5 hw5; (try dsimp only at hw5); go_simp; (try with_reducible rfl))
      (try simp only [Act.put, ma, mb, mc, md, me, mf])
      refine tk 4 (v := ?_) rfl (Or.inl ⟨by rfl, ?_⟩) ?_
      rotate_left
      · (intro w5 hw5; (try dsimp only at hw5); obtain ⟨hs_, hl_, ht_, hb_, hc_, hd_, t0_, t1_⟩ := hw5; have fhs3_ := hs_.cell 3; go_simp; (try with_reducible rfl))
      (try simp only [Act.put, ma, mb, mc, md, me, mf])
      refine tk 5 (v := ?_) rfl (Or.inl ⟨by rfl, ?_⟩) ?_
      rotate_left
      · (intro w5 hw5; (try dsimp only at hw5); go_simp; (try with_reducible rfl))
      (try simp only [Act.put, ma, mb, mc, md, me, mf])
      refine tk 6 (v := ?_) rfl (Or.inl ⟨by rfl, ?_⟩) ?_
      rotate_left
      · (intro w5 hw5; (try dsimp only at hw5); obtain ⟨hs_, hl_, ht_, hb_, hc_, hd_, t0_, t1_⟩ := hw5; have fhl0_ := hl_.cell 0; go_simp; (try with_reducible rfl))
      (try simp only [Act.put, ma, mb, mc, md, me, mf])
      refine wpAnyH_ready (rs := [7]) (by kernel_rfl) (by simp) ?_
      refine AllReadyH.cons rfl (fun K hK => ?_) AllReadyH.nil
      go_simp
      refine (HL.out _ (Below.refl _ _)).mono ?_
      rintro e u1 ⟨rfl, hb1⟩
      have G1 : Blk (u1) w.heap.size 26 #[Value.int .i64 s0.rev, Value.slice (some a0) s0.jobs.length cj0, Value.slice pn0 s0.nodes.length cn0, Value.slice pl0 s0.leases.length cl0] ∧ Blk (u1) (w.heap.size + 1) 38 #[Value.string x1.job, Value.string x1.node, Value.int .i64 x1.till] ∧ Blk (u1) g69 26 #[Value.int .i64 r39.srv.st.rev, Value.slice (some a1) r39.srv.st.jobs.length d55a, Value.slice q55b r39.srv.st.nodes.length d55b, Value.slice q55c r39.srv.st.leases.length d55c] ∧ Blk (u1) k95 42 #[Value.int .i64 ((7 : Nat) : Int), Value.int .i64 r83.srv.st.rev] ∧ Blk (u1) k126 42 #[Value.int .i64 ((2 : Nat) : Int), Value.int .i64 r113.srv.st.rev] ∧ Blk (u1) k159 42 #[Value.int .i64 ((c4 : Nat) : Int), Value.int .i64 r145.srv.st.rev] ∧ (u1).cell? ⟨(a0.add (k * 5)).block, (a0.add (k * 5)).off + 3, none⟩ = some (.int .i64 j.tries) ∧ (u1).cell? ⟨(a1.add (k * 5)).block, (a1.add (k * 5)).off + 3, none⟩ = some (.int .i64 (j.tries + 1)) := ⟨G0.1.below hb1 G0.1.lt, G0.2.1.below hb1 G0.2.1.lt, G0.2.2.1.below hb1 G0.2.2.1.lt, G0.2.2.2.1.below hb1 G0.2.2.2.1.lt, G0.2.2.2.2.1.below hb1 G0.2.2.2.2.1.lt, G0.2.2.2.2.2.1.below hb1 G0.2.2.2.2.2.1.lt, (hb1.cell (World.block_lt_of_cell? _ _ G0.2.2.2.2.2.2.1)).trans G0.2.2.2.2.2.2.1, (hb1.cell (World.block_lt_of_cell? _ _ G0.2.2.2.2.2.2.2)).trans G0.2.2.2.2.2.2.2⟩
      refine hK.out _ _ ?_ (fun hHeld => ?_)
      · exact G1
      clear hK K
      (try simp only [Act.put, ma, mb, mc, md, me, mf])
      refine tk 8 (v := ?_) rfl (Or.inl ⟨by rfl, ?_⟩) ?_
      rotate_left
      · (intro w5 hw5; (try dsimp only at hw5); go_simp; (try with_reducible rfl))
      (try simp only [Act.put, ma, mb, mc, md, me, mf])
      refine tk 9 (v := ?_) rfl (Or.inl ⟨by rfl, ?_⟩) ?_
      rotate_left
      · (intro w5 hw5; (try dsimp only at hw5); go_simp; (try with_reducible rfl))
      (try simp only [Act.put, ma, mb, mc, md, me, mf])
      refine tk 10 (v := ?_) rfl (Or.inl ⟨by rfl, ?_⟩) ?_
      rotate_left
      · (intro w5 hw5; (try dsimp only at hw5); go_simp; (try with_reducible rfl))
      (try simp only [Act.put, ma, mb, mc, md, me, mf])
      refine tk 11 (v := ?_) rfl (Or.inl ⟨by rfl, ?_⟩) ?_
      rotate_left
      · (intro w5 hw5; (try dsimp only at hw5); go_simp; (try with_reducible rfl))
      (try simp only [Act.put, ma, mb, mc, md, me, mf])
      refine tk 12 (v := ?_) rfl (Or.inl ⟨by rfl, ?_⟩) ?_
      rotate_left
      · (intro w5 hw5; (try dsimp only at hw5); obtain ⟨hs_, hl_, ht_, hb_, hc_, hd_, t0_, t1_⟩ := hw5; have fht3_ := ht_.cell 3; go_simp; (try with_reducible rfl))
      (try simp only [Act.put, ma, mb, mc, md, me, mf])
      refine tk 13 (v := ?_) rfl (Or.inl ⟨by rfl, ?_⟩) ?_
      rotate_left
      · (intro w5 hw5; (try dsimp only at hw5); obtain ⟨hs_, hl_, ht_, hb_, hc_, hd_, t0_, t1_⟩ := hw5; have fhl0_ := hl_.cell 0; have fhl1_ := hl_.cell 1; have fhl2_ := hl_.cell 2; go_simp; (try with_reducible rfl))
      (try simp only [Act.put, ma, mb, mc, md, me, mf])
      refine wpAnyH_ready (rs := [14]) (by kernel_rfl) (by simp) ?_
      refine AllReadyH.cons rfl (fun K hK => ?_) AllReadyH.nil
      go_simp
      refine (HH.out _ hb1).mono ?_
      rintro e u2 ⟨rfl, hb2⟩
      have G2 : Blk (u2) w.heap.size 26 #[Value.int .i64 s0.rev, Value.slice (some a0) s0.jobs.length cj0, Value.slice pn0 s0.nodes.length cn0, Value.slice pl0 s0.leases.length cl0] ∧ Blk (u2) (w.heap.size + 1) 38 #[Value.string x1.job, Value.string x1.node, Value.int .i64 x1.till] ∧ Blk (u2) g69 26 #[Value.int .i64 r39.srv.st.rev, Value.slice (some a1) r39.srv.st.jobs.length d55a, Value.slice q55b r39.srv.st.nodes.length d55b, Value.slice q55c r39.srv.st.leases.length d55c] ∧ Blk (u2) k95 42 #[Value.int .i64 ((7 : Nat) : Int), Value.int .i64 r83.srv.st.rev] ∧ Blk (u2) k126 42 #[Value.int .i64 ((2 : Nat) : Int), Value.int .i64 r113.srv.st.rev] ∧ Blk (u2) k159 42 #[Value.int .i64 ((c4 : Nat) : Int), Value.int .i64 r145.srv.st.rev] ∧ (u2).cell? ⟨(a0.add (k * 5)).block, (a0.add (k * 5)).off + 3, none⟩ = some (.int .i64 j.tries) ∧ (u2).cell? ⟨(a1.add (k * 5)).block, (a1.add (k * 5)).off + 3, none⟩ = some (.int .i64 (j.tries + 1)) := ⟨G1.1.below hb2 G1.1.lt, G1.2.1.below hb2 G1.2.1.lt, G1.2.2.1.below hb2 G1.2.2.1.lt, G1.2.2.2.1.below hb2 G1.2.2.2.1.lt, G1.2.2.2.2.1.below hb2 G1.2.2.2.2.1.lt, G1.2.2.2.2.2.1.below hb2 G1.2.2.2.2.2.1.lt, (hb2.cell (World.block_lt_of_cell? _ _ G1.2.2.2.2.2.2.1)).trans G1.2.2.2.2.2.2.1, (hb2.cell (World.block_lt_of_cell? _ _ G1.2.2.2.2.2.2.2)).trans G1.2.2.2.2.2.2.2⟩
      refine hK.out _ _ ?_ (fun hHeld => ?_)
      · exact G2
      clear hK K
      (try simp only [Act.put, ma, mb, mc, md, me, mf])
      refine tk 15 (v := ?_) rfl (Or.inl ⟨by rfl, ?_⟩) ?_
      rotate_left
      · (intro w5 hw5; (try dsimp only at hw5); go_simp; (try with_reducible rfl))
      (try simp only [Act.put, ma, mb, mc, md, me, mf])
      refine tk 16 (v := ?_) rfl (Or.inl ⟨by rfl, ?_⟩) ?_
      rotate_left
      · (intro w5 hw5; (try dsimp only at hw5); go_simp; (try with_reducible rfl))
      (try simp only [Act.put, ma, mb, mc, md, me, mf])
      refine tk 17 (v := ?_) rfl (Or.inl ⟨by rfl, ?_⟩) ?_
      rotate_left
      · (intro w5 hw5; (try dsimp only at hw5); go_simp; (try with_reducible rfl))
      (try simp only [Act.put, ma, mb, mc, md, me, mf])
      refine tk 18 (v := ?_) rfl (Or.inl ⟨by rfl, ?_⟩) ?_
      rotate_left
      · (intro w5 hw5; (try dsimp only at hw5); obtain ⟨hs_, hl_, ht_, hb_, hc_, hd_, t0_, t1_⟩ := hw5; have fht1_ := ht_.cell 1; go_simp; (try with_reducible rfl))
      (try simp only [Act.put, ma, mb, mc, md, me, mf])
      refine tk 19 (v := ?_) rfl (Or.inl ⟨by rfl, ?_⟩) ?_
      rotate_left
      · (intro w5 hw5; (try dsimp only at hw5); go_simp; (try with_reducible rfl))
      (try simp only [Act.put, ma, mb, mc, md, me, mf])
      refine tk 20 (v := ?_) rfl (Or.inl ⟨by rfl, ?_⟩) ?_
      rotate_left
      · (intro w5 hw5; (try dsimp only at hw5); go_simp; (try with_reducible rfl))
      (try simp only [Act.put, ma, mb, mc, md, me, mf])
      refine tk 21 (v := ?_) rfl (Or.inl ⟨by rfl, ?_⟩) ?_
      rotate_left
      · (intro w5 hw5; (try dsimp only at hw5); go_simp; (try with_reducible rfl))
      (try simp only [Act.put, ma, mb, mc, md, me, mf])
      refine tk 22 (v := ?_) rfl (Or.inl ⟨by rfl, ?_⟩) ?_
      rotate_left
      · (intro w5 hw5; (try dsimp only at hw5); obtain ⟨hs_, hl_, ht_, hb_, hc_, hd_, t0_, t1_⟩ := hw5; go_simp; (try with_reducible rfl))
      (try simp only [Act.put, ma, mb, mc, md, me, mf])
      refine tk 23 (v := ?_) rfl (Or.inl ⟨by rfl, ?_⟩) ?_
      rotate_left
      · (intro w5 hw5; (try dsimp only at hw5); go_simp; (try with_reducible rfl))
      (try simp only [Act.put, ma, mb, mc, md, me, mf])
      refine tk 24 (v := ?_) rfl (Or.inl ⟨by rfl, ?_⟩) ?_
      rotate_left
      · (intro w5 hw5; (try dsimp only at hw5); obtain ⟨hs_, hl_, ht_, hb_, hc_, hd_, t0_, t1_⟩ := hw5; have fhs1_ := hs_.cell 1; go_simp; (try with_reducible rfl))
      (try simp only [Act.put, ma, mb, mc, md, me, mf])
      refine tk 25 (v := ?_) rfl (Or.inl ⟨by rfl, ?_⟩) ?_
      rotate_left
      · (intro w5 hw5; (try dsimp only at hw5); go_simp; (try with_reducible rfl))
      (try simp only [Act.put, ma, mb, mc, md, me, mf])
      refine tk 26 (v := ?_) rfl (Or.inl ⟨by rfl, ?_⟩) ?_
      rotate_left
      · (intro w5 hw5; (try dsimp only at hw5); go_simp; (try with_reducible rfl))
      (try simp only [Act.put, ma, mb, mc, md, me, mf])
      refine tk 27 (v := ?_) rfl (Or.inl ⟨by rfl, ?_⟩) ?_
      rotate_left
      · (intro w5 hw5; (try dsimp only at hw5); go_simp; (try with_reducible rfl))
      (try simp only [Act.put, ma, mb, mc, md, me, mf])
      refine tk 28 (v := ?_) rfl (Or.inl ⟨by rfl, ?_⟩) ?_
      rotate_left
      · (intro w5 hw5; (try dsimp only at hw5); obtain ⟨hs_, hl_, ht_, hb_, hc_, hd_, t0_, t1_⟩ := hw5; go_simp; (try with_reducible rfl))
      (try simp only [Act.put, ma, mb, mc, md, me, mf])
      refine tk 29 (v := ?_) rfl (Or.inl ⟨by rfl, ?_⟩) ?_
      rotate_left
      · (intro w5 hw5; (try dsimp only at hw5); go_simp; (try with_reducible rfl))
      (try simp only [Act.put, ma, mb, mc, md, me, mf])
      refine tk 30 (v := ?_) rfl (Or.inl ⟨by rfl, ?_⟩) ?_
      rotate_left
      · (intro w5 hw5; (try dsimp only at hw5); go_simp; (try with_reducible rfl))
      (try simp only [Act.put, ma, mb, mc, md, me, mf])
      refine tk 31 (v := ?_) rfl (Or.inl ⟨by rfl, ?_⟩) ?_
      rotate_left
      · (intro w5 hw5; (try dsimp only at hw5); go_simp; (try with_reducible rfl))
      (try simp only [Act.put, ma, mb, mc, md, me, mf])
      refine tk 32 (v := ?_) rfl (Or.inl ⟨by rfl, ?_⟩) ?_
      rotate_left
      · (intro w5 hw5; (try dsimp only at hw5); go_simp; (try with_reducible rfl))
      (try simp only [Act.put, ma, mb, mc, md, me, mf])
      refine tk 33 (v := ?_) rfl (Or.inl ⟨by rfl, ?_⟩) ?_
      rotate_left
      · (intro w5 hw5; (try dsimp only at hw5); go_simp; (try with_reducible rfl))
      (try simp only [Act.put, ma, mb, mc, md, me, mf])
      refine tk 34 (v := ?_) rfl (Or.inl ⟨by rfl, ?_⟩) ?_
      rotate_left
      · (intro w5 hw5; (try dsimp only at hw5); obtain ⟨hs_, hl_, ht_, hb_, hc_, hd_, t0_, t1_⟩ := hw5; have fhb0_ := hb_.cell 0; go_simp; (try with_reducible rfl))
      (try simp only [Act.put, ma, mb, mc, md, me, mf])
      refine tk 35 (v := ?_) rfl (Or.inl ⟨by rfl, ?_⟩) ?_
      rotate_left
      · (intro w5 hw5; (try dsimp only at hw5); go_simp; (try with_reducible rfl))
      (try simp only [Act.put, ma, mb, mc, md, me, mf])
      refine tk 36 (v := ?_) rfl (Or.inl ⟨by rfl, ?_⟩) ?_
      rotate_left
      · (intro w5 hw5; (try dsimp only at hw5); go_simp; (try with_reducible rfl))
      (try simp only [Act.put, ma, mb, mc, md, me, mf])
      refine tk 37 (v := ?_) rfl (Or.inl ⟨by rfl, ?_⟩) ?_
      rotate_left
      · (intro w5 hw5; (try dsimp only at hw5); go_simp; (try with_reducible rfl))
      (try simp only [Act.put, ma, mb, mc, md, me, mf])
      refine tk 38 (v := ?_) rfl (Or.inl ⟨by rfl, ?_⟩) ?_
      rotate_left
      · (intro w5 hw5; (try dsimp only at hw5); go_simp; (try with_reducible rfl))
      (try simp only [Act.put, ma, mb, mc, md, me, mf])
      refine tk 39 (v := ?_) rfl (Or.inl ⟨by rfl, ?_⟩) ?_
      rotate_left
      · (intro w5 hw5; (try dsimp only at hw5); obtain ⟨hs_, hl_, ht_, hb_, hc_, hd_, t0_, t1_⟩ := hw5; have fhc0_ := hc_.cell 0; go_simp; (try with_reducible rfl))
      (try simp only [Act.put, ma, mb, mc, md, me, mf])
      refine tk 40 (v := ?_) rfl (Or.inl ⟨by rfl, ?_⟩) ?_
      rotate_left
      · (intro w5 hw5; (try dsimp only at hw5); go_simp; (try with_reducible rfl))
      (try simp only [Act.put, ma, mb, mc, md, me, mf])
      refine tk 41 (v := ?_) rfl (Or.inl ⟨by rfl, ?_⟩) ?_
      rotate_left
      · (intro w5 hw5; (try dsimp only at hw5); go_simp; (try with_reducible rfl))
      (try simp only [Act.put, ma, mb, mc, md, me, mf])
      refine tk 42 (v := undef) rfl (Or.inr ⟨by rfl, rfl⟩) ?_
      (try simp only [Act.put, ma, mb, mc, md, me, mf])
      refine tk 43 (v := undef) rfl (Or.inr ⟨by rfl, rfl⟩) ?_
      (try simp only [Act.put, ma, mb, mc, md, me, mf])
      refine tk 44 (v := undef) rfl (Or.inr ⟨by rfl, rfl⟩) ?_
      (try simp only [Act.put, ma, mb, mc, md, me, mf])
      refine tk 45 (v := ?_) rfl (Or.inl ⟨by rfl, ?_⟩) ?_
      rotate_left
      · (intro w5 hw5; (try dsimp only at hw5); go_simp; (try with_reducible rfl))
      (try simp only [Act.put, ma, mb, mc, md, me, mf])
      refine tk 46 (v := ?_) rfl (Or.inl ⟨by rfl, ?_⟩) ?_
      rotate_left
      · (intro w5 hw5; (try dsimp only at hw5); go_simp; (try with_reducible rfl))
      (try simp only [Act.put, ma, mb, mc, md, me, mf])
      refine tk 47 (v := ?_) rfl (Or.inl ⟨by rfl, ?_⟩) ?_
      rotate_left
      · (intro w5 hw5; (try dsimp only at hw5); go_simp; (try with_reducible rfl))
      (try simp only [Act.put, ma, mb, mc, md, me, mf])
      refine tk 48 (v := ?_) rfl (Or.inl ⟨by rfl, ?_⟩) ?_
      rotate_left
      · (intro w5 hw5; (try dsimp only at hw5); obtain ⟨hs_, hl_, ht_, hb_, hc_, hd_, t0_, t1_⟩ := hw5; have fhc0_ := hc_.cell 0; go_simp; (try with_reducible rfl))
      (try simp only [Act.put, ma, mb, mc, md, me, mf])
      refine tk 49 (v := ?_) rfl (Or.inl ⟨by rfl, ?_⟩) ?_
      rotate_left
      · (intro w5 hw5; (try dsimp only at hw5); go_simp; (try with_reducible rfl))
      (try simp only [Act.put, ma, mb, mc, md, me, mf])
      refine tk 50 (v := ?_) rfl (Or.inl ⟨by rfl, ?_⟩) ?_
      rotate_left
      · (intro w5 hw5; (try dsimp only at hw5); go_simp; (try with_reducible rfl))
      (try simp only [Act.put, ma, mb, mc, md, me, mf])
      refine tk 51 (v := ?_) rfl (Or.inl ⟨by rfl, ?_⟩) ?_
      rotate_left
      · (intro w5 hw5; (try dsimp only at hw5); go_simp; (try with_reducible rfl))
      (try simp only [Act.put, ma, mb, mc, md, me, mf])
      refine tk 52 (v := ?_) rfl (Or.inl ⟨by rfl, ?_⟩) ?_
      rotate_left
      · (intro w5 hw5; (try dsimp only at hw5); go_simp; (try with_reducible rfl))
      (try simp only [Act.put, ma, mb, mc, md, me, mf])
      refine wpAnyH_done (by kernel_rfl) ?_ _
      have cY := (c170.trans (hb1.mono c170.size)).trans (hb2.mono (c170.trans (hb1.mono c170.size)).size)
      go_wp2_with fail
      go_ret
      exact ⟨rfl, cY⟩
    · subst hg5 hg6
      have z77 : (((7 : Nat) : Int) == 7) = true := rfl
      have z20 : (((2 : Nat) : Int) == 0) = false := rfl
      have z22 : (((2 : Nat) : Int) == 2) = true := rfl
      have z66 : (((6 : Nat) : Int) == 6) = true := rfl
      have G0 : Blk (W158.drew) w.heap.size 26 #[Value.int .i64 s0.rev, Value.slice (some a0) s0.jobs.length cj0, Value.slice pn0 s0.nodes.length cn0, Value.slice pl0 s0.leases.length cl0] ∧ Blk (W158.drew) (w.heap.size + 1) 38 #[Value.string x1.job, Value.string x1.node, Value.int .i64 x1.till] ∧ Blk (W158.drew) g69 26 #[Value.int .i64 r39.srv.st.rev, Value.slice (some a1) r39.srv.st.jobs.length d55a, Value.slice q55b r39.srv.st.nodes.length d55b, Value.slice q55c r39.srv.st.leases.length d55c] ∧ Blk (W158.drew) k95 42 #[Value.int .i64 ((7 : Nat) : Int), Value.int .i64 r83.srv.st.rev] ∧ Blk (W158.drew) k126 42 #[Value.int .i64 ((0 : Nat) : Int), Value.int .i64 r113.srv.st.rev] ∧ Blk (W158.drew) k159 42 #[Value.int .i64 ((6 : Nat) : Int), Value.int .i64 r145.srv.st.rev] ∧ (W158.drew).cell? ⟨(a0.add (k * 5)).block, (a0.add (k * 5)).off + 3, none⟩ = some (.int .i64 j.tries) ∧ (W158.drew).cell? ⟨(a1.add (k * 5)).block, (a1.add (k * 5)).off + 3, none⟩ = some (.int .i64 (j.tries + 1)) := ⟨b162, b163, b164, b165, b166, b167, t0, t1⟩
      refine wp_region_held_drew (S := fun W => Blk W w.heap.size 26 #[Value.int .i64 s0.rev, Value.slice (some a0) s0.jobs.length cj0, Value.slice pn0 s0.nodes.length cn0, Value.slice pl0 s0.leases.length cl0] ∧ Blk W (w.heap.size + 1) 38 #[Value.string x1.job, Value.string x1.node, Value.int .i64 x1.till] ∧ Blk W g69 26 #[Value.int .i64 r39.srv.st.rev, Value.slice (some a1) r39.srv.st.jobs.length d55a, Value.slice q55b r39.srv.st.nodes.length d55b, Value.slice q55c r39.srv.st.leases.length d55c] ∧ Blk W k95 42 #[Value.int .i64 ((7 : Nat) : Int), Value.int .i64 r83.srv.st.rev] ∧ Blk W k126 42 #[Value.int .i64 ((0 : Nat) : Int), Value.int .i64 r113.srv.st.rev] ∧ Blk W k159 42 #[Value.int .i64 ((6 : Nat) : Int), Value.int .i64 r145.srv.st.rev] ∧ W.cell? ⟨(a0.add (k * 5)).block, (a0.add (k * 5)).off + 3, none⟩ = some (.int .i64 j.tries) ∧ W.cell? ⟨(a1.add (k * 5)).block, (a1.add (k * 5)).off + 3, none⟩ = some (.int .i64 (j.tries + 1))) (by kernel_rfl) G0 (fun hHeld => ?_)
      refine tk 0 (v := ?_) rfl (Or.inl ⟨by rfl, ?_⟩) ?_
      rotate_left
      · (intro w5 hw5; (try dsimp only at hw5); go_simp; (try with_reducible rfl))
      (try simp only [Act.put, ma, mb, mc, md, me, mf])
      refine tk 1 (v := ?_) rfl (Or.inl ⟨by rfl, ?_⟩) ?_
      rotate_left
      · (intro w5 hw5; (try dsimp only at hw5); go_simp; (try with_reducible rfl))
      (try simp only [Act.put, ma, mb, mc, md, me, mf])
      refine tk 2 (v := ?_) rfl (Or.inl ⟨by rfl, ?_⟩) ?_
      rotate_left
      · (intro w5 hw5; (try dsimp only at hw5); go_simp; (try with_reducible rfl))
      (try simp only [Act.put, ma, mb, mc, md, me, mf])
      refine tk 3 (v := ?_) rfl (Or.inl ⟨by rfl, ?_⟩) ?_
      rotate_left
      · (intro w5 hw5; (try dsimp only at hw5); go_simp; (try with_reducible rfl))
      (try simp only [Act.put, ma, mb, mc, md, me, mf])
      refine tk 4 (v := ?_) rfl (Or.inl ⟨by rfl, ?_⟩) ?_
      rotate_left
      · (intro w5 hw5; (try dsimp only at hw5); obtain ⟨hs_, hl_, ht_, hb_, hc_, hd_, t0_, t1_⟩ := hw5; have fhs3_ := hs_.cell 3; go_simp; (try with_reducible rfl))
      (try simp only [Act.put, ma, mb, mc, md, me, mf])
      refine tk 5 (v := ?_) rfl (Or.inl ⟨by rfl, ?_⟩) ?_
      rotate_left
      · (intro w5 hw5; (try dsimp only at hw5); go_simp; (try with_reducible rfl))
      (try simp only [Act.put, ma, mb, mc, md, me, mf])
      refine tk 6 (v := ?_) rfl (Or.inl ⟨by rfl, ?_⟩) ?_
      rotate_left
      · (intro w5 hw5; (try dsimp only at hw5); obtain ⟨hs_, hl_, ht_, hb_, hc_, hd_, t0_, t1_⟩ := hw5; have fhl0_ := hl_.cell 0; go_simp; (try with_reducible rfl))
      (try simp only [Act.put, ma, mb, mc, md, me, mf])
      refine wpAnyH_ready (rs := [7]) (by kernel_rfl) (by simp) ?_
      refine AllReadyH.cons rfl (fun K hK => ?_) AllReadyH.nil
      go_simp
      refine (HL.out _ (Below.refl _ _)).mono ?_
      rintro e u1 ⟨rfl, hb1⟩
      have G1 : Blk (u1) w.heap.size 26 #[Value.int .i64 s0.rev, Value.slice (some a0) s0.jobs.length cj0, Value.slice pn0 s0.nodes.length cn0, Value.slice pl0 s0.leases.length cl0] ∧ Blk (u1) (w.heap.size + 1) 38 #[Value.string x1.job, Value.string x1.node, Value.int .i64 x1.till] ∧ Blk (u1) g69 26 #[Value.int .i64 r39.srv.st.rev, Value.slice (some a1) r39.srv.st.jobs.length d55a, Value.slice q55b r39.srv.st.nodes.length d55b, Value.slice q55c r39.srv.st.leases.length d55c] ∧ Blk (u1) k95 42 #[Value.int .i64 ((7 : Nat) : Int), Value.int .i64 r83.srv.st.rev] ∧ Blk (u1) k126 42 #[Value.int .i64 ((0 : Nat) : Int), Value.int .i64 r113.srv.st.rev] ∧ Blk (u1) k159 42 #[Value.int .i64 ((6 : Nat) : Int), Value.int .i64 r145.srv.st.rev] ∧ (u1).cell? ⟨(a0.add (k * 5)).block, (a0.add (k * 5)).off + 3, none⟩ = some (.int .i64 j.tries) ∧ (u1).cell? ⟨(a1.add (k * 5)).block, (a1.add (k * 5)).off + 3, none⟩ = some (.int .i64 (j.tries + 1)) := ⟨G0.1.below hb1 G0.1.lt, G0.2.1.below hb1 G0.2.1.lt, G0.2.2.1.below hb1 G0.2.2.1.lt, G0.2.2.2.1.below hb1 G0.2.2.2.1.lt, G0.2.2.2.2.1.below hb1 G0.2.2.2.2.1.lt, G0.2.2.2.2.2.1.below hb1 G0.2.2.2.2.2.1.lt, (hb1.cell (World.block_lt_of_cell? _ _ G0.2.2.2.2.2.2.1)).trans G0.2.2.2.2.2.2.1, (hb1.cell (World.block_lt_of_cell? _ _ G0.2.2.2.2.2.2.2)).trans G0.2.2.2.2.2.2.2⟩
      refine hK.out _ _ ?_ (fun hHeld => ?_)
      · exact G1
      clear hK K
      (try simp only [Act.put, ma, mb, mc, md, me, mf])
      refine tk 8 (v := ?_) rfl (Or.inl ⟨by rfl, ?_⟩) ?_
      rotate_left
      · (intro w5 hw5; (try dsimp only at hw5); go_simp; (try with_reducible rfl))
      (try simp only [Act.put, ma, mb, mc, md, me, mf])
      refine tk 9 (v := ?_) rfl (Or.inl ⟨by rfl, ?_⟩) ?_
      rotate_left
      · (intro w5 hw5; (try dsimp only at hw5); go_simp; (try with_reducible rfl))
      (try simp only [Act.put, ma, mb, mc, md, me, mf])
      refine tk 10 (v := ?_) rfl (Or.inl ⟨by rfl, ?_⟩) ?_
      rotate_left
      · (intro w5 hw5; (try dsimp only at hw5); go_simp; (try with_reducible rfl))
      (try simp only [Act.put, ma, mb, mc, md, me, mf])
      refine tk 11 (v := ?_) rfl (Or.inl ⟨by rfl, ?_⟩) ?_
      rotate_left
      · (intro w5 hw5; (try dsimp only at hw5); go_simp; (try with_reducible rfl))
      (try simp only [Act.put, ma, mb, mc, md, me, mf])
      refine tk 12 (v := ?_) rfl (Or.inl ⟨by rfl, ?_⟩) ?_
      rotate_left
      · (intro w5 hw5; (try dsimp only at hw5); obtain ⟨hs_, hl_, ht_, hb_, hc_, hd_, t0_, t1_⟩ := hw5; have fht3_ := ht_.cell 3; go_simp; (try with_reducible rfl))
      (try simp only [Act.put, ma, mb, mc, md, me, mf])
      refine tk 13 (v := ?_) rfl (Or.inl ⟨by rfl, ?_⟩) ?_
      rotate_left
      · (intro w5 hw5; (try dsimp only at hw5); obtain ⟨hs_, hl_, ht_, hb_, hc_, hd_, t0_, t1_⟩ := hw5; have fhl0_ := hl_.cell 0; have fhl1_ := hl_.cell 1; have fhl2_ := hl_.cell 2; go_simp; (try with_reducible rfl))
      (try simp only [Act.put, ma, mb, mc, md, me, mf])
      refine wpAnyH_ready (rs := [14]) (by kernel_rfl) (by simp) ?_
      refine AllReadyH.cons rfl (fun K hK => ?_) AllReadyH.nil
      go_simp
      refine (HH.out _ hb1).mono ?_
      rintro e u2 ⟨rfl, hb2⟩
      have G2 : Blk (u2) w.heap.size 26 #[Value.int .i64 s0.rev, Value.slice (some a0) s0.jobs.length cj0, Value.slice pn0 s0.nodes.length cn0, Value.slice pl0 s0.leases.length cl0] ∧ Blk (u2) (w.heap.size + 1) 38 #[Value.string x1.job, Value.string x1.node, Value.int .i64 x1.till] ∧ Blk (u2) g69 26 #[Value.int .i64 r39.srv.st.rev, Value.slice (some a1) r39.srv.st.jobs.length d55a, Value.slice q55b r39.srv.st.nodes.length d55b, Value.slice q55c r39.srv.st.leases.length d55c] ∧ Blk (u2) k95 42 #[Value.int .i64 ((7 : Nat) : Int), Value.int .i64 r83.srv.st.rev] ∧ Blk (u2) k126 42 #[Value.int .i64 ((0 : Nat) : Int), Value.int .i64 r113.srv.st.rev] ∧ Blk (u2) k159 42 #[Value.int .i64 ((6 : Nat) : Int), Value.int .i64 r145.srv.st.rev] ∧ (u2).cell? ⟨(a0.add (k * 5)).block, (a0.add (k * 5)).off + 3, none⟩ = some (.int .i64 j.tries) ∧ (u2).cell? ⟨(a1.add (k * 5)).block, (a1.add (k * 5)).off + 3, none⟩ = some (.int .i64 (j.tries + 1)) := ⟨G1.1.below hb2 G1.1.lt, G1.2.1.below hb2 G1.2.1.lt, G1.2.2.1.below hb2 G1.2.2.1.lt, G1.2.2.2.1.below hb2 G1.2.2.2.1.lt, G1.2.2.2.2.1.below hb2 G1.2.2.2.2.1.lt, G1.2.2.2.2.2.1.below hb2 G1.2.2.2.2.2.1.lt, (hb2.cell (World.block_lt_of_cell? _ _ G1.2.2.2.2.2.2.1)).trans G1.2.2.2.2.2.2.1, (hb2.cell (World.block_lt_of_cell? _ _ G1.2.2.2.2.2.2.2)).trans G1.2.2.2.2.2.2.2⟩
      refine hK.out _ _ ?_ (fun hHeld => ?_)
      · exact G2
      clear hK K
      (try simp only [Act.put, ma, mb, mc, md, me, mf])
      refine tk 15 (v := ?_) rfl (Or.inl ⟨by rfl, ?_⟩) ?_
      rotate_left
      · (intro w5 hw5; (try dsimp only at hw5); go_simp; (try with_reducible rfl))
      (try simp only [Act.put, ma, mb, mc, md, me, mf])
      refine tk 16 (v := ?_) rfl (Or.inl ⟨by rfl, ?_⟩) ?_
      rotate_left
      · (intro w5 hw5; (try dsimp only at hw5); go_simp; (try with_reducible rfl))
      (try simp only [Act.put, ma, mb, mc, md, me, mf])
      refine tk 17 (v := ?_) rfl (Or.inl ⟨by rfl, ?_⟩) ?_
      rotate_left
      · (intro w5 hw5; (try dsimp only at hw5); go_simp; (try with_reducible rfl))
      (try simp only [Act.put, ma, mb, mc, md, me, mf])
      refine tk 18 (v := ?_) rfl (Or.inl ⟨by rfl, ?_⟩) ?_
      rotate_left
      · (intro w5 hw5; (try dsimp only at hw5); obtain ⟨hs_, hl_, ht_, hb_, hc_, hd_, t0_, t1_⟩ := hw5; have fht1_ := ht_.cell 1; go_simp; (try with_reducible rfl))
      (try simp only [Act.put, ma, mb, mc, md, me, mf])
      refine tk 19 (v := ?_) rfl (Or.inl ⟨by rfl, ?_⟩) ?_
      rotate_left
      · (intro w5 hw5; (try dsimp only at hw5); go_simp; (try with_reducible rfl))
      (try simp only [Act.put, ma, mb, mc, md, me, mf])
      refine tk 20 (v := ?_) rfl (Or.inl ⟨by rfl, ?_⟩) ?_
      rotate_left
      · (intro w5 hw5; (try dsimp only at hw5); go_simp; (try with_reducible rfl))
      (try simp only [Act.put, ma, mb, mc, md, me, mf])
      refine tk 21 (v := ?_) rfl (Or.inl ⟨by rfl, ?_⟩) ?_
      rotate_left
      · (intro w5 hw5; (try dsimp only at hw5); go_simp; (try with_reducible rfl))
      (try simp only [Act.put, ma, mb, mc, md, me, mf])
      refine tk 22 (v := ?_) rfl (Or.inl ⟨by rfl, ?_⟩) ?_
      rotate_left
      · (intro w5 hw5; (try dsimp only at hw5); obtain ⟨hs_, hl_, ht_, hb_, hc_, hd_, t0_, t1_⟩ := hw5; go_simp; (try with_reducible rfl))
      (try simp only [Act.put, ma, mb, mc, md, me, mf])
      refine tk 23 (v := ?_) rfl (Or.inl ⟨by rfl, ?_⟩) ?_
      rotate_left
      · (intro w5 hw5; (try dsimp only at hw5); go_simp; (try with_reducible rfl))
      (try simp only [Act.put, ma, mb, mc, md, me, mf])
      refine tk 24 (v := ?_) rfl (Or.inl ⟨by rfl, ?_⟩) ?_
      rotate_left
      · (intro w5 hw5; (try dsimp only at hw5); obtain ⟨hs_, hl_, ht_, hb_, hc_, hd_, t0_, t1_⟩ := hw5; have fhs1_ := hs_.cell 1; go_simp; (try with_reducible rfl))
      (try simp only [Act.put, ma, mb, mc, md, me, mf])
      refine tk 25 (v := ?_) rfl (Or.inl ⟨by rfl, ?_⟩) ?_
      rotate_left
      · (intro w5 hw5; (try dsimp only at hw5); go_simp; (try with_reducible rfl))
      (try simp only [Act.put, ma, mb, mc, md, me, mf])
      refine tk 26 (v := ?_) rfl (Or.inl ⟨by rfl, ?_⟩) ?_
      rotate_left
      · (intro w5 hw5; (try dsimp only at hw5); go_simp; (try with_reducible rfl))
      (try simp only [Act.put, ma, mb, mc, md, me, mf])
      refine tk 27 (v := ?_) rfl (Or.inl ⟨by rfl, ?_⟩) ?_
      rotate_left
      · (intro w5 hw5; (try dsimp only at hw5); go_simp; (try with_reducible rfl))
      (try simp only [Act.put, ma, mb, mc, md, me, mf])
      refine tk 28 (v := ?_) rfl (Or.inl ⟨by rfl, ?_⟩) ?_
      rotate_left
      · (intro w5 hw5; (try dsimp only at hw5); obtain ⟨hs_, hl_, ht_, hb_, hc_, hd_, t0_, t1_⟩ := hw5; go_simp; (try with_reducible rfl))
      (try simp only [Act.put, ma, mb, mc, md, me, mf])
      refine tk 29 (v := ?_) rfl (Or.inl ⟨by rfl, ?_⟩) ?_
      rotate_left
      · (intro w5 hw5; (try dsimp only at hw5); go_simp; (try with_reducible rfl))
      (try simp only [Act.put, ma, mb, mc, md, me, mf])
      refine tk 30 (v := ?_) rfl (Or.inl ⟨by rfl, ?_⟩) ?_
      rotate_left
      · (intro w5 hw5; (try dsimp only at hw5); go_simp; (try with_reducible rfl))
      (try simp only [Act.put, ma, mb, mc, md, me, mf])
      refine tk 31 (v := ?_) rfl (Or.inl ⟨by rfl, ?_⟩) ?_
      rotate_left
      · (intro w5 hw5; (try dsimp only at hw5); go_simp; (try with_reducible rfl))
      (try simp only [Act.put, ma, mb, mc, md, me, mf])
      refine tk 32 (v := ?_) rfl (Or.inl ⟨by rfl, ?_⟩) ?_
      rotate_left
      · (intro w5 hw5; (try dsimp only at hw5); go_simp; (try with_reducible rfl))
      (try simp only [Act.put, ma, mb, mc, md, me, mf])
      refine tk 33 (v := ?_) rfl (Or.inl ⟨by rfl, ?_⟩) ?_
      rotate_left
      · (intro w5 hw5; (try dsimp only at hw5); go_simp; (try with_reducible rfl))
      (try simp only [Act.put, ma, mb, mc, md, me, mf])
      refine tk 34 (v := ?_) rfl (Or.inl ⟨by rfl, ?_⟩) ?_
      rotate_left
      · (intro w5 hw5; (try dsimp only at hw5); obtain ⟨hs_, hl_, ht_, hb_, hc_, hd_, t0_, t1_⟩ := hw5; have fhb0_ := hb_.cell 0; go_simp; (try with_reducible rfl))
      (try simp only [Act.put, ma, mb, mc, md, me, mf])
      refine tk 35 (v := ?_) rfl (Or.inl ⟨by rfl, ?_⟩) ?_
      rotate_left
      · (intro w5 hw5; (try dsimp only at hw5); go_simp; (try with_reducible rfl))
      (try simp only [Act.put, ma, mb, mc, md, me, mf])
      refine tk 36 (v := ?_) rfl (Or.inl ⟨by rfl, ?_⟩) ?_
      rotate_left
      · (intro w5 hw5; (try dsimp only at hw5); go_simp; (try with_reducible rfl))
      (try simp only [Act.put, ma, mb, mc, md, me, mf])
      refine tk 37 (v := ?_) rfl (Or.inl ⟨by rfl, ?_⟩) ?_
      rotate_left
      · (intro w5 hw5; (try dsimp only at hw5); go_simp; (try with_reducible rfl))
      (try simp only [Act.put, ma, mb, mc, md, me, mf])
      refine tk 38 (v := ?_) rfl (Or.inl ⟨by rfl, ?_⟩) ?_
      rotate_left
      · (intro w5 hw5; (try dsimp only at hw5); go_simp; (try with_reducible rfl))
      (try simp only [Act.put, ma, mb, mc, md, me, mf])
      refine tk 39 (v := ?_) rfl (Or.inl ⟨by rfl, ?_⟩) ?_
      rotate_left
      · (intro w5 hw5; (try dsimp only at hw5); obtain ⟨hs_, hl_, ht_, hb_, hc_, hd_, t0_, t1_⟩ := hw5; have fhc0_ := hc_.cell 0; go_simp; (try with_reducible rfl))
      (try simp only [Act.put, ma, mb, mc, md, me, mf])
      refine tk 40 (v := ?_) rfl (Or.inl ⟨by rfl, ?_⟩) ?_
      rotate_left
      · (intro w5 hw5; (try dsimp only at hw5); go_simp; (try with_reducible rfl))
      (try simp only [Act.put, ma, mb, mc, md, me, mf])
      refine tk 41 (v := ?_) rfl (Or.inl ⟨by rfl, ?_⟩) ?_
      rotate_left
      · (intro w5 hw5; (try dsimp only at hw5); go_simp; (try with_reducible rfl))
      (try simp only [Act.put, ma, mb, mc, md, me, mf])
      refine tk 42 (v := ?_) rfl (Or.inl ⟨by rfl, ?_⟩) ?_
      rotate_left
      · (intro w5 hw5; (try dsimp only at hw5); go_simp; (try with_reducible rfl))
      (try simp only [Act.put, ma, mb, mc, md, me, mf])
      refine tk 43 (v := ?_) rfl (Or.inl ⟨by rfl, ?_⟩) ?_
      rotate_left
      · (intro w5 hw5; (try dsimp only at hw5); obtain ⟨hs_, hl_, ht_, hb_, hc_, hd_, t0_, t1_⟩ := hw5; have fhd0_ := hd_.cell 0; go_simp; (try with_reducible rfl))
      (try simp only [Act.put, ma, mb, mc, md, me, mf])
      refine tk 44 (v := ?_) rfl (Or.inl ⟨by rfl, ?_⟩) ?_
      rotate_left
      · (intro w5 hw5; (try dsimp only at hw5); go_simp; (try with_reducible rfl))
      (try simp only [Act.put, ma, mb, mc, md, me, mf])
      refine tk 45 (v := ?_) rfl (Or.inl ⟨by rfl, ?_⟩) ?_
      rotate_left
      · (intro w5 hw5; (try dsimp only at hw5); go_simp; (try with_reducible rfl))
      (try simp only [Act.put, ma, mb, mc, md, me, mf])
      refine tk 46 (v := ?_) rfl (Or.inl ⟨by rfl, ?_⟩) ?_
      rotate_left
      · (intro w5 hw5; (try dsimp only at hw5); go_simp; (try with_reducible rfl))
      (try simp only [Act.put, ma, mb, mc, md, me, mf])
      refine tk 47 (v := undef) rfl (Or.inr ⟨by rfl, rfl⟩) ?_
      (try simp only [Act.put, ma, mb, mc, md, me, mf])
      refine tk 48 (v := undef) rfl (Or.inr ⟨by rfl, rfl⟩) ?_
      (try simp only [Act.put, ma, mb, mc, md, me, mf])
      refine tk 49 (v := undef) rfl (Or.inr ⟨by rfl, rfl⟩) ?_
      (try simp only [Act.put, ma, mb, mc, md, me, mf])
      refine tk 50 (v := ?_) rfl (Or.inl ⟨by rfl, ?_⟩) ?_
      rotate_left
      · (intro w5 hw5; (try dsimp only at hw5); go_simp; (try with_reducible rfl))
      (try simp only [Act.put, ma, mb, mc, md, me, mf])
      refine tk 51 (v := ?_) rfl (Or.inl ⟨by rfl, ?_⟩) ?_
      rotate_left
      · (intro w5 hw5; (try dsimp only at hw5); go_simp; (try with_reducible rfl))
      (try simp only [Act.put, ma, mb, mc, md, me, mf])
      refine tk 52 (v := ?_) rfl (Or.inl ⟨by rfl, ?_⟩) ?_
      rotate_left
      · (intro w5 hw5; (try dsimp only at hw5); go_simp; (try with_reducible rfl))
      (try simp only [Act.put, ma, mb, mc, md, me, mf])
      refine wpAnyH_done (by kernel_rfl) ?_ _
      have cY := (c170.trans (hb1.mono c170.size)).trans (hb2.mono (c170.trans (hb1.mono c170.size)).size)
      go_wp2_with fail
      go_ret
      exact ⟨rfl, cY⟩
  · have HB := Lib.hid hE
    have hne : (((checkE s0 : Nat) : Int) != 0) = true := by rw [bne_iff_ne]; omega
    clear hE
    go_enter Tryz.func7, Tryz.ntmps7
    go_wp2_with fail
    generalize (w.alloc _).alloc _ = W4 at *
    refine (served_any _ (HT.out.below c3)).mono ?_
    rintro e w5 ⟨rfl, hb6⟩
    have b7 := b1.below hb6 b1.lt
    have b8 := b2.below hb6 b2.lt
    have c9 := c3.trans (hb6.mono c3.size)
    clear b1 b2 c3 hb6
    go_wp2_with (first | (refine wpList_load_blk_w (by rfl) _ _ rfl (w.heap.size) rfl _ _ b7 _ Tryz.underlying26 rfl state_size ?_) | (refine wpList_load_blk_w (by rfl) _ _ rfl ((w.heap.size + 1)) rfl _ #[Value.string x1.job, Value.string x1.node, Value.int .i64 x1.till] b8 _ Tryz.underlying38 rfl lease_size ?_))
    refine (svNew_bad s0 pj0 pn0 pl0 cj0 cn0 cl0 _ ((HM0.out.below c9).more c9.size) HZ0.out (HT.out.below c9) HB.out).mono ?_
    rintro e w10 ⟨rfl, hb11⟩
    have b12 := b7.below hb11 b7.lt
    have b13 := b8.below hb11 b8.lt
    have c14 := c9.trans (hb11.mono c9.size)
    clear b7 b8 c9 hb11
    go_wp2_with fail
    go_ret
    exact ⟨rfl, c14⟩
end Go.Proofs.YtffddjdfpggglaaGreatDoor.serveGrants
