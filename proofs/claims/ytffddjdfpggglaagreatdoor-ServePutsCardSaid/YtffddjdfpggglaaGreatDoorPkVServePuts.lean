/-
  Several texts in one: VServePuts.
-/
import Derived.Test.YtffddjdfpggglaaGreatDoorPkHeld
import Derived.Test.YtffddjdfpggglaaGreatDoorPkBase
import Derived.Test.YtffddjdfpggglaaGreatDoorPkSvLaw
import Derived.Test.YtffddjdfpggglaaGreatDoorPkSvPuts
import Derived.Test.YtffddjdfpggglaaGreatDoorPkDelA
set_option linter.unusedVariables false
set_option linter.unusedSimpArgs false
set_option maxHeartbeats 16000000
set_option maxRecDepth 100000
namespace Go.Proofs.YtffddjdfpggglaaGreatDoor.servePuts
open Go.ChangeShapes Go.WideShapes Go.ChangeAt Go.RowKit Go.Joins
open Go.ChangeMaps (open_string)
theorem walk (s0 : St) (pj0 pn0 pl0 : Option Addr) (cj0 cn0 cl0 : Nat) (w : World) (hm0 : StM w w.heap.size pj0 pn0 pl0 s0) (hk0 : StOk s0) (x1 : JobD) (hk1 : okJ x1) (hT : Tabs w) :
    Calls Tryz.prog 6 #[.agg #[Value.int .i64 s0.rev, Value.slice pj0 s0.jobs.length cj0, Value.slice pn0 s0.nodes.length cn0, Value.slice pl0 s0.leases.length cl0], .agg #[Value.string x1.name, Value.int .i64 x1.prio, Value.int .i64 x1.need, Value.int .i64 x1.tries, Value.string x1.tag]] w fun e w' => e = .returned (.bool true) ∧ Below w.heap.size w w' := by
  have b1 := ((Blk.new w 26 #[Value.int .i64 s0.rev, Value.slice pj0 s0.jobs.length cj0, Value.slice pn0 s0.nodes.length cn0, Value.slice pl0 s0.leases.length cl0]).alloc (.cells #[Value.string x1.name, Value.int .i64 x1.prio, Value.int .i64 x1.need, Value.int .i64 x1.tries, Value.string x1.tag] 34))
  have hz1 : (w.alloc (.cells #[Value.int .i64 s0.rev, Value.slice pj0 s0.jobs.length cj0, Value.slice pn0 s0.nodes.length cn0, Value.slice pl0 s0.leases.length cl0] 26)).heap.size = w.heap.size + 1 := by simp
  have b2 := (blk_new_at hz1 34 #[Value.string x1.name, Value.int .i64 x1.prio, Value.int .i64 x1.need, Value.int .i64 x1.tries, Value.string x1.tag])
  have c3 : Below w.heap.size w ((w.alloc (.cells #[Value.int .i64 s0.rev, Value.slice pj0 s0.jobs.length cj0, Value.slice pn0 s0.nodes.length cn0, Value.slice pl0 s0.leases.length cl0] 26)).alloc (.cells #[Value.string x1.name, Value.int .i64 x1.prio, Value.int .i64 x1.need, Value.int .i64 x1.tries, Value.string x1.tag] 34)) := (((Below.refl _ _).alloc (Nat.le_refl _) (.cells #[Value.int .i64 s0.rev, Value.slice pj0 s0.jobs.length cj0, Value.slice pn0 s0.nodes.length cn0, Value.slice pl0 s0.leases.length cl0] 26)).alloc (by simp) (.cells #[Value.string x1.name, Value.int .i64 x1.prio, Value.int .i64 x1.need, Value.int .i64 x1.tries, Value.string x1.tag] 34))
  clear hz1
  have HM0 := Lib.hid hm0
  have HZ0 := Lib.hid hk0.sz
  have H1 := Lib.hid (reqSz_put hk1)
  have H2 := Lib.hid (reqSz_del hk1.1.1)
  have HT := Lib.hid hT
  have hzr := zero_rep_lit
  have hzd := zero_delta_lit
  have hzs := zero_state_lit
  have hzq := zero_request_lit
  have hzj := zero_job_lit
  have hzl := zero_lease_lit
  have z0 : (((0 : Nat) : Int) != 0) = false := rfl
  have z1 : (((0 : Nat) : Int) == 0) = true := rfl
  clear hT hm0 hk0 hk1
  by_cases hE : checkE s0 = 0
  · have HE := Lib.hid hE
    have F0 := Lib.hid ((fine_iff s0).1 hE)
    clear hE
    go_enter Tryz.func6, Tryz.ntmps6
    go_wp2_with fail
    generalize (w.alloc _).alloc _ = W4 at *
    refine (served_any _ (HT.out.below c3)).mono ?_
    rintro e w5 ⟨rfl, hb6⟩
    have b7 := b1.below hb6 b1.lt
    have b8 := b2.below hb6 b2.lt
    have c9 := c3.trans (hb6.mono c3.size)
    clear b1 b2 c3 hb6
    go_wp2_with (first | (refine wpList_load_blk_w (by rfl) _ _ rfl (w.heap.size) rfl _ _ b7 _ Tryz.underlying26 rfl state_size ?_) | (refine wpList_load_blk_w (by rfl) _ _ rfl ((w.heap.size + 1)) rfl _ #[Value.string x1.name, Value.int .i64 x1.prio, Value.int .i64 x1.need, Value.int .i64 x1.tries, Value.string x1.tag] b8 _ Tryz.underlying34 rfl job_size ?_))
    have OK16 := Lib.hid (show SrvOk ⟨s0, 0⟩ from ⟨F0.out, Int.le_refl _, (by decide : (0 : Int) ≤ 1099511627776)⟩)
    refine (svNew_ok s0 pj0 pn0 pl0 cj0 cn0 cl0 _ ((HM0.out.below c9).more c9.size) HZ0.out (HT.out.below c9) HE.out).mono ?_
    rintro e w10 ⟨g12, rfl, hg13, i14, hb11⟩
    have ge15 : w.heap.size ≤ g12 := Nat.le_trans c9.size hg13
    clear hg13
    have b17 := b7.below hb11 b7.lt
    have b18 := b8.below hb11 b8.lt
    have c19 := c9.trans (hb11.mono c9.size)
    clear b7 b8 c9 hb11
    have HA1 := Lib.hid (fun h => put_has OK16.out (j := x1) h)
    have HA2 := Lib.hid (fun h => put_again OK16.out (j := x1) h)
    have HA3 := Lib.hid (fun h => put_del2 OK16.out (j := x1) h)
    have HA0 := Lib.hid (fun (h : (doR ⟨s0, 0⟩ (qPut x1)).code ≠ 0) => (doR_refused h).2)
    go_wp2_with (first | (refine wpList_load_blk_w (by rfl) _ _ rfl (w.heap.size) rfl _ _ b17 _ Tryz.underlying26 rfl state_size ?_) | (refine wpList_load_blk_w (by rfl) _ _ rfl ((w.heap.size + 1)) rfl _ #[Value.string x1.name, Value.int .i64 x1.prio, Value.int .i64 x1.need, Value.int .i64 x1.tries, Value.string x1.tag] b18 _ Tryz.underlying34 rfl job_size ?_))
    refine (svDo_any (qPut x1) (⟨s0, 0⟩ : Srv) g12 _ i14 OK16.out H1.out (HT.out.below c19)).mono ?_
    rintro e w20 ⟨x24a, x24b, x24c, x24d, x24e, x24f, y24a, y24b, y24c, y24d, y24e, y24f, rfl, i21, hg22, hd23⟩
    obtain ⟨cs25, hc26⟩ := i14.blk
    have b27 := blk_srv i14 hg22 b17 (by decide)
    have b28 := blk_srv i14 hg22 b18 (by decide)
    have c29 := below_grown c19 hg22 ge15 c19.size
    have OK30 := Lib.hid (doR_ok OK16.out (qPut x1)).1
    clear i14 c19 hg22 hc26 b17 b18
    generalize (doR (⟨s0, 0⟩ : Srv) (qPut x1)) = r31 at *
    have t33 := two_first (w := w20)
    have t34 := two_second (w := w20) #[Value.int .i64 ((r31.code : Nat) : Int), Value.int .i64 r31.srv.st.rev]
    obtain ⟨hb35, G32⟩ := two_blks (w := w20) (rc := #[Value.int .i64 ((r31.code : Nat) : Int), Value.int .i64 r31.srv.st.rev]) (dc := #[Value.int .i64 (toldD r31).frm, Value.int .i64 (toldD r31).upto, Value.slice x24a (toldD r31).jobs.length y24a, Value.slice x24b (toldD r31).nodes.length y24b, Value.slice x24c (toldD r31).leases.length y24c, Value.slice x24d (toldD r31).gj.length y24d, Value.slice x24e (toldD r31).gn.length y24e, Value.slice x24f (toldD r31).gl.length y24f])
    have b36 := b27.below hb35 b27.lt
    have b37 := b28.below hb35 b28.lt
    have i38 := i21.below hb35
    have c39 := c29.trans (hb35.mono c29.size)
    clear b27 b28 i21 c29 hb35 hd23
    go_upto_region 7 with (first | (refine wpList_store_blk rfl _ _ _ rfl w20.heap.size rfl _ _ #[Value.int .i64 ((r31.code : Nat) : Int), Value.int .i64 r31.srv.st.rev] t33 rfl rep_size rfl (one_rep _ _) ?_) | (refine wpList_store_blk rfl _ _ _ rfl (w20.heap.size + 1) rfl _ _ #[Value.int .i64 (toldD r31).frm, Value.int .i64 (toldD r31).upto, Value.slice x24a (toldD r31).jobs.length y24a, Value.slice x24b (toldD r31).nodes.length y24b, Value.slice x24c (toldD r31).leases.length y24c, Value.slice x24d (toldD r31).gj.length y24d, Value.slice x24e (toldD r31).gn.length y24e, Value.slice x24f (toldD r31).gl.length y24f] t34 rfl delta_size rfl (one_d8 _ _ _ _ _ _ _ _ _ _ _ _ _ _ _ _ _ _ _ _) ?_) )
    obtain ⟨b42, b43⟩ := G32
    clear t33 t34
    generalize (((w20.alloc _).alloc _).setRow _ _).setRow _ _ = W40 at *
    generalize w20.heap.size = k41 at *
    have cl44 : W40.cell? ⟨k41, 0, none⟩ = some (Value.int .i64 ((r31.code : Nat) : Int)) := b42.cell 0
    generalize hcd : r31.code = cd at *
    clear hcd
    by_cases hA : cd = 0
    rotate_left
    · have HEQ := Lib.hid (show r31.srv.st = s0 from by rw [HA0.out hA])
      have hne : (((cd : Nat) : Int) != 0) = true := by rw [bne_iff_ne]; omega
      clear hA HA0 HA1 HA2 HA3
      go_upto_region 8 with fail
      clear cl44
      have hB_ : Below W40.heap.size W40 W40.drew := (Below.refl _ _).drew
      have b45 := b36.below hB_ b36.lt
      have b46 := b37.below hB_ b37.lt
      have b47 := b42.below hB_ b42.lt
      have i48 := i38.below hB_
      have c49 := c39.trans (hB_.mono c39.size)
      clear b36 b37 b42 i38 c39 hB_
      refine wp_region_held_drew (S := fun W => Blk W w.heap.size 26 #[Value.int .i64 s0.rev, Value.slice pj0 s0.jobs.length cj0, Value.slice pn0 s0.nodes.length cn0, Value.slice pl0 s0.leases.length cl0]) (by kernel_rfl) b45 (fun hHeld => ?_)
      refine tk 0 (v := ?_) rfl (Or.inl ⟨by rfl, ?_⟩) ?_
      rotate_left
      · (intro w5 hw5; (try dsimp only at hw5); go_simp; (try with_reducible rfl))
      (try simp only [Act.put, ma, mb, mc, md, me, mf])
      refine tk 2 (v := ?_) rfl (Or.inl ⟨by rfl, ?_⟩) ?_
      rotate_left
      · (intro w5 hw5; (try dsimp only at hw5); have fhw50_ := hw5.cell 0; have fhw51_ := hw5.cell 1; have fhw52_ := hw5.cell 2; have fhw53_ := hw5.cell 3; go_simp; (try with_reducible rfl))
      (try simp only [Act.put, ma, mb, mc, md, me, mf])
      refine wpAnyH_ready (rs := [1]) (by kernel_rfl) (by simp) ?_
      refine AllReadyH.cons rfl (fun K hK => ?_) AllReadyH.nil
      go_simp
      refine (svState_any g12 r31.srv _ i48 OK30.out.1).mono ?_
      rintro e u1 ⟨qa, qb, qc, da, db, dc, rfl, hO1, hb1⟩
      have G1 := b45.below hb1 b45.lt
      refine hK.out _ _ ?_ (fun hHeld => ?_)
      · exact G1
      clear hK K
      (try simp only [Act.put, ma, mb, mc, md, me, mf])
      have cZ := c49.trans (hb1.mono c49.size)
      refine wpAnyH_ready (rs := [3]) (by kernel_rfl) (by simp) ?_
      refine AllReadyH.cons rfl (fun K hK => ?_) AllReadyH.nil
      go_simp
      have HR := same_any r31.srv.st s0 qa qb qc pj0 pn0 pl0 da db dc cj0 cn0 cl0 u1 hO1.m ((HM0.out.below cZ).more cZ.size) OK30.out.1.sz HZ0.out
      rw [decide_eq_true HEQ.out] at HR
      refine HR.mono ?_
      rintro e u2 ⟨rfl, hb2⟩
      have G2 := G1.below hb2 G1.lt
      have cY := cZ.trans (hb2.mono cZ.size)
      refine hK.out _ _ ?_ (fun hHeld => ?_)
      · exact G2
      clear hK K
      (try simp only [Act.put, ma, mb, mc, md, me, mf])
      refine tk 4 (v := ?_) rfl (Or.inl ⟨by rfl, ?_⟩) ?_
      rotate_left
      · (intro w5 hw5; (try dsimp only at hw5); go_simp; (try with_reducible rfl))
      (try simp only [Act.put, ma, mb, mc, md, me, mf])
      refine wpAnyH_done (by kernel_rfl) ?_ _
      go_wp2_with fail
      go_ret
      exact ⟨rfl, cY⟩
    subst hA
    have HB1 := Lib.hid (HA1.out rfl)
    have HB2 := Lib.hid (HA2.out rfl)
    have HB3 := Lib.hid (HA3.out rfl)
    clear HA0 HA1 HA2 HA3
    go_upto_region 9 with fail
    clear cl44
    have hB_ : Below W40.heap.size W40 W40.drew := (Below.refl _ _).drew
    have b45 := b36.below hB_ b36.lt
    have b46 := b37.below hB_ b37.lt
    have i47 := i38.below hB_
    have c48 := c39.trans (hB_.mono c39.size)
    clear b36 b37 i38 c39 hB_
    have G0 : Blk W40.drew (w.heap.size + 1) 34 #[Value.string x1.name, Value.int .i64 x1.prio, Value.int .i64 x1.need, Value.int .i64 x1.tries, Value.string x1.tag] ∧ Blk W40.drew w.heap.size 26 #[Value.int .i64 s0.rev, Value.slice pj0 s0.jobs.length cj0, Value.slice pn0 s0.nodes.length cn0, Value.slice pl0 s0.leases.length cl0] := ⟨b46, b45⟩
    refine wp_region_held_drew (S := fun W => Blk W (w.heap.size + 1) 34 #[Value.string x1.name, Value.int .i64 x1.prio, Value.int .i64 x1.need, Value.int .i64 x1.tries, Value.string x1.tag] ∧ Blk W w.heap.size 26 #[Value.int .i64 s0.rev, Value.slice pj0 s0.jobs.length cj0, Value.slice pn0 s0.nodes.length cn0, Value.slice pl0 s0.leases.length cl0]) (by kernel_rfl) G0 (fun hHeld => ?_)
    have hfj := field_jobs
    refine tk 0 (v := ?_) rfl (Or.inl ⟨by rfl, ?_⟩) ?_
    rotate_left
    · (intro w5 hw5; (try dsimp only at hw5); go_simp; (try with_reducible rfl))
    (try simp only [Act.put, ma, mb, mc, md, me, mf])
    refine tk 3 (v := ?_) rfl (Or.inl ⟨by rfl, ?_⟩) ?_
    rotate_left
    · (intro w5 hw5; (try dsimp only at hw5); obtain ⟨hj_, hs_⟩ := hw5; have fhj0_ := hj_.cell 0; have fhj1_ := hj_.cell 1; have fhj2_ := hj_.cell 2; have fhj3_ := hj_.cell 3; have fhj4_ := hj_.cell 4; go_simp; (try with_reducible rfl))
    (try simp only [Act.put, ma, mb, mc, md, me, mf])
    refine wpAnyH_ready (rs := [1]) (by kernel_rfl) (by simp) ?_
    refine AllReadyH.cons rfl (fun K hK => ?_) AllReadyH.nil
    go_simp
    refine (svState_any g12 r31.srv _ i47 OK30.out.1).mono ?_
    rintro e u1 ⟨qa, qb, qc, da, db, dc, rfl, hO1, hb1⟩
    have G1 : Blk u1 (w.heap.size + 1) 34 #[Value.string x1.name, Value.int .i64 x1.prio, Value.int .i64 x1.need, Value.int .i64 x1.tries, Value.string x1.tag] ∧ Blk u1 w.heap.size 26 #[Value.int .i64 s0.rev, Value.slice pj0 s0.jobs.length cj0, Value.slice pn0 s0.nodes.length cn0, Value.slice pl0 s0.leases.length cl0] := ⟨G0.1.below hb1 G0.1.lt, G0.2.below hb1 G0.2.lt⟩
    refine hK.out _ _ ?_ (fun hHeld => ?_)
    · exact G1
    clear hK K
    (try simp only [Act.put, ma, mb, mc, md, me, mf])
    refine tk 2 (v := ?_) rfl (Or.inl ⟨by rfl, ?_⟩) ?_
    rotate_left
    · (intro w5 hw5; (try dsimp only at hw5); go_simp; (try with_reducible rfl))
    (try simp only [Act.put, ma, mb, mc, md, me, mf])
    refine wpAnyH_ready (rs := [4]) (by kernel_rfl) (by simp) ?_
    refine AllReadyH.cons rfl (fun K hK => ?_) AllReadyH.nil
    go_simp
    have HR := hasJ_any x1 qa da r31.srv.st.jobs u1 hO1.m.j (Nat.le_trans OK30.out.1.nj (by decide))
    rw [HB1.out] at HR
    refine HR.mono ?_
    rintro e u2 ⟨rfl, hb2⟩
    have G2 : Blk u2 (w.heap.size + 1) 34 #[Value.string x1.name, Value.int .i64 x1.prio, Value.int .i64 x1.need, Value.int .i64 x1.tries, Value.string x1.tag] ∧ Blk u2 w.heap.size 26 #[Value.int .i64 s0.rev, Value.slice pj0 s0.jobs.length cj0, Value.slice pn0 s0.nodes.length cn0, Value.slice pl0 s0.leases.length cl0] := ⟨G1.1.below hb2 G1.1.lt, G1.2.below hb2 G1.2.lt⟩
    have cY := (c48.trans (hb1.mono c48.size)).trans (hb2.mono (c48.trans (hb1.mono c48.size)).size)
    have hI2 := (i47.below hb1).below hb2
    refine hK.out _ _ ?_ (fun hHeld => ?_)
    · exact G2
    clear hK K
    (try simp only [Act.put, ma, mb, mc, md, me, mf])
    refine tk 5 (v := ?_) rfl (Or.inl ⟨by rfl, ?_⟩) ?_
    rotate_left
    · (intro w5 hw5; (try dsimp only at hw5); go_simp; (try with_reducible rfl))
    (try simp only [Act.put, ma, mb, mc, md, me, mf])
    refine wpAnyH_done (by kernel_rfl) ?_ _
    obtain ⟨bj2, bs2⟩ := G2
    clear hHeld G0 G1 hb1 hb2 hO1 HB1 i47 c48 b46 b45
    go_wp2_with (first | (refine wpList_load_blk_w (by rfl) _ _ rfl (w.heap.size) rfl _ _ bs2 _ Tryz.underlying26 rfl state_size ?_) | (refine wpList_load_blk_w (by rfl) _ _ rfl ((w.heap.size + 1)) rfl _ #[Value.string x1.name, Value.int .i64 x1.prio, Value.int .i64 x1.need, Value.int .i64 x1.tries, Value.string x1.tag] bj2 _ Tryz.underlying34 rfl job_size ?_))
    refine (svDo_any (qPut x1) r31.srv g12 _ hI2 OK30.out H1.out (HT.out.below cY)).mono ?_
    rintro e w49 ⟨x53a, x53b, x53c, x53d, x53e, x53f, y53a, y53b, y53c, y53d, y53e, y53f, rfl, i50, hg51, hd52⟩
    obtain ⟨cs54, hc55⟩ := hI2.blk
    have b56 := blk_srv hI2 hg51 bs2 (by decide)
    have b57 := blk_srv hI2 hg51 bj2 (by decide)
    have c58 := below_grown cY hg51 ge15 cY.size
    have OK59 := Lib.hid (doR_ok OK30.out (qPut x1)).1
    clear hI2 cY hg51 hc55 bs2 bj2
    generalize (doR r31.srv (qPut x1)) = r60 at *
    have t62 := two_first (w := w49)
    have t63 := two_second (w := w49) #[Value.int .i64 ((r60.code : Nat) : Int), Value.int .i64 r60.srv.st.rev]
    obtain ⟨hb64, G61⟩ := two_blks (w := w49) (rc := #[Value.int .i64 ((r60.code : Nat) : Int), Value.int .i64 r60.srv.st.rev]) (dc := #[Value.int .i64 (toldD r60).frm, Value.int .i64 (toldD r60).upto, Value.slice x53a (toldD r60).jobs.length y53a, Value.slice x53b (toldD r60).nodes.length y53b, Value.slice x53c (toldD r60).leases.length y53c, Value.slice x53d (toldD r60).gj.length y53d, Value.slice x53e (toldD r60).gn.length y53e, Value.slice x53f (toldD r60).gl.length y53f])
    have b65 := b56.below hb64 b56.lt
    have b66 := b57.below hb64 b57.lt
    have i67 := i50.below hb64
    have c68 := c58.trans (hb64.mono c58.size)
    clear b56 b57 i50 c58 hb64 hd52
    go_upto_region 12 with (first | (refine wpList_store_blk rfl _ _ _ rfl w49.heap.size rfl _ _ #[Value.int .i64 ((r60.code : Nat) : Int), Value.int .i64 r60.srv.st.rev] t62 rfl rep_size rfl (one_rep _ _) ?_) | (refine wpList_store_blk rfl _ _ _ rfl (w49.heap.size + 1) rfl _ _ #[Value.int .i64 (toldD r60).frm, Value.int .i64 (toldD r60).upto, Value.slice x53a (toldD r60).jobs.length y53a, Value.slice x53b (toldD r60).nodes.length y53b, Value.slice x53c (toldD r60).leases.length y53c, Value.slice x53d (toldD r60).gj.length y53d, Value.slice x53e (toldD r60).gn.length y53e, Value.slice x53f (toldD r60).gl.length y53f] t63 rfl delta_size rfl (one_d8 _ _ _ _ _ _ _ _ _ _ _ _ _ _ _ _ _ _ _ _) ?_) )
    clear t62 t63 G61
    generalize (((w49.alloc _).alloc _).setRow _ _).setRow _ _ = W69 at *
    generalize w49.heap.size = k70 at *
    have cl71 : W69.cell? ⟨(w.heap.size + 1), 0, none⟩ = some (Value.string x1.name) := b66.cell 0
    have hf2 : r60.told.isSome = false := by rw [HB2.out.1]; rfl
    have e2 := HB2.out.2
    rw [← e2] at HB3
    clear HB2 e2
    go_wp2_with (first | (refine wpList_load_blk_w (by rfl) _ _ rfl (w.heap.size) rfl _ _ b65 _ Tryz.underlying26 rfl state_size ?_) | (refine wpList_load_blk_w (by rfl) _ _ rfl ((w.heap.size + 1)) rfl _ #[Value.string x1.name, Value.int .i64 x1.prio, Value.int .i64 x1.need, Value.int .i64 x1.tries, Value.string x1.tag] b66 _ Tryz.underlying34 rfl job_size ?_))
    refine (svDo_any (qDel x1.name) r60.srv g12 _ i67 OK59.out H2.out (HT.out.below c68)).mono ?_
    rintro e w72 ⟨x76a, x76b, x76c, x76d, x76e, x76f, y76a, y76b, y76c, y76d, y76e, y76f, rfl, i73, hg74, hd75⟩
    obtain ⟨cs77, hc78⟩ := i67.blk
    have b79 := blk_srv i67 hg74 b65 (by decide)
    have b80 := blk_srv i67 hg74 b66 (by decide)
    have c81 := below_grown c68 hg74 ge15 c68.size
    have OK82 := Lib.hid (doR_ok OK59.out (qDel x1.name)).1
    clear i67 c68 hg74 hc78 b65 b66
    generalize (doR r60.srv (qDel x1.name)) = r83 at *
    have t85 := two_first (w := w72)
    have t86 := two_second (w := w72) #[Value.int .i64 ((r83.code : Nat) : Int), Value.int .i64 r83.srv.st.rev]
    obtain ⟨hb87, G84⟩ := two_blks (w := w72) (rc := #[Value.int .i64 ((r83.code : Nat) : Int), Value.int .i64 r83.srv.st.rev]) (dc := #[Value.int .i64 (toldD r83).frm, Value.int .i64 (toldD r83).upto, Value.slice x76a (toldD r83).jobs.length y76a, Value.slice x76b (toldD r83).nodes.length y76b, Value.slice x76c (toldD r83).leases.length y76c, Value.slice x76d (toldD r83).gj.length y76d, Value.slice x76e (toldD r83).gn.length y76e, Value.slice x76f (toldD r83).gl.length y76f])
    have b88 := b79.below hb87 b79.lt
    have b89 := b80.below hb87 b80.lt
    have i90 := i73.below hb87
    have c91 := c81.trans (hb87.mono c81.size)
    clear b79 b80 i73 c81 hb87 hd75
    go_upto_region 13 with (first | (refine wpList_store_blk rfl _ _ _ rfl w72.heap.size rfl _ _ #[Value.int .i64 ((r83.code : Nat) : Int), Value.int .i64 r83.srv.st.rev] t85 rfl rep_size rfl (one_rep _ _) ?_) | (refine wpList_store_blk rfl _ _ _ rfl (w72.heap.size + 1) rfl _ _ #[Value.int .i64 (toldD r83).frm, Value.int .i64 (toldD r83).upto, Value.slice x76a (toldD r83).jobs.length y76a, Value.slice x76b (toldD r83).nodes.length y76b, Value.slice x76c (toldD r83).leases.length y76c, Value.slice x76d (toldD r83).gj.length y76d, Value.slice x76e (toldD r83).gn.length y76e, Value.slice x76f (toldD r83).gl.length y76f] t86 rfl delta_size rfl (one_d8 _ _ _ _ _ _ _ _ _ _ _ _ _ _ _ _ _ _ _ _) ?_) )
    obtain ⟨b94, b95⟩ := G84
    clear t85 t86
    generalize (((w72.alloc _).alloc _).setRow _ _).setRow _ _ = W92 at *
    generalize w72.heap.size = k93 at *
    clear cl71
    have cl96 : W92.cell? ⟨(w.heap.size + 1), 0, none⟩ = some (Value.string x1.name) := b89.cell 0
    go_wp2_with (first | (refine wpList_load_blk_w (by rfl) _ _ rfl (w.heap.size) rfl _ _ b88 _ Tryz.underlying26 rfl state_size ?_) | (refine wpList_load_blk_w (by rfl) _ _ rfl ((w.heap.size + 1)) rfl _ #[Value.string x1.name, Value.int .i64 x1.prio, Value.int .i64 x1.need, Value.int .i64 x1.tries, Value.string x1.tag] b89 _ Tryz.underlying34 rfl job_size ?_) | (refine wpList_load_blk_w (by rfl) _ _ rfl (k93) rfl _ _ b94 _ Tryz.underlying42 rfl rep_size ?_))
    refine (svDo_any (qDel x1.name) r83.srv g12 _ i90 OK82.out H2.out (HT.out.below c91)).mono ?_
    rintro e w97 ⟨x101a, x101b, x101c, x101d, x101e, x101f, y101a, y101b, y101c, y101d, y101e, y101f, rfl, i98, hg99, hd100⟩
    obtain ⟨cs102, hc103⟩ := i90.blk
    have b104 := blk_srv i90 hg99 b88 (by decide)
    have b105 := blk_srv i90 hg99 b89 (by decide)
    have b106 := blk_srv i90 hg99 b94 (by decide)
    have c107 := below_grown c91 hg99 ge15 c91.size
    have OK108 := Lib.hid (doR_ok OK82.out (qDel x1.name)).1
    clear i90 c91 hg99 hc103 b88 b89 b94
    generalize (doR r83.srv (qDel x1.name)) = r109 at *
    have t111 := two_first (w := w97)
    have t112 := two_second (w := w97) #[Value.int .i64 ((r109.code : Nat) : Int), Value.int .i64 r109.srv.st.rev]
    obtain ⟨hb113, G110⟩ := two_blks (w := w97) (rc := #[Value.int .i64 ((r109.code : Nat) : Int), Value.int .i64 r109.srv.st.rev]) (dc := #[Value.int .i64 (toldD r109).frm, Value.int .i64 (toldD r109).upto, Value.slice x101a (toldD r109).jobs.length y101a, Value.slice x101b (toldD r109).nodes.length y101b, Value.slice x101c (toldD r109).leases.length y101c, Value.slice x101d (toldD r109).gj.length y101d, Value.slice x101e (toldD r109).gn.length y101e, Value.slice x101f (toldD r109).gl.length y101f])
    have b114 := b104.below hb113 b104.lt
    have b115 := b105.below hb113 b105.lt
    have b116 := b106.below hb113 b106.lt
    have i117 := i98.below hb113
    have c118 := c107.trans (hb113.mono c107.size)
    clear b104 b105 b106 i98 c107 hb113 hd100
    go_upto_region 14 with (first | (refine wpList_store_blk rfl _ _ _ rfl w97.heap.size rfl _ _ #[Value.int .i64 ((r109.code : Nat) : Int), Value.int .i64 r109.srv.st.rev] t111 rfl rep_size rfl (one_rep _ _) ?_) | (refine wpList_store_blk rfl _ _ _ rfl (w97.heap.size + 1) rfl _ _ #[Value.int .i64 (toldD r109).frm, Value.int .i64 (toldD r109).upto, Value.slice x101a (toldD r109).jobs.length y101a, Value.slice x101b (toldD r109).nodes.length y101b, Value.slice x101c (toldD r109).leases.length y101c, Value.slice x101d (toldD r109).gj.length y101d, Value.slice x101e (toldD r109).gn.length y101e, Value.slice x101f (toldD r109).gl.length y101f] t112 rfl delta_size rfl (one_d8 _ _ _ _ _ _ _ _ _ _ _ _ _ _ _ _ _ _ _ _) ?_) )
    obtain ⟨b121, b122⟩ := G110
    clear t111 t112
    generalize (((w97.alloc _).alloc _).setRow _ _).setRow _ _ = W119 at *
    generalize w97.heap.size = k120 at *
    clear cl96
    go_wp2_with (first | (refine wpList_load_blk_w (by rfl) _ _ rfl (w.heap.size) rfl _ _ b114 _ Tryz.underlying26 rfl state_size ?_) | (refine wpList_load_blk_w (by rfl) _ _ rfl ((w.heap.size + 1)) rfl _ #[Value.string x1.name, Value.int .i64 x1.prio, Value.int .i64 x1.need, Value.int .i64 x1.tries, Value.string x1.tag] b115 _ Tryz.underlying34 rfl job_size ?_) | (refine wpList_load_blk_w (by rfl) _ _ rfl (k93) rfl _ _ b116 _ Tryz.underlying42 rfl rep_size ?_) | (refine wpList_load_blk_w (by rfl) _ _ rfl (k120) rfl _ _ b121 _ Tryz.underlying42 rfl rep_size ?_))
    refine (svState_any g12 r109.srv _ i117 OK108.out.1).mono ?_
    rintro e w123 ⟨q125a, q125b, q125c, d125a, d125b, d125c, rfl, o126, hb124⟩
    have b127 := b114.below hb124 b114.lt
    have b128 := b115.below hb124 b115.lt
    have b129 := b116.below hb124 b116.lt
    have b130 := b121.below hb124 b121.lt
    have i131 := i117.below hb124
    have c132 := c118.trans (hb124.mono c118.size)
    clear b114 b115 b116 b121 i117 c118 hb124
    have hb133 : Below w123.heap.size w123 (w123.alloc (.cells #[Value.int .i64 r109.srv.st.rev, Value.slice q125a r109.srv.st.jobs.length d125a, Value.slice q125b r109.srv.st.nodes.length d125b, Value.slice q125c r109.srv.st.leases.length d125c] 26)) := (Below.refl _ _).alloc (Nat.le_refl _) _
    have b134 := Blk.new w123 26 #[Value.int .i64 r109.srv.st.rev, Value.slice q125a r109.srv.st.jobs.length d125a, Value.slice q125b r109.srv.st.nodes.length d125b, Value.slice q125c r109.srv.st.leases.length d125c]
    have b135 := b127.below hb133 b127.lt
    have b136 := b128.below hb133 b128.lt
    have b137 := b129.below hb133 b129.lt
    have b138 := b130.below hb133 b130.lt
    have o139 := o126.below hb133
    have i140 := i131.below hb133
    have c141 := c132.trans (hb133.mono c132.size)
    clear b127 b128 b129 b130 o126 i131 c132 hb133
    go_upto_region 15 with (first | (refine wpList_store_new rfl _ _ _ rfl rfl 26 _ #[Value.int .i64 r109.srv.st.rev, Value.slice q125a r109.srv.st.jobs.length d125a, Value.slice q125b r109.srv.st.nodes.length d125b, Value.slice q125c r109.srv.st.leases.length d125c] rfl state_size rfl (one_st4 _ _ _ _ _ _ _ _ _ _) ?_) | (refine wpList_load_blk_w (by rfl) _ _ rfl (w.heap.size) rfl _ _ b135 _ Tryz.underlying26 rfl state_size ?_) | (refine wpList_load_blk_w (by rfl) _ _ rfl ((w.heap.size + 1)) rfl _ #[Value.string x1.name, Value.int .i64 x1.prio, Value.int .i64 x1.need, Value.int .i64 x1.tries, Value.string x1.tag] b136 _ Tryz.underlying34 rfl job_size ?_) | (refine wpList_load_blk_w (by rfl) _ _ rfl (k93) rfl _ _ b137 _ Tryz.underlying42 rfl rep_size ?_) | (refine wpList_load_blk_w (by rfl) _ _ rfl (k120) rfl _ _ b138 _ Tryz.underlying42 rfl rep_size ?_) | (refine wpList_load_blk_w (by rfl) _ _ rfl (w123.heap.size) rfl _ _ b134 _ Tryz.underlying26 rfl state_size ?_))
    generalize w123.alloc _ = W142 at *
    generalize w123.heap.size = g143 at *
    have cl144 : W142.cell? ⟨k93, 0, none⟩ = some (Value.int .i64 ((r83.code : Nat) : Int)) := b137.cell 0
    have cl145 : W142.cell? ⟨k120, 0, none⟩ = some (Value.int .i64 ((r109.code : Nat) : Int)) := b138.cell 0
    have cl146 : W142.cell? ⟨g143, 1, none⟩ = some (Value.slice q125a r109.srv.st.jobs.length d125a) := b134.cell 1
    have cl147 : W142.cell? ⟨g143, 3, none⟩ = some (Value.slice q125c r109.srv.st.leases.length d125c) := b134.cell 3
    have cl148 : W142.cell? ⟨(w.heap.size + 1), 0, none⟩ = some (Value.string x1.name) := b136.cell 0
    have HJ := Lib.hid (fun (W : World) (hW : Below W142.heap.size W142 W) => atJ_any q125a d125a r109.srv.st.jobs x1.name W ((o139.m.j.below hW).more hW.size) (Nat.le_trans OK108.out.1.nj (by decide)))
    have HL := Lib.hid (fun (W : World) (hW : Below W142.heap.size W142 W) => atL_any q125c d125c r109.srv.st.leases x1.name W ((o139.m.l.below hW).more hW.size) (Nat.le_trans OK108.out.1.nl (by decide)))
    have hB3 := HB3.out
    clear HB3
    generalize hc3 : r83.code = c3 at *
    generalize hc4 : r109.code = c4 at *
    clear hc3 hc4
    rcases hB3 with hB3 | ⟨h1, h2, h3, h4, h5⟩
    · subst hB3
      have z20 : (((2 : Nat) : Int) == 0) = false := rfl
      have z22 : (((2 : Nat) : Int) == 2) = true := rfl
      go_wp2_with fail
      go_ret
      exact ⟨rfl, c141⟩
    · subst h1 h3
      have z66 : (((6 : Nat) : Int) == 6) = true := rfl
      rw [h4] at HJ
      rw [h5] at HL
      clear h4 h5
      go_wp2_with (first | (refine wpList_load_blk_w (by rfl) _ _ rfl (w.heap.size) rfl _ _ b135 _ Tryz.underlying26 rfl state_size ?_) | (refine wpList_load_blk_w (by rfl) _ _ rfl ((w.heap.size + 1)) rfl _ #[Value.string x1.name, Value.int .i64 x1.prio, Value.int .i64 x1.need, Value.int .i64 x1.tries, Value.string x1.tag] b136 _ Tryz.underlying34 rfl job_size ?_) | (refine wpList_load_blk_w (by rfl) _ _ rfl (k93) rfl _ _ b137 _ Tryz.underlying42 rfl rep_size ?_) | (refine wpList_load_blk_w (by rfl) _ _ rfl (k120) rfl _ _ b138 _ Tryz.underlying42 rfl rep_size ?_) | (refine wpList_load_blk_w (by rfl) _ _ rfl (g143) rfl _ _ b134 _ Tryz.underlying26 rfl state_size ?_))
      refine (HJ.out _ (Below.refl _ _)).mono ?_
      rintro e u3 ⟨rfl, hb3⟩
      have bt3 := b134.below hb3 b134.lt
      have bj3 := b136.below hb3 b136.lt
      have c3 : u3.cell? ⟨g143, 3, none⟩ = some (Value.slice q125c r109.srv.st.leases.length d125c) := bt3.cell 3
      have cj3 : u3.cell? ⟨(w.heap.size + 1), 0, none⟩ = some (Value.string x1.name) := bj3.cell 0
      go_wp2_with fail
      refine (HL.out _ hb3).mono ?_
      rintro e u4 ⟨rfl, hb4⟩
      have cY2 := (c141.trans (hb3.mono c141.size)).trans (hb4.mono (c141.trans (hb3.mono c141.size)).size)
      go_wp2_with fail
      go_ret
      exact ⟨rfl, cY2⟩
  · have HB := Lib.hid hE
    have hne : (((checkE s0 : Nat) : Int) != 0) = true := by rw [bne_iff_ne]; omega
    clear hE
    go_enter Tryz.func6, Tryz.ntmps6
    go_wp2_with fail
    generalize (w.alloc _).alloc _ = W4 at *
    refine (served_any _ (HT.out.below c3)).mono ?_
    rintro e w5 ⟨rfl, hb6⟩
    have b7 := b1.below hb6 b1.lt
    have b8 := b2.below hb6 b2.lt
    have c9 := c3.trans (hb6.mono c3.size)
    clear b1 b2 c3 hb6
    go_wp2_with (first | (refine wpList_load_blk_w (by rfl) _ _ rfl (w.heap.size) rfl _ _ b7 _ Tryz.underlying26 rfl state_size ?_) | (refine wpList_load_blk_w (by rfl) _ _ rfl ((w.heap.size + 1)) rfl _ #[Value.string x1.name, Value.int .i64 x1.prio, Value.int .i64 x1.need, Value.int .i64 x1.tries, Value.string x1.tag] b8 _ Tryz.underlying34 rfl job_size ?_))
    refine (svNew_bad s0 pj0 pn0 pl0 cj0 cn0 cl0 _ ((HM0.out.below c9).more c9.size) HZ0.out (HT.out.below c9) HB.out).mono ?_
    rintro e w10 ⟨rfl, hb11⟩
    have b12 := b7.below hb11 b7.lt
    have b13 := b8.below hb11 b8.lt
    have c14 := c9.trans (hb11.mono c9.size)
    clear b7 b8 c9 hb11
    go_wp2_with fail
    go_ret
    exact ⟨rfl, c14⟩
end Go.Proofs.YtffddjdfpggglaaGreatDoor.servePuts
