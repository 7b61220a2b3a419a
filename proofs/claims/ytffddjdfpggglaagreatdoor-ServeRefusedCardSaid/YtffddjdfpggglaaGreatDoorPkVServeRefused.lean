/-
  Several texts in one: VServeRefused.
-/
import Derived.Test.YtffddjdfpggglaaGreatDoorPkHeld
import Derived.Test.YtffddjdfpggglaaGreatDoorPkBase
import Derived.Test.YtffddjdfpggglaaGreatDoorPkSvLaw
set_option linter.unusedVariables false
set_option linter.unusedSimpArgs false
set_option maxHeartbeats 16000000
set_option maxRecDepth 100000
namespace Go.Proofs.YtffddjdfpggglaaGreatDoor.serveRefused
open Go.ChangeShapes Go.WideShapes Go.ChangeAt Go.RowKit Go.Joins
open Go.ChangeMaps (open_string)
theorem walk (s0 : St) (pj0 pn0 pl0 : Option Addr) (cj0 cn0 cl0 : Nat) (w : World) (hm0 : StM w w.heap.size pj0 pn0 pl0 s0) (hk0 : StOk s0) (pq1 : Option Addr) (cq1 : Nat) (l1 : List ReqD) (hel1 : Elts w w.heap.size 14 pq1 (l1.map rowQ)) (hok1 : ∀ x ∈ l1, okQ x) (hl1 : l1.length ≤ 9223372036854775807) (hT : Tabs w) :
    Calls Tryz.prog 4 #[.agg #[Value.int .i64 s0.rev, Value.slice pj0 s0.jobs.length cj0, Value.slice pn0 s0.nodes.length cn0, Value.slice pl0 s0.leases.length cl0], .slice pq1 l1.length cq1] w fun e w' => e = .returned (.bool true) ∧ Below w.heap.size w w' := by
  have b1 := (Blk.new w 26 #[Value.int .i64 s0.rev, Value.slice pj0 s0.jobs.length cj0, Value.slice pn0 s0.nodes.length cn0, Value.slice pl0 s0.leases.length cl0])
  have c2 : Below w.heap.size w (w.alloc (.cells #[Value.int .i64 s0.rev, Value.slice pj0 s0.jobs.length cj0, Value.slice pn0 s0.nodes.length cn0, Value.slice pl0 s0.leases.length cl0] 26)) := ((Below.refl _ _).alloc (Nat.le_refl _) (.cells #[Value.int .i64 s0.rev, Value.slice pj0 s0.jobs.length cj0, Value.slice pn0 s0.nodes.length cn0, Value.slice pl0 s0.leases.length cl0] 26))
  have HM0 := Lib.hid hm0
  have HZ0 := Lib.hid hk0.sz
  have HEL := Lib.hid hel1
  have HOK := Lib.hid hok1
  have HT := Lib.hid hT
  have hzr := zero_rep_lit
  have hzd := zero_delta_lit
  have hzs := zero_state_lit
  have hzq := zero_request_lit
  have hzj := zero_job_lit
  have hzl := zero_lease_lit
  have z0 : (((0 : Nat) : Int) != 0) = false := rfl
  have z1 : (((0 : Nat) : Int) == 0) = true := rfl
  clear hT hm0 hk0 hel1 hok1
  by_cases hE : checkE s0 = 0
  · have HE := Lib.hid hE
    have F0 := Lib.hid ((fine_iff s0).1 hE)
    clear hE
    go_enter Tryz.func4, Tryz.ntmps4
    go_wp2_with fail
    generalize w.alloc _ = W3 at *
    refine (served_any _ (HT.out.below c2)).mono ?_
    rintro e w4 ⟨rfl, hb5⟩
    have b6 := b1.below hb5 b1.lt
    have c7 := c2.trans (hb5.mono c2.size)
    clear b1 c2 hb5
    go_wp2_with (first | (refine wpList_load_blk_w (by rfl) _ _ rfl (w.heap.size) rfl _ _ b6 _ Tryz.underlying26 rfl state_size ?_))
    have OK14 := Lib.hid (show SrvOk ⟨s0, 0⟩ from ⟨F0.out, Int.le_refl _, (by decide : (0 : Int) ≤ 1099511627776)⟩)
    refine (svNew_ok s0 pj0 pn0 pl0 cj0 cn0 cl0 _ ((HM0.out.below c7).more c7.size) HZ0.out (HT.out.below c7) HE.out).mono ?_
    rintro e w8 ⟨g10, rfl, hg11, i12, hb9⟩
    have ge13 : w.heap.size ≤ g10 := Nat.le_trans c7.size hg11
    clear hg11
    have b15 := b6.below hb9 b6.lt
    have c16 := c7.trans (hb9.mono c7.size)
    clear b6 c7 hb9
    go_wp2_with (first | (refine wpList_load_blk_w (by rfl) _ _ rfl (w.heap.size) rfl _ _ b15 _ Tryz.underlying26 rfl state_size ?_))
    go_loopw [31] (fun i wr => ∃ (k : Nat) (v : Srv), k ≤ l1.length ∧ i = .int .i64 k ∧ SvI wr g10 v ∧ Hid (SrvOk v) ∧ Below w.heap.size w wr) (fun i _ => l1.length - (intOf i).toNat)
    case atStart => exact ⟨0, ⟨s0, 0⟩, Nat.zero_le _, rfl, i12, OK14.out, c16⟩
    case round =>
      obtain ⟨k, v, hk, rfl, hI, OKv, cc⟩ := hrel
      clear i12 c16 b15
      by_cases hlt : k < l1.length
      · have hx : l1[k]? = some l1[k] := List.getElem?_eq_getElem hlt
        have hq := HOK.out l1[k] (List.getElem_mem hlt)
        generalize l1[k] = q at *
        obtain ⟨a, rfl, hab, _, hat⟩ := (HEL.out.below cc).at_ (k := k) (r := rowQ q) (by rw [List.getElem?_map, hx]; rfl)
        have HSq := Lib.hid (ReqSz.of hq)
        clear hx hq hab
        have hb17 : Below wr.heap.size wr (wr.alloc (.cells #[Value.int .i64 q.kind, Value.string q.job.name, Value.int .i64 q.job.prio, Value.int .i64 q.job.need, Value.int .i64 q.job.tries, Value.string q.job.tag, Value.string q.node.name, Value.int .i64 q.node.room, Value.string q.node.zone, Value.string q.lease.job, Value.string q.lease.node, Value.int .i64 q.lease.till, Value.string q.name, Value.int .i64 q.n] 40)) := (Below.refl _ _).alloc (Nat.le_refl _) _
        have b18 := Blk.new wr 40 #[Value.int .i64 q.kind, Value.string q.job.name, Value.int .i64 q.job.prio, Value.int .i64 q.job.need, Value.int .i64 q.job.tries, Value.string q.job.tag, Value.string q.node.name, Value.int .i64 q.node.room, Value.string q.node.zone, Value.string q.lease.job, Value.string q.lease.node, Value.int .i64 q.lease.till, Value.string q.name, Value.int .i64 q.n]
        have i19 := hI.below hb17
        have c20 := cc.trans (hb17.mono cc.size)
        clear hI cc hb17
        go_wp2_with (first | (refine wpList_store_new rfl _ _ _ rfl rfl 40 _ #[Value.int .i64 q.kind, Value.string q.job.name, Value.int .i64 q.job.prio, Value.int .i64 q.job.need, Value.int .i64 q.job.tries, Value.string q.job.tag, Value.string q.node.name, Value.int .i64 q.node.room, Value.string q.node.zone, Value.string q.lease.job, Value.string q.lease.node, Value.int .i64 q.lease.till, Value.string q.name, Value.int .i64 q.n] rfl request_size rfl (one_q q.kind q.job q.node q.lease q.name q.n) ?_) | (refine wpList_load_at rfl _ _ rfl (a.add (k * 14)) rfl [Value.int .i64 q.kind, Value.string q.job.name, Value.int .i64 q.job.prio, Value.int .i64 q.job.need, Value.int .i64 q.job.tries, Value.string q.job.tag, Value.string q.node.name, Value.int .i64 q.node.room, Value.string q.node.zone, Value.string q.lease.job, Value.string q.lease.node, Value.int .i64 q.lease.till, Value.string q.name, Value.int .i64 q.n] _ hat Tryz.underlying40 rfl request_size ?_) | (refine wpList_load_blk_w (by rfl) _ _ rfl (wr.heap.size) rfl _ _ b18 _ Tryz.underlying40 rfl request_size ?_))
        generalize wr.alloc _ = W21 at *
        generalize wr.heap.size = g22 at *
        refine (svState_any g10 v _ i19 OKv.out.1).mono ?_
        rintro e w23 ⟨q25a, q25b, q25c, d25a, d25b, d25c, rfl, o26, hb24⟩
        have b27 := b18.below hb24 b18.lt
        have i28 := i19.below hb24
        have c29 := c20.trans (hb24.mono c20.size)
        clear b18 i19 c20 hb24
        go_wp2_with (first | (refine wpList_load_blk_w (by rfl) _ _ rfl (g22) rfl _ _ b27 _ Tryz.underlying40 rfl request_size ?_))
        refine (svNow_any g10 v _ i28).mono ?_
        rintro e w30 ⟨rfl, rfl⟩
        have hb31 : Below w23.heap.size w23 (w23.alloc (.cells #[Value.int .i64 v.st.rev, Value.slice q25a v.st.jobs.length d25a, Value.slice q25b v.st.nodes.length d25b, Value.slice q25c v.st.leases.length d25c] 26)) := (Below.refl _ _).alloc (Nat.le_refl _) _
        have b32 := Blk.new w23 26 #[Value.int .i64 v.st.rev, Value.slice q25a v.st.jobs.length d25a, Value.slice q25b v.st.nodes.length d25b, Value.slice q25c v.st.leases.length d25c]
        have b33 := b27.below hb31 b27.lt
        have o34 := o26.below hb31
        have i35 := i28.below hb31
        have c36 := c29.trans (hb31.mono c29.size)
        clear b27 o26 i28 c29 hb31
        go_wp2_with (first | (refine wpList_store_new rfl _ _ _ rfl rfl 26 _ #[Value.int .i64 v.st.rev, Value.slice q25a v.st.jobs.length d25a, Value.slice q25b v.st.nodes.length d25b, Value.slice q25c v.st.leases.length d25c] rfl state_size rfl (one_st4 _ _ _ _ _ _ _ _ _ _) ?_) | (refine wpList_load_blk_w (by rfl) _ _ rfl (g22) rfl _ _ b33 _ Tryz.underlying40 rfl request_size ?_) | (refine wpList_load_blk_w (by rfl) _ _ rfl (w23.heap.size) rfl _ _ b32 _ Tryz.underlying26 rfl state_size ?_))
        generalize w23.alloc _ = W37 at *
        generalize w23.heap.size = g38 at *
        refine (svDo_any q v g10 _ i35 OKv.out HSq.out (HT.out.below c36)).mono ?_
        rintro e w39 ⟨x43a, x43b, x43c, x43d, x43e, x43f, y43a, y43b, y43c, y43d, y43e, y43f, rfl, i40, hg41, hd42⟩
        obtain ⟨cs44, hc45⟩ := i35.blk
        have b46 := blk_srv i35 hg41 b33 (by decide)
        have b47 := blk_srv i35 hg41 b32 (by decide)
        have o48 := o34.other hg41 hc45 (by decide) (by decide) (by decide)
        have c49 := below_grown c36 hg41 ge13 c36.size
        have OK50 := Lib.hid (doR_ok OKv.out q).1
        clear i35 c36 hg41 hc45 b33 b32 o34
        have HF := Lib.hid (show (doR v q).code ≠ 0 ∨ q.kind = 8 ∨ q.kind = 9 → (doR v q).told = none ∧ (doR v q).srv = v from fun h => h.elim doR_refused doR_asks)
        generalize (doR v q) = r51 at *
        have t53 := two_first (w := w39)
        have t54 := two_second (w := w39) #[Value.int .i64 ((r51.code : Nat) : Int), Value.int .i64 r51.srv.st.rev]
        obtain ⟨hb55, G52⟩ := two_blks (w := w39) (rc := #[Value.int .i64 ((r51.code : Nat) : Int), Value.int .i64 r51.srv.st.rev]) (dc := #[Value.int .i64 (toldD r51).frm, Value.int .i64 (toldD r51).upto, Value.slice x43a (toldD r51).jobs.length y43a, Value.slice x43b (toldD r51).nodes.length y43b, Value.slice x43c (toldD r51).leases.length y43c, Value.slice x43d (toldD r51).gj.length y43d, Value.slice x43e (toldD r51).gn.length y43e, Value.slice x43f (toldD r51).gl.length y43f])
        have b56 := b46.below hb55 b46.lt
        have b57 := b47.below hb55 b47.lt
        have o58 := o48.below hb55
        have i59 := i40.below hb55
        have c60 := c49.trans (hb55.mono c49.size)
        clear b46 b47 o48 i40 c49 hb55 hd42
        go_upto_region 11 with (first | (refine wpList_store_blk rfl _ _ _ rfl w39.heap.size rfl _ _ #[Value.int .i64 ((r51.code : Nat) : Int), Value.int .i64 r51.srv.st.rev] t53 rfl rep_size rfl (one_rep _ _) ?_) | (refine wpList_store_blk rfl _ _ _ rfl (w39.heap.size + 1) rfl _ _ #[Value.int .i64 (toldD r51).frm, Value.int .i64 (toldD r51).upto, Value.slice x43a (toldD r51).jobs.length y43a, Value.slice x43b (toldD r51).nodes.length y43b, Value.slice x43c (toldD r51).leases.length y43c, Value.slice x43d (toldD r51).gj.length y43d, Value.slice x43e (toldD r51).gn.length y43e, Value.slice x43f (toldD r51).gl.length y43f] t54 rfl delta_size rfl (one_d8 _ _ _ _ _ _ _ _ _ _ _ _ _ _ _ _ _ _ _ _) ?_) )
        obtain ⟨b63, b64⟩ := G52
        clear t53 t54
        generalize (((w39.alloc _).alloc _).setRow _ _).setRow _ _ = W61 at *
        generalize w39.heap.size = k62 at *
        generalize hcd : r51.code = cd at *
        clear hcd
        by_cases hA : cd = 0
        rotate_left
        · obtain ⟨t1, t2⟩ := HF.out (.inl hA)
          have hfl : r51.told.isSome = false := by rw [t1]; rfl
          have HEQ := Lib.hid (show v.st = r51.srv.st from by rw [t2])
          have hnw : (v.now != r51.srv.now) = false := by rw [t2]; simp
          clear t1 t2 HF
          have hne : (((cd : Nat) : Int) != 0) = true := by rw [bne_iff_ne]; omega
          clear hA
          have hB_ : Below W61.heap.size W61 W61.drew := (Below.refl _ _).drew
          have b65 := b56.below hB_ b56.lt
          have b66 := b57.below hB_ b57.lt
          have b67 := b63.below hB_ b63.lt
          have o68 := o58.below hB_
          have i69 := i59.below hB_
          have c70 := c60.trans (hB_.mono c60.size)
          clear b56 b57 b63 o58 i59 c60 hB_
          have G0 : Blk (W61.drew) k62 42 #[Value.int .i64 ((cd : Nat) : Int), Value.int .i64 r51.srv.st.rev] ∧ Blk (W61.drew) g22 40 #[Value.int .i64 q.kind, Value.string q.job.name, Value.int .i64 q.job.prio, Value.int .i64 q.job.need, Value.int .i64 q.job.tries, Value.string q.job.tag, Value.string q.node.name, Value.int .i64 q.node.room, Value.string q.node.zone, Value.string q.lease.job, Value.string q.lease.node, Value.int .i64 q.lease.till, Value.string q.name, Value.int .i64 q.n] ∧ Blk (W61.drew) g38 26 #[Value.int .i64 v.st.rev, Value.slice q25a v.st.jobs.length d25a, Value.slice q25b v.st.nodes.length d25b, Value.slice q25c v.st.leases.length d25c] := ⟨b67, b65, b66⟩
          refine wp_region_held_drew (S := fun W => Blk W k62 42 #[Value.int .i64 ((cd : Nat) : Int), Value.int .i64 r51.srv.st.rev] ∧ Blk W g22 40 #[Value.int .i64 q.kind, Value.string q.job.name, Value.int .i64 q.job.prio, Value.int .i64 q.job.need, Value.int .i64 q.job.tries, Value.string q.job.tag, Value.string q.node.name, Value.int .i64 q.node.room, Value.string q.node.zone, Value.string q.lease.job, Value.string q.lease.node, Value.int .i64 q.lease.till, Value.string q.name, Value.int .i64 q.n] ∧ Blk W g38 26 #[Value.int .i64 v.st.rev, Value.slice q25a v.st.jobs.length d25a, Value.slice q25b v.st.nodes.length d25b, Value.slice q25c v.st.leases.length d25c]) (by kernel_rfl) G0 (fun hHeld => ?_)
          refine tk 0 (v := ?_) rfl (Or.inl ⟨by rfl, ?_⟩) ?_
          rotate_left
          · (intro w5 hw5; (try dsimp only at hw5); go_simp; (try with_reducible rfl))
          (try simp only [Act.put, ma, mb, mc, md, me, mf])
          refine tk 1 (v := ?_) rfl (Or.inl ⟨by rfl, ?_⟩) ?_
          rotate_left
          · (intro w5 hw5; (try dsimp only at hw5); obtain ⟨hr_, hq_, ht_⟩ := hw5; have fhr0_ := hr_.cell 0; go_simp; (try with_reducible rfl))
          (try simp only [Act.put, ma, mb, mc, md, me, mf])
          refine tk 2 (v := ?_) rfl (Or.inl ⟨by rfl, ?_⟩) ?_
          rotate_left
          · (intro w5 hw5; (try dsimp only at hw5); go_simp; (try with_reducible rfl))
          (try simp only [Act.put, ma, mb, mc, md, me, mf])
          refine tk 3 (v := ?_) rfl (Or.inl ⟨by rfl, ?_⟩) ?_
          rotate_left
          · (intro w5 hw5; (try dsimp only at hw5); go_simp; (try with_reducible rfl))
          (try simp only [Act.put, ma, mb, mc, md, me, mf])
          refine tk 4 (v := undef) rfl (Or.inr ⟨by rfl, rfl⟩) ?_
          (try simp only [Act.put, ma, mb, mc, md, me, mf])
          refine tk 5 (v := undef) rfl (Or.inr ⟨by rfl, rfl⟩) ?_
          (try simp only [Act.put, ma, mb, mc, md, me, mf])
          refine tk 6 (v := undef) rfl (Or.inr ⟨by rfl, rfl⟩) ?_
          (try simp only [Act.put, ma, mb, mc, md, me, mf])
          refine tk 7 (v := ?_) rfl (Or.inl ⟨by rfl, ?_⟩) ?_
          rotate_left
          · (intro w5 hw5; (try dsimp only at hw5); go_simp; (try with_reducible rfl))
          (try simp only [Act.put, ma, mb, mc, md, me, mf])
          refine tk 8 (v := ?_) rfl (Or.inl ⟨by rfl, ?_⟩) ?_
          rotate_left
          · (intro w5 hw5; (try dsimp only at hw5); go_simp; (try with_reducible rfl))
          (try simp only [Act.put, ma, mb, mc, md, me, mf])
          refine tk 9 (v := undef) rfl (Or.inr ⟨by rfl, rfl⟩) ?_
          (try simp only [Act.put, ma, mb, mc, md, me, mf])
          refine tk 10 (v := undef) rfl (Or.inr ⟨by rfl, rfl⟩) ?_
          (try simp only [Act.put, ma, mb, mc, md, me, mf])
          refine tk 11 (v := undef) rfl (Or.inr ⟨by rfl, rfl⟩) ?_
          (try simp only [Act.put, ma, mb, mc, md, me, mf])
          refine tk 12 (v := ?_) rfl (Or.inl ⟨by rfl, ?_⟩) ?_
          rotate_left
          · (intro w5 hw5; (try dsimp only at hw5); go_simp; (try with_reducible rfl))
          (try simp only [Act.put, ma, mb, mc, md, me, mf])
          refine tk 13 (v := ?_) rfl (Or.inl ⟨by rfl, ?_⟩) ?_
          rotate_left
          · (intro w5 hw5; (try dsimp only at hw5); go_simp; (try with_reducible rfl))
          (try simp only [Act.put, ma, mb, mc, md, me, mf])
          refine tk 14 (v := ?_) rfl (Or.inl ⟨by rfl, ?_⟩) ?_
          rotate_left
          · (intro w5 hw5; (try dsimp only at hw5); go_simp; (try with_reducible rfl))
          (try simp only [Act.put, ma, mb, mc, md, me, mf])
          refine tk 15 (v := ?_) rfl (Or.inl ⟨by rfl, ?_⟩) ?_
          rotate_left
          · (intro w5 hw5; (try dsimp only at hw5); go_simp; (try with_reducible rfl))
          (try simp only [Act.put, ma, mb, mc, md, me, mf])
          refine tk 16 (v := ?_) rfl (Or.inl ⟨by rfl, ?_⟩) ?_
          rotate_left
          · (intro w5 hw5; (try dsimp only at hw5); obtain ⟨hr_, hq_, ht_⟩ := hw5; have fht0_ := ht_.cell 0; have fht1_ := ht_.cell 1; have fht2_ := ht_.cell 2; have fht3_ := ht_.cell 3; go_simp; (try with_reducible rfl))
          (try simp only [Act.put, ma, mb, mc, md, me, mf])
          refine tk 17 (v := ?_) rfl (Or.inl ⟨by rfl, ?_⟩) ?_
          rotate_left
          · (intro w5 hw5; (try dsimp only at hw5); go_simp; (try with_reducible rfl))
          (try simp only [Act.put, ma, mb, mc, md, me, mf])
          refine wpAnyH_ready (rs := [18]) (by kernel_rfl) (by simp) ?_
          refine AllReadyH.cons rfl (fun K hK => ?_) AllReadyH.nil
          go_simp
          refine (svState_any g10 r51.srv _ i69 OK50.out.1).mono ?_
          rintro e u1 ⟨qa, qb, qc, da, db, dc, rfl, hO1, hb1⟩
          have G1 : Blk u1 k62 42 #[Value.int .i64 ((cd : Nat) : Int), Value.int .i64 r51.srv.st.rev] ∧ Blk u1 g22 40 #[Value.int .i64 q.kind, Value.string q.job.name, Value.int .i64 q.job.prio, Value.int .i64 q.job.need, Value.int .i64 q.job.tries, Value.string q.job.tag, Value.string q.node.name, Value.int .i64 q.node.room, Value.string q.node.zone, Value.string q.lease.job, Value.string q.lease.node, Value.int .i64 q.lease.till, Value.string q.name, Value.int .i64 q.n] ∧ Blk u1 g38 26 #[Value.int .i64 v.st.rev, Value.slice q25a v.st.jobs.length d25a, Value.slice q25b v.st.nodes.length d25b, Value.slice q25c v.st.leases.length d25c] := ⟨G0.1.below hb1 G0.1.lt, G0.2.1.below hb1 G0.2.1.lt, G0.2.2.below hb1 G0.2.2.lt⟩
          refine hK.out _ _ ?_ (fun hHeld => ?_)
          · exact G1
          clear hK K
          (try simp only [Act.put, ma, mb, mc, md, me, mf])
          refine wpAnyH_ready (rs := [19]) (by kernel_rfl) (by simp) ?_
          refine AllReadyH.cons rfl (fun K hK => ?_) AllReadyH.nil
          go_simp
          have HR := same_any v.st r51.srv.st q25a q25b q25c qa qb qc d25a d25b d25c da db dc u1 (o68.below hb1).m hO1.m OKv.out.1.sz OK50.out.1.sz
          rw [decide_eq_true HEQ.out] at HR
          refine HR.mono ?_
          rintro e u2 ⟨rfl, hb2⟩
          have G2 : Blk u2 k62 42 #[Value.int .i64 ((cd : Nat) : Int), Value.int .i64 r51.srv.st.rev] ∧ Blk u2 g22 40 #[Value.int .i64 q.kind, Value.string q.job.name, Value.int .i64 q.job.prio, Value.int .i64 q.job.need, Value.int .i64 q.job.tries, Value.string q.job.tag, Value.string q.node.name, Value.int .i64 q.node.room, Value.string q.node.zone, Value.string q.lease.job, Value.string q.lease.node, Value.int .i64 q.lease.till, Value.string q.name, Value.int .i64 q.n] ∧ Blk u2 g38 26 #[Value.int .i64 v.st.rev, Value.slice q25a v.st.jobs.length d25a, Value.slice q25b v.st.nodes.length d25b, Value.slice q25c v.st.leases.length d25c] := ⟨G1.1.below hb2 G1.1.lt, G1.2.1.below hb2 G1.2.1.lt, G1.2.2.below hb2 G1.2.2.lt⟩
          refine hK.out _ _ ?_ (fun hHeld => ?_)
          · exact G2
          clear hK K
          (try simp only [Act.put, ma, mb, mc, md, me, mf])
          refine tk 20 (v := ?_) rfl (Or.inl ⟨by rfl, ?_⟩) ?_
          rotate_left
          · (intro w5 hw5; (try dsimp only at hw5); go_simp; (try with_reducible rfl))
          (try simp only [Act.put, ma, mb, mc, md, me, mf])
          refine tk 21 (v := ?_) rfl (Or.inl ⟨by rfl, ?_⟩) ?_
          rotate_left
          · (intro w5 hw5; (try dsimp only at hw5); go_simp; (try with_reducible rfl))
          (try simp only [Act.put, ma, mb, mc, md, me, mf])
          refine tk 22 (v := ?_) rfl (Or.inl ⟨by rfl, ?_⟩) ?_
          rotate_left
          · (intro w5 hw5; (try dsimp only at hw5); go_simp; (try with_reducible rfl))
          (try simp only [Act.put, ma, mb, mc, md, me, mf])
          refine tk 23 (v := ?_) rfl (Or.inl ⟨by rfl, ?_⟩) ?_
          rotate_left
          · (intro w5 hw5; (try dsimp only at hw5); go_simp; (try with_reducible rfl))
          (try simp only [Act.put, ma, mb, mc, md, me, mf])
          refine tk 24 (v := ?_) rfl (Or.inl ⟨by rfl, ?_⟩) ?_
          rotate_left
          · (intro w5 hw5; (try dsimp only at hw5); go_simp; (try with_reducible rfl))
          (try simp only [Act.put, ma, mb, mc, md, me, mf])
          have hI2 := (i69.below hb1).below hb2
          have cZ := (c70.trans (hb1.mono c70.size)).trans (hb2.mono (c70.trans (hb1.mono c70.size)).size)
          refine wpAnyH_ready (rs := [25]) (by kernel_rfl) (by simp) ?_
          refine AllReadyH.cons rfl (fun K hK => ?_) AllReadyH.nil
          go_simp
          refine (svNow_any g10 r51.srv u2 hI2).mono ?_
          rintro e u3 ⟨rfl, rfl⟩
          refine hK.out _ _ ?_ (fun hHeld => ?_)
          · exact G2
          clear hK K
          (try simp only [Act.put, ma, mb, mc, md, me, mf])
          refine tk 26 (v := ?_) rfl (Or.inl ⟨by rfl, ?_⟩) ?_
          rotate_left
          · (intro w5 hw5; (try dsimp only at hw5); go_simp; (try with_reducible rfl))
          (try simp only [Act.put, ma, mb, mc, md, me, mf])
          refine tk 27 (v := ?_) rfl (Or.inl ⟨by rfl, ?_⟩) ?_
          rotate_left
          · (intro w5 hw5; (try dsimp only at hw5); go_simp; (try with_reducible rfl))
          (try simp only [Act.put, ma, mb, mc, md, me, mf])
          refine tk 28 (v := ?_) rfl (Or.inl ⟨by rfl, ?_⟩) ?_
          rotate_left
          · (intro w5 hw5; (try dsimp only at hw5); go_simp; (try with_reducible rfl))
          (try simp only [Act.put, ma, mb, mc, md, me, mf])
          refine wpAnyH_done (by kernel_rfl) ?_ _
          go_wp2_with fail
          go_roundw
          case rel => exact ⟨k + 1, r51.srv, by omega, by go_num, hI2, OK50.out, cZ⟩
          case measure => simp [intOf]; omega
        subst hA
        by_cases h8 : q.kind = 8
        · obtain ⟨t1, t2⟩ := HF.out (.inr (.inl h8))
          have hfl : r51.told.isSome = false := by rw [t1]; rfl
          have HEQ := Lib.hid (show v.st = r51.srv.st from by rw [t2])
          have hnw : (v.now != r51.srv.now) = false := by rw [t2]; simp
          clear t1 t2 HF
          have hk8 : (q.kind == (8 : Int)) = true := by rw [h8]; rfl
          clear h8
          have hB_ : Below W61.heap.size W61 W61.drew := (Below.refl _ _).drew
          have b65 := b56.below hB_ b56.lt
          have b66 := b57.below hB_ b57.lt
          have b67 := b63.below hB_ b63.lt
          have o68 := o58.below hB_
          have i69 := i59.below hB_
          have c70 := c60.trans (hB_.mono c60.size)
          clear b56 b57 b63 o58 i59 c60 hB_
          have G0 : Blk (W61.drew) k62 42 #[Value.int .i64 ((0 : Nat) : Int), Value.int .i64 r51.srv.st.rev] ∧ Blk (W61.drew) g22 40 #[Value.int .i64 q.kind, Value.string q.job.name, Value.int .i64 q.job.prio, Value.int .i64 q.job.need, Value.int .i64 q.job.tries, Value.string q.job.tag, Value.string q.node.name, Value.int .i64 q.node.room, Value.string q.node.zone, Value.string q.lease.job, Value.string q.lease.node, Value.int .i64 q.lease.till, Value.string q.name, Value.int .i64 q.n] ∧ Blk (W61.drew) g38 26 #[Value.int .i64 v.st.rev, Value.slice q25a v.st.jobs.length d25a, Value.slice q25b v.st.nodes.length d25b, Value.slice q25c v.st.leases.length d25c] := ⟨b67, b65, b66⟩
          refine wp_region_held_drew (S := fun W => Blk W k62 42 #[Value.int .i64 ((0 : Nat) : Int), Value.int .i64 r51.srv.st.rev] ∧ Blk W g22 40 #[Value.int .i64 q.kind, Value.string q.job.name, Value.int .i64 q.job.prio, Value.int .i64 q.job.need, Value.int .i64 q.job.tries, Value.string q.job.tag, Value.string q.node.name, Value.int .i64 q.node.room, Value.string q.node.zone, Value.string q.lease.job, Value.string q.lease.node, Value.int .i64 q.lease.till, Value.string q.name, Value.int .i64 q.n] ∧ Blk W g38 26 #[Value.int .i64 v.st.rev, Value.slice q25a v.st.jobs.length d25a, Value.slice q25b v.st.nodes.length d25b, Value.slice q25c v.st.leases.length d25c]) (by kernel_rfl) G0 (fun hHeld => ?_)
          refine tk 0 (v := ?_) rfl (Or.inl ⟨by rfl, ?_⟩) ?_
          rotate_left
          · (intro w5 hw5; (try dsimp only at hw5); go_simp; (try with_reducible rfl))
          (try simp only [Act.put, ma, mb, mc, md, me, mf])
          refine tk 1 (v := ?_) rfl (Or.inl ⟨by rfl, ?_⟩) ?_
          rotate_left
          · (intro w5 hw5; (try dsimp only at hw5); obtain ⟨hr_, hq_, ht_⟩ := hw5; have fhr0_ := hr_.cell 0; go_simp; (try with_reducible rfl))
          (try simp only [Act.put, ma, mb, mc, md, me, mf])
          refine tk 2 (v := ?_) rfl (Or.inl ⟨by rfl, ?_⟩) ?_
          rotate_left
          · (intro w5 hw5; (try dsimp only at hw5); go_simp; (try with_reducible rfl))
          (try simp only [Act.put, ma, mb, mc, md, me, mf])
          refine tk 3 (v := ?_) rfl (Or.inl ⟨by rfl, ?_⟩) ?_
          rotate_left
          · (intro w5 hw5; (try dsimp only at hw5); go_simp; (try with_reducible rfl))
          (try simp only [Act.put, ma, mb, mc, md, me, mf])
          refine tk 4 (v := ?_) rfl (Or.inl ⟨by rfl, ?_⟩) ?_
          rotate_left
          · (intro w5 hw5; (try dsimp only at hw5); go_simp; (try with_reducible rfl))
          (try simp only [Act.put, ma, mb, mc, md, me, mf])
          refine tk 5 (v := ?_) rfl (Or.inl ⟨by rfl, ?_⟩) ?_
          rotate_left
          · (intro w5 hw5; (try dsimp only at hw5); obtain ⟨hr_, hq_, ht_⟩ := hw5; have fhq0_ := hq_.cell 0; go_simp; (try with_reducible rfl))
          (try simp only [Act.put, ma, mb, mc, md, me, mf])
          refine tk 6 (v := ?_) rfl (Or.inl ⟨by rfl, ?_⟩) ?_
          rotate_left
          · (intro w5 hw5; (try dsimp only at hw5); go_simp; (try with_reducible rfl))
          (try simp only [Act.put, ma, mb, mc, md, me, mf])
          refine tk 7 (v := ?_) rfl (Or.inl ⟨by rfl, ?_⟩) ?_
          rotate_left
          · (intro w5 hw5; (try dsimp only at hw5); go_simp; (try with_reducible rfl))
          (try simp only [Act.put, ma, mb, mc, md, me, mf])
          refine tk 8 (v := ?_) rfl (Or.inl ⟨by rfl, ?_⟩) ?_
          rotate_left
          · (intro w5 hw5; (try dsimp only at hw5); go_simp; (try with_reducible rfl))
          (try simp only [Act.put, ma, mb, mc, md, me, mf])
          refine tk 9 (v := undef) rfl (Or.inr ⟨by rfl, rfl⟩) ?_
          (try simp only [Act.put, ma, mb, mc, md, me, mf])
          refine tk 10 (v := undef) rfl (Or.inr ⟨by rfl, rfl⟩) ?_
          (try simp only [Act.put, ma, mb, mc, md, me, mf])
          refine tk 11 (v := undef) rfl (Or.inr ⟨by rfl, rfl⟩) ?_
          (try simp only [Act.put, ma, mb, mc, md, me, mf])
          refine tk 12 (v := ?_) rfl (Or.inl ⟨by rfl, ?_⟩) ?_
          rotate_left
          · (intro w5 hw5; (try dsimp only at hw5); go_simp; (try with_reducible rfl))
          (try simp only [Act.put, ma, mb, mc, md, me, mf])
          refine tk 13 (v := ?_) rfl (Or.inl ⟨by rfl, ?_⟩) ?_
          rotate_left
          · (intro w5 hw5; (try dsimp only at hw5); go_simp; (try with_reducible rfl))
          (try simp only [Act.put, ma, mb, mc, md, me, mf])
          refine tk 14 (v := ?_) rfl (Or.inl ⟨by rfl, ?_⟩) ?_
          rotate_left
          · (intro w5 hw5; (try dsimp only at hw5); go_simp; (try with_reducible rfl))
          (try simp only [Act.put, ma, mb, mc, md, me, mf])
          refine tk 15 (v := ?_) rfl (Or.inl ⟨by rfl, ?_⟩) ?_
          rotate_left
          · (intro w5 hw5; (try dsimp only at hw5); go_simp; (try with_reducible rfl))
          (try simp only [Act.put, ma, mb, mc, md, me, mf])
          refine tk 16 (v := ?_) rfl (Or.inl ⟨by rfl, ?_⟩) ?_
          rotate_left
          · (intro w5 hw5; (try dsimp only at hw5); obtain ⟨hr_, hq_, ht_⟩ := hw5; have fht0_ := ht_.cell 0; have fht1_ := ht_.cell 1; have fht2_ := ht_.cell 2; have fht3_ := ht_.cell 3; go_simp; (try with_reducible rfl))
          (try simp only [Act.put, ma, mb, mc, md, me, mf])
          refine tk 17 (v := ?_) rfl (Or.inl ⟨by rfl, ?_⟩) ?_
          rotate_left
          · (intro w5 hw5; (try dsimp only at hw5); go_simp; (try with_reducible rfl))
          (try simp only [Act.put, ma, mb, mc, md, me, mf])
          refine wpAnyH_ready (rs := [18]) (by kernel_rfl) (by simp) ?_
          refine AllReadyH.cons rfl (fun K hK => ?_) AllReadyH.nil
          go_simp
          refine (svState_any g10 r51.srv _ i69 OK50.out.1).mono ?_
          rintro e u1 ⟨qa, qb, qc, da, db, dc, rfl, hO1, hb1⟩
          have G1 : Blk u1 k62 42 #[Value.int .i64 ((0 : Nat) : Int), Value.int .i64 r51.srv.st.rev] ∧ Blk u1 g22 40 #[Value.int .i64 q.kind, Value.string q.job.name, Value.int .i64 q.job.prio, Value.int .i64 q.job.need, Value.int .i64 q.job.tries, Value.string q.job.tag, Value.string q.node.name, Value.int .i64 q.node.room, Value.string q.node.zone, Value.string q.lease.job, Value.string q.lease.node, Value.int .i64 q.lease.till, Value.string q.name, Value.int .i64 q.n] ∧ Blk u1 g38 26 #[Value.int .i64 v.st.rev, Value.slice q25a v.st.jobs.length d25a, Value.slice q25b v.st.nodes.length d25b, Value.slice q25c v.st.leases.length d25c] := ⟨G0.1.below hb1 G0.1.lt, G0.2.1.below hb1 G0.2.1.lt, G0.2.2.below hb1 G0.2.2.lt⟩
          refine hK.out _ _ ?_ (fun hHeld => ?_)
          · exact G1
          clear hK K
          (try simp only [Act.put, ma, mb, mc, md, me, mf])
          refine wpAnyH_ready (rs := [19]) (by kernel_rfl) (by simp) ?_
          refine AllReadyH.cons rfl (fun K hK => ?_) AllReadyH.nil
          go_simp
          have HR := same_any v.st r51.srv.st q25a q25b q25c qa qb qc d25a d25b d25c da db dc u1 (o68.below hb1).m hO1.m OKv.out.1.sz OK50.out.1.sz
          rw [decide_eq_true HEQ.out] at HR
          refine HR.mono ?_
          rintro e u2 ⟨rfl, hb2⟩
          have G2 : Blk u2 k62 42 #[Value.int .i64 ((0 : Nat) : Int), Value.int .i64 r51.srv.st.rev] ∧ Blk u2 g22 40 #[Value.int .i64 q.kind, Value.string q.job.name, Value.int .i64 q.job.prio, Value.int .i64 q.job.need, Value.int .i64 q.job.tries, Value.string q.job.tag, Value.string q.node.name, Value.int .i64 q.node.room, Value.string q.node.zone, Value.string q.lease.job, Value.string q.lease.node, Value.int .i64 q.lease.till, Value.string q.name, Value.int .i64 q.n] ∧ Blk u2 g38 26 #[Value.int .i64 v.st.rev, Value.slice q25a v.st.jobs.length d25a, Value.slice q25b v.st.nodes.length d25b, Value.slice q25c v.st.leases.length d25c] := ⟨G1.1.below hb2 G1.1.lt, G1.2.1.below hb2 G1.2.1.lt, G1.2.2.below hb2 G1.2.2.lt⟩
          refine hK.out _ _ ?_ (fun hHeld => ?_)
          · exact G2
          clear hK K
          (try simp only [Act.put, ma, mb, mc, md, me, mf])
          refine tk 20 (v := ?_) rfl (Or.inl ⟨by rfl, ?_⟩) ?_
          rotate_left
          · (intro w5 hw5; (try dsimp only at hw5); go_simp; (try with_reducible rfl))
          (try simp only [Act.put, ma, mb, mc, md, me, mf])
          refine tk 21 (v := ?_) rfl (Or.inl ⟨by rfl, ?_⟩) ?_
          rotate_left
          · (intro w5 hw5; (try dsimp only at hw5); go_simp; (try with_reducible rfl))
          (try simp only [Act.put, ma, mb, mc, md, me, mf])
          refine tk 22 (v := ?_) rfl (Or.inl ⟨by rfl, ?_⟩) ?_
          rotate_left
          · (intro w5 hw5; (try dsimp only at hw5); go_simp; (try with_reducible rfl))
          (try simp only [Act.put, ma, mb, mc, md, me, mf])
          refine tk 23 (v := ?_) rfl (Or.inl ⟨by rfl, ?_⟩) ?_
          rotate_left
          · (intro w5 hw5; (try dsimp only at hw5); go_simp; (try with_reducible rfl))
          (try simp only [Act.put, ma, mb, mc, md, me, mf])
          refine tk 24 (v := ?_) rfl (Or.inl ⟨by rfl, ?_⟩) ?_
          rotate_left
          · (intro w5 hw5; (try dsimp only at hw5); go_simp; (try with_reducible rfl))
          (try simp only [Act.put, ma, mb, mc, md, me, mf])
          have hI2 := (i69.below hb1).below hb2
          have cZ := (c70.trans (hb1.mono c70.size)).trans (hb2.mono (c70.trans (hb1.mono c70.size)).size)
          refine wpAnyH_ready (rs := [25]) (by kernel_rfl) (by simp) ?_
          refine AllReadyH.cons rfl (fun K hK => ?_) AllReadyH.nil
          go_simp
          refine (svNow_any g10 r51.srv u2 hI2).mono ?_
          rintro e u3 ⟨rfl, rfl⟩
          refine hK.out _ _ ?_ (fun hHeld => ?_)
          · exact G2
          clear hK K
          (try simp only [Act.put, ma, mb, mc, md, me, mf])
          refine tk 26 (v := ?_) rfl (Or.inl ⟨by rfl, ?_⟩) ?_
          rotate_left
          · (intro w5 hw5; (try dsimp only at hw5); go_simp; (try with_reducible rfl))
          (try simp only [Act.put, ma, mb, mc, md, me, mf])
          refine tk 27 (v := ?_) rfl (Or.inl ⟨by rfl, ?_⟩) ?_
          rotate_left
          · (intro w5 hw5; (try dsimp only at hw5); go_simp; (try with_reducible rfl))
          (try simp only [Act.put, ma, mb, mc, md, me, mf])
          refine tk 28 (v := ?_) rfl (Or.inl ⟨by rfl, ?_⟩) ?_
          rotate_left
          · (intro w5 hw5; (try dsimp only at hw5); go_simp; (try with_reducible rfl))
          (try simp only [Act.put, ma, mb, mc, md, me, mf])
          refine wpAnyH_done (by kernel_rfl) ?_ _
          go_wp2_with fail
          go_roundw
          case rel => exact ⟨k + 1, r51.srv, by omega, by go_num, hI2, OK50.out, cZ⟩
          case measure => simp [intOf]; omega
        have hk8 : (q.kind == (8 : Int)) = false := by rw [beq_eq_false_iff_ne]; exact h8
        by_cases h9 : q.kind = 9
        · obtain ⟨t1, t2⟩ := HF.out (.inr (.inr h9))
          have hfl : r51.told.isSome = false := by rw [t1]; rfl
          have HEQ := Lib.hid (show v.st = r51.srv.st from by rw [t2])
          have hnw : (v.now != r51.srv.now) = false := by rw [t2]; simp
          clear t1 t2 HF
          have hk9 : (q.kind == (9 : Int)) = true := by rw [h9]; rfl
          clear h8 h9
          have hB_ : Below W61.heap.size W61 W61.drew := (Below.refl _ _).drew
          have b65 := b56.below hB_ b56.lt
          have b66 := b57.below hB_ b57.lt
          have b67 := b63.below hB_ b63.lt
          have o68 := o58.below hB_
          have i69 := i59.below hB_
          have c70 := c60.trans (hB_.mono c60.size)
          clear b56 b57 b63 o58 i59 c60 hB_
          have G0 : Blk (W61.drew) k62 42 #[Value.int .i64 ((0 : Nat) : Int), Value.int .i64 r51.srv.st.rev] ∧ Blk (W61.drew) g22 40 #[Value.int .i64 q.kind, Value.string q.job.name, Value.int .i64 q.job.prio, Value.int .i64 q.job.need, Value.int .i64 q.job.tries, Value.string q.job.tag, Value.string q.node.name, Value.int .i64 q.node.room, Value.string q.node.zone, Value.string q.lease.job, Value.string q.lease.node, Value.int .i64 q.lease.till, Value.string q.name, Value.int .i64 q.n] ∧ Blk (W61.drew) g38 26 #[Value.int .i64 v.st.rev, Value.slice q25a v.st.jobs.length d25a, Value.slice q25b v.st.nodes.length d25b, Value.slice q25c v.st.leases.length d25c] := ⟨b67, b65, b66⟩
          refine wp_region_held_drew (S := fun W => Blk W k62 42 #[Value.int .i64 ((0 : Nat) : Int), Value.int .i64 r51.srv.st.rev] ∧ Blk W g22 40 #[Value.int .i64 q.kind, Value.string q.job.name, Value.int .i64 q.job.prio, Value.int .i64 q.job.need, Value.int .i64 q.job.tries, Value.string q.job.tag, Value.string q.node.name, Value.int .i64 q.node.room, Value.string q.node.zone, Value.string q.lease.job, Value.string q.lease.node, Value.int .i64 q.lease.till, Value.string q.name, Value.int .i64 q.n] ∧ Blk W g38 26 #[Value.int .i64 v.st.rev, Value.slice q25a v.st.jobs.length d25a, Value.slice q25b v.st.nodes.length d25b, Value.slice q25c v.st.leases.length d25c]) (by kernel_rfl) G0 (fun hHeld => ?_)
          refine tk 0 (v := ?_) rfl (Or.inl ⟨by rfl, ?_⟩) ?_
          rotate_left
          · (intro w5 hw5; (try dsimp only at hw5); go_simp; (try with_reducible rfl))
          (try simp only [Act.put, ma, mb, mc, md, me, mf])
          refine tk 1 (v := ?_) rfl (Or.inl ⟨by rfl, ?_⟩) ?_
          rotate_left
          · (intro w5 hw5; (try dsimp only at hw5); obtain ⟨hr_, hq_, ht_⟩ := hw5; have fhr0_ := hr_.cell 0; go_simp; (try with_reducible rfl))
          (try simp only [Act.put, ma, mb, mc, md, me, mf])
          refine tk 2 (v := ?_) rfl (Or.inl ⟨by rfl, ?_⟩) ?_
          rotate_left
          · (intro w5 hw5; (try dsimp only at hw5); go_simp; (try with_reducible rfl))
          (try simp only [Act.put, ma, mb, mc, md, me, mf])
          refine tk 3 (v := ?_) rfl (Or.inl ⟨by rfl, ?_⟩) ?_
          rotate_left
          · (intro w5 hw5; (try dsimp only at hw5); go_simp; (try with_reducible rfl))
          (try simp only [Act.put, ma, mb, mc, md, me, mf])
          refine tk 4 (v := ?_) rfl (Or.inl ⟨by rfl, ?_⟩) ?_
          rotate_left
          · (intro w5 hw5; (try dsimp only at hw5); go_simp; (try with_reducible rfl))
          (try simp only [Act.put, ma, mb, mc, md, me, mf])
          refine tk 5 (v := ?_) rfl (Or.inl ⟨by rfl, ?_⟩) ?_
          rotate_left
          · (intro w5 hw5; (try dsimp only at hw5); obtain ⟨hr_, hq_, ht_⟩ := hw5; have fhq0_ := hq_.cell 0; go_simp; (try with_reducible rfl))
          (try simp only [Act.put, ma, mb, mc, md, me, mf])
          refine tk 6 (v := ?_) rfl (Or.inl ⟨by rfl, ?_⟩) ?_
          rotate_left
          · (intro w5 hw5; (try dsimp only at hw5); go_simp; (try with_reducible rfl))
          (try simp only [Act.put, ma, mb, mc, md, me, mf])
          refine tk 7 (v := ?_) rfl (Or.inl ⟨by rfl, ?_⟩) ?_
          rotate_left
          · (intro w5 hw5; (try dsimp only at hw5); go_simp; (try with_reducible rfl))
          (try simp only [Act.put, ma, mb, mc, md, me, mf])
          refine tk 8 (v := ?_) rfl (Or.inl ⟨by rfl, ?_⟩) ?_
          rotate_left
          · (intro w5 hw5; (try dsimp only at hw5); go_simp; (try with_reducible rfl))
          (try simp only [Act.put, ma, mb, mc, md, me, mf])
          refine tk 9 (v := ?_) rfl (Or.inl ⟨by rfl, ?_⟩) ?_
          rotate_left
          · (intro w5 hw5; (try dsimp only at hw5); go_simp; (try with_reducible rfl))
          (try simp only [Act.put, ma, mb, mc, md, me, mf])
          refine tk 10 (v := ?_) rfl (Or.inl ⟨by rfl, ?_⟩) ?_
          rotate_left
          · (intro w5 hw5; (try dsimp only at hw5); obtain ⟨hr_, hq_, ht_⟩ := hw5; have fhq0_ := hq_.cell 0; go_simp; (try with_reducible rfl))
          (try simp only [Act.put, ma, mb, mc, md, me, mf])
          refine tk 11 (v := ?_) rfl (Or.inl ⟨by rfl, ?_⟩) ?_
          rotate_left
          · (intro w5 hw5; (try dsimp only at hw5); go_simp; (try with_reducible rfl))
          (try simp only [Act.put, ma, mb, mc, md, me, mf])
          refine tk 12 (v := ?_) rfl (Or.inl ⟨by rfl, ?_⟩) ?_
          rotate_left
          · (intro w5 hw5; (try dsimp only at hw5); go_simp; (try with_reducible rfl))
          (try simp only [Act.put, ma, mb, mc, md, me, mf])
          refine tk 13 (v := ?_) rfl (Or.inl ⟨by rfl, ?_⟩) ?_
          rotate_left
          · (intro w5 hw5; (try dsimp only at hw5); go_simp; (try with_reducible rfl))
          (try simp only [Act.put, ma, mb, mc, md, me, mf])
          refine tk 14 (v := ?_) rfl (Or.inl ⟨by rfl, ?_⟩) ?_
          rotate_left
          · (intro w5 hw5; (try dsimp only at hw5); go_simp; (try with_reducible rfl))
          (try simp only [Act.put, ma, mb, mc, md, me, mf])
          refine tk 15 (v := ?_) rfl (Or.inl ⟨by rfl, ?_⟩) ?_
          rotate_left
          · (intro w5 hw5; (try dsimp only at hw5); go_simp; (try with_reducible rfl))
          (try simp only [Act.put, ma, mb, mc, md, me, mf])
          refine tk 16 (v := ?_) rfl (Or.inl ⟨by rfl, ?_⟩) ?_
          rotate_left
          · (intro w5 hw5; (try dsimp only at hw5); obtain ⟨hr_, hq_, ht_⟩ := hw5; have fht0_ := ht_.cell 0; have fht1_ := ht_.cell 1; have fht2_ := ht_.cell 2; have fht3_ := ht_.cell 3; go_simp; (try with_reducible rfl))
          (try simp only [Act.put, ma, mb, mc, md, me, mf])
          refine tk 17 (v := ?_) rfl (Or.inl ⟨by rfl, ?_⟩) ?_
          rotate_left
          · (intro w5 hw5; (try dsimp only at hw5); go_simp; (try with_reducible rfl))
          (try simp only [Act.put, ma, mb, mc, md, me, mf])
          refine wpAnyH_ready (rs := [18]) (by kernel_rfl) (by simp) ?_
          refine AllReadyH.cons rfl (fun K hK => ?_) AllReadyH.nil
          go_simp
          refine (svState_any g10 r51.srv _ i69 OK50.out.1).mono ?_
          rintro e u1 ⟨qa, qb, qc, da, db, dc, rfl, hO1, hb1⟩
          have G1 : Blk u1 k62 42 #[Value.int .i64 ((0 : Nat) : Int), Value.int .i64 r51.srv.st.rev] ∧ Blk u1 g22 40 #[Value.int .i64 q.kind, Value.string q.job.name, Value.int .i64 q.job.prio, Value.int .i64 q.job.need, Value.int .i64 q.job.tries, Value.string q.job.tag, Value.string q.node.name, Value.int .i64 q.node.room, Value.string q.node.zone, Value.string q.lease.job, Value.string q.lease.node, Value.int .i64 q.lease.till, Value.string q.name, Value.int .i64 q.n] ∧ Blk u1 g38 26 #[Value.int .i64 v.st.rev, Value.slice q25a v.st.jobs.length d25a, Value.slice q25b v.st.nodes.length d25b, Value.slice q25c v.st.leases.length d25c] := ⟨G0.1.below hb1 G0.1.lt, G0.2.1.below hb1 G0.2.1.lt, G0.2.2.below hb1 G0.2.2.lt⟩
          refine hK.out _ _ ?_ (fun hHeld => ?_)
          · exact G1
          clear hK K
          (try simp only [Act.put, ma, mb, mc, md, me, mf])
          refine wpAnyH_ready (rs := [19]) (by kernel_rfl) (by simp) ?_
          refine AllReadyH.cons rfl (fun K hK => ?_) AllReadyH.nil
          go_simp
          have HR := same_any v.st r51.srv.st q25a q25b q25c qa qb qc d25a d25b d25c da db dc u1 (o68.below hb1).m hO1.m OKv.out.1.sz OK50.out.1.sz
          rw [decide_eq_true HEQ.out] at HR
          refine HR.mono ?_
          rintro e u2 ⟨rfl, hb2⟩
          have G2 : Blk u2 k62 42 #[Value.int .i64 ((0 : Nat) : Int), Value.int .i64 r51.srv.st.rev] ∧ Blk u2 g22 40 #[Value.int .i64 q.kind, Value.string q.job.name, Value.int .i64 q.job.prio, Value.int .i64 q.job.need, Value.int .i64 q.job.tries, Value.string q.job.tag, Value.string q.node.name, Value.int .i64 q.node.room, Value.string q.node.zone, Value.string q.lease.job, Value.string q.lease.node, Value.int .i64 q.lease.till, Value.string q.name, Value.int .i64 q.n] ∧ Blk u2 g38 26 #[Value.int .i64 v.st.rev, Value.slice q25a v.st.jobs.length d25a, Value.slice q25b v.st.nodes.length d25b, Value.slice q25c v.st.leases.length d25c] := ⟨G1.1.below hb2 G1.1.lt, G1.2.1.below hb2 G1.2.1.lt, G1.2.2.below hb2 G1.2.2.lt⟩
          refine hK.out _ _ ?_ (fun hHeld => ?_)
          · exact G2
          clear hK K
          (try simp only [Act.put, ma, mb, mc, md, me, mf])
          refine tk 20 (v := ?_) rfl (Or.inl ⟨by rfl, ?_⟩) ?_
          rotate_left
          · (intro w5 hw5; (try dsimp only at hw5); go_simp; (try with_reducible rfl))
          (try simp only [Act.put, ma, mb, mc, md, me, mf])
          refine tk 21 (v := ?_) rfl (Or.inl ⟨by rfl, ?_⟩) ?_
          rotate_left
          · (intro w5 hw5; (try dsimp only at hw5); go_simp; (try with_reducible rfl))
          (try simp only [Act.put, ma, mb, mc, md, me, mf])
          refine tk 22 (v := ?_) rfl (Or.inl ⟨by rfl, ?_⟩) ?_
          rotate_left
          · (intro w5 hw5; (try dsimp only at hw5); go_simp; (try with_reducible rfl))
          (try simp only [Act.put, ma, mb, mc, md, me, mf])
          refine tk 23 (v := ?_) rfl (Or.inl ⟨by rfl, ?_⟩) ?_
          rotate_left
          · (intro w5 hw5; (try dsimp only at hw5); go_simp; (try with_reducible rfl))
          (try simp only [Act.put, ma, mb, mc, md, me, mf])
          refine tk 24 (v := ?_) rfl (Or.inl ⟨by rfl, ?_⟩) ?_
          rotate_left
          · (intro w5 hw5; (try dsimp only at hw5); go_simp; (try with_reducible rfl))
          (try simp only [Act.put, ma, mb, mc, md, me, mf])
          have hI2 := (i69.below hb1).below hb2
          have cZ := (c70.trans (hb1.mono c70.size)).trans (hb2.mono (c70.trans (hb1.mono c70.size)).size)
          refine wpAnyH_ready (rs := [25]) (by kernel_rfl) (by simp) ?_
          refine AllReadyH.cons rfl (fun K hK => ?_) AllReadyH.nil
          go_simp
          refine (svNow_any g10 r51.srv u2 hI2).mono ?_
          rintro e u3 ⟨rfl, rfl⟩
          refine hK.out _ _ ?_ (fun hHeld => ?_)
          · exact G2
          clear hK K
          (try simp only [Act.put, ma, mb, mc, md, me, mf])
          refine tk 26 (v := ?_) rfl (Or.inl ⟨by rfl, ?_⟩) ?_
          rotate_left
          · (intro w5 hw5; (try dsimp only at hw5); go_simp; (try with_reducible rfl))
          (try simp only [Act.put, ma, mb, mc, md, me, mf])
          refine tk 27 (v := ?_) rfl (Or.inl ⟨by rfl, ?_⟩) ?_
          rotate_left
          · (intro w5 hw5; (try dsimp only at hw5); go_simp; (try with_reducible rfl))
          (try simp only [Act.put, ma, mb, mc, md, me, mf])
          refine tk 28 (v := ?_) rfl (Or.inl ⟨by rfl, ?_⟩) ?_
          rotate_left
          · (intro w5 hw5; (try dsimp only at hw5); go_simp; (try with_reducible rfl))
          (try simp only [Act.put, ma, mb, mc, md, me, mf])
          refine wpAnyH_done (by kernel_rfl) ?_ _
          go_wp2_with fail
          go_roundw
          case rel => exact ⟨k + 1, r51.srv, by omega, by go_num, hI2, OK50.out, cZ⟩
          case measure => simp [intOf]; omega
        have hk9 : (q.kind == (9 : Int)) = false := by rw [beq_eq_false_iff_ne]; exact h9
        clear h8 h9 HF
        have cl65 : W61.cell? ⟨k62, 0, none⟩ = some (Value.int .i64 ((0 : Nat) : Int)) := b63.cell 0
        have cl66 : W61.cell? ⟨g22, 0, none⟩ = some (Value.int .i64 q.kind) := b56.cell 0
        go_big_quiet (fail)
        have hbn : Below W61.heap.size W61 (W61.drewN nq) := ⟨rfl, rfl, rfl, Nat.le_refl _, fun _ _ => rfl⟩
        go_wp2_with fail
        go_roundw
        case rel => exact ⟨k + 1, r51.srv, by omega, by go_num, i59.below hbn, OK50.out, c60.trans (hbn.mono c60.size)⟩
        case measure => simp [intOf]; omega
      · obtain rfl : k = l1.length := by omega
        go_wp2_with fail
        go_ret
        exact ⟨rfl, cc⟩
  · have HB := Lib.hid hE
    have hne : (((checkE s0 : Nat) : Int) != 0) = true := by rw [bne_iff_ne]; omega
    clear hE
    go_enter Tryz.func4, Tryz.ntmps4
    go_wp2_with fail
    generalize w.alloc _ = W3 at *
    refine (served_any _ (HT.out.below c2)).mono ?_
    rintro e w4 ⟨rfl, hb5⟩
    have b6 := b1.below hb5 b1.lt
    have c7 := c2.trans (hb5.mono c2.size)
    clear b1 c2 hb5
    go_wp2_with (first | (refine wpList_load_blk_w (by rfl) _ _ rfl (w.heap.size) rfl _ _ b6 _ Tryz.underlying26 rfl state_size ?_))
    refine (svNew_bad s0 pj0 pn0 pl0 cj0 cn0 cl0 _ ((HM0.out.below c7).more c7.size) HZ0.out (HT.out.below c7) HB.out).mono ?_
    rintro e w8 ⟨rfl, hb9⟩
    have b10 := b6.below hb9 b6.lt
    have c11 := c7.trans (hb9.mono c7.size)
    clear b6 c7 hb9
    go_wp2_with fail
    go_ret
    exact ⟨rfl, c11⟩
end Go.Proofs.YtffddjdfpggglaaGreatDoor.serveRefused
