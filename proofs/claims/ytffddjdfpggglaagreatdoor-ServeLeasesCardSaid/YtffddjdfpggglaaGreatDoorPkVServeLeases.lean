/-
  Several texts in one: VServeLeases.
-/
import Derived.Test.YtffddjdfpggglaaGreatDoorPkHeld
import Derived.Test.YtffddjdfpggglaaGreatDoorPkBase
import Derived.Test.YtffddjdfpggglaaGreatDoorPkSvLaw
set_option linter.unusedVariables false
set_option linter.unusedSimpArgs false
set_option maxHeartbeats 16000000
set_option maxRecDepth 100000
namespace Go.Proofs.YtffddjdfpggglaaGreatDoor.serveLeases
open Go.ChangeShapes Go.WideShapes Go.ChangeAt Go.RowKit Go.Joins
open Go.ChangeMaps (open_string)
theorem walk (s0 : St) (pj0 pn0 pl0 : Option Addr) (cj0 cn0 cl0 : Nat) (w : World) (hm0 : StM w w.heap.size pj0 pn0 pl0 s0) (hk0 : StOk s0) (pq1 : Option Addr) (cq1 : Nat) (l1 : List ReqD) (hel1 : Elts w w.heap.size 14 pq1 (l1.map rowQ)) (hok1 : ∀ x ∈ l1, okQ x) (hl1 : l1.length ≤ 9223372036854775807) (a2 : Int) (ha2a : -9223372036854775808 ≤ a2) (ha2b : a2 ≤ 9223372036854775807) (hT : Tabs w) :
    Calls Tryz.prog 5 #[.agg #[Value.int .i64 s0.rev, Value.slice pj0 s0.jobs.length cj0, Value.slice pn0 s0.nodes.length cn0, Value.slice pl0 s0.leases.length cl0], .slice pq1 l1.length cq1, .int .i64 a2] w fun e w' => e = .returned (.bool true) ∧ Below w.heap.size w w' := by
  have b1 := (Blk.new w 26 #[Value.int .i64 s0.rev, Value.slice pj0 s0.jobs.length cj0, Value.slice pn0 s0.nodes.length cn0, Value.slice pl0 s0.leases.length cl0])
  have c2 : Below w.heap.size w (w.alloc (.cells #[Value.int .i64 s0.rev, Value.slice pj0 s0.jobs.length cj0, Value.slice pn0 s0.nodes.length cn0, Value.slice pl0 s0.leases.length cl0] 26)) := ((Below.refl _ _).alloc (Nat.le_refl _) (.cells #[Value.int .i64 s0.rev, Value.slice pj0 s0.jobs.length cj0, Value.slice pn0 s0.nodes.length cn0, Value.slice pl0 s0.leases.length cl0] 26))
  have HM0 := Lib.hid hm0
  have HZ0 := Lib.hid hk0.sz
  have HEL := Lib.hid hel1
  have HOK := Lib.hid hok1
  have HR1 := Lib.hid (fun (W : World) => rest_any a2 1000 W (by decide) (by decide))
  generalize a2 % 1000 = a at *
  have HT := Lib.hid hT
  have hzr := zero_rep_lit
  have hzd := zero_delta_lit
  have hzs := zero_state_lit
  have hzq := zero_request_lit
  have hzj := zero_job_lit
  have hzl := zero_lease_lit
  have z0 : (((0 : Nat) : Int) != 0) = false := rfl
  have z1 : (((0 : Nat) : Int) == 0) = true := rfl
  clear hT hm0 hk0 hel1 hok1 ha2a ha2b
  by_cases hE : checkE s0 = 0
  · have HE := Lib.hid hE
    have F0 := Lib.hid ((fine_iff s0).1 hE)
    clear hE
    go_enter Tryz.func5, Tryz.ntmps5
    go_wp2_with fail
    generalize w.alloc _ = W3 at *
    refine (served_any _ (HT.out.below c2)).mono ?_
    rintro e w4 ⟨rfl, hb5⟩
    have b6 := b1.below hb5 b1.lt
    have c7 := c2.trans (hb5.mono c2.size)
    clear b1 c2 hb5
    go_wp2_with (first | (refine wpList_load_blk_w (by rfl) _ _ rfl (w.heap.size) rfl _ _ b6 _ Tryz.underlying26 rfl state_size ?_))
    have OK14 := Lib.hid (show SrvOk ⟨s0, 0⟩ from ⟨F0.out, Int.le_refl _, (by decide : (0 : Int) ≤ 1099511627776)⟩)
    refine (svNew_ok s0 pj0 pn0 pl0 cj0 cn0 cl0 _ ((HM0.out.below c7).more c7.size) HZ0.out (HT.out.below c7) HE.out).mono ?_
    rintro e w8 ⟨g10, rfl, hg11, i12, hb9⟩
    have ge13 : w.heap.size ≤ g10 := Nat.le_trans c7.size hg11
    clear hg11
    have b15 := b6.below hb9 b6.lt
    have c16 := c7.trans (hb9.mono c7.size)
    clear b6 c7 hb9
    go_wp2_with (first | (refine wpList_load_blk_w (by rfl) _ _ rfl (w.heap.size) rfl _ _ b15 _ Tryz.underlying26 rfl state_size ?_))
    go_loopw [34] (fun i wr => ∃ (k : Nat) (v : Srv), k ≤ l1.length ∧ i = .int .i64 k ∧ SvI wr g10 v ∧ Hid (SrvOk v) ∧ Below w.heap.size w wr) (fun i _ => l1.length - (intOf i).toNat)
    case atStart => exact ⟨0, ⟨s0, 0⟩, Nat.zero_le _, rfl, i12, OK14.out, c16⟩
    case round =>
      obtain ⟨k, v, hk, rfl, hI, OKv, cc⟩ := hrel
      clear i12 c16 b15
      by_cases hlt : k < l1.length
      · have hx : l1[k]? = some l1[k] := List.getElem?_eq_getElem hlt
        have hq := HOK.out l1[k] (List.getElem_mem hlt)
        generalize l1[k] = q at *
        obtain ⟨a, rfl, hab, _, hat⟩ := (HEL.out.below cc).at_ (k := k) (r := rowQ q) (by rw [List.getElem?_map, hx]; rfl)
        have HSq := Lib.hid (ReqSz.of hq)
        clear hx hq hab
        have hb17 : Below wr.heap.size wr (wr.alloc (.cells #[Value.int .i64 q.kind, Value.string q.job.name, Value.int .i64 q.job.prio, Value.int .i64 q.job.need, Value.int .i64 q.job.tries, Value.string q.job.tag, Value.string q.node.name, Value.int .i64 q.node.room, Value.string q.node.zone, Value.string q.lease.job, Value.string q.lease.node, Value.int .i64 q.lease.till, Value.string q.name, Value.int .i64 q.n] 40)) := (Below.refl _ _).alloc (Nat.le_refl _) _
        have b18 := Blk.new wr 40 #[Value.int .i64 q.kind, Value.string q.job.name, Value.int .i64 q.job.prio, Value.int .i64 q.job.need, Value.int .i64 q.job.tries, Value.string q.job.tag, Value.string q.node.name, Value.int .i64 q.node.room, Value.string q.node.zone, Value.string q.lease.job, Value.string q.lease.node, Value.int .i64 q.lease.till, Value.string q.name, Value.int .i64 q.n]
        have i19 := hI.below hb17
        have c20 := cc.trans (hb17.mono cc.size)
        clear hI cc hb17
        go_wp2_with (first | (refine wpList_store_new rfl _ _ _ rfl rfl 40 _ #[Value.int .i64 q.kind, Value.string q.job.name, Value.int .i64 q.job.prio, Value.int .i64 q.job.need, Value.int .i64 q.job.tries, Value.string q.job.tag, Value.string q.node.name, Value.int .i64 q.node.room, Value.string q.node.zone, Value.string q.lease.job, Value.string q.lease.node, Value.int .i64 q.lease.till, Value.string q.name, Value.int .i64 q.n] rfl request_size rfl (one_q q.kind q.job q.node q.lease q.name q.n) ?_) | (refine wpList_load_at rfl _ _ rfl (a.add (k * 14)) rfl [Value.int .i64 q.kind, Value.string q.job.name, Value.int .i64 q.job.prio, Value.int .i64 q.job.need, Value.int .i64 q.job.tries, Value.string q.job.tag, Value.string q.node.name, Value.int .i64 q.node.room, Value.string q.node.zone, Value.string q.lease.job, Value.string q.lease.node, Value.int .i64 q.lease.till, Value.string q.name, Value.int .i64 q.n] _ hat Tryz.underlying40 rfl request_size ?_) | (refine wpList_load_blk_w (by rfl) _ _ rfl (wr.heap.size) rfl _ _ b18 _ Tryz.underlying40 rfl request_size ?_))
        generalize wr.alloc _ = W21 at *
        generalize wr.heap.size = g22 at *
        refine (svDo_any q v g10 _ i19 OKv.out HSq.out (HT.out.below c20)).mono ?_
        rintro e w23 ⟨x27a, x27b, x27c, x27d, x27e, x27f, y27a, y27b, y27c, y27d, y27e, y27f, rfl, i24, hg25, hd26⟩
        obtain ⟨cs28, hc29⟩ := i19.blk
        have b30 := blk_srv i19 hg25 b18 (by decide)
        have c31 := below_grown c20 hg25 ge13 c20.size
        have OK32 := Lib.hid (doR_ok OKv.out q).1
        clear i19 c20 hg25 hc29 b18
        generalize (doR v q) = r33 at *
        clear hd26
        go_wp2_with fail
        go_roundw
        case rel => exact ⟨k + 1, r33.srv, by omega, by go_num, i24, OK32.out, c31⟩
        case measure => simp [intOf]; omega
      · obtain rfl : k = l1.length := by omega
        clear hlt hk
        go_wp2_with fail
        refine (HR1.out _).mono ?_
        rintro e wy ⟨rfl, rfl⟩
        go_wp2_with fail
        refine (svDo_any (qTick a) v g10 _ hI OKv.out (reqSz_tick a) (HT.out.below cc)).mono ?_
        rintro e w17 ⟨x21a, x21b, x21c, x21d, x21e, x21f, y21a, y21b, y21c, y21d, y21e, y21f, rfl, i18, hg19, hd20⟩
        obtain ⟨cs22, hc23⟩ := hI.blk
        have c24 := below_grown cc hg19 ge13 cc.size
        have OK25 := Lib.hid (doR_ok OKv.out (qTick a)).1
        clear hI cc hg19 hc23
        have HL := Lib.hid (fun h => tick_late (v := v) (n := a) h)
        generalize (doR v (qTick a)) = r26 at *
        have t28 := two_first (w := w17)
        have t29 := two_second (w := w17) #[Value.int .i64 ((r26.code : Nat) : Int), Value.int .i64 r26.srv.st.rev]
        obtain ⟨hb30, G27⟩ := two_blks (w := w17) (rc := #[Value.int .i64 ((r26.code : Nat) : Int), Value.int .i64 r26.srv.st.rev]) (dc := #[Value.int .i64 (toldD r26).frm, Value.int .i64 (toldD r26).upto, Value.slice x21a (toldD r26).jobs.length y21a, Value.slice x21b (toldD r26).nodes.length y21b, Value.slice x21c (toldD r26).leases.length y21c, Value.slice x21d (toldD r26).gj.length y21d, Value.slice x21e (toldD r26).gn.length y21e, Value.slice x21f (toldD r26).gl.length y21f])
        have i31 := i18.below hb30
        have c32 := c24.trans (hb30.mono c24.size)
        clear i18 c24 hb30 hd20
        go_upto_region 12 with (first | (refine wpList_store_blk rfl _ _ _ rfl w17.heap.size rfl _ _ #[Value.int .i64 ((r26.code : Nat) : Int), Value.int .i64 r26.srv.st.rev] t28 rfl rep_size rfl (one_rep _ _) ?_) | (refine wpList_store_blk rfl _ _ _ rfl (w17.heap.size + 1) rfl _ _ #[Value.int .i64 (toldD r26).frm, Value.int .i64 (toldD r26).upto, Value.slice x21a (toldD r26).jobs.length y21a, Value.slice x21b (toldD r26).nodes.length y21b, Value.slice x21c (toldD r26).leases.length y21c, Value.slice x21d (toldD r26).gj.length y21d, Value.slice x21e (toldD r26).gn.length y21e, Value.slice x21f (toldD r26).gl.length y21f] t29 rfl delta_size rfl (one_d8 _ _ _ _ _ _ _ _ _ _ _ _ _ _ _ _ _ _ _ _) ?_) )
        obtain ⟨b35, b36⟩ := G27
        clear t28 t29
        generalize (((w17.alloc _).alloc _).setRow _ _).setRow _ _ = W33 at *
        generalize w17.heap.size = k34 at *
        have FL := Lib.hid (OK25.out.1)
        have cl37 : W33.cell? ⟨k34, 0, none⟩ = some (Value.int .i64 ((r26.code : Nat) : Int)) := b35.cell 0
        generalize hcd : r26.code = cd at *
        clear hcd
        by_cases hA : cd = 0
        rotate_left
        · have hne : (((cd : Nat) : Int) != 0) = true := by rw [bne_iff_ne]; omega
          clear hA HL
          go_wp2_with fail
          go_ret
          exact ⟨rfl, c32⟩
        subst hA
        have HLT := Lib.hid (HL.out rfl)
        clear HL
        go_wp2_with (first | (refine wpList_load_blk_w (by rfl) _ _ rfl (k34) rfl _ _ b35 _ Tryz.underlying42 rfl rep_size ?_))
        clear cl37
        refine (svState_any g10 r26.srv _ i31 OK25.out.1).mono ?_
        rintro e w38 ⟨q40a, q40b, q40c, d40a, d40b, d40c, rfl, o41, hb39⟩
        have i42 := i31.below hb39
        have c43 := c32.trans (hb39.mono c32.size)
        clear i31 c32 hb39
        have hb44 : Below w38.heap.size w38 (w38.alloc (.cells #[Value.int .i64 r26.srv.st.rev, Value.slice q40a r26.srv.st.jobs.length d40a, Value.slice q40b r26.srv.st.nodes.length d40b, Value.slice q40c r26.srv.st.leases.length d40c] 26)) := (Below.refl _ _).alloc (Nat.le_refl _) _
        have b45 := Blk.new w38 26 #[Value.int .i64 r26.srv.st.rev, Value.slice q40a r26.srv.st.jobs.length d40a, Value.slice q40b r26.srv.st.nodes.length d40b, Value.slice q40c r26.srv.st.leases.length d40c]
        have o46 := o41.below hb44
        have i47 := i42.below hb44
        have c48 := c43.trans (hb44.mono c43.size)
        clear o41 i42 c43 hb44
        go_upto_region 15 with (first | (refine wpList_store_new rfl _ _ _ rfl rfl 26 _ #[Value.int .i64 r26.srv.st.rev, Value.slice q40a r26.srv.st.jobs.length d40a, Value.slice q40b r26.srv.st.nodes.length d40b, Value.slice q40c r26.srv.st.leases.length d40c] rfl state_size rfl (one_st4 _ _ _ _ _ _ _ _ _ _) ?_) | (refine wpList_load_blk_w (by rfl) _ _ rfl (w38.heap.size) rfl _ _ b45 _ Tryz.underlying26 rfl state_size ?_))
        generalize w38.alloc _ = W49 at *
        generalize w38.heap.size = g50 at *
        have cl51 : W49.cell? ⟨g50, 3, none⟩ = some (Value.slice q40c r26.srv.st.leases.length d40c) := b45.cell 3
        go_wp2_with (first | (refine wpList_load_blk_w (by rfl) _ _ rfl (g50) rfl _ _ b45 _ Tryz.underlying26 rfl state_size ?_))
        clear cl51
        go_loopw [59] (fun i wr => ∃ (k : Nat), k ≤ r26.srv.st.leases.length ∧ i = .int .i64 k ∧ SvI wr g10 r26.srv ∧ Below w.heap.size w wr ∧ Blk wr g50 26 #[Value.int .i64 r26.srv.st.rev, Value.slice q40a r26.srv.st.jobs.length d40a, Value.slice q40b r26.srv.st.nodes.length d40b, Value.slice q40c r26.srv.st.leases.length d40c] ∧ StOwn wr 0 q40a q40b q40c d40a d40b d40c r26.srv.st) (fun i _ => r26.srv.st.leases.length - (intOf i).toNat)
        case atStart => exact ⟨0, Nat.zero_le _, rfl, i47, c48, b45, o46.less (Nat.zero_le _)⟩
        case round =>
          obtain ⟨k, hk, rfl, hI2, cc2, bt, ow⟩ := hrel
          clear i47 c48 b45 o46
          have hll : r26.srv.st.leases.length ≤ 40 := FL.out.nl
          by_cases hlt : k < r26.srv.st.leases.length
          · have hx : r26.srv.st.leases[k]? = some r26.srv.st.leases[k] := List.getElem?_eq_getElem hlt
            have hlate : decide ((r26.srv.st.leases[k]).till ≤ r26.srv.now) = false := decide_eq_false (by have := HLT.out _ (List.getElem_mem hlt); omega)
            have HSo := Lib.hid (fun (j : Nat) (hj : j + 1 = k) => List.pairwise_iff_getElem.1 FL.out.sl j k (by omega) hlt (by omega))
            generalize r26.srv.st.leases[k] = x at *
            obtain ⟨a3, ea, hab, _, hat⟩ := ow.m.l.at_ (k := k) (r := rowL x) (by rw [List.getElem?_map, hx]; rfl)
            subst ea
            clear hx
            have hb52 : Below wr.heap.size wr (wr.alloc (.cells #[Value.string x.job, Value.string x.node, Value.int .i64 x.till] 38)) := (Below.refl _ _).alloc (Nat.le_refl _) _
            have b53 := Blk.new wr 38 #[Value.string x.job, Value.string x.node, Value.int .i64 x.till]
            have b54 := bt.below hb52 bt.lt
            have o55 := ow.below hb52
            have i56 := hI2.below hb52
            have c57 := cc2.trans (hb52.mono cc2.size)
            clear bt ow hI2 cc2 hb52
            go_upto_region 18 with (first | (refine wpList_store_new rfl _ _ _ rfl rfl 38 _ #[Value.string x.job, Value.string x.node, Value.int .i64 x.till] rfl lease_size rfl (by simp [Value.oneCell']) ?_) | (refine wpList_load_at rfl _ _ rfl (a3.add (k * 3)) rfl [Value.string x.job, Value.string x.node, Value.int .i64 x.till] _ hat Tryz.underlying38 rfl lease_size ?_) | (refine wpList_load_blk_w (by rfl) _ _ rfl (g50) rfl _ _ b54 _ Tryz.underlying26 rfl state_size ?_) | (refine wpList_load_blk_w (by rfl) _ _ rfl (wr.heap.size) rfl _ _ b53 _ Tryz.underlying38 rfl lease_size ?_))
            generalize wr.alloc _ = W58 at *
            generalize wr.heap.size = g59 at *
            rcases k with _ | j
            · have hB_ : Below W58.heap.size W58 W58.drew := (Below.refl _ _).drew
              have b60 := b54.below hB_ b54.lt
              have b61 := b53.below hB_ b53.lt
              have o62 := o55.below hB_
              have i63 := i56.below hB_
              have c64 := c57.trans (hB_.mono c57.size)
              clear b54 b53 o55 i56 c57
              have G0 : Blk (W58.drew) g50 26 #[Value.int .i64 r26.srv.st.rev, Value.slice q40a r26.srv.st.jobs.length d40a, Value.slice q40b r26.srv.st.nodes.length d40b, Value.slice (some a3) r26.srv.st.leases.length d40c] ∧ Blk (W58.drew) g59 38 #[Value.string x.job, Value.string x.node, Value.int .i64 x.till] := ⟨b60, b61⟩
              refine wp_region_held_drew (S := fun W => Blk W g50 26 #[Value.int .i64 r26.srv.st.rev, Value.slice q40a r26.srv.st.jobs.length d40a, Value.slice q40b r26.srv.st.nodes.length d40b, Value.slice (some a3) r26.srv.st.leases.length d40c] ∧ Blk W g59 38 #[Value.string x.job, Value.string x.node, Value.int .i64 x.till]) (by kernel_rfl) G0 (fun hHeld => ?_)
              refine tk 0 (v := ?_) rfl (Or.inl ⟨by rfl, ?_⟩) ?_
              rotate_left
              · (intro w5 hw5; (try dsimp only at hw5); go_simp; (try with_reducible rfl))
              (try simp only [Act.put, ma, mb, mc, md, me, mf])
              refine tk 1 (v := ?_) rfl (Or.inl ⟨by rfl, ?_⟩) ?_
              rotate_left
              · (intro w5 hw5; (try dsimp only at hw5); obtain ⟨ht_, hx_⟩ := hw5; have fhx2_ := hx_.cell 2; go_simp; (try with_reducible rfl))
              (try simp only [Act.put, ma, mb, mc, md, me, mf])
              refine tk 2 (v := ?_) rfl (Or.inl ⟨by rfl, ?_⟩) ?_
              rotate_left
              · (intro w5 hw5; (try dsimp only at hw5); go_simp; (try with_reducible rfl))
              (try simp only [Act.put, ma, mb, mc, md, me, mf])
              refine wpAnyH_ready (rs := [3]) (by kernel_rfl) (by simp) ?_
              refine AllReadyH.cons rfl (fun K hK => ?_) AllReadyH.nil
              go_simp
              refine (svNow_any g10 r26.srv _ i63).mono ?_
              rintro e u1 ⟨rfl, rfl⟩
              refine hK.out _ _ ?_ (fun hHeld => ?_)
              · exact G0
              clear hK K
              (try simp only [Act.put, ma, mb, mc, md, me, mf])
              refine tk 4 (v := ?_) rfl (Or.inl ⟨by rfl, ?_⟩) ?_
              rotate_left
              · (intro w5 hw5; (try dsimp only at hw5); go_simp; (try with_reducible rfl))
              (try simp only [Act.put, ma, mb, mc, md, me, mf])
              refine tk 5 (v := ?_) rfl (Or.inl ⟨by rfl, ?_⟩) ?_
              rotate_left
              · (intro w5 hw5; (try dsimp only at hw5); go_simp; (try with_reducible rfl))
              (try simp only [Act.put, ma, mb, mc, md, me, mf])
              refine tk 6 (v := ?_) rfl (Or.inl ⟨by rfl, ?_⟩) ?_
              rotate_left
              · (intro w5 hw5; (try dsimp only at hw5); go_simp; (try with_reducible rfl))
              (try simp only [Act.put, ma, mb, mc, md, me, mf])
              refine tk 7 (v := ?_) rfl (Or.inl ⟨by rfl, ?_⟩) ?_
              rotate_left
              · (intro w5 hw5; (try dsimp only at hw5); go_simp; (try with_reducible rfl))
              (try simp only [Act.put, ma, mb, mc, md, me, mf])
              refine tk 8 (v := ?_) rfl (Or.inl ⟨by rfl, ?_⟩) ?_
              rotate_left
              · (intro w5 hw5; (try dsimp only at hw5); go_simp; (try with_reducible rfl))
              (try simp only [Act.put, ma, mb, mc, md, me, mf])
              refine tk 9 (v := undef) rfl (Or.inr ⟨by rfl, rfl⟩) ?_
              (try simp only [Act.put, ma, mb, mc, md, me, mf])
              refine tk 10 (v := undef) rfl (Or.inr ⟨by rfl, rfl⟩) ?_
              (try simp only [Act.put, ma, mb, mc, md, me, mf])
              refine tk 11 (v := undef) rfl (Or.inr ⟨by rfl, rfl⟩) ?_
              (try simp only [Act.put, ma, mb, mc, md, me, mf])
              refine tk 12 (v := undef) rfl (Or.inr ⟨by rfl, rfl⟩) ?_
              (try simp only [Act.put, ma, mb, mc, md, me, mf])
              refine tk 13 (v := undef) rfl (Or.inr ⟨by rfl, rfl⟩) ?_
              (try simp only [Act.put, ma, mb, mc, md, me, mf])
              refine tk 14 (v := undef) rfl (Or.inr ⟨by rfl, rfl⟩) ?_
              (try simp only [Act.put, ma, mb, mc, md, me, mf])
              refine tk 15 (v := undef) rfl (Or.inr ⟨by rfl, rfl⟩) ?_
              (try simp only [Act.put, ma, mb, mc, md, me, mf])
              refine tk 16 (v := undef) rfl (Or.inr ⟨by rfl, rfl⟩) ?_
              (try simp only [Act.put, ma, mb, mc, md, me, mf])
              refine tk 17 (v := undef) rfl (Or.inr ⟨by rfl, rfl⟩) ?_
              (try simp only [Act.put, ma, mb, mc, md, me, mf])
              refine tk 18 (v := undef) rfl (Or.inr ⟨by rfl, rfl⟩) ?_
              (try simp only [Act.put, ma, mb, mc, md, me, mf])
              refine tk 19 (v := ?_) rfl (Or.inl ⟨by rfl, ?_⟩) ?_
              rotate_left
              · (intro w5 hw5; (try dsimp only at hw5); go_simp; (try with_reducible rfl))
              (try simp only [Act.put, ma, mb, mc, md, me, mf])
              refine tk 20 (v := ?_) rfl (Or.inl ⟨by rfl, ?_⟩) ?_
              rotate_left
              · (intro w5 hw5; (try dsimp only at hw5); go_simp; (try with_reducible rfl))
              (try simp only [Act.put, ma, mb, mc, md, me, mf])
              refine wpAnyH_done (by kernel_rfl) ?_ _
              go_wp2_with fail
              go_roundw
              case rel => exact ⟨0 + 1, by omega, by go_num, i63, c64, b60, o62⟩
              case measure => simp [intOf]; omega
            · have hjl : j < r26.srv.st.leases.length := by omega
              obtain ⟨y, hy⟩ : ∃ y, r26.srv.st.leases[j]? = some y := ⟨_, List.getElem?_eq_getElem hjl⟩
              have hlt2 : ltS y.job x.job = true := by have h1 := HSo.out j rfl; rw [List.getElem?_eq_getElem hjl] at hy; injection hy with hy; rw [← hy]; exact h1
              obtain ⟨a4, ea, _, _, hay⟩ := o55.m.l.at_ (k := j) (r := rowL y) (by rw [List.getElem?_map, hy]; rfl)
              injection ea with ea
              subst ea
              have hB_ : Below W58.heap.size W58 W58.drew := (Below.refl _ _).drew
              have b60 := b54.below hB_ b54.lt
              have b61 := b53.below hB_ b53.lt
              have o62 := o55.below hB_
              have i63 := i56.below hB_
              have c64 := c57.trans (hB_.mono c57.size)
              clear b54 b53 o55 i56 c57
              have hcy : W58.drew.cell? (a3.add (j * 3)) = some (.string y.job) := by have := hay 0 _ rfl; simpa [Addr.add] using this
              have hw1 : IntKind.i64.wrap (((j + 1 : Nat) : Int) - 1) = (j : Int) := by rw [IntWalk.i64_in _ (by omega)]; omega
              have hw2 : IntKind.i64.wrap ((j : Int) + 1 - 1) = (j : Int) := by rw [IntWalk.i64_in _ (by omega)]; omega
              have hw3 : IntKind.i64.wrap (j : Int) = (j : Int) := IntWalk.i64_in _ (by omega)
              have hj0 : (0 : Int) ≤ (j : Int) := by omega
              have hj1 : (j : Int) < (r26.srv.st.leases.length : Int) := by omega
              have hb2 : (Op.bytesLess x.job.toList y.job.toList) = false := ltS_asymm hlt2
              have hb3 : (y.job.toList == x.job.toList) = false := by rw [beq_eq_false_iff_ne]; exact fun e => ltS_ne hlt2 (toList_inj e)
              have hb4 : (x.job.toList == y.job.toList) = false := by rw [beq_eq_false_iff_ne]; exact fun e => ltS_ne hlt2 (toList_inj e).symm
              have hb1 : (Op.bytesLess y.job.toList x.job.toList) = true := hlt2
              have G0 : Blk (W58.drew) g50 26 #[Value.int .i64 r26.srv.st.rev, Value.slice q40a r26.srv.st.jobs.length d40a, Value.slice q40b r26.srv.st.nodes.length d40b, Value.slice (some a3) r26.srv.st.leases.length d40c] ∧ Blk (W58.drew) g59 38 #[Value.string x.job, Value.string x.node, Value.int .i64 x.till] ∧ W58.drew.cell? (a3.add (j * 3)) = some (.string y.job) := ⟨b60, b61, hcy⟩
              refine wp_region_held_drew (S := fun W => Blk W g50 26 #[Value.int .i64 r26.srv.st.rev, Value.slice q40a r26.srv.st.jobs.length d40a, Value.slice q40b r26.srv.st.nodes.length d40b, Value.slice (some a3) r26.srv.st.leases.length d40c] ∧ Blk W g59 38 #[Value.string x.job, Value.string x.node, Value.int .i64 x.till] ∧ W.cell? (a3.add (j * 3)) = some (.string y.job)) (by kernel_rfl) G0 (fun hHeld => ?_)
              refine tk 0 (v := ?_) rfl (Or.inl ⟨by rfl, ?_⟩) ?_
              rotate_left
              · (intro w5 hw5; (try dsimp only at hw5); go_simp; (try with_reducible rfl))
              (try simp only [Act.put, ma, mb, mc, md, me, mf])
              refine tk 1 (v := ?_) rfl (Or.inl ⟨by rfl, ?_⟩) ?_
              rotate_left
              · (intro w5 hw5; (try dsimp only at hw5); obtain ⟨ht_, hx_, hy_⟩ := hw5; have fhx2_ := hx_.cell 2; go_simp; (try with_reducible rfl))
              (try simp only [Act.put, ma, mb, mc, md, me, mf])
              refine tk 2 (v := ?_) rfl (Or.inl ⟨by rfl, ?_⟩) ?_
              rotate_left
              · (intro w5 hw5; (try dsimp only at hw5); go_simp; (try with_reducible rfl))
              (try simp only [Act.put, ma, mb, mc, md, me, mf])
              refine wpAnyH_ready (rs := [3]) (by kernel_rfl) (by simp) ?_
              refine AllReadyH.cons rfl (fun K hK => ?_) AllReadyH.nil
              go_simp
              refine (svNow_any g10 r26.srv _ i63).mono ?_
              rintro e u1 ⟨rfl, rfl⟩
              refine hK.out _ _ ?_ (fun hHeld => ?_)
              · exact G0
              clear hK K
              (try simp only [Act.put, ma, mb, mc, md, me, mf])
              refine tk 4 (v := ?_) rfl (Or.inl ⟨by rfl, ?_⟩) ?_
              rotate_left
              · (intro w5 hw5; (try dsimp only at hw5); go_simp; (try with_reducible rfl))
              (try simp only [Act.put, ma, mb, mc, md, me, mf])
              refine tk 5 (v := ?_) rfl (Or.inl ⟨by rfl, ?_⟩) ?_
              rotate_left
              · (intro w5 hw5; (try dsimp only at hw5); go_simp; (try with_reducible rfl))
              (try simp only [Act.put, ma, mb, mc, md, me, mf])
              refine tk 6 (v := ?_) rfl (Or.inl ⟨by rfl, ?_⟩) ?_
              rotate_left
              · (intro w5 hw5; (try dsimp only at hw5); go_simp; (try with_reducible rfl))
              (try simp only [Act.put, ma, mb, mc, md, me, mf])
              refine tk 7 (v := ?_) rfl (Or.inl ⟨by rfl, ?_⟩) ?_
              rotate_left
              · (intro w5 hw5; (try dsimp only at hw5); go_simp; (try with_reducible rfl))
              (try simp only [Act.put, ma, mb, mc, md, me, mf])
              refine tk 8 (v := ?_) rfl (Or.inl ⟨by rfl, ?_⟩) ?_
              rotate_left
              · (intro w5 hw5; (try dsimp only at hw5); go_simp; (try with_reducible rfl))
              (try simp only [Act.put, ma, mb, mc, md, me, mf])
              refine tk 9 (v := ?_) rfl (Or.inl ⟨by rfl, ?_⟩) ?_
              rotate_left
              · (intro w5 hw5; (try dsimp only at hw5); go_simp; (try with_reducible rfl))
              (try simp only [Act.put, ma, mb, mc, md, me, mf])
              refine tk 10 (v := ?_) rfl (Or.inl ⟨by rfl, ?_⟩) ?_
              rotate_left
              · (intro w5 hw5; (try dsimp only at hw5); obtain ⟨ht_, hx_, hy_⟩ := hw5; have fht3_ := ht_.cell 3; go_simp; (try with_reducible rfl))
              (try simp only [Act.put, ma, mb, mc, md, me, mf])
              refine tk 11 (v := ?_) rfl (Or.inl ⟨by rfl, ?_⟩) ?_
              rotate_left
              · (intro w5 hw5; (try dsimp only at hw5); go_simp; (try with_reducible rfl))
              (try simp only [Act.put, ma, mb, mc, md, me, mf])
              refine tk 12 (v := ?_) rfl (Or.inl ⟨by rfl, ?_⟩) ?_
              rotate_left
              · (intro w5 hw5; (try dsimp only at hw5); go_simp; (try with_reducible rfl))
              (try simp only [Act.put, ma, mb, mc, md, me, mf])
              refine tk 13 (v := ?_) rfl (Or.inl ⟨by rfl, ?_⟩) ?_
              rotate_left
              · (intro w5 hw5; (try dsimp only at hw5); go_simp; (try with_reducible rfl))
              (try simp only [Act.put, ma, mb, mc, md, me, mf])
              refine tk 14 (v := ?_) rfl (Or.inl ⟨by rfl, ?_⟩) ?_
              rotate_left
              · (intro w5 hw5; (try dsimp only at hw5); go_simp; (try with_reducible rfl))
              (try simp only [Act.put, ma, mb, mc, md, me, mf])
              refine tk 15 (v := ?_) rfl (Or.inl ⟨by rfl, ?_⟩) ?_
              rotate_left
              · (intro w5 hw5; (try dsimp only at hw5); obtain ⟨ht_, hx_, hy_⟩ := hw5; go_simp; (try with_reducible rfl))
              (try simp only [Act.put, ma, mb, mc, md, me, mf])
              refine tk 16 (v := ?_) rfl (Or.inl ⟨by rfl, ?_⟩) ?_
              rotate_left
              · (intro w5 hw5; (try dsimp only at hw5); go_simp; (try with_reducible rfl))
              (try simp only [Act.put, ma, mb, mc, md, me, mf])
              refine tk 17 (v := ?_) rfl (Or.inl ⟨by rfl, ?_⟩) ?_
              rotate_left
              · (intro w5 hw5; (try dsimp only at hw5); obtain ⟨ht_, hx_, hy_⟩ := hw5; have fhx0_ := hx_.cell 0; go_simp; (try with_reducible rfl))
              (try simp only [Act.put, ma, mb, mc, md, me, mf])
              refine tk 18 (v := ?_) rfl (Or.inl ⟨by rfl, ?_⟩) ?_
              rotate_left
              · (intro w5 hw5; (try dsimp only at hw5); go_simp; (try with_reducible rfl))
              (try simp only [Act.put, ma, mb, mc, md, me, mf])
              refine tk 19 (v := ?_) rfl (Or.inl ⟨by rfl, ?_⟩) ?_
              rotate_left
              · (intro w5 hw5; (try dsimp only at hw5); go_simp; (try with_reducible rfl))
              (try simp only [Act.put, ma, mb, mc, md, me, mf])
              refine tk 20 (v := ?_) rfl (Or.inl ⟨by rfl, ?_⟩) ?_
              rotate_left
              · (intro w5 hw5; (try dsimp only at hw5); go_simp; (try with_reducible rfl))
              (try simp only [Act.put, ma, mb, mc, md, me, mf])
              refine wpAnyH_done (by kernel_rfl) ?_ _
              go_wp2_with fail
              go_roundw
              case rel => exact ⟨j + 1 + 1, by omega, by go_num, i63, c64, b60, o62⟩
              case measure => simp [intOf]; omega
          · obtain rfl : k = r26.srv.st.leases.length := by omega
            go_wp2_with fail
            go_ret
            exact ⟨rfl, cc2⟩
  · have HB := Lib.hid hE
    have hne : (((checkE s0 : Nat) : Int) != 0) = true := by rw [bne_iff_ne]; omega
    clear hE
    go_enter Tryz.func5, Tryz.ntmps5
    go_wp2_with fail
    generalize w.alloc _ = W3 at *
    refine (served_any _ (HT.out.below c2)).mono ?_
    rintro e w4 ⟨rfl, hb5⟩
    have b6 := b1.below hb5 b1.lt
    have c7 := c2.trans (hb5.mono c2.size)
    clear b1 c2 hb5
    go_wp2_with (first | (refine wpList_load_blk_w (by rfl) _ _ rfl (w.heap.size) rfl _ _ b6 _ Tryz.underlying26 rfl state_size ?_))
    refine (svNew_bad s0 pj0 pn0 pl0 cj0 cn0 cl0 _ ((HM0.out.below c7).more c7.size) HZ0.out (HT.out.below c7) HB.out).mono ?_
    rintro e w8 ⟨rfl, hb9⟩
    have b10 := b6.below hb9 b6.lt
    have c11 := c7.trans (hb9.mono c7.size)
    clear b6 c7 hb9
    go_wp2_with fail
    go_ret
    exact ⟨rfl, c11⟩
end Go.Proofs.YtffddjdfpggglaaGreatDoor.serveLeases
