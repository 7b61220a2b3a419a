/-
  Several texts in one: VServeMay.
-/
import Derived.Test.YtffddjdfpggglaaGreatDoorPkHeld
import Derived.Test.YtffddjdfpggglaaGreatDoorPkBase
import Derived.Test.YtffddjdfpggglaaGreatDoorPkSvLaw
set_option linter.unusedVariables false
set_option linter.unusedSimpArgs false
set_option maxHeartbeats 16000000
set_option maxRecDepth 100000
namespace Go.Proofs.YtffddjdfpggglaaGreatDoor.serveMay
open Go.ChangeShapes Go.WideShapes Go.ChangeAt Go.RowKit Go.Joins
open Go.ChangeMaps (open_string)
theorem walk (s0 : St) (pj0 pn0 pl0 : Option Addr) (cj0 cn0 cl0 : Nat) (w : World) (hm0 : StM w w.heap.size pj0 pn0 pl0 s0) (hk0 : StOk s0) (pq1 : Option Addr) (cq1 : Nat) (l1 : List ReqD) (hel1 : Elts w w.heap.size 14 pq1 (l1.map rowQ)) (hok1 : ∀ x ∈ l1, okQ x) (hl1 : l1.length ≤ 9223372036854775807) (hT : Tabs w) :
    Calls Tryz.prog 3 #[.agg #[Value.int .i64 s0.rev, Value.slice pj0 s0.jobs.length cj0, Value.slice pn0 s0.nodes.length cn0, Value.slice pl0 s0.leases.length cl0], .slice pq1 l1.length cq1] w fun e w' => e = .returned (.bool true) ∧ Below w.heap.size w w' := by
  have b1 := Blk.new w 26 #[Value.int .i64 s0.rev, Value.slice pj0 s0.jobs.length cj0, Value.slice pn0 s0.nodes.length cn0, Value.slice pl0 s0.leases.length cl0]
  have c2 : Below w.heap.size w (w.alloc (.cells #[Value.int .i64 s0.rev, Value.slice pj0 s0.jobs.length cj0, Value.slice pn0 s0.nodes.length cn0, Value.slice pl0 s0.leases.length cl0] 26)) := ((Below.refl _ _).alloc (Nat.le_refl _) (.cells #[Value.int .i64 s0.rev, Value.slice pj0 s0.jobs.length cj0, Value.slice pn0 s0.nodes.length cn0, Value.slice pl0 s0.leases.length cl0] 26))
  have HM0 := Lib.hid hm0
  have HZ0 := Lib.hid hk0.sz
  have HEL := Lib.hid hel1
  have HOK := Lib.hid hok1
  have HT := Lib.hid hT
  have hzr := zero_rep_lit
  have hzd := zero_delta_lit
  have hzs := zero_state_lit
  have hzq := zero_request_lit
  have hzj := zero_job_lit
  have hzl := zero_lease_lit
  have z0 : (((0 : Nat) : Int) != 0) = false := rfl
  have z1 : (((0 : Nat) : Int) == 0) = true := rfl
  clear hT hm0 hk0 hel1 hok1
  by_cases hE : checkE s0 = 0
  · have HE := Lib.hid hE
    have F0 := Lib.hid ((fine_iff s0).1 hE)
    clear hE
    go_enter Tryz.func3, Tryz.ntmps3
    go_wp2_with fail
    generalize w.alloc _ = W3 at *
    refine (served_any _ (HT.out.below c2)).mono ?_
    rintro e w4 ⟨rfl, hb5⟩
    have b6 := b1.below hb5 b1.lt
    have c7 := c2.trans (hb5.mono c2.size)
    clear b1 c2 hb5
    go_wp2_with (first | (refine wpList_load_blk_w (by rfl) _ _ rfl (w.heap.size) rfl _ _ b6 _ Tryz.underlying26 rfl state_size ?_))
    have OK14 := Lib.hid (show SrvOk ⟨s0, 0⟩ from ⟨F0.out, Int.le_refl _, (by decide : (0 : Int) ≤ 1099511627776)⟩)
    refine (svNew_ok s0 pj0 pn0 pl0 cj0 cn0 cl0 _ ((HM0.out.below c7).more c7.size) HZ0.out (HT.out.below c7) HE.out).mono ?_
    rintro e w8 ⟨g10, rfl, hg11, i12, hb9⟩
    have ge13 : w.heap.size ≤ g10 := Nat.le_trans c7.size hg11
    clear hg11
    have b15 := b6.below hb9 b6.lt
    have c16 := c7.trans (hb9.mono c7.size)
    clear b6 c7 hb9
    have cl17 : w8.cell? ⟨w.heap.size, 0, none⟩ = some (Value.int .i64 s0.rev) := b15.cell 0
    go_wp2_with (first | (refine wpList_load_blk_w (by rfl) _ _ rfl (w.heap.size) rfl _ _ b15 _ Tryz.underlying26 rfl state_size ?_))
    clear cl17
    go_loopw [7, 8, 38] (fun rev now i wr => ∃ (k : Nat) (v : Srv), k ≤ l1.length ∧ i = .int .i64 k ∧ rev = .int .i64 v.st.rev ∧ now = .int .i64 v.now ∧ SvI wr g10 v ∧ Hid (SrvOk v) ∧ Below w.heap.size w wr) (fun _ _ i _ => l1.length - (intOf i).toNat)
    case atStart => exact ⟨0, ⟨s0, 0⟩, Nat.zero_le _, rfl, rfl, rfl, i12, OK14.out, c16⟩
    case round =>
      obtain ⟨k, v, hk, rfl, rfl, rfl, hI, OKv, cc⟩ := hrel
      clear i12 c16 b15
      by_cases hlt : k < l1.length
      · have hx : l1[k]? = some l1[k] := List.getElem?_eq_getElem hlt
        have hq := HOK.out l1[k] (List.getElem_mem hlt)
        generalize l1[k] = q at *
        obtain ⟨a, rfl, hab, _, hat⟩ := (HEL.out.below cc).at_ (k := k) (r := rowQ q) (by rw [List.getElem?_map, hx]; rfl)
        have HSq := Lib.hid (ReqSz.of hq)
        clear hx hq hab
        have hb18 : Below wr.heap.size wr (wr.alloc (.cells #[Value.int .i64 q.kind, Value.string q.job.name, Value.int .i64 q.job.prio, Value.int .i64 q.job.need, Value.int .i64 q.job.tries, Value.string q.job.tag, Value.string q.node.name, Value.int .i64 q.node.room, Value.string q.node.zone, Value.string q.lease.job, Value.string q.lease.node, Value.int .i64 q.lease.till, Value.string q.name, Value.int .i64 q.n] 40)) := (Below.refl _ _).alloc (Nat.le_refl _) _
        have b19 := Blk.new wr 40 #[Value.int .i64 q.kind, Value.string q.job.name, Value.int .i64 q.job.prio, Value.int .i64 q.job.need, Value.int .i64 q.job.tries, Value.string q.job.tag, Value.string q.node.name, Value.int .i64 q.node.room, Value.string q.node.zone, Value.string q.lease.job, Value.string q.lease.node, Value.int .i64 q.lease.till, Value.string q.name, Value.int .i64 q.n]
        have i20 := hI.below hb18
        have c21 := cc.trans (hb18.mono cc.size)
        clear hI cc hb18
        go_wp2_with (first | (refine wpList_store_new rfl _ _ _ rfl rfl 40 _ #[Value.int .i64 q.kind, Value.string q.job.name, Value.int .i64 q.job.prio, Value.int .i64 q.job.need, Value.int .i64 q.job.tries, Value.string q.job.tag, Value.string q.node.name, Value.int .i64 q.node.room, Value.string q.node.zone, Value.string q.lease.job, Value.string q.lease.node, Value.int .i64 q.lease.till, Value.string q.name, Value.int .i64 q.n] rfl request_size rfl (one_q q.kind q.job q.node q.lease q.name q.n) ?_) | (refine wpList_load_at rfl _ _ rfl (a.add (k * 14)) rfl [Value.int .i64 q.kind, Value.string q.job.name, Value.int .i64 q.job.prio, Value.int .i64 q.job.need, Value.int .i64 q.job.tries, Value.string q.job.tag, Value.string q.node.name, Value.int .i64 q.node.room, Value.string q.node.zone, Value.string q.lease.job, Value.string q.lease.node, Value.int .i64 q.lease.till, Value.string q.name, Value.int .i64 q.n] _ hat Tryz.underlying40 rfl request_size ?_) | (refine wpList_load_blk_w (by rfl) _ _ rfl (wr.heap.size) rfl _ _ b19 _ Tryz.underlying40 rfl request_size ?_))
        generalize wr.alloc _ = W22 at *
        generalize wr.heap.size = g23 at *
        refine (svDo_any q v g10 _ i20 OKv.out HSq.out (HT.out.below c21)).mono ?_
        rintro e w24 ⟨x28a, x28b, x28c, x28d, x28e, x28f, y28a, y28b, y28c, y28d, y28e, y28f, rfl, i25, hg26, hd27⟩
        obtain ⟨cs29, hc30⟩ := i20.blk
        have b31 := blk_srv i20 hg26 b19 (by decide)
        have c32 := below_grown c21 hg26 ge13 c21.size
        have OK33 := Lib.hid (doR_ok OKv.out q).1
        clear i20 c21 hg26 hc30 b19
        have D := Lib.hid (doR_ok OKv.out q)
        generalize hgen28 : (doR v q).srv = v2 at *
        have t35 := two_first (w := w24)
        have t36 := two_second (w := w24) #[Value.int .i64 (((doR v q).code : Nat) : Int), Value.int .i64 v2.st.rev]
        obtain ⟨hb37, G34⟩ := two_blks (w := w24) (rc := #[Value.int .i64 (((doR v q).code : Nat) : Int), Value.int .i64 v2.st.rev]) (dc := #[Value.int .i64 (toldD (doR v q)).frm, Value.int .i64 (toldD (doR v q)).upto, Value.slice x28a (toldD (doR v q)).jobs.length y28a, Value.slice x28b (toldD (doR v q)).nodes.length y28b, Value.slice x28c (toldD (doR v q)).leases.length y28c, Value.slice x28d (toldD (doR v q)).gj.length y28d, Value.slice x28e (toldD (doR v q)).gn.length y28e, Value.slice x28f (toldD (doR v q)).gl.length y28f])
        have b38 := b31.below hb37 b31.lt
        have i39 := i25.below hb37
        have c40 := c32.trans (hb37.mono c32.size)
        clear b31 i25 c32 hb37 hd27
        go_upto_region 11 with (first | (refine wpList_store_blk rfl _ _ _ rfl w24.heap.size rfl _ _ #[Value.int .i64 (((doR v q).code : Nat) : Int), Value.int .i64 v2.st.rev] t35 rfl rep_size rfl (one_rep _ _) ?_) | (refine wpList_store_blk rfl _ _ _ rfl (w24.heap.size + 1) rfl _ _ #[Value.int .i64 (toldD (doR v q)).frm, Value.int .i64 (toldD (doR v q)).upto, Value.slice x28a (toldD (doR v q)).jobs.length y28a, Value.slice x28b (toldD (doR v q)).nodes.length y28b, Value.slice x28c (toldD (doR v q)).leases.length y28c, Value.slice x28d (toldD (doR v q)).gj.length y28d, Value.slice x28e (toldD (doR v q)).gn.length y28e, Value.slice x28f (toldD (doR v q)).gl.length y28f] t36 rfl delta_size rfl (one_d8 _ _ _ _ _ _ _ _ _ _ _ _ _ _ _ _ _ _ _ _) ?_) | (refine wpList_load_blk_w (by rfl) _ _ rfl (g23) rfl _ _ b38 _ Tryz.underlying40 rfl request_size ?_))
        obtain ⟨b43, b44⟩ := G34
        clear t35 t36
        generalize (((w24.alloc _).alloc _).setRow _ _).setRow _ _ = W41 at *
        generalize w24.heap.size = k42 at *
        go_wp2_with (first | (refine wpList_load_blk_w (by rfl) _ _ rfl (g23) rfl _ _ b38 _ Tryz.underlying40 rfl request_size ?_) | (refine wpList_load_blk_w (by rfl) _ _ rfl (k42) rfl _ _ b43 _ Tryz.underlying42 rfl rep_size ?_))
        refine (svState_any g10 v2 _ i39 OK33.out.1).mono ?_
        rintro e w45 ⟨q47a, q47b, q47c, d47a, d47b, d47c, rfl, o48, hb46⟩
        have b49 := b38.below hb46 b38.lt
        have b50 := b43.below hb46 b43.lt
        have i51 := i39.below hb46
        have c52 := c40.trans (hb46.mono c40.size)
        clear b38 b43 i39 c40 hb46
        have hb53 : Below w45.heap.size w45 (w45.alloc (.cells #[Value.int .i64 v2.st.rev, Value.slice q47a v2.st.jobs.length d47a, Value.slice q47b v2.st.nodes.length d47b, Value.slice q47c v2.st.leases.length d47c] 26)) := (Below.refl _ _).alloc (Nat.le_refl _) _
        have b54 := Blk.new w45 26 #[Value.int .i64 v2.st.rev, Value.slice q47a v2.st.jobs.length d47a, Value.slice q47b v2.st.nodes.length d47b, Value.slice q47c v2.st.leases.length d47c]
        have b55 := b49.below hb53 b49.lt
        have b56 := b50.below hb53 b50.lt
        have o57 := o48.below hb53
        have i58 := i51.below hb53
        have c59 := c52.trans (hb53.mono c52.size)
        clear b49 b50 o48 i51 c52 hb53
        go_wp2_with (first | (refine wpList_store_new rfl _ _ _ rfl rfl 26 _ #[Value.int .i64 v2.st.rev, Value.slice q47a v2.st.jobs.length d47a, Value.slice q47b v2.st.nodes.length d47b, Value.slice q47c v2.st.leases.length d47c] rfl state_size rfl (one_st4 _ _ _ _ _ _ _ _ _ _) ?_) | (refine wpList_load_blk_w (by rfl) _ _ rfl (g23) rfl _ _ b55 _ Tryz.underlying40 rfl request_size ?_) | (refine wpList_load_blk_w (by rfl) _ _ rfl (k42) rfl _ _ b56 _ Tryz.underlying42 rfl rep_size ?_) | (refine wpList_load_blk_w (by rfl) _ _ rfl (w45.heap.size) rfl _ _ b54 _ Tryz.underlying26 rfl state_size ?_))
        generalize w45.alloc _ = W60 at *
        generalize w45.heap.size = g61 at *
        refine (stCheck_ok v2.st q47a q47b q47c d47a d47b d47c _ o57.m OK33.out.1 (HT.out.below c59)).mono ?_
        rintro e w62 ⟨rfl, hb63⟩
        have b64 := b55.below hb63 b55.lt
        have b65 := b56.below hb63 b56.lt
        have b66 := b54.below hb63 b54.lt
        have o67 := o57.below hb63
        have i68 := i58.below hb63
        have c69 := c59.trans (hb63.mono c59.size)
        clear b55 b56 b54 o57 i58 c59 hb63
        have w1 : IntKind.i64.wrap (v.st.rev + 1) = v.st.rev + 1 := IntWalk.i64_in _ (by have := OKv.out.1.rev; omega)
        have d1 : decide (v2.st.rev < v.st.rev) = false := decide_eq_false (by have := D.out; omega)
        have d2 : decide (v.st.rev + 1 < v2.st.rev) = false := decide_eq_false (by have := D.out; omega)
        have d3 : decide (v2.now < v.now) = false := decide_eq_false (by have := D.out; omega)
        have cl70 : w62.cell? ⟨g61, 0, none⟩ = some (Value.int .i64 v2.st.rev) := b66.cell 0
        have cl71 : w62.cell? ⟨k42, 1, none⟩ = some (Value.int .i64 v2.st.rev) := b65.cell 1
        go_wp2_with (first | (refine wpList_load_blk_w (by rfl) _ _ rfl (g23) rfl _ _ b64 _ Tryz.underlying40 rfl request_size ?_) | (refine wpList_load_blk_w (by rfl) _ _ rfl (k42) rfl _ _ b65 _ Tryz.underlying42 rfl rep_size ?_) | (refine wpList_load_blk_w (by rfl) _ _ rfl (g61) rfl _ _ b66 _ Tryz.underlying26 rfl state_size ?_))
        refine (svNow_any g10 v2 _ i68).mono ?_
        rintro e w72 ⟨rfl, rfl⟩
        go_upto_region 14 with fail
        clear cl70 cl71 d1 d2 d3 w1
        have hB_ : Below w62.heap.size w62 w62.drew := (Below.refl _ _).drew
        have b73 := b64.below hB_ b64.lt
        have b74 := b65.below hB_ b65.lt
        have b75 := b66.below hB_ b66.lt
        have o76 := o67.below hB_
        have i77 := i68.below hB_
        have c78 := c69.trans (hB_.mono c69.size)
        clear b64 b65 b66 o67 i68 c69
        refine wp_region_held_drew (S := fun W => Blk W g61 26 #[Value.int .i64 v2.st.rev, Value.slice q47a v2.st.jobs.length d47a, Value.slice q47b v2.st.nodes.length d47b, Value.slice q47c v2.st.leases.length d47c]) (by kernel_rfl) b75 (fun hHeld => ?_)
        refine tk 0 (v := ?_) rfl (Or.inl ⟨by rfl, ?_⟩) ?_
        rotate_left
        · (intro w5 hw5; (try dsimp only at hw5); have f0_ := hw5.cell 0; go_simp; (try with_reducible rfl))
        (try simp only [Act.put, ma, mb, mc, md, me, mf])
        refine tk 1 (v := ?_) rfl (Or.inl ⟨by rfl, ?_⟩) ?_
        rotate_left
        · (intro w5 hw5; (try dsimp only at hw5); have f0_ := hw5.cell 0; go_simp; (try with_reducible rfl))
        (try simp only [Act.put, ma, mb, mc, md, me, mf])
        refine tk 2 (v := ?_) rfl (Or.inl ⟨by rfl, ?_⟩) ?_
        rotate_left
        · (intro w5 hw5; (try dsimp only at hw5); have f0_ := hw5.cell 0; go_simp; (try with_reducible rfl))
        (try simp only [Act.put, ma, mb, mc, md, me, mf])
        refine wpAnyH_ready (rs := [3]) (by kernel_rfl) (by simp) ?_
        refine AllReadyH.cons rfl (fun K hK => ?_) AllReadyH.nil
        go_simp
        refine (svNow_any g10 v2 _ i77).mono ?_
        rintro e wz ⟨rfl, rfl⟩
        refine hK.out _ _ ?_ (fun hHeld => ?_)
        · exact b75
        clear hK K
        (try simp only [Act.put, ma, mb, mc, md, me, mf])
        refine tk 4 (v := ?_) rfl (Or.inl ⟨by rfl, ?_⟩) ?_
        rotate_left
        · (intro w5 hw5; (try dsimp only at hw5); have f0_ := hw5.cell 0; go_simp; (try with_reducible rfl))
        (try simp only [Act.put, ma, mb, mc, md, me, mf])
        refine tk 5 (v := ?_) rfl (Or.inl ⟨by rfl, ?_⟩) ?_
        rotate_left
        · (intro w5 hw5; (try dsimp only at hw5); have f0_ := hw5.cell 0; go_simp; (try with_reducible rfl))
        (try simp only [Act.put, ma, mb, mc, md, me, mf])
        refine wpAnyH_done (by kernel_rfl) ?_ _
        go_wp2_with fail
        go_roundw
        case rel => exact ⟨k + 1, v2, by omega, by go_num, rfl, rfl, i77, OK33.out, c78⟩
        case measure => simp [intOf]; omega
      · obtain rfl : k = l1.length := by omega
        go_wp2_with fail
        go_ret
        exact ⟨rfl, cc⟩
  · have HB := Lib.hid hE
    have hne : (((checkE s0 : Nat) : Int) != 0) = true := by rw [bne_iff_ne]; omega
    clear hE
    go_enter Tryz.func3, Tryz.ntmps3
    go_wp2_with fail
    generalize w.alloc _ = W3 at *
    refine (served_any _ (HT.out.below c2)).mono ?_
    rintro e w4 ⟨rfl, hb5⟩
    have b6 := b1.below hb5 b1.lt
    have c7 := c2.trans (hb5.mono c2.size)
    clear b1 c2 hb5
    go_wp2_with (first | (refine wpList_load_blk_w (by rfl) _ _ rfl (w.heap.size) rfl _ _ b6 _ Tryz.underlying26 rfl state_size ?_))
    refine (svNew_bad s0 pj0 pn0 pl0 cj0 cn0 cl0 _ ((HM0.out.below c7).more c7.size) HZ0.out (HT.out.below c7) HB.out).mono ?_
    rintro e w8 ⟨rfl, hb9⟩
    have b10 := b6.below hb9 b6.lt
    have c11 := c7.trans (hb9.mono c7.size)
    clear b6 c7 hb9
    go_wp2_with fail
    go_ret
    exact ⟨rfl, c11⟩
end Go.Proofs.YtffddjdfpggglaaGreatDoor.serveMay
