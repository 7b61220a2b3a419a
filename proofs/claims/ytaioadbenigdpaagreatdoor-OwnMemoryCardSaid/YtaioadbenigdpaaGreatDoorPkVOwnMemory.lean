/-
  Several texts in one: VOwnMemory.
-/
import Derived.Test.YtaioadbenigdpaaGreatDoorPkHeld
import Derived.Test.YtaioadbenigdpaaGreatDoorPkBase
import Derived.Test.YtaioadbenigdpaaGreatDoorPkSvLaw
import Derived.Test.YtaioadbenigdpaaGreatDoorPkSvMem
import Derived.Test.YtaioadbenigdpaaGreatDoorPkCopyB
import Derived.Test.YtaioadbenigdpaaGreatDoorPkStOpenB
set_option linter.unusedVariables false
set_option linter.unusedSimpArgs false
set_option maxHeartbeats 16000000
set_option maxRecDepth 100000
namespace Go.Proofs.YtaioadbenigdpaaGreatDoor.ownMemory
open Go.ChangeShapes Go.WideShapes Go.ChangeAt Go.RowKit Go.Joins
open Go.ChangeMaps (open_string)
theorem walk (s0 : St) (pj0 pn0 pl0 : Option Addr) (cj0 cn0 cl0 : Nat) (w : World) (hm0 : StM w w.heap.size pj0 pn0 pl0 s0) (hk0 : StOk s0) (hby0 : s0.jobs.length * 56 ≤ 140737488351232 ∧ s0.nodes.length * 40 ≤ 140737488351232 ∧ s0.leases.length * 40 ≤ 140737488351232) (pq1 : Option Addr) (cq1 : Nat) (l1 : List ReqD) (hel1 : Elts w w.heap.size 14 pq1 (l1.map rowQ)) (hok1 : ∀ x ∈ l1, okQ x) (hl1 : l1.length ≤ 9223372036854775807) (hT : Tabs w) :
  Calls Tryz.prog 3 #[.agg #[.int .i64 s0.rev, .slice pj0 s0.jobs.length cj0, .slice pn0 s0.nodes.length cn0, .slice pl0 s0.leases.length cl0], .slice pq1 l1.length cq1] w fun e w' => e = .returned (.bool true) ∧ Below w.heap.size w w' := by
 have b1 := (Blk.new w 26 #[.int .i64 s0.rev, .slice pj0 s0.jobs.length cj0, .slice pn0 s0.nodes.length cn0, .slice pl0 s0.leases.length cl0])
 have c2 : Below w.heap.size w (w.alloc (.cells #[.int .i64 s0.rev, .slice pj0 s0.jobs.length cj0, .slice pn0 s0.nodes.length cn0, .slice pl0 s0.leases.length cl0] 26)) := ((Below.refl _ _).alloc (Nat.le_refl _) (.cells #[.int .i64 s0.rev, .slice pj0 s0.jobs.length cj0, .slice pn0 s0.nodes.length cn0, .slice pl0 s0.leases.length cl0] 26))
 have HM0 := Lib.hid hm0
 have HZ0 := Lib.hid hk0.sz
 have HEL := Lib.hid hel1
 have HOK := Lib.hid hok1
 have HLJ := Lib.hid (show s0.jobs.length * 56 ≤ 140737488355328 from by omega)
 have HLN := Lib.hid (show s0.nodes.length * 40 ≤ 140737488355328 from by omega)
 have HLL := Lib.hid (show s0.leases.length * 40 ≤ 140737488355328 from by omega)
 have HT := Lib.hid hT
 have hzr := zero_rep_lit
 have hzd := zero_delta_lit
 have hzs := zero_state_lit
 have hzq := zero_request_lit
 have hzj := zero_job_lit
 have hzl := zero_lease_lit
 have z0 : (((0 : Nat) : Int) != 0) = false := rfl
 have z1 : (((0 : Nat) : Int) == 0) = true := rfl
 clear hT hm0 hk0 hby0 hel1 hok1
 by_cases hE : checkE s0 = 0
 ·have HE := Lib.hid hE
  have F0 := Lib.hid ((fine_iff s0).1 hE)
  clear hE
  go_enter Tryz.func3, Tryz.ntmps3
  go_wp2_with fail
  generalize w.alloc _ = W3 at *
  refine (served_any _ (HT.out.below c2)).mono ?_
  rintro e w4 ⟨rfl, hb5⟩
  have b6 := b1.below hb5 b1.lt
  have c7 := c2.trans (hb5.mono c2.size)
  clear b1 c2 hb5
  go_upto_region 3 with fail
  have hB_ : Below w4.heap.size w4 w4.drew := (Below.refl _ _).drew
  have b8 := b6.below hB_ b6.lt
  have c9 := c7.trans (hB_.mono c7.size)
  clear b6 c7 hB_
  refine wp_region_held_drew (S := fun W => Blk W w.heap.size 26 #[.int .i64 s0.rev, .slice pj0 s0.jobs.length cj0, .slice pn0 s0.nodes.length cn0, .slice pl0 s0.leases.length cl0]) (by kernel_rfl) b8 (fun hHeld => ?_)
  refine tk 0 (v := ?_) rfl (Or.inl ⟨by rfl, ?_⟩) ?_
  rotate_left
  ·(intro w5 hw5; go_simp; (try with_reducible rfl))
  (try simp only [Act.put, ma, mb, mc, md, me, mf])
  refine tk 1 (v := ?_) rfl (Or.inl ⟨by rfl, ?_⟩) ?_
  rotate_left
  ·(intro w5 hw5; have fhw51_ := hw5.cell 1; go_simp; (try with_reducible rfl))
  (try simp only [Act.put, ma, mb, mc, md, me, mf])
  refine tk 3 (v := ?_) rfl (Or.inl ⟨by rfl, ?_⟩) ?_
  rotate_left
  ·(intro w5 hw5; go_simp; (try with_reducible rfl))
  (try simp only [Act.put, ma, mb, mc, md, me, mf])
  refine tk 4 (v := ?_) rfl (Or.inl ⟨by rfl, ?_⟩) ?_
  rotate_left
  ·(intro w5 hw5; have fhw52_ := hw5.cell 2; go_simp; (try with_reducible rfl))
  (try simp only [Act.put, ma, mb, mc, md, me, mf])
  refine tk 6 (v := ?_) rfl (Or.inl ⟨by rfl, ?_⟩) ?_
  rotate_left
  ·(intro w5 hw5; go_simp; (try with_reducible rfl))
  (try simp only [Act.put, ma, mb, mc, md, me, mf])
  refine tk 7 (v := ?_) rfl (Or.inl ⟨by rfl, ?_⟩) ?_
  rotate_left
  ·(intro w5 hw5; have fhw53_ := hw5.cell 3; go_simp; (try with_reducible rfl))
  (try simp only [Act.put, ma, mb, mc, md, me, mf])
  refine tr 2 rfl (fun K hK => ?_)
  go_simp
  refine (copyBJ_any pj0 cj0 s0.jobs _ ((HM0.out.below c9).more c9.size).j HLJ.out).mono ?_
  rintro e u1 ⟨ja, jc, rfl, hRJ, hb1⟩
  have B1 := b8.below hb1 b8.lt
  have cc1 := c9.trans (hb1.mono c9.size)
  refine hK.out _ _ ?_ (fun hHeld => ?_)
  ·exact B1
  clear hK K
  (try simp only [Act.put, ma, mb, mc, md, me, mf])
  refine tr 5 rfl (fun K hK => ?_)
  go_simp
  refine (copyBN_any pn0 cn0 s0.nodes _ ((HM0.out.below cc1).more cc1.size).n HLN.out).mono ?_
  rintro e u2 ⟨na, nc, rfl, hRN, hb2⟩
  have B2 := B1.below hb2 B1.lt
  have cc2 := cc1.trans (hb2.mono cc1.size)
  refine hK.out _ _ ?_ (fun hHeld => ?_)
  ·exact B2
  clear hK K
  (try simp only [Act.put, ma, mb, mc, md, me, mf])
  refine tr 8 rfl (fun K hK => ?_)
  go_simp
  refine (copyBL_any pl0 cl0 s0.leases _ ((HM0.out.below cc2).more cc2.size).l HLL.out).mono ?_
  rintro e u3 ⟨la, lc, rfl, hRL, hb3⟩
  have B3 := B2.below hb3 B2.lt
  have cc3 := cc2.trans (hb3.mono cc2.size)
  refine hK.out _ _ ?_ (fun hHeld => ?_)
  ·exact B3
  clear hK K
  (try simp only [Act.put, ma, mb, mc, md, me, mf])
  refine tk 9 (v := ?_) rfl (Or.inl ⟨by rfl, ?_⟩) ?_
  rotate_left
  ·(intro w5 hw5; go_simp; (try with_reducible rfl))
  (try simp only [Act.put, ma, mb, mc, md, me, mf])
  refine tk 10 (v := ?_) rfl (Or.inl ⟨by rfl, ?_⟩) ?_
  rotate_left
  ·(intro w5 hw5; go_simp; (try with_reducible rfl))
  (try simp only [Act.put, ma, mb, mc, md, me, mf])
  refine tk 11 (v := ?_) rfl (Or.inl ⟨by rfl, ?_⟩) ?_
  rotate_left
  ·(intro w5 hw5; go_simp; (try with_reducible rfl))
  (try simp only [Act.put, ma, mb, mc, md, me, mf])
  refine wpAnyH_done (by kernel_rfl) ?_ _
  have hCP : StOwn u3 0 ja na la jc nc lc s0 := ⟨(Own.of ((hRJ.below hb2).below hb3)).less (Nat.zero_le _), (Own.of (hRN.below hb3)).less (Nat.zero_le _), (Own.of hRL).less (Nat.zero_le _)⟩
  clear b8 c9 hHeld B1 B2 cc1 cc2 hRJ hRN hRL hb1 hb2 hb3
  go_wp2_with (first | (refine wpList_load_blk_w (by rfl) _ _ rfl (w.heap.size) rfl _ _ B3 _ Tryz.underlying26 rfl state_size ?_))
  have OK16 := Lib.hid (show SrvOk ⟨s0, 0⟩ from ⟨F0.out, Int.le_refl _, (by decide : (0 : Int) ≤ 1099511627776)⟩)
  refine (svNew_ok s0 pj0 pn0 pl0 cj0 cn0 cl0 _ ((HM0.out.below cc3).more cc3.size) HZ0.out (HT.out.below cc3) HE.out).mono ?_
  rintro e w10 ⟨g12, rfl, hg13, i14, hb11⟩
  have ge15 : w.heap.size ≤ g12 := Nat.le_trans cc3.size hg13
  clear hg13
  have b17 := B3.below hb11 B3.lt
  have o18 := hCP.below hb11
  have c19 := cc3.trans (hb11.mono cc3.size)
  clear B3 hCP cc3 hb11
  go_wp2_with (first | (refine wpList_load_blk_w (by rfl) _ _ rfl (w.heap.size) rfl _ _ b17 _ Tryz.underlying26 rfl state_size ?_))
  go_loopw [41] (fun i wr => ∃ (k : Nat) (v : Srv), k ≤ l1.length ∧ i = .int .i64 k ∧ SvI wr g12 v ∧ Hid (SrvOk v) ∧ Below w.heap.size w wr ∧ StOwn wr 0 ja na la jc nc lc s0 ∧ Blk wr w.heap.size 26 #[.int .i64 s0.rev, .slice pj0 s0.jobs.length cj0, .slice pn0 s0.nodes.length cn0, .slice pl0 s0.leases.length cl0]) (fun i _ => l1.length - (intOf i).toNat)
  case atStart => exact ⟨0, ⟨s0, 0⟩, Nat.zero_le _, rfl, i14, OK16.out, c19, o18, b17⟩
  case round =>
   obtain ⟨k, v, hk, rfl, hI, OKv, cc, oc, bs⟩ := hrel
   clear i14 c19 b17 o18
   by_cases hlt : k < l1.length
   ·have hx : l1[k]? = some l1[k] := List.getElem?_eq_getElem hlt
    have hq := HOK.out l1[k] (List.getElem_mem hlt)
    generalize l1[k] = q at *
    obtain ⟨a, rfl, hab, _, hat⟩ := (HEL.out.below cc).at_ (k := k) (r := rowQ q) (by rw [List.getElem?_map, hx]; rfl)
    have HSq := Lib.hid (ReqSz.of hq)
    clear hx hq hab
    have hb20 : Below wr.heap.size wr (wr.alloc (.cells #[.int .i64 q.kind, .string q.job.name, .int .i64 q.job.prio, .int .i64 q.job.need, .int .i64 q.job.tries, .string q.job.tag, .string q.node.name, .int .i64 q.node.room, .string q.node.zone, .string q.lease.job, .string q.lease.node, .int .i64 q.lease.till, .string q.name, .int .i64 q.n] 43)) := (Below.refl _ _).alloc (Nat.le_refl _) _
    have b21 := Blk.new wr 43 #[.int .i64 q.kind, .string q.job.name, .int .i64 q.job.prio, .int .i64 q.job.need, .int .i64 q.job.tries, .string q.job.tag, .string q.node.name, .int .i64 q.node.room, .string q.node.zone, .string q.lease.job, .string q.lease.node, .int .i64 q.lease.till, .string q.name, .int .i64 q.n]
    have b22 := bs.below hb20 bs.lt
    have o23 := oc.below hb20
    have i24 := hI.below hb20
    have c25 := cc.trans (hb20.mono cc.size)
    clear bs oc hI cc hb20
    go_wp2_with (first | (refine wpList_store_new rfl _ _ _ rfl rfl 43 _ #[.int .i64 q.kind, .string q.job.name, .int .i64 q.job.prio, .int .i64 q.job.need, .int .i64 q.job.tries, .string q.job.tag, .string q.node.name, .int .i64 q.node.room, .string q.node.zone, .string q.lease.job, .string q.lease.node, .int .i64 q.lease.till, .string q.name, .int .i64 q.n] rfl request_size rfl (one_q q.kind q.job q.node q.lease q.name q.n) ?_) | (refine wpList_load_at rfl _ _ rfl (a.add (k * 14)) rfl [Value.int .i64 q.kind, Value.string q.job.name, Value.int .i64 q.job.prio, Value.int .i64 q.job.need, Value.int .i64 q.job.tries, Value.string q.job.tag, Value.string q.node.name, Value.int .i64 q.node.room, Value.string q.node.zone, Value.string q.lease.job, Value.string q.lease.node, Value.int .i64 q.lease.till, Value.string q.name, Value.int .i64 q.n] _ hat Tryz.underlying43 rfl request_size ?_) | (refine wpList_load_blk_w (by rfl) _ _ rfl (w.heap.size) rfl _ _ b22 _ Tryz.underlying26 rfl state_size ?_) | (refine wpList_load_blk_w (by rfl) _ _ rfl (wr.heap.size) rfl _ _ b21 _ Tryz.underlying43 rfl request_size ?_))
    generalize wr.alloc _ = W26 at *
    generalize wr.heap.size = g27 at *
    refine (svDo_any q v g12 _ i24 OKv.out HSq.out (HT.out.below c25)).mono ?_
    rintro e w28 ⟨x32a, x32b, x32c, x32d, x32e, x32f, y32a, y32b, y32c, y32d, y32e, y32f, rfl, i29, hg30, hd31⟩
    obtain ⟨cs33, hc34⟩ := i24.blk
    have b35 := blk_srv i24 hg30 b22 (by decide)
    have b36 := blk_srv i24 hg30 b21 (by decide)
    have o37 := o23.other hg30 hc34 (by decide) (by decide) (by decide)
    have c38 := below_grown c25 hg30 ge15 c25.size
    have OK39 := Lib.hid (doR_ok OKv.out q).1
    clear i24 c25 hg30 hc34 b22 b21 o23
    generalize (doR v q) = r40 at *
    generalize r40.srv = v2 at *
    clear hd31
    go_wp2_with (first | (refine wpList_load_blk_w (by rfl) _ _ rfl (w.heap.size) rfl _ _ b35 _ Tryz.underlying26 rfl state_size ?_))
    refine (svState_any g12 v2 _ i29 OK39.out.1).mono ?_
    rintro e u1 ⟨qa, qb, qc, da, db, dc, rfl, hO, hb1⟩
    have hb2 : Below u1.heap.size u1 (u1.alloc (.cells #[.int .i64 v2.st.rev, .slice qa v2.st.jobs.length da, .slice qb v2.st.nodes.length db, .slice qc v2.st.leases.length dc] 26)) := (Below.refl _ _).alloc (Nat.le_refl _) _
    have bt := Blk.new u1 26 #[.int .i64 v2.st.rev, .slice qa v2.st.jobs.length da, .slice qb v2.st.nodes.length db, .slice qc v2.st.leases.length dc]
    have oJ := hO.j.below (B := 0) hb2
    have oL := hO.l.below (B := 0) hb2
    have cB := hb1.trans (hb2.mono hb1.size)
    clear hO hb2 hb1
    go_upto_region 12 with (first | (refine wpList_store_new rfl _ _ _ rfl rfl 26 _ #[.int .i64 v2.st.rev, .slice qa v2.st.jobs.length da, .slice qb v2.st.nodes.length db, .slice qc v2.st.leases.length dc] rfl state_size rfl (one_st4 _ _ _ _ _ _ _ _ _ _) ?_))
    generalize u1.alloc _ = u2 at *
    generalize u1.heap.size = kt at *
    have ct1 : u2.cell? ⟨kt, 1, none⟩ = some (.slice qa v2.st.jobs.length da) := bt.cell 1
    go_wp2_with fail
    clear ct1
    have hb40 : v2.st.jobs.length ≤ 40 := OK39.out.1.nj
    have hb41 : v2.st.leases.length ≤ 40 := OK39.out.1.nl
    go_loopw [53] (fun i wr => ∃ (j : Nat) (l' : List JobD), j ≤ v2.st.jobs.length ∧ i = .int .i64 j ∧ l'.length = v2.st.jobs.length ∧ Own wr w28.heap.size 31 5 qa da (l'.map rowJ) ∧ Own wr w28.heap.size 37 3 qc dc (v2.st.leases.map rowL) ∧ Below w28.heap.size w28 wr ∧ Blk wr kt 26 #[.int .i64 v2.st.rev, .slice qa v2.st.jobs.length da, .slice qb v2.st.nodes.length db, .slice qc v2.st.leases.length dc]) (fun i _ => v2.st.jobs.length - (intOf i).toNat)
    case atStart => exact ⟨0, v2.st.jobs, Nat.zero_le _, rfl, rfl, oJ, oL, cB, bt⟩
    case round =>
     obtain ⟨j, l', hj, rfl, hll, oJ', oL', cB', bt'⟩ := hrel
     clear oJ oL cB bt
     by_cases hlt2 : j < v2.st.jobs.length
     ·have hy : l'[j]? = some (l'[j]'(by omega)) := List.getElem?_eq_getElem (by omega)
      have hne : l'.map rowJ ≠ [] := by intro h; have h2 := congrArg List.length h; rw [List.length_map, List.length_nil] at h2; omega
      obtain ⟨g', A', R', CS, ea, hbg, hg1, hA, hCS, hO'⟩ := putAtJ (own_rowsR oJ' hne) hy noJ
      subst ea
      have HG1 := Lib.hid hg1
      have HA := Lib.hid hA
      have HCS := Lib.hid hCS
      have HO' := Lib.hid hO'
      have hbl : ∃ cs, Blk wr g' 31 cs := ⟨_, hg1⟩
      have HBL := Lib.hid hbl
      have x0 : (0 : Int) ≤ (j : Int) := by omega
      have x1 : (j : Int) < (v2.st.jobs.length : Int) := by omega
      have ct : wr.cell? ⟨kt, 1, none⟩ = some (.slice (some ⟨g', 0, none⟩) v2.st.jobs.length da) := bt'.cell 1
      clear hy hne hg1 hA hCS hO' hbl
      go_wp2_with (first | (refine wpList_store_mid rfl _ _ _ rfl (j * 5) rfl (vs := rowJ noJ) rfl HG1.out HA.out rfl job_size (by intro u hu; simp [rowJ, noJ] at hu; rcases hu with rfl | rfl | rfl | rfl | rfl <;> rfl) CS HCS.out ?_))
      go_roundw
      case rel =>
       obtain ⟨cs, hcs⟩ := HBL.out
       exact ⟨j + 1, l'.set j noJ, by omega, by go_num, by rw [List.length_set]; exact hll, Own.of HO'.out, oL'.other (growR wr g' CS) hcs (by decide), below_setRow cB' hbg CS, bt'.far_row (bt'.ne_ hcs (by decide)) CS⟩
      case measure => clear HBL; have hm_ := hlt2; simp [intOf]; omega
     ·obtain rfl : j = v2.st.jobs.length := by omega
      have ct3 : wr.cell? ⟨kt, 3, none⟩ = some (.slice qc v2.st.leases.length dc) := bt'.cell 3
      clear hlt2 hj hll oJ'
      go_wp2_with fail
      clear ct3
      go_loopw [65] (fun i wr => ∃ (j : Nat) (l' : List LeaseD), j ≤ v2.st.leases.length ∧ i = .int .i64 j ∧ l'.length = v2.st.leases.length ∧ Own wr w28.heap.size 37 3 qc dc (l'.map rowL) ∧ Below w28.heap.size w28 wr ∧ Blk wr kt 26 #[.int .i64 v2.st.rev, .slice qa v2.st.jobs.length da, .slice qb v2.st.nodes.length db, .slice qc v2.st.leases.length dc]) (fun i _ => v2.st.leases.length - (intOf i).toNat)
      case atStart => exact ⟨0, v2.st.leases, Nat.zero_le _, rfl, rfl, oL', cB', bt'⟩
      case round =>
       obtain ⟨j, l', hj, rfl, hll, oL', cB', bt'⟩ := hrel
       by_cases hlt2 : j < v2.st.leases.length
       ·have hy : l'[j]? = some (l'[j]'(by omega)) := List.getElem?_eq_getElem (by omega)
        have hne : l'.map rowL ≠ [] := by intro h; have h2 := congrArg List.length h; rw [List.length_map, List.length_nil] at h2; omega
        obtain ⟨g', A', R', CS, ea, hbg, hg1, hA, hCS, hO'⟩ := putAtL (own_rowsR oL' hne) hy noL
        subst ea
        have HG1 := Lib.hid hg1
        have HA := Lib.hid hA
        have HCS := Lib.hid hCS
        have HO' := Lib.hid hO'
        have hbl : ∃ cs, Blk wr g' 37 cs := ⟨_, hg1⟩
        have HBL := Lib.hid hbl
        have x0 : (0 : Int) ≤ (j : Int) := by omega
        have x1 : (j : Int) < (v2.st.leases.length : Int) := by omega
        have ct : wr.cell? ⟨kt, 3, none⟩ = some (.slice (some ⟨g', 0, none⟩) v2.st.leases.length dc) := bt'.cell 3
        clear hy hne hg1 hA hCS hO' hbl
        go_wp2_with (first | (refine wpList_store_mid rfl _ _ _ rfl (j * 3) rfl (vs := rowL noL) rfl HG1.out HA.out rfl lease_size (by intro u hu; simp [rowL, noL] at hu; rcases hu with rfl | rfl | rfl <;> rfl) CS HCS.out ?_))
        go_roundw
        case rel =>
         obtain ⟨cs, hcs⟩ := HBL.out
         exact ⟨j + 1, l'.set j noL, by omega, by go_num, by rw [List.length_set]; exact hll, Own.of HO'.out, below_setRow cB' hbg CS, bt'.far_row (bt'.ne_ hcs (by decide)) CS⟩
        case measure => clear HBL; have hm_ := hlt2; simp [intOf]; omega
       ·obtain rfl : j = v2.st.leases.length := by omega
        clear hlt2 hj hll oL' bt'
        have b41 := b35.below cB' b35.lt
        have o42 := o37.below cB'
        have i43 := i29.below cB'
        have c44 := c38.trans (cB'.mono c38.size)
        clear b35 o37 i29 c38 cB'
        go_wp2_with (first | (refine wpList_load_blk_w (by rfl) _ _ rfl (w.heap.size) rfl _ _ b41 _ Tryz.underlying26 rfl state_size ?_))
        refine (svState_any g12 v2 _ i43 OK39.out.1).mono ?_
        rintro e w45 ⟨q47a, q47b, q47c, d47a, d47b, d47c, rfl, o48, hb46⟩
        have b49 := b41.below hb46 b41.lt
        have o50 := o42.below hb46
        have i51 := i43.below hb46
        have c52 := c44.trans (hb46.mono c44.size)
        clear b41 o42 i43 c44 hb46
        go_wp2_with (first | (refine wpList_load_blk_w (by rfl) _ _ rfl (w.heap.size) rfl _ _ b49 _ Tryz.underlying26 rfl state_size ?_))
        refine (stCheck_ok v2.st q47a q47b q47c d47a d47b d47c _ o48.m OK39.out.1 (HT.out.below c52)).mono ?_
        rintro e w53 ⟨rfl, hb54⟩
        have b55 := b49.below hb54 b49.lt
        have o56 := o50.below hb54
        have o57 := o48.below hb54
        have i58 := i51.below hb54
        have c59 := c52.trans (hb54.mono c52.size)
        clear b49 o50 o48 i51 c52 hb54
        go_wp2_with fail
        go_roundw
        case rel => exact ⟨k + 1, v2, by omega, by go_num, i58, OK39.out, c59, o56, b55⟩
        case measure => simp [intOf]; omega
   ·obtain rfl : k = l1.length := by omega
    clear hlt hk
    have cl20 : wr.cell? ⟨w.heap.size, 1, none⟩ = some (Value.slice pj0 s0.jobs.length cj0) := bs.cell 1
    have cl21 : wr.cell? ⟨w.heap.size, 2, none⟩ = some (Value.slice pn0 s0.nodes.length cn0) := bs.cell 2
    have cl22 : wr.cell? ⟨w.heap.size, 3, none⟩ = some (Value.slice pl0 s0.leases.length cl0) := bs.cell 3
    go_wp2_with (first | (refine wpList_load_blk_w (by rfl) _ _ rfl (w.heap.size) rfl _ _ bs _ Tryz.underlying26 rfl state_size ?_))
    have HR := eqJ_any pj0 ja cj0 jc s0.jobs s0.jobs _ ((HM0.out.below cc).more cc.size).j oc.m.j (by have := HLJ.out; omega) (by have := HLJ.out; omega)
    rw [eq_self] at HR
    have HR2 := Lib.hid HR
    clear HR cl20 cl21 cl22
    refine (HR2.out).mono ?_
    rintro e w23 ⟨rfl, hb24⟩
    have b25 := bs.below hb24 bs.lt
    have o26 := oc.below hb24
    have i27 := hI.below hb24
    have c28 := cc.trans (hb24.mono cc.size)
    clear bs oc hI cc hb24
    clear HR2
    have cl29 : w23.cell? ⟨w.heap.size, 1, none⟩ = some (Value.slice pj0 s0.jobs.length cj0) := b25.cell 1
    have cl30 : w23.cell? ⟨w.heap.size, 2, none⟩ = some (Value.slice pn0 s0.nodes.length cn0) := b25.cell 2
    have cl31 : w23.cell? ⟨w.heap.size, 3, none⟩ = some (Value.slice pl0 s0.leases.length cl0) := b25.cell 3
    go_wp2_with (first | (refine wpList_load_blk_w (by rfl) _ _ rfl (w.heap.size) rfl _ _ b25 _ Tryz.underlying26 rfl state_size ?_))
    have HR := eqN_any pn0 na cn0 nc s0.nodes s0.nodes _ ((HM0.out.below c28).more c28.size).n o26.m.n (by have := HLN.out; omega) (by have := HLN.out; omega)
    rw [eq_self] at HR
    have HR2 := Lib.hid HR
    clear HR cl29 cl30 cl31
    refine (HR2.out).mono ?_
    rintro e w32 ⟨rfl, hb33⟩
    have b34 := b25.below hb33 b25.lt
    have o35 := o26.below hb33
    have i36 := i27.below hb33
    have c37 := c28.trans (hb33.mono c28.size)
    clear b25 o26 i27 c28 hb33
    clear HR2
    have cl38 : w32.cell? ⟨w.heap.size, 1, none⟩ = some (Value.slice pj0 s0.jobs.length cj0) := b34.cell 1
    have cl39 : w32.cell? ⟨w.heap.size, 2, none⟩ = some (Value.slice pn0 s0.nodes.length cn0) := b34.cell 2
    have cl40 : w32.cell? ⟨w.heap.size, 3, none⟩ = some (Value.slice pl0 s0.leases.length cl0) := b34.cell 3
    go_wp2_with (first | (refine wpList_load_blk_w (by rfl) _ _ rfl (w.heap.size) rfl _ _ b34 _ Tryz.underlying26 rfl state_size ?_))
    have HR := eqL_any pl0 la cl0 lc s0.leases s0.leases _ ((HM0.out.below c37).more c37.size).l o35.m.l (by have := HLL.out; omega) (by have := HLL.out; omega)
    rw [eq_self] at HR
    have HR2 := Lib.hid HR
    clear HR cl38 cl39 cl40
    refine (HR2.out).mono ?_
    rintro e w41 ⟨rfl, hb42⟩
    have b43 := b34.below hb42 b34.lt
    have o44 := o35.below hb42
    have i45 := i36.below hb42
    have c46 := c37.trans (hb42.mono c37.size)
    clear b34 o35 i36 c37 hb42
    clear HR2
    have cl47 : w41.cell? ⟨w.heap.size, 1, none⟩ = some (Value.slice pj0 s0.jobs.length cj0) := b43.cell 1
    have cl48 : w41.cell? ⟨w.heap.size, 2, none⟩ = some (Value.slice pn0 s0.nodes.length cn0) := b43.cell 2
    have cl49 : w41.cell? ⟨w.heap.size, 3, none⟩ = some (Value.slice pl0 s0.leases.length cl0) := b43.cell 3
    go_wp2_with fail
    go_ret
    exact ⟨rfl, c46⟩
 ·have HB := Lib.hid hE
  have hne : (((checkE s0 : Nat) : Int) != 0) = true := by rw [bne_iff_ne]; omega
  clear hE
  go_enter Tryz.func3, Tryz.ntmps3
  go_wp2_with fail
  generalize w.alloc _ = W3 at *
  refine (served_any _ (HT.out.below c2)).mono ?_
  rintro e w4 ⟨rfl, hb5⟩
  have b6 := b1.below hb5 b1.lt
  have c7 := c2.trans (hb5.mono c2.size)
  clear b1 c2 hb5
  go_upto_region 3 with fail
  have hB_ : Below w4.heap.size w4 w4.drew := (Below.refl _ _).drew
  have b8 := b6.below hB_ b6.lt
  have c9 := c7.trans (hB_.mono c7.size)
  clear b6 c7 hB_
  refine wp_region_held_drew (S := fun W => Blk W w.heap.size 26 #[.int .i64 s0.rev, .slice pj0 s0.jobs.length cj0, .slice pn0 s0.nodes.length cn0, .slice pl0 s0.leases.length cl0]) (by kernel_rfl) b8 (fun hHeld => ?_)
  refine tk 0 (v := ?_) rfl (Or.inl ⟨by rfl, ?_⟩) ?_
  rotate_left
  ·(intro w5 hw5; go_simp; (try with_reducible rfl))
  (try simp only [Act.put, ma, mb, mc, md, me, mf])
  refine tk 1 (v := ?_) rfl (Or.inl ⟨by rfl, ?_⟩) ?_
  rotate_left
  ·(intro w5 hw5; have fhw51_ := hw5.cell 1; go_simp; (try with_reducible rfl))
  (try simp only [Act.put, ma, mb, mc, md, me, mf])
  refine tk 3 (v := ?_) rfl (Or.inl ⟨by rfl, ?_⟩) ?_
  rotate_left
  ·(intro w5 hw5; go_simp; (try with_reducible rfl))
  (try simp only [Act.put, ma, mb, mc, md, me, mf])
  refine tk 4 (v := ?_) rfl (Or.inl ⟨by rfl, ?_⟩) ?_
  rotate_left
  ·(intro w5 hw5; have fhw52_ := hw5.cell 2; go_simp; (try with_reducible rfl))
  (try simp only [Act.put, ma, mb, mc, md, me, mf])
  refine tk 6 (v := ?_) rfl (Or.inl ⟨by rfl, ?_⟩) ?_
  rotate_left
  ·(intro w5 hw5; go_simp; (try with_reducible rfl))
  (try simp only [Act.put, ma, mb, mc, md, me, mf])
  refine tk 7 (v := ?_) rfl (Or.inl ⟨by rfl, ?_⟩) ?_
  rotate_left
  ·(intro w5 hw5; have fhw53_ := hw5.cell 3; go_simp; (try with_reducible rfl))
  (try simp only [Act.put, ma, mb, mc, md, me, mf])
  refine tr 2 rfl (fun K hK => ?_)
  go_simp
  refine (copyBJ_any pj0 cj0 s0.jobs _ ((HM0.out.below c9).more c9.size).j HLJ.out).mono ?_
  rintro e u1 ⟨ja, jc, rfl, hRJ, hb1⟩
  have B1 := b8.below hb1 b8.lt
  have cc1 := c9.trans (hb1.mono c9.size)
  refine hK.out _ _ ?_ (fun hHeld => ?_)
  ·exact B1
  clear hK K
  (try simp only [Act.put, ma, mb, mc, md, me, mf])
  refine tr 5 rfl (fun K hK => ?_)
  go_simp
  refine (copyBN_any pn0 cn0 s0.nodes _ ((HM0.out.below cc1).more cc1.size).n HLN.out).mono ?_
  rintro e u2 ⟨na, nc, rfl, hRN, hb2⟩
  have B2 := B1.below hb2 B1.lt
  have cc2 := cc1.trans (hb2.mono cc1.size)
  refine hK.out _ _ ?_ (fun hHeld => ?_)
  ·exact B2
  clear hK K
  (try simp only [Act.put, ma, mb, mc, md, me, mf])
  refine tr 8 rfl (fun K hK => ?_)
  go_simp
  refine (copyBL_any pl0 cl0 s0.leases _ ((HM0.out.below cc2).more cc2.size).l HLL.out).mono ?_
  rintro e u3 ⟨la, lc, rfl, hRL, hb3⟩
  have B3 := B2.below hb3 B2.lt
  have cc3 := cc2.trans (hb3.mono cc2.size)
  refine hK.out _ _ ?_ (fun hHeld => ?_)
  ·exact B3
  clear hK K
  (try simp only [Act.put, ma, mb, mc, md, me, mf])
  refine tk 9 (v := ?_) rfl (Or.inl ⟨by rfl, ?_⟩) ?_
  rotate_left
  ·(intro w5 hw5; go_simp; (try with_reducible rfl))
  (try simp only [Act.put, ma, mb, mc, md, me, mf])
  refine tk 10 (v := ?_) rfl (Or.inl ⟨by rfl, ?_⟩) ?_
  rotate_left
  ·(intro w5 hw5; go_simp; (try with_reducible rfl))
  (try simp only [Act.put, ma, mb, mc, md, me, mf])
  refine tk 11 (v := ?_) rfl (Or.inl ⟨by rfl, ?_⟩) ?_
  rotate_left
  ·(intro w5 hw5; go_simp; (try with_reducible rfl))
  (try simp only [Act.put, ma, mb, mc, md, me, mf])
  refine wpAnyH_done (by kernel_rfl) ?_ _
  have hCP : StOwn u3 0 ja na la jc nc lc s0 := ⟨(Own.of ((hRJ.below hb2).below hb3)).less (Nat.zero_le _), (Own.of (hRN.below hb3)).less (Nat.zero_le _), (Own.of hRL).less (Nat.zero_le _)⟩
  clear b8 c9 hHeld B1 B2 cc1 cc2 hRJ hRN hRL hb1 hb2 hb3
  go_wp2_with (first | (refine wpList_load_blk_w (by rfl) _ _ rfl (w.heap.size) rfl _ _ B3 _ Tryz.underlying26 rfl state_size ?_))
  refine (svNew_bad s0 pj0 pn0 pl0 cj0 cn0 cl0 _ ((HM0.out.below cc3).more cc3.size) HZ0.out (HT.out.below cc3) HB.out).mono ?_
  rintro e w10 ⟨rfl, hb11⟩
  have b12 := B3.below hb11 B3.lt
  have o13 := hCP.below hb11
  have c14 := cc3.trans (hb11.mono cc3.size)
  clear B3 hCP cc3 hb11
  go_wp2_with fail
  go_ret
  exact ⟨rfl, c14⟩
end Go.Proofs.YtaioadbenigdpaaGreatDoor.ownMemory
