/-
  Several texts in one: VTopRoom.
-/
import Derived.Test.YtibiankbmhdljaaGreatDoorPkFactT
import Derived.Test.YtibiankbmhdljaaGreatDoorPkTopR
set_option linter.all false
set_option maxHeartbeats 16000000
set_option maxRecDepth 100000
namespace Go.Proofs.YtibiankbmhdljaaGreatDoor.topRoom
open Go.ChangeShapes Go.WideShapes Go.ChangeAt Go.RowKit Go.Joins
open Go.ChangeMaps (open_string)
theorem walk (s0 : St) (pj0 pn0 pl0 : Option Addr) (cj0 cn0 cl0 : Nat) (w : World) (hm0 : StM w w.heap.size pj0 pn0 pl0 s0) (hk0 : StOk s0) (pq1 : Option Addr) (cq1 : Nat) (l1 : List ReqD) (hel1 : Elts w w.heap.size 14 pq1 (l1.map rowQ)) (hok1 : ∀ x ∈ l1, okQ x) (hl1 : l1.length ≤ 9223372036854775807) (hT : Tabs w) :
  Calls Tryz.prog 9 #[.agg (stv s0 pj0 pn0 pl0 cj0 cn0 cl0), .slice pq1 l1.length cq1] w fun e w' => e = .returned (.bool true) ∧ Below w.heap.size w w' := by
 have b0_ := Blk.new w 26 (stv s0 pj0 pn0 pl0 cj0 cn0 cl0)
 have c0 := (zri w.heap.size w).alloc (zra _) (.cells (stv s0 pj0 pn0 pl0 cj0 cn0 cl0) 26)
 have HM := zrj hm0
 have HZ := zrj hk0.sz
 have HT := zrj hT
 clear hm0 hk0 hT
 have HEL := zrj hel1
 have HOK := zrj hok1
 have hzq := uqw
 have hzs := uxk
 have hzl := vqp
 have hzn := uwx
 have hmm := @run_makeMap Tryz.prog
 clear hel1 hok1
 by_cases hE : uqv s0 = 0
 rotate_left
 ·have hne : (((uqv s0 : Nat) : Int) != 0) = true := by rw [bne_iff_ne]; omega
  have HE := zrj hE
  clear hE
  go_enter Tryz.func9, Tryz.ntmps9
  go_wp2_with (first | (refine uqa (by rfl) _ _ rfl (w.heap.size) rfl _ _ b0_ _ Tryz.underlying26 rfl uqh ?_))
  generalize w.alloc _ = W1 at *
  refine (wxz _ (HT.out.below c0)).mono ?_
  rintro e w1 ⟨rfl, hb2⟩
  have b3 := b0_.below hb2 b0_.lt
  have c4 := c0.trans (hb2.mono c0.size)
  clear b0_ c0 hb2
  go_wp2_with (first | (refine uqa (by rfl) _ _ rfl (w.heap.size) rfl _ _ b3 _ Tryz.underlying26 rfl uqh ?_))
  refine (vxv s0 _ _ _ _ _ _ _ ((HM.out.below c4).more c4.size) HZ.out (HT.out.below c4) HE.out).mono ?_
  rintro e w5 ⟨rfl, hb6⟩
  have b7 := b3.below hb6 b3.lt
  have c8 := c4.trans (hb6.mono c4.size)
  clear b3 c4 hb6
  go_wp2_with (first | (refine uqa (by rfl) _ _ rfl (w.heap.size) rfl _ _ b7 _ Tryz.underlying26 rfl uqh ?_))
  go_ret
  exact ⟨rfl, c8⟩
 have HE := zrj hE
 have F0 := zrj ((uxi s0).1 hE)
 clear hE
 go_enter Tryz.func9, Tryz.ntmps9
 go_wp2_with (first | (refine uqa (by rfl) _ _ rfl (w.heap.size) rfl _ _ b0_ _ Tryz.underlying26 rfl uqh ?_))
 generalize w.alloc _ = W1 at *
 refine (wxz _ (HT.out.below c0)).mono ?_
 rintro e w9 ⟨rfl, hb10⟩
 have b11 := b0_.below hb10 b0_.lt
 have c12 := c0.trans (hb10.mono c0.size)
 clear b0_ c0 hb10
 go_wp2_with (first | (refine uqa (by rfl) _ _ rfl (w.heap.size) rfl _ _ b11 _ Tryz.underlying26 rfl uqh ?_))
 refine (vju s0 _ _ _ _ _ _ _ ((HM.out.below c12).more c12.size) HZ.out (HT.out.below c12) HE.out).mono ?_
 rintro e wV ⟨gv, rfl, hgv, hI, hbV⟩
 have hgw : w.heap.size ≤ gv := zrc c12.size hgv
 clear hgv
 have b13 := b11.below hbV b11.lt
 have c14 := c12.trans (hbV.mono c12.size)
 clear b11 c12 hbV
 go_wp2_with (first | (refine uqa (by rfl) _ _ rfl (w.heap.size) rfl _ _ b13 _ Tryz.underlying26 rfl uqh ?_))
 have CV := zrj c14
 clear c14 b13
 go_loopw [37] (fun i wr => ∃ (n : Nat) (v : Srv), n ≤ l1.length ∧ i = .int .i64 n ∧ SvI wr gv v ∧ Hid (SrvOk v) ∧ Below w.heap.size w wr) (fun i _ => l1.length - (intOf i).toNat)
 case atStart => exact ⟨0, ⟨s0, 0⟩, Nat.zero_le _, rfl, hI, zrj (uz8 F0.out), CV.out⟩
 case round =>
  obtain ⟨n, v, hn, rfl, hIv, OKv, cc⟩ := hrel
  clear hI
  by_cases hlt : n < l1.length
  ·have hx : l1[n]? = some l1[n] := zrd hlt
   have hq := HOK.out l1[n] (List.getElem_mem hlt)
   generalize l1[n] = q at *
   obtain ⟨a, rfl, hab, _, hat⟩ := (HEL.out.below cc).at_ (k := n) (r := rowQ q) (by rw [zrg, hx]; rfl)
   have HSq := zrj (ReqSz.of hq)
   have hb1 : Below wr.heap.size wr (wr.alloc (.cells (qv q) 43)) := (zri _ _).alloc (zra _) _
   have bq := Blk.new wr 43 (qv q)
   have hI1 := hIv.below hb1
   have c1 := cc.trans (hb1.mono cc.size)
   clear hx hq hab hIv cc hb1
   go_upto_region 9 with (first | (refine uqe rfl _ _ rfl (a.add (n * 14)) rfl [Value.int .i64 q.kind, Value.string q.job.name, Value.int .i64 q.job.prio, Value.int .i64 q.job.need, Value.int .i64 q.job.tries, Value.string q.job.tag, Value.string q.node.name, Value.int .i64 q.node.room, Value.string q.node.zone, Value.string q.lease.job, Value.string q.lease.node, Value.int .i64 q.lease.till, Value.string q.name, Value.int .i64 q.n] _ hat Tryz.underlying43 rfl uqb ?_) | (refine uqg rfl _ _ _ rfl rfl 43 _ (qv q) rfl uqb rfl (by simp [Value.oneCell']) ?_))
   generalize wr.alloc _ = W1 at *
   generalize wr.heap.size = gq at *
   clear hat
   go_wp2_with (first | (refine uqa (by rfl) _ _ rfl gq rfl _ _ bq _ Tryz.underlying43 rfl uqb ?_))
   refine (vjt q v gv _ hI1 OKv.out HSq.out (HT.out.below c1)).mono ?_
   rintro e wD ⟨x1, x2, x3, x4, x5, x6, y1, y2, y3, y4, y5, y6, rfl, hI2, hgD, hD⟩
   have c2 := uz1 c1 hgD hgw c1.size
   have OKr := zrj (ujx OKv.out q).1
   clear hI1 c1 hgD hD bq HSq
   generalize doR v q = r at *
   go_wp2_with fail
   refine (uvk gv r.srv _ hI2 OKr.out.1).mono ?_
   rintro e wS ⟨q1, q2, q3, d1, d2, d3, rfl, hO, hbS⟩
   have hI3 := hI2.below hbS
   have c3 := c2.trans (hbS.mono c2.size)
   clear hI2 c2 hbS
   have HF := zrj (show Fine r.srv.st from OKr.out.1)
   generalize hs : r.srv.st = s at *
   have HSS := zrj hs
   clear hs
   have hb4 : Below wS.heap.size wS (wS.alloc (.cells (stv s q1 q2 q3 d1 d2 d3) 26)) := (zri _ _).alloc (zra _) _
   have HBS := zrj (Blk.new wS 26 (stv s q1 q2 q3 d1 d2 d3))
   have HMT := zrj ((hO.below hb4).m)
   have HI4 := zrj (hI3.below hb4)
   have C4 := zrj (c3.trans (hb4.mono c3.size))
   have hjl : s.jobs.length ≤ 40 := HF.out.nj
   have hnl : s.nodes.length ≤ 20 := HF.out.nn
   have hll : s.leases.length ≤ 40 := HF.out.nl
   clear hO hI3 c3 hb4
   go_upto_region 11 with (first | (refine uqg rfl _ _ _ rfl rfl 26 _ (stv s q1 q2 q3 d1 d2 d3) rfl uqh rfl (uvt _ _ _ _ _ _ _ _ _ _) ?_))
   generalize wS.alloc _ = W7 at *
   generalize wS.heap.size = g9 at *
   have M0 := MapU.made W7
   have hb8 : Below W7.heap.size W7 (W7.alloc (.map #[] 0)) := (zri _ _).alloc (zra _) _
   have k3 := HBS.out.below hb8 HBS.out.lt |>.cell 3
   go_wp2_with fail
   generalize W7.alloc (.map #[] 0) = W8 at *
   clear k3
   go_loopw [50] (fun i wr => ∃ k : Nat, k ≤ s.leases.length ∧ i = .int .i64 k ∧ MapU wr W7.heap.size (fun nm => uq7 s.jobs nm (s.leases.take k)) ∧ Below W7.heap.size W7 wr) (fun i _ => s.leases.length - (intOf i).toNat)
   case atStart => exact ⟨0, Nat.zero_le _, rfl, M0, hb8⟩
   case round =>
    obtain ⟨k, hk, rfl, hmu, hbr⟩ := hrel
    clear M0 hb8
    by_cases hlt2 : k < s.leases.length
    ·have hx : s.leases[k]? = some s.leases[k] := zrd hlt2
     obtain ⟨⟨i, j, hi1, hi2, hi3⟩, hn1⟩ := lease_ix HF.out (List.getElem_mem hlt2)
     have hun := xj1 s.jobs hx
     generalize s.leases[k] = x at *
     have HUN := zrj hun
     obtain ⟨a3, ha3, hab3, _, hat3⟩ := (HMT.out.l.below hbr).at_ (k := k) (r := rowL x) (by rw [zrg, hx]; rfl)
     have hbx : Below wr.heap.size wr (wr.alloc (.cells (rwL x) 41)) := (zri _ _).alloc (zra _) _
     have bx := Blk.new wr 41 (rwL x)
     have hbr1 := hbr.trans (hbx.mono hbr.size)
     have hmu1 := hmu.below hbx
     have x0 := bx.cell 0
     have k1 := (HBS.out.below hbr1 HBS.out.lt).cell 1
     have HJA := atJ_any q1 d1 s.jobs x.job _ ((HMT.out.j.below hbr1).more hbr1.size) (by omega)
     rw [hi1] at HJA
     have HJ := zrj HJA
     have hbd := used_bd HF.out x.node k
     have hnd := vxj HF.out.j x.job
     have hil : i < s.jobs.length := (List.getElem?_eq_some_iff.1 hi2).1
     have HI2 := zrj hi2
     have HI3 := zrj hi3
     clear hx hun hmu hbr hbx HJA hi1 hi2 hi3 hab3
     subst ha3
     go_upto_region 15 with (first | (refine uqe rfl _ _ rfl (a3.add (k * 3)) rfl (rlL x) _ hat3 Tryz.underlying41 rfl uqj ?_) | (refine uqg rfl _ _ _ rfl rfl 41 _ (rwL x) rfl uqj rfl (by simp [Value.oneCell']) ?_))
     generalize wr.alloc _ = W1 at *
     generalize wr.heap.size = gl at *
     clear hat3
     go_wp2_with fail
     refine HJ.out.mono ?_
     rintro e w2 ⟨rfl, hb2⟩
     have bx2 := bx.below hb2 bx.lt
     have hbr2 := hbr1.trans (hb2.mono hbr1.size)
     have hmu2 := hmu1.below hb2
     have x1 := bx2.cell 1
     have k2 := (HBS.out.below hbr2 HBS.out.lt).cell 2
     have HNA := zrj (atN_any q2 d2 s.nodes x.node _ ((HMT.out.n.below hbr2).more hbr2.size) (by omega))
     clear bx hbr1 hmu1 x0 k1 HJ hb2
     generalize ixBy NodeD.name s.nodes x.node 0 = m at *
     have hi0 : ¬ ((i : Int) < 0) := by omega
     go_wp2_with fail
     refine HNA.out.mono ?_
     rintro e w3 ⟨rfl, hb3⟩
     have bx3 := bx2.below hb3 bx2.lt
     have hbr3 := hbr2.trans (hb3.mono hbr2.size)
     have hmu3 := hmu2.below hb3
     clear bx2 hbr2 hmu2 x1 k2 HNA hb3
     go_upto_region 18 with fail
     have hud := (hmu3.below ((zri _ _).drew)).look x.node
     obtain ⟨w5, hup, hmu5, hg5⟩ := (hmu3.below ((zri _ w3).drew)).put x.node (uxd s.jobs x.job)
     obtain ⟨a1, ha1, hab1, _, hat1⟩ := (HMT.out.j.below hbr3).at_ (k := i) (r := rowJ j) (by rw [zrg, HI2.out]; rfl)
     have x1 := bx3.cell 1
     have k1 := (HBS.out.below hbr3 HBS.out.lt).cell 1
     have c3 : w3.cell? { block := (a1.add (i * 5)).block, off := (a1.add (i * 5)).off + 2 } = some (.int .i64 j.need) := hat1 2 _ rfl
     rw [HI3.out] at c3
     have hw : IntKind.i64.wrap (uq7 s.jobs x.node (s.leases.take k) + uxd s.jobs x.job) = uq7 s.jobs x.node (s.leases.take k) + uxd s.jobs x.job := IntWalk.i64_in _ (by omega)
     have HM5 := zrj (show MapU w5 W7.heap.size (fun nm => uq7 s.jobs nm (s.leases.take (k + 1))) by rw [HUN.out]; exact hmu5)
     have HB5 := zrj ((hbr3.drew).grown hg5 hbr3.size (fun b hb => by injection hb with hb; omega))
     have hil2 : (i : Int) < (s.jobs.length : Int) := by omega
     clear hmu5 hg5 hat1 hmu3 hab1
     subst ha1
     go_still_tail 11, (by kernel_rfl)
     change wpList _ _ _ _ _ w3.drew
     generalize w3.drew = W3 at *
     go_wp2_with fail
     go_roundw
     case rel => exact ⟨k + 1, by omega, by go_num, HM5.out, HB5.out⟩
     case measure => simp [intOf]; omega
    ·obtain rfl : k = s.leases.length := by omega
     have k2 := (HBS.out.below hbr HBS.out.lt).cell 2
     rw [List.take_length] at hmu
     go_wp2_with fail
     go_loopw [84] (fun i wx => ∃ k : Nat, k ≤ s.nodes.length ∧ i = .int .i64 k ∧ MapU wx W7.heap.size (fun nm => uq7 s.jobs nm s.leases) ∧ Below W7.heap.size W7 wx) (fun i _ => s.nodes.length - (intOf i).toNat)
     case atStart => exact ⟨0, Nat.zero_le _, rfl, hmu, hbr⟩
     case round =>
      obtain ⟨k, hk2, rfl, hmv, hbv⟩ := hrel
      clear hmu hbr k2
      by_cases hlt3 : k < s.nodes.length
      ·have hx : s.nodes[k]? = some s.nodes[k] := zrd hlt3
       have hro := HF.out.room s.nodes[k] (List.getElem_mem hlt3)
       generalize s.nodes[k] = x at *
       obtain ⟨a2, ha2, hab2, _, hat2⟩ := (HMT.out.n.below hbv).at_ (k := k) (r := rowN x) (by rw [zrg, hx]; rfl)
       have hbx : Below wr.heap.size wr (wr.alloc (.cells (rwN x) 39)) := (zri _ _).alloc (zra _) _
       have bx := Blk.new wr 39 (rwN x)
       have x0 := bx.cell 0
       have x1 := bx.cell 1
       have hlu := (hmv.below hbx).look x.name
       have hng : ¬ (x.room < uq7 s.jobs x.name s.leases) := by omega
       have HMU := zrj (hmv.below hbx)
       have HBV := zrj (hbv.trans (hbx.mono hbv.size))
       clear hx hro hmv hbv hab2 hbx bx
       subst ha2
       go_upto_region 23 with (first | (refine uqe rfl _ _ rfl (a2.add (k * 3)) rfl (rlN x) _ hat2 Tryz.underlying39 rfl uqm ?_) | (refine uqg rfl _ _ _ rfl rfl 39 _ (rwN x) rfl uqm rfl (by simp [Value.oneCell']) ?_))
       generalize wr.alloc _ = W1 at *
       generalize wr.heap.size = gn at *
       clear hat2
       go_wp2_with fail
       go_roundw
       case rel => exact ⟨k + 1, by omega, by go_num, HMU.out, HBV.out⟩
       case measure => simp [intOf]; omega
      ·obtain rfl : k = s.nodes.length := by omega
       have HC9 := zrj (C4.out.trans (hbv.mono C4.out.size))
       have HI9 := zrj (HI4.out.below hbv)
       clear hbv hmv
       go_wp2_with fail
       go_roundw
       case rel => exact ⟨n + 1, r.srv, by omega, by go_num, HI9.out, OKr, HC9.out⟩
       case measure => simp [intOf]; omega
  ·obtain rfl : n = l1.length := by omega
   have HC9 := zrj cc
   clear cc hIv
   go_wp2_with fail
   go_ret
   exact ⟨rfl, HC9.out⟩
end Go.Proofs.YtibiankbmhdljaaGreatDoor.topRoom
