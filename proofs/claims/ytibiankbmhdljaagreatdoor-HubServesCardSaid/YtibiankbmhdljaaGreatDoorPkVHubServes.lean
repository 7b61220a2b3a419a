/-
  Several texts in one: VHubServes.
-/
import Derived.Test.YtibiankbmhdljaaGreatDoorPkFact
import Derived.Test.YtibiankbmhdljaaGreatDoorPkServ
import Derived.Test.YtibiankbmhdljaaGreatDoorPkReqOy
set_option linter.all false
set_option maxHeartbeats 16000000
set_option maxRecDepth 100000
namespace Go.Proofs.YtibiankbmhdljaaGreatDoor.hubServes
open Go.ChangeShapes Go.WideShapes Go.ChangeAt Go.RowKit Go.Joins
open Go.ChangeMaps (open_string)
theorem walk (s0 : St) (pj0 pn0 pl0 : Option Addr) (cj0 cn0 cl0 : Nat) (w : World) (hm0 : StM w w.heap.size pj0 pn0 pl0 s0) (hk0 : StOk s0) (pq1 : Option Addr) (cq1 : Nat) (l1 : List ReqD) (hel1 : Elts w w.heap.size 14 pq1 (l1.map rowQ)) (hok1 : ∀ x ∈ l1, okQ x) (hl1 : l1.length ≤ 837723144947) (hT : Tabs w) :
  Calls Tryz.prog 3 #[.agg (stv s0 pj0 pn0 pl0 cj0 cn0 cl0), .slice pq1 l1.length cq1] w fun e w' => e = .returned (.bool true) ∧ Below w.heap.size w w' := by
 have b0_ := Blk.new w 26 (stv s0 pj0 pn0 pl0 cj0 cn0 cl0)
 have c0 := (zri w.heap.size w).alloc (zra _) (.cells (stv s0 pj0 pn0 pl0 cj0 cn0 cl0) 26)
 have HM := zrj hm0
 have HZ := zrj hk0.sz
 have HT := zrj hT
 clear hm0 hk0 hT
 have HEL := zrj hel1
 have HOK := zrj hok1
 have hzr := uz0
 have hzd := ux7
 have hzq := uqw
 have hzf := uxu
 clear hel1 hok1
 by_cases hE : uqv s0 = 0
 rotate_left
 ·have hne : (((uqv s0 : Nat) : Int) != 0) = true := by rw [bne_iff_ne]; omega
  have HE := zrj hE
  clear hE
  go_enter Tryz.func3, Tryz.ntmps3
  go_wp2_with (first | (refine uqa (by rfl) _ _ rfl (w.heap.size) rfl _ _ b0_ _ Tryz.underlying26 rfl uqh ?_))
  generalize w.alloc _ = W1 at *
  refine (uzv _ (HT.out.below c0)).mono ?_
  rintro e w1 ⟨rfl, hb2⟩
  have b3 := b0_.below hb2 b0_.lt
  have c4 := c0.trans (hb2.mono c0.size)
  clear b0_ c0 hb2
  go_wp2_with (first | (refine uqa (by rfl) _ _ rfl (w.heap.size) rfl _ _ b3 _ Tryz.underlying26 rfl uqh ?_))
  refine (vxh s0 _ _ _ _ _ _ _ ((HM.out.below c4).more c4.size) HZ.out (HT.out.below c4) HE.out).mono ?_
  rintro e w5 ⟨rfl, hb6⟩
  have b7 := b3.below hb6 b3.lt
  have c8 := c4.trans (hb6.mono c4.size)
  clear b3 c4 hb6
  go_wp2_with (first | (refine uqa (by rfl) _ _ rfl (w.heap.size) rfl _ _ b7 _ Tryz.underlying26 rfl uqh ?_))
  refine (vxv s0 _ _ _ _ _ _ _ ((HM.out.below c8).more c8.size) HZ.out (HT.out.below c8) HE.out).mono ?_
  rintro e w9 ⟨rfl, hb10⟩
  have b11 := b7.below hb10 b7.lt
  have c12 := c8.trans (hb10.mono c8.size)
  clear b7 c8 hb10
  go_wp2_with (first | (refine uqa (by rfl) _ _ rfl (w.heap.size) rfl _ _ b11 _ Tryz.underlying26 rfl uqh ?_))
  go_ret
  exact ⟨by simp, c12⟩
 have HE := zrj hE
 have F0 := zrj ((uxi s0).1 hE)
 clear hE
 go_enter Tryz.func3, Tryz.ntmps3
 go_wp2_with (first | (refine uqa (by rfl) _ _ rfl (w.heap.size) rfl _ _ b0_ _ Tryz.underlying26 rfl uqh ?_))
 generalize w.alloc _ = W1 at *
 refine (uzv _ (HT.out.below c0)).mono ?_
 rintro e w13 ⟨rfl, hb14⟩
 have b15 := b0_.below hb14 b0_.lt
 have c16 := c0.trans (hb14.mono c0.size)
 clear b0_ c0 hb14
 go_wp2_with (first | (refine uqa (by rfl) _ _ rfl (w.heap.size) rfl _ _ b15 _ Tryz.underlying26 rfl uqh ?_))
 refine (uya s0 _ _ _ _ _ _ _ ((HM.out.below c16).more c16.size) HZ.out (HT.out.below c16) HE.out).mono ?_
 rintro e wN ⟨g, sv, fd, ws, rfl, HN_, hbN⟩
 have hB := zrj c16.size
 have HN := zrj HN_
 clear HN_
 have b17 := b15.below hbN b15.lt
 have c18 := c16.trans (hbN.mono c16.size)
 clear b15 c16 hbN
 go_wp2_with (first | (refine uqa (by rfl) _ _ rfl (w.heap.size) rfl _ _ b17 _ Tryz.underlying26 rfl uqh ?_))
 refine (vju s0 _ _ _ _ _ _ _ ((HM.out.below c18).more c18.size) HZ.out (HT.out.below c18) HE.out).mono ?_
 rintro e wV ⟨gv, rfl, hgv, hI, hbV⟩
 have hne : sv ≠ gv := by have := HN.out.s.lt; omega
 have hgw : w.heap.size ≤ gv := zrc c18.size hgv
 clear hgv
 have b19 := b17.below hbV b17.lt
 have hh20 := zrj (HN.out.below hbV)
 have c21 := c18.trans (hbV.mono c18.size)
 clear b17 HN c18 hbV
 go_wp2_with (first | (refine uqa (by rfl) _ _ rfl (w.heap.size) rfl _ _ b19 _ Tryz.underlying26 rfl uqh ?_))
 have CV := zrj c21
 clear c21 b19
 go_loopw [65] (fun i wr => ∃ (n : Nat) (h : HubD) (wsn : Nat → Value), n ≤ l1.length ∧ i = .int .i64 n ∧ SvI wr gv h.srv ∧ HubM wr w13.heap.size g sv fd wsn h ∧ Hid (Sv h n) ∧ Below w.heap.size w wr) (fun i _ => l1.length - (intOf i).toNat)
 case atStart => exact ⟨0, newH s0, ws, Nat.zero_le _, rfl, hI, hh20.out, zrj (Sv.new F0.out), CV.out⟩
 case round =>
  obtain ⟨n, h, wsn, hn, rfl, hIn, Hn, Sn, cc⟩ := hrel
  clear hI
  by_cases hlt : n < l1.length
  ·have hx : l1[n]? = some l1[n] := zrd hlt
   have hq := HOK.out l1[n] (List.getElem_mem hlt)
   generalize l1[n] = q at *
   obtain ⟨a, rfl, hab, _, hat⟩ := (HEL.out.below cc).at_ (k := n) (r := rowQ q) (by rw [zrg, hx]; rfl)
   have HSq := zrj (ReqSz.of hq)
   have hb1 : Below wr.heap.size wr (wr.alloc (.cells (qv q) 43)) := (zri _ _).alloc (zra _) _
   have bq := Blk.new wr 43 (qv q)
   have hI1 := hIn.below hb1
   have H1 := zrj (Hn.below hb1)
   have c1 := cc.trans (hb1.mono cc.size)
   clear hx hq hab hIn Hn cc hb1
   go_upto_region 10 with (first | (refine uqe rfl _ _ rfl (a.add (n * 14)) rfl [Value.int .i64 q.kind, Value.string q.job.name, Value.int .i64 q.job.prio, Value.int .i64 q.job.need, Value.int .i64 q.job.tries, Value.string q.job.tag, Value.string q.node.name, Value.int .i64 q.node.room, Value.string q.node.zone, Value.string q.lease.job, Value.string q.lease.node, Value.int .i64 q.lease.till, Value.string q.name, Value.int .i64 q.n] _ hat Tryz.underlying43 rfl uqb ?_) | (refine uqg rfl _ _ _ rfl rfl 43 _ (qv q) rfl uqb rfl (by simp [Value.oneCell']) ?_))
   generalize wr.alloc _ = W1 at *
   generalize wr.heap.size = gq at *
   clear hat
   have HBy := zrj (uvx q _ HSq.out (HT.out.below c1))
   by_cases hE1 : reqE q = 0
   rotate_left
   ·rw [decide_eq_false hE1] at HBy
    clear hE1
    go_wp2_with (first | (refine uqa (by rfl) _ _ rfl gq rfl _ _ bq _ Tryz.underlying43 rfl uqb ?_))
    refine HBy.out.mono ?_
    rintro e w2 ⟨rfl, hb2⟩
    have hI2 := hI1.below hb2
    have H2 := zrj (H1.out.below hb2)
    have c2 := zrj (c1.trans (hb2.mono c1.size))
    clear hI1 H1 c1 hb2 bq
    go_wp2_with fail
    go_roundw
    case rel => exact ⟨n + 1, h, wsn, by omega, by go_num, hI2, H2.out, zrj Sn.out.more, c2.out⟩
    case measure => simp [intOf]; omega
   rw [decide_eq_true hE1] at HBy
   obtain ⟨hk, hk7⟩ : ∃ hk : n % 7 < 8, ((n : Nat) : Int).tmod 7 = ((n % 7 : Nat) : Int) := ⟨by omega, by rw [Int.tmod_eq_emod_of_nonneg (by omega)]; omega⟩
   generalize n % 7 = k at *
   obtain ⟨s1, s2⟩ := Sn.out.send hk hE1
   obtain ⟨o1, o2, o3, o4⟩ := Sn.out.out (by omega) hk hE1
   obtain ⟨m1, m2⟩ := Sn.out.mid (by omega) hk hE1
   have hbl := ujo q
   have HS1 := zrj s1
   have HS2 := zrj s2
   have HO2 := zrj o2
   have HO4 := zrj o4
   have HM1 := zrj m1
   have HM2 := zrj m2
   have HCl := zrj (Sn.out.w k hk).1
   have HSv := zrj Sn.out.v
   clear hE1 s1 s2 o2 o4 m1 m2
   go_wp2_with (first | (refine uqa (by rfl) _ _ rfl gq rfl _ _ bq _ Tryz.underlying43 rfl uqb ?_))
   refine HBy.out.mono ?_
   rintro e w2 ⟨rfl, hb2⟩
   have bq2 := bq.below hb2 bq.lt
   have hI2 := hI1.below hb2
   have H2 := zrj (H1.out.below hb2)
   have c2 := c1.trans (hb2.mono c1.size)
   clear hI1 H1 c1 hb2 bq HBy
   go_wp2_with (first | (refine uqa (by rfl) _ _ rfl gq rfl _ _ bq2 _ Tryz.underlying43 rfl uqb ?_))
   refine (vjt q h.srv gv _ hI2 HSv.out HSq.out (HT.out.below c2)).mono ?_
   rintro e wD ⟨x1, x2, x3, x4, x5, x6, y1, y2, y3, y4, y5, y6, rfl, hI3, hgD, hD⟩
   obtain ⟨cs0, hsb⟩ := hI2.blk
   have HH3 := zrj (H2.out.beside hgD hsb hne)
   have c3 := uz1 c2 hgD hgw c2.size
   have HF3 := zrj (ujx HSv.out q).1.1
   clear hI2 bq2 H2 c2 hgD hsb hD HSq
   generalize doR h.srv q = r at *
   have t1 := wxv (w := wD)
   have t2 := vwc (w := wD) #[.int .i64 ((r.code : Nat) : Int), .int .i64 r.srv.st.rev]
   obtain ⟨hb5, br5, bd5⟩ := wvu (w := wD) (rc := #[.int .i64 ((r.code : Nat) : Int), .int .i64 r.srv.st.rev]) (dc := #[.int .i64 (toldD r).frm, .int .i64 (toldD r).upto, .slice x1 (toldD r).jobs.length y1, .slice x2 (toldD r).nodes.length y2, .slice x3 (toldD r).leases.length y3, .slice x4 (toldD r).gj.length y4, .slice x5 (toldD r).gn.length y5, .slice x6 (toldD r).gl.length y6])
   have hI5 := hI3.below hb5
   have HH5 := zrj (HH3.out.below hb5)
   have c5 := c3.trans (hb5.mono c3.size)
   clear hI3 HH3 c3 hb5
   go_upto_region 13 with (first | (refine uqf rfl _ _ _ rfl wD.heap.size rfl _ _ #[.int .i64 ((r.code : Nat) : Int), .int .i64 r.srv.st.rev] t1 rfl uzd rfl (uvs _ _) ?_) | (refine uqf rfl _ _ _ rfl (wD.heap.size + 1) rfl _ _ #[.int .i64 (toldD r).frm, .int .i64 (toldD r).upto, .slice x1 (toldD r).jobs.length y1, .slice x2 (toldD r).nodes.length y2, .slice x3 (toldD r).leases.length y3, .slice x4 (toldD r).gj.length y4, .slice x5 (toldD r).gn.length y5, .slice x6 (toldD r).gl.length y6] t2 rfl uxg rfl (uyf _ _ _ _ _ _ _ _ _ _ _ _ _ _ _ _ _ _ _ _) ?_))
   clear t1 t2 bd5
   generalize (((wD.alloc _).alloc _).setRow _ _).setRow _ _ = W6 at *
   generalize wD.heap.size = kr at *
   -- Send
   have HSd := zrj (ukm HH5.out hk HSv.out (fun W hW => HT.out.below (c5.trans (hW.mono hB.out))) (bstr (uq4 q)) (by rw [uqy]; omega) (by rw [uqu]; exact HM1.out) (by rw [uqu]; exact HM2.out) HCl.out)
   rw [uqu] at HSd
   go_wp2_with fail
   refine HSd.out.mono ?_
   rintro e w7 ⟨rfl, ws7, H7, C7⟩
   have br7 := C7.blk HH5.out br5 (by decide) (by decide) (by decide) (by decide)
   have hI7 := hI5.besides HH5.out C7.t hne
   have c7 := c5.trans ((C7.under HH5.out).mono hB.out)
   have HH7 := zrj H7
   clear br5 hI5 HH5 c5 HSd C7 H7 HM1 HM2 HCl hk7
   generalize h.send k (uq4 q) = h7 at *
   generalize h.out k (uq4 q) = fs at *
   go_wp2_with fail
   refine (vqy _).mono ?_
   rintro e w8 ⟨gf, rfl, hgf, hfi, hb8⟩
   have HPu := zrj (vqc fs HO2.out o1 _ gf hfi)
   generalize bstr (encs fs) = outb at *
   go_wp2_with fail
   refine HPu.out.mono ?_
   rintro e w9 ⟨pa, ca, rfl, hel, hge, hfe, hasd⟩
   have hb9 : Below w7.heap.size w7 w9 := hb8.trans (hasd.toBelow hgf hb8.size)
   have br9 := br7.below hb9 br7.lt
   have hI9 := hI7.below hb9
   have HH9 := zrj (HH7.out.below hb9)
   have c9 := c7.trans (hb9.mono c7.size)
   have HEL9 := zrj hel
   have hl0 : (((fs.length : Nat) : Int) == 0) = false := by rw [zrf]; omega
   clear br7 hI7 HH7 c7 hb8 hb9 HPu hel hge hfe hasd hfi hgf
   have HFs := zrj (show Fine h7.srv.st by rw [HS2.out]; exact HF3.out)
   go_wp2_with fail
   refine (vzh HH9.out HFs.out).mono ?_
   rintro e wA ⟨qa, qb, qc, da, db, dc, rfl, hOa, hbA⟩
   have hI_ := hI9.below hbA
   go_wp2_with fail
   refine (uvk gv r.srv _ hI_ HF3.out).mono ?_
   rintro e wB ⟨q1, q2, q3, d1, d2, d3, rfl, hOb, hbB⟩
   have hA := (hOa.below hbB).m
   have hB_ := hOb.m
   have hbAB := hbA.trans (hbB.mono hbA.size)
   clear hI_ hOa hOb hbA hbB
   go_wp2_with fail
   have HR := wvl h7.srv.st r.srv.st qa qb qc q1 q2 q3 da db dc d1 d2 d3 wB hA hB_ HFs.out.sz HF3.out.sz
   rw [decide_eq_true (show h7.srv.st = r.srv.st by rw [HS2.out])] at HR
   refine HR.mono ?_
   rintro e w12 ⟨rfl, hb12⟩
   have hbC := hbAB.trans (hb12.mono hbAB.size)
   have br12 := zrj (br9.below hbC br9.lt)
   have HI12 := zrj (hI9.below hbC)
   have HH12 := zrj (HH9.out.below hbC)
   have C12 := zrj (c9.trans (hbC.mono c9.size))
   have HEL12 := zrj (HEL9.out.below hbC)
   have hsz := hbC.size
   clear br9 hI9 HH9 c9 HEL9 hbC HR hA hB_ hb12 hbAB
   go_wp2_with fail
   obtain ⟨wo, rfl⟩ : ∃ wo : World, wo = wr := ⟨_, rfl⟩
   go_loopw [20, 119] (fun f i wx => ∃ j : Nat, j ≤ fs.length ∧ i = .int .i64 j ∧ f = .bool (vz2 fs r.code r.srv.st.rev j) ∧ Below w12.heap.size w12 wx) (fun _ i _ => fs.length - (intOf i).toNat)
   case atStart => exact ⟨0, Nat.zero_le _, rfl, rfl, zri _ _⟩
   case round =>
    obtain ⟨j, hj, rfl, rfl, hbr⟩ := hrel
    by_cases hlt2 : j < fs.length
    ·have hx : fs[j]? = some fs[j] := zrd hlt2
     have hfn := wzm (c := r.code) (r := r.srv.st.rev) hx
     generalize fs[j] = x at *
     obtain ⟨a, rfl, hab, _, hat⟩ := (HEL12.out.below (hbr.mono hsz)).at_ (k := j) (r := rowFr x) (by rw [zrg, hx]; rfl)
     have hb1 : Below wr.heap.size wr (wr.alloc (.cells #[.int .i64 (x.ver : Int), .int .i64 (x.kind : Int), .string (bstr x.pl)] 63)) := (zri _ _).alloc (zra _) _
     have bx := Blk.new wr 63 #[.int .i64 (x.ver : Int), .int .i64 (x.kind : Int), .string (bstr x.pl)]
     have hb1' := hbr.trans (hb1.mono hbr.size)
     have x1 := bx.cell 1
     have x2 := bx.cell 2
     have HFN := zrj hfn
     clear hfn hbr hb1 hab hx
     go_upto_region 21 with (first | (refine uqe rfl _ _ rfl (a.add (j * 3)) rfl [Value.int .i64 (x.ver : Int), Value.int .i64 (x.kind : Int), Value.string (bstr x.pl)] _ hat Tryz.underlying63 rfl uqs ?_) | (refine uqg rfl _ _ _ rfl rfl 63 _ #[.int .i64 (x.ver : Int), .int .i64 (x.kind : Int), .string (bstr x.pl)] rfl uqs rfl (uj4 _ _ _) ?_))
     generalize wr.alloc _ = W1 at *
     generalize wr.heap.size = gx at *
     clear hat
     by_cases h4 : x.kind = 4
     ·have n4 : ((x.kind : Int) == 4) = true := by rw [h4]; rfl
      have HRR := vxp (bstr x.pl) W1
      rw [uqu] at HRR
      obtain ⟨⟨za, zb, ze⟩, hz⟩ : ∃ z, decPR x.pl = z := ⟨_, rfl⟩
      rw [hz] at HRR
      rw [wkq h4 hz] at HFN
      have HRd := zrj HRR
      clear HRR hz h4
      go_wp2_with fail
      refine HRd.out.mono ?_
      rintro e w8 ⟨rfl, hb8⟩
      have hb8' := hb1'.trans (hb8.mono hb1'.size)
      have bz := Blk.new w8 47 #[.int .i64 za, .int .i64 zb]
      have hb9 : Below w8.heap.size w8 (w8.alloc (.cells #[.int .i64 za, .int .i64 zb] 47)) := (zri _ _).alloc (zra _) _
      have hb9' := hb8'.trans (hb9.mono hb8'.size)
      have brz := br12.out.below hb9' br12.out.lt
      clear bx x1 x2 hb8 hb8' hb1' HRd hb9 n4
      go_upto_region 23 with (first | (refine uqg rfl _ _ _ rfl rfl 47 _ #[.int .i64 za, .int .i64 zb] rfl uzd rfl (uvs _ _) ?_))
      generalize w8.alloc _ = W9 at *
      generalize w8.heap.size = gz at *
      have z0 := bz.cell 0
      have z1 := bz.cell 1
      have y0 := brz.cell 0
      have y1 := brz.cell 1
      have HB9 := zrj hb9'
      clear hb9'
      have HZE := zrj (eqInP za zb ((r.code : Nat) : Int) r.srv.st.rev _ rfl)
      generalize vz2 fs ((r.code : Nat) : Int) r.srv.st.rev j = b0 at *
      generalize (decide (za = ((r.code : Nat) : Int)) && decide (zb = r.srv.st.rev)) = b1 at *
      cases b0
      ·by_cases he0 : ze = 0
       ·subst he0
        have z9 : (((0 : Nat) : Int) == 0) = true := rfl
        have hEq := HZE.out
        rw [decide_eq_true rfl, Bool.true_and, Bool.false_or] at HFN
        go_wp2_with (first | (refine uqa (by rfl) _ _ rfl gz rfl _ _ bz _ Tryz.underlying47 rfl uzd ?_) | (refine uqa (by rfl) _ _ rfl kr rfl _ _ brz _ Tryz.underlying47 rfl uzd ?_))
        go_roundw
        case rel => exact ⟨j + 1, by omega, by go_num, by rw [HFN.out], HB9.out⟩
        case measure => simp [intOf]; omega
       ·have z9 : ((ze : Int) == 0) = false := by rw [zrf]; omega
        rw [decide_eq_false he0, Bool.false_and, Bool.false_or] at HFN
        clear he0
        go_wp2_with fail
        go_roundw
        case rel => exact ⟨j + 1, by omega, by go_num, by rw [HFN.out], HB9.out⟩
        case measure => simp [intOf]; omega
      ·rw [Bool.true_or] at HFN
       go_wp2_with fail
       go_roundw
       case rel => exact ⟨j + 1, by omega, by go_num, by rw [HFN.out], HB9.out⟩
       case measure => simp [intOf]; omega
     ·have n4 : ((x.kind : Int) == 4) = false := by rw [zrf]; omega
      rw [xxq h4, Bool.or_false] at HFN
      have HB1 := zrj hb1'
      clear hb1' bx h4
      go_wp2_with fail
      go_roundw
      case rel => exact ⟨j + 1, by omega, by go_num, by rw [HFN.out], HB1.out⟩
      case measure => simp [intOf]; omega
    ·obtain rfl : j = fs.length := by omega
     have HI13 := zrj (HI12.out.below hbr)
     have HH13 := zrj (HH12.out.below hbr)
     have C13 := zrj (C12.out.trans (hbr.mono C12.out.size))
     rw [HO4.out]
     clear hbr
     go_wp2_with fail
     go_roundw
     case rel => exact ⟨n + 1, h7, ws7, by omega, by go_num, by rw [HS2.out]; exact HI13.out, HH13.out, HS1, C13.out⟩
     case measure => simp [intOf]; omega
  ·obtain rfl : n = l1.length := by omega
   have HC9 := zrj cc
   clear cc hIn Hn
   go_wp2_with fail
   go_ret
   exact ⟨rfl, HC9.out⟩
end Go.Proofs.YtibiankbmhdljaaGreatDoor.hubServes
