/-
  Several texts in one: VHubReplies.
-/
import Derived.Test.YtibiankbmhdljaaGreatDoorPkFact
import Derived.Test.YtibiankbmhdljaaGreatDoorPkRep
import Derived.Test.YtibiankbmhdljaaGreatDoorPkReqOz
set_option linter.all false
set_option maxHeartbeats 16000000
set_option maxRecDepth 100000
namespace Go.Proofs.YtibiankbmhdljaaGreatDoor.hubReplies
open Go.ChangeShapes Go.WideShapes Go.ChangeAt Go.RowKit Go.Joins
open Go.ChangeMaps (open_string)
theorem walk (s0 : St) (pj0 pn0 pl0 : Option Addr) (cj0 cn0 cl0 : Nat) (w : World) (hm0 : StM w w.heap.size pj0 pn0 pl0 s0) (hk0 : StOk s0) (pq1 : Option Addr) (cq1 : Nat) (l1 : List ReqD) (hel1 : Elts w w.heap.size 14 pq1 (l1.map rowQ)) (hok1 : ∀ x ∈ l1, okQ x) (hl1 : l1.length ≤ 1099511627776) (hT : Tabs w) :
  Calls Tryz.prog 8 #[.agg (stv s0 pj0 pn0 pl0 cj0 cn0 cl0), .slice pq1 l1.length cq1] w fun e w' => e = .returned (.bool true) ∧ Below w.heap.size w w' := by
 have b0_ := Blk.new w 26 (stv s0 pj0 pn0 pl0 cj0 cn0 cl0)
 have c0 := (zri w.heap.size w).alloc (zra _) (.cells (stv s0 pj0 pn0 pl0 cj0 cn0 cl0) 26)
 have HM := zrj hm0
 have HZ := zrj hk0.sz
 have HT := zrj hT
 clear hm0 hk0 hT
 have HEL := zrj hel1
 have HOK := zrj hok1
 have hzr := uz0
 have hzd := ux7
 have hzq := uqw
 have hzf := uxu
 clear hel1 hok1
 by_cases hE : uqv s0 = 0
 rotate_left
 ·have hne : (((uqv s0 : Nat) : Int) != 0) = true := by rw [bne_iff_ne]; omega
  have HE := zrj hE
  clear hE
  go_enter Tryz.func8, Tryz.ntmps8
  go_wp2_with (first | (refine uqa (by rfl) _ _ rfl (w.heap.size) rfl _ _ b0_ _ Tryz.underlying26 rfl uqh ?_))
  generalize w.alloc _ = W1 at *
  refine (uzv _ (HT.out.below c0)).mono ?_
  rintro e w1 ⟨rfl, hb2⟩
  have b3 := b0_.below hb2 b0_.lt
  have c4 := c0.trans (hb2.mono c0.size)
  clear b0_ c0 hb2
  go_wp2_with (first | (refine uqa (by rfl) _ _ rfl (w.heap.size) rfl _ _ b3 _ Tryz.underlying26 rfl uqh ?_))
  refine (vxh s0 _ _ _ _ _ _ _ ((HM.out.below c4).more c4.size) HZ.out (HT.out.below c4) HE.out).mono ?_
  rintro e w5 ⟨rfl, hb6⟩
  have b7 := b3.below hb6 b3.lt
  have c8 := c4.trans (hb6.mono c4.size)
  clear b3 c4 hb6
  go_wp2_with (first | (refine uqa (by rfl) _ _ rfl (w.heap.size) rfl _ _ b7 _ Tryz.underlying26 rfl uqh ?_))
  refine (vxv s0 _ _ _ _ _ _ _ ((HM.out.below c8).more c8.size) HZ.out (HT.out.below c8) HE.out).mono ?_
  rintro e w9 ⟨rfl, hb10⟩
  have b11 := b7.below hb10 b7.lt
  have c12 := c8.trans (hb10.mono c8.size)
  clear b7 c8 hb10
  go_wp2_with (first | (refine uqa (by rfl) _ _ rfl (w.heap.size) rfl _ _ b11 _ Tryz.underlying26 rfl uqh ?_))
  go_ret
  exact ⟨by simp, c12⟩
 have HE := zrj hE
 have F0 := zrj ((uxi s0).1 hE)
 clear hE
 go_enter Tryz.func8, Tryz.ntmps8
 go_wp2_with (first | (refine uqa (by rfl) _ _ rfl (w.heap.size) rfl _ _ b0_ _ Tryz.underlying26 rfl uqh ?_))
 generalize w.alloc _ = W1 at *
 refine (uzv _ (HT.out.below c0)).mono ?_
 rintro e w13 ⟨rfl, hb14⟩
 have b15 := b0_.below hb14 b0_.lt
 have c16 := c0.trans (hb14.mono c0.size)
 clear b0_ c0 hb14
 go_wp2_with (first | (refine uqa (by rfl) _ _ rfl (w.heap.size) rfl _ _ b15 _ Tryz.underlying26 rfl uqh ?_))
 refine (uya s0 _ _ _ _ _ _ _ ((HM.out.below c16).more c16.size) HZ.out (HT.out.below c16) HE.out).mono ?_
 rintro e wN ⟨g, sv, fd, ws, rfl, HN_, hbN⟩
 have hB := zrj c16.size
 have HN := zrj HN_
 clear HN_
 have b17 := b15.below hbN b15.lt
 have c18 := c16.trans (hbN.mono c16.size)
 clear b15 c16 hbN
 go_wp2_with (first | (refine uqa (by rfl) _ _ rfl (w.heap.size) rfl _ _ b17 _ Tryz.underlying26 rfl uqh ?_))
 refine (vju s0 _ _ _ _ _ _ _ ((HM.out.below c18).more c18.size) HZ.out (HT.out.below c18) HE.out).mono ?_
 rintro e wV ⟨gv, rfl, hgv, hI, hbV⟩
 have hne : sv ≠ gv := by have := HN.out.s.lt; omega
 have hgw : w.heap.size ≤ gv := zrc c18.size hgv
 clear hgv
 have b19 := b17.below hbV b17.lt
 have hh20 := zrj (HN.out.below hbV)
 have c21 := c18.trans (hbV.mono c18.size)
 clear b17 HN c18 hbV
 go_wp2_with (first | (refine uqa (by rfl) _ _ rfl (w.heap.size) rfl _ _ b19 _ Tryz.underlying26 rfl uqh ?_))
 have CV := zrj c21
 clear c21 b19
 go_loopw [9, 10, 57] (fun al wa i wr => ∃ (n : Nat) (p : Option Addr) (c : Nat), n ≤ l1.length ∧ i = .int .i64 n ∧ al = .string (bstr (allQ (selQ (l1.take n)))) ∧ wa = .slice p (repD ⟨s0, 0⟩ (selQ (l1.take n))).length c ∧ OwnR wr w.heap.size 47 2 p c ((repD ⟨s0, 0⟩ (selQ (l1.take n))).map rowP) ∧ SvI wr gv (vxs ⟨s0, 0⟩ (selQ (l1.take n))) ∧ HubM wr w13.heap.size g sv fd ws (newH s0) ∧ Below w.heap.size w wr) (fun _ _ i _ => l1.length - (intOf i).toNat)
 case atStart => exact ⟨0, none, 0, Nat.zero_le _, rfl, rfl, rfl, OwnR.nil0 _ _ _ _, hI, hh20.out, CV.out⟩
 case round =>
  obtain ⟨n, p, c, hn, rfl, rfl, rfl, hO, hI, Hn, cc⟩ := hrel
  by_cases hlt : n < l1.length
  ·have hx : l1[n]? = some l1[n] := zrd hlt
   have hq := HOK.out l1[n] (List.getElem_mem hlt)
   have hyes := selQ_yes hx
   have hno := selQ_no hx
   have hsl : (selQ (l1.take n)).length ≤ l1.length := zrc (wvm _) (by rw [List.length_take]; omega)
   generalize l1[n] = q at *
   obtain ⟨a, rfl, hab, _, hat⟩ := (HEL.out.below cc).at_ (k := n) (r := rowQ q) (by rw [zrg, hx]; rfl)
   have HSq := zrj (ReqSz.of hq)
   have HY := zrj hyes
   have HNo := zrj hno
   have OKv := zrj (wxn (selQ (l1.take n)) (uz8 F0.out))
   have HSA := zrj (wju ⟨s0, 0⟩ (selQ (l1.take n)) q)
   have HRS := zrj (wxb (selQ (l1.take n)) ⟨s0, 0⟩ q)
   have HAS := zrj (fun h => wy7 (selQ (l1.take n)) (q := q) h)
   have hal := wj6 (qs := selQ (l1.take n)) (fun x h => (xjb h).1)
   have hrl := vjq (selQ (l1.take n)) ⟨s0, 0⟩
   clear hx hq hyes hno hab
   have hb1 : Below wr.heap.size wr (wr.alloc (.cells (qv q) 43)) := (zri _ _).alloc (zra _) _
   have bq := Blk.new wr 43 (qv q)
   have HHn := zrj Hn
   clear Hn
   have i22 := hI.below hb1
   have o23 := hO.below hb1
   have hh24 := zrj (HHn.out.below hb1)
   have c25 := cc.trans (hb1.mono cc.size)
   clear hI hO HHn cc hb1
   generalize hqs : selQ (l1.take n) = qs at *
   clear hqs
   generalize hAl : allQ qs = al at *
   generalize hRl : (repD ⟨s0, 0⟩ qs) = rs at *
   generalize hvv : vxs ⟨s0, 0⟩ qs = v at *
   have hAL := zrj hAl; have hRL := zrj hRl; have hVV := zrj hvv; have hrs : rs.length ≤ 1099511627776 := by omega
   have hals : al.length ≤ 142936511610880 := by omega
   clear hAl hRl hvv hrl hal
   go_upto_region 12 with (first | (refine uqe rfl _ _ rfl (a.add (n * 14)) rfl [Value.int .i64 q.kind, Value.string q.job.name, Value.int .i64 q.job.prio, Value.int .i64 q.job.need, Value.int .i64 q.job.tries, Value.string q.job.tag, Value.string q.node.name, Value.int .i64 q.node.room, Value.string q.node.zone, Value.string q.lease.job, Value.string q.lease.node, Value.int .i64 q.lease.till, Value.string q.name, Value.int .i64 q.n] _ hat Tryz.underlying43 rfl uqb ?_) | (refine uqg rfl _ _ _ rfl rfl 43 _ (qv q) rfl uqb rfl (by simp [Value.oneCell']) ?_))
   generalize wr.alloc _ = W1 at *
   generalize wr.heap.size = gq at *
   clear hat
   have HBy := zrj (uvx q _ HSq.out (HT.out.below c25))
   by_cases hE1 : reqE q = 0
   rotate_left
   ·rw [decide_eq_false hE1] at HBy
    have hbad : ¬(reqE q = 0 ∧ ¬(q.kind = 8 ∨ q.kind = 9)) := fun h => hE1 h.1
    clear hE1
    have HS := zrj (HNo.out hbad)
    clear HNo HY hbad
    go_wp2_with (first | (refine uqa (by rfl) _ _ rfl (gq) rfl _ _ bq _ Tryz.underlying43 rfl uqb ?_))
    refine (HBy.out).mono ?_
    rintro e w26 ⟨rfl, hb27⟩
    have b28 := bq.below hb27 bq.lt
    have i29 := i22.below hb27
    have o30 := o23.below hb27
    have hh31 := zrj (hh24.out.below hb27)
    have c32 := c25.trans (hb27.mono c25.size)
    clear bq i22 o23 hh24 c25 hb27
    go_wp2_with (first | (refine uqa (by rfl) _ _ rfl (gq) rfl _ _ b28 _ Tryz.underlying43 rfl uqb ?_))
    go_roundw
    case rel => exact ⟨n + 1, p, c, by omega, by go_num, by rw [HS.out, hAL.out], by rw [HS.out, hRL.out], by rw [HS.out, hRL.out]; exact o30, by rw [HS.out, hVV.out]; exact i29, hh31.out, c32⟩
    case measure => simp [intOf]; omega
   rw [decide_eq_true hE1] at HBy
   have q0 := bq.cell 0
   by_cases k8 : q.kind = 8
   ·have e8 : (q.kind != 8) = false := by rw [bne_eq_false_iff_eq]; exact k8
    have hbad : ¬(reqE q = 0 ∧ ¬(q.kind = 8 ∨ q.kind = 9)) := fun h => h.2 (.inl k8)
    clear hE1 k8
    have HS := zrj (HNo.out hbad)
    clear HNo HY hbad q0
    go_wp2_with (first | (refine uqa (by rfl) _ _ rfl (gq) rfl _ _ bq _ Tryz.underlying43 rfl uqb ?_))
    refine (HBy.out).mono ?_
    rintro e w33 ⟨rfl, hb34⟩
    have b35 := bq.below hb34 bq.lt
    have i36 := i22.below hb34
    have o37 := o23.below hb34
    have hh38 := zrj (hh24.out.below hb34)
    have c39 := c25.trans (hb34.mono c25.size)
    clear bq i22 o23 hh24 c25 hb34
    have q0 : w33.cell? ⟨gq, 0, none⟩ = some (.int .i64 q.kind) := b35.cell 0
    go_wp2_with (first | (refine uqa (by rfl) _ _ rfl (gq) rfl _ _ b35 _ Tryz.underlying43 rfl uqb ?_))
    go_roundw
    case rel => exact ⟨n + 1, p, c, by omega, by go_num, by rw [HS.out, hAL.out], by rw [HS.out, hRL.out], by rw [HS.out, hRL.out]; exact o37, by rw [HS.out, hVV.out]; exact i36, hh38.out, c39⟩
    case measure => simp [intOf]; omega
   have e8 : (q.kind != 8) = true := by rw [bne_iff_ne]; exact k8
   by_cases k9 : q.kind = 9
   ·have e9 : (q.kind != 9) = false := by rw [bne_eq_false_iff_eq]; exact k9
    have hbad : ¬(reqE q = 0 ∧ ¬(q.kind = 8 ∨ q.kind = 9)) := fun h => h.2 (.inr k9)
    clear hE1 k9
    have HS := zrj (HNo.out hbad)
    clear HNo HY hbad q0
    go_wp2_with (first | (refine uqa (by rfl) _ _ rfl (gq) rfl _ _ bq _ Tryz.underlying43 rfl uqb ?_))
    refine (HBy.out).mono ?_
    rintro e w40 ⟨rfl, hb41⟩
    have b42 := bq.below hb41 bq.lt
    have i43 := i22.below hb41
    have o44 := o23.below hb41
    have hh45 := zrj (hh24.out.below hb41)
    have c46 := c25.trans (hb41.mono c25.size)
    clear bq i22 o23 hh24 c25 hb41
    have q0 : w40.cell? ⟨gq, 0, none⟩ = some (.int .i64 q.kind) := b42.cell 0
    go_wp2_with (first | (refine uqa (by rfl) _ _ rfl (gq) rfl _ _ b42 _ Tryz.underlying43 rfl uqb ?_))
    go_roundw
    case rel => exact ⟨n + 1, p, c, by omega, by go_num, by rw [HS.out, hAL.out], by rw [HS.out, hRL.out], by rw [HS.out, hRL.out]; exact o44, by rw [HS.out, hVV.out]; exact i43, hh45.out, c46⟩
    case measure => simp [intOf]; omega
   have e9 : (q.kind != 9) = true := by rw [bne_iff_ne]; exact k9
   have HYS := zrj (HY.out ⟨hE1, fun h => h.elim k8 k9⟩)
   have HAS2 := zrj (HAS.out hE1)
   have hbl := ujo q
   have hadd : ∀ W, (Op.stringOp .add (bstr al) (bstr (uq4 q))).run Tryz.prog W = .ok (.string (bstr al ++ bstr (uq4 q))) W := fun W => run_string_add_sum W _ _ (by rw [uqy, uqy]; omega)
   rw [uk4] at hadd
   clear HY HNo HAS hE1 k8 k9 q0
   go_wp2_with (first | (refine uqa (by rfl) _ _ rfl (gq) rfl _ _ bq _ Tryz.underlying43 rfl uqb ?_))
   refine (HBy.out).mono ?_
   rintro e w47 ⟨rfl, hb48⟩
   have b49 := bq.below hb48 bq.lt
   have i50 := i22.below hb48
   have o51 := o23.below hb48
   have hh52 := zrj (hh24.out.below hb48)
   have c53 := c25.trans (hb48.mono c25.size)
   clear bq i22 o23 hh24 c25 hb48
   have q0 : w47.cell? ⟨gq, 0, none⟩ = some (.int .i64 q.kind) := b49.cell 0
   go_wp2_with (first | (refine uqa (by rfl) _ _ rfl (gq) rfl _ _ b49 _ Tryz.underlying43 rfl uqb ?_))
   refine (vjt q v gv _ i50 OKv.out HSq.out (HT.out.below c53)).mono ?_
   rintro e wD ⟨x1, x2, x3, x4, x5, x6, y1, y2, y3, y4, y5, y6, rfl, hI2, hgD, hD⟩
   obtain ⟨cs0, hsb⟩ := i50.blk
   have bq2 := uw4 i50 hgD b49 (by decide)
   have HH2 := zrj (hh52.out.beside hgD hsb hne)
   have hO2 := o51.offs hgD hsb (by decide)
   have c2 := uz1 c53 hgD hgw c53.size
   have hcode := xqu v q
   clear i50 b49 hh52 o51 c53 hgD hsb hD q0
   generalize doR v q = r at *
   have t1 := wxv (w := wD)
   have t2 := vwc (w := wD) #[.int .i64 ((r.code : Nat) : Int), .int .i64 r.srv.st.rev]
   obtain ⟨hb5, br5, bd5⟩ := wvu (w := wD) (rc := #[.int .i64 ((r.code : Nat) : Int), .int .i64 r.srv.st.rev]) (dc := #[.int .i64 (toldD r).frm, .int .i64 (toldD r).upto, .slice x1 (toldD r).jobs.length y1, .slice x2 (toldD r).nodes.length y2, .slice x3 (toldD r).leases.length y3, .slice x4 (toldD r).gj.length y4, .slice x5 (toldD r).gn.length y5, .slice x6 (toldD r).gl.length y6])
   have b54 := bq2.below hb5 bq2.lt
   have i55 := hI2.below hb5
   have o56 := hO2.below hb5
   have hh57 := zrj (HH2.out.below hb5)
   have c58 := c2.trans (hb5.mono c2.size)
   clear bq2 hI2 hO2 HH2 c2 hb5
   go_upto_region 16 with (first | (refine uqf rfl _ _ _ rfl wD.heap.size rfl _ _ #[.int .i64 ((r.code : Nat) : Int), .int .i64 r.srv.st.rev] t1 rfl uzd rfl (uvs _ _) ?_) | (refine uqf rfl _ _ _ rfl (wD.heap.size + 1) rfl _ _ #[.int .i64 (toldD r).frm, .int .i64 (toldD r).upto, .slice x1 (toldD r).jobs.length y1, .slice x2 (toldD r).nodes.length y2, .slice x3 (toldD r).leases.length y3, .slice x4 (toldD r).gj.length y4, .slice x5 (toldD r).gn.length y5, .slice x6 (toldD r).gl.length y6] t2 rfl uxg rfl (uyf _ _ _ _ _ _ _ _ _ _ _ _ _ _ _ _ _ _ _ _) ?_))
   clear t1 t2 bd5
   generalize (((wD.alloc _).alloc _).setRow _ _).setRow _ _ = W6 at *
   generalize wD.heap.size = kr at *
   obtain ⟨i0, hi, hz0, hz1, hz2⟩ := info_parts rep_info
   have hb7 : Below W6.heap.size W6 (W6.alloc (.cells #[.int .i64 ((r.code : Nat) : Int), .int .i64 r.srv.st.rev] 47)) := (zri _ _).alloc (zra _) _
   have bn7 := Blk.new W6 47 #[.int .i64 ((r.code : Nat) : Int), .int .i64 r.srv.st.rev]
   have br5_ := br5
   have i59 := i55.below hb7
   have o60 := o56.below hb7
   have hh61 := zrj (hh57.out.below hb7)
   have c62 := c58.trans (hb7.mono c58.size)
   clear i55 o56 hh57 c58 hb7
   have hcl : ∀ j u, (rowP (r.code, r.srv.st.rev))[j]? = some u → (W6.alloc (.cells #[.int .i64 ((r.code : Nat) : Int), .int .i64 r.srv.st.rev] 47)).cell? ((⟨W6.heap.size, 0, none⟩ : Addr).add j) = some u := World.news_of_block bn7
   have h13 : ∀ u ∈ rowP (r.code, r.srv.st.rev), u.oneCell' = true := by simp [rowP, Value.oneCell']
   have hO7 := o60.2
   rw [zre] at hO7
   have hml : rs.length + 1 ≤ maxLen := by unfold maxLen; omega
   have hby : (rs.length + 1) * 16 ≤ 140737488355328 := by omega
   have hbs : w.heap.size ≤ (W6.alloc (.cells #[.int .i64 ((r.code : Nat) : Int), .int .i64 r.srv.st.rev] 47)).heap.size := c62.size
   have hl2 : (rowP (r.code, r.srv.st.rev)).length = 1 * 2 := rfl
   go_wp2_with (first | (refine uqa (by rfl) _ _ rfl kr rfl _ _ br5_ _ Tryz.underlying47 rfl uzd ?_) | (at_builtin; go_loud (refine wpList_append_own _ rfl _ _ 84 rfl w.heap.size 47 i0 _ 2 16 Tryz.underlying84 hi hz0 hz1 hz2 rfl (by decide) _ rs.length ((rs.map rowP).flatten) rfl hO7 ⟨W6.heap.size, 0, none⟩ 1 1 (rowP (r.code, r.srv.st.rev)) rfl hl2 hcl h13 hml hby hbs ?_)))
   intro v2 w8 hown hg hnil
   have HI8 := zrj (i59.rep hO7 hg)
   have HH8 := zrj (hh61.out.rep hO7 hg)
   have HC8 := zrj (xqa c62 (zra _) c62.size hO7 hg)
   obtain ⟨q8, d8, rfl⟩ := rep_form hown
   have HO8 := zrj (show OwnR w8 w.heap.size 47 2 q8 d8 ((rs ++ [(r.code, r.srv.st.rev)]).map rowP) from ⟨wjp _, by rw [zre, zrb, List.map_append, List.flatten_append]; exact hown⟩)
   clear hown hg hnil hO7 hcl bn7 i59 hh61 c62 o60
   go_wp2_with fail
   have hll : rs.length + 1 = (rs ++ [(r.code, r.srv.st.rev)]).length := by rw [zrb]; rfl
   go_roundw
   case rel => exact ⟨n + 1, q8, d8, by omega, by go_num, by rw [HYS.out, HAS2.out], by rw [HYS.out, HRS.out, ← hll], by rw [HYS.out, HRS.out]; exact HO8.out, by rw [HYS.out, HSA.out]; exact HI8.out, HH8.out, HC8.out⟩
   case measure => simp [intOf]; omega
  ·obtain rfl : n = l1.length := by omega
   have HQ := zrj (fun q (h : q ∈ selQ (l1.take l1.length)) => xjb h)
   have hQl : (selQ (l1.take l1.length)).length ≤ 1099511627776 := zrc (wvm _) (by rw [List.length_take]; omega)
   generalize selQ (l1.take l1.length) = Q at *
   have hal := wj6 (qs := Q) (fun x h => (HQ.out x h).1)
   have HS := ukm Hn (k := 0) (by decide) (uz8 F0.out) (fun W hW => HT.out.below (cc.trans (hW.mono hB.out))) (bstr (allQ Q)) (by rw [uqy]; omega) (by rw [uqu, vv7 s0 0 HQ.out, zre]; omega) (fun n i hi => by
     rw [uqu]
     have h : (encs (((newH s0).mid 0 (allQ Q) n).c i).waits).length ≤ Q.length * 38 := sel_mid F0.out 0 HQ.out n i
     omega) rfl
   rw [uqu, sel_out F0.out HQ.out] at HS
   have HHn := zrj Hn
   have HSd := zrj HS
   have HG := zrj (wjs F0.out (qs := Q))
   have HRK := zrj (vyd Q (uz8 F0.out))
   have hRl : (repD ⟨s0, 0⟩ Q).length ≤ 1099511627776 := by rw [vjq]; exact hQl
   clear Hn HS hal hI
   generalize (newH s0).send 0 (allQ Q) = h9 at *
   generalize repD ⟨s0, 0⟩ Q = R at *
   generalize bstr (allQ Q) = als at *
   clear HQ hQl
   go_wp2_with fail
   refine (HSd.out).mono ?_
   rintro e w63 ⟨rfl, ws64, H65, C66⟩
   have c67 := cc.trans ((C66.under HHn.out).mono hB.out)
   have hO2 := hO.tch C66.t (fun k cs hb => HHn.out.other hb (by decide) (by decide) (by decide) (by decide))
   have hh68 := zrj H65
   clear cc C66 HHn H65
   clear hO HSd
   go_wp2_with fail
   have cSZ := c67.size
   refine (vqy _).mono ?_
   rintro e w69 ⟨gf, rfl, hgf, hfi, hb70⟩
   have o71 := hO2.below hb70
   have hh72 := zrj (hh68.out.below hb70)
   have c73 := c67.trans (hb70.mono c67.size)
   clear hO2 hh68 c67 hb70
   have HPu := vqc _ HG.out (by rw [zre]; exact zrc hRl (by decide)) _ gf hfi
   rw [zre] at HPu
   go_wp2_with fail
   refine HPu.mono ?_
   rintro e w6 ⟨pa, ca, rfl, hel, hge, hfe, hasd⟩
   obtain ⟨fcs, hfb⟩ := hfi.own
   have hO6 := zrj (o71.offs hasd hfb (by decide))
   have HEL6 := zrj hel
   have HC6 := zrj (c73.trans (hasd.toBelow (zrc cSZ hgf) c73.size))
   clear hel hge hfe hasd hfb hfi HPu o71 c73 hh72
   generalize bstr (encs (R.map repFr)) = outb at *
   go_wp2_with fail
   go_loopw [119] (fun i wr => ∃ k : Nat, k ≤ R.length ∧ i = .int .i64 k ∧ Below w6.heap.size w6 wr) (fun i _ => R.length - (intOf i).toNat)
   case atStart => exact ⟨0, Nat.zero_le _, rfl, zri _ _⟩
   case round =>
    obtain ⟨k, hk, rfl, hbr⟩ := hrel
    by_cases hlt : k < R.length
    ·have hy : R[k]? = some R[k] := zrd hlt
     have hok := HRK.out R[k] (List.getElem_mem hlt)
     generalize R[k] = y at *
     have hfx : ((R.map repFr).map rowFr)[k]? = some (rowFr (repFr y)) := by rw [zrg, zrg, hy]; rfl
     have hwx : (R.map rowP)[k]? = some (rowP y) := by rw [zrg, hy]; rfl
     have hpl : (repFr y).pl = encP y.1 y.2 := rfl
     have n4 : ((((repFr y).kind : Nat) : Int) != 4) = false := rfl
     generalize repFr y = x at *
     obtain ⟨a, rfl, hab, _, hat⟩ := (HEL6.out.below hbr).at_ (k := k) (r := rowFr x) hfx
     have hb1 : Below wr.heap.size wr (wr.alloc (.cells #[.int .i64 (x.ver : Int), .int .i64 (x.kind : Int), .string (bstr x.pl)] 63)) := (zri _ _).alloc (zra _) _
     have bx := Blk.new wr 63 #[.int .i64 (x.ver : Int), .int .i64 (x.kind : Int), .string (bstr x.pl)]
     have hb1' := hbr.trans (hb1.mono hbr.size)
     have x2 : (wr.alloc (.cells #[.int .i64 (x.ver : Int), .int .i64 (x.kind : Int), .string (bstr x.pl)] 63)).cell? ⟨wr.heap.size, 2, none⟩ = some (.string (bstr x.pl)) := bx.cell 2
     have HRR := vxp (bstr x.pl) (wr.alloc (.cells #[.int .i64 (x.ver : Int), .int .i64 (x.kind : Int), .string (bstr x.pl)] 63))
     rw [uqu, hpl, vyx hok] at HRR
     rw [← hpl] at HRR
     have HRd := zrj HRR
     clear hbr hb1 HRR hab hfx hok hpl hy
     go_upto_region 25 with (first | (refine uqe rfl _ _ rfl (a.add (k * 3)) rfl [Value.int .i64 (x.ver : Int), Value.int .i64 (x.kind : Int), Value.string (bstr x.pl)] _ hat Tryz.underlying63 rfl uqs ?_) | (refine uqg rfl _ _ _ rfl rfl 63 _ #[.int .i64 (x.ver : Int), .int .i64 (x.kind : Int), .string (bstr x.pl)] rfl uqs rfl (uj4 _ _ _) ?_))
     generalize wr.alloc _ = W1 at *
     generalize wr.heap.size = gx at *
     clear hat
     go_wp2_with fail
     refine HRd.out.mono ?_
     rintro e w8 ⟨rfl, hb8⟩
     have bx8 := bx.below hb8 bx.lt
     have hb8' := hb1'.trans (hb8.mono hb1'.size)
     have br := Blk.new w8 47 #[.int .i64 (y.1 : Int), .int .i64 y.2]
     have hb9 : Below w8.heap.size w8 (w8.alloc (.cells #[.int .i64 (y.1 : Int), .int .i64 y.2] 47)) := (zri _ _).alloc (zra _) _
     have bx9 := bx8.below hb9 bx8.lt
     have hb9' := hb8'.trans (hb9.mono hb8'.size)
     clear bx x2 bx8 hb8 hb8' hb1' HRd hb9
     go_upto_region 26 with (first | (refine uqg rfl _ _ _ rfl rfl 47 _ #[.int .i64 (y.1 : Int), .int .i64 y.2] rfl uzd rfl (uvs _ _) ?_))
     generalize w8.alloc _ = W9 at *
     generalize w8.heap.size = gr at *
     obtain ⟨a', rfl, hab', _, hat'⟩ := (hO6.out.elts.below hb9').at_ (k := k) (r := rowP y) hwx
     have hEq := fun (W : World) => eqInP (y.1 : Int) y.2 (y.1 : Int) y.2 true (by simp) W
     have hki : (k : Int) < (R.length : Int) := by omega
     have hk0 : ¬ (k : Int) < 0 := by omega
     have G0 : Blk W9.drew gx 63 #[.int .i64 (x.ver : Int), .int .i64 (x.kind : Int), .string (bstr x.pl)] ∧ Blk W9.drew gr 47 #[.int .i64 (y.1 : Int), .int .i64 y.2] ∧ At W9.drew (a'.add (k * 2)) (rowP y) := ⟨bx9.drew, br.drew, hat'⟩
     refine wp_region_held_drew (S := fun W => Blk W gx 63 #[.int .i64 (x.ver : Int), .int .i64 (x.kind : Int), .string (bstr x.pl)] ∧ Blk W gr 47 #[.int .i64 (y.1 : Int), .int .i64 y.2] ∧ At W (a'.add (k * 2)) (rowP y)) (by kernel_rfl) G0 (fun hHeld => ?_)
     refine tq 0 ?_
     refine tq 1 ?_ (hv := by intro w5 hw5; have f1 := hw5.1.cell 1; go_simp; (try with_reducible rfl))
     refine tq 2 ?_
     refine tq 3 ?_
     refine tq 4 ?_
     refine tq 5 ?_
     refine tq 6 ?_
     refine tq 7 ?_
     refine tq 8 ?_ (hv := by intro w5 hw5; have f0 := hw5.2.1.cell 0; have f1 := hw5.2.1.cell 1; go_simp; (try with_reducible rfl))
     refine tq 9 ?_
     refine tq 10 ?_
     refine tq 11 ?_
     refine tq 12 ?_ (hv := by intro w5 hw5; have f0 : w5.cell? (a'.add (k * 2)) = some (.int .i64 (y.1 : Int)) := hw5.2.2 0 _ rfl; have f1 : w5.cell? { block := (a'.add (k * 2)).block, off := (a'.add (k * 2)).off + 1 } = some (.int .i64 y.2) := hw5.2.2 1 _ rfl; go_simp; (try with_reducible rfl))
     refine tq 13 ?_
     refine tq 14 ?_
     refine wpAnyH_done (by kernel_rfl) ?_ _
     have HB := zrj hb9'.drew
     clear hb9' G0 hHeld bx9 br hat'
     go_wp2_with fail
     go_roundw
     case rel => exact ⟨k + 1, by omega, by go_num, HB.out⟩
     case measure => simp [intOf]; omega
    ·obtain rfl : k = R.length := by omega
     have HF := zrj (HC6.out.trans (hbr.mono HC6.out.size))
     clear hbr
     go_wp2_with fail
     go_ret
     exact ⟨rfl, HF.out⟩
end Go.Proofs.YtibiankbmhdljaaGreatDoor.hubReplies
