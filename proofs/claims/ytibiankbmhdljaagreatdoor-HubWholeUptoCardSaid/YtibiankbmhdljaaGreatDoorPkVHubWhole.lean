/-
  Several texts in one: VHubWhole.
-/
import Derived.Test.YtibiankbmhdljaaGreatDoorPkFact
import Derived.Test.YtibiankbmhdljaaGreatDoorPkPlay
set_option linter.all false
set_option maxHeartbeats 16000000
set_option maxRecDepth 100000
namespace Go.Proofs.YtibiankbmhdljaaGreatDoor.hubWhole
open Go.ChangeShapes Go.WideShapes Go.ChangeAt Go.RowKit Go.Joins
open Go.ChangeMaps (open_string)
theorem walk (s0 : St) (pj0 pn0 pl0 : Option Addr) (cj0 cn0 cl0 : Nat) (w : World) (hm0 : StM w w.heap.size pj0 pn0 pl0 s0) (hk0 : StOk s0) (pq1 : Option Addr) (cq1 : Nat) (l1 : List ActD) (hel1 : Elts w w.heap.size 2 pq1 (l1.map rowA)) (hok1 : ∀ x ∈ l1, okA x) (ub1 : uzq l1 + l1.length ≤ 1048576) (hT : Tabs w) :
  Calls Tryz.prog 4 #[.agg (stv s0 pj0 pn0 pl0 cj0 cn0 cl0), .slice pq1 l1.length cq1] w fun e w' => e = .returned (.bool true) ∧ Below w.heap.size w w' := by
 have b0_ := Blk.new w 26 (stv s0 pj0 pn0 pl0 cj0 cn0 cl0)
 have c0 := (zri w.heap.size w).alloc (zra _) (.cells (stv s0 pj0 pn0 pl0 cj0 cn0 cl0) 26)
 have HM := zrj hm0
 have HZ := zrj hk0.sz
 have HT := zrj hT
 clear hm0 hk0 hT
 have HEL := zrj hel1
 have hsu : uzq l1 ≤ 1048576 := by omega
 have hll : l1.length ≤ 1048576 := by omega
 have hzf := uxu
 clear hel1 hok1 ub1
 by_cases hE : uqv s0 = 0
 rotate_left
 ·have hne : (((uqv s0 : Nat) : Int) != 0) = true := by rw [bne_iff_ne]; omega
  have HE := zrj hE
  clear hE
  go_enter Tryz.func4, Tryz.ntmps4
  go_wp2_with (first | (refine uqa (by rfl) _ _ rfl (w.heap.size) rfl _ _ b0_ _ Tryz.underlying26 rfl uqh ?_))
  generalize w.alloc _ = W1 at *
  refine (uzv _ (HT.out.below c0)).mono ?_
  rintro e w1 ⟨rfl, hb2⟩
  have b3 := b0_.below hb2 b0_.lt
  have c4 := c0.trans (hb2.mono c0.size)
  clear b0_ c0 hb2
  go_wp2_with (first | (refine uqa (by rfl) _ _ rfl (w.heap.size) rfl _ _ b3 _ Tryz.underlying26 rfl uqh ?_))
  refine (vki s0 _ _ _ _ _ _ _ ((HM.out.below c4).more c4.size) HZ.out (HT.out.below c4) l1 pq1 cq1 HE.out).mono ?_
  rintro e w5 ⟨rfl, hb6⟩
  have b7 := b3.below hb6 b3.lt
  have c8 := c4.trans (hb6.mono c4.size)
  clear b3 c4 hb6
  go_wp2_with (first | (refine uqa (by rfl) _ _ rfl (w.heap.size) rfl _ _ b7 _ Tryz.underlying26 rfl uqh ?_))
  go_ret
  exact ⟨rfl, c8⟩
 have HE := zrj hE
 have F0 := zrj ((uxi s0).1 hE)
 clear hE
 go_enter Tryz.func4, Tryz.ntmps4
 go_wp2_with (first | (refine uqa (by rfl) _ _ rfl (w.heap.size) rfl _ _ b0_ _ Tryz.underlying26 rfl uqh ?_))
 generalize w.alloc _ = W1 at *
 refine (uzv _ (HT.out.below c0)).mono ?_
 rintro e w9 ⟨rfl, hb10⟩
 have b11 := b0_.below hb10 b0_.lt
 have c12 := c0.trans (hb10.mono c0.size)
 clear b0_ c0 hb10
 go_wp2_with (first | (refine uqa (by rfl) _ _ rfl (w.heap.size) rfl _ _ b11 _ Tryz.underlying26 rfl uqh ?_))
 by_cases hL : 60 < l1.length
 ·have HP := wzs s0 pj0 pn0 pl0 cj0 cn0 cl0 _ ((HM.out.below c12).more c12.size) HZ.out (HT.out.below c12) l1 pq1 cq1 HE.out hL (by omega)
  clear hL
  refine (HP).mono ?_
  rintro e w13 ⟨rfl, hb14⟩
  have b15 := b11.below hb14 b11.lt
  have c16 := c12.trans (hb14.mono c12.size)
  clear b11 c12 hb14
  go_wp2_with (first | (refine uqa (by rfl) _ _ rfl (w.heap.size) rfl _ _ b15 _ Tryz.underlying26 rfl uqh ?_))
  go_ret
  exact ⟨rfl, c16⟩
 have hl60 : l1.length ≤ 60 := by omega
 clear hL
 have HP := vkh s0 pj0 pn0 pl0 cj0 cn0 cl0 _ ((HM.out.below c12).more c12.size) HZ.out (HT.out.below c12) l1 pq1 cq1 ((HEL.out.below c12).more c12.size) hl60 (by omega) HE.out
 refine HP.mono ?_
 rintro e wP ⟨b, rfl, hbg, hbk, hbP⟩
 clear HP
 have HG := zrj (fun k => playF_ok F0.out (l1.map toP) k)
 have HLn := zrj (fun k => wq2 (s := s0) hl60 hsu k)
 generalize playF s0 (l1.map toP) = fin at *
 have HBK := zrj hbk
 have CP := zrj (c12.trans (hbP.mono c12.size))
 clear c12 hbP hbk b11
 go_wp2_with fail
 go_loopw [29] (fun i wr => ∃ k : Nat, k ≤ 8 ∧ i = .int .i64 k ∧ Below wP.heap.size wP wr) (fun i _ => 8 - (intOf i).toNat)
 case atStart => exact ⟨0, Nat.zero_le _, rfl, zri _ _⟩
 case round =>
  obtain ⟨k, hk8, rfl, hbr⟩ := hrel
  by_cases hlt : k < 8
  ·have y0 : wr.cell? ⟨b, k, none⟩ = some (.string (bstr (encs (fin k)))) := ((HBK.out.below hbr HBK.out.lt).cell k).trans (wjg hlt)
   have hki : (k : Int) < 8 := by omega
   have hk0 : ¬ (k : Int) < 0 := by omega
   have hgo := HG.out k
   have hgg : ∀ x ∈ fin k, uzt x := fun x hx => (hgo x hx).1
   have hln := HLn.out k
   generalize fin k = fs at *
   have HGO := zrj hgo
   have HPW := zrj (fun W g (hf : FeedIs W g []) => vqc fs hgg hln W g hf)
   have HLF := zrj (fun W g (hf : FeedIs W g (encs fs)) => left_all hgg g W hf)
   clear hgo hgg
   go_wp2_with fail
   refine (vqy _).mono ?_
   rintro e w4 ⟨gf, rfl, hgf, hfi, hb4⟩
   have hbr4 := hbr.trans (hb4.mono hbr.size)
   have hgf2 : wP.heap.size ≤ gf := zrc hbr.size hgf
   have HP4 := zrj (HPW.out w4 gf hfi)
   clear hbr hgf hfi hb4 HPW y0
   generalize bstr (encs fs) = bs at *
   go_wp2_with fail
   refine HP4.out.mono ?_
   rintro e w6 ⟨pa, ca, rfl, hel, hge, hfe, hasd⟩
   have hbr6 := zrj (hbr4.trans (hasd.toBelow hgf2 hbr4.size))
   have HEL6 := zrj hel
   have HL6 := zrj (HLF.out w6 gf hfe)
   clear hbr4 hel hge hfe hasd HP4 HLF
   go_wp2_with fail
   refine HL6.out.mono ?_
   rintro e w7 ⟨rfl, rfl⟩
   go_wp2_with fail
   go_loopw [49] (fun i wx => ∃ j : Nat, j ≤ fs.length ∧ i = .int .i64 j ∧ Below w6.heap.size w6 wx) (fun i _ => fs.length - (intOf i).toNat)
   case atStart => exact ⟨0, Nat.zero_le _, rfl, zri _ _⟩
   case round =>
    obtain ⟨j, hj, rfl, hbx⟩ := hrel
    by_cases hlt2 : j < fs.length
    ·have hx : fs[j]? = some fs[j] := zrd hlt2
     obtain ⟨_, hv3, hkn⟩ := HGO.out fs[j] (List.getElem_mem hlt2)
     generalize fs[j] = x at *
     obtain ⟨a, rfl, hab, _, hat⟩ := (HEL6.out.below hbx).at_ (k := j) (r := rowFr x) (by rw [zrg, hx]; rfl)
     have n3 : ((x.ver : Int) != 3) = false := by rw [bne_eq_false_iff_eq]; omega
     have k3 : ((x.kind : Int) == 3) = false := by rw [zrf]; omega
     have hb1 : Below wr.heap.size wr (wr.alloc (.cells #[.int .i64 (x.ver : Int), .int .i64 (x.kind : Int), .string (bstr x.pl)] 63)) := (zri _ _).alloc (zra _) _
     have bx := Blk.new wr 63 #[.int .i64 (x.ver : Int), .int .i64 (x.kind : Int), .string (bstr x.pl)]
     have HB1 := zrj (hbx.trans (hb1.mono hbx.size))
     have x0 := bx.cell 0
     have x1 := bx.cell 1
     clear hx hv3 hkn hab hb1 hbx bx
     go_upto_region 16 with (first | (refine uqe rfl _ _ rfl (a.add (j * 3)) rfl [Value.int .i64 (x.ver : Int), Value.int .i64 (x.kind : Int), Value.string (bstr x.pl)] _ hat Tryz.underlying63 rfl uqs ?_) | (refine uqg rfl _ _ _ rfl rfl 63 _ #[.int .i64 (x.ver : Int), .int .i64 (x.kind : Int), .string (bstr x.pl)] rfl uqs rfl (uj4 _ _ _) ?_))
     generalize wr.alloc _ = W1 at *
     generalize wr.heap.size = gx at *
     clear hat
     go_wp2_with fail
     go_roundw
     case rel => exact ⟨j + 1, by omega, by go_num, HB1.out⟩
     case measure => simp [intOf]; omega
    ·obtain rfl : j = fs.length := by omega
     have HB9 := zrj (hbr6.out.trans (hbx.mono hbr6.out.size))
     clear hbx
     go_wp2_with fail
     go_roundw
     case rel => exact ⟨k + 1, by omega, by go_num, HB9.out⟩
     case measure => simp [intOf]; omega
  ·obtain rfl : k = 8 := by omega
   have HC9 := zrj (CP.out.trans (hbr.mono CP.out.size))
   clear hbr
   go_wp2_with fail
   go_ret
   exact ⟨rfl, HC9.out⟩
end Go.Proofs.YtibiankbmhdljaaGreatDoor.hubWhole
