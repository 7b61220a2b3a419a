/-
  Several texts in one: VHubCuts.
-/
import Derived.Test.YtibiankbmhdljaaGreatDoorPkFact
import Derived.Test.YtibiankbmhdljaaGreatDoorPkCuts
set_option linter.all false
set_option maxHeartbeats 16000000
set_option maxRecDepth 100000
namespace Go.Proofs.YtibiankbmhdljaaGreatDoor.hubCuts
open Go.ChangeShapes Go.WideShapes Go.ChangeAt Go.RowKit Go.Joins
open Go.ChangeMaps (open_string)
theorem walk (s0 : St) (pj0 pn0 pl0 : Option Addr) (cj0 cn0 cl0 : Nat) (w : World) (hm0 : StM w w.heap.size pj0 pn0 pl0 s0) (hk0 : StOk s0) (pq1 : Option Addr) (cq1 : Nat) (l1 : List ReqD) (hel1 : Elts w w.heap.size 14 pq1 (l1.map rowQ)) (hok1 : ∀ x ∈ l1, okQ x) (ub1 : l1.length ≤ 1048576) (p2 : Option Addr) (c2 : Nat) (l2 : List Int) (hel2 : Elts w w.heap.size 1 p2 (l2.map rowI)) (hok2 : ∀ x ∈ l2, okI x) (u2 : l2.length ≤ 1048576) (hT : Tabs w) :
  Calls Tryz.prog 5 #[.agg (stv s0 pj0 pn0 pl0 cj0 cn0 cl0), .slice pq1 l1.length cq1, .slice p2 l2.length c2] w fun e w' => e = .returned (.bool true) ∧ Below w.heap.size w w' := by
 have b0_ := Blk.new w 26 (stv s0 pj0 pn0 pl0 cj0 cn0 cl0)
 have c0 := (zri w.heap.size w).alloc (zra _) (.cells (stv s0 pj0 pn0 pl0 cj0 cn0 cl0) 26)
 have HM := zrj hm0
 have HZ := zrj hk0.sz
 have HT := zrj hT
 clear hm0 hk0 hT
 have HEL := zrj hel1
 have HOK := zrj hok1
 have HE2 := zrj hel2
 have HO2 := zrj hok2
 have hzq := uqw
 have hza := uyo
 clear hel1 hok1 hel2 hok2
 go_enter Tryz.func5, Tryz.ntmps5
 go_wp2_with (first | (refine uqa (by rfl) _ _ rfl (w.heap.size) rfl _ _ b0_ _ Tryz.underlying26 rfl uqh ?_))
 generalize w.alloc _ = W1 at *
 refine (uzv _ (HT.out.below c0)).mono ?_
 rintro e w1 ⟨rfl, hb2⟩
 have b3 := b0_.below hb2 b0_.lt
 have c4 := c0.trans (hb2.mono c0.size)
 clear b0_ c0 hb2
 go_wp2_with (first | (refine uqa (by rfl) _ _ rfl (w.heap.size) rfl _ _ b3 _ Tryz.underlying26 rfl uqh ?_))
 have CV := zrj c4
 have HBS := zrj b3
 clear c4 b3
 go_loopw [7, 23] (fun al i wr => ∃ n : Nat, n ≤ l1.length ∧ i = .int .i64 n ∧ al = .string (bstr (vxc (l1.take n))) ∧ Below w1.heap.size w1 wr) (fun _ i _ => l1.length - (intOf i).toNat)
 case atStart => exact ⟨0, Nat.zero_le _, rfl, rfl, zri _ _⟩
 case round =>
  obtain ⟨n, hn, rfl, rfl, hbr⟩ := hrel
  by_cases hlt : n < l1.length
  ·have hx : l1[n]? = some l1[n] := zrd hlt
   have hq := HOK.out l1[n] (List.getElem_mem hlt)
   have hbt := wx8 hx
   generalize l1[n] = q at *
   have hbl := vvm (l1.take n)
   have hbn : (l1.take n).length ≤ 1048576 := by rw [List.length_take]; omega
   generalize vxc (l1.take n) = al at *
   have HBT := zrj hbt
   have cc := CV.out.trans (hbr.mono CV.out.size)
   obtain ⟨a, rfl, hab, _, hat⟩ := (HEL.out.below cc).at_ (k := n) (r := rowQ q) (by rw [zrg, hx]; rfl)
   have HSq := zrj (ReqSz.of hq)
   have hb1 : Below wr.heap.size wr (wr.alloc (.cells (qv q) 43)) := (zri _ _).alloc (zra _) _
   have bq := Blk.new wr 43 (qv q)
   have hbr1 := hbr.trans (hb1.mono hbr.size)
   have cc1 := cc.trans (hb1.mono cc.size)
   have hql := ujo q
   have hadd : ∀ W, (Op.stringOp .add (bstr al) (bstr (uq4 q))).run Tryz.prog W = .ok (.string (bstr al ++ bstr (uq4 q))) W := fun W => run_string_add_sum W _ _ (by rw [uqy, uqy]; omega)
   rw [uk4] at hadd
   clear hx hq hbt hab hbr cc hb1 hbl hbn
   go_upto_region 7 with (first | (refine uqe rfl _ _ rfl (a.add (n * 14)) rfl [Value.int .i64 q.kind, Value.string q.job.name, Value.int .i64 q.job.prio, Value.int .i64 q.job.need, Value.int .i64 q.job.tries, Value.string q.job.tag, Value.string q.node.name, Value.int .i64 q.node.room, Value.string q.node.zone, Value.string q.lease.job, Value.string q.lease.node, Value.int .i64 q.lease.till, Value.string q.name, Value.int .i64 q.n] _ hat Tryz.underlying43 rfl uqb ?_) | (refine uqg rfl _ _ _ rfl rfl 43 _ (qv q) rfl uqb rfl (by simp [Value.oneCell']) ?_))
   generalize wr.alloc _ = W2 at *
   generalize wr.heap.size = gq at *
   clear hat
   have HBy := zrj (uvx q _ HSq.out (HT.out.below cc1))
   by_cases hE1 : reqE q = 0
   ·rw [decide_eq_true hE1] at HBy
    go_wp2_with (first | (refine uqa (by rfl) _ _ rfl gq rfl _ _ bq _ Tryz.underlying43 rfl uqb ?_))
    refine HBy.out.mono ?_
    rintro e w3 ⟨rfl, hb3⟩
    have HB3 := zrj (hbr1.trans (hb3.mono hbr1.size))
    clear hb3 hbr1 cc1 bq
    go_wp2_with fail
    go_roundw
    case rel => exact ⟨n + 1, by omega, by go_num, by rw [HBT.out], HB3.out⟩
    case measure => simp [intOf]; omega
   ·rw [decide_eq_false hE1] at HBy
    have hnb := wv1 hE1
    rw [hnb, List.append_nil] at HBT
    clear hadd
    go_wp2_with (first | (refine uqa (by rfl) _ _ rfl gq rfl _ _ bq _ Tryz.underlying43 rfl uqb ?_))
    refine HBy.out.mono ?_
    rintro e w3 ⟨rfl, hb3⟩
    have HB3 := zrj (hbr1.trans (hb3.mono hbr1.size))
    clear hb3 hbr1 cc1 bq
    go_wp2_with fail
    go_roundw
    case rel => exact ⟨n + 1, by omega, by go_num, by rw [HBT.out], HB3.out⟩
    case measure => simp [intOf]; omega
  ·obtain rfl : n = l1.length := by omega
   have hbl := vvm (l1.take l1.length)
   have hbn : (l1.take l1.length).length ≤ 1048576 := by rw [List.length_take]; omega
   have hals : (vxc (l1.take l1.length)).length ≤ 140000000 := by omega
   generalize vxc (l1.take l1.length) = al at *
   have cc := CV.out.trans (hbr.mono CV.out.size)
   have HCU := zrj (cut_any (bstr al) p2 c2 l2 wr ((HE2.out.below cc).more cc.size) HO2.out (by rw [uqy]; omega) (by omega))
   clear hbl hbn cc hlt
   go_wp2_with fail
   refine HCU.out.mono ?_
   rintro e w5 ⟨q5, c5, ps, rfl, hps, hfl, hpl, hb5⟩
   rw [uqu] at hfl
   have HFL := zrj hfl
   have hbr5 := hbr.trans (hb5.mono hbr.size)
   have cc5 := zrj (CV.out.trans (hbr5.mono CV.out.size))
   have HB5 := zrj hbr5
   have HPE := zrj hps.elts
   have hpne : ps ≠ [] := by intro h0; rw [h0] at hpl; simp at hpl
   have HPN := zrj hpne
   have hplen : ps.length ≤ 1048577 := by omega
   clear hbr hb5 hps hfl hpl hpne hbr5 HCU
   go_wp2_with fail
   go_loopw [12, 41] (fun ac i wx => ∃ (k : Nat) (p : Option Addr) (c : Nat), k ≤ ps.length ∧ i = .int .i64 k ∧ ac = .slice p k c ∧ OwnR wx w5.heap.size 75 2 p c (((ps.take k).map act3).map rowA) ∧ Below w5.heap.size w5 wx) (fun _ i _ => ps.length - (intOf i).toNat)
   case atStart => exact ⟨0, none, 0, Nat.zero_le _, rfl, rfl, OwnR.nil0 _ _ _ _, zri _ _⟩
   case round =>
    obtain ⟨k, p, c, hk, rfl, rfl, hO, hbx⟩ := hrel
    by_cases hlt2 : k < ps.length
    ·have hx : ps[k]? = some ps[k] := zrd hlt2
     generalize ps[k] = x at *
     obtain ⟨b, hb0, hbb, c0⟩ := (HPE.out.below hbx).cell1 (f := Value.string) hx
     obtain ⟨i0, hi, hz0, hz1, hz2⟩ := info_parts act_info
     have hnext : ((ps.take (k + 1)).map act3).map rowA = ((ps.take k).map act3).map rowA ++ [rowA (act3 x)] := by rw [List.take_add_one, hx, Option.toList_some, List.map_append, List.map_append]; rfl
     have hrl : (((ps.take k).map act3).map rowA).length = k := by rw [zre, zre, List.length_take]; omega
     have hlens := wx3 ((ps.take (k + 1)).map act3)
     generalize ((ps.take k).map act3).map rowA = rs at *
     have hfl2 : (rs ++ [rowA (act3 x)]).flatten = rs.flatten ++ rowA (act3 x) := by simp
     have hll2 : (rs ++ [rowA (act3 x)]).length = k + 1 := by simp [hrl]
     have HNX := zrj hnext
     have HFL2 := zrj hfl2
     have HLL2 := zrj hll2
     have HLE := zrj hlens
     clear hnext hfl2 hll2 hlens
     have hb7 : Below wr.heap.size wr (wr.alloc (.cells #[.int .i64 3, .string x] 75)) := (zri _ _).alloc (zra _) _
     have bn7 := Blk.new wr 75 #[.int .i64 3, .string x]
     have hO1 := hO.below hb7
     have hO7 := hO1.2
     rw [hrl] at hO7
     clear hrl
     have hcl : ∀ j u, (rowA (act3 x))[j]? = some u → (wr.alloc (.cells #[.int .i64 3, .string x] 75)).cell? ((⟨wr.heap.size, 0, none⟩ : Addr).add j) = some u := World.news_of_block bn7
     have h13 : ∀ u ∈ rowA (act3 x), u.oneCell' = true := by simp [rowA, Value.oneCell']
     have hml : k + 1 ≤ maxLen := by unfold maxLen; omega
     have hby : (k + 1) * 24 ≤ 140737488355328 := by omega
     have hbx7 := hbx.trans (hb7.mono hbx.size)
     have hbs := hbx7.size
     have hl2 : (rowA (act3 x)).length = 1 * 2 := rfl
     clear hx hO hO1 hb7 hbx
     subst hb0
     go_wp2_with (first | (at_builtin; go_loud (refine wpList_append_own _ rfl _ _ 67 rfl w5.heap.size 75 i0 _ 2 24 Tryz.underlying67 hi hz0 hz1 hz2 rfl (by decide) _ k rs.flatten rfl hO7 ⟨wr.heap.size, 0, none⟩ 1 1 (rowA (act3 x)) rfl hl2 hcl h13 hml hby hbs ?_)))
     intro v2 w8 hown hg hnil
     have HB8 := zrj (hbx7.grown hg hbx7.size (fun j hj => (World.ownsRow.lt hO7 j hj).1))
     obtain ⟨q8, d8, rfl⟩ : ∃ q d, v2 = .slice q (k + 1) d := by
      rcases hown.2 with ⟨_, h0⟩ | ⟨g, cap, cur, rfl, _⟩
      ·exact absurd h0 (by omega)
      ·exact ⟨_, cap, rfl⟩
     have HO8 := zrj (show OwnR w8 w5.heap.size 75 2 q8 d8 (((ps.take (k + 1)).map act3).map rowA) from ⟨HLE.out, by rw [HNX.out, HLL2.out, HFL2.out]; exact hown⟩)
     clear hown hg hnil hO7 hcl bn7 hbx7
     go_wp2_with fail
     go_roundw
     case rel => exact ⟨k + 1, q8, d8, by omega, by go_num, rfl, HO8.out, HB8.out⟩
     case measure => simp [intOf]; omega
    ·obtain rfl : k = ps.length := by omega
     rw [List.take_length] at hO
     have hcx := zrj (cc5.out.trans (hbx.mono cc5.out.size))
     by_cases hL : 60 < ps.length
     ·have hLi : (60 : Int) < (ps.length : Int) := by omega
      clear hL hO hbx
      go_wp2_with fail
      go_ret
      exact ⟨rfl, hcx.out⟩
     ·have hLi : ¬ ((60 : Int) < (ps.length : Int)) := by omega
      have hlm : (ps.map act3).length = ps.length := zre ..
      have bs := HBS.out.below (HB5.out.trans (hbx.mono HB5.out.size)) HBS.out.lt
      have HAE := zrj hO.elts
      have hasum : uzq (ps.map act3) ≤ 200000000 := by rw [wy5, HFL.out]; omega
      by_cases hE : uqv s0 = 0
      ·have F0 := (uxi s0).1 hE
       have HP := vkh s0 pj0 pn0 pl0 cj0 cn0 cl0 wr ((HM.out.below hcx.out).more hcx.out.size) HZ.out (HT.out.below hcx.out) (ps.map act3) p c HAE.out (by rw [hlm]; omega) hasum hE
       rw [hlm] at HP
       have HEq := zrj hE
       have HPh := zrj HP
       have HSM := zrj (fun i => xqk s0 HPN.out HFL.out i)
       clear HP hL hE hO hbx F0 hlm
       go_wp2_with (first | (refine uqa (by rfl) _ _ rfl (w.heap.size) rfl _ _ bs _ Tryz.underlying26 rfl uqh ?_))
       refine HPh.out.mono ?_
       rintro e w9 ⟨b1, rfl, hb1g, hk1, hb9⟩
       have cc9 := hcx.out.trans (hb9.mono hcx.out.size)
       have bs9 := bs.below hb9 bs.lt
       have hb10 : Below w9.heap.size w9 (w9.alloc (.cells #[.int .i64 3, .string (bstr al)] 75)) := (zri _ _).alloc (zra _) _
       have bo := Blk.new w9 75 #[.int .i64 3, .string (bstr al)]
       have cc10 := cc9.trans (hb10.mono cc9.size)
       have bs10 := bs9.below hb10 bs9.lt
       have hk2 := hk1.below hb10 hk1.lt
       have helo : Elts (w9.alloc (.cells #[.int .i64 3, .string (bstr al)] 75)) (w9.alloc (.cells #[.int .i64 3, .string (bstr al)] 75)).heap.size 2 (some ⟨w9.heap.size, 0, none⟩) ([act3 (bstr al)].map rowA) := .of_blk (by intro r hr; rw [List.mem_singleton.1 hr]; rfl) bo rfl
       have HP2 := zrj (vkh s0 pj0 pn0 pl0 cj0 cn0 cl0 _ ((HM.out.below cc10).more cc10.size) HZ.out (HT.out.below cc10) [act3 (bstr al)] (some ⟨w9.heap.size, 0, none⟩) 1 helo (show 1 ≤ 60 by decide) (by show (bstr al).size + 0 ≤ _; rw [uqy]; omega) HEq.out)
       generalize playF s0 ((ps.map act3).map toP) = f1 at *
       generalize playF s0 (([act3 (bstr al)] : List ActD).map toP) = f2 at *
       clear hb9 cc9 bs bs10 hb10 bo hk1 helo HPh
       go_wp2_with (first | (refine uqa (by rfl) _ _ rfl (w.heap.size) rfl _ _ bs9 _ Tryz.underlying26 rfl uqh ?_))
       refine HP2.out.mono ?_
       rintro e w11 ⟨b2, rfl, hb2g, hk3, hb11⟩
       have hk4 := hk2.below hb11 hk2.lt
       have cc11 := cc10.trans (hb11.mono cc10.size)
       have e1 : Elts w11 w11.heap.size 1 (some ⟨b1, 0, none⟩) ((strs8 f1).map rowS) := .of_blk (vzo _) hk4 (wq0 _)
       have e2 : Elts w11 w11.heap.size 1 (some ⟨b2, 0, none⟩) ((strs8 f2).map rowS) := .of_blk (vzo _) hk3 (wq0 _)
       have HQ := xq8 (some ⟨b1, 0, none⟩) (some ⟨b2, 0, none⟩) 8 8 (strs8 f1) (strs8 f2) w11 e1 e2 (show 8 ≤ 4611686018427387904 by decide) (show 8 ≤ 4611686018427387904 by decide)
       rw [decide_eq_true (wjw HSM.out)] at HQ
       have HQ2 := zrj HQ
       clear HQ e1 e2 hk4 hk3 hk2 hb11 cc10 bs9 HP2
       go_wp2_with fail
       refine HQ2.out.mono ?_
       rintro e w12 ⟨rfl, hb12⟩
       have cc12 := cc11.trans (hb12.mono cc11.size)
       go_wp2_with fail
       go_ret
       exact ⟨rfl, cc12⟩
      ·have HP := vki s0 pj0 pn0 pl0 cj0 cn0 cl0 wr ((HM.out.below hcx.out).more hcx.out.size) HZ.out (HT.out.below hcx.out) (ps.map act3) p c hE
       rw [hlm] at HP
       have HEq := zrj hE
       have HPh := zrj HP
       clear HP hL hE hO hbx hlm HAE
       go_wp2_with (first | (refine uqa (by rfl) _ _ rfl (w.heap.size) rfl _ _ bs _ Tryz.underlying26 rfl uqh ?_))
       refine HPh.out.mono ?_
       rintro e w9 ⟨rfl, hb9⟩
       have cc9 := hcx.out.trans (hb9.mono hcx.out.size)
       have bs9 := bs.below hb9 bs.lt
       have hb10 : Below w9.heap.size w9 (w9.alloc (.cells #[.int .i64 3, .string (bstr al)] 75)) := (zri _ _).alloc (zra _) _
       have cc10 := cc9.trans (hb10.mono cc9.size)
       have HP2 := zrj (vki s0 pj0 pn0 pl0 cj0 cn0 cl0 _ ((HM.out.below cc10).more cc10.size) HZ.out (HT.out.below cc10) [act3 (bstr al)] (some ⟨w9.heap.size, 0, none⟩) 1 HEq.out)
       clear hb9 cc9 bs hb10 HPh
       generalize uqv s0 = ce at *
       go_wp2_with (first | (refine uqa (by rfl) _ _ rfl (w.heap.size) rfl _ _ bs9 _ Tryz.underlying26 rfl uqh ?_))
       refine HP2.out.mono ?_
       rintro e w11 ⟨rfl, hb11⟩
       have cc11 := cc10.trans (hb11.mono cc10.size)
       have HQ := xq8 none none 0 0 [] [] w11 Elts.nil_ Elts.nil_ (by decide) (by decide)
       rw [decide_eq_true rfl] at HQ
       have HQ2 := zrj HQ
       have hself : ((ce : Int) == (ce : Int)) = true := by simp
       clear HQ hb11 cc10 bs9 HP2
       go_wp2_with fail
       refine HQ2.out.mono ?_
       rintro e w12 ⟨rfl, hb12⟩
       have cc12 := cc11.trans (hb12.mono cc11.size)
       go_wp2_with fail
       go_ret
       exact ⟨rfl, cc12⟩
end Go.Proofs.YtibiankbmhdljaaGreatDoor.hubCuts
