/-
  Several texts in one: VFollowWhole.
-/
import Derived.Test.YtibiankbmhdljabGreatDoorPkFolC
import Derived.Test.YtibiankbmhdljabGreatDoorPkFrIn
set_option linter.all false
set_option maxHeartbeats 16000000
set_option maxRecDepth 100000
namespace Go.Proofs.YtibiankbmhdljabGreatDoor.followWhole
open Go.ChangeShapes Go.WideShapes Go.ChangeAt Go.RowKit Go.Joins
open Go.ChangeMaps (open_string)
theorem walk (s0 : St) (pj0 pn0 pl0 : Option Addr) (cj0 cn0 cl0 : Nat) (w : World) (hm0 : StM w w.heap.size pj0 pn0 pl0 s0) (hk0 : StOk s0) (p1 : Option Addr) (c1 : Nat) (l1 : List FrI) (hel1 : Elts w w.heap.size 3 p1 (l1.map rowFI)) (hok1 : ∀ x ∈ l1, okFI x ∧ x.pl.size ≤ 140737488351232) (hl1 : l1.length ≤ 4398046511103) (hT : Tabs w) :
  Calls Tryz.prog 4 #[.agg (stv s0 pj0 pn0 pl0 cj0 cn0 cl0), .slice p1 l1.length c1] w fun e w' => e = .returned (.bool true) ∧ Below w.heap.size w w' := by
 have b0_ := Blk.new w 35 (stv s0 pj0 pn0 pl0 cj0 cn0 cl0)
 have c0 := (zri w.heap.size w).alloc (zra _) (.cells (stv s0 pj0 pn0 pl0 cj0 cn0 cl0) 35)
 have HM := zrj hm0
 have HZ := zrj hk0.sz
 have HT := zrj hT
 have HEL := zrj hel1
 have HOK := zrj hok1
 clear hm0 hk0 hT hel1 hok1
 go_enter Tryz.func4, Tryz.ntmps4
 go_wp2_with (first | (refine uqv (by rfl) _ _ rfl (w.heap.size) rfl _ _ b0_ _ Tryz.underlying35 rfl uqg ?_))
 generalize w.alloc _ = W1 at *
 refine (uw1 _ (HT.out.below c0)).mono ?_
 rintro e w1 ⟨rfl, hb2⟩
 have b3 := b0_.below hb2 b0_.lt
 have c4 := c0.trans (hb2.mono c0.size)
 clear b0_ c0 hb2
 go_wp2_with (first | (refine uqv (by rfl) _ _ rfl (w.heap.size) rfl _ _ b3 _ Tryz.underlying35 rfl uqg ?_))
 refine (vvs s0 3 _ _ _ _ _ _ _ ((HM.out.below c4).more c4.size) HZ.out (HT.out.below c4) (by have := vy9 s0; omega) (by decide) (by decide)).mono ?_
 rintro e w5 ⟨rfl, hb6⟩
 have b7 := b3.below hb6 b3.lt
 have c8 := c4.trans (hb6.mono c4.size)
 clear b3 c4 hb6
 by_cases h0 : (sfrR 3 s0).2 = 0
 rotate_left
 ·have e0 : (((sfrR 3 s0).2 : Int) != 0) = true := by rw [bne_iff_ne]; omega
  clear h0
  go_wp2_with (first | (refine uqv (by rfl) _ _ rfl (w.heap.size) rfl _ _ b7 _ Tryz.underlying35 rfl uqg ?_))
  go_ret
  exact ⟨rfl, c8⟩
 have e0 : (((sfrR 3 s0).2 : Int) != 0) = false := by rw [h0]; rfl
 have HF0 := zrj ((uxn s0).1 (xx2 h0).1)
 have HW := zrj (fun fs (hg : ∀ x ∈ fs, ux7 x) => ww0 hg h0)
 have hsl : (sfrR 3 s0).1.length ≤ 6018 := by
  obtain ⟨_, hy, e⟩ := xx2 h0
  have h1 := vqp [(⟨3, 1, encS 3 s0⟩ : Fr)] (by intro x hx; rw [List.mem_singleton.1 hx]; exact hy)
  rw [uvp] at h1
  rw [e]
  have h2 : [(⟨3, 1, encS 3 s0⟩ : Fr)].length = 1 := rfl
  omega
 clear h0
 generalize (sfrR 3 s0).1 = tb at *
 generalize (sfrR 3 s0).2 = ec at *
 go_wp2_with (first | (refine uqv (by rfl) _ _ rfl (w.heap.size) rfl _ _ b7 _ Tryz.underlying35 rfl uqg ?_))
 refine (uv3 _).mono ?_
 rintro e wF ⟨f, fd, rfl, hf, hfd, M, hbF⟩
 have hfw : w.heap.size < f ∧ w.heap.size < fd := by have h1 := b7.lt; omega
 rw [← wqe] at M
 have b9 := b7.below hbF b7.lt
 have c10 := c8.trans (hbF.mono c8.size)
 clear b7 c8 hbF
 have HBW := zrj (show w.heap.size ≤ f ∧ w.heap.size ≤ fd from ⟨Nat.le_of_lt hfw.1, Nat.le_of_lt hfw.2⟩)
 clear hf hfd
 go_wp2_with fail
 go_loopw [28] (fun i wr => ∃ (k : Nat) (v : Value) (R : Nat → Prop), k ≤ l1.length ∧ i = .int .i64 k ∧ FolM wr f fd R (folOf (goods (l1.take k))) v ∧ Below w.heap.size w wr ∧ Blk wr w.heap.size 35 (stv s0 pj0 pn0 pl0 cj0 cn0 cl0)) (fun i _ => l1.length - (intOf i).toNat)
 case atStart => exact ⟨0, .pointer none, _, Nat.zero_le _, rfl, M, c10, b9⟩
 case round =>
  obtain ⟨k, v, R, hk, rfl, Mk, cc, bb⟩ := hrel
  clear M c10 b9
  by_cases hlt : k < l1.length
  ·have hx : l1[k]? = some l1[k] := zrd hlt
   have hg := HOK.out l1[k] (List.getElem_mem hlt)
   have hstep := wvt l1 k _ hx
   generalize l1[k] = x at *
   obtain ⟨a, rfl, hab, _, hat⟩ := (HEL.out.below cc).at_ (k := k) (r := rowFI x) (by rw [zrg, hx]; rfl)
   have hb1 : Below wr.heap.size wr (wr.alloc (.cells #[.int .i64 x.v, .int .i64 x.k, .string x.pl] 44)) := (zri _ _).alloc (zra _) _
   have bx := Blk.new wr 44 #[.int .i64 x.v, .int .i64 x.k, .string x.pl]
   have HMk := zrj (Mk.below hb1)
   have c1_ := cc.trans (hb1.mono cc.size)
   have HBB := zrj (bb.below hb1 bb.lt)
   clear Mk cc bb hx hab hb1
   go_upto_region 10 with (first | (refine uqd rfl _ _ rfl (a.add (k * 3)) rfl [Value.int .i64 x.v, Value.int .i64 x.k, Value.string x.pl] _ hat Tryz.underlying44 rfl uqs ?_) | (refine uqf rfl _ _ _ rfl rfl 44 _ #[.int .i64 x.v, .int .i64 x.k, .string x.pl] rfl uqs rfl (uwf _ _ _) ?_))
   generalize wr.alloc _ = W1 at *
   generalize wr.heap.size = gx at *
   clear hat
   by_cases hgood : goodF x.v x.k ∧ x.pl.size ≤ 6000
   ·obtain ⟨xv, xk, xpl⟩ := x
    obtain ⟨⟨h1, h2, h3, h4⟩, h5⟩ := hgood
    simp only [] at h1 h2 h3 h4 h5
    obtain ⟨vn, rfl⟩ := Int.eq_ofNat_of_zero_le (show 0 ≤ xv by omega)
    obtain ⟨kn, rfl⟩ := Int.eq_ofNat_of_zero_le (show 0 ≤ xk by omega)
    have hv : 1 ≤ vn ∧ vn ≤ 3 := by omega
    have hk4 : 1 ≤ kn ∧ kn ≤ 4 := by omega
    have hpl : xpl.data.toList.length ≤ 6000 := by rw [uvn]; exact h5
    have hf : frOf ⟨(vn : Int), (kn : Int), xpl⟩ = some ⟨vn, kn, xpl.data.toList⟩ := by
     unfold frOf
     rw [if_pos ⟨⟨h1, h2, h3, h4⟩, h5⟩]
     simp
    rw [hf, Option.toList_some] at hstep
    have hy : ux7 ⟨vn, kn, xpl.data.toList⟩ := ⟨hv, hk4, hpl⟩
    have hE := uwc vn kn xpl.data.toList hv hk4 hpl W1
    rw [uxo] at hE
    have hwl := ux9 vn kn xpl.data.toList
    have h10 := uqn xpl.data.toList.length (by omega)
    have hnew := (uv4 (vxj (l1.take k)) hy).1
    have hps := vxe (vxj (l1.take k)) hy
    simp only at hnew hps
    rw [← hstep] at hps
    have HFOK := zrj (vwj (goods (l1.take k)))
    have hwl2 : (wireF vn kn xpl.data.toList).length ≤ 6018 := by omega
    have HE := zrj hE
    have HNE := zrj hnew
    have HPS := zrj hps
    clear hE hstep hg hf hwl h10 hnew hps h1 h2 h3 h4 h5 hy hv hk4 hpl
    generalize wireF vn kn xpl.data.toList = wb at *
    generalize folOf (goods (l1.take k)) = x0 at *
    go_wp2_with (first | (refine uqv (by rfl) _ _ rfl gx rfl _ _ bx _ Tryz.underlying44 rfl uqs ?_))
    refine HE.out.mono ?_
    rintro e w2 ⟨rfl, hb2⟩
    have HM2 := zrj (HMk.out.below hb2)
    have c2_ := c1_.trans (hb2.mono c1_.size)
    have HB2 := zrj (HBB.out.below hb2 HBB.out.lt)
    have HPu := zrj (uj5 f fd R x0 v (bstr wb) w2 w.heap.size HM2.out HFOK.out (by rw [uq0]; omega) (by rw [uqu, HNE.out]; exact (by decide : 1 ≤ 4398046511104)) (fun W hW => HT.out.below (c2_.trans hW)) c2_.size HBW.out)
    rw [uqu, HNE.out, HPS.out] at HPu
    clear HMk c1_ HBB hb2 HE bx HNE HPS HFOK
    generalize bstr wb = sb at *
    go_wp2_with fail
    refine HPu.out.mono ?_
    rintro e w3 ⟨rfl, v3, R3, M3, T3, hR3⟩
    have HM3 := zrj M3
    have HC3 := zrj (c2_.trans (T3.below (B := w.heap.size) (fun k hk => by rcases hk with rfl | rfl; exact HBW.out.1; exact HBW.out.2) c2_.size))
    have HB3 := zrj (T3.blk HB2.out (fun hk => by rcases hk with h | h <;> omega))
    clear M3 T3 hR3 HPu c2_ HB2 HM2
    go_wp2_with fail
    go_roundw
    case rel => exact ⟨k + 1, v3, R3, by omega, by go_num, HM3.out, HC3.out, HB3.out⟩
    case measure => simp [intOf]; omega
   ·have hf : frOf x = none := by unfold frOf; rw [if_neg hgood]
    rw [hf, Option.toList_none, List.append_nil] at hstep
    obtain ⟨z, hz, hE⟩ := wvf x.v x.k x.pl hg.1.1.1 hg.1.1.2 hg.1.2.1 hg.1.2.2 (by have := hg.2; omega) hgood
    have z0 : ((z : Int) == 0) = false := by rw [zrf]; rcases hz with rfl | rfl <;> decide
    have HE := zrj (hE W1)
    have HST := zrj hstep
    clear hE hz hf hgood hg hstep
    go_wp2_with (first | (refine uqv (by rfl) _ _ rfl gx rfl _ _ bx _ Tryz.underlying44 rfl uqs ?_))
    refine HE.out.mono ?_
    rintro e w2 ⟨rfl, hb2⟩
    have HM2 := zrj (HMk.out.below hb2)
    have HC2 := zrj (c1_.trans (hb2.mono c1_.size))
    have HB2 := zrj (HBB.out.below hb2 HBB.out.lt)
    clear HMk c1_ HBB hb2 HE bx
    go_wp2_with fail
    go_roundw
    case rel => exact ⟨k + 1, v, R, by omega, by go_num, by rw [HST.out]; exact HM2.out, HC2.out, HB2.out⟩
    case measure => simp [intOf]; omega
  ·obtain rfl : k = l1.length := by omega
   rw [List.take_length] at Mk
   obtain ⟨n1, n2, n3⟩ := HW.out (goods l1) (vxj l1)
   have HFOK := zrj (vwj (goods l1))
   have HM1 := zrj Mk
   have HPu := zrj (uj5 f fd R (folOf (goods l1)) v (bstr tb) wr w.heap.size HM1.out HFOK.out (by rw [uq0]; omega) (by rw [uqu, n1]; exact (by decide : 1 ≤ 4398046511104)) (fun W hW => HT.out.below (cc.trans hW)) cc.size HBW.out)
   rw [uqu, n1, n2] at HPu
   have HN3 := zrj n3
   have HBB := zrj bb
   clear Mk n1 n2 n3 HW HFOK HM1 bb
   generalize (folOf (goods l1)).push tb = x5 at *
   generalize bstr tb = sb at *
   have hl1' : ([(⟨3, 1, encS 3 s0⟩ : Fr)].length : Int) = 1 := rfl
   rw [hl1'] at HPu
   clear hl1'
   go_wp2_with fail
   refine HPu.out.mono ?_
   rintro e w3 ⟨rfl, v3, R3, M3, T3, hR3⟩
   have c3 := cc.trans (T3.below (B := w.heap.size) (fun k hk => by rcases hk with rfl | rfl; exact HBW.out.1; exact HBW.out.2) cc.size)
   have b3 := T3.blk HBB.out (fun hk => by rcases hk with h | h <;> omega)
   have hpt := M3.s
   rw [HN3.out] at hpt
   obtain ⟨b, m1, m2, m3, k1, k2, k3, rfl, hbb, _, hmS, _, _, _⟩ := hpt
   have HSt := zrj (uwe f fd b s0 m1 m2 m3 k1 k2 k3 w3 M3.b hbb hmS (by have := HF0.out.nj; omega) (by have := HF0.out.nn; omega) (by have := HF0.out.nl; omega))
   clear HPu T3 hR3 M3 hbb hmS cc HBB HN3
   go_wp2_with fail
   refine HSt.out.mono ?_
   rintro e w6 ⟨q1, q2, q3, d1, d2, d3, rfl, hO, hb6⟩
   have c6 := c3.trans (hb6.mono c3.size)
   have b6 := b3.below hb6 b3.lt
   have hb7 : Below w6.heap.size w6 (w6.alloc (.cells (stv s0 q1 q2 q3 d1 d2 d3) 35)) := (zri _ _).alloc (zra _) _
   have bS := Blk.new w6 35 (stv s0 q1 q2 q3 d1 d2 d3)
   have b7 := b6.below hb7 b6.lt
   have hM7 := (hO.below hb7).m
   have c7 := c6.trans (hb7.mono c6.size)
   clear hO hb6 hb7 HSt b3 c3 b6 c6
   go_upto_region 16 with (first | (refine uqf rfl _ _ _ rfl rfl 35 _ (stv s0 q1 q2 q3 d1 d2 d3) rfl uqg rfl (uxr _ _ _ _ _ _ _ _ _ _) ?_))
   generalize w6.alloc _ = w7 at *
   generalize w6.heap.size = g6 at *
   have HR := vw2 s0 s0 q1 q2 q3 pj0 pn0 pl0 d1 d2 d3 cj0 cn0 cl0 w7 hM7 ((HM.out.below c7).more c7.size) HZ.out HZ.out
   rw [decide_eq_true rfl] at HR
   have HRR := zrj HR
   have HC7 := zrj c7
   clear HR hM7 c7
   go_wp2_with (first | (refine uqv (by rfl) _ _ rfl g6 rfl _ _ bS _ Tryz.underlying35 rfl uqg ?_) | (refine uqv (by rfl) _ _ rfl w.heap.size rfl _ _ b7 _ Tryz.underlying35 rfl uqg ?_))
   refine HRR.out.mono ?_
   rintro e w8 ⟨rfl, hb8⟩
   have HC8 := zrj (HC7.out.trans (hb8.mono HC7.out.size))
   clear hb8 HC7 bS b7 HRR
   go_wp2_with fail
   go_ret
   exact ⟨rfl, HC8.out⟩
end Go.Proofs.YtibiankbmhdljabGreatDoor.followWhole
