/-
  Several texts in one: VFollowCuts.
-/
import Derived.Test.YtibiankbmhdljabGreatDoorPkFolC
import Derived.Test.YtibiankbmhdljabGreatDoorPkCuts
import Derived.Test.YtibiankbmhdljabGreatDoorPkIntsI
set_option linter.all false
set_option maxHeartbeats 16000000
set_option maxRecDepth 100000
namespace Go.Proofs.YtibiankbmhdljabGreatDoor.followCuts
open Go.ChangeShapes Go.WideShapes Go.ChangeAt Go.RowKit Go.Joins
open Go.ChangeMaps (open_string)
theorem walk (s : ByteArray) (hs : s.size ≤ 1048576) (p : Option Addr) (c : Nat) (zs : List Int) (w : World) (hel : Elts w w.heap.size 1 p (zs.map rowI)) (hz : ∀ z ∈ zs, okI z) (hl : zs.length ≤ 1048576) (hT : Tabs w) :
  Calls Tryz.prog 3 #[.string s, .slice p zs.length c] w fun e w' => e = .returned (.bool true) ∧ Below w.heap.size w w' := by
 have HZ := zrj hz
 have HT := zrj hT
 have HEL := zrj hel
 clear hz hT hel
 go_enter Tryz.func3, Tryz.ntmps3
 go_wp2_with fail
 refine (uw1 w HT.out).mono ?_
 rintro e w1 ⟨rfl, c1⟩
 go_wp2_with fail
 refine (uv3 w1).mono ?_
 rintro e w2 ⟨f, fd, rfl, hf, hfd, Mf, hb2⟩
 have c2 := c1.trans (hb2.mono c1.size)
 go_wp2_with fail
 refine (uv3 w2).mono ?_
 rintro e w3 ⟨g, gd, rfl, hg, hgd, Mg, hb3⟩
 have c3 := c2.trans (hb3.mono c2.size)
 have Mf3 := Mf.below hb3
 have hfl := Mf.u f Mf.r.1
 have hfdl := Mf.u fd Mf.r.2
 have hgl := Mg.u g Mg.r.1
 have hgdl := Mg.u gd Mg.r.2
 have hsl : s.data.toList.length = s.size := uvn s
 have hnl := newF_len [] s.data.toList
 have HP := zrj (uj5 f fd _ uzm _ s w3 w.heap.size Mf3 (fun t ht => by cases ht) (by omega) (by show (newF [] s.data.toList).length ≤ _; omega) (fun W hW => HT.out.below (c3.trans hW)) c3.size ⟨zrc c1.size hf, zrc c1.size hfd⟩)
 have hG1 : w.heap.size ≤ g ∧ w.heap.size ≤ gd := ⟨zrc c2.size hg, zrc c2.size hgd⟩
 have HG1 := zrj hG1
 have HF1 := zrj (show w.heap.size ≤ f ∧ w.heap.size ≤ fd from ⟨zrc c1.size hf, zrc c1.size hfd⟩)
 have hnn : (newF uzm.L s.data.toList).length ≤ 2000000 := by show (newF [] s.data.toList).length ≤ _; omega
 have HMg := zrj Mg
 clear Mf Mg hb2 hb3 hsl hnl hG1 c1 c2
 go_wp2_with fail
 refine HP.out.mono ?_
 rintro e w4 ⟨rfl, vf, Rf, M4, T4, hRf⟩
 have c4 := c3.trans (T4.below (B := w.heap.size) (fun k hk => by rcases hk with rfl | rfl; exact HF1.out.1; exact HF1.out.2) c3.size)
 have Mg4 := HMg.out.tch T4 (fun k hk h => by have := hk.1; rcases h with h | h <;> omega)
 have hRfg : ∀ k, Rf k → ¬ FolT g gd k := fun k hk h => by rcases hRf k hk with h1 | h1 <;> rcases h with h | h <;> omega
 have HOKx := zrj (show FolOk (uzm.push s.data.toList).st from vqs (fun t ht => by cases ht) _)
 have HRF := zrj hRfg
 have hs4 : w3.heap.size ≤ w4.heap.size := T4.size
 clear HP T4 hRf hRfg Mf3 HMg c3
 go_wp2_with fail
 refine (cut_any s p c zs w4 ((HEL.out.below c4).more c4.size) HZ.out (by omega) (by omega)).mono ?_
 rintro e w5 ⟨q5, c5, ps, rfl, hps, hfl5, hpl, hb5⟩
 have hpe := hps.elts
 have hpg := own_ge hps
 have M5 := M4.below hb5
 have Mg5 := Mg4.below hb5
 have c5_ := c4.trans (hb5.mono c4.size)
 have HPE := zrj hpe
 have HPG := zrj (show ∀ a, q5 = some a → ¬ FolT g gd a.block from fun a ha h => by have := hpg a ha; rcases h with h | h <;> omega)
 have HFL := zrj hfl5
 have hps2 : ps.length ≤ 2000000 := by omega
 have HPSS := zrj (fun k => wzw uzm ps k)
 clear hps hpe hpg hfl5 M4 Mg4 hb5 c4
 go_wp2_with fail
 go_loopw [9, 32] (fun m i wr => ∃ (k : Nat) (v : Value) (R : Nat → Prop), k ≤ ps.length ∧ i = .int .i64 k ∧ m = .int .i64 ((newF uzm.L (flatP ps k)).length : Int) ∧ FolM wr g gd R (uzm.push (flatP ps k)) v ∧ FolM wr f fd Rf (uzm.push s.data.toList) vf ∧ Below w.heap.size w wr ∧ HTch (FolT g gd) w5 wr) (fun _ i _ => ps.length - (intOf i).toNat)
 case atStart => exact ⟨0, _, _, Nat.zero_le _, rfl, by rw [vk5, wkb]; rfl, by rw [vk5, push_nil]; exact Mg5, M5, c5_, HTch.refl _ _⟩
 case round =>
  obtain ⟨k, v, R, hk, rfl, rfl, Mk, Mf_, cc, Tk⟩ := hrel
  clear M5 Mg5
  by_cases hlt : k < ps.length
  ·have hx : ps[k]? = some ps[k] := zrd hlt
   have hst := HPSS.out k
   have hls := flatP_le HFL.out (k + 1)
   have hsl2 := uvn s
   have hnl2 : (newF uzm.L (flatP ps (k + 1))).length ≤ _ := newF_len [] (flatP ps (k + 1))
   generalize hxx : ps[k] = x at *
   obtain ⟨hp1, hp2, hp3⟩ := hst x hx
   obtain ⟨a, rfl, hab, hat⟩ := (HPE.out.tch (zra _) Tk HPG.out).cell1 hx
   have hxs : x.data.toList.length = x.size := uvn x
   have HOK2 := zrj (show FolOk (uzm.push (flatP ps k)).st from vqs (fun t ht => by cases ht) _)
   have HPu := zrj (uj5 g gd R (uzm.push (flatP ps k)) v x wr w.heap.size Mk HOK2.out (by omega) (by omega) (fun W hW => HT.out.below (cc.trans hW)) cc.size HG1.out)
   rw [hp1] at HPu
   have HMf := zrj Mf_
   have HTk := zrj Tk
   have hwm : IntKind.i64.wrap (((newF uzm.L (flatP ps k)).length : Int) + ((newF (uzm.push (flatP ps k)).L x.data.toList).length : Int)) = ((newF uzm.L (flatP ps (k + 1))).length : Int) := by
    rw [IntWalk.i64_in _ (by omega)]
    omega
   clear Mk Mf_ Tk hx hxx hab hst hp1 hp2 hp3 hls hnl2 hsl2 hxs HOK2
   generalize (newF uzm.L (flatP ps k)).length = m0 at *
   generalize (newF (uzm.push (flatP ps k)).L x.data.toList).length = m1 at *
   generalize hm2 : (newF uzm.L (flatP ps (k + 1))).length = m2 at *
   have HM2 := zrj hm2
   clear hm2
   go_wp2_with fail
   refine HPu.out.mono ?_
   rintro e w6 ⟨rfl, v6, R6, M6, T6, hR6⟩
   have HM6 := zrj M6
   have HMf6 := zrj (HMf.out.tch T6 HRF.out)
   have HC6 := zrj (cc.trans (T6.below (B := w.heap.size) (fun k hk => by rcases hk with rfl | rfl; exact HG1.out.1; exact HG1.out.2) cc.size))
   have HT6 := zrj (HTk.out.trans T6 (fun _ _ h => h))
   clear M6 T6 hR6 HPu HMf HTk cc hat
   go_wp2_with fail
   go_roundw
   case rel => exact ⟨k + 1, v6, R6, by omega, by go_num, by rw [HM2.out], HM6.out, HMf6.out, HC6.out, HT6.out⟩
   case measure => simp [intOf]; omega
  ·obtain rfl : k = ps.length := by omega
   rw [xqi HFL.out] at Mk ⊢
   generalize (newF uzm.L s.data.toList).length = n0 at *
   generalize uzm.push s.data.toList = x1 at *
   have HS1 := zrj (vx6 Mf_ HOKx.out)
   have HMk := zrj Mk
   clear Mk Mf_ Tk HPSS hlt
   go_wp2_with fail
   refine HS1.out.mono ?_
   rintro e w6 ⟨q1, q2, q3, d1, d2, d3, rfl, hm6, hb6⟩
   have c6 := cc.trans (hb6.mono cc.size)
   have hb7 : Below w6.heap.size w6 (w6.alloc (.cells #[.int .i64 (stOr x1.st).rev, .slice q1 (stOr x1.st).jobs.length d1, .slice q2 (stOr x1.st).nodes.length d2, .slice q3 (stOr x1.st).leases.length d3] 35)) := (zri _ _).alloc (zra _) _
   have bA := Blk.new w6 35 #[.int .i64 (stOr x1.st).rev, .slice q1 (stOr x1.st).jobs.length d1, .slice q2 (stOr x1.st).nodes.length d2, .slice q3 (stOr x1.st).leases.length d3]
   have hm7 := hm6.tchN (HTch.of_below (O := fun _ => False) hb7) (fun _ _ _ h => h) (fun _ _ _ h => h) (fun _ _ _ h => h)
   have Mk7 := (HMk.out.below hb6).below hb7
   have c7 := c6.trans (hb7.mono c6.size)
   clear HS1 hm6 hb6 hb7 c6 cc HMk
   go_upto_region 13 with (first | (refine uqf rfl _ _ _ rfl rfl 35 _ #[.int .i64 (stOr x1.st).rev, .slice q1 (stOr x1.st).jobs.length d1, .slice q2 (stOr x1.st).nodes.length d2, .slice q3 (stOr x1.st).leases.length d3] rfl uqg rfl (uxr _ _ _ _ _ _ _ _ _ _) ?_))
   generalize w6.alloc _ = w7 at *
   generalize w6.heap.size = gA at *
   have HS2 := zrj (vx6 Mk7 HOKx.out)
   clear Mk7
   go_wp2_with fail
   refine HS2.out.mono ?_
   rintro e w8 ⟨r1, r2, r3, e1, e2, e3, rfl, hm8, hb8⟩
   have bA8 := bA.below hb8 bA.lt
   have hm7' := hm7.tchN (HTch.of_below (O := fun _ => False) hb8) (fun _ _ _ h => h) (fun _ _ _ h => h) (fun _ _ _ h => h)
   have c8 := c7.trans (hb8.mono c7.size)
   have hb9 : Below w8.heap.size w8 (w8.alloc (.cells #[.int .i64 (stOr x1.st).rev, .slice r1 (stOr x1.st).jobs.length e1, .slice r2 (stOr x1.st).nodes.length e2, .slice r3 (stOr x1.st).leases.length e3] 35)) := (zri _ _).alloc (zra _) _
   have bB := Blk.new w8 35 #[.int .i64 (stOr x1.st).rev, .slice r1 (stOr x1.st).jobs.length e1, .slice r2 (stOr x1.st).nodes.length e2, .slice r3 (stOr x1.st).leases.length e3]
   have bA9 := bA8.below hb9 bA8.lt
   have hm9 := hm8.tchN (HTch.of_below (O := fun _ => False) hb9) (fun _ _ _ h => h) (fun _ _ _ h => h) (fun _ _ _ h => h)
   have hm9' := hm7'.tchN (HTch.of_below (O := fun _ => False) hb9) (fun _ _ _ h => h) (fun _ _ _ h => h) (fun _ _ _ h => h)
   have c9 := c8.trans (hb9.mono c8.size)
   clear HS2 hm7 hm8 hm7' hb8 hb9 c7 c8 bA bA8
   go_upto_region 14 with (first | (refine uqf rfl _ _ _ rfl rfl 35 _ #[.int .i64 (stOr x1.st).rev, .slice r1 (stOr x1.st).jobs.length e1, .slice r2 (stOr x1.st).nodes.length e2, .slice r3 (stOr x1.st).leases.length e3] rfl uqg rfl (uxr _ _ _ _ _ _ _ _ _ _) ?_))
   generalize w8.alloc _ = w9 at *
   generalize w8.heap.size = gB at *
   have HR := vw2 (stOr x1.st) (stOr x1.st) q1 q2 q3 r1 r2 r3 d1 d2 d3 e1 e2 e3 w9 hm9' hm9 (xx8 HOKx.out) (xx8 HOKx.out)
   rw [decide_eq_true rfl] at HR
   have HRR := zrj HR
   have HC9 := zrj c9
   clear HR hm9 hm9' c9
   generalize x1.st.isSome = ib at *
   go_wp2_with (first | (refine uqv (by rfl) _ _ rfl gA rfl _ _ bA9 _ Tryz.underlying35 rfl uqg ?_) | (refine uqv (by rfl) _ _ rfl gB rfl _ _ bB _ Tryz.underlying35 rfl uqg ?_))
   refine HRR.out.mono ?_
   rintro e w10 ⟨rfl, hb10⟩
   have HC10 := zrj (HC9.out.trans (hb10.mono HC9.out.size))
   clear hb10 HC9 bA9 bB HRR
   go_wp2_with fail
   go_ret
   exact ⟨rfl, HC10.out⟩
end Go.Proofs.YtibiankbmhdljabGreatDoor.followCuts
