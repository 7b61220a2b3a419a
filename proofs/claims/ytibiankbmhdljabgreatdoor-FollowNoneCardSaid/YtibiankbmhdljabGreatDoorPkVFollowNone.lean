/-
  Several texts in one: VFollowNone.
-/
import Derived.Test.YtibiankbmhdljabGreatDoorPkFolC
import Derived.Test.YtibiankbmhdljabGreatDoorPkDelsI
set_option linter.all false
set_option maxHeartbeats 16000000
set_option maxRecDepth 100000
namespace Go.Proofs.YtibiankbmhdljabGreatDoor.followNone
open Go.ChangeShapes Go.WideShapes Go.ChangeAt Go.RowKit Go.Joins
open Go.ChangeMaps (open_string)
theorem walk {H : Type} (p1 : Option Addr) (c1 : Nat) (l1 : List (DelI H)) (w : World) (hel1 : Elts w w.heap.size 8 p1 (l1.map rowDI)) (hok1 : ∀ x ∈ l1, DelM w w.heap.size x.p1 x.p2 x.p3 x.p4 x.p5 x.p6 x.d ∧ DelOk x.d) (hl1 : l1.length ≤ 9223372036854775807) (hT : Tabs w) :
  Calls Tryz.prog 5 #[.slice p1 l1.length c1] w fun e w' => e = .returned (.bool true) ∧ Below w.heap.size w w' := by
 have HT := zrj hT
 have HEL := zrj hel1
 have HOK := zrj hok1
 have hzf := uzu
 clear hT hel1 hok1
 go_enter Tryz.func5, Tryz.ntmps5
 go_wp2_with fail
 refine (uw1 w HT.out).mono ?_
 rintro e w1 ⟨rfl, c1_⟩
 go_wp2_with fail
 refine (uv3 w1).mono ?_
 rintro e w2 ⟨f, fd, rfl, hf, hfd, Mf, hb2⟩
 have c2_ := c1_.trans (hb2.mono c1_.size)
 have HBW := zrj (show w.heap.size ≤ f ∧ w.heap.size ≤ fd from ⟨zrc c1_.size hf, zrc c1_.size hfd⟩)
 rw [← wqe] at Mf
 clear hf hfd hb2 c1_
 go_wp2_with fail
 go_loopw [19] (fun i wr => ∃ (k : Nat) (fs : List Fr) (v : Value) (R : Nat → Prop), k ≤ l1.length ∧ i = .int .i64 k ∧ FolM wr f fd R (folOf fs) v ∧ Hid ((∀ x ∈ fs, ux7 x) ∧ (folOf fs).st = none) ∧ Below w.heap.size w wr) (fun i _ => l1.length - (intOf i).toNat)
 case atStart => exact ⟨0, [], .pointer none, _, Nat.zero_le _, rfl, Mf, zrj ⟨by simp, rfl⟩, c2_⟩
 case round =>
  obtain ⟨k, fs, v, R, hk, rfl, Mk, HFS, cc⟩ := hrel
  clear Mf c2_
  by_cases hlt : k < l1.length
  ·have hx : l1[k]? = some l1[k] := zrd hlt
   obtain ⟨hdm, hdk⟩ := HOK.out l1[k] (List.getElem_mem hlt)
   generalize l1[k] = x at *
   obtain ⟨a, rfl, hab, _, hat⟩ := (HEL.out.below cc).at_ (k := k) (r := rowDI x) (by rw [zrg, hx]; rfl)
   have hb1 : Below wr.heap.size wr (wr.alloc (.cells (dv x.d x.p1 x.p2 x.p3 x.p4 x.p5 x.p6 x.c1 x.c2 x.c3 x.c4 x.c5 x.c6) 49)) := (zri _ _).alloc (zra _) _
   have bx := Blk.new wr 49 (dv x.d x.p1 x.p2 x.p3 x.p4 x.p5 x.p6 x.c1 x.c2 x.c3 x.c4 x.c5 x.c6)
   have HMk := zrj (Mk.below hb1)
   have c3 := cc.trans (hb1.mono cc.size)
   have HEn := zrj (vy8 x.d x.p1 x.p2 x.p3 x.p4 x.p5 x.p6 x.c1 x.c2 x.c3 x.c4 x.c5 x.c6 _ ((hdm.below c3).more c3.size) hdk (HT.out.below c3))
   clear Mk cc hx hab hb1 hdm
   go_upto_region 7 with (first | (refine uqd rfl _ _ rfl (a.add (k * 8)) rfl [Value.int .i64 x.d.frm, Value.int .i64 x.d.upto, Value.slice x.p1 x.d.jobs.length x.c1, Value.slice x.p2 x.d.nodes.length x.c2, Value.slice x.p3 x.d.leases.length x.c3, Value.slice x.p4 x.d.gj.length x.c4, Value.slice x.p5 x.d.gn.length x.c5, Value.slice x.p6 x.d.gl.length x.c6] _ hat Tryz.underlying49 rfl uqx ?_) | (refine uqf rfl _ _ _ rfl rfl 49 _ (dv x.d x.p1 x.p2 x.p3 x.p4 x.p5 x.p6 x.c1 x.c2 x.c3 x.c4 x.c5 x.c6) rfl uqx rfl (uve _ _ _ _ _ _ _ _ _ _ _ _ _ _ _ _ _ _ _ _) ?_))
   generalize wr.alloc _ = W1 at *
   generalize wr.heap.size = gx at *
   clear hat
   by_cases h0 : (encDR x.d).2 = 0
   rotate_left
   ·have e0 : (((encDR x.d).2 : Int) != 0) = true := by rw [bne_iff_ne]; omega
    clear h0
    go_wp2_with (first | (refine uqv (by rfl) _ _ rfl gx rfl _ _ bx _ Tryz.underlying49 rfl uqx ?_))
    refine HEn.out.mono ?_
    rintro e w4 ⟨rfl, hb4⟩
    have HM4 := zrj (HMk.out.below hb4)
    have HC4 := zrj (c3.trans (hb4.mono c3.size))
    clear hb4 HMk c3 bx HEn
    go_wp2_with fail
    go_roundw
    case rel => exact ⟨k + 1, fs, v, R, by omega, by go_num, HM4.out, HFS, HC4.out⟩
    case measure => simp [intOf]; omega
   obtain ⟨hen, hde, hlen⟩ := wjw h0
   rw [hen] at HEn
   have hy : ux7 ⟨3, 2, encD x.d⟩ := ⟨⟨by show 1 ≤ 3; decide, by show 3 ≤ 3; decide⟩, ⟨by show 1 ≤ 2; decide, by show 2 ≤ 4; decide⟩, by show (encD x.d).length ≤ 6000; exact hlen⟩
   have HFe := zrj (fun W => uwc 3 2 (encD x.d) (by decide) (by decide) hlen W)
   have hg := HFS.out.1
   have hnew := (uv4 hg hy).1
   have hps := vxe hg hy
   have hcode := vk7 hg hy
   rw [HFS.out.2, uwt] at hcode
   have hst := wj1 fs ⟨3, 2, encD x.d⟩
   rw [HFS.out.2, uwt] at hst
   have hwl := ux9 3 2 (encD x.d)
   have h10 := uqn (encD x.d).length (by omega)
   have hwl2 : (wireF 3 2 (encD x.d)).length ≤ 6018 := by omega
   have HNE := zrj hnew
   have HPS := zrj hps
   have HCO := zrj hcode
   have HFS2 := zrj (show (∀ y ∈ fs ++ [(⟨3, 2, encD x.d⟩ : Fr)], ux7 y) ∧ (folOf (fs ++ [(⟨3, 2, encD x.d⟩ : Fr)])).st = none from ⟨fun y hym => by rcases List.mem_append.1 hym with hym | hym; exact hg y hym; rw [List.mem_singleton.1 hym]; exact hy, hst⟩)
   have HFOK := zrj (vwj fs)
   clear h0 hen hde hlen hy hg hnew hps hcode hst hwl h10
   simp only at HNE HPS HCO
   generalize hfs2 : fs ++ [(⟨3, 2, encD x.d⟩ : Fr)] = fs2 at *
   generalize encD x.d = pl at *
   generalize hwb : wireF 3 2 pl = wb at *
   clear hwb hfs2
   go_wp2_with (first | (refine uqv (by rfl) _ _ rfl gx rfl _ _ bx _ Tryz.underlying49 rfl uqx ?_))
   refine HEn.out.mono ?_
   rintro e w4 ⟨rfl, hb4⟩
   have M4 := HMk.out.below hb4
   have c4 := c3.trans (hb4.mono c3.size)
   clear hb4 HMk c3 bx HEn
   go_wp2_with fail
   refine (HFe.out w4).mono ?_
   rintro e w5 ⟨rfl, hb5⟩
   have M5 := M4.below hb5
   have c5 := c4.trans (hb5.mono c4.size)
   have HPu := zrj (uj5 f fd R (folOf fs) v (bstr wb) w5 w.heap.size M5 HFOK.out (by rw [uq0]; omega) (by rw [uqu, HNE.out]; exact (by decide : 1 ≤ 4398046511104)) (fun W hW => HT.out.below (c5.trans hW)) c5.size HBW.out)
   rw [uqu, HNE.out, HPS.out, HCO.out] at HPu
   have hone : ([(⟨3, 2, pl⟩ : Fr)].length : Int) = 1 := rfl
   rw [hone] at HPu
   clear M4 M5 hb5 c4 HNE HPS HCO HFOK HFe hone
   generalize bstr wb = sb at *
   go_wp2_with fail
   refine HPu.out.mono ?_
   rintro e w6 ⟨rfl, v6, R6, M6, T6, hR6⟩
   have HM6 := zrj M6
   have HC6 := zrj (c5.trans (T6.below (B := w.heap.size) (fun k hk => by rcases hk with rfl | rfl; exact HBW.out.1; exact HBW.out.2) c5.size))
   clear M6 T6 hR6 HPu c5
   go_wp2_with fail
   go_roundw
   case rel => exact ⟨k + 1, fs2, v6, R6, by omega, by go_num, HM6.out, HFS2, HC6.out⟩
   case measure => simp [intOf]; omega
  ·obtain rfl : k = l1.length := by omega
   have hpt := Mk.s
   rw [HFS.out.2] at hpt
   obtain rfl : v = .pointer none := hpt
   have HSt := zrj (vqt f fd wr Mk.b)
   clear Mk
   go_wp2_with fail
   refine HSt.out.mono ?_
   rintro e w6 ⟨rfl, hb6⟩
   have HC6 := zrj ((cc.trans (hb6.mono cc.size)).alloc (zrc cc.size hb6.size) (.cells zsv 35))
   clear cc hb6 HSt
   go_wp2_with (first | (refine uqf rfl _ _ _ rfl rfl 35 _ zsv rfl uqg rfl (uxr _ _ _ _ _ _ _ _ _ _) ?_))
   go_ret
   exact ⟨rfl, HC6.out⟩
end Go.Proofs.YtibiankbmhdljabGreatDoor.followNone
