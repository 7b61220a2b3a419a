/-
  Several texts in one: BytK, HubB.
-/
import Derived.Test.YtibiankbmhdljaaGreatDoorPkHubS
set_option linter.all false
set_option maxHeartbeats 16000000
set_option maxRecDepth 100000
namespace Go.Proofs.YtibiankbmhdljaaGreatDoor
open Go.Proofs.Tryz
open Go.RowKit
theorem uvx (q : ReqD) (w : World) (HS : ReqSz q) (hT : Tabs w) :
  Calls prog 13 #[.agg (qv q)] w fun e w' => e = .returned (.tuple #[.string (bstr (uq4 q)), .bool (decide (reqE q = 0))]) ∧ Below w.heap.size w w' := by
 have hb0 : Below w.heap.size w (w.alloc (.cells (qv q) 43)) := (zri _ _).alloc (zra _) _
 have bx0 := Blk.new w 43 (qv q)
 have hzf := uxu
 have hzq := uqw
 by_cases hE : reqE q = 0
 ·have he : encQR q = (encQ q, 0) := by unfold encQR; rw [if_neg (by rw [hE]; simp)]
  have hbs : uq4 q = wireF 3 3 (encQ q) := by unfold uq4; rw [if_pos hE, ukc]; rfl
  have HE := zrj (fun W (hW : Tabs W) => vqe q W HS hW)
  rw [he] at HE
  have HF := zrj (fun W => vqt 3 3 (encQ q) (by omega) (by omega) (zrc (vjf hE) (by decide)) W)
  have HT := zrj hT
  have hdec : decide (reqE q = 0) = true := by simp [hE]
  rw [hbs, hdec]
  generalize wireF 3 3 (encQ q) = out at *
  generalize encQ q = pl at *
  clear he hbs hE HS hT hdec
  go_enter func13, ntmps13
  go_wp2_with (first | (refine uqc rfl _ _ rfl w.heap.size rfl _ _ bx0 _ underlying43 rfl uqb ?_))
  generalize w.alloc _ = w0 at *
  refine (HE.out _ (HT.out.below hb0)).mono ?_
  rintro e w1 ⟨rfl, hb1⟩
  go_wp2_with fail
  refine (HF.out _).mono ?_
  rintro e w2 ⟨rfl, hb2⟩
  go_wp2_with fail
  go_ret2
  exact ⟨rfl, (hb0.trans (hb1.mono hb0.size)).trans (hb2.mono (zrc hb0.size hb1.size))⟩
 ·have he : encQR q = ([], reqE q) := by unfold encQR; rw [if_pos hE]
  have hbs : uq4 q = [] := by unfold uq4; rw [if_neg hE]
  have HE := zrj (fun W (hW : Tabs W) => vqe q W HS hW)
  rw [he] at HE
  have HT := zrj hT
  have hne : (((reqE q : Nat) : Int) != 0) = true := by rw [bne_iff_ne]; omega
  have hdec : decide (reqE q = 0) = false := by simp [hE]
  rw [hbs, hdec, show bstr [] = ByteArray.empty from rfl]
  generalize reqE q = er at *
  clear he hbs hE HS hT hdec
  go_enter func13, ntmps13
  go_wp2_with (first | (refine uqc rfl _ _ rfl w.heap.size rfl _ _ bx0 _ underlying43 rfl uqb ?_))
  generalize w.alloc _ = w0 at *
  refine (HE.out _ (HT.out.below hb0)).mono ?_
  rintro e w1 ⟨rfl, hb1⟩
  go_wp2_with fail
  go_ret2
  exact ⟨rfl, hb0.trans (hb1.mono hb0.size)⟩
theorem xz4 : ReqSz qGet := ⟨sz0, sz0, sz0, sz0, sz0, sz0, sz0⟩
theorem uzv (w : World) (hT : Tabs w) : Calls prog 10 #[] w fun e w' => e = .returned (.bool true) ∧ Below w.heap.size w w' := by
 have hzq := uqw
 have hgf : ∀ x ∈ [(⟨3, 4, encP 0 4⟩ : Fr), ⟨3, 1, (encR 3 uzk).1⟩], uzt x := fun x hx => (xx9 (wz8 uzk) 2 (uq4 qGet) x (by rw [vvt]; exact hx)).1
 have hbs := ujo qGet
 have hnf := xx3 uzk (k := 2) (by decide) vyb
 go_enter func10, ntmps10
 go_wp2_with fail
 refine (wyk w).mono ?_
 rintro e w1 ⟨bj, bn, bl, rfl, x1, x2, x3, hb1, hlt⟩
 have hm : StM w1 w1.heap.size (some ⟨bj, 0, none⟩) (some ⟨bn, 0, none⟩) (some ⟨bl, 0, none⟩) uzk := ⟨.of_blk (by decide) x1 rfl, .of_blk (by decide) x2 rfl, .of_blk (by decide) x3 rfl⟩
 have HN := zrj (uya uzk _ _ _ 2 1 1 w1 hm wyj (hT.below hb1) vq2)
 clear hm x1 x2 x3
 go_wp2_with fail
 refine HN.out.mono ?_
 rintro e w2 ⟨g, sv, fd, ws, rfl, H2, hb2⟩
 have hB2 := hb1.trans (hb2.mono hb1.size)
 have HH2 := zrj H2
 have HBy := zrj (uvx qGet w2 xz4 (hT.below hB2))
 rw [show decide (reqE qGet = 0) = true from by rw [vyb]; rfl] at HBy
 clear H2 HN hb2
 go_wp2_with fail
 refine HBy.out.mono ?_
 rintro e w3 ⟨rfl, hb3⟩
 have H3 := HH2.out.below hb3
 have hB3 := hB2.trans (hb3.mono hB2.size)
 have HSd := zrj (ukm H3 (k := 2) (by decide) (uz8 ((uxi _).1 vq2)) (fun W hW => hT.below (hB3.trans (hW.mono hb1.size))) (bstr (uq4 qGet)) (by rw [uqy]; omega)
  (by rw [uqu, hnf]; decide) (fun n i hi => by
   rw [uqu]
   have h := vjm (newH uzk) 2 (uq4 qGet) n i
   rw [vxk, hnf] at h
   have h2 : [reqFr qGet].length = 1 := rfl
   omega) rfl)
 rw [uqu, vvt] at HSd
 have HH3 := zrj H3
 clear H3 HBy HH2 hbs hnf hb3
 generalize bstr (uq4 qGet) = bs at *
 go_wp2_with fail
 refine HSd.out.mono ?_
 rintro e w4 ⟨rfl, ws4, H4, C4⟩
 have hB4 := hB3.trans ((C4.under HH3.out).mono hb1.size)
 clear H4 C4 HSd
 go_wp2_with fail
 refine (wz9 w4).mono ?_
 rintro e w5 ⟨rfl, rfl⟩
 have bf := Blk.new w4 112 #[.string .empty, .int .i64 0, .int .i64 0]
 have hb5 : Below w4.heap.size w4 (w4.alloc (.cells #[.string .empty, .int .i64 0, .int .i64 0] 112)) := (zri _ _).alloc (zra _) _
 have HPu := zrj (vqc _ hgf (by decide) _ _ (FeedIs.nil bf))
 clear bf
 generalize w4.alloc _ = w5 at *
 go_wp2_with fail
 refine HPu.out.mono ?_
 rintro e w6 ⟨pa, ca, rfl, hel, hge, hfe, hasd⟩
 obtain ⟨a, rfl, hab, _, hat0⟩ := hel.at_ (k := 0) (r := rowFr ⟨3, 4, encP 0 4⟩) rfl
 obtain ⟨a', ha', _, _, hat1⟩ := hel.at_ (k := 1) (r := rowFr ⟨3, 1, (encR 3 uzk).1⟩) rfl
 injection ha' with ha'
 subst ha'
 have k0 : w6.cell? { block := a.block, off := a.off + 1 } = some (.int .i64 4) := by have := hat0 1 _ rfl; simpa [Addr.add] using this
 have k1 : w6.cell? { block := a.block, off := a.off + 4 } = some (.int .i64 1) := by have := hat1 1 _ rfl; simpa [Addr.add] using this
 have hB6 := hB4.trans ((hb5.trans (hasd.toBelow (zra _) hb5.size)).mono hB4.size)
 clear hel hge hfe hasd hat0 hat1 HPu
 generalize encP 0 4 = z1 at *
 generalize (encR 3 uzk).1 = z2 at *
 go_wp2_with fail
 go_ret
 exact ⟨rfl, hB6⟩
end Go.Proofs.YtibiankbmhdljaaGreatDoor
