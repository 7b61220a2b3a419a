/-
  Several texts in one: BytT, Works.
-/
import Derived.Test.YtibiankbmhdljaaGreatDoorPkHubS
set_option linter.all false
set_option maxHeartbeats 16000000
set_option maxRecDepth 100000
namespace Go.Proofs.YtibiankbmhdljaaGreatDoor
open Go.Proofs.Tryz
open Go.RowKit
theorem wv2 (q : ReqD) (w : World) (HS : ReqSz q) (hT : Tabs w) :
  Calls prog 57 #[.agg (qv q)] w fun e w' => e = .returned (.tuple #[.string (bstr (uq4 q)), .bool (decide (reqE q = 0))]) ∧ Below w.heap.size w w' := by
 have hb0 : Below w.heap.size w (w.alloc (.cells (qv q) 43)) := (zri _ _).alloc (zra _) _
 have bx0 := Blk.new w 43 (qv q)
 have hzf := uxu
 have hzq := uqw
 by_cases hE : reqE q = 0
 ·have he : encQR q = (encQ q, 0) := by unfold encQR; rw [if_neg (by rw [hE]; simp)]
  have hbs : uq4 q = wireF 3 3 (encQ q) := by unfold uq4; rw [if_pos hE, ukc]; rfl
  have HE := zrj (fun W (hW : Tabs W) => vqe q W HS hW)
  rw [he] at HE
  have HF := zrj (fun W => vqt 3 3 (encQ q) (by omega) (by omega) (zrc (vjf hE) (by decide)) W)
  have HT := zrj hT
  have hdec : decide (reqE q = 0) = true := by simp [hE]
  rw [hbs, hdec]
  generalize wireF 3 3 (encQ q) = out at *
  generalize encQ q = pl at *
  clear he hbs hE HS hT hdec
  go_enter func57, ntmps57
  go_wp2_with (first | (refine uqc rfl _ _ rfl w.heap.size rfl _ _ bx0 _ underlying43 rfl uqb ?_))
  generalize w.alloc _ = w0 at *
  refine (HE.out _ (HT.out.below hb0)).mono ?_
  rintro e w1 ⟨rfl, hb1⟩
  go_wp2_with fail
  refine (HF.out _).mono ?_
  rintro e w2 ⟨rfl, hb2⟩
  go_wp2_with fail
  go_ret2
  exact ⟨rfl, (hb0.trans (hb1.mono hb0.size)).trans (hb2.mono (zrc hb0.size hb1.size))⟩
 ·have he : encQR q = ([], reqE q) := by unfold encQR; rw [if_pos hE]
  have hbs : uq4 q = [] := by unfold uq4; rw [if_neg hE]
  have HE := zrj (fun W (hW : Tabs W) => vqe q W HS hW)
  rw [he] at HE
  have HT := zrj hT
  have hne : (((reqE q : Nat) : Int) != 0) = true := by rw [bne_iff_ne]; omega
  have hdec : decide (reqE q = 0) = false := by simp [hE]
  rw [hbs, hdec, show bstr [] = ByteArray.empty from rfl]
  generalize reqE q = er at *
  clear he hbs hE HS hT hdec
  go_enter func57, ntmps57
  go_wp2_with (first | (refine uqc rfl _ _ rfl w.heap.size rfl _ _ bx0 _ underlying43 rfl uqb ?_))
  generalize w.alloc _ = w0 at *
  refine (HE.out _ (HT.out.below hb0)).mono ?_
  rintro e w1 ⟨rfl, hb1⟩
  go_wp2_with fail
  go_ret2
  exact ⟨rfl, hb0.trans (hb1.mono hb0.size)⟩
theorem wzk (a : Int) (p1 p2 p3 : Option Addr) (n1 n2 n3 c1 c2 c3 : Nat) (W : World) : (Instr.field 26 (.agg #[.int .i64 a, .slice p1 n1 c1, .slice p2 n2 c2, .slice p3 n3 c3]) 1).run prog W = .ok (Value.slice p1 n1 c1) W := by kernel_rfl
theorem wyh : ReqSz qPutA := ⟨by decide, sz0, sz0, sz0, sz0, sz0, sz0⟩
theorem wxz (w : World) (hT : Tabs w) : Calls prog 29 #[] w fun e w' => e = .returned (.bool true) ∧ Below w.heap.size w w' := by
 have hzq := uqw
 have hzs := uxk
 have hzj := uyp
 have F0 : Fine uvy := (uxi _).1 vy7
 have hbs := ujo qPutA
 have hnf := xx3 uvy (k := 0) (by decide) vjp
 have hso := xjd F0 (k := 0) (by decide) vjp
 have hsr := xje uvy (k := 0) (by decide) vjp
 have hone := ww8
 have hm : StM w w.heap.size none none none uvy := ⟨.nil_, .nil_, .nil_⟩
 have HN := zrj (uya uvy none none none 0 0 0 w hm F0.sz hT vy7)
 go_enter func29, ntmps29
 go_wp2_with fail
 refine HN.out.mono ?_
 rintro e w2 ⟨g, sv, fd, ws, rfl, H2, hb2⟩
 have HH2 := zrj H2
 have HBy := zrj (wv2 qPutA w2 wyh (hT.below hb2))
 rw [show decide (reqE qPutA = 0) = true from by rw [vjp]; rfl] at HBy
 clear H2 HN hm
 go_wp2_with fail
 refine HBy.out.mono ?_
 rintro e w3 ⟨rfl, hb3⟩
 have H3 := HH2.out.below hb3
 have hB3 := hb2.trans (hb3.mono hb2.size)
 have HSd := zrj (ukm H3 (k := 0) (by decide) (uz8 F0) (fun W hW => hT.below (hB3.trans hW)) (bstr (uq4 qPutA)) (by rw [uqy]; omega)
  (by rw [uqu, hnf]; decide) (fun n i hi => by
   rw [uqu]
   have h := vjm (newH uvy) 0 (uq4 qPutA) n i
   rw [vxk, hnf] at h
   have h2 : [reqFr qPutA].length = 1 := rfl
   omega) rfl)
 rw [uqu] at HSd
 have HV := zrj (show SrvOk ((newH uvy).send 0 (uq4 qPutA)).srv from vye (h := newH uvy) (uz8 F0) 0 _)
 have HH3 := zrj H3
 have hlen : ((newH uvy).send 0 (uq4 qPutA)).srv.st.jobs.length = 1 := by rw [hsr]; exact hone
 have hne := wqy hso
 clear H3 HBy HH2 hbs hnf hb3 hso hsr hone F0
 generalize (newH uvy).send 0 (uq4 qPutA) = h4 at *
 generalize bstr (encs ((newH uvy).out 0 (uq4 qPutA))) = out at *
 generalize bstr (uq4 qPutA) = bs at *
 go_wp2_with fail
 refine HSd.out.mono ?_
 rintro e w4 ⟨rfl, ws4, H4, C4⟩
 have hB4 := hB3.trans (C4.under HH3.out)
 have HSt := zrj (vzh H4 HV.out.1)
 clear H4 C4 HSd
 go_wp2_with fail
 refine HSt.out.mono ?_
 rintro e w5 ⟨q1, q2, q3, d1, d2, d3, rfl, hO, hb5⟩
 have hB5 := hB4.trans (hb5.mono hB4.size)
 clear hO
 unfold stv
 have hfj := wzk h4.srv.st.rev q1 q2 q3 1 h4.srv.st.nodes.length h4.srv.st.leases.length d1 d2 d3 w5
 go_wp2_with fail
 go_ret
 exact ⟨rfl, hB5⟩
end Go.Proofs.YtibiankbmhdljaaGreatDoor
