/- Lemmas.
-/
import Derived.Test.YtnnfgchhkekkeaaGreatDoorPfActs
import Derived.Test.YtnnfgchhkekkeaaGreatDoorPfFolB
set_option linter.all false
set_option maxHeartbeats 16000000
set_option maxRecDepth 100000
namespace Go.Proofs.YtnnfgchhkekkeaaGreatDoor
open Go.Proofs.Tryz
open Go.RowKit
theorem FolM.hub {w w':World} {B g sv f fd':Nat} {fd:Nat->Nat} {ws ws':Nat->Value} {h:HubD} {R:Nat->Prop} {x:FolD} {v:Value} (M:FolM w f fd' R x v) (H:HubM w B g sv fd ws h) (C:HubC w g sv fd ws w' ws') (hR:∀k,R k->k<B):FolM w' f fd' R x v :=
 M.tch C.t (fun k hk ho=>by have h1:=(H.own_ge ho).1;have h2:=hR k hk;omega)
def uy8:ReqD:=⟨9,noJ,noN,noL,ByteArray.empty,0⟩
theorem vzz:reqE uy8=0:=by decide +kernel
theorem wwh:(doR ⟨uq2,0⟩ uy8).code=0:=by decide +kernel
theorem wwm:ReqSz uy8:=⟨sz0,sz0,sz0,sz0,sz0,sz0,sz0⟩
theorem vwv:(newH uq2).out 0 (uxd uy8)=[⟨3,4,encP 0 4⟩,⟨3,1,(encR 3 uq2).1⟩]:=by
 unfold uxd
 rw[if_pos vzz]
 exact wya ((uxo _).1 ujn) (by decide) vzz (.inr rfl) wwh vkm
theorem wwo:(encR 3 uq2).1=encS 3 uq2:=by decide +kernel
theorem vvs:uxm none [(⟨3,4,encP 0 4⟩:Fr),⟨3,1,(encR 3 uq2).1⟩]=(some uq2,0):=by
 rw[wwo]
 unfold uxm
 rw[List.foldl_cons,List.foldl_cons,List.foldl_nil]
 unfold folGo
 simp only[if_true]
 rw[vx7]
 simp only[if_true]
 rw[uyp ujn]
theorem followed_any (w:World) (hT:Tabs w):Calls prog 4 #[] w fun e w'=>e=.returned (.bool true)/\Below w.heap.size w w':=by
 have hzq:=uq8
 have hgf:∀x∈[(⟨3,4,encP 0 4⟩:Fr),⟨3,1,(encR 3 uq2).1⟩],uxu x:=fun x hx=>(wju (wq8 uq2) 0 (uxd uy8) x (by rw[vwv];exact hx)).1
 have hbs:=vq2 uy8
 have hnf:=xvk uq2 (k:=0) (by decide) vzz
 go_enter func4,ntmps4
 go_wp2_with fail
 refine(xxm w).mono ?_
 rintro e w0 ⟨f,fd',rfl,hf0,hfd0,M0,hb0⟩
 go_wp2_with fail
 refine(vj2 w0).mono ?_
 rintro e w1 ⟨bj,bn,bl,rfl,x1,x2,x3,hb1,hlt⟩
 have hB1:=bthen hb0 hb1
 have hs01:w0.heap.size<=w1.heap.size:=hb1.size
 have M1:=M0.below hb1
 have hm:StM w1 w1.heap.size (some ⟨bj,0,none⟩) (some ⟨bn,0,none⟩) (some ⟨bl,0,none⟩) uq2:=⟨.of_blk (by decide) x1 rfl,.of_blk (by decide) x2 rfl,.of_blk (by decide) x3 rfl⟩
 have HN:=zrj (wq3 uq2 _ _ _ 2 1 1 w1 hm vxn (hT.below hB1) ujn)
 clear hm x1 x2 x3 M0
 go_wp2_with fail
 refine HN.out.mono ?_
 rintro e w2 ⟨g,sv,fd,ws,rfl,H2,hb2⟩
 have hB2:=bthen hB1 hb2
 have M2:=M1.below hb2
 have HH2:=zrj H2
 have HBy:=zrj (vw9 uy8 w2 wwm (hT.below hB2))
 rw[show decide (reqE uy8=0)=true from by rw[vzz];rfl] at HBy
 clear H2 HN hb2 M1
 go_wp2_with fail
 refine HBy.out.mono ?_
 rintro e w3 ⟨rfl,hb3⟩
 have H3:=HH2.out.below hb3
 have M3:=M2.below hb3
 have hB3:=bthen hB2 hb3
 have HSd:=zrj (vzt H3 (k:=0) (by decide) (uy3 ((uxo _).1 ujn)) (fun W hW=>hT.below (hB3.trans (hW.mono hB1.size))) (bstr (uxd uy8)) (by rw[uqz];omega)
  (by rw[uqv,hnf];decide) (fun n i hi=>by
   rw[uqv]
   have h:=wyz (newH uq2) 0 (uxd uy8) n i
   rw[vzw,hnf] at h
   have h2:[reqFr uy8].length=1:=rfl
   omega) rfl)
 rw[uqv,vwv] at HSd
 have HH3:=zrj H3
 clear H3 HBy HH2 hbs hnf hb3 M2
 generalize bstr (uxd uy8)=bs at *
 go_wp2_with fail
 refine HSd.out.mono ?_
 rintro e w4 ⟨rfl,ws4,H4,C4⟩
 have hB4:=hB3.trans ((C4.under HH3.out).mono hB1.size)
 have M4:=M3.hub HH3.out C4 (fun k hk=>by have:=hk.2;omega)
 clear H4 C4 HSd M3 HH3
 have hna:=uws (fs:=[]) (by simp) hgf
 rw[uxt,List.nil_append] at hna
 have hel:=vzo _ hgf
 have HPu:=zrj (vvr f fd' _ vxz _ (bstr (encs [(⟨3,4,encP 0 4⟩:Fr),⟨3,1,(encR 3 uq2).1⟩])) w4 w.heap.size M4 (fun t ht=>by cases ht) (by rw[uqz];have h2:[(⟨3,4,encP 0 4⟩:Fr),⟨3,1,(encR 3 uq2).1⟩].length=2:=rfl;omega) (by rw[uqv];show(newF [] _).length<=_;rw[hna.1];decide) (fun W hW=>hT.below (hB4.trans hW)) hB4.size ⟨hf0,hfd0⟩)
 have hpl:(newF vxz.L (encs [(⟨3,4,encP 0 4⟩:Fr),⟨3,1,(encR 3 uq2).1⟩])).length=2:=by show(newF [] _).length=2;rw[hna.1];rfl
 have hpc:vxz.code (encs [(⟨3,4,encP 0 4⟩:Fr),⟨3,1,(encR 3 uq2).1⟩])=0:=by
  show(if(uxm none (newF [] _)).2=0 then errF ([]++_) else(uxm none (newF [] _)).2)=0
  rw[hna.1,vvs,List.nil_append,hna.2];rfl
 have hps:(vxz.push (encs [(⟨3,4,encP 0 4⟩:Fr),⟨3,1,(encR 3 uq2).1⟩])).st=some uq2:=by
  show(uxm none (newF [] _)).1=_
  rw[hna.1,vvs]
 rw[uqv,hpl,hpc] at HPu
 generalize vxz.push (encs [(⟨3,4,encP 0 4⟩:Fr),⟨3,1,(encR 3 uq2).1⟩])=x5 at *
 generalize bstr (encs [(⟨3,4,encP 0 4⟩:Fr),⟨3,1,(encR 3 uq2).1⟩])=outb at *
 clear hna hel hpl hpc M4 hgf
 go_wp2_with fail
 refine HPu.out.mono ?_
 rintro e w5 ⟨rfl,v5,R5,M5,T5,hR5⟩
 have hB5:=hB4.trans (T5.below (B:=w.heap.size) (fun k hk=>by rcases hk with rfl | rfl;exact hf0;exact hfd0) hB4.size)
 have hpt:=M5.s
 rw[hps] at hpt
 obtain⟨b,p1,p2,p3,c1,c2,c3,rfl,hbb,_,hmS,_,_,_⟩:=hpt
 have F:=(uxo _).1 ujn
 have HSt:=zrj (vzr f fd' b uq2 p1 p2 p3 c1 c2 c3 w5 M5.b hbb hmS (by have:=F.nj;omega) (by have:=F.nn;omega) (by have:=F.nl;omega))
 clear HPu T5 hR5 M5 hbb hmS hps F
 go_wp2_with fail
 refine HSt.out.mono ?_
 rintro e w6 ⟨q1,q2,q3,d1,d2,d3,rfl,hO,hb6⟩
 have hB6:=bthen hB5 hb6
 have hb7:=zsa w6 (.cells (stv uq2 q1 q2 q3 d1 d2 d3) 26)
 have bS:=Blk.new w6 26 (stv uq2 q1 q2 q3 d1 d2 d3)
 have hM7:=(hO.below hb7).m
 have hB7:=bthen hB6 hb7
 clear hO hb6 hb7 HSt
 go_upto_region 9 with(first | (refine uqf rfl _ _ _ rfl rfl 26 _ (stv uq2 q1 q2 q3 d1 d2 d3) rfl uqg rfl (ux7 _ _ _ _ _ _ _ _ _ _) ?_))
 generalize w6.alloc _=w7 at *
 generalize w6.heap.size=g6 at *
 have hM8:=hM7.tchN (HTch.of_below (O:=fun _=>False) (zri w7.heap.size w7).drew) (fun _ _ _ h=>h) (fun _ _ _ h=>h) (fun _ _ _ h=>h)
 have hB8:=hB7.drew
 have bS8:=bS.drew
 refine wp_region_held_drew (S:=fun W=>Blk W g6 26 (stv uq2 q1 q2 q3 d1 d2 d3)) (by kernel_rfl) bS8 (fun hHeld=>?_)
 generalize w7.drew=w8 at *
 clear hM7 hB7 bS
 refine tq 0 ?_
 refine tq 1 ?_
 refine tq 2 ?_
 refine tq 3 ?_
 refine tq 4 ?_
 refine tq 5 ?_
 refine tq 6 ?_
 refine tq 7 ?_
 refine tq 8 ?_
 refine tq 9 ?_
 refine tq 10 ?_
 refine tr 11 rfl (fun K hK=>?_)
 go_simp
 refine(vj2 w8).mono ?_
 rintro e w9 ⟨bj,bn,bl,rfl,x1,x2,x3,hb9,hlt⟩
 have bS9:=bS8.bl hb9
 have hM9:=hM8.tchN (HTch.of_below (O:=fun _=>False) hb9) (fun _ _ _ h=>h) (fun _ _ _ h=>h) (fun _ _ _ h=>h)
 have hB9:=bthen hB8 hb9
 have hm:StM w9 w9.heap.size (some ⟨bj,0,none⟩) (some ⟨bn,0,none⟩) (some ⟨bl,0,none⟩) uq2:=⟨.of_blk (by decide) x1 rfl,.of_blk (by decide) x2 rfl,.of_blk (by decide) x3 rfl⟩
 refine hK.out _ _ bS9 (fun hHeld=>?_)
 clear hK K x1 x2 x3 bS8 hM8 hB8
 (try simp only[Act.put,ma,mb,mc,md,me,mf])
 refine tr 12 rfl (fun K hK=>?_)
 go_simp
 have HR:=same_any uq2 uq2 q1 q2 q3 (some ⟨bj,0,none⟩) (some ⟨bn,0,none⟩) (some ⟨bl,0,none⟩) d1 d2 d3 2 1 1 w9 hM9 hm vxn vxn
 rw[decide_eq_true rfl] at HR
 refine HR.mono ?_
 rintro e w10 ⟨rfl,hb10⟩
 have hB10:=bthen hB9 hb10
 refine hK.out _ _ (bS9.bl hb10) (fun hHeld=>?_)
 clear hK K HR
 (try simp only[Act.put,ma,mb,mc,md,me,mf])
 refine tq 13 ?_
 refine tq 14 ?_
 refine wpAnyH_done (by kernel_rfl) ?_ _
 go_wp2_with fail
 go_ret
 exact⟨rfl,hB10⟩
end Go.Proofs.YtnnfgchhkekkeaaGreatDoor
