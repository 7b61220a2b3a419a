/- Lemmas.
-/
import Derived.Test.YtknmnhleicakhaaGreatDoorPtPutA
set_option linter.all false
set_option maxHeartbeats 16000000
set_option maxRecDepth 100000
namespace Go.Proofs.YtknmnhleicakhaaGreatDoor
open Go.Proofs.Tryz
theorem oPutJs1 {p:Prop} (h:p:=by first | omega | (simp only[Z1,Z12] at *;omega)):p:=h
theorem sPutJs1 {p:Prop} (h:p:=by
 have bx0:=Blk.new w Z1 (Z2 x)
 have hb0:=zsa w (.cells (Z2 x) Z1)
 have hO0:=hO.below hb0
 have HX:=zrj (fun W=>Z3 x W)
 have HS:=zrj hs
 clear hO hs
 go_enter Z4,Z5
 go_upto_region 1 with fail
 generalize w.alloc _=w0 at *
 go_wp2_with(refine uqa rfl _ _ rfl w.heap.size rfl _ _ bx0 _ Z6 rfl Z7 ?_)
 refine(HX.out _).mono ?_
 rintro e w1 ⟨rfl,rfl⟩
 have hb1:=hb0.alloc hb0.size (.cells (Z2 x) Z1)
 have bx1:=bx0.alloc (.cells (Z2 x) Z1)
 have hO1:=hO0.below ((zri _ w0).alloc (zra _) (.cells (Z2 x) Z1))
 clear hb0 bx0 hO0
 generalize w0.alloc _=w1 at *
 go_wp2_with fail
 refine(Z8 (Z9 x) p c l w1 hO1.elts HS.out (by exact oPutJs1)).mono ?_
 rintro e w2 ⟨rfl,hb2⟩
 have hB2:=bthen hb1 hb2
 have bx2:=bx1.bl hb2
 have hO2:=hO1.below hb2
 clear hb1 bx1 hO1 hb2
 cases hh:hasL Z9 l (Z9 x)
 ·have hp:putL Z9 l x=l.take (posL Z9 l (Z9 x))++x::l.drop (posL Z9 l (Z9 x)):=by unfold putL;rw[hh,if_neg (by simp)]
  have hpl:(putL Z9 l x).length=l.length+1:=by rw[hp,zrb,List.length_cons,List.length_take,List.length_drop];have:=vwf (key:=Z9) l (Z9 x);exact oPutJs1
  have hk:=vwf (key:=Z9) l (Z9 x)
  generalize posL Z9 l (Z9 x)=k at *
  have hb3:=zsa w2 (.cells (Z2 x) Z1)
  have hv3:=Blk.new w2 Z1 (Z2 x)
  have HI:=zrj (Z10 l k x w2.heap.size base p c (w2.alloc (.cells (Z2 x) Z1)) (hO2.below hb3) hv3 (zrc hbw (zrc hB2.size hb3.size)) hl hk (fun g hg=>by
   have:=hO2.lt_ (g:=g) (by rw[hg];rfl)
   exact oPutJs1))
  have hB3:=bthen hB2 hb3
  rw[<- hp] at HI
  clear hO2 hb3 hv3 hp hB2
  go_wp2_with(refine uqa rfl _ _ rfl w.heap.size rfl _ _ bx2 _ Z6 rfl Z7 ?_)
  refine HI.out.mono ?_
  rintro e w4 ⟨p',c',rfl,hO4,hg4⟩
  go_wp2_with fail
  go_ret
  exact⟨p',c',by rw[hpl];rfl,hO4,uk5 hB3 hg4⟩
 ·obtain⟨y,hy,hye⟩:=vqa HS.out hh
  obtain⟨hk,hyk⟩:=List.getElem?_eq_some_iff.1 hy
  have hp:putL Z9 l x=l.set (posL Z9 l (Z9 x)) x:=by unfold putL;rw[hh,if_pos rfl]
  have hpl:(putL Z9 l x).length=l.length:=by rw[hp,List.length_set]
  generalize posL Z9 l (Z9 x)=k at *
  have hset:l.set k x=l.take k++x::l.drop (k+1):=by rw[List.set_eq_take_append_cons_drop,if_pos hk]
  have hA:l=l.take k++y::l.drop (k+1):=by rw[<- hyk,<- List.drop_eq_getElem_cons hk,List.take_append_drop]
  have hne:l.map Z11≠[]:=by intro h;have:=congrArg List.length h;simp at this;subst this;simp at hk
  obtain⟨g,rest,rfl,hbg,hg,hlen,hlc,hcm⟩:=hO2.at_ hne
  have hla:(l.take k).length=k:=by rw[List.length_take];exact oPutJs1
  have hg1:w2.heap[g]?=some (.cells (((l.take k).map Z11).flatten++Z11 y++(((l.drop (k+1)).map Z11).flatten++rest)).toArray Z1 (0,0)):=by
   rw[hg];conv=>lhs;rw[hA]
   simp
  have ha:(((l.take k).map Z11).flatten).length=k*Z12:=by rw[uxf (Z13 _),zre,hla]
  have hg2:=uxt (cs':=(((l.take k).map Z11).flatten++Z11 x++(((l.drop (k+1)).map Z11).flatten++rest)).toArray) hg1
  have HO:OwnR (w2.setRow g (((l.take k).map Z11).flatten++Z11 x++(((l.drop (k+1)).map Z11).flatten++rest)).toArray) base Z1 Z12 (some ⟨g,0,none⟩) c ((putL Z9 l x).map Z11):=by
   refine OwnR.of_ (rest:=rest) (Z13 _) hbg ?_ ?_ (by rw[zre,hpl];simpa using hlc) hcm
   ·rw[hg2,hp,hset];simp
   ·have h3:=hlen
    rw[zrb,uxf (Z13 _),zre] at h3 ⊢
    rw[hpl];exact h3
  have HG:=zrj (GrB.row (g:=g) ⟨rfl,rfl,rfl,zra _,fun _ _ _=>rfl⟩ (((l.take k).map Z11).flatten++Z11 x++(((l.drop (k+1)).map Z11).flatten++rest)).toArray:GrB w2 g _)
  have HOO:=zrj HO
  obtain⟨CS,hCS⟩:∃CS:Array Value,(((l.take k).map Z11).flatten++Z11 x++(((l.drop (k+1)).map Z11).flatten++rest)).toArray=CS:=⟨_,rfl⟩
  rw[hCS] at HOO HG
  have HCS:=zrj hCS
  have HG1:=zrj hg1
  have HA:=zrj ha
  have x0:(0:Int)<=(k:Int):=by exact oPutJs1
  have x1:(k:Int)<(l.length:Int):=by exact oPutJs1
  clear hO2 hA hne hla hg hg2 HO hset hy hyk hlen hlc hCS hg1 ha
  go_wp2_with(first | (refine uqa rfl _ _ rfl w.heap.size rfl _ _ bx2 _ Z6 rfl Z7 ?_) | (refine uzf rfl _ _ _ rfl (k*Z12) rfl (vs:=Z11 x) rfl HG1.out HA.out.symm rfl Z7 (by intro u hu;simp[Z11] at hu;rcases hu with rfl | rfl | rfl | rfl | rfl <;> rfl) CS HCS.out ?_))
  go_ret
  exact⟨some ⟨g,0,none⟩,c,by rw[hpl];rfl,HOO.out,uk5 hB2 HG.out⟩):p:=h
@[simp] abbrev cPutJs0J:Nat:=38
@[simp] abbrev cPutJs0N:Nat:=40
@[simp] abbrev cPutJs0L:Nat:=42
@[simp] abbrev cPutJs1J:Nat:=5
@[simp] abbrev cPutJs1N:Nat:=3
@[simp] abbrev cPutJs1L:Nat:=3
section
open Go.RowKit
open YtknmnhleicakhaaGreatDoor renaming cPutJs0J -> Z1, rwJ -> Z2, uyb -> Z3, uqo -> Z7, uyf -> Z8, JobD.name -> Z9, wvx -> Z10, rowJ -> Z11, cPutJs1J -> Z12, uxy -> Z13
open Go.Proofs.Tryz renaming func108 -> Z4, ntmps108 -> Z5, underlying38 -> Z6
theorem wjy (l:List JobD) (x:JobD) (base:Nat) (p:Zoa) (c:Nat) (w:World) (hO:OwnR w base 38 5 p c (l.map rowJ)) (hbw:base<=w.heap.size) (hs:uqy JobD.name l) (hl:l.length<=1000) :
  Calls prog 108 #[.slice p l.length c,.agg (rwJ x),.func (.func 91) #[] #[]] w fun e w' =>
   ∃p' c',e=.returned (.slice p' (putL JobD.name l x).length c')/\OwnR w' base 38 5 p' c' ((putL JobD.name l x).map rowJ)/\w.grownBy w' (Value.slice p l.length c).ownBlock:=sPutJs1
end
section
open Go.RowKit
open YtknmnhleicakhaaGreatDoor renaming cPutJs0N -> Z1, rwN -> Z2, uyd -> Z3, uqk -> Z7, uyh -> Z8, NodeD.name -> Z9, wv1 -> Z10, rowN -> Z11, cPutJs1N -> Z12, uxz -> Z13
open Go.Proofs.Tryz renaming func109 -> Z4, ntmps109 -> Z5, underlying40 -> Z6
theorem wj1 (l:List NodeD) (x:NodeD) (base:Nat) (p:Zoa) (c:Nat) (w:World) (hO:OwnR w base 40 3 p c (l.map rowN)) (hbw:base<=w.heap.size) (hs:uqy NodeD.name l) (hl:l.length<=1000) :
  Calls prog 109 #[.slice p l.length c,.agg (rwN x),.func (.func 93) #[] #[]] w fun e w' =>
   ∃p' c',e=.returned (.slice p' (putL NodeD.name l x).length c')/\OwnR w' base 40 3 p' c' ((putL NodeD.name l x).map rowN)/\w.grownBy w' (Value.slice p l.length c).ownBlock:=sPutJs1
end
section
open Go.RowKit
open YtknmnhleicakhaaGreatDoor renaming cPutJs0L -> Z1, rwL -> Z2, uyc -> Z3, uqj -> Z7, uyg -> Z8, uqb.job -> Z9, wvz -> Z10, rowL -> Z11, cPutJs1L -> Z12, uxm -> Z13
open Go.Proofs.Tryz renaming func157 -> Z4, ntmps157 -> Z5, underlying42 -> Z6
theorem wjz (l:List uqb) (x:uqb) (base:Nat) (p:Zoa) (c:Nat) (w:World) (hO:OwnR w base 42 3 p c (l.map rowL)) (hbw:base<=w.heap.size) (hs:uqy uqb.job l) (hl:l.length<=1000) :
  Calls prog 157 #[.slice p l.length c,.agg (rwL x),.func (.func 95) #[] #[]] w fun e w' =>
   ∃p' c',e=.returned (.slice p' (putL uqb.job l x).length c')/\OwnR w' base 42 3 p' c' ((putL uqb.job l x).map rowL)/\w.grownBy w' (Value.slice p l.length c).ownBlock:=sPutJs1
end
theorem sTakJ1 {p:Prop} (h:p:=by
 have HP:=zrj (Z1 s p c l w hO.elts hs (by omega))
 have HS:=zrj hs
 clear hs
 go_enter Z2,Z3
 go_wp2_with fail
 refine HP.out.mono ?_
 rintro e w2 ⟨rfl,hb2⟩
 have hO2:=hO.below hb2
 clear hO HP
 cases hh:hasL Z4 l s
 ·have hp:takeL Z4 l s=l:=by unfold takeL;rw[hh,if_neg (by simp)]
  go_wp2_with fail
  go_ret2
  exact⟨p,c,by rw[hp,hh];rfl,by rw[hp];exact hO2,uzo _ hb2⟩
 ·obtain⟨y,hy,hye⟩:=vqa HS.out hh
  obtain⟨hk,hyk⟩:=List.getElem?_eq_some_iff.1 hy
  have hp:takeL Z4 l s=l.eraseIdx (posL Z4 l s):=by unfold takeL;rw[hh,if_pos rfl]
  generalize posL Z4 l s=k at *
  have HD:=zrj (Z5 l k base p c w2 hO2 hk)
  rw[<- hp] at HD
  clear hO2 hy hyk hye
  go_wp2_with fail
  refine HD.out.mono ?_
  rintro e w3 ⟨g,rfl,hbg,rfl,hO3,hg3⟩
  go_wp2_with fail
  go_ret2
  exact⟨some ⟨g,0,none⟩,c,by rw[hh,hp];rfl,hO3,uk5 hb2 hg3⟩):p:=h
section
open Go.RowKit
open YtknmnhleicakhaaGreatDoor renaming uyf -> Z1, JobD.name -> Z4, wk8 -> Z5
open Go.Proofs.Tryz renaming func110 -> Z2, ntmps110 -> Z3
theorem xyk (l:List JobD) (s:Zba) (base:Nat) (p:Zoa) (c:Nat) (w:World) (hO:OwnR w base 38 5 p c (l.map rowJ)) (hs:uqy JobD.name l) (hl:l.length<=1000) :
  Calls prog 110 #[.slice p l.length c,.string s,.func (.func 91) #[] #[]] w fun e w' =>
   ∃p' c',e=.returned (.tuple #[.slice p' (takeL JobD.name l s).length c',.bool (hasL JobD.name l s)])/\OwnR w' base 38 5 p' c' ((takeL JobD.name l s).map rowJ)/\w.grownBy w' (Value.slice p l.length c).ownBlock:=sTakJ1
end
section
open Go.RowKit
open YtknmnhleicakhaaGreatDoor renaming uyh -> Z1, NodeD.name -> Z4, wva -> Z5
open Go.Proofs.Tryz renaming func113 -> Z2, ntmps113 -> Z3
theorem xym (l:List NodeD) (s:Zba) (base:Nat) (p:Zoa) (c:Nat) (w:World) (hO:OwnR w base 40 3 p c (l.map rowN)) (hs:uqy NodeD.name l) (hl:l.length<=1000) :
  Calls prog 113 #[.slice p l.length c,.string s,.func (.func 93) #[] #[]] w fun e w' =>
   ∃p' c',e=.returned (.tuple #[.slice p' (takeL NodeD.name l s).length c',.bool (hasL NodeD.name l s)])/\OwnR w' base 40 3 p' c' ((takeL NodeD.name l s).map rowN)/\w.grownBy w' (Value.slice p l.length c).ownBlock:=sTakJ1
end
section
open Go.RowKit
open YtknmnhleicakhaaGreatDoor renaming uyg -> Z1, uqb.job -> Z4, wk9 -> Z5
open Go.Proofs.Tryz renaming func116 -> Z2, ntmps116 -> Z3
theorem xyl (l:List uqb) (s:Zba) (base:Nat) (p:Zoa) (c:Nat) (w:World) (hO:OwnR w base 42 3 p c (l.map rowL)) (hs:uqy uqb.job l) (hl:l.length<=1000) :
  Calls prog 116 #[.slice p l.length c,.string s,.func (.func 95) #[] #[]] w fun e w' =>
   ∃p' c',e=.returned (.tuple #[.slice p' (takeL uqb.job l s).length c',.bool (hasL uqb.job l s)])/\OwnR w' base 42 3 p' c' ((takeL uqb.job l s).map rowL)/\w.grownBy w' (Value.slice p l.length c).ownBlock:=sTakJ1
end
theorem sPuoJ1 {p:Prop} (h:p:=by
 obtain⟨hu,hz0,hz1,hz2,hz3⟩:=info_parts Z1
 obtain⟨v3,w3,hr,hO3,hg3⟩:=run_append_arg_grows (P:=prog) w Z2 Z2 Z3 hu _ Z4 Z5 Z6 hz0 hz1 hz2 hz3 rfl (by decide) a 0 0 [] rfl (by simp) ⟨gv,0,none⟩ 1 1 (Z7 x) rfl (fun j u hj=>by rw[Addr.add_lit,Nat.zero_add,hv.cell];simpa[Z7] using hj) (by decide) (by unfold maxLen;(first | omega | (simp only[Z2,Z3,Z4,Z5] at *;omega))) (by(first | omega | (simp only[Z2,Z3,Z4,Z5] at *;omega)))
 obtain⟨p3,c3,rfl⟩:=uzz hO3
 have hO4:OwnR w3 w.heap.size Z3 Z4 p3 c3 [Z7 x]:=⟨fun r hr=>by simp at hr;subst hr;rfl,by simpa using hO3⟩
 have HR:=zrj hr
 clear hr hO3
 go_enter Z8,Z9
 go_wp2_with(at_builtin;refine Lib.wpList_append_run _ rfl _ _ _ _ rfl _ _ rfl rfl _ _ HR.out ?_)
 go_ret
 exact⟨p3,c3,rfl,hO4,⟨hg3.os,hg3.tape,hg3.output,hg3.size,fun k hk=>hg3.block k hk (by simp)⟩⟩):p:=h
theorem sPuoJ2 {p:Prop} (h:p:=by
 rcases hO.toR0 with⟨h0,h1⟩ | ⟨hR,hc0⟩
 ·have hl0:l=[]:=by simpa using h0
  subst hl0 h1
  cases p with
  | none =>
   refine(Z10 [] x base none 0 w ⟨fun r hr=>by simp at hr,World.ownsRow_nil _ _ _ _⟩ hbw hs hl).mono ?_
   rintro e w' ⟨p',c',rfl,hO',hg⟩
   exact⟨p',c',rfl,Own.of hO',⟨none,hg,fun g e=>by cases e⟩,fun k t cs hb _=>(hg.block k hb.lt (by simp[Value.ownBlock])).trans hb⟩
  | some a =>
   have hp:putL Z11 [] x=[x]:=rfl
   rw[hp]
   have bx0:=Blk.new w Z3 (Z12 x)
   have hb0:=zsa w (.cells (Z12 x) Z3)
   have HX:=zrj (fun W=>Z13 x W)
   have HPL:=zrj (fun W=>Z14 (Z11 x) (some a) 0 [] W Elts.nil_ .nil (by simp))
   clear hO hs
   go_enter Z15,Z16
   go_upto_region 1 with fail
   generalize w.alloc _=w0 at *
   go_wp2_with(refine uqa rfl _ _ rfl w.heap.size rfl _ _ bx0 _ Z17 rfl Z18 ?_)
   refine(HX.out _).mono ?_
   rintro e w1 ⟨rfl,rfl⟩
   have hb1:=hb0.alloc hb0.size (.cells (Z12 x) Z3)
   have bx1:=bx0.alloc (.cells (Z12 x) Z3)
   clear hb0 bx0
   generalize w0.alloc _=w1 at *
   go_wp2_with fail
   refine(HPL.out w1).mono ?_
   rintro e w2 ⟨rfl,hb2⟩
   have hB2:=bthen hb1 hb2
   have bx2:=bx1.bl hb2
   have hq:posL Z11 ([]:List Z19) (Z11 x)=0:=rfl
   have hh:hasL Z11 ([]:List Z19) (Z11 x)=false:=rfl
   rw[hq,hh]
   have hb3:=zsa w2 (.cells (Z12 x) Z3)
   have HI:=zrj (Z20 x w2.heap.size a (w2.alloc (.cells (Z12 x) Z3)) (Blk.new w2 Z3 (Z12 x)))
   have hB3:=bthen hB2 hb3
   clear hb1 bx1 hb2 hb3 hB2 hq hh
   go_wp2_with(refine uqa rfl _ _ rfl w.heap.size rfl _ _ bx2 _ Z17 rfl Z18 ?_)
   refine HI.out.mono ?_
   rintro e w4 ⟨p',c',rfl,hO4,hb4⟩
   go_wp2_with fail
   go_ret
   exact⟨p',c',rfl,(Own.of hO4).less (zrc hbw hB3.size),Tch.new (bthen hB3 hb4),fun k t cs hb _=>hb.below (bthen hB3 hb4) hb.lt⟩
 ·refine(Z10 l x base p c w hR hbw hs hl).mono ?_
  rintro e w' ⟨p',c',rfl,hO',hg⟩
  exact⟨p',c',rfl,Own.of hO',Tch.of_own hR (by simpa using hg),fun k t cs hb hf=>hR.far hc0 (by simpa using hg) hb hf⟩):p:=h
theorem sPuoJ3 {p:Prop} (h:p:=by
 rcases hO.toR with⟨h0,h1⟩ | hR
 ·have hl0:l=[]:=by simpa using h0
  subst hl0 h1
  have HP:=zrj (Z14 s p 0 [] w Elts.nil_ .nil (by simp))
  have hh:hasL Z11 ([]:List Z19) s=false:=rfl
  have ht:takeL Z11 ([]:List Z19) s=[]:=rfl
  clear hO hs
  go_enter Z21,Z22
  go_wp2_with fail
  refine HP.out.mono ?_
  rintro e w2 ⟨rfl,hb2⟩
  rw[hh]
  go_wp2_with fail
  go_ret2
  exact⟨p,0,by rw[ht];rfl,by rw[ht];exact Own.nil_ _ _ _ _ _,Tch.new hb2⟩
 ·refine(Z23 l s base p c w hR hs hl).mono ?_
  rintro e w' ⟨p',c',rfl,hO',hg⟩
  exact⟨p',c',rfl,Own.of hO',Tch.of_own hR (by simpa using hg)⟩):p:=h
@[simp] abbrev cPuoJ0J:Nat:=22
@[simp] abbrev cPuoJ0N:Nat:=23
@[simp] abbrev cPuoJ0L:Nat:=24
@[simp] abbrev cPuoJ1J:Nat:=38
@[simp] abbrev cPuoJ1N:Nat:=40
@[simp] abbrev cPuoJ1L:Nat:=42
@[simp] abbrev cPuoJ2J:Nat:=5
@[simp] abbrev cPuoJ2N:Nat:=3
@[simp] abbrev cPuoJ2L:Nat:=3
@[simp] abbrev cPuoJ3J:Nat:=56
@[simp] abbrev cPuoJ3N:Nat:=40
@[simp] abbrev cPuoJ3L:Nat:=40
section
open Go.RowKit
open YtknmnhleicakhaaGreatDoor renaming uve -> Z1, cPuoJ0J -> Z2, cPuoJ1J -> Z3, cPuoJ2J -> Z4, cPuoJ3J -> Z5, rowJ -> Z7
open Go.Proofs.Tryz renaming underlying22 -> Z6, func150 -> Z8, ntmps150 -> Z9
theorem wjj (x:JobD) (gv:Nat) (a:Addr) (w:World) (hv:Blk w gv 38 (rwJ x)) :
  Calls prog 150 #[.slice (some a) 0 0,.int .i64 0,.slice (some ⟨gv,0,none⟩) 1 1] w fun e w'=>∃p' c',e=.returned (.slice p' 1 c')/\OwnR w' w.heap.size 38 5 p' c' [rowJ x]/\Below w.heap.size w w':=sPuoJ1
open YtknmnhleicakhaaGreatDoor renaming wjy -> Z10, JobD.name -> Z11, rwJ -> Z12, uyb -> Z13, uyf -> Z14, uqo -> Z18, JobD -> Z19, wjj -> Z20
open Go.Proofs.Tryz renaming func108 -> Z15, ntmps108 -> Z16, underlying38 -> Z17
theorem xwg (l:List JobD) (x:JobD) (base:Nat) (p:Zoa) (c:Nat) (w:World) (hO:Own w base 38 5 p c (l.map rowJ)) (hbw:base<=w.heap.size) (hs:uqy JobD.name l) (hl:l.length<=1000) :
  Calls prog 108 #[.slice p l.length c,.agg (rwJ x),.func (.func 91) #[] #[]] w fun e w' =>
   ∃p' c',e=.returned (.slice p' (putL JobD.name l x).length c')/\Own w' base 38 5 p' c' ((putL JobD.name l x).map rowJ)/\Tch base 38 w w'/\∀k t cs,Blk w k t cs->(c≠0->∀a,p=some a->a.block≠k)->Blk w' k t cs:=sPuoJ2
open YtknmnhleicakhaaGreatDoor renaming xyk -> Z23
open Go.Proofs.Tryz renaming func110 -> Z21, ntmps110 -> Z22
theorem xjc (l:List JobD) (s:Zba) (base:Nat) (p:Zoa) (c:Nat) (w:World) (hO:Own w base 38 5 p c (l.map rowJ)) (hs:uqy JobD.name l) (hl:l.length<=1000) :
  Calls prog 110 #[.slice p l.length c,.string s,.func (.func 91) #[] #[]] w fun e w' =>
   ∃p' c',e=.returned (.tuple #[.slice p' (takeL JobD.name l s).length c',.bool (hasL JobD.name l s)])/\Own w' base 38 5 p' c' ((takeL JobD.name l s).map rowJ)/\Tch base 38 w w':=sPuoJ3
end
section
open Go.RowKit
open YtknmnhleicakhaaGreatDoor renaming uj7 -> Z1, cPuoJ0N -> Z2, cPuoJ1N -> Z3, cPuoJ2N -> Z4, cPuoJ3N -> Z5, rowN -> Z7
open Go.Proofs.Tryz renaming underlying23 -> Z6, func152 -> Z8, ntmps152 -> Z9
theorem wjp (x:NodeD) (gv:Nat) (a:Addr) (w:World) (hv:Blk w gv 40 (rwN x)) :
  Calls prog 152 #[.slice (some a) 0 0,.int .i64 0,.slice (some ⟨gv,0,none⟩) 1 1] w fun e w'=>∃p' c',e=.returned (.slice p' 1 c')/\OwnR w' w.heap.size 40 3 p' c' [rowN x]/\Below w.heap.size w w':=sPuoJ1
open YtknmnhleicakhaaGreatDoor renaming wj1 -> Z10, NodeD.name -> Z11, rwN -> Z12, uyd -> Z13, uyh -> Z14, uqk -> Z18, NodeD -> Z19, wjp -> Z20
open Go.Proofs.Tryz renaming func109 -> Z15, ntmps109 -> Z16, underlying40 -> Z17
theorem xwi (l:List NodeD) (x:NodeD) (base:Nat) (p:Zoa) (c:Nat) (w:World) (hO:Own w base 40 3 p c (l.map rowN)) (hbw:base<=w.heap.size) (hs:uqy NodeD.name l) (hl:l.length<=1000) :
  Calls prog 109 #[.slice p l.length c,.agg (rwN x),.func (.func 93) #[] #[]] w fun e w' =>
   ∃p' c',e=.returned (.slice p' (putL NodeD.name l x).length c')/\Own w' base 40 3 p' c' ((putL NodeD.name l x).map rowN)/\Tch base 40 w w'/\∀k t cs,Blk w k t cs->(c≠0->∀a,p=some a->a.block≠k)->Blk w' k t cs:=sPuoJ2
open YtknmnhleicakhaaGreatDoor renaming xym -> Z23
open Go.Proofs.Tryz renaming func113 -> Z21, ntmps113 -> Z22
theorem xje (l:List NodeD) (s:Zba) (base:Nat) (p:Zoa) (c:Nat) (w:World) (hO:Own w base 40 3 p c (l.map rowN)) (hs:uqy NodeD.name l) (hl:l.length<=1000) :
  Calls prog 113 #[.slice p l.length c,.string s,.func (.func 93) #[] #[]] w fun e w' =>
   ∃p' c',e=.returned (.tuple #[.slice p' (takeL NodeD.name l s).length c',.bool (hasL NodeD.name l s)])/\Own w' base 40 3 p' c' ((takeL NodeD.name l s).map rowN)/\Tch base 40 w w':=sPuoJ3
end
section
open Go.RowKit
open YtknmnhleicakhaaGreatDoor renaming ujl -> Z1, cPuoJ0L -> Z2, cPuoJ1L -> Z3, cPuoJ2L -> Z4, cPuoJ3L -> Z5, rowL -> Z7
open Go.Proofs.Tryz renaming underlying24 -> Z6, func195 -> Z8, ntmps195 -> Z9
theorem wjm (x:uqb) (gv:Nat) (a:Addr) (w:World) (hv:Blk w gv 42 (rwL x)) :
  Calls prog 195 #[.slice (some a) 0 0,.int .i64 0,.slice (some ⟨gv,0,none⟩) 1 1] w fun e w'=>∃p' c',e=.returned (.slice p' 1 c')/\OwnR w' w.heap.size 42 3 p' c' [rowL x]/\Below w.heap.size w w':=sPuoJ1
open YtknmnhleicakhaaGreatDoor renaming wjz -> Z10, uqb.job -> Z11, rwL -> Z12, uyc -> Z13, uyg -> Z14, uqj -> Z18, uqb -> Z19, wjm -> Z20
open Go.Proofs.Tryz renaming func157 -> Z15, ntmps157 -> Z16, underlying42 -> Z17
theorem xwh (l:List uqb) (x:uqb) (base:Nat) (p:Zoa) (c:Nat) (w:World) (hO:Own w base 42 3 p c (l.map rowL)) (hbw:base<=w.heap.size) (hs:uqy uqb.job l) (hl:l.length<=1000) :
  Calls prog 157 #[.slice p l.length c,.agg (rwL x),.func (.func 95) #[] #[]] w fun e w' =>
   ∃p' c',e=.returned (.slice p' (putL uqb.job l x).length c')/\Own w' base 42 3 p' c' ((putL uqb.job l x).map rowL)/\Tch base 42 w w'/\∀k t cs,Blk w k t cs->(c≠0->∀a,p=some a->a.block≠k)->Blk w' k t cs:=sPuoJ2
open YtknmnhleicakhaaGreatDoor renaming xyl -> Z23
open Go.Proofs.Tryz renaming func116 -> Z21, ntmps116 -> Z22
theorem xjd (l:List uqb) (s:Zba) (base:Nat) (p:Zoa) (c:Nat) (w:World) (hO:Own w base 42 3 p c (l.map rowL)) (hs:uqy uqb.job l) (hl:l.length<=1000) :
  Calls prog 116 #[.slice p l.length c,.string s,.func (.func 95) #[] #[]] w fun e w' =>
   ∃p' c',e=.returned (.tuple #[.slice p' (takeL uqb.job l s).length c',.bool (hasL uqb.job l s)])/\Own w' base 42 3 p' c' ((takeL uqb.job l s).map rowL)/\Tch base 42 w w':=sPuoJ3
end
open Go.RowKit
structure FnOkG {α:Type} (P:Program) (w:World) (g:Nat) (K:FuncId) (caps:Array Value) (row:α->List Value) (f:α->Bool) (l:List α):Prop where
 enter:∀(args:Array Value) (W:World),(callFunc K args).run P W=.ok (.enter K args) W
 calls:∀x∈l,∀W,GrB w g W->Calls P K (#[.agg (row x).toArray]++caps) W fun e W'=>e=.returned (.bool (f x))/\Below W.heap.size W W'
theorem GrB.of_below {w W:World} (g:Nat) (h:Below w.heap.size w W):GrB w g W:=⟨h.os,h.tape,h.output,h.size,fun k hk _=>h.block k hk⟩
theorem FnOkG.fn {α:Type} {P:Program} {w:World} {g:Nat} {K:FuncId} {caps:Array Value} {row:α->List Value} {f:α->Bool} {l:List α} (h:FnOkG P w g K caps row f l):FnOk P w K caps row f l :=
 ⟨h.enter,fun x hx W hW=>h.calls x hx W (GrB.of_below g hW)⟩
theorem xqa {α:Type} {f:α->Bool}:∀{l:List α} {i:Nat},pIx f l i = -1->∀x∈l,f x=false
 | [],_,_,x,hx=>by cases hx
 | y::r,i,h,x,hx=>by
  rw[uk7] at h
  cases hy:f y
  ·rw[hy,if_neg (by simp)] at h
   rcases List.mem_cons.1 hx with rfl | hx
   ·exact hy
   ·exact xqa h x hx
  ·rw[hy,if_pos rfl] at h;omega
theorem pIx_at {α:Type} {f:α->Bool}:∀{l:List α} {i:Nat},pIx f l i ≠ -1->∃k,k<l.length/\pIx f l i=((i+k:Nat):Int)/\(∃x,l[k]?=some x/\f x=true)/\∀x∈l.take k,f x=false
 | [],_,h=>absurd rfl h
 | y::r,i,h=>by
  rw[uk7] at h ⊢
  cases hy:f y
  ·rw[hy,if_neg (by simp)] at h
   rw[if_neg (by simp)]
   obtain⟨k,h1,h2,h3,h4⟩:=pIx_at h
   refine⟨k+1,by simpa using h1,by rw[h2];congr 1;omega,by simpa using h3,fun x hx=>?_⟩
   rw[List.take_succ_cons] at hx
   rcases List.mem_cons.1 hx with rfl | hx
   ·exact hy
   ·exact h4 x hx
  ·rw[if_pos rfl]
   exact⟨0,by simp,by simp,⟨y,rfl,hy⟩,fun x hx=>by simp at hx⟩
theorem wjs {α:Type} {f:α->Bool} {l:List α} {k:Nat} {x:α} (h:l[k]?=some x):(l.take (k+1)).filter (fun x => !f x)=(l.take k).filter (fun x => !f x)++(if f x=true then[] else[x]):=by
 rw[List.take_add_one,h,Option.toList_some,List.filter_append,List.filter_cons,List.filter_nil]
 cases f x <;> rfl
def DfAt (w:World) (l:List uqb) (f:uqb->Bool) (rest:List Value) (g i j:Nat) (wr:World):Prop :=
 ∃X:List Value,wr.heap[g]?=some (.cells (((((l.take j).filter fun x => !f x).map rowL).flatten)++X++(((l.drop j).map rowL).flatten++rest)).toArray 42 (0,0)) /\
  i=((l.take j).filter fun x => !f x).length/\i<j/\j<=l.length/\X.length=(j-i)*3/\GrB w g wr
theorem wqt (K:FuncId) (caps:Array Value) (f:uqb->Bool) (l:List uqb) (base g c i0:Nat) (rest:List Value) (w:World) (hbg:base<=g) (hg:w.heap[g]?=some (.cells ((l.map rowL).flatten++rest).toArray 42 (0,0))) (hlen:((l.map rowL).flatten++rest).length=c*3) (hlc:l.length<=c) (hcm:c<=maxLen) (hl:l.length<=1000)
  (hi:i0<l.length) (hix:pIx f l 0=(i0:Int)) (hfx:∃x,l[i0]?=some x/\f x=true) (hnx:∀x∈l.take i0,f x=false) (hel:Elts w w.heap.size 3 (some ⟨g,0,none⟩) (l.map rowL)) (hf:FnOkG prog w g K caps rowL f l) :
  Calls prog 154 #[.slice (some ⟨g,0,none⟩) l.length c,.func (.func K) #[] caps] w fun e w' =>
   e=.returned (.slice (some ⟨g,0,none⟩) (l.filter fun x => !f x).length c)/\OwnR w' base 42 3 (some ⟨g,0,none⟩) c ((l.filter fun x => !f x).map rowL)/\w.grownBy w' (some g):=by
 have hgl:g<w.heap.size:=(Array.getElem?_eq_some_iff.1 hg).1
 have hIX:=uyy K caps f (some ⟨g,0,none⟩) c l w hel (by omega) hf.fn
 rw[hix] at hIX
 have HIX:=zrj hIX
 have HF:=zrj hf.calls
 have hen:=hf.enter
 have hzd:=uyp
 obtain⟨x0,hx0,hfx0⟩:=hfx
 have hk0:(l.take (i0+1)).filter (fun x => !f x)=l.take i0:=by
  rw[wjs hx0,hfx0,if_pos rfl,List.append_nil,List.filter_eq_self]
  intro x hx;rw[hnx x hx];rfl
 have hstart:∀W,Below w.heap.size w W->DfAt w l f rest g i0 (i0+1) W:=fun W hW=>by
  refine⟨rowL x0,?_,?_,by omega,by omega,by rw[show i0+1-i0=1 by omega];rfl,GrB.of_below g hW⟩
  ·rw[hW.block g hgl,hg,hk0]
   have hA:l=l.take i0++x0::l.drop (i0+1):=by
    obtain⟨h1,h2⟩:=List.getElem?_eq_some_iff.1 hx0
    rw[<- h2,<- List.drop_eq_getElem_cons h1,List.take_append_drop]
   conv=>lhs;rw[hA]
   simp
  ·rw[hk0,List.length_take];omega
 have HST:=zrj hstart
 have hne1:((i0:Int) == -1)=false:=by rw[zrf];omega
 have hw1:IntKind.i64.wrap ((i0:Int)+1)=(i0:Int)+1:=IntWalk.i64_in _ (by omega)
 clear hIX hf hix hx0 hfx0 hk0 hnx hstart hel hg
 go_enter func154,ntmps154
 go_wp2_with fail
 refine HIX.out.mono ?_
 rintro e w1 ⟨rfl,hb1⟩
 have hD1:=zrj (HST.out w1 hb1)
 clear hb1 HST
 go_wp2_with fail
 go_loopw [5,6] (fun vi vj wr=>∃i j:Nat,vi=.int .i64 i/\vj=.int .i64 j/\Hid (DfAt w l f rest g i j wr)) (fun _ vj _=>l.length-(intOf vj).toNat)
 case atStart=>exact⟨i0,i0+1,rfl,by go_num,hD1⟩
 case round =>
  clear hD1 hne1 hw1 hi
  obtain⟨i,j,rfl,rfl,HD⟩:=hrel
  obtain⟨X,hgr,hieq,hij,hjl,hX,hG⟩:=HD.out
  clear HD
  have hKf:((((l.take j).filter fun x => !f x).map rowL).flatten).length=i*3:=by rw[uxf (uxm _),zre,<- hieq]
  by_cases hlt:j<l.length
  ·have hx:l[j]?=some l[j]:=zrd hlt
   have hcall:=HF.out l[j] (List.getElem_mem hlt)
   have hdr:l.drop j=l[j]::l.drop (j+1):=List.drop_eq_getElem_cons hlt
   have hks:=wjs (f:=f) hx
   generalize l[j]=x at *
   have hgr1:wr.heap[g]?=some (.cells ((((((l.take j).filter fun x => !f x).map rowL).flatten)++X)++rowL x++(((l.drop (j+1)).map rowL).flatten++rest)).toArray 42 (0,0)):=by rw[hgr,hdr];simp
   have hsum:i*3+(j-i)*3=j*3:=by omega
   have hat:At wr ((⟨g,0,none⟩:Addr).add (j*3)) (rowL x):=by
    rw[Addr.add_lit,Nat.zero_add]
    exact fun n u hu=>uz5 hgr1 (j*3) (by rw[zrb,hKf,hX];omega) n u hu
   have hat2:At wr ⟨g,j*3,none⟩ (rowL x):=by rwa [Addr.add_lit,Nat.zero_add] at hat
   have bx:=Blk.new wr 42 (rwL x)
   have hb5:=zsa wr (.cells (rwL x) 42)
   have hG5:=hG.more hb5
   have hC:=zrj (hcall _ hG5)
   have y0:(0:Int)<=(j:Int):=by omega
   have y1:(j:Int)<(l.length:Int):=by omega
   have hgw:g<wr.heap.size:=(Array.getElem?_eq_some_iff.1 hgr).1
   have hgr5:(wr.alloc (.cells (rwL x) 42)).heap[g]?=_:=(hb5.block g hgw).trans hgr1
   clear hx hcall hgr hgr1 hG hat hb5
   cases hfx:f x
   ·rw[hfx] at hC hks
    rw[if_neg (by simp)] at hks
    obtain⟨h1,X2,hXX,hh1⟩:=ujp X 3 (by omega)
    have HKS:=zrj hks
    have HSTEP:Hid (∀W:World,W.heap[g]?=some (.cells (((((l.take j).filter fun x => !f x).map rowL).flatten)++rowL x++(X2++(rowL x++(((l.drop (j+1)).map rowL).flatten++rest)))).toArray 42 (0,0))->GrB w g W->DfAt w l f rest g (i+1) (j+1) W):=show ∀W:World,_ from fun W hW hGW=>by
     refine⟨X2++rowL x,?_,?_,by omega,by omega,?_,hGW⟩
     ·rw[hW,hks];simp
     ·rw[hks,zrb,<- hieq];rfl
     ·have hl1:=congrArg List.length hXX
      rw[zrb,hh1,hX] at hl1
      have hl2:(rowL x).length=3:=rfl
      rw[zrb,hl2];omega
    have hgr6:(wr.alloc (.cells (rwL x) 42)).heap[g]?=some (.cells (((((l.take j).filter fun x => !f x).map rowL).flatten)++h1++(X2++(rowL x++(((l.drop (j+1)).map rowL).flatten++rest)))).toArray 42 (0,0)):=by rw[hgr5,hXX];simp
    have y2:(0:Int)<=(i:Int):=by omega
    have y3:(i:Int)<(l.length:Int):=by omega
    have hw2:IntKind.i64.wrap ((i:Int)+1)=(i:Int)+1:=IntWalk.i64_in _ (by omega)
    have hw3:IntKind.i64.wrap ((j:Int)+1)=(j:Int)+1:=IntWalk.i64_in _ (by omega)
    generalize((((l.take j).filter fun x => !f x).map rowL).flatten)=KF at *
    generalize X2++(rowL x++(((l.drop (j+1)).map rowL).flatten++rest))=RF at *
    obtain⟨CS,hCS⟩:∃CS:Array Value,(KF++rowL x++RF).toArray=CS:=⟨_,rfl⟩
    rw[hCS] at HSTEP
    have HCS:=zrj hCS
    have HK:=zrj hKf
    have HH:=zrj hh1
    clear hks hgr5 hXX hX hsum hCS hKf hh1 hieq hdr
    go_wp2_with(first | (refine uqe rfl _ _ rfl ⟨g,j*3,none⟩ rfl (rlL x) _ hat2 underlying42 rfl uqj ?_) | (refine uqf rfl _ _ _ rfl rfl 42 _ (rwL x) rfl uqj rfl rfl ?_) | (refine uqa rfl _ _ rfl wr.heap.size rfl _ _ bx _ underlying42 rfl uqj ?_))
    refine hC.out.mono ?_
    rintro e w6 ⟨rfl,hb6⟩
    have bx6:=bx.bl hb6
    have hG6:=hG5.more hb6
    have hgr7:=(hb6.block g (Nat.lt_of_lt_of_le hgw (by simp))).trans hgr6
    have HGR:=zrj hgr7
    clear hat2 bx hb6 hG5 hgr6 hgr7 hC
    go_wp2_with(first | (refine uqa rfl _ _ rfl wr.heap.size rfl _ _ bx6 _ underlying42 rfl uqj ?_) | (refine uzf rfl _ _ _ rfl (i*3) rfl (vs:=rowL x) rfl HGR.out HK.out.symm HH.out.symm uqj (by intro u hu;simp[rowL] at hu;rcases hu with rfl | rfl | rfl | rfl | rfl <;> rfl) CS HCS.out ?_))
    go_roundw
    case rel=>exact⟨i+1,j+1,by go_num,by go_num,HSTEP.out _ (by rw[<- HCS.out];exact uxt HGR.out) (hG6.row _)⟩
    case measure=>simp[intOf];omega
   ·rw[hfx] at hC hks
    rw[if_pos rfl,List.append_nil] at hks
    have HSTEP:Hid (∀W:World,Below (wr.alloc (.cells (rwL x) 42)).heap.size (wr.alloc (.cells (rwL x) 42)) W->DfAt w l f rest g i (j+1) W):=show ∀W:World,_ from fun W hW=>by
     refine⟨X++rowL x,?_,?_,by omega,by omega,?_,hG5.more hW⟩
     ·rw[hW.block g (Nat.lt_of_lt_of_le hgw (by simp)),hgr5,hks];simp
     ·rw[hks];exact hieq
     ·have hl2:(rowL x).length=3:=rfl
      rw[zrb,hX,hl2];omega
    have hw3:IntKind.i64.wrap ((j:Int)+1)=(j:Int)+1:=IntWalk.i64_in _ (by omega)
    clear hks hgr5 hX hsum hKf hieq hdr hG5
    go_wp2_with(first | (refine uqe rfl _ _ rfl ⟨g,j*3,none⟩ rfl (rlL x) _ hat2 underlying42 rfl uqj ?_) | (refine uqf rfl _ _ _ rfl rfl 42 _ (rwL x) rfl uqj rfl rfl ?_) | (refine uqa rfl _ _ rfl wr.heap.size rfl _ _ bx _ underlying42 rfl uqj ?_))
    refine hC.out.mono ?_
    rintro e w6 ⟨rfl,hb6⟩
    have hD6:=zrj (HSTEP.out w6 hb6)
    clear hat2 bx hb6 hC HSTEP
    go_wp2_with fail
    go_roundw
    case rel=>exact⟨i,j+1,rfl,by go_num,hD6⟩
    case measure=>simp[intOf];omega
  ·obtain rfl:j=l.length:=by omega
   have hgr1:wr.heap[g]?=some (.cells ((((l.filter fun x => !f x).map rowL).flatten)++X++rest).toArray 42 (0,0)):=by rw[hgr];simp
   rw[List.take_length] at hieq hKf
   obtain⟨Z,hZ⟩:∃Z:List Value,(Builtin.zeroCells (Value.agg zwL).cells (l.length-i)).toList=Z:=⟨_,rfl⟩
   have hZl:Z.length=(l.length-i)*3:=by rw[<- hZ,Array.length_toList,size_zeroCells];rfl
   have hZ1:∀v∈Z,v.oneCell'=true:=by
    intro v hv
    rw[<- hZ] at hv
    simp[Builtin.zeroCells,Value.cells] at hv
    obtain⟨n,hn,rfl⟩:=hv
    have h3:n % 3=0\/n % 3=1\/n % 3=2:=by omega
    rcases h3 with h | h | h <;> rw[h] <;> rfl
   have hcl:=fun ty=>uvy (P:=prog) ty 24 42 (.agg zwL) underlying24 (fun W=>uyp W) (l.length-i) (c-i) (i*3) (by omega) hgr1 hKf.symm hZ (by rw[hZl,hX]) hZ1
   have hclr:=hcl 0
   have hfin:=uxt (cs':=(((l.filter fun x => !f x).map rowL).flatten++Z++rest).toArray) hgr1
   have hO:∀W:World,W.heap[g]?=some (.cells (((l.filter fun x => !f x).map rowL).flatten++Z++rest).toArray 42 (0,0))->OwnR W base 42 3 (some ⟨g,0,none⟩) c ((l.filter fun x => !f x).map rowL):=fun W hW=>by
    refine OwnR.of_ (rest:=Z++rest) (uxm _) hbg ?_ ?_ (by rw[zre,<- hieq];omega) hcm
    ·rw[hW];simp
    ·have h3:=hlen
     rw[zrb,uxf (uxm _),zre] at h3
     rw[zrb,zrb,hKf,hZl];omega
   have HO:=zrj (hO _ hfin)
   have HG:=zrj (hG.row (((l.filter fun x => !f x).map rowL).flatten++Z++rest).toArray)
   generalize(((l.filter fun x => !f x).map rowL).flatten++Z++rest).toArray=CS at *
   have y0:(0:Int)<=(i:Int):=by omega
   have y1:(i:Int)<=(l.length:Int):=by omega
   have y2:(c=i)=False:=eq_false (by omega)
   have y3:i<=l.length:=by omega
   have y4:i<=c:=by omega
   have y5:(i:Int)<=(c:Int):=by omega
   have HI:=zrj hieq
   clear hgr hgr1 hKf hX hG hZ hZl hZ1 hcl hfin hO hlen hieq
   go_wp2_with fail
   go_ret
   exact⟨by rw[<- HI.out];rfl,HO.out,HG.out⟩
theorem wzo (K:FuncId) (caps:Array Value) (f:uqb->Bool) (l:List uqb) (base:Nat) (p:Zoa) (c:Nat) (w:World) (hO:OwnR w base 42 3 p c (l.map rowL)) (hl:l.length<=1000) (hfn:FnOk prog w K caps rowL f l) (hf:∀g cur,base<=g->Blk w g 42 cur->FnOkG prog w g K caps rowL f l) :
  Calls prog 154 #[.slice p l.length c,.func (.func K) #[] caps] w fun e w' =>
   e=.returned (.slice p (l.filter fun x => !f x).length c)/\OwnR w' base 42 3 p c ((l.filter fun x => !f x).map rowL)/\w.grownBy w' (Value.slice p l.length c).ownBlock:=by
 by_cases hix:pIx f l 0 = -1
 ·have hall:=xqa hix
  have hk:(l.filter fun x => !f x)=l:=List.filter_eq_self.2 fun x hx=>by rw[hall x hx];rfl
  have hIX:=uyy K caps f p c l w hO.elts (by omega) hfn
  rw[hix] at hIX
  rw[hk]
  have HIX:=zrj hIX
  clear hIX hix hall hk hf hfn
  go_enter func154,ntmps154
  go_wp2_with fail
  refine HIX.out.mono ?_
  rintro e w1 ⟨rfl,hb1⟩
  go_wp2_with fail
  go_ret
  exact⟨rfl,hO.below hb1,uzo _ hb1⟩
 ·obtain⟨k,h1,h2,h3,h4⟩:=pIx_at hix
  have hne:l.map rowL≠[]:=by intro h;have:=congrArg List.length h;simp at this;subst this;simp at h1
  have hel:=hO.elts
  obtain⟨g,rest,rfl,hbg,hg,hlen,hlc,hcm⟩:=hO.at_ hne
  rw[zre] at hlc
  rw[Nat.zero_add] at h2
  exact wqt K caps f l base g c k rest w hbg hg hlen hlc hcm hl h1 h2 h3 h4 hel (hf g _ hbg hg)
theorem wzp (K:FuncId) (caps:Array Value) (f:uqb->Bool) (l:List uqb) (base:Nat) (p:Zoa) (c:Nat) (w:World) (hO:Own w base 42 3 p c (l.map rowL)) (hl:l.length<=1000) (hfn:FnOk prog w K caps rowL f l) (hf:∀g cur,base<=g->Blk w g 42 cur->FnOkG prog w g K caps rowL f l) :
  Calls prog 154 #[.slice p l.length c,.func (.func K) #[] caps] w fun e w' =>
   ∃p' c',e=.returned (.slice p' (l.filter fun x => !f x).length c')/\Own w' base 42 3 p' c' ((l.filter fun x => !f x).map rowL)/\Tch base 42 w w':=by
 rcases hO.toR with⟨h0,h1⟩ | hR
 ·have hl0:l=[]:=by simpa using h0
  subst hl0 h1
  have HIX:=zrj (uyy K caps f p 0 [] w Elts.nil_ (by simp) hfn)
  clear hO hf hfn
  go_enter func154,ntmps154
  go_wp2_with fail
  refine HIX.out.mono ?_
  rintro e w1 ⟨rfl,hb1⟩
  have hm:pIx f ([]:List uqb) 0 = -1:=rfl
  rw[hm]
  go_wp2_with fail
  go_ret
  exact⟨p,0,rfl,Own.nil_ _ _ _ _ _,Tch.new hb1⟩
 ·refine(wzo K caps f l base p c w hR hl hfn hf).mono ?_
  rintro e w' ⟨rfl,hO',hg'⟩
  exact⟨p,c,rfl,Own.of hO',Tch.of_own hR (by simpa using hg')⟩
theorem xkk (gq:Nat) (x:uqb) (nm:Zba) (w:World) (hq:w.cell? ⟨gq,12,none⟩=some (.string nm)) (hlt:gq<w.heap.size) :
  Calls prog 112 #[.agg (rwL x),zse gq] w fun e w'=>e=.returned (.bool (decide (x.job=nm)))/\Below w.heap.size w w':=by
 have hb0:=zsa w (.cells (rwL x) 42)
 have bx:=Blk.new w 42 (rwL x)
 have h1:(w.alloc (.cells (rwL x) 42)).cell? ⟨gq,12,none⟩=some (.string nm):=(hb0.cell (p:=⟨gq,12,none⟩) hlt).trans hq
 have h2:(w.alloc (.cells (rwL x) 42)).cell? ⟨w.heap.size,0,none⟩=some (.string x.job):=bx.cell 0
 have h3:(x.job.toList == nm.toList)=decide (x.job=nm):=by
  by_cases h:x.job=nm
  ·rw[h];simp
  ·rw[decide_eq_false h,zrf];exact fun e=>h (toList_inj e)
 clear hq
 go_enter func112,ntmps112
 go_wp2_with fail
 go_ret
 exact⟨rfl,hb0⟩
theorem xkl (gq:Nat) (x:uqb) (nm:Zba) (w:World) (hq:w.cell? ⟨gq,12,none⟩=some (.string nm)) (hlt:gq<w.heap.size) :
  Calls prog 114 #[.agg (rwL x),zse gq] w fun e w'=>e=.returned (.bool (decide (x.node=nm)))/\Below w.heap.size w w':=by
 have hb0:=zsa w (.cells (rwL x) 42)
 have bx:=Blk.new w 42 (rwL x)
 have h1:(w.alloc (.cells (rwL x) 42)).cell? ⟨gq,12,none⟩=some (.string nm):=(hb0.cell (p:=⟨gq,12,none⟩) hlt).trans hq
 have h2:(w.alloc (.cells (rwL x) 42)).cell? ⟨w.heap.size,1,none⟩=some (.string x.node):=bx.cell 1
 have h3:(x.node.toList == nm.toList)=decide (x.node=nm):=by
  by_cases h:x.node=nm
  ·rw[h];simp
  ·rw[decide_eq_false h,zrf];exact fun e=>h (toList_inj e)
 clear hq
 go_enter func114,ntmps114
 go_wp2_with fail
 go_ret
 exact⟨rfl,hb0⟩
theorem xkm (gb gw:Nat) (x:uqb) (now:Int) (w:World) (hq:w.cell? ⟨gb,0,none⟩=some (zse gw)) (hlt:gb<w.heap.size) (hq2:w.cell? ⟨gw,1,none⟩=some (.int .i64 now)) (hlt2:gw<w.heap.size) :
  Calls prog 117 #[.agg (rwL x),zse gb] w fun e w'=>e=.returned (.bool (decide (x.till<=now)))/\Below w.heap.size w w':=by
 have hb0:=zsa w (.cells (rwL x) 42)
 have bx:=Blk.new w 42 (rwL x)
 have h1:(w.alloc (.cells (rwL x) 42)).cell? ⟨gb,0,none⟩=some (zse gw):=(hb0.cell (p:=⟨gb,0,none⟩) hlt).trans hq
 have h4:(w.alloc (.cells (rwL x) 42)).cell? ⟨gw,1,none⟩=some (.int .i64 now):=(hb0.cell (p:=⟨gw,1,none⟩) hlt2).trans hq2
 have h2:(w.alloc (.cells (rwL x) 42)).cell? ⟨w.heap.size,2,none⟩=some (.int .i64 x.till):=bx.cell 2
 clear hq hq2
 go_enter func117,ntmps117
 go_upto_region 1 with fail
 generalize w.alloc _=w0 at *
 go_big_quiet (fail)
 go_wp2_with fail
 go_ret
 exact⟨rfl,⟨hb0.os,hb0.tape,hb0.output,hb0.size,fun k hk=>hb0.block k hk⟩⟩
theorem vzm (K:FuncId) (caps:Array Value) (f:uqb->Bool) (base gn gw:Nat) (q1 q2 q3:Zoa) (d1 d2 d3:Nat) (s:St) (now:Int) (w:World) (hM:WorkM w base gn gw q1 q2 q3 d1 d2 d3 s now) (hbw:base<=w.heap.size) (hl:s.leases.length<=1000)
  (hfn:FnOk prog w K caps rowL f s.leases) (hf:∀g cur,base<=g->Blk w g 42 cur->FnOkG prog w g K caps rowL f s.leases) :
  Calls prog 111 #[zse gw,.func (.func K) #[] caps] w fun e w'=>e=.returned (.tuple #[]) /\
   ∃q d,WorkM w' base gn gw q1 q2 q d1 d2 d { s with leases:=s.leases.filter fun x => !f x } now/\Below base w w'/\Kp w w'/\w.heap.size<=w'.heap.size:=by
 have HD:=zrj (wzp K caps f s.leases base q3 d3 w.drew hM.own.l hl ⟨hfn.enter,fun x hx W hW=>hfn.calls x hx W ⟨hW.os,hW.tape,hW.output,hW.size,hW.block⟩⟩ (fun g cur hg hb=>⟨hfn.enter,fun x hx W hW=>(hf g cur hg hb).calls x hx W ⟨hW.os,hW.tape,hW.output,hW.size,hW.block⟩⟩)) 
 have c0:=hM.bw.c0
 have c3:w.drew.cell? ⟨gn,3,none⟩=some (.slice q3 s.leases.length d3):=hM.bn.cell 3
 have hne:=hM.ne
 have HM:=zrj hM
 clear hM hfn hf
 go_enter func111,ntmps111
 have G0:w.drew.cell? ⟨gw,0,none⟩=some (zse gn):=c0
 refine wp_region_held_drew (S:=fun W=>W.cell? ⟨gw,0,none⟩=some (zse gn)) (by kernel_rfl) G0 (fun hHeld=>?_)
 refine tq 0 ?_
 refine tq 1 ?_
 refine tq 2 ?_
 refine tq 3 ?_
 refine tq 4 ?_
 refine tq 5 ?_
 refine tq 6 ?_
 refine tq 7 ?_
 refine tq 8 ?_
 refine tq 9 ?_
 refine tq 11 ?_
 refine tr 10 rfl (fun K hK=>?_)
 go_simp
 refine hK.out _ _ G0 (fun hHeld=>?_)
 clear hK K
 (try simp only[Act.put,ma,mb,mc,md,me,mf])
 refine tr 12 rfl (fun K hK=>?_)
 go_simp
 refine HD.out.mono ?_
 rintro e w1 ⟨q,d,rfl,hO,hT⟩
 have b1:=hT.blk HM.out.bw (by decide)
 have G1:=b1.c0
 have bn1:=hT.blk HM.out.bn (by decide)
 have y0:=bn1.c3
 have y1:w1.frozen? ⟨gn,3,none⟩=false:=bn1.frozen 3
 refine hK.out _ _ G1 (fun hHeld=>?_)
 clear hK K
 (try simp only[Act.put,ma,mb,mc,md,me,mf])
 refine tq 13 ?_
 refine tq 14 ?_
 have b2:=b1.far (p:=⟨gn,3,none⟩) hne (.slice q (s.leases.filter fun x => !f x).length d)
 refine tr 15 rfl (fun K hK=>?_)
 go_simp
 refine hK.out _ _ (b2.cell 0) (fun hHeld=>?_)
 clear hK K
 (try simp only[Act.put,ma,mb,mc,md,me,mf])
 refine wpAnyH_done (by kernel_rfl) ?_ _
 have hT:=Tch.after ((zri _ w).drew) hT
 have hW:=HM.out.setL hT hO
 have hK:Kp w (w1.setCell ⟨gn,3,none⟩ (.slice q (s.leases.filter fun x => !f x).length d)):=(Kp.tchL hT).trans (Kp.cell bn1 (by simp) 3 _)
 have hB:Below base w (w1.setCell ⟨gn,3,none⟩ (.slice q (s.leases.filter fun x => !f x).length d)):=(hT.low (zri _ _) hbw).setCell (p:=⟨gn,3,none⟩) HM.out.hn _
 have hS:w.heap.size<=(w1.setCell ⟨gn,3,none⟩ (.slice q (s.leases.filter fun x => !f x).length d)).heap.size:=by
  obtain⟨_,hg,_⟩:=hT
  simpa using hg.size
 generalize w1.setCell _ _=w2 at *
 go_wp2_with fail
 go_end0
 exact⟨rfl,q,d,hW,hB,hK,hS⟩
end Go.Proofs.YtknmnhleicakhaaGreatDoor
