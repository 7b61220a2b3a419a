/- Lemmas.
-/
import Derived.Test.YtknmnhleicakhaaGreatDoorPtSvA
import Derived.RangeFuncRecord
import Derived.Shelf.Spec.SlicesInsertGrow
set_option linter.all false
set_option maxHeartbeats 16000000
set_option maxRecDepth 100000
namespace Go.Proofs.YtknmnhleicakhaaGreatDoor
open Go.Proofs.Tryz
open Go.RowKit
theorem vjd (W:World):(zeroValue 38).run prog W=.ok (.agg zwJ) W:=by kernel_rfl
theorem vje (W:World):(zeroValue 40).run prog W=.ok (.agg zwN) W:=by kernel_rfl
theorem uyp (W:World):(zeroValue 42).run prog W=.ok (.agg zwL) W:=by kernel_rfl
theorem uyb (x:JobD) (w:World) :
  Calls prog 91 #[.agg (rwJ x)] w fun e w'=>e=.returned (.string x.name)/\w'=w.alloc (.cells (rwJ x) 38):=by
 go_enter func91,ntmps91
 go_wp2_with fail
 go_ret
 exact⟨rfl,rfl⟩
theorem uyd (x:NodeD) (w:World) :
  Calls prog 93 #[.agg (rwN x)] w fun e w'=>e=.returned (.string x.name)/\w'=w.alloc (.cells (rwN x) 40):=by
 go_enter func93,ntmps93
 go_wp2_with fail
 go_ret
 exact⟨rfl,rfl⟩
theorem uyc (x:uqb) (w:World) :
  Calls prog 95 #[.agg (rwL x)] w fun e w'=>e=.returned (.string x.job)/\w'=w.alloc (.cells (rwL x) 42):=by
 go_enter func95,ntmps95
 go_wp2_with fail
 go_ret
 exact⟨rfl,rfl⟩
theorem oBsfJ1 {p:Prop} (h:p:=by first | omega | (simp only[Z5] at *;omega)):p:=h
theorem sBsfJ1 {p:Prop} (h:p:=by
 have HF:=zrj hf.calls
 have hen:=hf.enter
 have M:=zrj hmono
 clear hf hmono
 go_enter Z1,Z2
 go_wp2_with fail
 go_loopw [9,10] (fun i j wr=>∃lo hi:Nat,i=.int .i64 lo/\j=.int .i64 hi/\lo<=hi/\hi<=l.length/\Below w.heap.size w wr/\Hid ((∀t x,t<lo->l[t]?=some x->cf x<0)/\(∀t x,hi<=t->l[t]?=some x->0<=cf x))) (fun i j _=>(intOf j).toNat-(intOf i).toNat)
 case atStart=>exact⟨0,l.length,rfl,rfl,Nat.zero_le _,zra _,zri _ _,(show(∀(t:Nat) (y:Z3),t<0->l[t]?=some y->cf y<0)/\(∀(t:Nat) (y:Z3),l.length<=t->l[t]?=some y->0<=cf y) from⟨fun t x h=>absurd h (Nat.not_lt_zero _),fun t x h hx=>by rw[List.getElem?_eq_none h] at hx;cases hx⟩)⟩
 case round =>
  obtain⟨lo,hi,rfl,rfl,hlh,hin,hbr,I⟩:=hrel
  by_cases hlt:lo<hi
  ·obtain⟨m,hm⟩:∃m,m=(lo+hi) / 2:=⟨_,rfl⟩
   have hml:m<l.length:=by exact oBsfJ1
   have hm1:lo<=m:=by exact oBsfJ1
   have hm2:m<hi:=by exact oBsfJ1
   have hmd:((lo:Int)+(hi:Int)) / 2=((m:Nat):Int):=by exact oBsfJ1
   have hx:l[m]?=some l[m]:=zrd hml
   have hc:=HF.out l[m] (List.getElem_mem hml) wr hbr
   generalize l[m]=x at *
   clear hm
   obtain⟨a,rfl,hab,_,hat⟩:=(hel.below hbr).at_ (k:=m) (r:=Z4 x) (by rw[zrg,hx];rfl)
   have X:=zrj hx
   have HC:=zrj hc
   clear hx hc
   by_cases hyx:cf x<0
   ·go_wp2_with(refine uxk (by rfl) _ _ rfl (a.add (m*Z5)) rfl (Z6 x) _ hat Z7 rfl Z8 ?_)
    refine HC.out.mono ?_
    rintro e w1 ⟨rfl,hb1⟩
    have hB:=bthen hbr hb1
    clear hb1 hat
    go_wp2_with fail
    go_roundw
    case rel=>exact⟨m+1,hi,by go_num,rfl,by exact oBsfJ1,hin,hB,(show(∀(t:Nat) (y:Z3),t<m+1->l[t]?=some y->cf y<0)/\(∀(t:Nat) (y:Z3),hi<=t->l[t]?=some y->0<=cf y) from⟨fun t y ht hy=>M.out t m y x (by exact oBsfJ1) hy X.out hyx,I.out.2⟩)⟩
    case measure=>simp[intOf];exact oBsfJ1
   ·go_wp2_with(refine uxk (by rfl) _ _ rfl (a.add (m*Z5)) rfl (Z6 x) _ hat Z7 rfl Z8 ?_)
    refine HC.out.mono ?_
    rintro e w1 ⟨rfl,hb1⟩
    have hB:=bthen hbr hb1
    clear hb1 hat
    go_wp2_with fail
    go_roundw
    case rel=>exact⟨lo,m,rfl,by go_num,by exact oBsfJ1,by exact oBsfJ1,hB,(show(∀(t:Nat) (y:Z3),t<lo->l[t]?=some y->cf y<0)/\(∀(t:Nat) (y:Z3),m<=t->l[t]?=some y->0<=cf y) from⟨I.out.1,fun t y ht hy=>Int.not_lt.1 fun hc=>by have:=M.out m t x y ht X.out hy hc;exact oBsfJ1⟩)⟩
    case measure=>simp[intOf];exact oBsfJ1
  ·obtain rfl:hi=lo:=by exact oBsfJ1
   by_cases hn:hi<l.length
   ·have hx:l[hi]?=some l[hi]:=zrd hn
    have hc:=HF.out l[hi] (List.getElem_mem hn) wr hbr
    generalize l[hi]=x at *
    obtain⟨a,rfl,hab,_,hat⟩:=(hel.below hbr).at_ (k:=hi) (r:=Z4 x) (by rw[zrg,hx];rfl)
    have X:=zrj hx
    have HC:=zrj hc
    clear hx hc
    by_cases hyx:cf x=0
    ·go_wp2_with(refine uxk (by rfl) _ _ rfl (a.add (hi*Z5)) rfl (Z6 x) _ hat Z7 rfl Z8 ?_)
     refine HC.out.mono ?_
     rintro e w1 ⟨rfl,hb1⟩
     go_wp2_with fail
     go_ret2
     exact⟨hi,true,by simp[hyx],⟨hin,I.out.1,fun y hy=>Int.not_lt.2 (I.out.2 hi y (zra _) hy),⟨fun _=>⟨x,X.out,hyx⟩,fun _=>rfl⟩⟩,bthen hbr hb1⟩
    ·go_wp2_with(refine uxk (by rfl) _ _ rfl (a.add (hi*Z5)) rfl (Z6 x) _ hat Z7 rfl Z8 ?_)
     refine HC.out.mono ?_
     rintro e w1 ⟨rfl,hb1⟩
     go_wp2_with fail
     go_ret2
     exact⟨hi,false,by simp[hyx],⟨hin,I.out.1,fun y hy=>Int.not_lt.2 (I.out.2 hi y (zra _) hy),⟨fun h=>(by cases h),fun⟨y,hy,hz⟩=>by rw[X.out] at hy;injection hy with hy;exact absurd (hy ▸ hz) hyx⟩⟩,bthen hbr hb1⟩
   ·go_wp2_with fail
    go_ret2
    exact⟨hi,false,rfl,⟨hin,I.out.1,fun y hy=>Int.not_lt.2 (I.out.2 hi y (zra _) hy),⟨fun h=>(by cases h),fun⟨y,hy,_⟩=>by rw[List.getElem?_eq_none (by exact oBsfJ1)] at hy;cases hy⟩⟩,hbr⟩):p:=h
@[simp] abbrev cBsfJ0J:Nat:=5
@[simp] abbrev cBsfJ0N:Nat:=3
@[simp] abbrev cBsfJ0L:Nat:=3
section
open Go.RowKit
open YtknmnhleicakhaaGreatDoor renaming JobD -> Z3, rowJ -> Z4, cBsfJ0J -> Z5, rlJ -> Z6, uqo -> Z8
open Go.Proofs.Tryz renaming func184 -> Z1, ntmps184 -> Z2, underlying38 -> Z7
theorem wx4 (K:FuncId) (caps:Array Value) (cf:JobD->Int) (tv:Value) (p:Zoa) (c:Nat) (l:List JobD) (w:World) (hel:Elts w w.heap.size 5 p (l.map rowJ)) (hl:l.length<=1000000000) (hf:CmpTo prog w K caps rowJ tv cf l)
  (hmono:∀(a b:Nat) (x y:JobD),a<=b->l[a]?=some x->l[b]?=some y->cf y<0->cf x<0) :
  Calls prog 184 #[.slice p l.length c,tv,.func (.func K) #[] caps] w fun e w'=>∃k is,e=.returned (.tuple #[.int .i64 ((k:Nat):Int),.bool is])/\FoundAt cf l k is/\Below w.heap.size w w':=sBsfJ1
end
section
open Go.RowKit
open YtknmnhleicakhaaGreatDoor renaming NodeD -> Z3, rowN -> Z4, cBsfJ0N -> Z5, rlN -> Z6, uqk -> Z8
open Go.Proofs.Tryz renaming func188 -> Z1, ntmps188 -> Z2, underlying40 -> Z7
theorem wx6 (K:FuncId) (caps:Array Value) (cf:NodeD->Int) (tv:Value) (p:Zoa) (c:Nat) (l:List NodeD) (w:World) (hel:Elts w w.heap.size 3 p (l.map rowN)) (hl:l.length<=1000000000) (hf:CmpTo prog w K caps rowN tv cf l)
  (hmono:∀(a b:Nat) (x y:NodeD),a<=b->l[a]?=some x->l[b]?=some y->cf y<0->cf x<0) :
  Calls prog 188 #[.slice p l.length c,tv,.func (.func K) #[] caps] w fun e w'=>∃k is,e=.returned (.tuple #[.int .i64 ((k:Nat):Int),.bool is])/\FoundAt cf l k is/\Below w.heap.size w w':=sBsfJ1
end
section
open Go.RowKit
open YtknmnhleicakhaaGreatDoor renaming uqb -> Z3, rowL -> Z4, cBsfJ0L -> Z5, rlL -> Z6, uqj -> Z8
open Go.Proofs.Tryz renaming func193 -> Z1, ntmps193 -> Z2, underlying42 -> Z7
theorem wx5 (K:FuncId) (caps:Array Value) (cf:uqb->Int) (tv:Value) (p:Zoa) (c:Nat) (l:List uqb) (w:World) (hel:Elts w w.heap.size 3 p (l.map rowL)) (hl:l.length<=1000000000) (hf:CmpTo prog w K caps rowL tv cf l)
  (hmono:∀(a b:Nat) (x y:uqb),a<=b->l[a]?=some x->l[b]?=some y->cf y<0->cf x<0) :
  Calls prog 193 #[.slice p l.length c,tv,.func (.func K) #[] caps] w fun e w'=>∃k is,e=.returned (.tuple #[.int .i64 ((k:Nat):Int),.bool is])/\FoundAt cf l k is/\Below w.heap.size w w':=sBsfJ1
end
theorem sPlaJ1 {p:Prop} (h:p:=by
 have hb0:=zsa w (.cells (Z1 x) Z2)
 have bx0:=Blk.new w Z2 (Z1 x)
 have hk0:∀W,Below w.heap.size w W->W.cell? ⟨gk,0,none⟩=some (.func (.func Z3) #[] #[]):=fun W hW=>(hW.cell (p:=⟨gk,0,none⟩) hlt).trans hk
 have hk1:=hk0 _ hb0
 have HK:=zrj hk0
 have HX:=zrj (fun W=>Z4 x W)
 clear hk0 hk
 go_enter Z5,Z6
 go_wp2_with fail
 generalize w.alloc _=w0 at *
 go_wp2_with(refine uqa rfl _ _ rfl w.heap.size rfl _ _ bx0 _ Z7 rfl Z8 ?_)
 refine(HX.out _).mono ?_
 rintro e w1 ⟨rfl,rfl⟩
 have hB:=hb0.alloc hb0.size (.cells (Z1 x) Z2)
 go_wp2_with fail
 refine(ukv (Z9 x) s _).mono ?_
 rintro e w2 ⟨rfl,rfl⟩
 go_wp2_with fail
 go_ret
 exact⟨rfl,hB⟩):p:=h
theorem sPlaJ2 {p:Prop} (h:p:=by
 have hk0:(w.alloc (.cells #[.func (.func Z3) #[] #[]] Z10)).cell? ⟨w.heap.size,0,none⟩=some (.func (.func Z3) #[] #[]):=(Blk.new w _ #[.func (.func Z3) #[] #[]]).cell 0
 have hb0:=zsa w (.cells #[.func (.func Z3) #[] #[]] Z10)
 have hlt0:w.heap.size<(w.alloc (.cells #[.func (.func Z3) #[] #[]] Z10)).heap.size:=by simp
 have hel0:=(hel.below hb0).more hb0.size
 go_enter Z11,Z12
 go_wp2_with fail
 generalize w.alloc _=w0 at *
 have HB:=zrj (Z13 Z14 #[zse w.heap.size] (fun x=>cmpB (Z9 x) s) (.string s) p c l w0 hel0 hl
  ⟨fun args W=>by kernel_rfl,fun x hx W hW=>Z15 w.heap.size x s W ((hW.cell (p:=⟨w.heap.size,0,none⟩) hlt0).trans hk0) (Nat.lt_of_lt_of_le hlt0 hW.size)⟩
  (fun a b x y hab hx hy hc=>by
   rcases Nat.lt_or_eq_of_le hab with h | rfl
   ·obtain⟨ha,rfl⟩:=List.getElem?_eq_some_iff.1 hx
    obtain⟨hb,rfl⟩:=List.getElem?_eq_some_iff.1 hy
    exact(uwr _ _).2 (uzx (List.pairwise_iff_getElem.1 hs a b ha hb h) ((uwr _ _).1 hc))
   ·rw[hx] at hy;injection hy with hy;subst hy;exact hc))
 clear hel hel0
 go_wp2_with fail
 refine HB.out.mono ?_
 rintro e w1 ⟨k,is,rfl,hF,hb1⟩
 obtain⟨e1,e2⟩:=hF.place hs
 go_wp2_with fail
 go_ret2
 exact⟨by rw[e1,e2];rfl,bthen hb0 hb1⟩):p:=h
@[simp] abbrev cPlaJ0J:Nat:=38
@[simp] abbrev cPlaJ0N:Nat:=40
@[simp] abbrev cPlaJ0L:Nat:=42
@[simp] abbrev cPlaJ1J:Nat:=91
@[simp] abbrev cPlaJ1N:Nat:=93
@[simp] abbrev cPlaJ1L:Nat:=95
@[simp] abbrev cPlaJ2J:Nat:=191
@[simp] abbrev cPlaJ2N:Nat:=194
@[simp] abbrev cPlaJ2L:Nat:=197
@[simp] abbrev cPlaJ3J:Nat:=185
@[simp] abbrev cPlaJ3N:Nat:=189
@[simp] abbrev cPlaJ3L:Nat:=194
section
open Go.RowKit
open YtknmnhleicakhaaGreatDoor renaming rwJ -> Z1, cPlaJ0J -> Z2, cPlaJ1J -> Z3, uyb -> Z4, uqo -> Z8, JobD.name -> Z9
open Go.Proofs.Tryz renaming func185 -> Z5, ntmps185 -> Z6, underlying38 -> Z7
theorem plcJ_any (gk:Nat) (x:JobD) (s:Zba) (w:World) (hk:w.cell? ⟨gk,0,none⟩=some (.func (.func 91) #[] #[])) (hlt:gk<w.heap.size) :
  Calls prog 185 #[.agg (rwJ x),.string s,zse gk] w fun e w'=>e=.returned (.int .i64 (cmpB x.name s))/\Below w.heap.size w w':=sPlaJ1
open YtknmnhleicakhaaGreatDoor renaming cPlaJ2J -> Z10, wx4 -> Z13, cPlaJ3J -> Z14, plcJ_any -> Z15
open Go.Proofs.Tryz renaming func149 -> Z11, ntmps149 -> Z12
theorem uyf (s:Zba) (p:Zoa) (c:Nat) (l:List JobD) (w:World) (hel:Elts w w.heap.size 5 p (l.map rowJ)) (hs:uqy JobD.name l) (hl:l.length<=1000000000) :
  Calls prog 149 #[.slice p l.length c,.string s,.func (.func 91) #[] #[]] w fun e w'=>e=.returned (.tuple #[.int .i64 ((posL JobD.name l s:Nat):Int),.bool (hasL JobD.name l s)])/\Below w.heap.size w w':=sPlaJ2
end
section
open Go.RowKit
open YtknmnhleicakhaaGreatDoor renaming rwN -> Z1, cPlaJ0N -> Z2, cPlaJ1N -> Z3, uyd -> Z4, uqk -> Z8, NodeD.name -> Z9
open Go.Proofs.Tryz renaming func189 -> Z5, ntmps189 -> Z6, underlying40 -> Z7
theorem plcN_any (gk:Nat) (x:NodeD) (s:Zba) (w:World) (hk:w.cell? ⟨gk,0,none⟩=some (.func (.func 93) #[] #[])) (hlt:gk<w.heap.size) :
  Calls prog 189 #[.agg (rwN x),.string s,zse gk] w fun e w'=>e=.returned (.int .i64 (cmpB x.name s))/\Below w.heap.size w w':=sPlaJ1
open YtknmnhleicakhaaGreatDoor renaming cPlaJ2N -> Z10, wx6 -> Z13, cPlaJ3N -> Z14, plcN_any -> Z15
open Go.Proofs.Tryz renaming func151 -> Z11, ntmps151 -> Z12
theorem uyh (s:Zba) (p:Zoa) (c:Nat) (l:List NodeD) (w:World) (hel:Elts w w.heap.size 3 p (l.map rowN)) (hs:uqy NodeD.name l) (hl:l.length<=1000000000) :
  Calls prog 151 #[.slice p l.length c,.string s,.func (.func 93) #[] #[]] w fun e w'=>e=.returned (.tuple #[.int .i64 ((posL NodeD.name l s:Nat):Int),.bool (hasL NodeD.name l s)])/\Below w.heap.size w w':=sPlaJ2
end
section
open Go.RowKit
open YtknmnhleicakhaaGreatDoor renaming rwL -> Z1, cPlaJ0L -> Z2, cPlaJ1L -> Z3, uyc -> Z4, uqj -> Z8, uqb.job -> Z9
open Go.Proofs.Tryz renaming func194 -> Z5, ntmps194 -> Z6, underlying42 -> Z7
theorem plcL_any (gk:Nat) (x:uqb) (s:Zba) (w:World) (hk:w.cell? ⟨gk,0,none⟩=some (.func (.func 95) #[] #[])) (hlt:gk<w.heap.size) :
  Calls prog 194 #[.agg (rwL x),.string s,zse gk] w fun e w'=>e=.returned (.int .i64 (cmpB x.job s))/\Below w.heap.size w w':=sPlaJ1
open YtknmnhleicakhaaGreatDoor renaming cPlaJ2L -> Z10, wx5 -> Z13, cPlaJ3L -> Z14, plcL_any -> Z15
open Go.Proofs.Tryz renaming func156 -> Z11, ntmps156 -> Z12
theorem uyg (s:Zba) (p:Zoa) (c:Nat) (l:List uqb) (w:World) (hel:Elts w w.heap.size 3 p (l.map rowL)) (hs:uqy uqb.job l) (hl:l.length<=1000000000) :
  Calls prog 156 #[.slice p l.length c,.string s,.func (.func 95) #[] #[]] w fun e w'=>e=.returned (.tuple #[.int .i64 ((posL uqb.job l s:Nat):Int),.bool (hasL uqb.job l s)])/\Below w.heap.size w w':=sPlaJ2
end
theorem oDelJe3 {p:Prop} (h:p:=by first | omega | (simp only[Z3,Z5,Z6] at *;omega)):p:=h
theorem sDelJe3 {p:Prop} (h:p:=by
 have hne:l.map Z1≠[]:=by intro h;have:=congrArg List.length h;simp at this;subst this;simp at hk
 obtain⟨g,rest,rfl,hbg,hg,hlen,hlc,hcm⟩:=hO.at_ hne
 rw[zre] at hlc
 have hA:l=l.take k++l[k]::l.drop (k+1):=by rw[<- List.drop_eq_getElem_cons hk,List.take_append_drop]
 have hE:l.eraseIdx k=l.take k++l.drop (k+1):=List.eraseIdx_eq_take_drop_succ _ _
 have hel:(l.eraseIdx k).length=l.length-1:=List.length_eraseIdx_of_lt hk
 have hla:(l.take k).length=k:=by rw[List.length_take];exact oDelJe3
 have hlb:(l.drop (k+1)).length=l.length-(k+1):=List.length_drop
 obtain⟨hu,hz0,hz1,hz2⟩:=info_parts Z2
 generalize hAA:l.take k=A at *
 generalize hBB:l.drop (k+1)=B at *
 generalize l[k]=x at *
 have ha:((A.map Z1).flatten).length=k*Z3:=by rw[uxf (Z4 A),zre,hla]
 have hb:((B.map Z1).flatten).length=(l.length-(k+1))*Z3:=by rw[uxf (Z4 B),zre,hlb]
 have hfl:(l.map Z1).flatten=(A.map Z1).flatten++(Z1 x++(B.map Z1).flatten):=by rw[hA];simp
 obtain⟨u,v,huv,hul⟩:=ujp (Z1 x++(B.map Z1).flatten) ((B.map Z1).flatten).length (by simp)
 have hvl:v.length=Z3:=by
  have h:=congrArg List.length huv
  rw[zrb,zrb,hul] at h
  have h2:(Z1 x).length=Z3:=rfl
  exact oDelJe3
 have hg1:w.heap[g]?=some (.cells ((A.map Z1).flatten++u++(v++rest)).toArray Z5 (0,0)):=by rw[hg,hfl,huv];simp
 have hg0:w.heap[g]?=some (.cells (((A.map Z1).flatten++Z1 x)++(B.map Z1).flatten++rest).toArray Z5 (0,0)):=by rw[hg,hfl];simp
 have hn1:l.length-(k+1)+k=l.length-1:=by exact oDelJe3
 have x0:(0:Int)<=(k:Int):=by exact oDelJe3
 have x1:(k:Int)+1<=(l.length:Int):=by exact oDelJe3
 have x2:(l.length:Int)<=(c:Int):=by exact oDelJe3
 have x3:(k:Int)<=(k:Int)+1:=by exact oDelJe3
 have x4:((k:Int) == (k:Int)+1)=false:=by rw[zrf];exact oDelJe3
 have x5:((k:Int)+1).toNat=k+1:=by exact oDelJe3
 have x6:(k:Int)<=(l.length:Int):=by exact oDelJe3
 have x7:k<=c:=by exact oDelJe3
 have x8:k+1<=c:=by exact oDelJe3
 have x9:k+1<=l.length:=by exact oDelJe3
 have x10:k<=l.length:=by exact oDelJe3
 have x11:(0:Int)<=(k:Int)+1:=by exact oDelJe3
 obtain⟨n1,hln⟩:∃n1,l.length=n1+1:=⟨l.length-1,by exact oDelJe3⟩
 obtain⟨ad,had⟩:∃ad:Addr,(if c=k+1 then some (⟨g,0,none⟩:Addr) else some ⟨g,(k+1)*Z3,none⟩)=some ad/\(0<l.length-(k+1)->ad=⟨g,(k+1)*Z3,none⟩):=by
  by_cases hc:c=k+1
  ·exact⟨_,by rw[if_pos hc],fun h=>by exact oDelJe3⟩
  ·exact⟨_,by rw[if_neg hc],fun _=>rfl⟩
 obtain⟨had,hadr⟩:=had
 have hsrc:∀j v,((B.map Z1).flatten)[j]?=some v->w.cell? (ad.add j)=some v:=fun j v hv=>by
  have hpos:0<l.length-(k+1):=by
   have:=(List.getElem?_eq_some_iff.1 hv).1
   rw[hb] at this
   rcases Nat.eq_zero_or_pos (l.length-(k+1)) with h0 | h0
   ·rw[h0] at this;simp at this
   ·exact h0
  rw[hadr hpos]
  refine uz5 hg0 ((k+1)*Z3) ?_ j v hv
  rw[zrb,ha];have h2:(Z1 x).length=Z3:=rfl;rw[h2];exact oDelJe3
 have hap:=fun ty=>uwx (P:=prog) (w:=w.drew) ty Z6 Z5 hu Z3 Z7 hz0 hz2.1 k c ad (l.length-(k+1)) (c-(k+1)) hg1 ha hul.symm hb (by exact oDelJe3) hsrc (Z8 B)
 have e1:k+(l.length-(k+1))=n1:=by exact oDelJe3
 rw[e1] at hap
 have HAP:=zrj hap
 have hg2:(w.drew.setRow g ((A.map Z1).flatten++(B.map Z1).flatten++(v++rest)).toArray).heap[g]?=some (.cells ((((A.map Z1).flatten++(B.map Z1).flatten)++v)++rest).toArray Z5 (0,0)):=by
  rw[uxt (w:=w.drew) hg1];simp
 have e2:l.length-n1=1:=by exact oDelJe3
 have hcl:=fun ty=>uvy (P:=prog) ty Z6 Z5 (.agg Z9) Z7 (fun W=>Z10 W) (l.length-n1) (c-n1) (n1*Z3) (by exact oDelJe3) hg2 (by rw[zrb,ha,hb,<- Nat.add_mul,e1]) (vs:=Z11) (by rw[e2];simp[Builtin.zeroCells,Value.cells];rfl) (by rw[hvl];rfl) (by intro u hu;simp at hu;rcases hu with rfl | rfl | rfl | rfl | rfl <;> rfl)
 have HCL:=zrj hcl
 have hg3:=uxt (cs':=((((A.map Z1).flatten++(B.map Z1).flatten)++Z11)++rest).toArray) hg2
 have hO3:∀W:World,W.heap[g]?=some (.cells ((((A.map Z1).flatten++(B.map Z1).flatten)++Z11)++rest).toArray Z5 (0,0))->OwnR W base Z5 Z3 (some ⟨g,0,none⟩) c ((l.eraseIdx k).map Z1):=fun W hW=>by
  refine OwnR.of_ (rest:=Z11++rest) (Z4 _) hbg ?_ ?_ (by rw[zre,hel];exact oDelJe3) hcm
  ·rw[hW,hE];simp
  ·rw[hE]
   have h3:=hlen
   rw[hA] at h3
   simp only[List.map_append,List.map_cons,List.flatten_append,List.flatten_cons,zrb] at h3 ⊢
   have h2:(Z1 x).length=Z3:=rfl
   have h4:(Z11:List Value).length=Z3:=rfl
   exact oDelJe3
 have HO3:=zrj (hO3 _ hg3)
 have y1:n1<=l.length:=by exact oDelJe3
 have y2:(n1:Int)<=(l.length:Int):=by exact oDelJe3
 have y3:(c=n1)=False:=eq_false (by exact oDelJe3)
 have y4:l.length<=c:=hlc
 have hel2:(l.eraseIdx k).length=n1:=by exact oDelJe3
 clear hcl hg2 hg3 hO3
 generalize((((A.map Z1).flatten++(B.map Z1).flatten)++Z11)++rest).toArray=CS at *
 clear hO hA hfl huv hAA hBB hne hg hap hsrc hE hel hln hla hlb ha hb hul hvl hg1 hg0 hn1 hadr e1 e2
 go_enter Z12,Z13
 go_upto_region 5 with fail
 have G0:GrB w g w.drew:=GrB.start _ _
 refine wp_region_held_drew (S:=GrB w g) (by kernel_rfl) G0 (fun hHeld=>?_)
 refine tq 0 ?_
 refine tq 1 ?_
 refine tq 2 ?_
 refine tq 3 ?_
 refine tq 4 ?_
 refine tq 5 ?_
 refine tr 6 rfl (fun K hK=>?_)
 refine uwl rfl _ _ Z6 Z6 rfl (.slice (some ⟨g,0,none⟩) k c) (.slice (some ad) (l.length-(k+1)) (c-(k+1))) (by simp[Act.eval,Act.put]) (by simp[Act.eval,Act.put]) (HAP.out _) ?_
 refine hK.out _ _ (GrB.row G0 _) (fun hHeld=>?_)
 clear hK K
 (try simp only[Act.put,ma,mb,mc,md,me,mf])
 refine tq 7 ?_
 refine wpAnyH_done (by kernel_rfl) ?_ _
 have G1:=GrB.row G0 ((A.map Z1).flatten++(B.map Z1).flatten++(v++rest)).toArray
 generalize w.drew.setRow g _=w1 at *
 have hclr:=HCL.out 0
 go_wp2_with fail
 go_ret
 exact⟨g,rfl,hbg,by rw[hel2];rfl,HO3.out,GrB.row G1 _⟩):p:=h
@[simp] abbrev cDelJe0J:Nat:=5
@[simp] abbrev cDelJe0N:Nat:=3
@[simp] abbrev cDelJe0L:Nat:=3
@[simp] abbrev cDelJe1J:Nat:=38
@[simp] abbrev cDelJe1N:Nat:=40
@[simp] abbrev cDelJe1L:Nat:=42
@[simp] abbrev cDelJe2J:Nat:=22
@[simp] abbrev cDelJe2N:Nat:=23
@[simp] abbrev cDelJe2L:Nat:=24
section
open Go.RowKit
theorem uxy (l:List JobD):∀r∈l.map rowJ,r.length=5:=fun r hr=>by obtain⟨x,_,rfl⟩:=List.mem_map.1 hr;rfl
theorem vqr (l:List JobD):∀v∈(l.map rowJ).flatten,v.oneCell'=true:=fun v hv=>by
 obtain⟨r,hr,hv⟩:=List.mem_flatten.1 hv
 obtain⟨x,_,rfl⟩:=List.mem_map.1 hr
 simp[rowJ] at hv
 rcases hv with rfl | rfl | rfl | rfl | rfl <;> rfl
open YtknmnhleicakhaaGreatDoor renaming rowJ -> Z1, uve -> Z2, cDelJe0J -> Z3, uxy -> Z4, cDelJe1J -> Z5, cDelJe2J -> Z6, vqr -> Z8, zwJ -> Z9, vjd -> Z10, zlJ -> Z11
open Go.Proofs.Tryz renaming underlying22 -> Z7, func153 -> Z12, ntmps153 -> Z13
theorem wk8 (l:List JobD) (k:Nat) (base:Nat) (p:Zoa) (c:Nat) (w:World) (hO:OwnR w base 38 5 p c (l.map rowJ)) (hk:k<l.length) :
  Calls prog 153 #[.slice p l.length c,.int .i64 (k:Int),.int .i64 ((k:Int)+1)] w fun e w' =>
   ∃g,p=some ⟨g,0,none⟩/\base<=g/\e=.returned (.slice p (l.eraseIdx k).length c)/\OwnR w' base 38 5 p c ((l.eraseIdx k).map rowJ)/\w.grownBy w' (some g):=sDelJe3
end
section
open Go.RowKit
theorem uxz (l:List NodeD):∀r∈l.map rowN,r.length=3:=fun r hr=>by obtain⟨x,_,rfl⟩:=List.mem_map.1 hr;rfl
theorem vqt (l:List NodeD):∀v∈(l.map rowN).flatten,v.oneCell'=true:=fun v hv=>by
 obtain⟨r,hr,hv⟩:=List.mem_flatten.1 hv
 obtain⟨x,_,rfl⟩:=List.mem_map.1 hr
 simp[rowN] at hv
 rcases hv with rfl | rfl | rfl | rfl | rfl <;> rfl
open YtknmnhleicakhaaGreatDoor renaming rowN -> Z1, uj7 -> Z2, cDelJe0N -> Z3, uxz -> Z4, cDelJe1N -> Z5, cDelJe2N -> Z6, vqt -> Z8, zwN -> Z9, vje -> Z10, zlN -> Z11
open Go.Proofs.Tryz renaming underlying23 -> Z7, func155 -> Z12, ntmps155 -> Z13
theorem wva (l:List NodeD) (k:Nat) (base:Nat) (p:Zoa) (c:Nat) (w:World) (hO:OwnR w base 40 3 p c (l.map rowN)) (hk:k<l.length) :
  Calls prog 155 #[.slice p l.length c,.int .i64 (k:Int),.int .i64 ((k:Int)+1)] w fun e w' =>
   ∃g,p=some ⟨g,0,none⟩/\base<=g/\e=.returned (.slice p (l.eraseIdx k).length c)/\OwnR w' base 40 3 p c ((l.eraseIdx k).map rowN)/\w.grownBy w' (some g):=sDelJe3
end
section
open Go.RowKit
theorem uxm (l:List uqb):∀r∈l.map rowL,r.length=3:=fun r hr=>by obtain⟨x,_,rfl⟩:=List.mem_map.1 hr;rfl
theorem vqs (l:List uqb):∀v∈(l.map rowL).flatten,v.oneCell'=true:=fun v hv=>by
 obtain⟨r,hr,hv⟩:=List.mem_flatten.1 hv
 obtain⟨x,_,rfl⟩:=List.mem_map.1 hr
 simp[rowL] at hv
 rcases hv with rfl | rfl | rfl | rfl | rfl <;> rfl
open YtknmnhleicakhaaGreatDoor renaming rowL -> Z1, ujl -> Z2, cDelJe0L -> Z3, uxm -> Z4, cDelJe1L -> Z5, cDelJe2L -> Z6, vqs -> Z8, zwL -> Z9, uyp -> Z10, zlL -> Z11
open Go.Proofs.Tryz renaming underlying24 -> Z7, func158 -> Z12, ntmps158 -> Z13
theorem wk9 (l:List uqb) (k:Nat) (base:Nat) (p:Zoa) (c:Nat) (w:World) (hO:OwnR w base 42 3 p c (l.map rowL)) (hk:k<l.length) :
  Calls prog 158 #[.slice p l.length c,.int .i64 (k:Int),.int .i64 ((k:Int)+1)] w fun e w' =>
   ∃g,p=some ⟨g,0,none⟩/\base<=g/\e=.returned (.slice p (l.eraseIdx k).length c)/\OwnR w' base 42 3 p c ((l.eraseIdx k).map rowL)/\w.grownBy w' (some g):=sDelJe3
end
theorem oInsJ1 {p:Prop} (h:p:=by first | omega | (simp only[Z4,Z5,Z10,Z11] at *;omega)):p:=h
theorem sInsJ1 {p:Prop} (h:p:=by
 subst hk
 obtain⟨hu,hz0,hz1,hz2,hz3⟩:=info_parts Z3
 have hfin:∀p' c' (W:World),W.ownsRow base Z4 Z5 (.slice p' (l.length+1) c') (l.length+1) ((l.map Z6).flatten++Z6 x)->OwnR W base Z4 Z5 p' c' ((l.take l.length++x::l.drop l.length).map Z6):=fun p' c' W h=>by
  refine⟨Z7 _,?_⟩
  have e1:(l.take l.length++x::l.drop l.length)=l++[x]:=by simp
  rw[e1]
  simpa using h
 have HF:=zrj hfin
 have x0:(0:Int)<=(l.length:Int):=by exact oInsJ1
 have hOo:=hO.2
 rw[zre] at hOo
 have hcl:l.length<=c:=by
  rcases hOo.2 with⟨h0,h1⟩ | ⟨g,cap,cur,h0,_,_,h1,_⟩
  ·exact oInsJ1
  ·injection h0 with _ _ h2;exact oInsJ1
 have x1:(l.length:Int)<=(c:Int):=by exact oInsJ1
 have hn1:¬((1:Int)=0):=by decide
 rcases hOo.2 with⟨h0,h1⟩ | ⟨g,cap,cur,h0,h2⟩
 ·injection h0 with e1 e2 e3
  subst e1 e3
  have hl0:l=[]:=List.eq_nil_of_length_eq_zero h1
  subst hl0
  clear hfin hO
  go_enter Z8,Z9
  go_wp2_with(first
   | (at_builtin;refine uq6 _ rfl _ _ Z10 rfl base Z4 hu _ Z5 Z11 Z12 hz0 hz1 hz2 hz3 rfl (by decide) _ _ _ rfl hOo _ (some ⟨gv,0,none⟩) 1 1 (Z6 x) rfl (Blk.reads1 hv rfl) (by intro u hu;simp[Z6] at hu;rcases hu with rfl | rfl | rfl | rfl | rfl <;> rfl) (by unfold maxLen;exact oInsJ1) (by exact oInsJ1) hbw ?_;intro v3 w3 hO3 hg3 _;obtain⟨p3,c3,rfl⟩:=uzz hO3))
  all_goals
   go_ret
   exact⟨p3,c3,rfl,by simpa using HF.out _ _ _ hO3,hg3⟩
 ·injection h0 with e1 e2 e3
  subst e1
  clear h2 hfin hO
  go_enter Z8,Z9
  go_wp2_with(first
   | (at_builtin;refine uq6 _ rfl _ _ Z10 rfl base Z4 hu _ Z5 Z11 Z12 hz0 hz1 hz2 hz3 rfl (by decide) _ _ _ rfl hOo _ (some ⟨gv,0,none⟩) 1 1 (Z6 x) rfl (Blk.reads1 hv rfl) (by intro u hu;simp[Z6] at hu;rcases hu with rfl | rfl | rfl | rfl | rfl <;> rfl) (by unfold maxLen;exact oInsJ1) (by exact oInsJ1) hbw ?_;intro v3 w3 hO3 hg3 _;obtain⟨p3,c3,rfl⟩:=uzz hO3))
  all_goals
   go_ret
   exact⟨p3,c3,rfl,by simpa using HF.out _ _ _ hO3,hg3⟩):p:=h
theorem oInsJ2 {p:Prop} (h:p:=by first | omega | (simp only[Z4,Z5,Z10,Z16] at *;omega)):p:=h
theorem sInsJ2 {p:Prop} (h:p:=by
 have hne:l.map Z6≠[]:=by intro h;have:=congrArg List.length h;simp at this;subst this;simp at hk
 obtain⟨g,rest,rfl,hbg,hg,hlen,hlc,hcm⟩:=hO.at_ hne
 have hgv:=hgv g rfl
 rw[zre] at hlc
 have hA:l=l.take k++l.drop k:=(List.take_append_drop k l).symm
 have hla:(l.take k).length=k:=by rw[List.length_take];exact oInsJ2
 have hlb:(l.drop k).length=l.length-k:=List.length_drop
 obtain⟨hu,hz0,hz1,hz2⟩:=info_parts Z3
 have hfl:(l.map Z6).flatten.length=l.length*Z5:=by rw[uxf (Z7 l),zre]
 generalize hAA:l.take k=A at *
 generalize hBB:l.drop k=B at *
 have ha:((A.map Z6).flatten).length=k*Z5:=by rw[uxf (Z7 A),zre,hla]
 have hb:((B.map Z6).flatten).length=(l.length-k)*Z5:=by rw[uxf (Z7 B),zre,hlb]
 have hfe:(l.map Z6).flatten=(A.map Z6).flatten++(B.map Z6).flatten:=by rw[hA];simp
 have hx5:(Z6 x).length=Z5:=rfl
 obtain⟨z,r,hzr,hzl⟩:=ujp rest Z5 (by rw[zrb,hfl] at hlen;have:=Nat.mul_le_mul_right Z5 hroom;rw[Nat.add_mul] at this;exact oInsJ2)
 obtain⟨h,t,hht,hhl⟩:=ujp ((B.map Z6).flatten++z) Z5 (by rw[zrb];exact oInsJ2)
 have htl:t.length=((B.map Z6).flatten).length:=by
  have h':=congrArg List.length hht
  rw[zrb,zrb,hhl,hzl] at h'
  exact oInsJ2
 have hg0:w.heap[g]?=some (.cells ((A.map Z6).flatten++(B.map Z6).flatten++rest).toArray Z4 (0,0)):=by rw[hg,hfe]
 have hg1:w.drew.heap[g]?=some (.cells (((A.map Z6).flatten++h)++t++r).toArray Z4 (0,0)):=by
  show w.heap[g]?=_
  rw[hg0,hzr,zrh,<- zrh _ z r,hht];simp
 have hg2:=uxt (cs':=(((A.map Z6).flatten++h)++(B.map Z6).flatten++r).toArray) hg1
 have hg2':(w.drew.setRow g (((A.map Z6).flatten++h)++(B.map Z6).flatten++r).toArray).heap[g]?=some (.cells ((A.map Z6).flatten++h++((B.map Z6).flatten++r)).toArray Z4 (0,0)):=by rw[hg2];simp
 have hg3:=uxt (cs':=((A.map Z6).flatten++Z6 x++((B.map Z6).flatten++r)).toArray) hg2'
 have hv2:Blk (w.drew.setRow g (((A.map Z6).flatten++h)++(B.map Z6).flatten++r).toArray) gv Z4 (Z13 x):=hv.drew.setRow_far (Ne.symm hgv) _
 have hsz:(prog.info? Z4).map (·.size)=some Z5:=Z14
 have m1:Nat.min (l.length+1-k) (l.length+1-(k+1))=l.length-k:=by show min _ _=_;exact oInsJ2
 have m2:Nat.min 1 (l.length+1-k)=1:=by show min _ _=_;exact oInsJ2
 have hcp1:=fun ty=>uzd (P:=prog) Z5 Z10 Z10 ty Z4 ((k+1)*Z5) (l.length+1-(k+1)) (c-(k+1)) ⟨g,k*Z5,none⟩ (l.length+1-k) (c-k) Z12 hsz hg1 (by rw[zrb,ha,hhl];exact oInsJ2) (by rw[hb,m1]) htl.symm (uz5 hg0 (k*Z5) ha.symm) (Z15 B)
 have hcp2:=fun ty=>uzd (P:=prog) Z5 Z10 Z10 ty Z4 (k*Z5) (l.length+1-k) (c-k) ⟨gv,0,none⟩ 1 1 Z12 hsz hg2' ha.symm (vs:=Z6 x) (by rw[hx5,m2,Nat.one_mul]) (by rw[hx5,hhl]) (fun j u hj=>by rw[Addr.add_lit,Nat.zero_add,hv2.cell];simpa[Z6] using hj) (by intro u hu;simp[Z6] at hu;rcases hu with rfl | rfl | rfl | rfl | rfl <;> rfl)
 have HO3:∀W:World,W.heap[g]?=some (.cells ((A.map Z6).flatten++Z6 x++((B.map Z6).flatten++r)).toArray Z4 (0,0))->OwnR W base Z4 Z5 (some ⟨g,0,none⟩) c ((A++x::B).map Z6):=fun W hW=>by
  refine OwnR.of_ (rest:=r) (Z7 _) hbg ?_ ?_ (by rw[zre,zrb,List.length_cons,hla,hlb];exact oInsJ2) hcm
  ·rw[hW];simp
  ·have h3:=hlen
   rw[hfe,hzr] at h3
   simp only[List.map_append,List.map_cons,List.flatten_append,List.flatten_cons,zrb,hzl,hx5] at h3 ⊢
   exact oInsJ2
 have HO:=zrj (HO3 _ hg3)
 have hov:∀lb cb,(callFunc Z16 #[.slice (some ⟨gv,0,none⟩) 1 1,.slice (some ⟨g,(k+1)*Z5,none⟩) lb cb]).run prog w=.ok (.value (.bool false)) w:=fun lb cb=>by
  rw[run_callFunc_extern Z17 (by kernel_rfl) (by kernel_rfl) (by kernel_rfl) (e:=Extern.SlicesOverlaps.overlaps #[Z10,Z10] #[4]) (by kernel_rfl),
   Lib.run_overlaps_apart w Z10 4 Z4 Z12 Z5 (fun W=>by kernel_rfl) ⟨gv,0,none⟩ ⟨g,(k+1)*Z5,none⟩ 1 1 lb cb (Ne.symm hgv) Z4 Z4 Z5 ((l.map Z6).flatten++rest).length (by simp[World.shape?,show w.heap[gv]?=some _ from hv]) (by simp[World.shape?,hg]) (by rw[hlen];have:=Nat.mul_le_mul_right Z5 hroom;rw[Nat.add_mul] at this;exact oInsJ2) (hv.frozen 0) (hv.frozen Z5)]
  rfl
 have x0:(0:Int)<=(k:Int):=by exact oInsJ2
 have x1:(k:Int)<=(l.length:Int):=by exact oInsJ2
 have x2:((k:Int) == (l.length:Int))=false:=by rw[zrf];exact oInsJ2
 have x3:¬((c:Int)<(l.length:Int)+1):=by exact oInsJ2
 have x4:(c=k+1)=False:=eq_false (by exact oInsJ2)
 have x5:(c=k)=False:=eq_false (by exact oInsJ2)
 have x6:((k:Int)+1).toNat=k+1:=by exact oInsJ2
 have x7:((l.length:Int)+1).toNat=l.length+1:=by exact oInsJ2
 have x8:(0:Int)<=(k:Int)+1:=by exact oInsJ2
 have x9:(0:Int)<=(l.length:Int)+1:=by exact oInsJ2
 have x10:(k:Int)+1<=(l.length:Int)+1:=by exact oInsJ2
 have x11:(l.length:Int)+1<=(c:Int):=by exact oInsJ2
 have x12:(k:Int)<=(l.length:Int)+1:=by exact oInsJ2
 have x13:k+1<=l.length+1:=by exact oInsJ2
 have x14:k<=l.length+1:=by exact oInsJ2
 have x15:k<=l.length:=by exact oInsJ2
 have x16:k<=c:=by exact oInsJ2
 have x17:IntKind.i64.wrap ((k:Int)+1)=(k:Int)+1:=IntWalk.i64_in _ (by exact oInsJ2)
 have x18:IntKind.i64.wrap ((l.length:Int)+1)=(l.length:Int)+1:=IntWalk.i64_in _ (by exact oInsJ2)
 have HC1:=zrj hcp1
 have HC2:=zrj hcp2
 generalize(((A.map Z6).flatten++h)++(B.map Z6).flatten++r).toArray=CS1 at *
 generalize((A.map Z6).flatten++Z6 x++((B.map Z6).flatten++r)).toArray=CS2 at *
 clear hO hA hla hlb hfl hAA hBB ha hb hfe hht htl hg0 hg1 hg2 hg2' hg3 hv2 hsz m1 hcp1 hcp2 HO3 hne hg hv hzr hzl hhl hlen
 rw[m2] at HC2
 go_enter Z8,Z9
 go_upto_region 15 with(simp only[hov])
 have G0:GrB w g w.drew:=GrB.start _ _
 refine wp_region_held_drew (S:=GrB w g) (by kernel_rfl) G0 (fun hHeld=>?_)
 refine tq 0 ?_
 refine tq 1 ?_
 refine tq 2 ?_
 refine tq 3 ?_
 refine tq 4 ?_
 refine tq 5 ?_
 refine tq 6 ?_
 refine tq 7 ?_
 refine tr 8 rfl (fun K hK=>?_)
 refine ujq rfl _ _ Z10 Z10 rfl (.slice (some ⟨g,(k+1)*Z5,none⟩) (l.length+1-(k+1)) (c-(k+1))) (.slice (some ⟨g,k*Z5,none⟩) (l.length+1-k) (c-k)) (by simp[Act.eval,Act.put]) (by simp[Act.eval,Act.put]) (HC1.out _) ?_
 refine hK.out _ _ (GrB.row G0 _) (fun hHeld=>?_)
 clear hK K
 (try simp only[Act.put,ma,mb,mc,md,me,mf])
 refine wpAnyH_done (by kernel_rfl) ?_ _
 have G1:=GrB.row G0 CS1
 generalize w.drew.setRow g CS1=w1 at *
 have hcc:=HC2.out 3
 go_wp2_with fail
 go_ret
 exact⟨some ⟨g,0,none⟩,c,rfl,by simpa using HO.out,GrB.row G1 _⟩):p:=h
theorem oInsJ3 {p:Prop} (h:p:=by first | omega | (simp only[Z4,Z5,Z10] at *;omega)):p:=h
theorem sInsJ3 {p:Prop} (h:p:=by
 have hne:l.map Z6≠[]:=by intro h;have:=congrArg List.length h;simp at this;subst this;simp at hk
 obtain⟨g,rest,rfl,hbg,hg,hlen,hlc,hcm⟩:=hO.at_ hne
 rw[zre] at hlc
 have hgl:g<w.heap.size:=(Array.getElem?_eq_some_iff.1 hg).1
 have hA:l=l.take k++l.drop k:=(List.take_append_drop k l).symm
 have hla:(l.take k).length=k:=by rw[List.length_take];exact oInsJ3
 have hlb:(l.drop k).length=l.length-k:=List.length_drop
 obtain⟨hu,hz0,hz1,hz2,hz3⟩:=info_parts Z3
 generalize hAA:l.take k=A at *
 generalize hBB:l.drop k=B at *
 have ha:((A.map Z6).flatten).length=k*Z5:=by rw[uxf (Z7 A),zre,hla]
 have hb:((B.map Z6).flatten).length=(l.length-k)*Z5:=by rw[uxf (Z7 B),zre,hlb]
 have hfe:(l.map Z6).flatten=(A.map Z6).flatten++(B.map Z6).flatten:=by rw[hA];simp
 have hx5:(Z6 x).length=Z5:=rfl
 have hg0:w.heap[g]?=some (.cells ((A.map Z6).flatten++(B.map Z6).flatten++rest).toArray Z4 (0,0)):=by rw[hg,hfe]
 have hg0':w.drew.heap[g]?=some (.cells ([]++(A.map Z6).flatten++((B.map Z6).flatten++rest)).toArray Z4 (0,0)):=by show w.heap[g]?=_;rw[hg0];simp
 have hold:(Builtin.firstCells hu.size k (.slice (some ⟨g,0,none⟩) k c)).run prog w.drew=.ok ((A.map Z6).flatten).toArray w.drew:=by
  rw[hz2]
  exact run_firstCells_some w.drew Z5 k ⟨g,0,none⟩ k c ((A.map Z6).flatten) ha (uz5 hg0' 0 rfl)
 have hik:k+(l.length+1-k)=l.length+1:=by exact oInsJ3
 have hkk:(l.length:Int)+1-(k:Int)=((l.length+1-k:Nat):Int):=by exact oInsJ3
 have hrz:=fun ty=>Lib.run_append_grow_zeros w Z10 3 ty Z4 hu _ .i64 .i64 Z12 underlying3 hz0 hz1 (some ⟨g,0,none⟩) k c ((A.map Z6).flatten) hold (l.length+1-k) (by exact oInsJ3) (by rw[hz2];decide) (by exact oInsJ3) (by exact oInsJ3) (by rw[hz3];exact oInsJ3) (by rw[hz3,hik];exact growslice_fits hfull (by exact oInsJ3))
 rw[hik,<- hkk] at hrz
 have hG1:l.length+1<=grownCap w (l.length+1) c Z4:=grownCap_ge w _ _ _
 have hG2:grownCap w (l.length+1) c Z4<=maxLen:=grownCap_le_maxLen w _ _ _ (by unfold maxLen;exact oInsJ3)
 generalize grownCap w (l.length+1) c Z4=G at *
 obtain⟨Z1,hZ1⟩:∃Z1:List Value,(Builtin.zeroCells (Value.agg Z18).cells (l.length+1-k)).toList=Z1:=⟨_,rfl⟩
 obtain⟨Z2,hZ2⟩:∃Z2:List Value,(Builtin.zeroCells (Value.agg Z18).cells (G-(l.length+1))).toList=Z2:=⟨_,rfl⟩
 have hl1:Z1.length=(l.length+1-k)*Z5:=by rw[<- hZ1,Array.length_toList,size_zeroCells];rfl
 have hl2:Z2.length=(G-(l.length+1))*Z5:=by rw[<- hZ2,Array.length_toList,size_zeroCells];rfl
 have hrow:((A.map Z6).flatten).toArray++Builtin.zeroCells (Value.agg Z18).cells (l.length+1-k)++Builtin.zeroCells (Value.agg Z18).cells (G-(l.length+1))=((A.map Z6).flatten++Z1++Z2).toArray:=by
  rw[<- hZ1,<- hZ2];simp
 rw[hrow] at hrz
 obtain⟨h1,t1,ht1,hl3⟩:=ujp Z1 Z5 (by rw[hl1];have:=Nat.mul_le_mul_right Z5 (show 1<=l.length+1-k by exact oInsJ3);exact oInsJ3)
 have hl4:t1.length=(l.length-k)*Z5:=by
  have h':=congrArg List.length ht1
  rw[hl1,zrb,hl3] at h'
  have:(l.length+1-k)*Z5=(l.length-k)*Z5+Z5:=by rw[show l.length+1-k=(l.length-k)+1 by exact oInsJ3,Nat.add_mul,Nat.one_mul]
  exact oInsJ3
 have hb1:Below w.heap.size w (w.drew.alloc (.cells ((A.map Z6).flatten++Z1++Z2).toArray Z4)):=(zri _ w).drew.alloc (zra _) _
 have hn1:(w.drew.alloc (.cells ((A.map Z6).flatten++Z1++Z2).toArray Z4)).heap[w.heap.size]?=some (.cells ((A.map Z6).flatten++h1++(t1++Z2)).toArray Z4 (0,0)):=by
  rw[ht1]
  have:=World.alloc_heap_new w.drew (.cells ((A.map Z6).flatten++(h1++t1)++Z2).toArray Z4)
  rw[show w.drew.heap.size=w.heap.size from rfl] at this
  rw[this];simp
 have hgW:(w.drew.alloc (.cells ((A.map Z6).flatten++Z1++Z2).toArray Z4)).heap[g]?=some (.cells ((A.map Z6).flatten++(B.map Z6).flatten++rest).toArray Z4 (0,0)):=(hb1.block g hgl).trans hg0
 have hvW:=hv.bl hb1
 generalize w.drew.alloc _=W1 at *
 have hN:(W1.setRow w.heap.size ((A.map Z6).flatten++Z6 x++(t1++Z2)).toArray).drew.heap[w.heap.size]?=some (.cells (((A.map Z6).flatten++Z6 x)++t1++Z2).toArray Z4 (0,0)):=by
  show(W1.setRow w.heap.size _).heap[w.heap.size]?=_
  rw[uxt hn1];simp
 have hgW2:(W1.setRow w.heap.size ((A.map Z6).flatten++Z6 x++(t1++Z2)).toArray).drew.heap[g]?=some (.cells ((A.map Z6).flatten++(B.map Z6).flatten++rest).toArray Z4 (0,0)):=by
  show(W1.setRow w.heap.size _).heap[g]?=_
  rw[setRow_other W1 w.heap.size g _ (by exact oInsJ3)];exact hgW
 have hsz:(prog.info? Z4).map (·.size)=some Z5:=Z14
 have m1:Nat.min 1 (l.length+1-k)=1:=by show min _ _=_;exact oInsJ3
 have m2:Nat.min (l.length-k) (l.length+1-(k+1))=l.length-k:=by show min _ _=_;exact oInsJ3
 have hcp1:=fun ty=>uzd (P:=prog) Z5 Z10 Z10 ty Z4 (k*Z5) (l.length+1-k) (G-k) ⟨gv,0,none⟩ 1 1 Z12 hsz hn1 ha.symm (vs:=Z6 x) (by rw[hx5,m1,Nat.one_mul]) (by rw[hx5,hl3]) (fun j u hj=>by rw[Addr.add_lit,Nat.zero_add,hvW.cell];simpa[Z6] using hj) (by intro u hu;simp[Z6] at hu;rcases hu with rfl | rfl | rfl | rfl | rfl <;> rfl)
 have hcp2:=fun ty=>uzd (P:=prog) Z5 Z10 Z10 ty Z4 ((k+1)*Z5) (l.length+1-(k+1)) (G-(k+1)) ⟨g,k*Z5,none⟩ (l.length-k) (c-k) Z12 hsz hN (by rw[zrb,ha,hx5];exact oInsJ3) (by rw[hb,m2]) (by rw[hb,hl4]) (uz5 hgW2 (k*Z5) ha.symm) (Z15 B)
 have hfin:=uxt (cs':=(((A.map Z6).flatten++Z6 x)++(B.map Z6).flatten++Z2).toArray) hN
 have HO3:∀W:World,W.heap[w.heap.size]?=some (.cells (((A.map Z6).flatten++Z6 x)++(B.map Z6).flatten++Z2).toArray Z4 (0,0))->OwnR W base Z4 Z5 (some ⟨w.heap.size,0,none⟩) G ((A++x::B).map Z6):=fun W hW=>by
  refine OwnR.of_ (rest:=Z2) (Z7 _) hbw ?_ ?_ (by rw[zre,zrb,List.length_cons,hla,hlb];exact oInsJ3) hG2
  ·rw[hW];simp
  ·simp only[List.map_append,List.map_cons,List.flatten_append,List.flatten_cons,zrb,ha,hb,hx5,hl2]
   have e1:(G-(l.length+1))*Z5=G*Z5-(l.length+1)*Z5:=Nat.sub_mul _ _ _
   have e2:=Nat.mul_le_mul_right Z5 hG1
   have e3:(l.length-k)*Z5=l.length*Z5-k*Z5:=Nat.sub_mul _ _ _
   have e4:=Nat.mul_le_mul_right Z5 (Nat.le_of_lt hk)
   exact oInsJ3
 have HO:=zrj (HO3 _ hfin)
 have hbz:Below w.heap.size w ((W1.setRow w.heap.size ((A.map Z6).flatten++Z6 x++(t1++Z2)).toArray).drew.setRow w.heap.size (((A.map Z6).flatten++Z6 x)++(B.map Z6).flatten++Z2).toArray):=uqh (uqh hb1 (zra _) _).drew (zra _) _
 have HB:=zrj hbz
 have x0:(0:Int)<=(k:Int):=by exact oInsJ3
 have x1:(k:Int)<=(l.length:Int):=by exact oInsJ3
 have x2:((k:Int) == (l.length:Int))=false:=by rw[zrf];exact oInsJ3
 have x3:(c:Int)<(l.length:Int)+1:=by exact oInsJ3
 have x4:(G=k+1)=False:=eq_false (by exact oInsJ3)
 have x5:(c=k)=False:=eq_false (by exact oInsJ3)
 have x5b:(G=k)=False:=eq_false (by exact oInsJ3)
 have x6:((k:Int)+1).toNat=k+1:=by exact oInsJ3
 have x8:(0:Int)<=(k:Int)+1:=by exact oInsJ3
 have x10:(k:Int)+1<=(l.length:Int)+1:=by exact oInsJ3
 have x12:(k:Int)<=(l.length:Int)+1:=by exact oInsJ3
 have x13:k+1<=l.length+1:=by exact oInsJ3
 have x14:k<=l.length+1:=by exact oInsJ3
 have x15:k<=l.length:=by exact oInsJ3
 have x16:k<=c:=by exact oInsJ3
 have x17:IntKind.i64.wrap ((k:Int)+1)=(k:Int)+1:=IntWalk.i64_in _ (by exact oInsJ3)
 have x18:IntKind.i64.wrap ((l.length:Int)+1)=(l.length:Int)+1:=IntWalk.i64_in _ (by exact oInsJ3)
 have x19:IntKind.i64.wrap ((l.length:Int)+1-(k:Int))=(l.length:Int)+1-(k:Int):=IntWalk.i64_in _ (by exact oInsJ3)
 have HRZ:=zrj hrz
 have HC1:=zrj hcp1
 have HC2:=zrj hcp2
 generalize((A.map Z6).flatten++Z6 x++(t1++Z2)).toArray=CS1 at *
 generalize(((A.map Z6).flatten++Z6 x)++(B.map Z6).flatten++Z2).toArray=CS2 at *
 clear hO hA hla hlb hAA hBB ha hb hfe hg0 hg0' hg hold hik hkk hrz hZ1 hZ2 hl1 hl2 hrow hl3 hl4 ht1 hb1 hn1 hgW hvW hN hgW2 hsz m2 hcp1 hcp2 hfin HO3 hbz hne hv hlen
 rw[m1] at HC1
 have hcc:=HC1.out 3
 go_enter Z8,Z9
 go_upto_region 11 with(at_builtin;refine Lib.wpList_append_run _ rfl _ _ _ _ rfl _ _ rfl rfl _ _ (HRZ.out _) ?_)
 have G0:GrB (W1.setRow w.heap.size CS1) w.heap.size (W1.setRow w.heap.size CS1).drew:=GrB.start _ _
 refine wp_region_held_drew (S:=GrB (W1.setRow w.heap.size CS1) w.heap.size) (by kernel_rfl) G0 (fun hHeld=>?_)
 refine tq 0 ?_
 refine tq 1 ?_
 refine tq 2 ?_
 refine tq 3 ?_
 refine tq 4 ?_
 refine tq 5 ?_
 refine tq 6 ?_
 refine tq 7 ?_
 refine tr 8 rfl (fun K hK=>?_)
 refine ujq rfl _ _ Z10 Z10 rfl (.slice (some ⟨w.heap.size,(k+1)*Z5,none⟩) (l.length+1-(k+1)) (G-(k+1))) (.slice (some ⟨g,k*Z5,none⟩) (l.length-k) (c-k)) (by simp[Act.eval,Act.put]) (by simp[Act.eval,Act.put]) (HC2.out _) ?_
 refine hK.out _ _ (GrB.row G0 _) (fun hHeld=>?_)
 clear hK K
 (try simp only[Act.put,ma,mb,mc,md,me,mf])
 refine wpAnyH_done (by kernel_rfl) ?_ _
 go_wp2_with fail
 go_ret
 exact⟨some ⟨w.heap.size,0,none⟩,G,rfl,by simpa using HO.out,⟨HB.out.os,HB.out.tape,HB.out.output,HB.out.size,fun j hj _=>HB.out.block j hj⟩⟩):p:=h
theorem sInsJ4 {p:Prop} (h:p:=by
 by_cases h1:k=l.length
 ·exact Z19 l k x gv base p c w hO hv hbw hl h1
 ·by_cases h2:l.length+1<=c
  ·exact Z20 l k x gv base p c w hO hv hbw hl (by omega) hgv h2
  ·exact Z21 l k x gv base p c w hO hv hbw hl (by omega) (by omega)):p:=h
@[simp] abbrev cInsJ0J:Nat:=38
@[simp] abbrev cInsJ0N:Nat:=40
@[simp] abbrev cInsJ0L:Nat:=42
@[simp] abbrev cInsJ1J:Nat:=5
@[simp] abbrev cInsJ1N:Nat:=3
@[simp] abbrev cInsJ1L:Nat:=3
@[simp] abbrev cInsJ2J:Nat:=22
@[simp] abbrev cInsJ2N:Nat:=23
@[simp] abbrev cInsJ2L:Nat:=24
@[simp] abbrev cInsJ3J:Nat:=56
@[simp] abbrev cInsJ3N:Nat:=40
@[simp] abbrev cInsJ3L:Nat:=40
@[simp] abbrev cInsJ4J:Nat:=186
@[simp] abbrev cInsJ4N:Nat:=190
@[simp] abbrev cInsJ4L:Nat:=211
section
open Go.RowKit
open YtknmnhleicakhaaGreatDoor renaming uve -> Z3, cInsJ0J -> Z4, cInsJ1J -> Z5, rowJ -> Z6, uxy -> Z7, cInsJ2J -> Z10, cInsJ3J -> Z11
open Go.Proofs.Tryz renaming func150 -> Z8, ntmps150 -> Z9, underlying22 -> Z12
theorem wvy (l:List JobD) (k:Nat) (x:JobD) (gv base:Nat) (p:Zoa) (c:Nat) (w:World) (hO:OwnR w base 38 5 p c (l.map rowJ)) (hv:Blk w gv 38 (rwJ x)) (hbw:base<=w.heap.size) (hl:l.length<=1000) (hk:k=l.length) :
  Calls prog 150 #[.slice p l.length c,.int .i64 (k:Int),.slice (some ⟨gv,0,none⟩) 1 1] w fun e w'=>∃p' c',e=.returned (.slice p' (l.length+1) c')/\OwnR w' base 38 5 p' c' ((l.take k++x::l.drop k).map rowJ)/\w.grownBy w' (Value.slice p l.length c).ownBlock:=sInsJ1
open YtknmnhleicakhaaGreatDoor renaming rwJ -> Z13, uqo -> Z14, vqr -> Z15, cInsJ4J -> Z16
open Go.Proofs.Tryz renaming func186 -> Z17
theorem wji (l:List JobD) (k:Nat) (x:JobD) (gv base:Nat) (p:Zoa) (c:Nat) (w:World) (hO:OwnR w base 38 5 p c (l.map rowJ)) (hv:Blk w gv 38 (rwJ x)) (hbw:base<=w.heap.size) (hl:l.length<=1000) (hk:k<l.length) (hgv:∀g,p=some ⟨g,0,none⟩->g≠gv) (hroom:l.length+1<=c) :
  Calls prog 150 #[.slice p l.length c,.int .i64 (k:Int),.slice (some ⟨gv,0,none⟩) 1 1] w fun e w'=>∃p' c',e=.returned (.slice p' (l.length+1) c')/\OwnR w' base 38 5 p' c' ((l.take k++x::l.drop k).map rowJ)/\w.grownBy w' (Value.slice p l.length c).ownBlock:=sInsJ2
open YtknmnhleicakhaaGreatDoor renaming zwJ -> Z18
theorem wjh (l:List JobD) (k:Nat) (x:JobD) (gv base:Nat) (p:Zoa) (c:Nat) (w:World) (hO:OwnR w base 38 5 p c (l.map rowJ)) (hv:Blk w gv 38 (rwJ x)) (hbw:base<=w.heap.size) (hl:l.length<=1000) (hk:k<l.length) (hfull:c<l.length+1) :
  Calls prog 150 #[.slice p l.length c,.int .i64 (k:Int),.slice (some ⟨gv,0,none⟩) 1 1] w fun e w'=>∃p' c',e=.returned (.slice p' (l.length+1) c')/\OwnR w' base 38 5 p' c' ((l.take k++x::l.drop k).map rowJ)/\w.grownBy w' (Value.slice p l.length c).ownBlock:=sInsJ3
open YtknmnhleicakhaaGreatDoor renaming wvy -> Z19, wji -> Z20, wjh -> Z21
theorem wvx (l:List JobD) (k:Nat) (x:JobD) (gv base:Nat) (p:Zoa) (c:Nat) (w:World) (hO:OwnR w base 38 5 p c (l.map rowJ)) (hv:Blk w gv 38 (rwJ x)) (hbw:base<=w.heap.size) (hl:l.length<=1000) (hk:k<=l.length) (hgv:∀g,p=some ⟨g,0,none⟩->g≠gv) :
  Calls prog 150 #[.slice p l.length c,.int .i64 (k:Int),.slice (some ⟨gv,0,none⟩) 1 1] w fun e w'=>∃p' c',e=.returned (.slice p' (l.length+1) c')/\OwnR w' base 38 5 p' c' ((l.take k++x::l.drop k).map rowJ)/\w.grownBy w' (Value.slice p l.length c).ownBlock:=sInsJ4
end
section
open Go.RowKit
open YtknmnhleicakhaaGreatDoor renaming uj7 -> Z3, cInsJ0N -> Z4, cInsJ1N -> Z5, rowN -> Z6, uxz -> Z7, cInsJ2N -> Z10, cInsJ3N -> Z11
open Go.Proofs.Tryz renaming func152 -> Z8, ntmps152 -> Z9, underlying23 -> Z12
theorem wv2 (l:List NodeD) (k:Nat) (x:NodeD) (gv base:Nat) (p:Zoa) (c:Nat) (w:World) (hO:OwnR w base 40 3 p c (l.map rowN)) (hv:Blk w gv 40 (rwN x)) (hbw:base<=w.heap.size) (hl:l.length<=1000) (hk:k=l.length) :
  Calls prog 152 #[.slice p l.length c,.int .i64 (k:Int),.slice (some ⟨gv,0,none⟩) 1 1] w fun e w'=>∃p' c',e=.returned (.slice p' (l.length+1) c')/\OwnR w' base 40 3 p' c' ((l.take k++x::l.drop k).map rowN)/\w.grownBy w' (Value.slice p l.length c).ownBlock:=sInsJ1
open YtknmnhleicakhaaGreatDoor renaming rwN -> Z13, uqk -> Z14, vqt -> Z15, cInsJ4N -> Z16
open Go.Proofs.Tryz renaming func190 -> Z17
theorem wjo (l:List NodeD) (k:Nat) (x:NodeD) (gv base:Nat) (p:Zoa) (c:Nat) (w:World) (hO:OwnR w base 40 3 p c (l.map rowN)) (hv:Blk w gv 40 (rwN x)) (hbw:base<=w.heap.size) (hl:l.length<=1000) (hk:k<l.length) (hgv:∀g,p=some ⟨g,0,none⟩->g≠gv) (hroom:l.length+1<=c) :
  Calls prog 152 #[.slice p l.length c,.int .i64 (k:Int),.slice (some ⟨gv,0,none⟩) 1 1] w fun e w'=>∃p' c',e=.returned (.slice p' (l.length+1) c')/\OwnR w' base 40 3 p' c' ((l.take k++x::l.drop k).map rowN)/\w.grownBy w' (Value.slice p l.length c).ownBlock:=sInsJ2
open YtknmnhleicakhaaGreatDoor renaming zwN -> Z18
theorem wjn (l:List NodeD) (k:Nat) (x:NodeD) (gv base:Nat) (p:Zoa) (c:Nat) (w:World) (hO:OwnR w base 40 3 p c (l.map rowN)) (hv:Blk w gv 40 (rwN x)) (hbw:base<=w.heap.size) (hl:l.length<=1000) (hk:k<l.length) (hfull:c<l.length+1) :
  Calls prog 152 #[.slice p l.length c,.int .i64 (k:Int),.slice (some ⟨gv,0,none⟩) 1 1] w fun e w'=>∃p' c',e=.returned (.slice p' (l.length+1) c')/\OwnR w' base 40 3 p' c' ((l.take k++x::l.drop k).map rowN)/\w.grownBy w' (Value.slice p l.length c).ownBlock:=sInsJ3
open YtknmnhleicakhaaGreatDoor renaming wv2 -> Z19, wjo -> Z20, wjn -> Z21
theorem wv1 (l:List NodeD) (k:Nat) (x:NodeD) (gv base:Nat) (p:Zoa) (c:Nat) (w:World) (hO:OwnR w base 40 3 p c (l.map rowN)) (hv:Blk w gv 40 (rwN x)) (hbw:base<=w.heap.size) (hl:l.length<=1000) (hk:k<=l.length) (hgv:∀g,p=some ⟨g,0,none⟩->g≠gv) :
  Calls prog 152 #[.slice p l.length c,.int .i64 (k:Int),.slice (some ⟨gv,0,none⟩) 1 1] w fun e w'=>∃p' c',e=.returned (.slice p' (l.length+1) c')/\OwnR w' base 40 3 p' c' ((l.take k++x::l.drop k).map rowN)/\w.grownBy w' (Value.slice p l.length c).ownBlock:=sInsJ4
end
section
open Go.RowKit
open YtknmnhleicakhaaGreatDoor renaming ujl -> Z3, cInsJ0L -> Z4, cInsJ1L -> Z5, rowL -> Z6, uxm -> Z7, cInsJ2L -> Z10, cInsJ3L -> Z11
open Go.Proofs.Tryz renaming func195 -> Z8, ntmps195 -> Z9, underlying24 -> Z12
theorem wv0 (l:List uqb) (k:Nat) (x:uqb) (gv base:Nat) (p:Zoa) (c:Nat) (w:World) (hO:OwnR w base 42 3 p c (l.map rowL)) (hv:Blk w gv 42 (rwL x)) (hbw:base<=w.heap.size) (hl:l.length<=1000) (hk:k=l.length) :
  Calls prog 195 #[.slice p l.length c,.int .i64 (k:Int),.slice (some ⟨gv,0,none⟩) 1 1] w fun e w'=>∃p' c',e=.returned (.slice p' (l.length+1) c')/\OwnR w' base 42 3 p' c' ((l.take k++x::l.drop k).map rowL)/\w.grownBy w' (Value.slice p l.length c).ownBlock:=sInsJ1
open YtknmnhleicakhaaGreatDoor renaming rwL -> Z13, uqj -> Z14, vqs -> Z15, cInsJ4L -> Z16
open Go.Proofs.Tryz renaming func211 -> Z17
theorem wjl (l:List uqb) (k:Nat) (x:uqb) (gv base:Nat) (p:Zoa) (c:Nat) (w:World) (hO:OwnR w base 42 3 p c (l.map rowL)) (hv:Blk w gv 42 (rwL x)) (hbw:base<=w.heap.size) (hl:l.length<=1000) (hk:k<l.length) (hgv:∀g,p=some ⟨g,0,none⟩->g≠gv) (hroom:l.length+1<=c) :
  Calls prog 195 #[.slice p l.length c,.int .i64 (k:Int),.slice (some ⟨gv,0,none⟩) 1 1] w fun e w'=>∃p' c',e=.returned (.slice p' (l.length+1) c')/\OwnR w' base 42 3 p' c' ((l.take k++x::l.drop k).map rowL)/\w.grownBy w' (Value.slice p l.length c).ownBlock:=sInsJ2
open YtknmnhleicakhaaGreatDoor renaming zwL -> Z18
theorem wjk (l:List uqb) (k:Nat) (x:uqb) (gv base:Nat) (p:Zoa) (c:Nat) (w:World) (hO:OwnR w base 42 3 p c (l.map rowL)) (hv:Blk w gv 42 (rwL x)) (hbw:base<=w.heap.size) (hl:l.length<=1000) (hk:k<l.length) (hfull:c<l.length+1) :
  Calls prog 195 #[.slice p l.length c,.int .i64 (k:Int),.slice (some ⟨gv,0,none⟩) 1 1] w fun e w'=>∃p' c',e=.returned (.slice p' (l.length+1) c')/\OwnR w' base 42 3 p' c' ((l.take k++x::l.drop k).map rowL)/\w.grownBy w' (Value.slice p l.length c).ownBlock:=sInsJ3
open YtknmnhleicakhaaGreatDoor renaming wv0 -> Z19, wjl -> Z20, wjk -> Z21
theorem wvz (l:List uqb) (k:Nat) (x:uqb) (gv base:Nat) (p:Zoa) (c:Nat) (w:World) (hO:OwnR w base 42 3 p c (l.map rowL)) (hv:Blk w gv 42 (rwL x)) (hbw:base<=w.heap.size) (hl:l.length<=1000) (hk:k<=l.length) (hgv:∀g,p=some ⟨g,0,none⟩->g≠gv) :
  Calls prog 195 #[.slice p l.length c,.int .i64 (k:Int),.slice (some ⟨gv,0,none⟩) 1 1] w fun e w'=>∃p' c',e=.returned (.slice p' (l.length+1) c')/\OwnR w' base 42 3 p' c' ((l.take k++x::l.drop k).map rowL)/\w.grownBy w' (Value.slice p l.length c).ownBlock:=sInsJ4
end
end Go.Proofs.YtknmnhleicakhaaGreatDoor
