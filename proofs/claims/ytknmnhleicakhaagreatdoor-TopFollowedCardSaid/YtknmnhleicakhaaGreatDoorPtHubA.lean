/- Lemmas.
-/
import Derived.Test.YtknmnhleicakhaaGreatDoorPtHubP
import Derived.Test.YtknmnhleicakhaaGreatDoorPtSvSame
set_option linter.all false
set_option maxHeartbeats 16000000
set_option maxRecDepth 100000
namespace Go.Proofs.YtknmnhleicakhaaGreatDoor
open Go.Proofs.Tryz
open Go.RowKit
structure ConnM where
 fp:Value
 cl:Bool
 wt:Bool
 ws:Value
def connL (c:ConnM):List Value:=[c.fp,.bool c.cl,.bool c.wt,c.ws]
def hubL (sv:Value) (cs:Nat->ConnM):List Value:=sv::(connL (cs 0)++(connL (cs 1)++(connL (cs 2)++(connL (cs 3)++(connL (cs 4)++(connL (cs 5)++(connL (cs 6)++connL (cs 7))))))))
def hubA (sv:Value) (cs:Nat->ConnM):Array Value:=(hubL sv cs).toArray
def updM (cs:Nat->ConnM) (k:Nat) (x:ConnM):Nat->ConnM:=fun i=>if i=k then x else cs i
theorem vxw {p:Nat->Prop} {k:Nat} (hk:k<8) (h0:p 0) (h1:p 1) (h2:p 2) (h3:p 3) (h4:p 4) (h5:p 5) (h6:p 6) (h7:p 7):p k:=by
 rcases k with _ | _ | _ | _ | _ | _ | _ | _ | k
 all_goals first | assumption | omega
section
variable {sv:Value} {cs:Nat->ConnM} {k:Nat}
theorem xvf:(hubA sv cs)[0]?=some sv:=rfl
theorem xve (hk:k<8):(hubA sv cs)[1+k*4]?=some (cs k).fp:=vxw (p:=fun k=>(hubA sv cs)[1+k*4]?=some (cs k).fp) hk rfl rfl rfl rfl rfl rfl rfl rfl
theorem hubA_cl (hk:k<8):(hubA sv cs)[1+k*4+1]?=some (.bool (cs k).cl):=vxw (p:=fun k=>(hubA sv cs)[1+k*4+1]?=some (.bool (cs k).cl)) hk rfl rfl rfl rfl rfl rfl rfl rfl
theorem hubA_wt (hk:k<8):(hubA sv cs)[1+k*4+2]?=some (.bool (cs k).wt):=vxw (p:=fun k=>(hubA sv cs)[1+k*4+2]?=some (.bool (cs k).wt)) hk rfl rfl rfl rfl rfl rfl rfl rfl
theorem wvu (hk:k<8):(hubA sv cs)[1+k*4+3]?=some (cs k).ws:=vxw (p:=fun k=>(hubA sv cs)[1+k*4+3]?=some (cs k).ws) hk rfl rfl rfl rfl rfl rfl rfl rfl
theorem wvr (hk:k<8) (v:Value):(hubA sv cs).setIfInBounds (1+k*4) v=hubA sv (updM cs k { cs k with fp:=v }):=vxw (p:=fun k=>(hubA sv cs).setIfInBounds (1+k*4) v=hubA sv (updM cs k { cs k with fp:=v })) hk rfl rfl rfl rfl rfl rfl rfl rfl
theorem wvq (hk:k<8) (b:Bool):(hubA sv cs).setIfInBounds (1+k*4+1) (.bool b)=hubA sv (updM cs k { cs k with cl:=b }):=vxw (p:=fun k=>(hubA sv cs).setIfInBounds (1+k*4+1) (.bool b)=hubA sv (updM cs k { cs k with cl:=b })) hk rfl rfl rfl rfl rfl rfl rfl rfl
theorem wvt (hk:k<8) (b:Bool):(hubA sv cs).setIfInBounds (1+k*4+2) (.bool b)=hubA sv (updM cs k { cs k with wt:=b }):=vxw (p:=fun k=>(hubA sv cs).setIfInBounds (1+k*4+2) (.bool b)=hubA sv (updM cs k { cs k with wt:=b })) hk rfl rfl rfl rfl rfl rfl rfl rfl
theorem wvs (hk:k<8) (v:Value):(hubA sv cs).setIfInBounds (1+k*4+3) v=hubA sv (updM cs k { cs k with ws:=v }):=vxw (p:=fun k=>(hubA sv cs).setIfInBounds (1+k*4+3) v=hubA sv (updM cs k { cs k with ws:=v })) hk rfl rfl rfl rfl rfl rfl rfl rfl
theorem uj5 {cs':Nat->ConnM} (h:∀i<8,cs i=cs' i):hubA sv cs=hubA sv cs':=by
 unfold hubA hubL
 rw[h 0 (by decide),h 1 (by decide),h 2 (by decide),h 3 (by decide),h 4 (by decide),h 5 (by decide),h 6 (by decide),h 7 (by decide)]
end
def cellC (h:HubD) (fd:Nat->Nat) (ws:Nat->Value) (i:Nat):ConnM:=⟨.pointer (some ⟨fd i,0,none⟩),(h.c i).closed,(h.c i).watch,ws i⟩
def uv9 (g sv:Nat) (fd:Nat->Nat) (ws:Nat->Value) (k:Nat):Prop:=k=g\/k=sv\/(∃i,i<8/\k=fd i)\/∃i,i<8/\(ws i).ownBlock=some k
structure HubM (w:World) (B g sv:Nat) (fd:Nat->Nat) (ws:Nat->Value) (h:HubD):Prop where
 b:Blk w g 67 (hubA (zse sv) (cellC h fd ws))
 s:SvI w sv h.srv
 f:∀i,i<8->FeedIs w (fd i) (h.c i).L
 d:∀i j,i<8->j<8->fd i=fd j->i=j
 q:∀i,i<8->Buf 5 w B (ws i) (encs (h.c i).waits)
 e:∀i j,i<8->j<8->i≠j->∀k,(ws i).ownBlock=some k->(ws j).ownBlock≠some k
 lo:B<=g/\B<=sv/\(∀i,i<8->B<=fd i)/\B<=w.heap.size
structure HTch (O:Nat->Prop) (w w':World):Prop where
 os:w'.os=w.os
 tape:w'.tape=w.tape
 output:w'.output=w.output
 size:w.heap.size<=w'.heap.size
 block:∀k,k<w.heap.size->¬O k->w'.heap[k]?=w.heap[k]?
section
variable {w w' w2:World} {O O':Nat->Prop} {B:Nat}
theorem HTch.refl (O:Nat->Prop) (w:World):HTch O w w:=⟨rfl,rfl,rfl,zra _,fun _ _ _=>rfl⟩
theorem HTch.of_below (h:Below w.heap.size w w'):HTch O w w':=⟨h.os,h.tape,h.output,h.size,fun k hk _=>h.block k hk⟩
theorem HTch.of_grown {r:Option Nat} (h:w.grownBy w' r) (hO:∀k,r=some k->O k):HTch O w w':=⟨h.os,h.tape,h.output,h.size,fun k hk hn=>h.block k hk (fun e=>hn (hO k e.symm))⟩
theorem HTch.trans (h:HTch O w w') (h2:HTch O' w' w2) (hO:∀k,k<w.heap.size->O' k->O k):HTch O w w2 :=
 ⟨h2.os.trans h.os,h2.tape.trans h.tape,h2.output.trans h.output,zrc h.size h2.size,fun k hk hn=>(h2.block k (Nat.lt_of_lt_of_le hk h.size) (fun h'=>hn (hO k hk h'))).trans (h.block k hk hn)⟩
theorem HTch.below (h:HTch O w w') (hO:∀k,O k->B<=k) (hB:B<=w.heap.size):Below B w w':=⟨h.os,h.tape,h.output,h.size,fun k hk=>h.block k (by omega) (fun h'=>by have:=hO k h';omega)⟩
theorem HTch.blk (h:HTch O w w') {k:Nat} {t:TypeId} {cs:Array Value} (hb:Blk w k t cs) (hk:¬O k):Blk w' k t cs:=(h.block k hb.lt hk).trans hb
theorem HTch.mono (h:HTch O w w') (hO:∀k,O k->O' k):HTch O' w w':=⟨h.os,h.tape,h.output,h.size,fun k hk hn=>h.block k hk (fun h'=>hn (hO k h'))⟩
theorem HTch.set_ (h:HTch O w w') {g:Nat} (hg:O g\/w.heap.size<=g) (i:Nat) (u:Value):HTch O w (w'.setCell ⟨g,i,none⟩ u) :=
 ⟨h.os,h.tape,h.output,by simpa using h.size,fun k hk hn=>(Below.heap_setCell w' ⟨g,i,none⟩ u k (by intro e;simp only at e;subst e;rcases hg with hg | hg;exact hn hg;omega)).trans (h.block k hk hn)⟩
end
section
variable {w w':World} {B g sv:Nat} {fd:Nat->Nat} {ws:Nat->Value} {h:HubD}
theorem Buf.own {v:Value} {l:Zlu} {base:Nat} (hq:Buf 5 w base v l) {k:Nat} (hk:v.ownBlock=some k):∃cs,Blk w k 5 cs:=by
 rcases hq.2 with⟨rfl,_⟩ | ⟨g,cap,cur,rfl,_,hg,_⟩
 ·cases hk
 ·simp only[Value.ownBlock,Option.some.injEq] at hk
  subst hk
  exact⟨cur,hg⟩
theorem HubM.own_ge (H:HubM w B g sv fd ws h) {k:Nat} (hk:uv9 g sv fd ws k):B<=k/\k<w.heap.size:=by
 rcases hk with rfl | rfl | ⟨i,hi,rfl⟩ | ⟨i,hi,hk⟩
 ·exact⟨H.lo.1,H.b.lt⟩
 ·exact⟨H.lo.2.1,H.s.lt⟩
 ·exact⟨H.lo.2.2.1 i hi,(H.f i hi).lt⟩
 ·exact World.ownsRow.lt (H.q i hi) k hk
theorem HubM.kinds (H:HubM w B g sv fd ws h) {k:Nat} (hk:uv9 g sv fd ws k):∃t cs,Blk w k t cs/\(t=67 \/ t=94 \/ t=96 \/ t=5):=by
 rcases hk with rfl | rfl | ⟨i,hi,rfl⟩ | ⟨i,hi,hk⟩
 ·exact⟨_,_,H.b,.inl rfl⟩
 ·obtain⟨cs,hb⟩:=H.s.blk
  exact⟨_,cs,hb,.inr (.inl rfl)⟩
 ·obtain⟨cs,hb⟩:=(H.f i hi).own
  exact⟨_,cs,hb,.inr (.inr (.inl rfl))⟩
 ·obtain⟨cs,hb⟩:=(H.q i hi).own hk
  exact⟨_,cs,hb,.inr (.inr (.inr rfl))⟩
theorem HubM.other (H:HubM w B g sv fd ws h) {k:Nat} {t:TypeId} {cs:Array Value} (hb:Blk w k t cs) (h1:t≠67) (h2:t≠94) (h3:t≠96) (h4:t≠5):¬uv9 g sv fd ws k:=by
 intro hk
 obtain⟨t',cs',hb',hh⟩:=H.kinds hk
 have ht:t=t':=by
  have h0:=hb.symm.trans hb'
  injection h0 with h0
  injection h0
 subst ht
 rcases hh with rfl | rfl | rfl | rfl
 ·exact h1 rfl
 ·exact h2 rfl
 ·exact h3 rfl
 ·exact h4 rfl
theorem Buf.kept {v:Value} {l:Zlu} {base:Nat} {r:Option Nat} (hq:Buf 5 w base v l) (hg:w.grownBy w' r) (hr:∀k,v.ownBlock=some k->r≠some k):Buf 5 w' base v l :=
 World.ownsRow.kept hq hg (by
  cases hv:v.ownBlock with
  | none=>exact .inl rfl
  | some k=>exact .inr (fun e=>hr k hv e.symm))
theorem HubM.below (H:HubM w B g sv fd ws h) (hb:Below w.heap.size w w'):HubM w' B g sv fd ws h :=
 ⟨H.b.below hb H.b.lt,H.s.below hb,fun i hi=>(H.f i hi).below hb (H.f i hi).lt,H.d,fun i hi=>(H.q i hi).kept (vxh hb none) (fun k _ e=>by cases e),H.e,⟨H.lo.1,H.lo.2.1,H.lo.2.2.1,zrc H.lo.2.2.2 hb.size⟩⟩
theorem Blk.kept {k:Nat} {t:TypeId} {cs:Array Value} {r:Option Nat} (hb:Blk w k t cs) (hg:w.grownBy w' r) (hr:r≠some k):Blk w' k t cs:=(hg.block k hb.lt (fun e=>hr e.symm)).trans hb
theorem HubM.serve (H:HubM w B g sv fd ws h) {v:Srv} (hs:SvI w' sv v) (hg:w.grownBy w' (some sv)):HubM w' B g sv fd ws ⟨v,h.c⟩:=by
 obtain⟨c2,h2⟩:=H.s.blk
 have n1:g≠sv:=H.b.ne_ h2 (by decide)
 have n2:∀i,i<8->fd i≠sv:=fun i hi=>(H.f i hi).ne_ h2 (by decide)
 refine⟨H.b.kept hg (fun e=>n1 (by injection e with e;exact e.symm)),hs,fun i hi=>(H.f i hi).kept hg (fun e=>n2 i hi (by injection e with e;exact e.symm)),H.d,fun i hi=>(H.q i hi).kept hg (fun k hk e=>?_),H.e,⟨H.lo.1,H.lo.2.1,H.lo.2.2.1,zrc H.lo.2.2.2 hg.size⟩⟩
 obtain⟨c3,h3⟩:=(H.q i hi).own hk
 injection e with e
 subst e
 exact absurd rfl (h3.ne_ h2 (by decide))
theorem SvI.grown {v:Srv} (hs:SvI w sv v) {r:Option Nat} (hg:w.grownBy w' r) {t:TypeId} (ht:t=96 \/ t=5 \/ t=67) (hr:∀k,r=some k->∃cs,Blk w k t cs):SvI w' sv v:=by
 obtain⟨q1,q2,q3,d1,d2,d3,hM⟩:=hs
 cases r with
 | none =>
  have hb:Below w.heap.size w w':=⟨hg.os,hg.tape,hg.output,hg.size,fun k hk=>hg.block k hk (by simp)⟩
  exact⟨q1,q2,q3,d1,d2,d3,hM.below hb⟩
 | some k =>
  obtain⟨cs,hk⟩:=hr k rfl
  refine⟨q1,q2,q3,d1,d2,d3,GrB.blk hg hM.b (hM.b.ne_ hk ?_),hM.own.other hg hk ?_ ?_ ?_⟩
  all_goals rcases ht with rfl | rfl | rfl <;> decide
theorem HubM.fed (H:HubM w B g sv fd ws h) {k:Nat} (hk:k<8) {s:Zlu} (hf:FeedIs w' (fd k) ((h.c k).L++s)) (hg:w.grownBy w' (some (fd k))):HubM w' B g sv fd ws (h.feed k s):=by
 obtain⟨cs2,h2⟩:=(H.f k hk).own
 have n1:g≠fd k:=H.b.ne_ h2 (by decide)
 have hc:∀i,i<8->cellC h fd ws i=cellC (h.feed k s) fd ws i:=by
  intro i _
  unfold cellC HubD.feed HubD.upd
  by_cases hi:i=k
  ·subst hi;simp
  ·simp[hi]
 refine⟨?_,H.s.grown hg (.inl rfl) (fun j e=>by injection e with e;subst e;exact⟨_,h2⟩),fun i hi=>?_,H.d,fun i hi=>?_,H.e,⟨H.lo.1,H.lo.2.1,H.lo.2.2.1,zrc H.lo.2.2.2 hg.size⟩⟩
 ·rw[<- uj5 hc]
  exact H.b.kept hg (fun e=>n1 (by injection e with e;exact e.symm))
 ·by_cases hik:i=k
  ·subst hik
   have:((h.feed i s).c i).L=(h.c i).L++s:=by unfold HubD.feed;rw[uqs]
   rw[this];exact hf
  ·have:((h.feed k s).c i)=h.c i:=by unfold HubD.feed;rw[uq1 _ _ hik]
   rw[this]
   exact(H.f i hi).kept hg (fun e=>hik (H.d i k hi hk (by injection e with e;exact e.symm)))
 ·have hw:((h.feed k s).c i).waits=(h.c i).waits:=by
   unfold HubD.feed
   by_cases hik:i=k
   ·subst hik;rw[uqs]
   ·rw[uq1 _ _ hik]
  rw[hw]
  refine(H.q i hi).kept hg (fun j hj e=>?_)
  obtain⟨c3,h3⟩:=(H.q i hi).own hj
  injection e with e
  subst e
  exact absurd rfl (h3.ne_ h2 (by decide))
def updV (ws:Nat->Value) (k:Nat) (v:Value):Nat->Value:=fun i=>if i=k then v else ws i
theorem HubM.put (H:HubM w B g sv fd ws h) {k:Nat} (hk:k<8) {w1:World} {v:Value} {fs:List Fr} (hg:w.grownBy w1 (ws k).ownBlock) (hq:Buf 5 w1 B v (encs fs)) (hn:v.ownBlock=(ws k).ownBlock\/∀b,v.ownBlock=some b->w.heap.size<=b) :
  HubM (w1.setCell ⟨g,1+k*4+3,none⟩ v) B g sv fd (updV ws k v) (h.upd k { h.c k with waits:=fs }):=by
 have hgb:∀j,(ws k).ownBlock=some j->j≠g:=fun j hj e=>by
  obtain⟨c3,h3⟩:=(H.q k hk).own hj
  subst e
  exact absurd rfl (h3.ne_ H.b (by decide))
 have b1:Blk w1 g 67 (hubA (zse sv) (cellC h fd ws)):=H.b.kept hg (fun e=>hgb g e rfl)
 have hc:∀i,i<8->updM (cellC h fd ws) k { cellC h fd ws k with ws:=v } i=cellC (h.upd k { h.c k with waits:=fs }) fd (updV ws k v) i:=by
  intro i _
  unfold updM cellC HubD.upd updV
  by_cases hi:i=k
  ·subst hi;simp
  ·simp[hi]
 have s1:SvI w1 sv h.srv:=H.s.grown hg (.inr (.inl rfl)) (fun j e=>(H.q k hk).own e)
 have hset:=uzh w1 g (1+k*4+3) v
 have vnb:∀j,v.ownBlock=some j->j≠g:=fun j hj e=>by
  obtain⟨c3,h3⟩:=hq.own hj
  subst e
  exact absurd rfl (h3.ne_ b1 (by decide))
 refine⟨?_,s1.grown hset (.inr (.inr rfl)) (fun j e=>by injection e with e;subst e;exact⟨_,b1⟩),fun i hi=>?_,H.d,fun i hi=>?_,fun i j hi hj hij b hb=>?_,⟨H.lo.1,H.lo.2.1,H.lo.2.2.1,by have:=hg.size;simp;have:=H.lo.2.2.2;omega⟩⟩
 ·rw[<- uj5 hc,<- wvs hk]
  exact b1.set_ _ _
 ·have hL:((h.upd k { h.c k with waits:=fs }).c i).L=(h.c i).L:=by
   by_cases hik:i=k
   ·subst hik;rw[uqs]
   ·rw[uq1 _ _ hik]
  rw[hL]
  have f1:=(H.f i hi).kept hg (fun e=>by
   obtain⟨c3,h3⟩:=(H.q k hk).own e
   exact absurd rfl ((H.f i hi).ne_ h3 (by decide)))
  exact f1.kept hset (fun e=>(f1.ne_ b1 (by decide)) (by injection e with e;exact e.symm))
 ·by_cases hik:i=k
  ·subst hik
   rw[uqs]
   show Buf _ _ _ (updV ws i v i) _
   unfold updV
   rw[if_pos rfl]
   exact hq.kept hset (fun j hj e=>vnb j hj (by injection e with e;exact e.symm))
  ·rw[uq1 _ _ hik]
   show Buf _ _ _ (updV ws k v i) _
   unfold updV
   rw[if_neg hik]
   have q1:=(H.q i hi).kept hg (fun j hj e=>H.e i k hi hk hik j hj e)
   refine q1.kept hset (fun j hj e=>?_)
   obtain⟨c3,h3⟩:=q1.own hj
   injection e with e
   subst e
   exact absurd rfl (h3.ne_ b1 (by decide))
 ·unfold updV at hb ⊢
  by_cases hik:i=k
  ·subst hik
   rw[if_pos rfl] at hb
   rw[if_neg (Ne.symm hij)]
   intro hc'
   rcases hn with hn | hn
   ·rw[hn] at hb;exact H.e i j hi hj hij b hb hc'
   ·have h1:=hn b hb
    have h2:=(World.ownsRow.lt (H.q j hj) b hc').2
    omega
  ·rw[if_neg hik] at hb
   by_cases hjk:j=k
   ·subst hjk
    rw[if_pos rfl]
    intro hc'
    rcases hn with hn | hn
    ·rw[hn] at hc';exact H.e i j hi hj hij b hb hc'
    ·have h1:=hn b hc'
     have h2:=(World.ownsRow.lt (H.q i hi) b hb).2
     omega
   ·rw[if_neg hjk];exact H.e i j hi hj hij b hb
theorem HubM.shut (H:HubM w B g sv fd ws h) {k:Nat} (hk:k<8) (b:Bool):HubM (w.setCell ⟨g,1+k*4+1,none⟩ (.bool b)) B g sv fd ws (h.upd k { h.c k with closed:=b }):=by
 have hset:=uzh w g (1+k*4+1) (.bool b)
 have hc:∀i,i<8->updM (cellC h fd ws) k { cellC h fd ws k with cl:=b } i=cellC (h.upd k { h.c k with closed:=b }) fd ws i:=by
  intro i _
  unfold updM cellC HubD.upd
  by_cases hi:i=k
  ·subst hi;simp
  ·simp[hi]
 refine⟨?_,H.s.grown hset (.inr (.inr rfl)) (fun j e=>by injection e with e;subst e;exact⟨_,H.b⟩),fun i hi=>?_,H.d,fun i hi=>?_,H.e,⟨H.lo.1,H.lo.2.1,H.lo.2.2.1,by simpa using H.lo.2.2.2⟩⟩
 ·rw[<- uj5 hc,<- wvq hk]
  exact H.b.set_ _ _
 ·have hL:((h.upd k { h.c k with closed:=b }).c i).L=(h.c i).L:=by
   by_cases hik:i=k
   ·subst hik;rw[uqs]
   ·rw[uq1 _ _ hik]
  rw[hL]
  exact(H.f i hi).kept hset (fun e=>((H.f i hi).ne_ H.b (by decide)) (by injection e with e;exact e.symm))
 ·have hL:((h.upd k { h.c k with closed:=b }).c i).waits=(h.c i).waits:=by
   by_cases hik:i=k
   ·subst hik;rw[uqs]
   ·rw[uq1 _ _ hik]
  rw[hL]
  refine(H.q i hi).kept hset (fun j hj e=>?_)
  obtain⟨c3,h3⟩:=(H.q i hi).own hj
  injection e with e
  subst e
  exact absurd rfl (h3.ne_ H.b (by decide))
theorem HubM.looks (H:HubM w B g sv fd ws h) {k:Nat} (hk:k<8) (b:Bool):HubM (w.setCell ⟨g,1+k*4+2,none⟩ (.bool b)) B g sv fd ws (h.upd k { h.c k with watch:=b }):=by
 have hset:=uzh w g (1+k*4+2) (.bool b)
 have hc:∀i,i<8->updM (cellC h fd ws) k { cellC h fd ws k with wt:=b } i=cellC (h.upd k { h.c k with watch:=b }) fd ws i:=by
  intro i _
  unfold updM cellC HubD.upd
  by_cases hi:i=k
  ·subst hi;simp
  ·simp[hi]
 refine⟨?_,H.s.grown hset (.inr (.inr rfl)) (fun j e=>by injection e with e;subst e;exact⟨_,H.b⟩),fun i hi=>?_,H.d,fun i hi=>?_,H.e,⟨H.lo.1,H.lo.2.1,H.lo.2.2.1,by simpa using H.lo.2.2.2⟩⟩
 ·rw[<- uj5 hc,<- wvt hk]
  exact H.b.set_ _ _
 ·have hL:((h.upd k { h.c k with watch:=b }).c i).L=(h.c i).L:=by
   by_cases hik:i=k
   ·subst hik;rw[uqs]
   ·rw[uq1 _ _ hik]
  rw[hL]
  exact(H.f i hi).kept hset (fun e=>((H.f i hi).ne_ H.b (by decide)) (by injection e with e;exact e.symm))
 ·have hL:((h.upd k { h.c k with watch:=b }).c i).waits=(h.c i).waits:=by
   by_cases hik:i=k
   ·subst hik;rw[uqs]
   ·rw[uq1 _ _ hik]
  rw[hL]
  refine(H.q i hi).kept hset (fun j hj e=>?_)
  obtain⟨c3,h3⟩:=(H.q i hi).own hj
  injection e with e
  subst e
  exact absurd rfl (h3.ne_ H.b (by decide))
end
def HubI (w:World) (B:Nat) (O:Nat->Prop) (g:Nat) (h:HubD):Prop:=∃sv fd ws,HubM w B g sv fd ws h/\∀k,uv9 g sv fd ws k->O k
def grewO (O:Nat->Prop) (w w':World) (k:Nat):Prop:=O k\/(w.heap.size<=k/\k<w'.heap.size)
section
variable {P:Program} {w:World}
theorem wqf (base:Nat) (t u ty e:TypeId) (i:TypeInfo) (ht:P.underlying t=some (.slice e)) (hu:P.underlying u=some .string) (hi:P.info? e=some i) (hz:i.zero=some (.int .u8 0))
  (hsize:i.size=1) (hby:i.bytes=1) (v:Value) (n:Nat) (xs:List Value) (hown:w.ownsRow base e 1 v n xs) (s:Zba)
  (h63:n+s.size<=maxLen) (hbytes:n+s.size<=140737488355328) {v':Value} {w':World} (hr:(Builtin.append_ #[t,u] ty #[v,.string s]).run P w=.ok v' w') :
  v'.ownBlock=v.ownBlock\/∀b,v'.ownBlock=some b->w.heap.size<=b:=by
 have hsmall:n+s.size<=9223372036854775807:=by simp only[maxLen] at h63;omega
 have hxl:xs.length=n:=by simpa using hown.1
 rcases hown.2 with⟨rfl,rfl⟩ | ⟨g,cap,cur,rfl,hbg,hg,hnc,hcm,hcs,htake⟩
 ·obtain⟨v2,w2,h1,h2,_,_⟩:=Lib.run_append_own_string (P:=P) w w.heap.size t u ty e i ht hu hi hz hsize hby (.slice none 0 0) 0 [] (World.ownsRow_nil _ _ _ _) s h63 hbytes (zra _)
  rw[hr] at h1
  injection h1 with h1 _
  subst h1
  exact .inr (fun b hb=>(World.ownsRow.lt h2 b hb).1)
 ·by_cases hroom:n+s.size<=cap
  ·have h1:=Lib.run_append_room_string (P:=P) w t u ty e i ht hu hi hsize g n cap cur hg s hroom (by omega)
   rw[hr] at h1
   injection h1 with h1 _
   subst h1
   exact .inl rfl
  ·have holds:∀j u,xs[j]?=some u->w.cell? ((⟨g,0,none⟩:Addr).add j)=some u:=hown.cells (g:=g) rfl
   have h1:=Lib.run_append_grow_string (P:=P) w t u ty e i (.int .u8 0) ht hu hi hz ⟨g,0,none⟩ n cap xs (by rw[hsize];simpa using hxl) holds s (by omega) (by omega) (by rw[hby];exact growslice_fits (by omega) (by omega))
   rw[hr] at h1
   injection h1 with h1 _
   subst h1
   right
   intro b hb
   simp only[Value.ownBlock,Option.some.injEq] at hb
   omega
theorem uvq {ops:Array Oper} {rest:List Oper} {o:Oper} {a:Act} {Q:Exit->Act->World->Prop} (hgd:o.guard=none) (s x:Operand) (t u:TypeId)
  (ho:o.op=.call { callee:=.builtin .append,args:=#[s,x],argTypes:=#[t,u] })
  (U:TypeId) (ht:P.underlying t=some (.slice U)) (hu:P.underlying u=some .string) (hinfo:(P.info? U).map (fun i=>(i.zero,i.size,i.bytes))=some (some (.int .u8 0),1,1))
  (base:Nat) (v:Value) (l:Zlu) (hs:a.eval s=v) (hbuf:Buf U w base v l) (y:Zba) (hx:a.eval x=.string y) (hlen:l.length+y.size<=140737488355328) (hbase:base<=w.heap.size)
  (h:∀v' w',Buf U w' base v' (l++y.data.toList)->w.grownBy w' v.ownBlock->(v'.ownBlock=v.ownBlock\/∀b,v'.ownBlock=some b->w.heap.size<=b)->wpList P ops Q rest (a.put o.dst v') w'):wpList P ops Q (o::rest) a w:=by
 obtain⟨i0,hi,hz,hz1,hz2⟩:=info_parts hinfo
 refine wpList_plain hgd fun K hK=>?_
 obtain⟨v',w',hr,h2,h3,h4⟩:=Lib.run_append_own_string (P:=P) w base t u o.type U i0 ht hu hi hz hz1 hz2 v l.length (uzk l) hbuf y (by simp only[maxLen];omega) hlen hbase
 have hat:=wqf (P:=P) (w:=w) base t u o.type U i0 ht hu hi hz hz1 hz2 v l.length (uzk l) hbuf y (by simp only[maxLen];omega) hlen hr
 unfold Oper.wp execOp
 simp only[ho,resolve,invoke,builtin,Sem.run_bind,Sem.run_pure,Result.andThen_ok,List.map_toArray,List.map_cons,List.map_nil,hs,hx,hr]
 refine hK _ _ (h v' w' ?_ h3 hat)
 unfold Buf
 rw[uke,zrb,<- uw0,uwa]
 exact h2
end
structure HubC (w:World) (g sv:Nat) (fd:Nat->Nat) (ws:Nat->Value) (w':World) (ws':Nat->Value):Prop where
 t:HTch (uv9 g sv fd ws) w w'
 n:∀i b,i<8->(ws' i).ownBlock=some b->(∃j,j<8/\(ws j).ownBlock=some b)\/w.heap.size<=b
section
variable {w w1 w2:World} {B g sv:Nat} {fd:Nat->Nat} {ws ws1 ws2:Nat->Value} {h:HubD}
theorem HubC.refl (w:World) (g sv:Nat) (fd:Nat->Nat) (ws:Nat->Value):HubC w g sv fd ws w ws:=⟨HTch.refl _ _,fun i b hi hb=>.inl ⟨i,hi,hb⟩⟩
theorem HubC.own (C:HubC w g sv fd ws w1 ws1) {k:Nat} (hk:k<w.heap.size) (h:uv9 g sv fd ws1 k):uv9 g sv fd ws k:=by
 rcases h with h | h | h | ⟨i,hi,hb⟩
 ·exact .inl h
 ·exact .inr (.inl h)
 ·exact .inr (.inr (.inl h))
 ·rcases C.n i k hi hb with h | h
  ·exact .inr (.inr (.inr h))
  ·omega
theorem HubC.trans (C:HubC w g sv fd ws w1 ws1) (D:HubC w1 g sv fd ws1 w2 ws2):HubC w g sv fd ws w2 ws2 :=
 ⟨C.t.trans D.t (fun k hk h=>C.own hk h),fun i b hi hb=>by
  rcases D.n i b hi hb with⟨j,hj,h⟩ | h
  ·exact C.n j b hj h
  ·exact .inr (zrc C.t.size h)⟩
theorem HubC.below (C:HubC w g sv fd ws w1 ws1) (hb:Below w1.heap.size w1 w2):HubC w g sv fd ws w2 ws1:=C.trans ⟨HTch.of_below hb,fun i b hi hb=>.inl ⟨i,hi,hb⟩⟩
theorem HubC.size (C:HubC w g sv fd ws w1 ws1):w.heap.size<=w1.heap.size:=C.t.size
theorem HubC.grown {r:Option Nat} (hg:w.grownBy w1 r) (hr:∀k,r=some k->uv9 g sv fd ws k):HubC w g sv fd ws w1 ws:=⟨HTch.of_grown hg hr,fun i b hi hb=>.inl ⟨i,hi,hb⟩⟩
theorem HubC.cell (C:HubC w g sv fd ws w1 ws1) (i:Nat) (u:Value):HubC w g sv fd ws (w1.setCell ⟨g,i,none⟩ u) ws1:=C.trans (HubC.grown (uzh w1 g i u) (fun k hk=>by injection hk with hk;exact .inl hk.symm))
theorem HubC.put {k:Nat} (hk:k<8) {v:Value} (hg:w.grownBy w1 (ws k).ownBlock) (hn:v.ownBlock=(ws k).ownBlock\/∀b,v.ownBlock=some b->w.heap.size<=b) (i:Nat):HubC w g sv fd ws (w1.setCell ⟨g,i,none⟩ v) (updV ws k v):=by
 have C1:HubC w g sv fd ws w1 ws:=HubC.grown hg (fun j hj=>.inr (.inr (.inr ⟨k,hk,hj⟩)))
 have C2:=C1.cell i v
 refine⟨C2.t,fun j b hj hb=>?_⟩
 unfold updV at hb
 by_cases hjk:j=k
 ·rw[if_pos hjk] at hb
  rcases hn with hn | hn
  ·exact .inl ⟨k,hk,by rw[<- hn];exact hb⟩
  ·exact .inr (hn b hb)
 ·rw[if_neg hjk] at hb;exact .inl ⟨j,hj,hb⟩
theorem HubM.lt (H:HubM w B g sv fd ws h):g<w.heap.size:=H.b.lt
theorem HubC.under (C:HubC w g sv fd ws w1 ws1) (H:HubM w B g sv fd ws h):Below B w w1:=C.t.below (fun k hk=>(H.own_ge hk).1) H.lo.2.2.2
theorem HubC.tabs (C:HubC w g sv fd ws w1 ws1) (H:HubM w B g sv fd ws h) {w0:World} (hT:Tabs w0) (h0:Below w0.heap.size w0 w) (hB:w0.heap.size<=B):Tabs w1:=hT.below (h0.trans ((C.under H).mono hB))
theorem HubC.blk (C:HubC w g sv fd ws w1 ws1) (H:HubM w B g sv fd ws h) {k:Nat} {t:TypeId} {cs:Array Value} (hb:Blk w k t cs) (h1:t≠67) (h2:t≠94) (h3:t≠96) (h4:t≠5):Blk w1 k t cs :=
 C.t.blk hb (H.other hb h1 h2 h3 h4)
end
section
variable {w:World} {B g sv:Nat} {fd:Nat->Nat} {ws:Nat->Value} {h:HubD} {k:Nat}
theorem HubM.at_sv (H:HubM w B g sv fd ws h):w.cell? ⟨g,0,none⟩=some (zse sv):=H.b.cell 0
theorem HubM.at_fp (H:HubM w B g sv fd ws h) (hk:k<8):w.cell? ⟨g,1+k*4,none⟩=some (.pointer (some ⟨fd k,0,none⟩)):=(H.b.cell _).trans (xve hk)
theorem HubM.at_cl (H:HubM w B g sv fd ws h) (hk:k<8):w.cell? ⟨g,1+k*4+1,none⟩=some (.bool (h.c k).closed):=(H.b.cell _).trans (hubA_cl hk)
theorem HubM.at_wt (H:HubM w B g sv fd ws h) (hk:k<8):w.cell? ⟨g,1+k*4+2,none⟩=some (.bool (h.c k).watch):=(H.b.cell _).trans (hubA_wt hk)
theorem HubM.at_ws (H:HubM w B g sv fd ws h) (hk:k<8):w.cell? ⟨g,1+k*4+3,none⟩=some (ws k):=(H.b.cell _).trans (wvu hk)
end
theorem wx1 (h:HubD) (k:Nat) (fs:List Fr):h.upd k { h.c k with waits:=(h.c k).waits++fs }=h.app k fs:=rfl
theorem close_is (h:HubD) (k e:Nat):(h.app k (repF e h.srv.st.rev)).upd k { (h.app k (repF e h.srv.st.rev)).c k with closed:=true }=h.close k e:=by
 unfold HubD.app HubD.close
 rw[ww5,uqs]
theorem xyp (h:HubD) (k:Nat) (q:ReqD) (hk:k<8) :
  h.told k q=let r:=doR h.srv q
   let h1:HubD:=(⟨r.srv,h.c⟩:HubD).app k (repF r.code r.srv.st.rev)
   if r.code=0/\(q.kind=8\/q.kind=9) then(h1.app k (telF r.srv)).upd k { (h1.app k (telF r.srv)).c k with watch:=(h1.c k).watch||decide (q.kind=9) } else h1:=by
 simp only[]
 unfold HubD.told
 split
 ·rename_i hc
  unfold HubD.app
  simp only[ww5,uqs]
  unfold HubD.upd
  simp only[if_pos hc]
 ·rename_i hc
  unfold HubD.app HubD.upd
  simp only[if_neg hc]
def HubD.toldTo (h:HubD) (d:uq0) (n:Nat):HubD:=⟨h.srv,fun i=>if i<n then(if(h.c i).closed=true\/(h.c i).watch=false then h.c i else(h.c i).put (chgF h.srv d)) else h.c i⟩
theorem ww4 (h:HubD) (d:uq0):h.toldTo d 0=h:=by
 unfold HubD.toldTo
 simp
theorem ww2 (h:HubD) (d:uq0) (n:Nat) (hs:(h.c n).closed=true\/(h.c n).watch=false):h.toldTo d (n+1)=h.toldTo d n:=by
 unfold HubD.toldTo
 congr 1
 funext i
 by_cases h1:i<n
 ·rw[if_pos h1,if_pos (by omega)]
 ·rw[if_neg h1]
  by_cases h2:i=n
  ·subst h2;rw[if_pos (by omega),if_pos hs]
  ·rw[if_neg (by omega)]
theorem ww3 (h:HubD) (d:uq0) (n:Nat) (hs:¬((h.c n).closed=true\/(h.c n).watch=false)):h.toldTo d (n+1)=(h.toldTo d n).app n (chgF h.srv d):=by
 unfold HubD.toldTo HubD.app HubD.upd
 congr 1
 funext i
 by_cases h2:i=n
 ·subst h2;simp only[if_pos (Nat.lt_succ_self i),if_neg (Nat.lt_irrefl i),if_neg hs,if_true]
 ·by_cases h1:i<n
  ·simp only[if_pos h1,if_pos (show i<n+1 by omega),if_neg h2]
  ·simp only[if_neg h1,if_neg (show ¬i<n+1 by omega),if_neg h2]
def Same8 (a b:HubD):Prop:=a.srv=b.srv/\∀i,i<8->a.c i=b.c i
theorem wkk (h:HubD) (d:uq0):Same8 (h.toldTo d 8) (h.changed d):=by
 refine⟨rfl,fun i hi=>?_⟩
 unfold HubD.toldTo HubD.changed
 simp only[if_pos hi]
theorem HubM.same {w:World} {B g sv:Nat} {fd:Nat->Nat} {ws:Nat->Value} {h h':HubD} (H:HubM w B g sv fd ws h) (e:Same8 h h'):HubM w B g sv fd ws h':=by
 refine⟨?_,e.1 ▸ H.s,fun i hi=>(e.2 i hi) ▸ H.f i hi,H.d,fun i hi=>(e.2 i hi) ▸ H.q i hi,H.e,H.lo⟩
 rw[<- uj5 (cs:=cellC h fd ws) (fun i hi=>by unfold cellC;rw[e.2 i hi])]
 exact H.b
def HubQ (w:World) (B g sv:Nat) (fd:Nat->Nat) (ws:Nat->Value) (h':HubD) (w':World):Prop:=∃ws',HubM w' B g sv fd ws' h'/\HubC w g sv fd ws w' ws'
theorem HubM.far {w w1:World} {B g sv:Nat} {fd:Nat->Nat} {ws:Nat->Value} {h:HubD} (H:HubM w B g sv fd ws h) {k:Nat} (hk:k<8) (hg:w.grownBy w1 (ws k).ownBlock):Blk w1 g 67 (hubA (zse sv) (cellC h fd ws)) :=
 H.b.kept hg (fun e=>by
  obtain⟨c3,h3⟩:=(H.q k hk).own e
  exact absurd rfl (h3.ne_ H.b (by decide)))
theorem vvw (k:Nat) (pl:Zlu):(encs (frF k pl)).length<=6018:=by
 have h:=vzt (frF k pl) (fun x hx=>(wq3 k pl x hx).1)
 have h1:(frF k pl).length<=1:=by unfold frF;split <;> simp
 omega
theorem wje {w:World} {B g sv:Nat} {fd:Nat->Nat} {ws:Nat->Value} {h:HubD} (H:HubM w B g sv fd ws h) {k:Nat} (hk:k<8) (kind:Nat) (pl:Zlu) (hkd:kind<=4) (hpl:pl.length<=4611686018427387904) (hz:(encs (h.c k).waits).length<=140737488300000) :
  Calls prog 75 #[.pointer (some ⟨g,1+k*4,none⟩),.int .i64 (kind:Int),.string (bstr pl)] w fun e w'=>e=.returned (.tuple #[])/\HubQ w B g sv fd ws (h.app k (frF kind pl)) w':=by
 have hE:=uw3 3 kind (bstr pl) w (by rw[uqz];exact hpl) (by decide) (by decide) (by omega) (by omega)
 rw[uqu] at hE
 have hf:=wys kind pl
 have hfl:(encF 3 kind pl).1.length<=6018:=by rw[<- hf];exact vvw kind pl
 have HF:=zrj hf
 have HE:=zrj hE
 have hzf:=ujx
 generalize encF 3 kind pl=ff at *
 clear hE hf hkd hpl
 go_enter func75,ntmps75
 go_wp2_with fail
 refine HE.out.mono ?_
 rintro e w1 ⟨rfl,hb1⟩
 have H1:=H.below hb1
 obtain⟨pa,ca,hws⟩:=(H1.q k hk).form
 have hq1:=H1.q k hk
 rw[hws] at hq1
 have c3:w1.cell? ⟨g,1+k*4+3,none⟩=some (.slice pa (encs (h.c k).waits).length ca):=by rw[H1.at_ws hk,hws]
 have HC1:=zrj ((HubC.refl w g sv fd ws).below hb1)
 clear hb1 HE
 go_wp2_with(at_builtin;refine uvq rfl _ _ 62 9 rfl 5 underlying62 underlying9 vq1 B (.slice pa (encs (h.c k).waits).length ca) (encs (h.c k).waits) rfl hq1 (bstr ff.1) rfl (by rw[uqz];omega) H1.lo.2.2.2 ?_;intro v' w2 hq2 hg2 hn2;rw[<- hws] at hg2 hn2;obtain⟨pb,cb,rfl⟩:=hq2.form;have b2:=H1.far hk hg2;have c4:w2.cell? ⟨g,1+k*4+3,none⟩=some (.slice pa (encs (h.c k).waits).length ca):=(by rw[b2.cell,wvu hk];exact congrArg some hws);have f4:w2.frozen? ⟨g,1+k*4+3,none⟩=false:=b2.frozen _)
 go_end0
 have hl9:(encs (h.c k).waits).length+(bstr ff.1).size=(encs (h.c k).waits++(bstr ff.1).data.toList).length:=by rw[zrb,uwa]
 rw[hl9]
 refine⟨rfl,updV ws k _,?_,HC1.out.trans (HubC.put hk hg2 hn2 _)⟩
 rw[<- wx1]
 exact H1.put hk hg2 (by rw[uxv,HF.out];simpa only[uqu] using hq2) hn2
theorem vjt {w:World} {B g sv:Nat} {fd:Nat->Nat} {ws:Nat->Value} {h:HubD} (H:HubM w B g sv fd ws h) {k:Nat} (hk:k<8) (code:Nat) (rev:Int) (hc:code<=1000) (hr : -9223372036854775808<=rev/\rev<=9223372036854775807) (hz:(encs (h.c k).waits).length<=140737488300000) :
  Calls prog 47 #[.pointer (some ⟨g,1+k*4,none⟩),.agg #[.int .i64 (code:Int),.int .i64 rev]] w fun e w'=>e=.returned (.tuple #[])/\HubQ w B g sv fd ws (h.app k (repF code rev)) w':=by
 have HR:=zrj (fun(W:World)=>xwu (code:Int) rev W)
 have hb0:=zsa w (.cells #[.int .i64 (code:Int),.int .i64 rev] 115)
 have bx0:=Blk.new w 115 #[.int .i64 (code:Int),.int .i64 rev]
 have hl:(encPR (code:Int) rev).1.length<=4611686018427387904:=by
  unfold encPR
  split
  ·rename_i h0
   obtain⟨_,h1,h2⟩:=uwj.1 h0
   unfold encP
   rw[zrb]
   have a:=uqm (code:Int).toNat (by omega)
   have b:=uqm rev.toNat (by omega)
   omega
  ·simp
 have HG:=zrj (fun(w1:World) (hb:Below w.heap.size w w1)=>wje (H.below hb) hk 4 (encPR (code:Int) rev).1 (by decide) hl hz)
 have HP:=zrj (show repF code rev=frF 4 (encPR (code:Int) rev).1 from rfl)
 clear hl hz hc hr
 generalize(encPR (code:Int) rev)=pr at *
 go_enter func47,ntmps47
 go_wp2_with fail
 generalize w.alloc _=w0 at *
 go_wp2_with(first | (refine uqa rfl _ _ rfl w.heap.size rfl _ _ bx0 _ underlying115 rfl uz7 ?_))
 refine(HR.out w0).mono ?_
 rintro e w1 ⟨rfl,hb1⟩
 have hb:=bthen hb0 hb1
 clear hb1 hb0 bx0
 go_wp2_with fail
 refine(HG.out w1 hb).mono ?_
 rintro e w2 ⟨rfl,ws2,H2,C2⟩
 go_wp2_with fail
 go_end0
 rw[HP.out]
 exact⟨rfl,ws2,H2,((HubC.refl w g sv fd ws).below hb).trans C2⟩
theorem vxi {w:World} {B g sv:Nat} {fd:Nat->Nat} {ws:Nat->Value} {h:HubD} (H:HubM w B g sv fd ws h) {k:Nat} (hk:k<8) :
  Calls prog 25 #[.pointer (some ⟨g,1+k*4,none⟩)] w fun e w'=>e=.returned (.string (bstr (encs (h.c k).waits)))/\HubQ w B g sv fd ws (h.flush k) w':=by
 obtain⟨pa,ca,hws⟩:=(H.q k hk).form
 have hq1:=H.q k hk
 rw[hws] at hq1
 have c3:w.cell? ⟨g,1+k*4+3,none⟩=some (.slice pa (encs (h.c k).waits).length ca):=by rw[H.at_ws hk,hws]
 have f3:w.frozen? ⟨g,1+k*4+3,none⟩=false:=H.b.frozen _
 have hcv:=uzu (P:=prog) (U:=5) (src:=62) (dst:=9) underlying62 underlying5 underlying9 hq1
 have hg:w.grownBy w (ws k).ownBlock:=World.grownBy.refl w _
 have hP:=H.put hk (v:=.slice none 0 0) (fs:=[]) hg (by rw[uxo];exact Buf.nil _ _ _) (.inr (fun b hb=>by cases hb))
 have hC:=HubC.put (g:=g) (sv:=sv) (fd:=fd) hk (v:=.slice none 0 0) hg (.inr (fun b hb=>by cases hb)) (1+k*4+3)
 have HP:=zrj hP
 have HC:=zrj hC
 generalize encs (h.c k).waits=out at *
 clear hP hC hq1 hg
 go_enter func25,ntmps25
 go_wp2_with fail
 go_ret
 exact⟨rfl,_,HP.out,HC.out⟩
theorem wq8 {w:World} {B g sv:Nat} {fd:Nat->Nat} {ws:Nat->Value} {h:HubD} (H:HubM w B g sv fd ws h) {k:Nat} (hk:k<8) :
  Calls prog 21 #[zse g,.int .i64 (k:Int)] w fun e w'=>e=.returned (.pointer (some ⟨g,1+k*4,none⟩))/\w=w':=by
 have h0:¬(k:Int)<0:=by omega
 have h1:¬(8:Int)<=(k:Int):=by omega
 have h2:¬8<=k:=by omega
 go_enter func21,ntmps21
 go_wp2_with fail
 go_ret
 exact⟨rfl,rfl⟩
theorem xqz {v:Srv}:(encs (telF v)).length<=6018:=by
 by_cases h:(sfrR 3 v.st).2=0
 ·rw[vww h];exact vvw _ _
 ·unfold telF;rw[if_pos h];exact vvw _ _
theorem wz0 (s:St):(encR 3 s).1.length<=10000:=by
 by_cases h:uqp s=0
 ·rw[vyh h];exact xku h
 ·have:(encR 3 s).2≠0:=by rw[xxi h];exact h
  rw[encR_bad this];simp
theorem wjg {w:World} {B g sv:Nat} {fd:Nat->Nat} {ws:Nat->Value} {h:HubD} (H:HubM w B g sv fd ws h) {k:Nat} (hk:k<8) (F:Fine h.srv.st) (HTb:∀W,Below B w W->Tabs W) (hz:(encs (h.c k).waits).length<=140737488300000) :
  Calls prog 48 #[zse g,.pointer (some ⟨g,1+k*4,none⟩)] w fun e w'=>e=.returned (.tuple #[])/\HubQ w B g sv fd ws (h.app k (telF h.srv)) w':=by
 have c0:=H.at_sv
 have hlo:=H.lo.2.2.2
 have hzs:=uq3
 have HS:=zrj (vzj sv h.srv w H.s F)
 have hfin:=zrj F
 have hlen:=wz0 h.srv.st
 have hT:=zrj HTb
 clear HTb F
 go_enter func48,ntmps48
 go_wp2_with fail
 refine HS.out.mono ?_
 rintro e w1 ⟨q1,q2,q3,d1,d2,d3,rfl,hO,hb1⟩
 have hba:=zsa w1 (.cells (stv h.srv.st q1 q2 q3 d1 d2 d3) 26)
 have bS:=Blk.new w1 26 (stv h.srv.st q1 q2 q3 d1 d2 d3)
 have hmS:=(hO.m.below hba).more hba.size
 have hbA:=bthen hb1 hba
 have hBl:=hbA.mono hlo
 clear hba hb1 hO
 go_wp2_with(first | (refine uqf rfl _ _ _ rfl rfl 26 _ (stv h.srv.st q1 q2 q3 d1 d2 d3) rfl uqg rfl (ux8 _ _ _ _ _ _ _ _ _ _) ?_) | (refine uqa rfl _ _ rfl w1.heap.size rfl _ _ bS _ underlying26 rfl uqg ?_))
 generalize w1.alloc _=wA at *
 generalize w1.heap.size=gA at *
 refine(vy8 h.srv.st 3 q1 q2 q3 d1 d2 d3 wA hmS hfin.out.sz (hT.out wA hBl) (by omega) (by decide) (by decide)).mono ?_
 rintro e w2 ⟨rfl,hb2⟩
 have hb:=bthen hbA hb2
 have bS2:=bS.bl hb2
 have s0:=bS2.c0
 have H1:=H.below hb
 have HC1:=zrj ((HubC.refl w g sv fd ws).below hb)
 have hte:=xkw (v:=h.srv)
 have hti:=fun h0=>vww (v:=h.srv) h0
 have hrp:(sfrR 3 h.srv.st).2≠0->telF h.srv=repF 2 h.srv.st.rev:=fun h0=>by unfold telF;rw[if_pos h0]
 have hln:(sfrR 3 h.srv.st).2=0->(sfrR 3 h.srv.st).1.length<=6018:=fun h0=>by have:=xqz (v:=h.srv);rw[hte,if_neg (by simpa using h0)] at this;exact this
 have hrv:=hfin.out.rev
 clear HS hb2 hb hBl hfin hlen hbA hmS bS bS2
 by_cases h0:(sfrR 3 h.srv.st).2=0
 ·have hl1:=hln h0
  rw[if_neg (by simpa using h0)] at hte
  have HTE:=zrj hte
  have hz0:(((sfrR 3 h.srv.st).2:Int) != 0)=false:=by rw[h0];rfl
  obtain⟨pa,ca,hws⟩:=(H1.q k hk).form
  have hq1:=H1.q k hk
  rw[hws] at hq1
  have c3:w2.cell? ⟨g,1+k*4+3,none⟩=some (.slice pa (encs (h.c k).waits).length ca):=by rw[H1.at_ws hk,hws]
  clear hte hti hrp hln h0
  generalize sfrR 3 h.srv.st=sf at *
  go_wp2_with(at_builtin;refine uvq rfl _ _ 62 9 rfl 5 underlying62 underlying9 vq1 B (.slice pa (encs (h.c k).waits).length ca) (encs (h.c k).waits) rfl hq1 (bstr sf.1) rfl (by rw[uqz];omega) H1.lo.2.2.2 ?_;intro v' w4 hq2 hg2 hn2;rw[<- hws] at hg2 hn2;obtain⟨pb,cb,rfl⟩:=hq2.form;have b2:=H1.far hk hg2;have c4:w4.cell? ⟨g,1+k*4+3,none⟩=some (.slice pa (encs (h.c k).waits).length ca):=(by rw[b2.cell,wvu hk];exact congrArg some hws);have f4:w4.frozen? ⟨g,1+k*4+3,none⟩=false:=b2.frozen _)
  first | go_end0 | ((try simp only[Exit.inBlock,Exit.then]);refine bodyPost_ret (results_none rfl _ _ _) rfl ?_)
  have hl9:(encs (h.c k).waits).length+(bstr sf.1).size=(encs (h.c k).waits++(bstr sf.1).data.toList).length:=by rw[zrb,uwa]
  rw[hl9]
  refine⟨rfl,updV ws k _,?_,HC1.out.trans (HubC.put hk hg2 hn2 _)⟩
  rw[<- wx1]
  exact H1.put hk hg2 (by rw[uxv,HTE.out];simpa only[uqu] using hq2) hn2
 ·have hne:(((sfrR 3 h.srv.st).2:Int) != 0)=true:=by rw[bne_iff_ne];omega
  have HRP:=zrj (hrp h0)
  have HR:=zrj (vjt H1 hk 2 h.srv.st.rev (by decide) (by omega) hz)
  clear hte hti hrp hln h0
  generalize sfrR 3 h.srv.st=sf at *
  go_wp2_with fail
  refine HR.out.mono ?_
  rintro e w3 ⟨rfl,ws3,H3,C3⟩
  go_wp2_with fail
  first | go_end0 | ((try simp only[Exit.inBlock,Exit.then]);refine bodyPost_ret (results_none rfl _ _ _) rfl ?_)
  rw[HRP.out]
  exact⟨rfl,ws3,H3,HC1.out.trans C3⟩
theorem xk2 (a:Int) (p1 p2 p3:Zoa) (n1 n2 n3 c1 c2 c3:Nat) (W:World):(Instr.field 26 (.agg #[.int .i64 a,.slice p1 n1 c1,.slice p2 n2 c2,.slice p3 n3 c3]) 0).run prog W=.ok (Value.int .i64 a) W:=by kernel_rfl
theorem vjs {w:World} {B g sv:Nat} {fd:Nat->Nat} {ws:Nat->Value} {h:HubD} (H:HubM w B g sv fd ws h) {k:Nat} (hk:k<8) (F:Fine h.srv.st) (e:Nat) (he:e<=1000) (hz:(encs (h.c k).waits).length<=140737488300000) :
  Calls prog 24 #[zse g,.pointer (some ⟨g,1+k*4,none⟩),.int .i64 (e:Int)] w fun x w'=>x=.returned (.tuple #[])/\HubQ w B g sv fd ws (h.close k e) w':=by
 have c0:=H.at_sv
 have HS:=zrj (vzj sv h.srv w H.s F)
 have hrv:=F.rev
 have HR:=zrj (fun(w1:World) (hb:Below w.heap.size w w1)=>vjt (H.below hb) hk e h.srv.st.rev he (by omega) hz)
 clear F hz
 go_enter func24,ntmps24
 go_wp2_with fail
 refine HS.out.mono ?_
 rintro x w1 ⟨q1,q2,q3,d1,d2,d3,rfl,hO,hb1⟩
 clear hO
 have hfr:=zrj (fun W=>xk2 h.srv.st.rev q1 q2 q3 h.srv.st.jobs.length h.srv.st.nodes.length h.srv.st.leases.length d1 d2 d3 W)
 have hfr1:=hfr.out w1
 go_wp2_with fail
 refine(HR.out w1 hb1).mono ?_
 rintro x w2 ⟨rfl,ws2,H2,C2⟩
 have hC:=((HubC.refl w g sv fd ws).below hb1).trans C2
 have H3:=H2.shut hk true
 have HC:=zrj (hC.cell (1+k*4+1) (.bool true))
 have HH:=zrj H3
 have c5:=H2.at_cl hk
 have f5:w2.frozen? ⟨g,1+k*4+1,none⟩=false:=H2.b.frozen _
 clear hC H3 C2 H2
 go_wp2_with fail
 first | go_end0 | ((try simp only[Exit.inBlock,Exit.then]);refine bodyPost_ret (results_none rfl _ _ _) rfl ?_)
 rw[<- close_is]
 exact⟨rfl,ws2,HH.out,HC.out⟩
theorem wkj (h:HubD) (d:uq0) (n:Nat):(h.toldTo d n).c n=h.c n:=by
 unfold HubD.toldTo
 simp only[if_neg (Nat.lt_irrefl n)]
theorem wjc {w:World} {B g sv:Nat} {fd:Nat->Nat} {ws:Nat->Value} {h:HubD} (H:HubM w B g sv fd ws h) (d:uq0) (p1 p2 p3 p4 p5 p6:Zoa) (c1 c2 c3 c4 c5 c6:Nat) (hm:DelM w w.heap.size p1 p2 p3 p4 p5 p6 d) (hk:DelOk d) (F:Fine h.srv.st) (HTb:∀W,Below B w W->Tabs W) (hz:∀i,i<8->(encs (h.c i).waits).length<=140737488300000) :
  Calls prog 49 #[zse g,.agg (dv d p1 p2 p3 p4 p5 p6 c1 c2 c3 c4 c5 c6)] w fun e w'=>e=.returned (.tuple #[])/\HubQ w B g sv fd ws (h.changed d) w':=by
 have hb0:=zsa w (.cells (dv d p1 p2 p3 p4 p5 p6 c1 c2 c3 c4 c5 c6) 118)
 have bx0:=Blk.new w 118 (dv d p1 p2 p3 p4 p5 p6 c1 c2 c3 c4 c5 c6)
 have hlo:=H.lo.2.2.2
 have HE:=zrj (wzz d p1 p2 p3 p4 p5 p6 c1 c2 c3 c4 c5 c6 (w.alloc (.cells (dv d p1 p2 p3 p4 p5 p6 c1 c2 c3 c4 c5 c6) 118)) ((hm.below hb0).more hb0.size) hk (HTb _ (hb0.mono hlo)))
 have hdl:(encDR d).1.length<=6000:=by
  by_cases h0:(encDR d).2=0
  ·obtain⟨h1,_,h3⟩:=wyr h0;rw[h1];exact h3
  ·rw[xkq h0];simp
 have hcg:∀v:Srv,chgF v d=if(encDR d).2=0 then frF 2 (encDR d).1 else telF v:=fun v=>rfl
 have HCG:=zrj hcg
 have HTb2:=zrj HTb
 have HF:=zrj F
 have HZ:=zrj hz
 generalize hdr:encDR d=dr at *
 clear hm hk F HTb hz hcg hdr
 go_enter func49,ntmps49
 go_wp2_with fail
 generalize w.alloc _=w0 at *
 go_wp2_with(first | (refine uqa rfl _ _ rfl w.heap.size rfl _ _ bx0 _ underlying118 rfl uqv ?_))
 refine HE.out.mono ?_
 rintro e w1 ⟨rfl,hb1⟩
 have hb:=bthen hb0 hb1
 have H1:=H.below hb
 have HC1:=zrj ((HubC.refl w g sv fd ws).below hb)
 have HB1:=zrj (hb.mono hlo)
 clear hb1 hb0 hb HE bx0
 go_wp2_with fail
 go_loopw [13] (fun i wr=>∃(n:Nat) (wsn:Nat->Value),n<=8/\i=.int .i64 n/\HubM wr B g sv fd wsn (h.toldTo d n)/\HubC w1 g sv fd ws wr wsn) (fun i _=>8-(intOf i).toNat)
 case atStart=>exact⟨0,ws,by omega,rfl,by rw[ww4];exact H1,HubC.refl _ _ _ _ _⟩
 case round =>
  obtain⟨n,wsn,hn,rfl,Hn,Cn⟩:=hrel
  by_cases hlt:n<8
  ·have k1:=Hn.at_cl hlt
   have k2:=Hn.at_wt hlt
   rw[wkj] at k1 k2
   have hzn:(encs ((h.toldTo d n).c n).waits).length<=140737488300000:=by rw[wkj];exact HZ.out n hlt
   have hsk:=ww2 h d n
   have hte:=ww3 h d n
   have HN:=zrj Hn
   have HCn:=zrj Cn
   have HG:=zrj (wje Hn hlt 2 dr.1 (by decide) (by omega) hzn)
   have HT:=zrj (wjg Hn hlt HF.out (fun W hW=>HTb2.out W ((HB1.out.trans (Cn.under H1)).trans hW)) hzn)
   clear Hn Cn hzn
   generalize(h.c n).closed=cl at *
   generalize(h.c n).watch=wt at *
   cases cl
   ·cases wt
    ·have HS:=zrj (hsk (.inr rfl))
     clear hsk hte HG HT
     go_wp2_with fail
     go_roundw
     case rel=>exact⟨n+1,wsn,by omega,by go_num,by rw[HS.out];exact HN.out,HCn.out⟩
     case measure=>simp[intOf];omega
    ·have HS:=zrj (hte (by simp))
     rw[HCG.out] at HS
     clear hsk hte
     by_cases h0:dr.2=0
     ·rw[if_pos h0] at HS
      have hz0:((dr.2:Int) == 0)=true:=by rw[h0];rfl
      clear HT h0
      go_wp2_with fail
      refine HG.out.mono ?_
      rintro e w2 ⟨rfl,ws2,H2,C2⟩
      have HC2:=zrj (HCn.out.trans C2)
      have HH:=zrj H2
      clear H2 C2
      go_wp2_with fail
      go_roundw
      case rel=>exact⟨n+1,ws2,by omega,by go_num,by rw[HS.out];exact HH.out,HC2.out⟩
      case measure=>simp[intOf];omega
     ·rw[if_neg h0] at HS
      have hz0:((dr.2:Int) == 0)=false:=by rw[zrf];omega
      clear HG h0
      go_wp2_with fail
      refine HT.out.mono ?_
      rintro e w2 ⟨rfl,ws2,H2,C2⟩
      have HC2:=zrj (HCn.out.trans C2)
      have HH:=zrj H2
      clear H2 C2
      go_wp2_with fail
      go_roundw
      case rel=>exact⟨n+1,ws2,by omega,by go_num,by rw[HS.out];exact HH.out,HC2.out⟩
      case measure=>simp[intOf];omega
   ·have HS:=zrj (hsk (.inl rfl))
    clear hsk hte HG HT
    go_wp2_with fail
    go_roundw
    case rel=>exact⟨n+1,wsn,by omega,by go_num,by rw[HS.out];exact HN.out,HCn.out⟩
    case measure=>simp[intOf];omega
  ·obtain rfl:n=8:=by omega
   have HN:=zrj (Hn.same (wkk h d))
   have HCn:=zrj Cn
   clear Hn Cn
   go_wp2_with fail
   first | go_end0 | ((try simp only[Exit.inBlock,Exit.then]);refine bodyPost_ret (results_none rfl _ _ _) rfl ?_)
   exact⟨rfl,wsn,HN.out,HC1.out.trans HCn.out⟩
section
variable {w w':World} {O:Nat->Prop}
theorem Elts.tch {B size:Nat} {p:Zoa} {rows:List (List Value)} (h:Elts w B size p rows) (hB:B<=w.heap.size) (T:HTch O w w') (hp:∀a,p=some a->¬O a.block):Elts w' B size p rows :=
 ⟨h.1,fun hn=>by
  obtain⟨a,e,hb,hc⟩:=h.2 hn
  refine⟨a,e,hb,fun k r hr j v hv=>?_⟩
  refine(World.cell?_of_block ?_).trans (hc k r hr j v hv)
  rw[uql,uql]
  exact T.block a.block (by omega) (hp a e)⟩
theorem StM.tch {p1 p2 p3:Zoa} {s:St} (h:StM w w.heap.size p1 p2 p3 s) (T:HTch O w w') (h1:∀a,p1=some a->¬O a.block) (h2:∀a,p2=some a->¬O a.block) (h3:∀a,p3=some a->¬O a.block):StM w' w'.heap.size p1 p2 p3 s :=
 ⟨((h.j.tch (zra _) T h1)).more T.size,((h.n.tch (zra _) T h2)).more T.size,((h.l.tch (zra _) T h3)).more T.size⟩
end
theorem FeedIs.tch {w w':World} {O:Nat->Prop} {g:Nat} {L:Zlu} (h:FeedIs w g L) (T:HTch O w w') (hO:¬O g):FeedIs w' g L:=by
 obtain⟨q,h⟩:=h
 exact⟨q,T.blk h hO⟩
theorem wjv (L s:Zlu):∀x∈newF L s,uxu x:=fun x hx=>(vjl (L++s)).2 x (List.mem_of_mem_drop hx)
end Go.Proofs.YtknmnhleicakhaaGreatDoor
