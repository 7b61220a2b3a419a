/- Lemmas.
-/
import Derived.Test.YtknmnhleicakhaaGreatDoorPtReqE
import Derived.Test.YtknmnhleicakhaaGreatDoorPtRead
set_option linter.all false
set_option maxHeartbeats 16000000
set_option maxRecDepth 100000
namespace Go.Proofs.YtknmnhleicakhaaGreatDoor
open Go.Proofs.Tryz
open Go.RowKit
def uk1 (w:World) (r:ReqD×Nat) (e:Ending) (w':World):Prop:=e=.returned (.tuple #[.agg #[.int .i64 r.1.kind,.string r.1.job.name,.int .i64 r.1.job.prio,.int .i64 r.1.job.need,.int .i64 r.1.job.tries,.string r.1.job.tag,.string r.1.node.name,.int .i64 r.1.node.room,.string r.1.node.zone,.string r.1.lease.job,.string r.1.lease.node,.int .i64 r.1.lease.till,.string r.1.name,.int .i64 r.1.n],.int .i64 (r.2:Int)])/\Below w.heap.size w w'
theorem uxx {w w':World} {r:ReqD×Nat} {er:Nat} (hr:r=(noQ,er)) (hb:Below w.heap.size w w'):uk1 w r (.returned (.tuple #[.agg (kqv 0),.int .i64 (er:Int)])) w':=by subst hr;exact⟨rfl,hb⟩
theorem uw6 {α:Type} {p:Zlu->Res α} (f:α->ReqD) {r l2:Zlu} {x:α} {y2:Nat} (hpp:∀l e,p l=.bad e->e≠0) (S:Step p r 0 x l2 y2) :
  (endE y2 l2≠0->finQ (pMap f p r)=(noQ,endE y2 l2))/\(endE y2 l2=0->finQ (pMap f p r)=(if reqE (f x)≠0 then(noQ,reqE (f x)) else(f x,0))/\p r=.ok x []):=by
 obtain⟨_,_,h3⟩:=S
 obtain⟨h4,h5⟩:=h3 rfl
 unfold pMap
 cases hp:p r with
 | bad e =>
  obtain rfl:=h5 e hp
  have hy:=hpp _ _ hp
  have he:endE y2 l2=y2:=by unfold endE;rw[if_pos hy]
  rw[he]
  exact⟨fun _=>rfl,fun h=>absurd h hy⟩
 | ok b r' =>
  obtain⟨rfl,rfl,rfl⟩:=h4 b r' hp
  have he:endE 0 l2=if l2=[] then 0 else 4:=by unfold endE;rw[if_neg (by simp)]
  rw[he]
  show(_->finQ (.ok (f x) l2)=_)/\(_->finQ (.ok (f x) l2)=_/\_)
  by_cases hl:l2=[]
  ·subst hl
   refine⟨fun h=>absurd rfl h,fun _=>⟨?_,rfl⟩⟩
   unfold finQ
   simp only[]
   rw[if_neg (by simp)]
  ·rw[if_neg hl]
   refine⟨fun _=>?_,fun h=>by cases h⟩
   unfold finQ
   simp only[]
   rw[if_pos hl]
theorem uy3 {s:Zba} (h:okTx s.data.toList):s.size<=9223372036854775807:=by
 have:=h.1
 rw[uwa] at this
 omega
theorem szE:ByteArray.empty.size<=9223372036854775807:=by decide
theorem pPart_J (k:Int) (h:k=1) (l:Zlu):pPart k l=pMap (fun j=>⟨k,j,noN,noL,ByteArray.empty,0⟩) (pJob 3) l:=by subst h;rfl
theorem pPart_N (k:Int) (h:k=2) (l:Zlu):pPart k l=pMap (fun j=>⟨k,noJ,j,noL,ByteArray.empty,0⟩) (pNode 3) l:=by subst h;rfl
theorem pPart_L (k:Int) (h:k=5) (l:Zlu):pPart k l=pMap (fun j=>⟨k,noJ,noN,j,ByteArray.empty,0⟩) uj8 l:=by subst h;rfl
theorem pPart_S (k:Int) (h:k=3\/k=4\/k=6) (l:Zlu):pPart k l=pMap (fun j=>⟨k,noJ,noN,noL,j,0⟩) pStr l:=by
 unfold pPart;rw[if_neg (by omega),if_neg (by omega),if_neg (by omega),if_pos h]
theorem pPart_C (k:Int) (h:k=7) (l:Zlu):pPart k l=pMap (fun j=>⟨k,noJ,noN,noL,ByteArray.empty,j⟩) pInt l:=by subst h;rfl
theorem pPart_Z (k:Int) (h:k=8\/k=9) (l:Zlu):pPart k l=pMap (fun _=>⟨k,noJ,noN,noL,ByteArray.empty,0⟩) (pUnit ()) l:=by
 unfold pPart;rw[if_neg (by omega),if_neg (by omega),if_neg (by omega),if_neg (by omega),if_neg (by omega)];rfl
theorem rtakeJ (x0:JobD) (g r y0:Nat) (l:Zlu) (w:World) (bg:Blk w g 147 (rwJ x0)) (hR:Rd w r l y0) (hne:g≠r) (hl:l.length<=4611686018427387904) (hT:Tabs w) :
  Calls prog 277 #[zse g,zse r] w fun e w'=>e=.returned (.tuple #[])/\∃(x:JobD) (l':Zlu) (y:Nat),Rd w' r l' y/\Blk w' g 147 (rwJ x)/\Step (pJob 3) l y0 x l' y/\(∀B,B<=g->B<=r->B<=w.heap.size->Below B w w')/\(∀b t cs,b≠g->b≠r->Blk w b t cs->Blk w' b t cs):=by
 go_enter func277,ntmps277
 go_wp2_with fail
 refine(wxl r y0 l 3 w hR hl hT).mono ?_
 rintro e w1 ⟨G1,x,l1,y1,rfl,R1,S1⟩
 have b1:=bg.gr_ G1 hne
 have HS:=zrj S1
 clear S1
 go_wp2_with(first | (refine uqc rfl _ _ _ rfl g rfl _ _ (rwJ x) b1 rfl uqo rfl (uvw x) ?_))
 go_end0
 refine⟨rfl,x,l1,y1,Blk.setRow_far R1 (Ne.symm hne) _,b1.setRow _,HS.out,fun B h1 h2 h3=>?_,fun b t cs h1 h2 hb=>(hb.gr_ G1 h2).setRow_far h1 _⟩
 exact uqh ((zri B w).grown G1 h3 (fun k hk=>by injection hk with hk;omega)) h1 _
theorem rtakeN (x0:NodeD) (g r y0:Nat) (l:Zlu) (w:World) (bg:Blk w g 150 (rwN x0)) (hR:Rd w r l y0) (hne:g≠r) (hl:l.length<=4611686018427387904) (hT:Tabs w) :
  Calls prog 281 #[zse g,zse r] w fun e w'=>e=.returned (.tuple #[])/\∃(x:NodeD) (l':Zlu) (y:Nat),Rd w' r l' y/\Blk w' g 150 (rwN x)/\Step (pNode 3) l y0 x l' y/\(∀B,B<=g->B<=r->B<=w.heap.size->Below B w w')/\(∀b t cs,b≠g->b≠r->Blk w b t cs->Blk w' b t cs):=by
 go_enter func281,ntmps281
 go_wp2_with fail
 refine(vwi r y0 l 3 w hR hl hT).mono ?_
 rintro e w1 ⟨G1,x,l1,y1,rfl,R1,S1⟩
 have b1:=bg.gr_ G1 hne
 have HS:=zrj S1
 clear S1
 go_wp2_with(first | (refine uqc rfl _ _ _ rfl g rfl _ _ (rwN x) b1 rfl uqk rfl (uy4 x) ?_))
 go_end0
 refine⟨rfl,x,l1,y1,Blk.setRow_far R1 (Ne.symm hne) _,b1.setRow _,HS.out,fun B h1 h2 h3=>?_,fun b t cs h1 h2 hb=>(hb.gr_ G1 h2).setRow_far h1 _⟩
 exact uqh ((zri B w).grown G1 h3 (fun k hk=>by injection hk with hk;omega)) h1 _
theorem rtakeL (x0:uqb) (g r y0:Nat) (l:Zlu) (w:World) (bg:Blk w g 153 (rwL x0)) (hR:Rd w r l y0) (hne:g≠r) (hl:l.length<=4611686018427387904) (hT:Tabs w) :
  Calls prog 285 #[zse g,zse r] w fun e w'=>e=.returned (.tuple #[])/\∃(x:uqb) (l':Zlu) (y:Nat),Rd w' r l' y/\Blk w' g 153 (rwL x)/\Step (uj8) l y0 x l' y/\(∀B,B<=g->B<=r->B<=w.heap.size->Below B w w')/\(∀b t cs,b≠g->b≠r->Blk w b t cs->Blk w' b t cs):=by
 go_enter func285,ntmps285
 go_wp2_with fail
 refine(vyw r y0 l w hR hl hT).mono ?_
 rintro e w1 ⟨G1,x,l1,y1,rfl,R1,S1⟩
 have b1:=bg.gr_ G1 hne
 have HS:=zrj S1
 clear S1
 go_wp2_with(first | (refine uqc rfl _ _ _ rfl g rfl _ _ (rwL x) b1 rfl uqj rfl (wy7 x) ?_))
 go_end0
 refine⟨rfl,x,l1,y1,Blk.setRow_far R1 (Ne.symm hne) _,b1.setRow _,HS.out,fun B h1 h2 h3=>?_,fun b t cs h1 h2 hb=>(hb.gr_ G1 h2).setRow_far h1 _⟩
 exact uqh ((zri B w).grown G1 h3 (fun k hk=>by injection hk with hk;omega)) h1 _
theorem rtakeS (x0:Zba) (g r y0:Nat) (l:Zlu) (w:World) (bg:Blk w g 154 #[.string x0]) (hR:Rd w r l y0) (hne:g≠r) (hl:l.length<=4611686018427387904) (hT:Tabs w) :
  Calls prog 289 #[zse g,zse r] w fun e w'=>e=.returned (.tuple #[])/\∃(x:Zba) (l':Zlu) (y:Nat),Rd w' r l' y/\Blk w' g 154 #[.string x]/\Step (pStr) l y0 x l' y/\(∀B,B<=g->B<=r->B<=w.heap.size->Below B w w')/\(∀b t cs,b≠g->b≠r->Blk w b t cs->Blk w' b t cs):=by
 go_enter func289,ntmps289
 go_wp2_with fail
 refine(uvg r y0 l w hR hl hT).mono ?_
 rintro e w1 ⟨G1,x,l1,y1,rfl,R1,S1⟩
 have b1:=bg.gr_ G1 hne
 have HS:=zrj S1
 clear S1
 have c0:=b1.c0
 have f0:w1.frozen? ⟨g,0,none⟩=false:=b1.frozen 0
 go_wp2_with fail
 go_end0
 refine⟨rfl,x,l1,y1,Blk.far R1 (p:=⟨g,0,none⟩) (Ne.symm hne) _,b1.set_ 0 _,HS.out,fun B h1 h2 h3=>?_,fun b t cs h1 h2 hb=>(hb.gr_ G1 h2).far (p:=⟨g,0,none⟩) h1 _⟩
 exact Below.setCell ((zri B w).grown G1 h3 (fun k hk=>by injection hk with hk;omega)) h1 _
theorem rtakeC (x0:Int) (g r y0:Nat) (l:Zlu) (w:World) (bg:Blk w g 156 #[.int .i64 x0]) (hR:Rd w r l y0) (hne:g≠r) (hl:l.length<=4611686018427387904) (hT:Tabs w) :
  Calls prog 293 #[zse g,zse r] w fun e w'=>e=.returned (.tuple #[])/\∃(x:Int) (l':Zlu) (y:Nat),Rd w' r l' y/\Blk w' g 156 #[.int .i64 x]/\Step (pInt) l y0 x l' y/\(∀B,B<=g->B<=r->B<=w.heap.size->Below B w w')/\(∀b t cs,b≠g->b≠r->Blk w b t cs->Blk w' b t cs):=by
 go_enter func293,ntmps293
 go_wp2_with fail
 refine(uxc r y0 l w hR).mono ?_
 rintro e w1 ⟨G1,x,l1,y1,rfl,R1,S1,_,_,_⟩
 have b1:=bg.gr_ G1 hne
 have HS:=zrj S1
 clear S1
 have c0:=b1.c0
 have f0:w1.frozen? ⟨g,0,none⟩=false:=b1.frozen 0
 go_wp2_with fail
 go_end0
 refine⟨rfl,(x:Int),l1,y1,Blk.far R1 (p:=⟨g,0,none⟩) (Ne.symm hne) _,b1.set_ 0 _,HS.out,fun B h1 h2 h3=>?_,fun b t cs h1 h2 hb=>(hb.gr_ G1 h2).far (p:=⟨g,0,none⟩) h1 _⟩
 exact Below.setCell ((zri B w).grown G1 h3 (fun k hk=>by injection hk with hk;omega)) h1 _
theorem rtakeZ (v:Value) (w:World):Calls prog 297 #[.agg #[],v] w fun e w'=>e=.returned (.tuple #[])/\Below w.heap.size w w':=by
 go_enter func297,ntmps297
 go_wp2_with fail
 go_end0
 exact⟨rfl,(zri _ _).alloc (zra _) _⟩
theorem reqDecJ (b:Zba) (k:Int) (r:Zlu) (hp:pInt b.data.toList=.ok k r) (hkind:k=1) (w:World) (hb:b.size<=4611686018427387904) (hT:Tabs w) :
  Calls prog 45 #[.string b] w fun e w'=>uk1 w (finQ (pPart k r)) e w':=by
 have hzd:=uq7
 obtain⟨l,rfl⟩:∃l,b=bstr l:=⟨b.data.toList,(ux3 b).symm⟩
 rw[uqz] at hb
 rw[uqu] at *
 rw[pPart_J k hkind]
 have s1:=zsb w (.cells (kqv 0) 44)
 have br3:Blk ((w.alloc (.cells (kqv 0) 44)).alloc (.cells #[.string (bstr l),.int .i64 0] 169)) w.heap.size 44 (kqv 0):=(Blk.new w 44 (kqv 0)).alloc _
 have rd3:Rd ((w.alloc (.cells (kqv 0) 44)).alloc (.cells #[.string (bstr l),.int .i64 0] 169)) (w.heap.size+1) l 0:=by have h:=Blk.new (w.alloc (.cells (kqv 0) 44)) 169 #[.string (bstr l),.int .i64 0];rw[s1] at h;exact h
 have hB3:Below w.heap.size w ((w.alloc (.cells (kqv 0) 44)).alloc (.cells #[.string (bstr l),.int .i64 0] 169)):=((zri _ _).alloc (zra _) _).alloc (by rw[s1];omega) _
 have HT:=zrj hT
 clear s1 hT
 go_enter func45,ntmps45
 go_wp2_with fail
 generalize(w.alloc (.cells (kqv 0) 44)).alloc (.cells #[.string (bstr l),.int .i64 0] 169)=W3 at *
 refine(uxc (w.heap.size+1) 0 l W3 rd3).mono ?_
 rintro e w4 ⟨G4,n,l1,y1,rfl,R4,S4,_,_,_⟩
 have br4:=br3.gr_ G4 (by omega)
 have hB4:Below w.heap.size w w4:=hB3.grown G4 (by have:=rd3.lt;omega) (fun k hk=>by injection hk with hk;omega)
 obtain⟨rfl,rfl,rfl⟩:=(S4.2.2 rfl).1 _ _ hp
 have hl1:l1.length<=l.length:=S4.1
 have c1:=R4.c1
 have HK:=zrj hkind
 clear S4 G4 br3 rd3 hB3 hp hkind
 go_wp2_with fail
 refine(wwg ⟨(n:Int),noJ,noN,noL,ByteArray.empty,0⟩ HK.out w4).mono ?_
 rintro e w5 ⟨g,rfl,hg,bg,hb5⟩
 have br5:=br4.bl hb5
 have hr4:=R4.lt
 have rd5:Rd w5 (w.heap.size+1) l1 0:=Blk.below R4 hb5 R4.lt
 have hB5:=bthen hB4 hb5
 clear hb5 hB4 br4 R4 c1
 go_wp2_with fail
 refine(rtakeJ noJ g (w.heap.size+1) 0 l1 w5 bg rd5 (by omega) (by omega) (HT.out.below hB5)).mono ?_
 rintro e w6 ⟨rfl,x,l2,y2,rd6,bg6,S6,B6,K6⟩
 have br6:=K6 _ _ _ (by omega) (by omega) br5
 have hB6:=hB5.trans (B6 w.heap.size (by omega) (by omega) hB5.size)
 have HF:=zrj (uw6 (fun j=>⟨(n:Int),j,noN,noL,ByteArray.empty,0⟩) (ukl 3).err S6)
 clear S6 B6 K6 hB5 br5 rd5 bg
 go_wp2_with fail
 refine(uk8 (w.heap.size+1) y2 l2 w6 rd6).mono ?_
 rintro e w7 ⟨G7,rfl⟩
 have br7:=br6.gr_ G7 (by omega)
 have bg7:=bg6.gr_ G7 (by omega)
 have hB7:Below w.heap.size w w7:=hB6.grown G7 (by have:=br6.lt;omega) (fun k hk=>by injection hk with hk;omega)
 clear G7 br6 bg6 rd6 hB6
 by_cases he:endE y2 l2=0
 rotate_left
 ·have hne:((endE y2 l2:Int) != 0)=true:=by rw[bne_iff_ne];omega
  have HR:=zrj (HF.out.1 he)
  generalize endE y2 l2=er at *
  clear he HF
  go_wp2_with(first | (refine uqc rfl _ _ _ rfl w.heap.size rfl _ _ (kqv 0) br7 rfl uqd rfl (by simp[Value.oneCell']) ?_))
  refine bodyPost_ret (uqi rfl _ rfl (br7.setRow (kqv 0)) underlying44 rfl uqd) rfl ?_
  exact uxx HR.out (uqh hB7 (zra _) _)
 obtain⟨hr,hx⟩:=HF.out.2 he
 rw[he]
 have HRr:=zrj hr
 have hx:=((ukl 3).bwd _ _ _ hx).1
 have HSz:=zrj (show ReqSz ⟨(n:Int),x,noN,noL,ByteArray.empty,0⟩ from⟨uy3 hx.1,uy3 hx.2.2.2.2,szE,szE,szE,szE,szE⟩)
 clear HF he hr hx
 go_wp2_with fail
 refine(wholeJ (n:Int) x g w7 bg7).mono ?_
 rintro e w8 ⟨rfl,hb8⟩
 have br8:=br7.bl hb8
 have hB8:=bthen hB7 hb8
 have bq9:=Blk.new w8 44 #[.int .i64 (n:Int),.string x.name,.int .i64 x.prio,.int .i64 x.need,.int .i64 x.tries,.string x.tag,.string .empty,.int .i64 0,.string .empty,.string .empty,.string .empty,.int .i64 0,.string .empty,.int .i64 0]
 have br9:=br8.alloc (.cells #[.int .i64 (n:Int),.string x.name,.int .i64 x.prio,.int .i64 x.need,.int .i64 x.tries,.string x.tag,.string .empty,.int .i64 0,.string .empty,.string .empty,.string .empty,.int .i64 0,.string .empty,.int .i64 0] 44)
 have hB9:=hB8.alloc hB8.size (.cells #[.int .i64 (n:Int),.string x.name,.int .i64 x.prio,.int .i64 x.need,.int .i64 x.tries,.string x.tag,.string .empty,.int .i64 0,.string .empty,.string .empty,.string .empty,.int .i64 0,.string .empty,.int .i64 0] 44)
 have n9:w.heap.size≠w8.heap.size:=by have:=br8.lt;omega
 have HCk:=zrj (fun(W:World) (hW:Tabs W)=>uzc ⟨(n:Int),x,noN,noL,ByteArray.empty,0⟩ W HSz.out hW)
 have hqq:(fun r:ReqD×Nat=>r=(if reqE ⟨(n:Int),x,noN,noL,ByteArray.empty,0⟩≠0 then(noQ,reqE ⟨(n:Int),x,noN,noL,ByteArray.empty,0⟩) else(⟨(n:Int),x,noN,noL,ByteArray.empty,0⟩,0))) (if reqE ⟨(n:Int),x,noN,noL,ByteArray.empty,0⟩≠0 then(noQ,reqE ⟨(n:Int),x,noN,noL,ByteArray.empty,0⟩) else(⟨(n:Int),x,noN,noL,ByteArray.empty,0⟩,0)):=rfl
 clear hqq
 generalize hre:reqE ⟨(n:Int),x,noN,noL,ByteArray.empty,0⟩=er at *
 clear hre hb8 hB7 br7 bg7 br8 hB8
 go_wp2_with(first | (refine uqf rfl _ _ _ rfl rfl _ _ #[.int .i64 (n:Int),.string x.name,.int .i64 x.prio,.int .i64 x.need,.int .i64 x.tries,.string x.tag,.string .empty,.int .i64 0,.string .empty,.string .empty,.string .empty,.int .i64 0,.string .empty,.int .i64 0] rfl uqd rfl (by simp[Value.oneCell']) ?_) | (refine uqa rfl _ _ rfl (w8.heap.size) rfl _ _ bq9 _ underlying44 rfl uqd ?_))
 generalize w8.alloc _=w9 at *
 generalize w8.heap.size=gq at *
 refine(HCk.out w9 (HT.out.below hB9)).mono ?_
 rintro e wa ⟨rfl,hba⟩
 have bra:=br9.bl hba
 have bqa:=bq9.bl hba
 have hBa:=bthen hB9 hba
 clear hba hB9 br9 bq9 HCk
 by_cases h0:er=0
 rotate_left
 ·have hne:((er:Int) != 0)=true:=by rw[bne_iff_ne];omega
  have HR2:=zrj (HRr.out.trans (if_pos h0))
  clear h0 HRr
  go_wp2_with(first | (refine uqc rfl _ _ _ rfl w.heap.size rfl _ _ (kqv 0) bra rfl uqd rfl (by simp[Value.oneCell']) ?_))
  refine bodyPost_ret (uqi rfl _ rfl (bra.setRow (kqv 0)) underlying44 rfl uqd) rfl ?_
  exact uxx HR2.out (uqh hBa (zra _) _)
 subst h0
 have HR3:=zrj (HRr.out.trans (if_neg (by simp)))
 clear HRr
 go_wp2_with(first | (refine uqa rfl _ _ rfl gq rfl _ _ bqa _ underlying44 rfl uqd ?_) | (refine uqc rfl _ _ _ rfl w.heap.size rfl _ _ #[.int .i64 (n:Int),.string x.name,.int .i64 x.prio,.int .i64 x.need,.int .i64 x.tries,.string x.tag,.string .empty,.int .i64 0,.string .empty,.string .empty,.string .empty,.int .i64 0,.string .empty,.int .i64 0] bra rfl uqd rfl (by simp[Value.oneCell']) ?_))
 refine bodyPost_ret (uqi rfl _ rfl (bra.setRow #[.int .i64 (n:Int),.string x.name,.int .i64 x.prio,.int .i64 x.need,.int .i64 x.tries,.string x.tag,.string .empty,.int .i64 0,.string .empty,.string .empty,.string .empty,.int .i64 0,.string .empty,.int .i64 0]) underlying44 rfl uqd) rfl ?_
 rw[HR3.out]
 exact⟨rfl,uqh hBa (zra _) _⟩
theorem reqDecN (b:Zba) (k:Int) (r:Zlu) (hp:pInt b.data.toList=.ok k r) (hkind:k=2) (w:World) (hb:b.size<=4611686018427387904) (hT:Tabs w) :
  Calls prog 45 #[.string b] w fun e w'=>uk1 w (finQ (pPart k r)) e w':=by
 have hzd:=uq7
 obtain⟨l,rfl⟩:∃l,b=bstr l:=⟨b.data.toList,(ux3 b).symm⟩
 rw[uqz] at hb
 rw[uqu] at *
 rw[pPart_N k hkind]
 have s1:=zsb w (.cells (kqv 0) 44)
 have br3:Blk ((w.alloc (.cells (kqv 0) 44)).alloc (.cells #[.string (bstr l),.int .i64 0] 169)) w.heap.size 44 (kqv 0):=(Blk.new w 44 (kqv 0)).alloc _
 have rd3:Rd ((w.alloc (.cells (kqv 0) 44)).alloc (.cells #[.string (bstr l),.int .i64 0] 169)) (w.heap.size+1) l 0:=by have h:=Blk.new (w.alloc (.cells (kqv 0) 44)) 169 #[.string (bstr l),.int .i64 0];rw[s1] at h;exact h
 have hB3:Below w.heap.size w ((w.alloc (.cells (kqv 0) 44)).alloc (.cells #[.string (bstr l),.int .i64 0] 169)):=((zri _ _).alloc (zra _) _).alloc (by rw[s1];omega) _
 have HT:=zrj hT
 clear s1 hT
 go_enter func45,ntmps45
 go_wp2_with fail
 generalize(w.alloc (.cells (kqv 0) 44)).alloc (.cells #[.string (bstr l),.int .i64 0] 169)=W3 at *
 refine(uxc (w.heap.size+1) 0 l W3 rd3).mono ?_
 rintro e w4 ⟨G4,n,l1,y1,rfl,R4,S4,_,_,_⟩
 have br4:=br3.gr_ G4 (by omega)
 have hB4:Below w.heap.size w w4:=hB3.grown G4 (by have:=rd3.lt;omega) (fun k hk=>by injection hk with hk;omega)
 obtain⟨rfl,rfl,rfl⟩:=(S4.2.2 rfl).1 _ _ hp
 have hl1:l1.length<=l.length:=S4.1
 have c1:=R4.c1
 have HK:=zrj hkind
 clear S4 G4 br3 rd3 hB3 hp hkind
 go_wp2_with fail
 refine(wwi ⟨(n:Int),noJ,noN,noL,ByteArray.empty,0⟩ HK.out w4).mono ?_
 rintro e w5 ⟨g,rfl,hg,bg,hb5⟩
 have br5:=br4.bl hb5
 have hr4:=R4.lt
 have rd5:Rd w5 (w.heap.size+1) l1 0:=Blk.below R4 hb5 R4.lt
 have hB5:=bthen hB4 hb5
 clear hb5 hB4 br4 R4 c1
 go_wp2_with fail
 refine(rtakeN noN g (w.heap.size+1) 0 l1 w5 bg rd5 (by omega) (by omega) (HT.out.below hB5)).mono ?_
 rintro e w6 ⟨rfl,x,l2,y2,rd6,bg6,S6,B6,K6⟩
 have br6:=K6 _ _ _ (by omega) (by omega) br5
 have hB6:=hB5.trans (B6 w.heap.size (by omega) (by omega) hB5.size)
 have HF:=zrj (uw6 (fun j=>⟨(n:Int),noJ,j,noL,ByteArray.empty,0⟩) (uji 3).err S6)
 clear S6 B6 K6 hB5 br5 rd5 bg
 go_wp2_with fail
 refine(uk8 (w.heap.size+1) y2 l2 w6 rd6).mono ?_
 rintro e w7 ⟨G7,rfl⟩
 have br7:=br6.gr_ G7 (by omega)
 have bg7:=bg6.gr_ G7 (by omega)
 have hB7:Below w.heap.size w w7:=hB6.grown G7 (by have:=br6.lt;omega) (fun k hk=>by injection hk with hk;omega)
 clear G7 br6 bg6 rd6 hB6
 by_cases he:endE y2 l2=0
 rotate_left
 ·have hne:((endE y2 l2:Int) != 0)=true:=by rw[bne_iff_ne];omega
  have HR:=zrj (HF.out.1 he)
  generalize endE y2 l2=er at *
  clear he HF
  go_wp2_with(first | (refine uqc rfl _ _ _ rfl w.heap.size rfl _ _ (kqv 0) br7 rfl uqd rfl (by simp[Value.oneCell']) ?_))
  refine bodyPost_ret (uqi rfl _ rfl (br7.setRow (kqv 0)) underlying44 rfl uqd) rfl ?_
  exact uxx HR.out (uqh hB7 (zra _) _)
 obtain⟨hr,hx⟩:=HF.out.2 he
 rw[he]
 have HRr:=zrj hr
 have hx:=((uji 3).bwd _ _ _ hx).1
 have HSz:=zrj (show ReqSz ⟨(n:Int),noJ,x,noL,ByteArray.empty,0⟩ from⟨szE,szE,uy3 hx.1,uy3 hx.2.2,szE,szE,szE⟩)
 clear HF he hr hx
 go_wp2_with fail
 refine(wholeN (n:Int) x g w7 bg7).mono ?_
 rintro e w8 ⟨rfl,hb8⟩
 have br8:=br7.bl hb8
 have hB8:=bthen hB7 hb8
 have bq9:=Blk.new w8 44 #[.int .i64 (n:Int),.string .empty,.int .i64 0,.int .i64 0,.int .i64 0,.string .empty,.string x.name,.int .i64 x.room,.string x.zone,.string .empty,.string .empty,.int .i64 0,.string .empty,.int .i64 0]
 have br9:=br8.alloc (.cells #[.int .i64 (n:Int),.string .empty,.int .i64 0,.int .i64 0,.int .i64 0,.string .empty,.string x.name,.int .i64 x.room,.string x.zone,.string .empty,.string .empty,.int .i64 0,.string .empty,.int .i64 0] 44)
 have hB9:=hB8.alloc hB8.size (.cells #[.int .i64 (n:Int),.string .empty,.int .i64 0,.int .i64 0,.int .i64 0,.string .empty,.string x.name,.int .i64 x.room,.string x.zone,.string .empty,.string .empty,.int .i64 0,.string .empty,.int .i64 0] 44)
 have n9:w.heap.size≠w8.heap.size:=by have:=br8.lt;omega
 have HCk:=zrj (fun(W:World) (hW:Tabs W)=>uzc ⟨(n:Int),noJ,x,noL,ByteArray.empty,0⟩ W HSz.out hW)
 have hqq:(fun r:ReqD×Nat=>r=(if reqE ⟨(n:Int),noJ,x,noL,ByteArray.empty,0⟩≠0 then(noQ,reqE ⟨(n:Int),noJ,x,noL,ByteArray.empty,0⟩) else(⟨(n:Int),noJ,x,noL,ByteArray.empty,0⟩,0))) (if reqE ⟨(n:Int),noJ,x,noL,ByteArray.empty,0⟩≠0 then(noQ,reqE ⟨(n:Int),noJ,x,noL,ByteArray.empty,0⟩) else(⟨(n:Int),noJ,x,noL,ByteArray.empty,0⟩,0)):=rfl
 clear hqq
 generalize hre:reqE ⟨(n:Int),noJ,x,noL,ByteArray.empty,0⟩=er at *
 clear hre hb8 hB7 br7 bg7 br8 hB8
 go_wp2_with(first | (refine uqf rfl _ _ _ rfl rfl _ _ #[.int .i64 (n:Int),.string .empty,.int .i64 0,.int .i64 0,.int .i64 0,.string .empty,.string x.name,.int .i64 x.room,.string x.zone,.string .empty,.string .empty,.int .i64 0,.string .empty,.int .i64 0] rfl uqd rfl (by simp[Value.oneCell']) ?_) | (refine uqa rfl _ _ rfl (w8.heap.size) rfl _ _ bq9 _ underlying44 rfl uqd ?_))
 generalize w8.alloc _=w9 at *
 generalize w8.heap.size=gq at *
 refine(HCk.out w9 (HT.out.below hB9)).mono ?_
 rintro e wa ⟨rfl,hba⟩
 have bra:=br9.bl hba
 have bqa:=bq9.bl hba
 have hBa:=bthen hB9 hba
 clear hba hB9 br9 bq9 HCk
 by_cases h0:er=0
 rotate_left
 ·have hne:((er:Int) != 0)=true:=by rw[bne_iff_ne];omega
  have HR2:=zrj (HRr.out.trans (if_pos h0))
  clear h0 HRr
  go_wp2_with(first | (refine uqc rfl _ _ _ rfl w.heap.size rfl _ _ (kqv 0) bra rfl uqd rfl (by simp[Value.oneCell']) ?_))
  refine bodyPost_ret (uqi rfl _ rfl (bra.setRow (kqv 0)) underlying44 rfl uqd) rfl ?_
  exact uxx HR2.out (uqh hBa (zra _) _)
 subst h0
 have HR3:=zrj (HRr.out.trans (if_neg (by simp)))
 clear HRr
 go_wp2_with(first | (refine uqa rfl _ _ rfl gq rfl _ _ bqa _ underlying44 rfl uqd ?_) | (refine uqc rfl _ _ _ rfl w.heap.size rfl _ _ #[.int .i64 (n:Int),.string .empty,.int .i64 0,.int .i64 0,.int .i64 0,.string .empty,.string x.name,.int .i64 x.room,.string x.zone,.string .empty,.string .empty,.int .i64 0,.string .empty,.int .i64 0] bra rfl uqd rfl (by simp[Value.oneCell']) ?_))
 refine bodyPost_ret (uqi rfl _ rfl (bra.setRow #[.int .i64 (n:Int),.string .empty,.int .i64 0,.int .i64 0,.int .i64 0,.string .empty,.string x.name,.int .i64 x.room,.string x.zone,.string .empty,.string .empty,.int .i64 0,.string .empty,.int .i64 0]) underlying44 rfl uqd) rfl ?_
 rw[HR3.out]
 exact⟨rfl,uqh hBa (zra _) _⟩
theorem reqDecL (b:Zba) (k:Int) (r:Zlu) (hp:pInt b.data.toList=.ok k r) (hkind:k=5) (w:World) (hb:b.size<=4611686018427387904) (hT:Tabs w) :
  Calls prog 45 #[.string b] w fun e w'=>uk1 w (finQ (pPart k r)) e w':=by
 have hzd:=uq7
 obtain⟨l,rfl⟩:∃l,b=bstr l:=⟨b.data.toList,(ux3 b).symm⟩
 rw[uqz] at hb
 rw[uqu] at *
 rw[pPart_L k hkind]
 have s1:=zsb w (.cells (kqv 0) 44)
 have br3:Blk ((w.alloc (.cells (kqv 0) 44)).alloc (.cells #[.string (bstr l),.int .i64 0] 169)) w.heap.size 44 (kqv 0):=(Blk.new w 44 (kqv 0)).alloc _
 have rd3:Rd ((w.alloc (.cells (kqv 0) 44)).alloc (.cells #[.string (bstr l),.int .i64 0] 169)) (w.heap.size+1) l 0:=by have h:=Blk.new (w.alloc (.cells (kqv 0) 44)) 169 #[.string (bstr l),.int .i64 0];rw[s1] at h;exact h
 have hB3:Below w.heap.size w ((w.alloc (.cells (kqv 0) 44)).alloc (.cells #[.string (bstr l),.int .i64 0] 169)):=((zri _ _).alloc (zra _) _).alloc (by rw[s1];omega) _
 have HT:=zrj hT
 clear s1 hT
 go_enter func45,ntmps45
 go_wp2_with fail
 generalize(w.alloc (.cells (kqv 0) 44)).alloc (.cells #[.string (bstr l),.int .i64 0] 169)=W3 at *
 refine(uxc (w.heap.size+1) 0 l W3 rd3).mono ?_
 rintro e w4 ⟨G4,n,l1,y1,rfl,R4,S4,_,_,_⟩
 have br4:=br3.gr_ G4 (by omega)
 have hB4:Below w.heap.size w w4:=hB3.grown G4 (by have:=rd3.lt;omega) (fun k hk=>by injection hk with hk;omega)
 obtain⟨rfl,rfl,rfl⟩:=(S4.2.2 rfl).1 _ _ hp
 have hl1:l1.length<=l.length:=S4.1
 have c1:=R4.c1
 have HK:=zrj hkind
 clear S4 G4 br3 rd3 hB3 hp hkind
 go_wp2_with fail
 refine(wwh ⟨(n:Int),noJ,noN,noL,ByteArray.empty,0⟩ HK.out w4).mono ?_
 rintro e w5 ⟨g,rfl,hg,bg,hb5⟩
 have br5:=br4.bl hb5
 have hr4:=R4.lt
 have rd5:Rd w5 (w.heap.size+1) l1 0:=Blk.below R4 hb5 R4.lt
 have hB5:=bthen hB4 hb5
 clear hb5 hB4 br4 R4 c1
 go_wp2_with fail
 refine(rtakeL noL g (w.heap.size+1) 0 l1 w5 bg rd5 (by omega) (by omega) (HT.out.below hB5)).mono ?_
 rintro e w6 ⟨rfl,x,l2,y2,rd6,bg6,S6,B6,K6⟩
 have br6:=K6 _ _ _ (by omega) (by omega) br5
 have hB6:=hB5.trans (B6 w.heap.size (by omega) (by omega) hB5.size)
 have HF:=zrj (uw6 (fun j=>⟨(n:Int),noJ,noN,j,ByteArray.empty,0⟩) uju.err S6)
 clear S6 B6 K6 hB5 br5 rd5 bg
 go_wp2_with fail
 refine(uk8 (w.heap.size+1) y2 l2 w6 rd6).mono ?_
 rintro e w7 ⟨G7,rfl⟩
 have br7:=br6.gr_ G7 (by omega)
 have bg7:=bg6.gr_ G7 (by omega)
 have hB7:Below w.heap.size w w7:=hB6.grown G7 (by have:=br6.lt;omega) (fun k hk=>by injection hk with hk;omega)
 clear G7 br6 bg6 rd6 hB6
 by_cases he:endE y2 l2=0
 rotate_left
 ·have hne:((endE y2 l2:Int) != 0)=true:=by rw[bne_iff_ne];omega
  have HR:=zrj (HF.out.1 he)
  generalize endE y2 l2=er at *
  clear he HF
  go_wp2_with(first | (refine uqc rfl _ _ _ rfl w.heap.size rfl _ _ (kqv 0) br7 rfl uqd rfl (by simp[Value.oneCell']) ?_))
  refine bodyPost_ret (uqi rfl _ rfl (br7.setRow (kqv 0)) underlying44 rfl uqd) rfl ?_
  exact uxx HR.out (uqh hB7 (zra _) _)
 obtain⟨hr,hx⟩:=HF.out.2 he
 rw[he]
 have HRr:=zrj hr
 have hx:=(uju.bwd _ _ _ hx).1
 have HSz:=zrj (show ReqSz ⟨(n:Int),noJ,noN,x,ByteArray.empty,0⟩ from⟨szE,szE,szE,szE,uy3 hx.1,uy3 hx.2.1,szE⟩)
 clear HF he hr hx
 go_wp2_with fail
 refine(wholeL (n:Int) x g w7 bg7).mono ?_
 rintro e w8 ⟨rfl,hb8⟩
 have br8:=br7.bl hb8
 have hB8:=bthen hB7 hb8
 have bq9:=Blk.new w8 44 #[.int .i64 (n:Int),.string .empty,.int .i64 0,.int .i64 0,.int .i64 0,.string .empty,.string .empty,.int .i64 0,.string .empty,.string x.job,.string x.node,.int .i64 x.till,.string .empty,.int .i64 0]
 have br9:=br8.alloc (.cells #[.int .i64 (n:Int),.string .empty,.int .i64 0,.int .i64 0,.int .i64 0,.string .empty,.string .empty,.int .i64 0,.string .empty,.string x.job,.string x.node,.int .i64 x.till,.string .empty,.int .i64 0] 44)
 have hB9:=hB8.alloc hB8.size (.cells #[.int .i64 (n:Int),.string .empty,.int .i64 0,.int .i64 0,.int .i64 0,.string .empty,.string .empty,.int .i64 0,.string .empty,.string x.job,.string x.node,.int .i64 x.till,.string .empty,.int .i64 0] 44)
 have n9:w.heap.size≠w8.heap.size:=by have:=br8.lt;omega
 have HCk:=zrj (fun(W:World) (hW:Tabs W)=>uzc ⟨(n:Int),noJ,noN,x,ByteArray.empty,0⟩ W HSz.out hW)
 have hqq:(fun r:ReqD×Nat=>r=(if reqE ⟨(n:Int),noJ,noN,x,ByteArray.empty,0⟩≠0 then(noQ,reqE ⟨(n:Int),noJ,noN,x,ByteArray.empty,0⟩) else(⟨(n:Int),noJ,noN,x,ByteArray.empty,0⟩,0))) (if reqE ⟨(n:Int),noJ,noN,x,ByteArray.empty,0⟩≠0 then(noQ,reqE ⟨(n:Int),noJ,noN,x,ByteArray.empty,0⟩) else(⟨(n:Int),noJ,noN,x,ByteArray.empty,0⟩,0)):=rfl
 clear hqq
 generalize hre:reqE ⟨(n:Int),noJ,noN,x,ByteArray.empty,0⟩=er at *
 clear hre hb8 hB7 br7 bg7 br8 hB8
 go_wp2_with(first | (refine uqf rfl _ _ _ rfl rfl _ _ #[.int .i64 (n:Int),.string .empty,.int .i64 0,.int .i64 0,.int .i64 0,.string .empty,.string .empty,.int .i64 0,.string .empty,.string x.job,.string x.node,.int .i64 x.till,.string .empty,.int .i64 0] rfl uqd rfl (by simp[Value.oneCell']) ?_) | (refine uqa rfl _ _ rfl (w8.heap.size) rfl _ _ bq9 _ underlying44 rfl uqd ?_))
 generalize w8.alloc _=w9 at *
 generalize w8.heap.size=gq at *
 refine(HCk.out w9 (HT.out.below hB9)).mono ?_
 rintro e wa ⟨rfl,hba⟩
 have bra:=br9.bl hba
 have bqa:=bq9.bl hba
 have hBa:=bthen hB9 hba
 clear hba hB9 br9 bq9 HCk
 by_cases h0:er=0
 rotate_left
 ·have hne:((er:Int) != 0)=true:=by rw[bne_iff_ne];omega
  have HR2:=zrj (HRr.out.trans (if_pos h0))
  clear h0 HRr
  go_wp2_with(first | (refine uqc rfl _ _ _ rfl w.heap.size rfl _ _ (kqv 0) bra rfl uqd rfl (by simp[Value.oneCell']) ?_))
  refine bodyPost_ret (uqi rfl _ rfl (bra.setRow (kqv 0)) underlying44 rfl uqd) rfl ?_
  exact uxx HR2.out (uqh hBa (zra _) _)
 subst h0
 have HR3:=zrj (HRr.out.trans (if_neg (by simp)))
 clear HRr
 go_wp2_with(first | (refine uqa rfl _ _ rfl gq rfl _ _ bqa _ underlying44 rfl uqd ?_) | (refine uqc rfl _ _ _ rfl w.heap.size rfl _ _ #[.int .i64 (n:Int),.string .empty,.int .i64 0,.int .i64 0,.int .i64 0,.string .empty,.string .empty,.int .i64 0,.string .empty,.string x.job,.string x.node,.int .i64 x.till,.string .empty,.int .i64 0] bra rfl uqd rfl (by simp[Value.oneCell']) ?_))
 refine bodyPost_ret (uqi rfl _ rfl (bra.setRow #[.int .i64 (n:Int),.string .empty,.int .i64 0,.int .i64 0,.int .i64 0,.string .empty,.string .empty,.int .i64 0,.string .empty,.string x.job,.string x.node,.int .i64 x.till,.string .empty,.int .i64 0]) underlying44 rfl uqd) rfl ?_
 rw[HR3.out]
 exact⟨rfl,uqh hBa (zra _) _⟩
theorem reqDecS (b:Zba) (k:Int) (r:Zlu) (hp:pInt b.data.toList=.ok k r) (hkind:k=3\/k=4\/k=6) (w:World) (hb:b.size<=4611686018427387904) (hT:Tabs w) :
  Calls prog 45 #[.string b] w fun e w'=>uk1 w (finQ (pPart k r)) e w':=by
 have hzd:=uq7
 obtain⟨l,rfl⟩:∃l,b=bstr l:=⟨b.data.toList,(ux3 b).symm⟩
 rw[uqz] at hb
 rw[uqu] at *
 rw[pPart_S k hkind]
 have s1:=zsb w (.cells (kqv 0) 44)
 have br3:Blk ((w.alloc (.cells (kqv 0) 44)).alloc (.cells #[.string (bstr l),.int .i64 0] 169)) w.heap.size 44 (kqv 0):=(Blk.new w 44 (kqv 0)).alloc _
 have rd3:Rd ((w.alloc (.cells (kqv 0) 44)).alloc (.cells #[.string (bstr l),.int .i64 0] 169)) (w.heap.size+1) l 0:=by have h:=Blk.new (w.alloc (.cells (kqv 0) 44)) 169 #[.string (bstr l),.int .i64 0];rw[s1] at h;exact h
 have hB3:Below w.heap.size w ((w.alloc (.cells (kqv 0) 44)).alloc (.cells #[.string (bstr l),.int .i64 0] 169)):=((zri _ _).alloc (zra _) _).alloc (by rw[s1];omega) _
 have HT:=zrj hT
 clear s1 hT
 go_enter func45,ntmps45
 go_wp2_with fail
 generalize(w.alloc (.cells (kqv 0) 44)).alloc (.cells #[.string (bstr l),.int .i64 0] 169)=W3 at *
 refine(uxc (w.heap.size+1) 0 l W3 rd3).mono ?_
 rintro e w4 ⟨G4,n,l1,y1,rfl,R4,S4,_,_,_⟩
 have br4:=br3.gr_ G4 (by omega)
 have hB4:Below w.heap.size w w4:=hB3.grown G4 (by have:=rd3.lt;omega) (fun k hk=>by injection hk with hk;omega)
 obtain⟨rfl,rfl,rfl⟩:=(S4.2.2 rfl).1 _ _ hp
 have hl1:l1.length<=l.length:=S4.1
 have c1:=R4.c1
 have HK:=zrj hkind
 clear S4 G4 br3 rd3 hB3 hp hkind
 go_wp2_with fail
 refine(xv4 ⟨(n:Int),noJ,noN,noL,ByteArray.empty,0⟩ HK.out w4).mono ?_
 rintro e w5 ⟨g,rfl,hg,bg,hb5⟩
 have br5:=br4.bl hb5
 have hr4:=R4.lt
 have rd5:Rd w5 (w.heap.size+1) l1 0:=Blk.below R4 hb5 R4.lt
 have hB5:=bthen hB4 hb5
 clear hb5 hB4 br4 R4 c1
 go_wp2_with fail
 refine(rtakeS ByteArray.empty g (w.heap.size+1) 0 l1 w5 bg rd5 (by omega) (by omega) (HT.out.below hB5)).mono ?_
 rintro e w6 ⟨rfl,x,l2,y2,rd6,bg6,S6,B6,K6⟩
 have br6:=K6 _ _ _ (by omega) (by omega) br5
 have hB6:=hB5.trans (B6 w.heap.size (by omega) (by omega) hB5.size)
 have HF:=zrj (uw6 (fun j=>⟨(n:Int),noJ,noN,noL,j,0⟩) uzl.err S6)
 clear S6 B6 K6 hB5 br5 rd5 bg
 go_wp2_with fail
 refine(uk8 (w.heap.size+1) y2 l2 w6 rd6).mono ?_
 rintro e w7 ⟨G7,rfl⟩
 have br7:=br6.gr_ G7 (by omega)
 have bg7:=bg6.gr_ G7 (by omega)
 have hB7:Below w.heap.size w w7:=hB6.grown G7 (by have:=br6.lt;omega) (fun k hk=>by injection hk with hk;omega)
 clear G7 br6 bg6 rd6 hB6
 by_cases he:endE y2 l2=0
 rotate_left
 ·have hne:((endE y2 l2:Int) != 0)=true:=by rw[bne_iff_ne];omega
  have HR:=zrj (HF.out.1 he)
  generalize endE y2 l2=er at *
  clear he HF
  go_wp2_with(first | (refine uqc rfl _ _ _ rfl w.heap.size rfl _ _ (kqv 0) br7 rfl uqd rfl (by simp[Value.oneCell']) ?_))
  refine bodyPost_ret (uqi rfl _ rfl (br7.setRow (kqv 0)) underlying44 rfl uqd) rfl ?_
  exact uxx HR.out (uqh hB7 (zra _) _)
 obtain⟨hr,hx⟩:=HF.out.2 he
 rw[he]
 have HRr:=zrj hr
 have hx:=(uzl.bwd _ _ _ hx).1
 have HSz:=zrj (show ReqSz ⟨(n:Int),noJ,noN,noL,x,0⟩ from⟨szE,szE,szE,szE,szE,szE,uy3 hx⟩)
 clear HF he hr hx
 go_wp2_with fail
 refine(wholeS (n:Int) x g w7 bg7).mono ?_
 rintro e w8 ⟨rfl,hb8⟩
 have br8:=br7.bl hb8
 have hB8:=bthen hB7 hb8
 have bq9:=Blk.new w8 44 #[.int .i64 (n:Int),.string .empty,.int .i64 0,.int .i64 0,.int .i64 0,.string .empty,.string .empty,.int .i64 0,.string .empty,.string .empty,.string .empty,.int .i64 0,.string x,.int .i64 0]
 have br9:=br8.alloc (.cells #[.int .i64 (n:Int),.string .empty,.int .i64 0,.int .i64 0,.int .i64 0,.string .empty,.string .empty,.int .i64 0,.string .empty,.string .empty,.string .empty,.int .i64 0,.string x,.int .i64 0] 44)
 have hB9:=hB8.alloc hB8.size (.cells #[.int .i64 (n:Int),.string .empty,.int .i64 0,.int .i64 0,.int .i64 0,.string .empty,.string .empty,.int .i64 0,.string .empty,.string .empty,.string .empty,.int .i64 0,.string x,.int .i64 0] 44)
 have n9:w.heap.size≠w8.heap.size:=by have:=br8.lt;omega
 have HCk:=zrj (fun(W:World) (hW:Tabs W)=>uzc ⟨(n:Int),noJ,noN,noL,x,0⟩ W HSz.out hW)
 have hqq:(fun r:ReqD×Nat=>r=(if reqE ⟨(n:Int),noJ,noN,noL,x,0⟩≠0 then(noQ,reqE ⟨(n:Int),noJ,noN,noL,x,0⟩) else(⟨(n:Int),noJ,noN,noL,x,0⟩,0))) (if reqE ⟨(n:Int),noJ,noN,noL,x,0⟩≠0 then(noQ,reqE ⟨(n:Int),noJ,noN,noL,x,0⟩) else(⟨(n:Int),noJ,noN,noL,x,0⟩,0)):=rfl
 clear hqq
 generalize hre:reqE ⟨(n:Int),noJ,noN,noL,x,0⟩=er at *
 clear hre hb8 hB7 br7 bg7 br8 hB8
 go_wp2_with(first | (refine uqf rfl _ _ _ rfl rfl _ _ #[.int .i64 (n:Int),.string .empty,.int .i64 0,.int .i64 0,.int .i64 0,.string .empty,.string .empty,.int .i64 0,.string .empty,.string .empty,.string .empty,.int .i64 0,.string x,.int .i64 0] rfl uqd rfl (by simp[Value.oneCell']) ?_) | (refine uqa rfl _ _ rfl (w8.heap.size) rfl _ _ bq9 _ underlying44 rfl uqd ?_))
 generalize w8.alloc _=w9 at *
 generalize w8.heap.size=gq at *
 refine(HCk.out w9 (HT.out.below hB9)).mono ?_
 rintro e wa ⟨rfl,hba⟩
 have bra:=br9.bl hba
 have bqa:=bq9.bl hba
 have hBa:=bthen hB9 hba
 clear hba hB9 br9 bq9 HCk
 by_cases h0:er=0
 rotate_left
 ·have hne:((er:Int) != 0)=true:=by rw[bne_iff_ne];omega
  have HR2:=zrj (HRr.out.trans (if_pos h0))
  clear h0 HRr
  go_wp2_with(first | (refine uqc rfl _ _ _ rfl w.heap.size rfl _ _ (kqv 0) bra rfl uqd rfl (by simp[Value.oneCell']) ?_))
  refine bodyPost_ret (uqi rfl _ rfl (bra.setRow (kqv 0)) underlying44 rfl uqd) rfl ?_
  exact uxx HR2.out (uqh hBa (zra _) _)
 subst h0
 have HR3:=zrj (HRr.out.trans (if_neg (by simp)))
 clear HRr
 go_wp2_with(first | (refine uqa rfl _ _ rfl gq rfl _ _ bqa _ underlying44 rfl uqd ?_) | (refine uqc rfl _ _ _ rfl w.heap.size rfl _ _ #[.int .i64 (n:Int),.string .empty,.int .i64 0,.int .i64 0,.int .i64 0,.string .empty,.string .empty,.int .i64 0,.string .empty,.string .empty,.string .empty,.int .i64 0,.string x,.int .i64 0] bra rfl uqd rfl (by simp[Value.oneCell']) ?_))
 refine bodyPost_ret (uqi rfl _ rfl (bra.setRow #[.int .i64 (n:Int),.string .empty,.int .i64 0,.int .i64 0,.int .i64 0,.string .empty,.string .empty,.int .i64 0,.string .empty,.string .empty,.string .empty,.int .i64 0,.string x,.int .i64 0]) underlying44 rfl uqd) rfl ?_
 rw[HR3.out]
 exact⟨rfl,uqh hBa (zra _) _⟩
theorem reqDecC (b:Zba) (k:Int) (r:Zlu) (hp:pInt b.data.toList=.ok k r) (hkind:k=7) (w:World) (hb:b.size<=4611686018427387904) (hT:Tabs w) :
  Calls prog 45 #[.string b] w fun e w'=>uk1 w (finQ (pPart k r)) e w':=by
 have hzd:=uq7
 obtain⟨l,rfl⟩:∃l,b=bstr l:=⟨b.data.toList,(ux3 b).symm⟩
 rw[uqz] at hb
 rw[uqu] at *
 rw[pPart_C k hkind]
 have s1:=zsb w (.cells (kqv 0) 44)
 have br3:Blk ((w.alloc (.cells (kqv 0) 44)).alloc (.cells #[.string (bstr l),.int .i64 0] 169)) w.heap.size 44 (kqv 0):=(Blk.new w 44 (kqv 0)).alloc _
 have rd3:Rd ((w.alloc (.cells (kqv 0) 44)).alloc (.cells #[.string (bstr l),.int .i64 0] 169)) (w.heap.size+1) l 0:=by have h:=Blk.new (w.alloc (.cells (kqv 0) 44)) 169 #[.string (bstr l),.int .i64 0];rw[s1] at h;exact h
 have hB3:Below w.heap.size w ((w.alloc (.cells (kqv 0) 44)).alloc (.cells #[.string (bstr l),.int .i64 0] 169)):=((zri _ _).alloc (zra _) _).alloc (by rw[s1];omega) _
 have HT:=zrj hT
 clear s1 hT
 go_enter func45,ntmps45
 go_wp2_with fail
 generalize(w.alloc (.cells (kqv 0) 44)).alloc (.cells #[.string (bstr l),.int .i64 0] 169)=W3 at *
 refine(uxc (w.heap.size+1) 0 l W3 rd3).mono ?_
 rintro e w4 ⟨G4,n,l1,y1,rfl,R4,S4,_,_,_⟩
 have br4:=br3.gr_ G4 (by omega)
 have hB4:Below w.heap.size w w4:=hB3.grown G4 (by have:=rd3.lt;omega) (fun k hk=>by injection hk with hk;omega)
 obtain⟨rfl,rfl,rfl⟩:=(S4.2.2 rfl).1 _ _ hp
 have hl1:l1.length<=l.length:=S4.1
 have c1:=R4.c1
 have HK:=zrj hkind
 clear S4 G4 br3 rd3 hB3 hp hkind
 go_wp2_with fail
 refine(wwf ⟨(n:Int),noJ,noN,noL,ByteArray.empty,0⟩ HK.out w4).mono ?_
 rintro e w5 ⟨g,rfl,hg,bg,hb5⟩
 have br5:=br4.bl hb5
 have hr4:=R4.lt
 have rd5:Rd w5 (w.heap.size+1) l1 0:=Blk.below R4 hb5 R4.lt
 have hB5:=bthen hB4 hb5
 clear hb5 hB4 br4 R4 c1
 go_wp2_with fail
 refine(rtakeC 0 g (w.heap.size+1) 0 l1 w5 bg rd5 (by omega) (by omega) (HT.out.below hB5)).mono ?_
 rintro e w6 ⟨rfl,x,l2,y2,rd6,bg6,S6,B6,K6⟩
 have br6:=K6 _ _ _ (by omega) (by omega) br5
 have hB6:=hB5.trans (B6 w.heap.size (by omega) (by omega) hB5.size)
 have HF:=zrj (uw6 (fun j=>⟨(n:Int),noJ,noN,noL,ByteArray.empty,j⟩) uzg.err S6)
 clear S6 B6 K6 hB5 br5 rd5 bg
 go_wp2_with fail
 refine(uk8 (w.heap.size+1) y2 l2 w6 rd6).mono ?_
 rintro e w7 ⟨G7,rfl⟩
 have br7:=br6.gr_ G7 (by omega)
 have bg7:=bg6.gr_ G7 (by omega)
 have hB7:Below w.heap.size w w7:=hB6.grown G7 (by have:=br6.lt;omega) (fun k hk=>by injection hk with hk;omega)
 clear G7 br6 bg6 rd6 hB6
 by_cases he:endE y2 l2=0
 rotate_left
 ·have hne:((endE y2 l2:Int) != 0)=true:=by rw[bne_iff_ne];omega
  have HR:=zrj (HF.out.1 he)
  generalize endE y2 l2=er at *
  clear he HF
  go_wp2_with(first | (refine uqc rfl _ _ _ rfl w.heap.size rfl _ _ (kqv 0) br7 rfl uqd rfl (by simp[Value.oneCell']) ?_))
  refine bodyPost_ret (uqi rfl _ rfl (br7.setRow (kqv 0)) underlying44 rfl uqd) rfl ?_
  exact uxx HR.out (uqh hB7 (zra _) _)
 obtain⟨hr,hx⟩:=HF.out.2 he
 rw[he]
 have HRr:=zrj hr
 have hx:=(uzg.bwd _ _ _ hx).1
 have HSz:=zrj (show ReqSz ⟨(n:Int),noJ,noN,noL,ByteArray.empty,x⟩ from⟨szE,szE,szE,szE,szE,szE,szE⟩)
 clear HF he hr hx
 go_wp2_with fail
 refine(wholeC (n:Int) x g w7 bg7).mono ?_
 rintro e w8 ⟨rfl,hb8⟩
 have br8:=br7.bl hb8
 have hB8:=bthen hB7 hb8
 have bq9:=Blk.new w8 44 #[.int .i64 (n:Int),.string .empty,.int .i64 0,.int .i64 0,.int .i64 0,.string .empty,.string .empty,.int .i64 0,.string .empty,.string .empty,.string .empty,.int .i64 0,.string .empty,.int .i64 x]
 have br9:=br8.alloc (.cells #[.int .i64 (n:Int),.string .empty,.int .i64 0,.int .i64 0,.int .i64 0,.string .empty,.string .empty,.int .i64 0,.string .empty,.string .empty,.string .empty,.int .i64 0,.string .empty,.int .i64 x] 44)
 have hB9:=hB8.alloc hB8.size (.cells #[.int .i64 (n:Int),.string .empty,.int .i64 0,.int .i64 0,.int .i64 0,.string .empty,.string .empty,.int .i64 0,.string .empty,.string .empty,.string .empty,.int .i64 0,.string .empty,.int .i64 x] 44)
 have n9:w.heap.size≠w8.heap.size:=by have:=br8.lt;omega
 have HCk:=zrj (fun(W:World) (hW:Tabs W)=>uzc ⟨(n:Int),noJ,noN,noL,ByteArray.empty,x⟩ W HSz.out hW)
 have hqq:(fun r:ReqD×Nat=>r=(if reqE ⟨(n:Int),noJ,noN,noL,ByteArray.empty,x⟩≠0 then(noQ,reqE ⟨(n:Int),noJ,noN,noL,ByteArray.empty,x⟩) else(⟨(n:Int),noJ,noN,noL,ByteArray.empty,x⟩,0))) (if reqE ⟨(n:Int),noJ,noN,noL,ByteArray.empty,x⟩≠0 then(noQ,reqE ⟨(n:Int),noJ,noN,noL,ByteArray.empty,x⟩) else(⟨(n:Int),noJ,noN,noL,ByteArray.empty,x⟩,0)):=rfl
 clear hqq
 generalize hre:reqE ⟨(n:Int),noJ,noN,noL,ByteArray.empty,x⟩=er at *
 clear hre hb8 hB7 br7 bg7 br8 hB8
 go_wp2_with(first | (refine uqf rfl _ _ _ rfl rfl _ _ #[.int .i64 (n:Int),.string .empty,.int .i64 0,.int .i64 0,.int .i64 0,.string .empty,.string .empty,.int .i64 0,.string .empty,.string .empty,.string .empty,.int .i64 0,.string .empty,.int .i64 x] rfl uqd rfl (by simp[Value.oneCell']) ?_) | (refine uqa rfl _ _ rfl (w8.heap.size) rfl _ _ bq9 _ underlying44 rfl uqd ?_))
 generalize w8.alloc _=w9 at *
 generalize w8.heap.size=gq at *
 refine(HCk.out w9 (HT.out.below hB9)).mono ?_
 rintro e wa ⟨rfl,hba⟩
 have bra:=br9.bl hba
 have bqa:=bq9.bl hba
 have hBa:=bthen hB9 hba
 clear hba hB9 br9 bq9 HCk
 by_cases h0:er=0
 rotate_left
 ·have hne:((er:Int) != 0)=true:=by rw[bne_iff_ne];omega
  have HR2:=zrj (HRr.out.trans (if_pos h0))
  clear h0 HRr
  go_wp2_with(first | (refine uqc rfl _ _ _ rfl w.heap.size rfl _ _ (kqv 0) bra rfl uqd rfl (by simp[Value.oneCell']) ?_))
  refine bodyPost_ret (uqi rfl _ rfl (bra.setRow (kqv 0)) underlying44 rfl uqd) rfl ?_
  exact uxx HR2.out (uqh hBa (zra _) _)
 subst h0
 have HR3:=zrj (HRr.out.trans (if_neg (by simp)))
 clear HRr
 go_wp2_with(first | (refine uqa rfl _ _ rfl gq rfl _ _ bqa _ underlying44 rfl uqd ?_) | (refine uqc rfl _ _ _ rfl w.heap.size rfl _ _ #[.int .i64 (n:Int),.string .empty,.int .i64 0,.int .i64 0,.int .i64 0,.string .empty,.string .empty,.int .i64 0,.string .empty,.string .empty,.string .empty,.int .i64 0,.string .empty,.int .i64 x] bra rfl uqd rfl (by simp[Value.oneCell']) ?_))
 refine bodyPost_ret (uqi rfl _ rfl (bra.setRow #[.int .i64 (n:Int),.string .empty,.int .i64 0,.int .i64 0,.int .i64 0,.string .empty,.string .empty,.int .i64 0,.string .empty,.string .empty,.string .empty,.int .i64 0,.string .empty,.int .i64 x]) underlying44 rfl uqd) rfl ?_
 rw[HR3.out]
 exact⟨rfl,uqh hBa (zra _) _⟩
theorem reqDecZ (b:Zba) (k:Int) (r:Zlu) (hp:pInt b.data.toList=.ok k r) (hkind:k=8\/k=9) (w:World) (hb:b.size<=4611686018427387904) (hT:Tabs w) :
  Calls prog 45 #[.string b] w fun e w'=>uk1 w (finQ (pPart k r)) e w':=by
 have hzd:=uq7
 obtain⟨l,rfl⟩:∃l,b=bstr l:=⟨b.data.toList,(ux3 b).symm⟩
 rw[uqz] at hb
 rw[uqu] at *
 rw[pPart_Z k hkind]
 have s1:=zsb w (.cells (kqv 0) 44)
 have br3:Blk ((w.alloc (.cells (kqv 0) 44)).alloc (.cells #[.string (bstr l),.int .i64 0] 169)) w.heap.size 44 (kqv 0):=(Blk.new w 44 (kqv 0)).alloc _
 have rd3:Rd ((w.alloc (.cells (kqv 0) 44)).alloc (.cells #[.string (bstr l),.int .i64 0] 169)) (w.heap.size+1) l 0:=by have h:=Blk.new (w.alloc (.cells (kqv 0) 44)) 169 #[.string (bstr l),.int .i64 0];rw[s1] at h;exact h
 have hB3:Below w.heap.size w ((w.alloc (.cells (kqv 0) 44)).alloc (.cells #[.string (bstr l),.int .i64 0] 169)):=((zri _ _).alloc (zra _) _).alloc (by rw[s1];omega) _
 have HT:=zrj hT
 clear s1 hT
 go_enter func45,ntmps45
 go_wp2_with fail
 generalize(w.alloc (.cells (kqv 0) 44)).alloc (.cells #[.string (bstr l),.int .i64 0] 169)=W3 at *
 refine(uxc (w.heap.size+1) 0 l W3 rd3).mono ?_
 rintro e w4 ⟨G4,n,l1,y1,rfl,R4,S4,_,_,_⟩
 have br4:=br3.gr_ G4 (by omega)
 have hB4:Below w.heap.size w w4:=hB3.grown G4 (by have:=rd3.lt;omega) (fun k hk=>by injection hk with hk;omega)
 obtain⟨rfl,rfl,rfl⟩:=(S4.2.2 rfl).1 _ _ hp
 have hl1:l1.length<=l.length:=S4.1
 have c1:=R4.c1
 have HK:=zrj hkind
 clear S4 G4 br3 rd3 hB3 hp hkind
 go_wp2_with fail
 refine(xv5 ⟨(n:Int),noJ,noN,noL,ByteArray.empty,0⟩ HK.out w4).mono ?_
 rintro e w5 ⟨rfl,hb5⟩
 have br5:=br4.bl hb5
 have hr4:=R4.lt
 have rd5:Rd w5 (w.heap.size+1) l1 0:=Blk.below R4 hb5 R4.lt
 have hB5:=bthen hB4 hb5
 clear hb5 hB4 br4 R4 c1
 go_wp2_with fail
 refine(rtakeZ _ w5).mono ?_
 rintro e w6 ⟨rfl,hb6⟩
 have br6:=br5.bl hb6
 have rd6:Rd w6 (w.heap.size+1) l1 0:=Blk.below rd5 hb6 rd5.lt
 have hB6:=bthen hB5 hb6
 have HF:=zrj (uw6 (fun _=>⟨(n:Int),noJ,noN,noL,ByteArray.empty,0⟩) (PP.unit ()).err (Step.unit () l1 0))
 clear hb6 hB5 br5 rd5
 go_wp2_with fail
 refine(uk8 (w.heap.size+1) 0 l1 w6 rd6).mono ?_
 rintro e w7 ⟨G7,rfl⟩
 have br7:=br6.gr_ G7 (by omega)
 have hB7:Below w.heap.size w w7:=hB6.grown G7 (by have:=br6.lt;omega) (fun k hk=>by injection hk with hk;omega)
 clear G7 br6 rd6 hB6
 by_cases he:endE 0 l1=0
 rotate_left
 ·have hne:((endE 0 l1:Int) != 0)=true:=by rw[bne_iff_ne];omega
  have HR:=zrj (HF.out.1 he)
  generalize endE 0 l1=er at *
  clear he HF
  go_wp2_with(first | (refine uqc rfl _ _ _ rfl w.heap.size rfl _ _ (kqv 0) br7 rfl uqd rfl (by simp[Value.oneCell']) ?_))
  refine bodyPost_ret (uqi rfl _ rfl (br7.setRow (kqv 0)) underlying44 rfl uqd) rfl ?_
  exact uxx HR.out (uqh hB7 (zra _) _)
 obtain⟨hr,hx⟩:=HF.out.2 he
 rw[he]
 have HRr:=zrj hr
 have HSz:=zrj (show ReqSz ⟨(n:Int),noJ,noN,noL,ByteArray.empty,0⟩ from⟨szE,szE,szE,szE,szE,szE,szE⟩)
 clear HF he hr hx
 go_wp2_with fail
 refine(wholeZ (n:Int) w7).mono ?_
 rintro e w8 ⟨rfl,hb8⟩
 have br8:=br7.bl hb8
 have hB8:=bthen hB7 hb8
 have bq9:=Blk.new w8 44 (kqv (n:Int))
 have br9:=br8.alloc (.cells (kqv (n:Int)) 44)
 have hB9:=hB8.alloc hB8.size (.cells (kqv (n:Int)) 44)
 have n9:w.heap.size≠w8.heap.size:=by have:=br8.lt;omega
 have HCk:=zrj (fun(W:World) (hW:Tabs W)=>uzc ⟨(n:Int),noJ,noN,noL,ByteArray.empty,0⟩ W HSz.out hW)
 have hqq:(fun r:ReqD×Nat=>r=(if reqE ⟨(n:Int),noJ,noN,noL,ByteArray.empty,0⟩≠0 then(noQ,reqE ⟨(n:Int),noJ,noN,noL,ByteArray.empty,0⟩) else(⟨(n:Int),noJ,noN,noL,ByteArray.empty,0⟩,0))) (if reqE ⟨(n:Int),noJ,noN,noL,ByteArray.empty,0⟩≠0 then(noQ,reqE ⟨(n:Int),noJ,noN,noL,ByteArray.empty,0⟩) else(⟨(n:Int),noJ,noN,noL,ByteArray.empty,0⟩,0)):=rfl
 clear hqq
 generalize hre:reqE ⟨(n:Int),noJ,noN,noL,ByteArray.empty,0⟩=er at *
 clear hre hb8 hB7 br7 br8 hB8
 go_wp2_with(first | (refine uqf rfl _ _ _ rfl rfl _ _ (kqv (n:Int)) rfl uqd rfl (by simp[Value.oneCell']) ?_) | (refine uqa rfl _ _ rfl (w8.heap.size) rfl _ _ bq9 _ underlying44 rfl uqd ?_))
 generalize w8.alloc _=w9 at *
 generalize w8.heap.size=gq at *
 refine(HCk.out w9 (HT.out.below hB9)).mono ?_
 rintro e wa ⟨rfl,hba⟩
 have bra:=br9.bl hba
 have bqa:=bq9.bl hba
 have hBa:=bthen hB9 hba
 clear hba hB9 br9 bq9 HCk
 by_cases h0:er=0
 rotate_left
 ·have hne:((er:Int) != 0)=true:=by rw[bne_iff_ne];omega
  have HR2:=zrj (HRr.out.trans (if_pos h0))
  clear h0 HRr
  go_wp2_with(first | (refine uqc rfl _ _ _ rfl w.heap.size rfl _ _ (kqv 0) bra rfl uqd rfl (by simp[Value.oneCell']) ?_))
  refine bodyPost_ret (uqi rfl _ rfl (bra.setRow (kqv 0)) underlying44 rfl uqd) rfl ?_
  exact uxx HR2.out (uqh hBa (zra _) _)
 subst h0
 have HR3:=zrj (HRr.out.trans (if_neg (by simp)))
 clear HRr
 go_wp2_with(first | (refine uqa rfl _ _ rfl gq rfl _ _ bqa _ underlying44 rfl uqd ?_) | (refine uqc rfl _ _ _ rfl w.heap.size rfl _ _ (kqv (n:Int)) bra rfl uqd rfl (by simp[Value.oneCell']) ?_))
 refine bodyPost_ret (uqi rfl _ rfl (bra.setRow (kqv (n:Int))) underlying44 rfl uqd) rfl ?_
 rw[HR3.out]
 exact⟨rfl,uqh hBa (zra _) _⟩
theorem xzr (b:Zba) (z:Nat) (hp:pInt b.data.toList=.bad z) (w:World) (hb:b.size<=4611686018427387904) (hT:Tabs w) :
  Calls prog 45 #[.string b] w fun e w'=>uk1 w ((noQ,z)) e w':=by
 have hzd:=uq7
 obtain⟨l,rfl⟩:∃l,b=bstr l:=⟨b.data.toList,(ux3 b).symm⟩
 rw[uqz] at hb
 rw[uqu] at *
 have s1:=zsb w (.cells (kqv 0) 44)
 have br3:Blk ((w.alloc (.cells (kqv 0) 44)).alloc (.cells #[.string (bstr l),.int .i64 0] 169)) w.heap.size 44 (kqv 0):=(Blk.new w 44 (kqv 0)).alloc _
 have rd3:Rd ((w.alloc (.cells (kqv 0) 44)).alloc (.cells #[.string (bstr l),.int .i64 0] 169)) (w.heap.size+1) l 0:=by have h:=Blk.new (w.alloc (.cells (kqv 0) 44)) 169 #[.string (bstr l),.int .i64 0];rw[s1] at h;exact h
 have hB3:Below w.heap.size w ((w.alloc (.cells (kqv 0) 44)).alloc (.cells #[.string (bstr l),.int .i64 0] 169)):=((zri _ _).alloc (zra _) _).alloc (by rw[s1];omega) _
 have HT:=zrj hT
 clear s1 hT
 go_enter func45,ntmps45
 go_wp2_with fail
 generalize(w.alloc (.cells (kqv 0) 44)).alloc (.cells #[.string (bstr l),.int .i64 0] 169)=W3 at *
 refine(uxc (w.heap.size+1) 0 l W3 rd3).mono ?_
 rintro e w4 ⟨G4,n,l1,y1,rfl,R4,S4,_,_,_⟩
 have br4:=br3.gr_ G4 (by omega)
 have hB4:Below w.heap.size w w4:=hB3.grown G4 (by have:=rd3.lt;omega) (fun k hk=>by injection hk with hk;omega)
 obtain rfl:=(S4.2.2 rfl).2 _ hp
 have hz:=uzg.err _ _ hp
 have hne:((y1:Int) != 0)=true:=by rw[bne_iff_ne];omega
 have c1:=R4.c1
 clear S4 G4 br3 rd3 hB3 hp hz
 go_upto_region 4 with fail
 have R5:=R4.drew
 have br5:=br4.drew
 have hB5:=hB4.drew
 have G0:w4.drew.cell? ⟨w.heap.size+1,1,none⟩=some (.int .i64 (y1:Int)):=R5.cell 1
 refine wp_region_held_drew (S:=fun W=>W.cell? ⟨w.heap.size+1,1,none⟩=some (.int .i64 (y1:Int))) (by kernel_rfl) G0 (fun hHeld=>?_)
 refine tq 0 ?_
 refine tq 1 ?_
 refine tq 2 ?_
 refine tq 3 ?_
 refine tq 4 ?_
 have G1:(w4.drew.setRow w.heap.size (kqv 0)).cell? ⟨w.heap.size+1,1,none⟩=some (.int .i64 (y1:Int)):=Blk.cell (cs:=#[.string (bstr l1),.int .i64 (y1:Int)]) ((setRow_other w4.drew w.heap.size (w.heap.size+1) _ (by omega)).trans R5) 1
 refine tr 5 rfl (fun K hK=>?_)
 refine uxi rfl _ _ _ rfl w.heap.size rfl _ _ (kqv 0) br5 rfl uqd rfl (by simp[Value.oneCell']) ?_
 refine hK.out _ _ G1 (fun hHeld=>?_)
 clear hK K
 (try simp only[Act.put,ma,mb,mc,md,me,mf])
 refine tq 6 ?_
 refine wpAnyH_done (by kernel_rfl) ?_ _
 try go_wp2_with fail
 refine bodyPost_ret (uqi rfl _ rfl (br5.setRow (kqv 0)) underlying44 rfl uqd) rfl ?_
 exact uxx rfl (uqh hB5 (zra _) _)
theorem xzs (b:Zba) (k:Int) (r:Zlu) (hp:pInt b.data.toList=.ok k r) (hkind:¬(1<=k/\k<=9)) (w:World) (hb:b.size<=4611686018427387904) (hT:Tabs w) :
  Calls prog 45 #[.string b] w fun e w'=>uk1 w ((noQ,1)) e w':=by
 have hzd:=uq7
 obtain⟨l,rfl⟩:∃l,b=bstr l:=⟨b.data.toList,(ux3 b).symm⟩
 rw[uqz] at hb
 rw[uqu] at *
 have s1:=zsb w (.cells (kqv 0) 44)
 have br3:Blk ((w.alloc (.cells (kqv 0) 44)).alloc (.cells #[.string (bstr l),.int .i64 0] 169)) w.heap.size 44 (kqv 0):=(Blk.new w 44 (kqv 0)).alloc _
 have rd3:Rd ((w.alloc (.cells (kqv 0) 44)).alloc (.cells #[.string (bstr l),.int .i64 0] 169)) (w.heap.size+1) l 0:=by have h:=Blk.new (w.alloc (.cells (kqv 0) 44)) 169 #[.string (bstr l),.int .i64 0];rw[s1] at h;exact h
 have hB3:Below w.heap.size w ((w.alloc (.cells (kqv 0) 44)).alloc (.cells #[.string (bstr l),.int .i64 0] 169)):=((zri _ _).alloc (zra _) _).alloc (by rw[s1];omega) _
 have HT:=zrj hT
 clear s1 hT
 go_enter func45,ntmps45
 go_wp2_with fail
 generalize(w.alloc (.cells (kqv 0) 44)).alloc (.cells #[.string (bstr l),.int .i64 0] 169)=W3 at *
 refine(uxc (w.heap.size+1) 0 l W3 rd3).mono ?_
 rintro e w4 ⟨G4,n,l1,y1,rfl,R4,S4,_,_,_⟩
 have br4:=br3.gr_ G4 (by omega)
 have hB4:Below w.heap.size w w4:=hB3.grown G4 (by have:=rd3.lt;omega) (fun k hk=>by injection hk with hk;omega)
 obtain⟨rfl,rfl,rfl⟩:=(S4.2.2 rfl).1 _ _ hp
 have c1:=R4.c1
 have HK:=zrj hkind
 clear S4 G4 br3 rd3 hB3 hp hkind
 go_wp2_with fail
 refine(vyv ⟨(n:Int),noJ,noN,noL,ByteArray.empty,0⟩ HK.out w4).mono ?_
 rintro e w5 ⟨rfl,hb5⟩
 have br5:=br4.bl hb5
 have hB5:=bthen hB4 hb5
 clear hb5 hB4 br4 R4 c1
 go_wp2_with(first | (refine uqc rfl _ _ _ rfl w.heap.size rfl _ _ (kqv 0) br5 rfl uqd rfl (by simp[Value.oneCell']) ?_))
 refine bodyPost_ret (uqi rfl _ rfl (br5.setRow (kqv 0)) underlying44 rfl uqd) rfl ?_
 exact uxx rfl (uqh hB5 (zra _) _)
theorem vy0 (b:Zba) (w:World) (hb:b.size<=4611686018427387904) (hT:Tabs w) :
  Calls prog 45 #[.string b] w fun e w'=>uk1 w (decQR b.data.toList) e w':=by
 unfold decQR
 cases hp:pInt b.data.toList with
 | bad z=>exact xzr b z hp w hb hT
 | ok k r =>
  simp only[]
  by_cases hk:1<=k/\k<=9
  rotate_left
  ·rw[if_neg hk];exact xzs b k r hp hk w hb hT
  rw[if_pos hk]
  by_cases h1:k=1
  ·exact reqDecJ b k r hp h1 w hb hT
  by_cases h2:k=2
  ·exact reqDecN b k r hp h2 w hb hT
  by_cases h5:k=5
  ·exact reqDecL b k r hp h5 w hb hT
  by_cases h7:k=7
  ·exact reqDecC b k r hp h7 w hb hT
  by_cases h8:k=8\/k=9
  ·exact reqDecZ b k r hp h8 w hb hT
  exact reqDecS b k r hp (by omega) w hb hT
end Go.Proofs.YtknmnhleicakhaaGreatDoor
