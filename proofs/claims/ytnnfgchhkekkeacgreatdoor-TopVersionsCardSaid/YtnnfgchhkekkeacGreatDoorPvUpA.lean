/- Lemmas.
-/
import Derived.Test.YtnnfgchhkekkeacGreatDoorPvWireA
import Derived.Test.YtnnfgchhkekkeacGreatDoorPvSvA
set_option linter.all false
set_option maxHeartbeats 16000000
set_option maxRecDepth 100000
namespace Go.Proofs.YtnnfgchhkekkeacGreatDoor
open Go.Proofs.Tryz
def dash:Zba:=⟨#[45]⟩
def hasLu (ls:List uqc) (nm:Zba):Bool:=ls.any fun l=>decide (l.job=nm)
def uvh (ls:List uqc) (j:JobD):JobD:=⟨j.name,j.prio,j.need,if hasLu ls j.name=true then 1 else j.tries,j.tag⟩
def zoneN (n:NodeD):NodeD:=⟨n.name,n.room,dash⟩
def mapS (r:Int) (f:JobD->JobD) (g:NodeD->NodeD) (s:St):St:=⟨r,s.jobs.map f,s.nodes.map g,s.leases⟩
def stepS (s:St) (k:Nat):St:=if k=2 then mapS s.rev (uvh s.leases) zoneN s else if k=3 then⟨1,s.jobs,s.nodes,s.leases⟩ else s
def upTo (s:St) (a:Nat):Nat->St
 | 0=>s
 | n+1=>stepS (upTo s a n) (a+n+1)
def downJ (k:Int) (j:JobD):JobD:=⟨j.name,j.prio,j.need,if decide (k<2)=true then 0 else j.tries,if decide (k<3)=true then ByteArray.empty else j.tag⟩
def downN (k:Int) (n:NodeD):NodeD:=⟨n.name,n.room,if decide (k<2)=true then ByteArray.empty else n.zone⟩
def downS (k:Int) (s:St):St:=mapS (if decide (k<3)=true then 0 else s.rev) (downJ k) (downN k) s
theorem vjq {α:Type} {key:α->Zba} {l:List α} (h:uq1 key l) (f:α->α) (hf:∀x,key (f x)=key x):uq1 key (l.map f):=by
 unfold uq1 at h ⊢
 rw[List.pairwise_map]
 exact h.imp fun {a b} hab=>by rw[hf,hf];exact hab
theorem vyz (f:JobD->JobD) (hf:∀j,(f j).name=j.name) (l:List JobD) (nm:Zba):jobAt (l.map f) nm=(jobAt l nm).map f:=by
 unfold jobAt
 induction l with
 | nil=>rfl
 | cons a r ih =>
  rw[List.map_cons,List.find?_cons,List.find?_cons,hf,ih]
  cases decide (a.name=nm) <;> rfl
theorem wvt (f:NodeD->NodeD) (hf:∀j,(f j).name=j.name) (l:List NodeD) (nm:Zba):uxq (l.map f) nm=(uxq l nm).map f:=by
 unfold uxq
 induction l with
 | nil=>rfl
 | cons a r ih =>
  rw[List.map_cons,List.find?_cons,List.find?_cons,hf,ih]
  cases decide (a.name=nm) <;> rfl
theorem wvr (f:JobD->JobD) (hf:∀j,(f j).name=j.name/\(f j).need=j.need) (l:List JobD) (nm:Zba):uxi (l.map f) nm=uxi l nm:=by
 unfold uxi
 rw[vyz f (fun j=>(hf j).1)]
 cases jobAt l nm with
 | none=>rfl
 | some j=>simp[(hf j).2]
theorem vk9 (f:JobD->JobD) (hf:∀j,(f j).name=j.name/\(f j).need=j.need) (l:List JobD) (nm:Zba):∀ls:List uqc,uxl (l.map f) nm ls=uxl l nm ls
 | []=>rfl
 | a::r=>by
  unfold uxl
  rw[wvr f hf,vk9 f hf l nm r]
theorem wvq (f:JobD->JobD) (hf:∀j,(f j).name=j.name) (g:NodeD->NodeD) (hg:∀j,(g j).name=j.name) (jobs:List JobD) (nodes:List NodeD) (l:uqc):ux5 (jobs.map f) (nodes.map g) l=ux5 jobs nodes l:=by
 unfold ux5
 rw[vyz f hf,wvt g hg]
 simp
theorem Fine.map_ {s:St} (h:Fine s) (r:Int) (f:JobD->JobD) (g:NodeD->NodeD) (hr:0<=r/\r<=1099511627776) (hf:∀j,(f j).name=j.name/\(f j).need=j.need) (hfe:∀j,jobE j=0->jobE (f j)=0)
  (hg:∀n,(g n).name=n.name/\(g n).room=n.room) (hge:∀n,nodeE n=0->nodeE (g n)=0):Fine (mapS r f g s) where
 rev:=hr
 nj:=by show(s.jobs.map f).length<=40;rw[zre];exact h.nj
 nl:=h.nl
 nn:=by show(s.nodes.map g).length<=20;rw[zre];exact h.nn
 j:=fun x hx=>by
  obtain⟨y,hy,rfl⟩:=List.mem_map.1 (show x∈s.jobs.map f from hx)
  exact hfe y (h.j y hy)
 sj:=vjq h.sj f fun x=>(hf x).1
 n:=fun x hx=>by
  obtain⟨y,hy,rfl⟩:=List.mem_map.1 (show x∈s.nodes.map g from hx)
  exact hge y (h.n y hy)
 sn:=vjq h.sn g fun x=>(hg x).1
 l:=fun x hx=>by
  show ux5 (s.jobs.map f) (s.nodes.map g) x=0
  rw[wvq f (fun j=>(hf j).1) g (fun j=>(hg j).1)]
  exact h.l x hx
 sl:=h.sl
 room:=fun n hn=>by
  obtain⟨y,hy,rfl⟩:=List.mem_map.1 (show n∈s.nodes.map g from hn)
  show uxl (s.jobs.map f) (g y).name s.leases<=(g y).room
  rw[(hg y).1,(hg y).2,vk9 f hf]
  exact h.room y hy
theorem xzp (ls:List uqc) (j:JobD) (h:jobE j=0):jobE (uvh ls j)=0:=by
 obtain⟨h1,h2,h3,h4⟩:=uka.1 h
 refine uka.2 ⟨h1,h2,h3,?_⟩
 show 0<=(if hasLu ls j.name=true then(1:Int) else j.tries)/\(if hasLu ls j.name=true then(1:Int) else j.tries)<=100
 split
 ·omega
 ·exact h4
theorem dash_ok:uja dash=true:=by decide +kernel
theorem zoneN_ok (n:NodeD) (h:nodeE n=0):nodeE (zoneN n)=0:=by
 obtain⟨h1,h2⟩:=uz7.1 h
 exact uz7.2 ⟨⟨h1.1,dash_ok⟩,h2⟩
theorem Fine.step {s:St} (h:Fine s) (k:Nat):Fine (stepS s k):=by
 unfold stepS
 split
 ·exact h.map_ _ _ _ h.rev (fun j=>⟨rfl,rfl⟩) (xzp _) (fun n=>⟨rfl,rfl⟩) zoneN_ok
 ·split
  ·exact⟨⟨by show(0:Int)<=1;decide,by show(1:Int)<=1099511627776;decide⟩,h.nj,h.nl,h.nn,h.j,h.sj,h.n,h.sn,h.l,h.sl,h.room⟩
  ·exact h
theorem Fine.upTo {s:St} (h:Fine s) (a:Nat):∀n,Fine (upTo s a n)
 | 0=>h
 | n+1=>(Fine.upTo h a n).step _
def upR (s:St) (a b:Int):St×Nat :=
 if decide (1<=a/\a<=b/\b<=3)=false then(⟨0,[],[],[]⟩,1) else if(fitsR s a).2≠0 then(⟨0,[],[],[]⟩,(fitsR s a).2) else if(fitsR s a).1=false then(⟨0,[],[],[]⟩,4) else(upTo s a.toNat (b-a).toNat,0)
def vk7 (s:St) (k:Int):St:=upTo (downS k s) k.toNat (3-k).toNat
def downB (s:St) (k:Int):Bool:=decide ((vk7 s k).rev=s.rev)&&(decide ((vk7 s k).jobs=s.jobs)&&decide ((vk7 s k).nodes=s.nodes))
def downR (s:St) (k:Int):St×Bool×Nat :=
 if uqr s≠0 then(⟨0,[],[],[]⟩,false,uqr s) else if uq5 k 1 3=false then(⟨0,[],[],[]⟩,false,1) else(downS k s,downB s k,0)
theorem fitsR_in (s:St) (a:Int) (h:1<=a/\a<=3):fitsR s a=if uqr s≠0 then(false,uqr s) else(fitsB s a,0):=by
 unfold fitsR
 rw[uqs.2 h,if_pos rfl]
theorem vjx (s:St) {a b:Int} (h:1<=a/\a<=b/\b<=3):upR s a b=if uqr s≠0 then(⟨0,[],[],[]⟩,uqr s) else if fitsB s a=false then(⟨0,[],[],[]⟩,4) else(upTo s a.toNat (b-a).toNat,0):=by
 unfold upR
 rw[decide_eq_true h,if_neg (by simp),fitsR_in s a ⟨h.1,by omega⟩]
 by_cases hc:uqr s=0
 ·simp[hc]
 ·simp[hc]
theorem upR_of {s:St} {a b:Int} (h:1<=a/\a<=b/\b<=3) (hF:Fine s) (hf:fitsB s a=true):upR s a b=(upTo s a.toNat (b-a).toNat,0):=by
 rw[vjx s h,if_neg (by rw[(uxk s).2 hF];simp),if_neg (by rw[hf];simp)]
open Go.RowKit
def wq5 (w:World) (s:St) (e:Ending) (w':World):Prop :=
 ∃q1 q2 q3 d1 d2 d3,e=.returned (.agg #[.int .i64 s.rev,.slice q1 s.jobs.length d1,.slice q2 s.nodes.length d2,.slice q3 s.leases.length d3])/\StOwn w' w.heap.size q1 q2 q3 d1 d2 d3 s/\Below w.heap.size w w'
theorem xzr (s:St) (p1 p2 p3:Zoa) (c1 c2 c3:Nat) (w:World) (hm:StM w w.heap.size p1 p2 p3 s) (hj:s.jobs.length<=1099511627776) (hn:s.nodes.length<=1099511627776) (hl:s.leases.length<=1099511627776) :
  Calls prog 58 #[.agg #[.int .i64 s.rev,.slice p1 s.jobs.length c1,.slice p2 s.nodes.length c2,.slice p3 s.leases.length c3]] w fun e w'=>wq5 w s e w':=by
 have hzs:=uq4
 have hb0:=zsa w (.cells #[.int .i64 s.rev,.slice p1 s.jobs.length c1,.slice p2 s.nodes.length c2,.slice p3 s.leases.length c3] 26)
 have bx:=(Blk.new w 26 #[.int .i64 s.rev,.slice p1 s.jobs.length c1,.slice p2 s.nodes.length c2,.slice p3 s.leases.length c3]).alloc (.cells zsv 26)
 have bz:=Blk.new (w.alloc (.cells #[.int .i64 s.rev,.slice p1 s.jobs.length c1,.slice p2 s.nodes.length c2,.slice p3 s.leases.length c3] 26)) 26 zsv
 rw[show(w.alloc (.cells #[.int .i64 s.rev,.slice p1 s.jobs.length c1,.slice p2 s.nodes.length c2,.slice p3 s.leases.length c3] 26)).heap.size=w.heap.size+1 by simp] at bz
 have hB0:=hb0.alloc hb0.size (.cells zsv 26)
 have HJ:=zrj (fun(W:World) (hW:Below w.heap.size w W)=>vkd p1 c1 s.jobs W ((hm.j.below hW).more hW.size) hj)
 have HN:=zrj (fun(W:World) (hW:Below w.heap.size w W)=>vkf p2 c2 s.nodes W ((hm.n.below hW).more hW.size) hn)
 have HL:=zrj (fun(W:World) (hW:Below w.heap.size w W)=>vke p3 c3 s.leases W ((hm.l.below hW).more hW.size) hl)
 clear hm hj hn hl hb0
 go_enter func58,ntmps58
 go_wp2_with fail
 generalize(w.alloc (.cells #[.int .i64 s.rev,.slice p1 s.jobs.length c1,.slice p2 s.nodes.length c2,.slice p3 s.leases.length c3] 26)).alloc _=w0 at *
 have hBd:Below w.heap.size w w0.drew:=hB0.drew
 have bx0:=bx.drew
 have bz0:=bz.drew
 generalize hw0:w0.drew=W0 at *
 have e1:=bx0.c1
 have e2:=bx0.c2
 have e3:=bx0.c3
 have hlt0:=bx0.lt
 have hltz:=bz0.lt
 subst hw0
 go_region_law (first
  | (go_simp;go_at_call 80;refine(HJ.out _ hBd).mono ?_;rintro e w1 ⟨q1,d1,rfl,O1,hb1⟩;have hB1:=bthen hBd hb1;have bx1:=bx0.below hb1 hlt0;have bz1:=bz0.below hb1 hltz;have hlt1:=bx1.lt;have hlz1:=bz1.lt;have a2:=bx1.cell 2;have a3:w1.cell? ⟨w.heap.size,3,none⟩=some (.slice p3 s.leases.length c3):=bx1.cell 3)
  | (go_simp;go_at_call 81;refine(HN.out _ hB1).mono ?_;rintro e w2 ⟨q2,d2,rfl,O2,hb2⟩;have hB2:=bthen hB1 hb2;have bx2:=bx1.below hb2 hlt1;have bz2:=bz1.below hb2 hlz1;have hlt2:=bx2.lt;have hlz2:=bz2.lt;have i3:w2.cell? ⟨w.heap.size,3,none⟩=some (.slice p3 s.leases.length c3):=bx2.cell 3)
  | (go_simp;go_at_call 82;refine(HL.out _ hB2).mono ?_;rintro e w3 ⟨q3,d3,rfl,O3,hb3⟩;have hB3:=bthen hB2 hb3;have bx3:=bx2.below hb3 hlt2;have bz3:=bz2.below hb3 hlz2;have u1:=bx3.cell 1;have u2:=bx3.cell 2;have u3:=bx3.cell 3;have f1:=bx3.frozen 1;have f2:=bx3.frozen 2;have f3:=bx3.frozen 3))
 all_goals(
  have X1:=((bx3.set_ 1 (.slice q1 s.jobs.length d1)).set_ 2 (.slice q2 s.nodes.length d2)).set_ 3 (.slice q3 s.leases.length d3)
  have X:Blk (((w3.setCell ⟨w.heap.size,1,none⟩ (.slice q1 s.jobs.length d1)).setCell ⟨w.heap.size,2,none⟩ (.slice q2 s.nodes.length d2)).setCell ⟨w.heap.size,3,none⟩ (.slice q3 s.leases.length d3)) w.heap.size 26 #[.int .i64 s.rev,.slice q1 s.jobs.length d1,.slice q2 s.nodes.length d2,.slice q3 s.leases.length d3]:=X1
  have hne:w.heap.size+1≠w.heap.size:=by omega
  have Z:=((bz3.far (p:=⟨w.heap.size,1,none⟩) hne (.slice q1 s.jobs.length d1)).far (p:=⟨w.heap.size,2,none⟩) hne (.slice q2 s.nodes.length d2)).far (p:=⟨w.heap.size,3,none⟩) hne (.slice q3 s.leases.length d3)
  have G1:=uxp w3 w.heap.size 1 (.slice q1 s.jobs.length d1)
  have G2:=uxp (w3.setCell ⟨w.heap.size,1,none⟩ (.slice q1 s.jobs.length d1)) w.heap.size 2 (.slice q2 s.nodes.length d2)
  have G3:=uxp ((w3.setCell ⟨w.heap.size,1,none⟩ (.slice q1 s.jobs.length d1)).setCell ⟨w.heap.size,2,none⟩ (.slice q2 s.nodes.length d2)) w.heap.size 3 (.slice q3 s.leases.length d3)
  have hS3:StOwn w3 w.heap.size q1 q2 q3 d1 d2 d3 s:=⟨((O1.below (B:=0) hb2).below (B:=0) hb3).less hBd.size,(O2.below (B:=0) hb3).less hB1.size,O3.less hB2.size⟩
  have b1:=bx3.set_ 1 (.slice q1 s.jobs.length d1)
  have b2:=b1.set_ 2 (.slice q2 s.nodes.length d2)
  have hS:=((hS3.other G1 bx3 (by decide) (by decide) (by decide)).other G2 b1 (by decide) (by decide) (by decide)).other G3 b2 (by decide) (by decide) (by decide)
  have hB:Below w.heap.size w (((w3.setCell ⟨w.heap.size,1,none⟩ (.slice q1 s.jobs.length d1)).setCell ⟨w.heap.size,2,none⟩ (.slice q2 s.nodes.length d2)).setCell ⟨w.heap.size,3,none⟩ (.slice q3 s.leases.length d3)) :=
   ((hB3.setCell (p:=⟨w.heap.size,1,none⟩) (zra _) _).setCell (p:=⟨w.heap.size,2,none⟩) (zra _) _).setCell (p:=⟨w.heap.size,3,none⟩) (zra _) _
  clear X1 G1 G2 G3 hS3 b1 b2 hB0 hB1 hB2 hB3 hBd hb1 hb2 hb3 O1 O2 O3 bx3 bz3 bx2 bz2 bx1 bz1 bx0 bz0 u1 u2 u3 f1 f2 f3 a2 a3 i3
  try go_simp
  generalize((w3.setCell ⟨w.heap.size,1,none⟩ (.slice q1 s.jobs.length d1)).setCell ⟨w.heap.size,2,none⟩ (.slice q2 s.nodes.length d2)).setCell ⟨w.heap.size,3,none⟩ (.slice q3 s.leases.length d3)=W3 at *
  have G4:=growR W3 (w.heap.size+1) #[.int .i64 s.rev,.slice q1 s.jobs.length d1,.slice q2 s.nodes.length d2,.slice q3 s.leases.length d3]
  have hS4:=zrj (hS.other G4 Z (by decide) (by decide) (by decide))
  have hB4:=zrj (uqf hB (Nat.le_succ _) #[.int .i64 s.rev,.slice q1 s.jobs.length d1,.slice q2 s.nodes.length d2,.slice q3 s.leases.length d3])
  clear hS hB G4
  go_wp2_with(first
   | (refine uqa rfl _ _ rfl w.heap.size rfl _ _ X _ underlying26 rfl uqg ?_)
   | (refine uqd rfl _ _ _ rfl (w.heap.size+1) rfl _ _ #[.int .i64 s.rev,.slice q1 s.jobs.length d1,.slice q2 s.nodes.length d2,.slice q3 s.leases.length d3] Z rfl uqg rfl (uzj _ _ _ _ _ _ _ _ _ _) ?_))
  refine bodyPost_ret (uqw rfl _ rfl (Z.setRow #[.int .i64 s.rev,.slice q1 s.jobs.length d1,.slice q2 s.nodes.length d2,.slice q3 s.leases.length d3]) underlying26 rfl uqg) rfl ?_
  exact⟨q1,q2,q3,d1,d2,d3,rfl,hS4.out,hB4.out⟩)
theorem wwi (gs gi k:Nat) (s:St) (q1 q2 q3:Zoa) (d1 d2 d3:Nat) (x:JobD) (l:uqc) (w:World) (bs:Blk w gs 26 #[.int .i64 s.rev,.slice q1 s.jobs.length d1,.slice q2 s.nodes.length d2,.slice q3 s.leases.length d3])
  (bi:Blk w gi 3 #[.int .i64 k]) (hel:Elts w w.heap.size 5 q1 (s.jobs.map rowJ)) (hx:s.jobs[k]?=some x) (hl:s.jobs.length<=4611686018427387904) :
  Calls prog 84 #[.agg (rwL l),zse gs,zse gi] w fun e w'=>e=.returned (.bool (decide (l.job=x.name)))/\Below w.heap.size w w':=by
 have hk:k<s.jobs.length:=(List.getElem?_eq_some_iff.1 hx).1
 obtain⟨a,rfl,hab,_,hat⟩:=hel.at_ (k:=k) (r:=rowJ x) (by rw[zrg,hx];rfl)
 have hb0:=zsa w (.cells (rwL l) 44)
 have bl:=Blk.new w 44 (rwL l)
 have bs0:=bs.alloc (.cells (rwL l) 44)
 have bi0:=bi.alloc (.cells (rwL l) 44)
 have hat0:=hat.below hb0 (by rw[uqk];exact hab)
 have htb:(l.job.toList == x.name.toList)=decide (l.job=x.name):=vjw _ _
 have HT:=zrj htb
 have hk0:(0:Int)<=(k:Int):=by omega
 have hk1:(k:Int)<(s.jobs.length:Int):=by omega
 clear bs bi hat hel htb hx
 go_enter func84,ntmps84
 go_wp2_with fail
 generalize w.alloc _=w0 at *
 have e0:=bl.c0
 have e1:=bs0.c1
 have e2:=bi0.c0
 have e3:w0.cell? (a.add (k*5))=some (.string x.name):=by have:=hat0 0 (.string x.name) rfl;rwa [show(a.add (k*5)).add 0=a.add (k*5) from by unfold Addr.add;simp] at this
 clear bl bs0 bi0 hat0
 go_quiet (fail)
 go_wp2_with fail
 go_ret
 exact⟨by rw[HT.out];rfl,uql hb0 _⟩
theorem vv4 {α:Type} {l:List α} {k:Nat} {x:α} (h:l[k]?=some x):l.set k x=l:=by
 apply List.ext_getElem?
 intro i
 rw[List.getElem?_set]
 split
 ·rename_i e;subst e;rw[h];split
  ·rfl
  ·rename_i hn;rw[List.getElem?_eq_none (by omega)] at h;cases h
 ·rfl
theorem wzy (s:St) (base:Nat) (q1 q2 q3:Zoa) (d1 d2 d3:Nat) (w:World) (hO:StOwn w base q1 q2 q3 d1 d2 d3 s) (hbase:base<=w.heap.size) (hj:s.jobs.length<=4611686018427387904) (hn:s.nodes.length<=4611686018427387904) (hl:s.leases.length<=4611686018427387904) :
  Calls prog 59 #[.agg #[.int .i64 s.rev,.slice q1 s.jobs.length d1,.slice q2 s.nodes.length d2,.slice q3 s.leases.length d3],.int .i64 2] w fun e w' =>
   e=.returned (.agg #[.int .i64 s.rev,.slice q1 s.jobs.length d1,.slice q2 s.nodes.length d2,.slice q3 s.leases.length d3])/\StOwn w' base q1 q2 q3 d1 d2 d3 (stepS s 2)/\Below base w w'/\RKeep w w':=by
 have hzs:=uq4
 have bs:=(Blk.new w 26 #[.int .i64 s.rev,.slice q1 s.jobs.length d1,.slice q2 s.nodes.length d2,.slice q3 s.leases.length d3]).alloc (.cells zsv 26)
 have bz:=Blk.new (w.alloc (.cells #[.int .i64 s.rev,.slice q1 s.jobs.length d1,.slice q2 s.nodes.length d2,.slice q3 s.leases.length d3] 26)) 26 zsv
 rw[show(w.alloc (.cells #[.int .i64 s.rev,.slice q1 s.jobs.length d1,.slice q2 s.nodes.length d2,.slice q3 s.leases.length d3] 26)).heap.size=w.heap.size+1 by simp] at bz
 have hB0:Below w.heap.size w ((w.alloc (.cells #[.int .i64 s.rev,.slice q1 s.jobs.length d1,.slice q2 s.nodes.length d2,.slice q3 s.leases.length d3] 26)).alloc (.cells zsv 26)):=((zri _ _).alloc (zra _) _).alloc (by simp) _
 have hO0:=hO.below hB0
 clear hO
 go_enter func59,ntmps59
 go_wp2_with fail
 generalize(w.alloc (.cells #[.int .i64 s.rev,.slice q1 s.jobs.length d1,.slice q2 s.nodes.length d2,.slice q3 s.leases.length d3] 26)).alloc _=w0 at *
 have hb00:=hB0.mono hbase
 have hk00:=RKeep.below hB0
 have e1:=bs.c1
 go_wp2_with fail
 clear e1
 go_loopw [13] (fun i wr=>∃k:Nat,k<=s.jobs.length/\i=.int .i64 k/\StOwn wr base q1 q2 q3 d1 d2 d3 ⟨s.rev,mixL (uvh s.leases) s.jobs k,s.nodes,s.leases⟩/\Below base w wr/\RKeep w wr /\
   Blk wr w.heap.size 26 #[.int .i64 s.rev,.slice q1 s.jobs.length d1,.slice q2 s.nodes.length d2,.slice q3 s.leases.length d3]/\Blk wr (w.heap.size+1) 26 zsv) (fun i _=>s.jobs.length-(intOf i).toNat)
 case atStart=>exact⟨0,Nat.zero_le _,rfl,by rw[vy5];exact hO0,hb00,hk00,bs,bz⟩
 case round =>
  obtain⟨k,hk,rfl,hOr,hBr,hKr,bsr,bzr⟩:=hrel
  clear hO0 bs bz hb00 hB0 hk00
  by_cases hlt:k<s.jobs.length
  ·have hx:s.jobs[k]?=some s.jobs[k]:=zrd hlt
   generalize s.jobs[k]=x at *
   have hmx:=xqx (uvh s.leases) s.jobs k x hx
   have hms:=vy4 (uvh s.leases) s.jobs k x hx
   have hml:=wju (uvh s.leases) s.jobs k
   generalize hmk:mixL (uvh s.leases) s.jobs (k+1)=js' at *
   generalize mixL (uvh s.leases) s.jobs k=js at *
   obtain⟨g,cur,rfl,hbg,hgb,hcs,hcc⟩:=hOr.j.where_ (by rw[zre,hml];omega)
   have hBw:w.heap.size<=wr.heap.size:=hBr.size
   have bi:=Blk.new wr 3 #[.int .i64 k]
   have hb1:=zsa wr (.cells #[.int .i64 k] 3)
   have bs1:=bsr.alloc (.cells #[.int .i64 k] 3)
   have e1:(wr.alloc (.cells #[.int .i64 k] 3)).cell? ⟨w.heap.size,3,none⟩=some (.slice q3 s.leases.length d3):=bs1.cell 3
   have hO1:=hOr.below hb1
   have HF:FnOk prog (wr.alloc (.cells #[.int .i64 k] 3)) 84 #[zse w.heap.size,zse wr.heap.size] rowL (fun l=>decide (l.job=x.name)) s.leases :=
    ⟨fun args W=>by kernel_rfl,fun l _ W hW=>by
     have hO2:=hO1.below hW
     have:=wwi w.heap.size wr.heap.size k ⟨s.rev,js,s.nodes,s.leases⟩ (some ⟨g,0,none⟩) q2 q3 d1 d2 d3 x l W (by rw[show(⟨s.rev,js,s.nodes,s.leases⟩:St).jobs.length=s.jobs.length from hml];exact bs1.bl hW) (bi.bl hW) hO2.m.j hmx (by show js.length<=_;omega)
     exact this⟩
   have hc:=uvj _ _ _ q3 d3 s.leases _ hO1.m.l hl HF
   have hak:s.leases.any (fun l=>decide (l.job=x.name))=hasLu s.leases x.name:=rfl
   have hfx:uvh s.leases x=⟨x.name,x.prio,x.need,if hasLu s.leases x.name=true then 1 else x.tries,x.tag⟩:=rfl
   have hk0:(0:Int)<=(k:Int):=by omega
   have hk1:(k:Int)<(s.jobs.length:Int):=by omega
   rw[hak] at hc
   clear HF hak
   cases hhl:hasLu s.leases x.name
   ·rw[hhl] at hc hfx
    rw[if_neg (by simp)] at hfx
    have HC:=zrj hc
    have hjx:js'=js:=by rw[hms,hfx];exact vv4 hmx
    clear hc hhl hms hfx
    go_wp2_with fail
    refine HC.out.mono ?_
    rintro e w2 ⟨rfl,hb2⟩
    have bs2:=bs1.bl hb2
    have bz2:=(bzr.alloc (.cells #[.int .i64 k] 3)).below hb2 (bzr.alloc (.cells #[.int .i64 k] 3)).lt
    have hO2:=hO1.below hb2
    have hK2:RKeep w w2:=hKr.trans (RKeep.below (bthen hb1 hb2))
    have hB2:Below base w w2:=hBr.trans ((bthen hb1 hb2).mono (zrc hbase hBw))
    clear bs1 hO1 hb2 bi HC hb1
    go_wp2_with fail
    go_roundw
    case rel=>exact⟨k+1,by omega,by go_num,by rw[hmk,hjx];exact hO2,hB2,hK2,bs2,bz2⟩
    case measure=>simp[intOf];omega
   ·rw[hhl] at hc hfx
    rw[if_pos rfl] at hfx
    have HC:=zrj hc
    clear hc hhl
    go_wp2_with fail
    refine HC.out.mono ?_
    rintro e w2 ⟨rfl,hb2⟩
    have bs2:=bs1.bl hb2
    have bi2:=(bi.bl hb2)
    have hO2:=hO1.below hb2
    have e1:=bs2.c1
    have e2:=bi2.c0
    obtain⟨e3,f3⟩:=hO2.j.cellAt (k:=k) (j:=3) (r:=rowJ x) (v:=.int .i64 x.tries) (by rw[zrg,hmx];rfl) rfl
    have hO3:=hO2.setJ hmx 3 ⟨x.name,x.prio,x.need,1,x.tag⟩ (.int .i64 1) (by decide) rfl
    have bz2:=(bzr.alloc (.cells #[.int .i64 k] 3)).below hb2 (bzr.alloc (.cells #[.int .i64 k] 3)).lt
    obtain⟨bs3,hbg3⟩:=hO2.keepJ (by show 0<js.length;omega) bs2 (by decide) (k*5+3) (.int .i64 1)
    obtain⟨bz3,_⟩:=hO2.keepJ (by show 0<js.length;omega) bz2 (by decide) (k*5+3) (.int .i64 1)
    have hK3:RKeep w (w2.setCell ⟨g,k*5+3,none⟩ (.int .i64 1)):=(hKr.trans (RKeep.below (bthen hb1 hb2))).trans (RKeep.setJ hO2 (by show 0<js.length;omega) _ _)
    have hB3:Below base w (w2.setCell ⟨g,k*5+3,none⟩ (.int .i64 1)):=(hBr.trans ((bthen hb1 hb2).mono (zrc hbase hBw))).setCell (p:=⟨g,k*5+3,none⟩) hbg3 _
    rw[<- hfx] at hO3
    have HO3:=zrj hO3
    have HMS:=zrj hms
    clear bs1 hO1 hb2 bi HC hb1 bs2 bi2 hO2 bz2 hO3 hms hfx
    go_wp2_with fail
    go_roundw
    case rel=>exact⟨k+1,by omega,by go_num,by rw[hmk,HMS.out];exact HO3.out,hB3,hK3,bs3,bz3⟩
    case measure=>simp[intOf];omega
  ·obtain rfl:k=s.jobs.length:=by omega
   rw[wjt] at hOr
   have hlen:(s.jobs.map (uvh s.leases)).length=s.jobs.length:=zre _
   generalize hjs:s.jobs.map (uvh s.leases)=js at *
   have HJS:=zrj hjs
   have HLEN:=zrj hlen
   clear hjs hlen
   obtain⟨wo,rfl⟩:∃wo:World,wo=wr:=⟨_,rfl⟩
   have e1:=bsr.c2
   go_wp2_with fail
   clear e1
   go_loopw [29] (fun i wr=>∃k:Nat,k<=s.nodes.length/\i=.int .i64 k/\StOwn wr base q1 q2 q3 d1 d2 d3 ⟨s.rev,js,mixL zoneN s.nodes k,s.leases⟩/\Below base w wr/\RKeep w wr /\
     Blk wr w.heap.size 26 #[.int .i64 s.rev,.slice q1 s.jobs.length d1,.slice q2 s.nodes.length d2,.slice q3 s.leases.length d3]/\Blk wr (w.heap.size+1) 26 zsv) (fun i _=>s.nodes.length-(intOf i).toNat)
   case atStart=>exact⟨0,Nat.zero_le _,rfl,by rw[vy5];exact hOr,hBr,hKr,bsr,bzr⟩
   case round =>
    clear hOr hBr hKr bsr bzr
    obtain⟨k,hk,rfl,hOr,hBr,hKr,bsr,bzr⟩:=hrel
    by_cases hlt:k<s.nodes.length
    ·have hx:s.nodes[k]?=some s.nodes[k]:=zrd hlt
     generalize s.nodes[k]=x at *
     have hmx:=xqx zoneN s.nodes k x hx
     have hms:=vy4 zoneN s.nodes k x hx
     have hml:=wju zoneN s.nodes k
     generalize hmk:mixL zoneN s.nodes (k+1)=ns' at *
     generalize mixL zoneN s.nodes k=ns at *
     obtain⟨g,cur,rfl,hbg,hgb,hcs,hcc⟩:=hOr.n.where_ (by rw[zre,hml];omega)
     have hk0:(0:Int)<=(k:Int):=by omega
     have hk1:(k:Int)<(s.nodes.length:Int):=by omega
     have e1:=bsr.c2
     obtain⟨e3,f3⟩:=hOr.n.cellAt (k:=k) (j:=2) (r:=rowN x) (v:=.string x.zone) (by rw[zrg,hmx];rfl) rfl
     have hO3:=hOr.setN hmx 2 (zoneN x) (.string ⟨#[45]⟩) (by decide) rfl
     obtain⟨bs3,hbg3⟩:=hOr.keepN (by show 0<ns.length;omega) bsr (by decide) (k*3+2) (.string ⟨#[45]⟩)
     obtain⟨bz3,_⟩:=hOr.keepN (by show 0<ns.length;omega) bzr (by decide) (k*3+2) (.string ⟨#[45]⟩)
     have hK3:RKeep w (wr.setCell ⟨g,k*3+2,none⟩ (.string ⟨#[45]⟩)):=hKr.trans (RKeep.setN hOr (by show 0<ns.length;omega) _ _)
     have hB3:Below base w (wr.setCell ⟨g,k*3+2,none⟩ (.string ⟨#[45]⟩)):=hBr.setCell (p:=⟨g,k*3+2,none⟩) hbg3 _
     have HO3:=zrj hO3
     have HMS:=zrj hms
     clear hOr bsr bzr hO3 hms hmx hgb
     go_wp2_with fail
     go_roundw
     case rel=>exact⟨k+1,by omega,by go_num,by rw[hmk,HMS.out];exact HO3.out,hB3,hK3,bs3,bz3⟩
     case measure=>simp[intOf];omega
    ·obtain rfl:k=s.nodes.length:=by omega
     rw[wjt] at hOr
     have HO4:=zrj ((hOr.other (growR wr (w.heap.size+1) #[.int .i64 s.rev,.slice q1 s.jobs.length d1,.slice q2 s.nodes.length d2,.slice q3 s.leases.length d3]) bzr (by decide) (by decide) (by decide)))
     have hK4:=zrj (hKr.setRow_ (g:=w.heap.size+1) (Nat.le_succ _) #[.int .i64 s.rev,.slice q1 s.jobs.length d1,.slice q2 s.nodes.length d2,.slice q3 s.leases.length d3])
     have hB4:=zrj (uqf hBr (Nat.le_succ_of_le hbase) #[.int .i64 s.rev,.slice q1 s.jobs.length d1,.slice q2 s.nodes.length d2,.slice q3 s.leases.length d3])
     clear hOr hBr
     go_wp2_with(first
      | (refine uqa rfl _ _ rfl w.heap.size rfl _ _ bsr _ underlying26 rfl uqg ?_)
      | (refine uqd rfl _ _ _ rfl (w.heap.size+1) rfl _ _ #[.int .i64 s.rev,.slice q1 s.jobs.length d1,.slice q2 s.nodes.length d2,.slice q3 s.leases.length d3] bzr rfl uqg rfl (uzj _ _ _ _ _ _ _ _ _ _) ?_))
     refine bodyPost_ret (uqw rfl _ rfl (bzr.setRow #[.int .i64 s.rev,.slice q1 s.jobs.length d1,.slice q2 s.nodes.length d2,.slice q3 s.leases.length d3]) underlying26 rfl uqg) rfl ?_
     have hst:stepS s 2=⟨s.rev,js,s.nodes.map zoneN,s.leases⟩:=by rw[<- HJS.out];rfl
     exact⟨rfl,by rw[hst];exact HO4.out,hB4.out,hK4.out⟩
theorem wzz (s:St) (base:Nat) (q1 q2 q3:Zoa) (d1 d2 d3:Nat) (w:World) (hO:StOwn w base q1 q2 q3 d1 d2 d3 s) (hbase:base<=w.heap.size) :
  Calls prog 59 #[.agg #[.int .i64 s.rev,.slice q1 s.jobs.length d1,.slice q2 s.nodes.length d2,.slice q3 s.leases.length d3],.int .i64 3] w fun e w' =>
   e=.returned (.agg #[.int .i64 1,.slice q1 s.jobs.length d1,.slice q2 s.nodes.length d2,.slice q3 s.leases.length d3])/\StOwn w' base q1 q2 q3 d1 d2 d3 (stepS s 3)/\Below base w w'/\RKeep w w':=by
 have hzs:=uq4
 have bs:=(Blk.new w 26 #[.int .i64 s.rev,.slice q1 s.jobs.length d1,.slice q2 s.nodes.length d2,.slice q3 s.leases.length d3]).alloc (.cells zsv 26)
 have bz:=Blk.new (w.alloc (.cells #[.int .i64 s.rev,.slice q1 s.jobs.length d1,.slice q2 s.nodes.length d2,.slice q3 s.leases.length d3] 26)) 26 zsv
 rw[show(w.alloc (.cells #[.int .i64 s.rev,.slice q1 s.jobs.length d1,.slice q2 s.nodes.length d2,.slice q3 s.leases.length d3] 26)).heap.size=w.heap.size+1 by simp] at bz
 have hB0:Below w.heap.size w ((w.alloc (.cells #[.int .i64 s.rev,.slice q1 s.jobs.length d1,.slice q2 s.nodes.length d2,.slice q3 s.leases.length d3] 26)).alloc (.cells zsv 26)):=((zri _ _).alloc (zra _) _).alloc (by simp) _
 have hO0:=hO.below hB0
 clear hO
 go_enter func59,ntmps59
 go_upto_region 1 with(fail)
 generalize(w.alloc (.cells #[.int .i64 s.rev,.slice q1 s.jobs.length d1,.slice q2 s.nodes.length d2,.slice q3 s.leases.length d3] 26)).alloc _=w0 at *
 have hb00:=hB0.mono hbase
 have hk00:=RKeep.below hB0
 have e0:=bs.c0
 have f0:=bs.frozen 0
 have G1:=uxp w0 w.heap.size 0 (.int .i64 1)
 have hO1:=hO0.other G1 bs (by decide) (by decide) (by decide)
 have bz1:=bz.far (p:=⟨w.heap.size,0,none⟩) (by show w.heap.size+1≠w.heap.size;omega) (.int .i64 1)
 have bs1:Blk (w0.setCell ⟨w.heap.size,0,none⟩ (.int .i64 1)) w.heap.size 26 #[.int .i64 1,.slice q1 s.jobs.length d1,.slice q2 s.nodes.length d2,.slice q3 s.leases.length d3]:=bs.set_ 0 _
 have hB1:=hb00.setCell (p:=⟨w.heap.size,0,none⟩) hbase (.int .i64 1)
 have hK4:=zrj ((hk00.setCell_ (p:=⟨w.heap.size,0,none⟩) (zra _) (.int .i64 1)).setRow_ (g:=w.heap.size+1) (Nat.le_succ _) #[.int .i64 1,.slice q1 s.jobs.length d1,.slice q2 s.nodes.length d2,.slice q3 s.leases.length d3])
 have HO4:=zrj ((hO1.other (growR _ (w.heap.size+1) #[.int .i64 1,.slice q1 s.jobs.length d1,.slice q2 s.nodes.length d2,.slice q3 s.leases.length d3]) bz1 (by decide) (by decide) (by decide)))
 have hB4:=zrj (uqf hB1 (Nat.le_succ_of_le hbase) #[.int .i64 1,.slice q1 s.jobs.length d1,.slice q2 s.nodes.length d2,.slice q3 s.leases.length d3])
 clear hO0 hO1 G1 hB0 hb00 bs bz hB1
 go_wp2_with(first
  | (refine uqa rfl _ _ rfl w.heap.size rfl _ _ bs1 _ underlying26 rfl uqg ?_)
  | (refine uqd rfl _ _ _ rfl (w.heap.size+1) rfl _ _ #[.int .i64 1,.slice q1 s.jobs.length d1,.slice q2 s.nodes.length d2,.slice q3 s.leases.length d3] bz1 rfl uqg rfl (uzj _ _ _ _ _ _ _ _ _ _) ?_))
 refine bodyPost_ret (uqw rfl _ rfl (bz1.setRow #[.int .i64 1,.slice q1 s.jobs.length d1,.slice q2 s.nodes.length d2,.slice q3 s.leases.length d3]) underlying26 rfl uqg) rfl ?_
 have hst:stepS s 3=⟨1,s.jobs,s.nodes,s.leases⟩:=rfl
 exact⟨rfl,by rw[hst];exact⟨HO4.out.j,HO4.out.n,HO4.out.l⟩,hB4.out,hK4.out⟩
theorem wwn (k:Nat) (hk:k=2\/k=3) (s:St) (base:Nat) (q1 q2 q3:Zoa) (d1 d2 d3:Nat) (w:World) (hO:StOwn w base q1 q2 q3 d1 d2 d3 s) (hbase:base<=w.heap.size) (hj:s.jobs.length<=4611686018427387904) (hn:s.nodes.length<=4611686018427387904) (hl:s.leases.length<=4611686018427387904) :
  Calls prog 59 #[.agg #[.int .i64 s.rev,.slice q1 s.jobs.length d1,.slice q2 s.nodes.length d2,.slice q3 s.leases.length d3],.int .i64 (k:Int)] w fun e w' =>
   e=.returned (.agg #[.int .i64 (stepS s k).rev,.slice q1 s.jobs.length d1,.slice q2 s.nodes.length d2,.slice q3 s.leases.length d3])/\StOwn w' base q1 q2 q3 d1 d2 d3 (stepS s k)/\Below base w w'/\RKeep w w':=by
 rcases hk with rfl | rfl
 ·exact wzy s base q1 q2 q3 d1 d2 d3 w hO hbase hj hn hl
 ·exact wzz s base q1 q2 q3 d1 d2 d3 w hO hbase
theorem xza (s:St) (k:Nat):(stepS s k).jobs.length=s.jobs.length/\(stepS s k).nodes.length=s.nodes.length/\(stepS s k).leases.length=s.leases.length:=by
 unfold stepS
 split
 ·simp[mapS]
 ·split <;> exact⟨rfl,rfl,rfl⟩
theorem wks (s:St) (a:Nat):∀n,(upTo s a n).jobs.length=s.jobs.length/\(upTo s a n).nodes.length=s.nodes.length/\(upTo s a n).leases.length=s.leases.length
 | 0=>⟨rfl,rfl,rfl⟩
 | n+1=>by
  obtain⟨h1,h2,h3⟩:=wks s a n
  obtain⟨g1,g2,g3⟩:=xza (upTo s a n) (a+n+1)
  exact⟨g1.trans h1,g2.trans h2,g3.trans h3⟩
theorem vyy (a b:Int) (w:World):Calls prog 27 #[.int .i64 a,.int .i64 b] w fun e w'=>e=.returned (.bool (decide (1<=a/\a<=b/\b<=3)))/\w=w':=by
 by_cases h1:1<=a
 ·by_cases h2:a<=b
  ·by_cases h3:b<=3
   ·go_enter func27,ntmps27
    go_wp2_with fail
    go_ret
    exact⟨congrArg (fun b=>Ending.returned (.bool b)) (by simp[h1,h2,h3]),rfl⟩
   ·have h3':decide (b<=3)=false:=decide_eq_false h3
    go_enter func27,ntmps27
    go_wp2_with fail
    all_goals go_ret
    all_goals exact⟨congrArg (fun b=>Ending.returned (.bool b)) (by simp[h1,h2,h3]),rfl⟩
  ·have h2':decide (a<=b)=false:=decide_eq_false h2
   go_enter func27,ntmps27
   go_wp2_with fail
   all_goals go_ret
   all_goals exact⟨congrArg (fun b=>Ending.returned (.bool b)) (by simp[h1,h2]),rfl⟩
 ·have h1':decide (1<=a)=false:=decide_eq_false h1
  go_enter func27,ntmps27
  go_wp2_with fail
  all_goals go_ret
  all_goals exact⟨congrArg (fun b=>Ending.returned (.bool b)) (by simp[h1]),rfl⟩
theorem vjy (s:St) (a b:Nat) (ha:1<=a) (hab:a<=b) (hb3:b<=3) (p1 p2 p3:Zoa) (c1 c2 c3:Nat) (w:World) (hm:StM w w.heap.size p1 p2 p3 s) (hj:s.jobs.length<=1099511627776) (hn:s.nodes.length<=1099511627776) (hl:s.leases.length<=1099511627776) :
  Calls prog 28 #[.agg #[.int .i64 s.rev,.slice p1 s.jobs.length c1,.slice p2 s.nodes.length c2,.slice p3 s.leases.length c3],.int .i64 (a:Int),.int .i64 (b:Int)] w fun e w'=>wq5 w (upTo s a (b-a)) e w':=by
 have hzs:=uq4
 have bs:=(Blk.new w 26 #[.int .i64 s.rev,.slice p1 s.jobs.length c1,.slice p2 s.nodes.length c2,.slice p3 s.leases.length c3]).alloc (.cells zsv 26)
 have bz:=Blk.new (w.alloc (.cells #[.int .i64 s.rev,.slice p1 s.jobs.length c1,.slice p2 s.nodes.length c2,.slice p3 s.leases.length c3] 26)) 26 zsv
 rw[show(w.alloc (.cells #[.int .i64 s.rev,.slice p1 s.jobs.length c1,.slice p2 s.nodes.length c2,.slice p3 s.leases.length c3] 26)).heap.size=w.heap.size+1 by simp] at bz
 have hB0:Below w.heap.size w ((w.alloc (.cells #[.int .i64 s.rev,.slice p1 s.jobs.length c1,.slice p2 s.nodes.length c2,.slice p3 s.leases.length c3] 26)).alloc (.cells zsv 26)):=((zri _ _).alloc (zra _) _).alloc (by simp) _
 have HO:=zrj (xzr s p1 p2 p3 c1 c2 c3 _ ((hm.below hB0).more hB0.size) hj hn hl)
 clear hm
 go_enter func28,ntmps28
 go_upto_region 1 with(fail)
 generalize(w.alloc (.cells #[.int .i64 s.rev,.slice p1 s.jobs.length c1,.slice p2 s.nodes.length c2,.slice p3 s.leases.length c3] 26)).alloc _=w0 at *
 go_wp2_with(refine uqa rfl _ _ rfl w.heap.size rfl _ _ bs _ underlying26 rfl uqg ?_)
 refine HO.out.mono ?_
 rintro e w1 ⟨q1,q2,q3,d1,d2,d3,rfl,hO1,hb1⟩
 have bs1:=bs.bl hb1
 have bz1:=bz.bl hb1
 have hB1:=bthen hB0 hb1
 have hO1:=hO1.less hB0.size
 have hO2:=hO1.other (growR w1 w.heap.size #[.int .i64 s.rev,.slice q1 s.jobs.length d1,.slice q2 s.nodes.length d2,.slice q3 s.leases.length d3]) bs1 (by decide) (by decide) (by decide)
 have bs2:=bs1.setRow #[.int .i64 s.rev,.slice q1 s.jobs.length d1,.slice q2 s.nodes.length d2,.slice q3 s.leases.length d3]
 have bz2:=bz1.setRow_far (show w.heap.size+1≠w.heap.size by omega) #[.int .i64 s.rev,.slice q1 s.jobs.length d1,.slice q2 s.nodes.length d2,.slice q3 s.leases.length d3]
 have hB2:=uqf hB1 (zra _) #[.int .i64 s.rev,.slice q1 s.jobs.length d1,.slice q2 s.nodes.length d2,.slice q3 s.leases.length d3]
 clear bs bz hb1 hB1 hO1 HO hB0
 go_wp2_with(refine uqd rfl _ _ _ rfl w.heap.size rfl _ _ #[.int .i64 s.rev,.slice q1 s.jobs.length d1,.slice q2 s.nodes.length d2,.slice q3 s.leases.length d3] bs1 rfl uqg rfl (uzj _ _ _ _ _ _ _ _ _ _) ?_)
 clear bs1 bz1
 generalize w1.setRow _ _=w2 at *
 go_loopw [7] (fun i wr=>∃n:Nat,a+n<=b/\i=.int .i64 ((a+n+1:Nat):Int)/\StOwn wr w.heap.size q1 q2 q3 d1 d2 d3 (upTo s a n)/\Below w.heap.size w wr /\
   Blk wr w.heap.size 26 #[.int .i64 (upTo s a n).rev,.slice q1 s.jobs.length d1,.slice q2 s.nodes.length d2,.slice q3 s.leases.length d3]/\Blk wr (w.heap.size+1) 26 zsv) (fun i _=>b+2-(intOf i).toNat)
 case atStart=>exact⟨0,by omega,by go_num,hO2,hB2,bs2,bz2⟩
 case round =>
  clear hO2 hB2 bs2 bz2
  obtain⟨n,hn1,rfl,hOr,hBr,bsr,bzr⟩:=hrel
  obtain⟨l1,l2,l3⟩:=wks s a n
  by_cases hlt:a+n+1<=b
  ·have hc:=wwn (a+n+1) (by omega) (upTo s a n) w.heap.size q1 q2 q3 d1 d2 d3 wr hOr hBr.size (by omega) (by omega) (by omega)
   have hsucc:stepS (upTo s a n) (a+n+1)=upTo s a (n+1):=rfl
   rw[l1,l2,l3,hsucc] at hc
   have HC:=zrj hc
   generalize upTo s a n=t at *
   generalize hu:upTo s a (n+1)=u at *
   have hle:((a+n+1:Nat):Int)<=(b:Int):=by omega
   clear hc l1 l2 l3 hsucc hOr
   go_wp2_with(refine uqa rfl _ _ rfl w.heap.size rfl _ _ bsr _ underlying26 rfl uqg ?_)
   refine HC.out.mono ?_
   rintro e w3 ⟨rfl,hO3,hb3,hK3⟩
   have bs3:=hK3 _ _ _ bsr (by decide) (by decide)
   have bz3:=hK3 _ _ _ bzr (by decide) (by decide)
   have hO4:=hO3.other (growR w3 w.heap.size #[.int .i64 u.rev,.slice q1 s.jobs.length d1,.slice q2 s.nodes.length d2,.slice q3 s.leases.length d3]) bs3 (by decide) (by decide) (by decide)
   have bs4:=bs3.setRow #[.int .i64 u.rev,.slice q1 s.jobs.length d1,.slice q2 s.nodes.length d2,.slice q3 s.leases.length d3]
   have bz4:=bz3.setRow_far (show w.heap.size+1≠w.heap.size by omega) #[.int .i64 u.rev,.slice q1 s.jobs.length d1,.slice q2 s.nodes.length d2,.slice q3 s.leases.length d3]
   have hB4:=uqf (hBr.trans hb3) (zra _) #[.int .i64 u.rev,.slice q1 s.jobs.length d1,.slice q2 s.nodes.length d2,.slice q3 s.leases.length d3]
   clear HC hO3 hK3 hb3 bsr bzr bz3
   go_wp2_with(refine uqd rfl _ _ _ rfl w.heap.size rfl _ _ #[.int .i64 u.rev,.slice q1 s.jobs.length d1,.slice q2 s.nodes.length d2,.slice q3 s.leases.length d3] bs3 rfl uqg rfl (uzj _ _ _ _ _ _ _ _ _ _) ?_)
   go_roundw
   case rel=>exact⟨n+1,by omega,by go_num,by rw[hu];exact hO4,hB4,by rw[hu];exact bs4,bz4⟩
   case measure=>simp[intOf];omega
  ·obtain rfl:b=a+n:=by omega
   have hni:¬((a+n+1:Nat):Int)<=((a+n:Nat):Int):=by omega
   have hd:decide (((a+n+1:Nat):Int)<=((a+n:Nat):Int))=false:=decide_eq_false hni
   have hsub:a+n-a=n:=by omega
   have HS:=zrj hsub
   have HO4:=zrj ((hOr.other (growR wr (w.heap.size+1) #[.int .i64 (upTo s a n).rev,.slice q1 s.jobs.length d1,.slice q2 s.nodes.length d2,.slice q3 s.leases.length d3]) bzr (by decide) (by decide) (by decide)))
   have hB4:=zrj (uqf hBr (Nat.le_succ _) #[.int .i64 (upTo s a n).rev,.slice q1 s.jobs.length d1,.slice q2 s.nodes.length d2,.slice q3 s.leases.length d3])
   have HL:=zrj (And.intro l1 (And.intro l2 l3))
   generalize ht:upTo s a n=t at *
   have HT:=zrj ht
   clear hOr hBr hsub l1 l2 l3 ht
   go_wp2_with(first
    | (refine uqa rfl _ _ rfl w.heap.size rfl _ _ bsr _ underlying26 rfl uqg ?_)
    | (refine uqd rfl _ _ _ rfl (w.heap.size+1) rfl _ _ #[.int .i64 t.rev,.slice q1 s.jobs.length d1,.slice q2 s.nodes.length d2,.slice q3 s.leases.length d3] bzr rfl uqg rfl (uzj _ _ _ _ _ _ _ _ _ _) ?_))
   refine bodyPost_ret (uqw rfl _ rfl (bzr.setRow #[.int .i64 t.rev,.slice q1 s.jobs.length d1,.slice q2 s.nodes.length d2,.slice q3 s.leases.length d3]) underlying26 rfl uqg) rfl ?_
   obtain⟨l1,l2,l3⟩:=HL.out
   refine(?_:wq5 w (upTo s a n) _ _)
   rw[HT.out]
   exact⟨q1,q2,q3,d1,d2,d3,by rw[l1,l2,l3],HO4.out,hB4.out⟩
def UpPost (w:World) (r:St×Nat) (e:Ending) (w':World):Prop :=
 ∃t er q1 q2 q3 d1 d2 d3,e=.returned (.tuple #[.agg #[.int .i64 t.rev,.slice q1 t.jobs.length d1,.slice q2 t.nodes.length d2,.slice q3 t.leases.length d3],.int .i64 ((er:Nat):Int)])/\StM w' w'.heap.size q1 q2 q3 t/\Below w.heap.size w w'/\r=(t,er)
theorem xqa (s:St) (a:Int) (h:1<=a/\a<=3):fitsR s a=if uqr s≠0 then(false,uqr s) else(fitsB s a,0):=by
 unfold fitsR
 rw[uqs.2 h,if_pos rfl]
theorem upState_any (s:St) (a b:Int) (p1 p2 p3:Zoa) (c1 c2 c3:Nat) (w:World) (hm:StM w w.heap.size p1 p2 p3 s) (hz:StSz s) (hT:Tabs w) :
  Calls prog 9 #[.agg #[.int .i64 s.rev,.slice p1 s.jobs.length c1,.slice p2 s.nodes.length c2,.slice p3 s.leases.length c3],.int .i64 a,.int .i64 b] w fun e w'=>UpPost w (upR s a b) e w':=by
 have hzs:=uq4
 have bs:=(Blk.new w 26 #[.int .i64 s.rev,.slice p1 s.jobs.length c1,.slice p2 s.nodes.length c2,.slice p3 s.leases.length c3]).alloc (.cells zsv 26)
 have bz:=Blk.new (w.alloc (.cells #[.int .i64 s.rev,.slice p1 s.jobs.length c1,.slice p2 s.nodes.length c2,.slice p3 s.leases.length c3] 26)) 26 zsv
 rw[show(w.alloc (.cells #[.int .i64 s.rev,.slice p1 s.jobs.length c1,.slice p2 s.nodes.length c2,.slice p3 s.leases.length c3] 26)).heap.size=w.heap.size+1 by simp] at bz
 have hB0:Below w.heap.size w ((w.alloc (.cells #[.int .i64 s.rev,.slice p1 s.jobs.length c1,.slice p2 s.nodes.length c2,.slice p3 s.leases.length c3] 26)).alloc (.cells zsv 26)):=((zri _ _).alloc (zra _) _).alloc (by simp) _
 have HW:=zrj (fun W:World=>vyy a b W)
 have HF:=zrj (fun(W:World) (hW:Below w.heap.size w W)=>uym s a p1 p2 p3 c1 c2 c3 W ((hm.below hW).more hW.size) hz (hT.below hW))
 have HS:=zrj (fun(hc:uqr s=0) (a b:Nat) (ha:1<=a) (hab:a<=b) (hb3:b<=3) (W:World) (hW:Below w.heap.size w W)=>vjy s a b ha hab hb3 p1 p2 p3 c1 c2 c3 W ((hm.below hW).more hW.size) (by have:=((uxk s).1 hc).nj;omega) (by have:=((uxk s).1 hc).nn;omega) (by have:=((uxk s).1 hc).nl;omega))
 clear hm hz hT
 cases hd:decide (1<=a/\a<=b/\b<=3)
 ·have hR:upR s a b=(⟨0,[],[],[]⟩,1):=by unfold upR;rw[hd,if_pos rfl]
  have hw:=HW.out
  rw[hd] at hw
  have HW2:=zrj hw
  have HR:=zrj hR
  clear hw hR hd HS HF HW
  go_enter func9,ntmps9
  go_upto_region 1 with(fail)
  generalize(w.alloc (.cells #[.int .i64 s.rev,.slice p1 s.jobs.length c1,.slice p2 s.nodes.length c2,.slice p3 s.leases.length c3] 26)).alloc _=w0 at *
  go_wp2_with fail
  refine(HW2.out _).mono ?_
  rintro e w' ⟨rfl,rfl⟩
  go_wp2_with(refine uqd rfl _ _ _ rfl (w.heap.size+1) rfl _ _ zsv bz rfl uqg rfl (uzj _ _ _ _ _ _ _ _ _ _) ?_)
  refine bodyPost_ret (uqj rfl _ rfl (bz.setRow zsv) underlying26 rfl uqg) rfl ?_
  exact⟨⟨0,[],[],[]⟩,1,none,none,none,0,0,0,rfl,⟨.nil_,.nil_,.nil_⟩,uqf hB0 (Nat.le_succ _) _,HR.out⟩
 ·obtain⟨h1,h2,h3⟩:=of_decide_eq_true hd
  obtain⟨m,rfl⟩:=Int.eq_ofNat_of_zero_le (show 0<=a by omega)
  obtain⟨n,rfl⟩:=Int.eq_ofNat_of_zero_le (show 0<=b by omega)
  have hw:=HW.out
  rw[hd] at hw
  have HW2:=zrj hw
  have hfw:=xqa s m ⟨h1,by omega⟩
  have hf:=HF.out
  have HS2:=zrj (fun hc W hW=>HS.out hc m n (by omega) (by omega) (by omega) W hW)
  have hR:upR s m n=if(fitsR s m).2≠0 then(⟨0,[],[],[]⟩,(fitsR s m).2) else if(fitsR s m).1=false then(⟨0,[],[],[]⟩,4) else(upTo s m (n-m),0):=by
   unfold upR
   rw[hd,if_neg (by simp),show((m:Int)).toNat=m by omega,show((n:Int)-(m:Int)).toNat=n-m by omega]
  clear hw HF HS HW hd
  by_cases hc:uqr s=0
  ·have hfw2:fitsR s m=(fitsB s m,0):=by rw[hfw,if_neg (by rw[hc];simp)]
   rw[hfw2] at hf hR
   rw[if_neg (by simp)] at hR
   clear hfw hfw2
   cases hb:fitsB s m
   ·rw[hb] at hf hR
    rw[if_pos rfl] at hR
    have HF:=zrj hf
    have HR:=zrj hR
    clear hf hR hb hc HS2
    go_enter func9,ntmps9
    go_upto_region 1 with(fail)
    generalize(w.alloc (.cells #[.int .i64 s.rev,.slice p1 s.jobs.length c1,.slice p2 s.nodes.length c2,.slice p3 s.leases.length c3] 26)).alloc _=w0 at *
    go_wp2_with fail
    refine(HW2.out _).mono ?_
    rintro e w' ⟨rfl,rfl⟩
    go_wp2_with(refine uqa rfl _ _ rfl w.heap.size rfl _ _ bs _ underlying26 rfl uqg ?_)
    refine(HF.out _ hB0).mono ?_
    rintro e w1 ⟨rfl,hb1⟩
    have bz1:=bz.bl hb1
    have hB1:=bthen hB0 hb1
    go_wp2_with(refine uqd rfl _ _ _ rfl (w.heap.size+1) rfl _ _ zsv bz1 rfl uqg rfl (uzj _ _ _ _ _ _ _ _ _ _) ?_)
    refine bodyPost_ret (uqj rfl _ rfl (bz1.setRow zsv) underlying26 rfl uqg) rfl ?_
    exact⟨⟨0,[],[],[]⟩,4,none,none,none,0,0,0,rfl,⟨.nil_,.nil_,.nil_⟩,uqf hB1 (Nat.le_succ _) _,HR.out⟩
   ·rw[hb] at hf hR
    rw[if_neg (by simp)] at hR
    have HF:=zrj hf
    have HR:=zrj hR
    have HS3:=zrj (fun W hW=>HS2.out hc W hW)
    clear hf hR hb hc HS2
    go_enter func9,ntmps9
    go_upto_region 1 with(fail)
    generalize(w.alloc (.cells #[.int .i64 s.rev,.slice p1 s.jobs.length c1,.slice p2 s.nodes.length c2,.slice p3 s.leases.length c3] 26)).alloc _=w0 at *
    go_wp2_with fail
    refine(HW2.out _).mono ?_
    rintro e w' ⟨rfl,rfl⟩
    go_wp2_with(refine uqa rfl _ _ rfl w.heap.size rfl _ _ bs _ underlying26 rfl uqg ?_)
    refine(HF.out _ hB0).mono ?_
    rintro e w1 ⟨rfl,hb1⟩
    have bz1:=bz.bl hb1
    have bs1:=bs.bl hb1
    have hB1:=bthen hB0 hb1
    clear bz bs hb1
    go_wp2_with(refine uqa rfl _ _ rfl w.heap.size rfl _ _ bs1 _ underlying26 rfl uqg ?_)
    refine(HS3.out _ hB1).mono ?_
    rintro e w2 ⟨q1,q2,q3,d1,d2,d3,rfl,hO2,hb2⟩
    have bz2:=bz1.bl hb2
    have hB2:=bthen hB1 hb2
    generalize upTo s m (n-m)=t at *
    have hO3:=hO2.other (growR w2 (w.heap.size+1) #[.int .i64 t.rev,.slice q1 t.jobs.length d1,.slice q2 t.nodes.length d2,.slice q3 t.leases.length d3]) bz2 (by decide) (by decide) (by decide)
    have HO:=zrj hO3
    clear hO2 hO3 hb2 bs1 bz1
    go_wp2_with(refine uqd rfl _ _ _ rfl (w.heap.size+1) rfl _ _ #[.int .i64 t.rev,.slice q1 t.jobs.length d1,.slice q2 t.nodes.length d2,.slice q3 t.leases.length d3] bz2 rfl uqg rfl (uzj _ _ _ _ _ _ _ _ _ _) ?_)
    refine bodyPost_ret (uqj rfl _ rfl (bz2.setRow #[.int .i64 t.rev,.slice q1 t.jobs.length d1,.slice q2 t.nodes.length d2,.slice q3 t.leases.length d3]) underlying26 rfl uqg) rfl ?_
    exact⟨t,0,q1,q2,q3,d1,d2,d3,rfl,HO.out.m,uqf hB2 (Nat.le_succ _) _,HR.out⟩
  ·have hfw2:fitsR s m=(false,uqr s):=by rw[hfw,if_pos hc]
   rw[hfw2] at hf hR
   rw[if_pos hc] at hR
   clear hfw hfw2
   have hne:((uqr s:Int) != 0)=true:=by rw[bne_iff_ne];omega
   have hne2:((uqr s:Int) == 0)=false:=by rw[zrf];omega
   have HF:=zrj hf
   have HR:=zrj hR
   generalize uqr s=ce at *
   clear hf hR hc HS2
   go_enter func9,ntmps9
   go_upto_region 1 with(fail)
   generalize(w.alloc (.cells #[.int .i64 s.rev,.slice p1 s.jobs.length c1,.slice p2 s.nodes.length c2,.slice p3 s.leases.length c3] 26)).alloc _=w0 at *
   go_wp2_with fail
   refine(HW2.out _).mono ?_
   rintro e w' ⟨rfl,rfl⟩
   go_wp2_with(refine uqa rfl _ _ rfl w.heap.size rfl _ _ bs _ underlying26 rfl uqg ?_)
   refine(HF.out _ hB0).mono ?_
   rintro e w1 ⟨rfl,hb1⟩
   have bz1:=bz.bl hb1
   have hB1:=bthen hB0 hb1
   go_wp2_with(refine uqd rfl _ _ _ rfl (w.heap.size+1) rfl _ _ zsv bz1 rfl uqg rfl (uzj _ _ _ _ _ _ _ _ _ _) ?_)
   refine bodyPost_ret (uqj rfl _ rfl (bz1.setRow zsv) underlying26 rfl uqg) rfl ?_
   exact⟨⟨0,[],[],[]⟩,ce,none,none,none,0,0,0,rfl,⟨.nil_,.nil_,.nil_⟩,uqf hB1 (Nat.le_succ _) _,HR.out⟩
end Go.Proofs.YtnnfgchhkekkeacGreatDoor
