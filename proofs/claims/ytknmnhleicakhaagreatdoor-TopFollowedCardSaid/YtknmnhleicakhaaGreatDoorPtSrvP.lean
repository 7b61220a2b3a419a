/- Lemmas.
-/
import Derived.Test.YtknmnhleicakhaaGreatDoorPtDelC
set_option linter.all false
set_option maxHeartbeats 16000000
set_option maxRecDepth 100000
namespace Go.Proofs.YtknmnhleicakhaaGreatDoor
open Go.Proofs.Tryz
section
variable {α:Type} {key:α->Zba}
theorem vv8 {a b:Zba} (h:ltS a b=true):ltS b a=false:=by
 cases h2:ltS b a
 ·rfl
 ·have:=uzx h h2
  rw[uxr] at this;cases this
theorem uj2:∀{l:List α},uqy key l->∀{x y:α},x∈l->y∈l->key x=key y->x=y
 | [],_,x,y,hx,_,_=>by cases hx
 | z::r,h,x,y,hx,hy,he=>by
  obtain⟨h1,h2⟩:=List.pairwise_cons.1 h
  rcases List.mem_cons.1 hx with e1 | hx1
  ·rcases List.mem_cons.1 hy with e2 | hy1
   ·rw[e1,e2]
   ·have:=h1 y hy1;rw[<- e1,he,uxr] at this;cases this
  ·rcases List.mem_cons.1 hy with e2 | hy1
   ·have:=h1 x hx1;rw[<- e2,he,uxr] at this;cases this
   ·exact uj2 h2 hx1 hy1 he
theorem uyl:∀{a b:List α},uqy key a->uqy key b->(∀x,x∈a↔x∈b)->a=b
 | [],[],_,_,_=>rfl
 | [],y::t,_,_,h=>by have:=(h y).2 List.mem_cons_self;cases this
 | x::r,[],_,_,h=>by have:=(h x).1 List.mem_cons_self;cases this
 | x::r,y::t,ha,hb,h=>by
  obtain⟨a1,a2⟩:=List.pairwise_cons.1 ha
  obtain⟨b1,b2⟩:=List.pairwise_cons.1 hb
  have hxy:x=y:=by
   rcases List.mem_cons.1 ((h x).1 List.mem_cons_self) with e | hx
   ·exact e
   ·rcases List.mem_cons.1 ((h y).2 List.mem_cons_self) with e | hy
    ·exact e.symm
    ·have h1:=a1 y hy
     have h2:=b1 x hx
     rw[vv8 h1] at h2;cases h2
  subst hxy
  congr 1
  refine uyl a2 b2 fun z=>⟨fun hz=>?_,fun hz=>?_⟩
  ·rcases List.mem_cons.1 ((h z).1 (List.mem_cons_of_mem _ hz)) with rfl | hz'
   ·have:=a1 z hz;rw[uxr] at this;cases this
   ·exact hz'
  ·rcases List.mem_cons.1 ((h z).2 (List.mem_cons_of_mem _ hz)) with rfl | hz'
   ·have:=b1 z hz;rw[uxr] at this;cases this
   ·exact hz'
def IsChg (key:α->Zba) (rows set:List α) (gone:List Zba) (r:List α):Prop :=
 uqy key r/\∀x,x∈r↔(x∈set\/(x∈rows/\key x∉gone/\∀y∈set,key y≠key x))
def AllIn (key:α->Zba) (rows:List α) (gone:List Zba):Prop:=∀s∈gone,∃x∈rows,key x=s
theorem IsChg.uniq {rows set:List α} {gone:List Zba} {a b:List α} (h1:IsChg key rows set gone a) (h2:IsChg key rows set gone b):a=b :=
 uyl h1.1 h2.1 fun x=>(h1.2 x).trans (h2.2 x).symm
def chgB (key:α->Zba) (rows:List α) (gone:List Zba):Bool:=gone.all fun s=>rows.any fun x=>decide (key x=s)
theorem vzr {rows:List α} {gone:List Zba}:chgB key rows gone=true↔AllIn key rows gone:=by
 unfold chgB AllIn
 rw[List.all_eq_true]
 constructor
 ·intro h s hs
  obtain⟨x,hx,he⟩:=List.any_eq_true.1 (h s hs)
  exact⟨x,hx,of_decide_eq_true he⟩
 ·intro h s hs
  obtain⟨x,hx,he⟩:=h s hs
  exact List.any_eq_true.2 ⟨x,hx,decide_eq_true he⟩
def chgL (key:α->Zba) (rows set:List α) (gone:List Zba):List α :=
 ((rows.filter fun x => !(gone.any fun s=>decide (s=key x)) && !(set.any fun y=>decide (key y=key x)))++set).mergeSort fun x y => !ltS (key y) (key x)
theorem xvm:∀{l:List α},l.Pairwise (fun x y=>ltS (key y) (key x)=false)->l.Pairwise (fun x y=>key x≠key y)->uqy key l:=by
 intro l h1 h2
 exact(h1.and h2).imp fun {x y} h=>by
  rcases ujc (key x) (key y) with h' | h' | h'
  ·exact h'
  ·exact absurd h' h.2
  ·rw[h'] at h;exact absurd h.1 (by simp)
theorem chgL_is {rows set:List α} {gone:List Zba} (hr:uqy key rows) (hs:uqy key set):IsChg key rows set gone (chgL key rows set gone):=by
 have hp:=List.mergeSort_perm ((rows.filter fun x => !(gone.any fun s=>decide (s=key x)) && !(set.any fun y=>decide (key y=key x)))++set) (fun x y => !ltS (key y) (key x))
 constructor
 ·refine xvm ?_ ?_
  ·have:=List.pairwise_mergeSort (le:=fun x y:α => !ltS (key y) (key x)) ?_ ?_ ((rows.filter fun x => !(gone.any fun s=>decide (s=key x)) && !(set.any fun y=>decide (key y=key x)))++set)
   ·exact this.imp fun h=>by simpa using h
   ·intro x y z h1 h2
    simp only[Bool.not_eq_true'] at *
    rcases ujc (key z) (key x) with h | h | h
    ·rcases ujc (key x) (key y) with h' | h' | h'
     ·rw[uzx h h'] at h2;cases h2
     ·rw[<- h'] at h2;exact h2
     ·rw[h'] at h1;cases h1
    ·rw[h];exact uxr _
    ·exact vv8 h
   ·intro x y
    cases h:ltS (key y) (key x)
    ·rfl
    ·rw[vv8 h];rfl
  ·refine(hp.pairwise_iff (fun h=>Ne.symm h)).2 ?_
   rw[List.pairwise_append]
   refine⟨List.Pairwise.sublist List.filter_sublist (hr.imp fun h=>vx3 h),hs.imp fun h=>vx3 h,?_⟩
   intro x hx y hy he
   have:=(List.mem_filter.1 hx).2
   simp only[Bool.and_eq_true,Bool.not_eq_true'] at this
   have h2:=List.any_eq_false.1 this.2 y hy
   exact h2 (decide_eq_true he.symm)
 ·intro x
  rw[show x∈chgL key rows set gone↔_ from hp.mem_iff,List.mem_append,List.mem_filter]
  simp only[Bool.and_eq_true,Bool.not_eq_true',List.any_eq_false,decide_eq_true_eq]
  constructor
  ·rintro(⟨h1,h2,h3⟩ | h)
   ·exact .inr ⟨h1,fun h=>h2 _ h rfl,fun y hy=>h3 y hy⟩
   ·exact .inl h
  ·rintro(h | ⟨h1,h2,h3⟩)
   ·exact .inr h
   ·exact .inl ⟨h1,fun s hs he=>h2 (he ▸ hs),fun y hy=>h3 y hy⟩
theorem wqj {rows set:List α} {gone:List Zba} {r:List α} (hr:uqy key rows) (hs:uqy key set) (h:IsChg key rows set gone r):chgL key rows set gone=r:=(chgL_is hr hs).uniq h
theorem chgL_len {rows set:List α} {gone:List Zba}:(chgL key rows set gone).length<=rows.length+set.length:=by
 unfold chgL
 rw[List.length_mergeSort,zrb]
 have:=List.length_filter_le (fun x => !(gone.any fun s=>decide (s=key x)) && !(set.any fun y=>decide (key y=key x))) rows
 omega
theorem wkw [DecidableEq α] {a b:List α} (ha:uqy key a) (hb:uqy key b):IsChg key a (setOf a b) (uqr key a b) b:=by
 refine⟨hb,fun x=>⟨fun hx=>?_,?_⟩⟩
 ·by_cases hxa:x∈a
  ·refine .inr ⟨hxa,fun hg=>?_,fun y hy he=>?_⟩
   ·exact(uj4.1 hg).2 x hx rfl
   ·obtain⟨h1,h2⟩:=uz1.1 hy
    have:=uj2 hb h1 hx he
    exact h2 (this ▸ hxa)
  ·exact .inl (uz1.2 ⟨hx,hxa⟩)
 ·rintro(h | ⟨h1,h2,h3⟩)
  ·exact(uz1.1 h).1
  ·by_cases hg:∃y∈b,key y=key x
   ·obtain⟨y,hy,he⟩:=hg
    by_cases hya:y∈a
    ·rw[uj2 ha h1 hya he.symm];exact hy
    ·exact absurd he (h3 y (uz1.2 ⟨hy,hya⟩))
   ·exact absurd (uj4.2 ⟨⟨x,h1,rfl⟩,fun y hy he=>hg ⟨y,hy,he⟩⟩) h2
theorem wkv {a b:List α}:AllIn key a (uqr key a b):=fun s hs=>(uj4.1 hs).1
theorem uka [DecidableEq α] {a b:List α} (h:uqy key b):uqy key (setOf a b):=List.Pairwise.sublist List.filter_sublist h
theorem uyw {a b:List α} (h:uqy key a):uqy (fun s:Zba=>s) (uqr key a b):=by
 unfold uqr uqy
 rw[List.pairwise_map]
 exact List.Pairwise.sublist List.filter_sublist h
end
theorem wyy (has:Zba->Bool):∀(l:List Zba) (p:Option Zba),goneE has p l=0↔rowsE (fun s:Zba=>s) (fun s=>if uxh s=false then 4 else if has s=true then 7 else 0) p l=0
 | [],p=>by simp[goneE,rowsE]
 | s::r,p=>by
  have ih:=wyy has r (some s)
  unfold goneE rowsE
  cases hn:uxh s
  ·simp
  ·cases hb:uzp (fun s:Zba=>s) p s
   ·cases hh:has s
    ·simpa using ih
    ·simp
   ·cases hh:has s <;> simp
theorem vxg {has:Zba->Bool} {l:List Zba}:goneE has none l=0↔(∀s∈l,uxh s=true/\has s=false)/\uqy (fun s:Zba=>s) l:=by
 rw[wyy,uzs]
 refine and_congr (forall_congr' fun s=>imp_congr_right fun _=>?_) Iff.rfl
 cases uxh s <;> cases has s <;> simp
theorem vyl:∀{l:List Nat},(∀e∈l,e=0)->vx2 l=0
 | [],_=>rfl
 | x::r,h=>by
  unfold vx2
  rw[if_neg (by simpa using h x List.mem_cons_self)]
  exact vyl fun e he=>h e (List.mem_cons_of_mem _ he)
theorem vqp {x:JobD} (h:jobE x=0):uxh x.name=true:=by
 unfold jobE at h
 cases hn:uxh x.name
 ·rw[hn] at h;simp at h
 ·rfl
theorem vxl {x:NodeD} (h:nodeE x=0):uxh x.name=true:=by
 unfold nodeE at h
 cases hn:uxh x.name
 ·rw[hn] at h;simp at h
 ·rfl
theorem wq9 {s:St} (hs:Fine s) {x:uqb} (hx:x∈s.leases):uzi x=0:=by
 have h:=hs.l x hx
 unfold uzw at h
 cases h1:jobAt s.jobs x.job with
 | none=>rw[h1] at h;simp at h
 | some j =>
  cases h2:uzb s.nodes x.node with
  | none=>rw[h1,h2] at h;simp at h
  | some n =>
   rw[h1,h2] at h
   have hj:=List.mem_of_find?_eq_some h1
   have hj2:=List.find?_some h1
   have hn:=List.mem_of_find?_eq_some h2
   have hn2:=List.find?_some h2
   have e1:uxh x.job=true:=by rw[<- of_decide_eq_true hj2];exact vqp (hs.j j hj)
   have e2:uxh x.node=true:=by rw[<- of_decide_eq_true hn2];exact vxl (hs.n n hn)
   unfold uzi
   rw[e1,e2]
   simpa using h
theorem vv7 {x:uqb} (h:uzi x=0):uxh x.job=true:=by
 unfold uzi at h
 cases hn:uxh x.job
 ·rw[hn] at h;simp at h
 ·rfl
theorem vv2 {α:Type} [DecidableEq α] {key:α->Zba} {a b:List α} {s:Zba} (h:s∈uqr key a b):((setOf a b).any fun x=>decide (key x=s))=false:=by
 rw[List.any_eq_false]
 intro x hx he
 exact(uj4.1 h).2 x (uz1.1 hx).1 (of_decide_eq_true he)
theorem vqe {a b:St} (ha:uqp a=0) (hb:uqp b=0) (h:a.rev<b.rev):uxn (betw a b)=0:=by
 have fa:=(uxp a).1 ha
 have fb:=(uxp b).1 hb
 have r1:revOk (betw a b):=⟨fa.rev,h,fb.rev.2⟩
 have r2:lenOk (betw a b) :=
  ⟨⟨zrc (ukp _ _) fb.nj,zrc (ukp _ _) fb.nl,zrc (uzv _ _ _) fa.nj,zrc (uzv _ _ _) fa.nl⟩,zrc (ukp _ _) fb.nn,zrc (uzv _ _ _) fa.nn⟩
 unfold uxn
 rw[if_neg (by simpa using r1),if_neg (by simpa using r2)]
 refine vyl fun e he=>?_
 simp only[uz3,List.mem_cons,List.mem_nil_iff,or_false] at he
 rcases he with rfl | rfl | rfl | rfl | rfl | rfl
 ·exact uzs.2 ⟨fun x hx=>fb.j x (uz1.1 hx).1,uka fb.sj⟩
 ·exact uzs.2 ⟨fun x hx=>fb.n x (uz1.1 hx).1,uka fb.sn⟩
 ·exact uzs.2 ⟨fun x hx=>wq9 fb (uz1.1 hx).1,uka fb.sl⟩
 ·refine vxg.2 ⟨fun s hs=>⟨?_,vv2 hs⟩,uyw fa.sj⟩
  obtain⟨⟨x,hx,rfl⟩,_⟩:=uj4.1 hs
  exact vqp (fa.j x hx)
 ·refine vxg.2 ⟨fun s hs=>⟨?_,vv2 hs⟩,uyw fa.sn⟩
  obtain⟨⟨x,hx,rfl⟩,_⟩:=uj4.1 hs
  exact vxl (fa.n x hx)
 ·refine vxg.2 ⟨fun s hs=>⟨?_,vv2 hs⟩,uyw fa.sl⟩
  obtain⟨⟨x,hx,rfl⟩,_⟩:=uj4.1 hs
  exact vv7 (wq9 fa hx)
def chgSt (s:St) (d:uq0):St:=⟨d.upto,chgL JobD.name s.jobs d.jobs d.gj,chgL NodeD.name s.nodes d.nodes d.gn,chgL uqb.job s.leases d.leases d.gl⟩
def vxx (s:St) (d:uq0):Bool:=chgB JobD.name s.jobs d.gj&&chgB NodeD.name s.nodes d.gn&&chgB uqb.job s.leases d.gl
def ujb (s:St) (d:uq0):Nat :=
 if uqp s≠0 then uqp s else if uxn d≠0 then uxn d else if d.frm≠s.rev then 10 else if vxx s d=true then uqp (chgSt s d) else 6
def ujg (s:St) (d:uq0):St:=if ujb s d=0 then chgSt s d else⟨0,[],[],[]⟩
theorem vyc {a b:St} (ha:uqp a=0) (hb:uqp b=0) (h:a.rev<b.rev):ujb a (betw a b)=0/\ujg a (betw a b)=b:=by
 have fa:=(uxp a).1 ha
 have fb:=(uxp b).1 hb
 have hc:chgSt a (betw a b)=b:=by
  unfold chgSt betw
  simp only
  rw[wqj fa.sj (uka fb.sj) (wkw fa.sj fb.sj),wqj fa.sn (uka fb.sn) (wkw fa.sn fb.sn),wqj fa.sl (uka fb.sl) (wkw fa.sl fb.sl)]
 have hall:vxx a (betw a b)=true:=by
  unfold vxx betw
  simp only[Bool.and_eq_true]
  exact⟨⟨vzr.2 wkv,vzr.2 wkv⟩,vzr.2 wkv⟩
 have he:ujb a (betw a b)=0:=by
  unfold ujb
  rw[if_neg (by simpa using ha),if_neg (by simpa using vqe ha hb h),if_neg (by simp[betw]),if_pos hall,hc,hb]
 exact⟨he,by unfold ujg;rw[if_pos he,hc]⟩
open Go.RowKit
theorem vqq {l:uqb} (h:uzi l=0):uxh l.job=true/\uxh l.node=true/\0<=l.till/\l.till<=1099511627776:=by
 unfold uzi at h
 cases h1:uxh l.job
 ·rw[h1] at h;simp at h
 ·cases h2:uxh l.node
  ·rw[h1,h2] at h;simp at h
  ·cases h3:uxg l.till 0 1099511627776
   ·rw[h1,h2,h3] at h;simp at h
   ·exact⟨rfl,rfl,uq2.1 h3⟩
structure DelFine (d:uq0):Prop where
 lj:d.jobs.length<=40
 ln:d.nodes.length<=20
 ll:d.leases.length<=40
 gj:d.gj.length<=40
 gn:d.gn.length<=20
 gl:d.gl.length<=40
 j:(∀x∈d.jobs,jobE x=0)/\uqy JobD.name d.jobs
 n:(∀x∈d.nodes,nodeE x=0)/\uqy NodeD.name d.nodes
 l:(∀x∈d.leases,uzi x=0)/\uqy uqb.job d.leases
 hj:(∀s∈d.gj,uxh s=true/\hasJn d.jobs s=false)/\uqy (fun s:Zba=>s) d.gj
 hn:(∀s∈d.gn,uxh s=true/\hasNn d.nodes s=false)/\uqy (fun s:Zba=>s) d.gn
 hl:(∀s∈d.gl,uxh s=true/\hasLn d.leases s=false)/\uqy (fun s:Zba=>s) d.gl
theorem wk7 {d:uq0} (h:uxn d=0):DelFine d:=by
 obtain⟨_,h2,h3⟩:=vvj h
 obtain⟨⟨a1,a2,a3,a4⟩,a5,a6⟩:=h2
 simp only[uz3,List.mem_cons,List.mem_nil_iff,or_false,forall_eq_or_imp,forall_eq] at h3
 obtain⟨b1,b2,b3,b4,b5,b6⟩:=h3
 exact⟨a1,a5,a2,a3,a6,a4,uzs.1 b1,uzs.1 b2,uzs.1 b3,vxg.1 b4,vxg.1 b5,vxg.1 b6⟩
structure ReqD where
 kind:Int
 job:JobD
 node:NodeD
 lease:uqb
 name:Zba
 n:Int
 deriving DecidableEq
abbrev qv (q:ReqD):Array Value:=#[.int .i64 q.kind,.string q.job.name,.int .i64 q.job.prio,.int .i64 q.job.need,.int .i64 q.job.tries,.string q.job.tag,.string q.node.name,.int .i64 q.node.room,.string q.node.zone,.string q.lease.job,.string q.lease.node,.int .i64 q.lease.till,.string q.name,.int .i64 q.n]
def noJ:JobD:=⟨ByteArray.empty,0,0,0,ByteArray.empty⟩
def noN:NodeD:=⟨ByteArray.empty,0,ByteArray.empty⟩
def noL:uqb:=⟨ByteArray.empty,ByteArray.empty,0⟩
def uz2 (q:ReqD):ReqD :=
 if q.kind=1 then⟨1,q.job,noN,noL,ByteArray.empty,0⟩ else
 if q.kind=2 then⟨2,noJ,q.node,noL,ByteArray.empty,0⟩ else
 if q.kind=5 then⟨5,noJ,noN,q.lease,ByteArray.empty,0⟩ else
 if q.kind=3\/q.kind=4\/q.kind=6 then⟨q.kind,noJ,noN,noL,q.name,0⟩ else
 if q.kind=7 then⟨7,noJ,noN,noL,ByteArray.empty,q.n⟩ else
 ⟨q.kind,noJ,noN,noL,ByteArray.empty,0⟩
def partE (q:ReqD):Nat :=
 if q.kind=1 then jobE q.job else
 if q.kind=2 then nodeE q.node else
 if q.kind=5 then uzi q.lease else
 if q.kind=3\/q.kind=4\/q.kind=6 then(if uxh q.name=true then 0 else 4) else
 if q.kind=7 then(if uxg q.n 0 1099511627776=true then 0 else 1) else 0
def reqE (q:ReqD):Nat:=if 1<=q.kind/\q.kind<=9 then(if uz2 q=q then partE q else 4) else 1
section
variable {α:Type} (key:α->Zba)
def posL (l:List α) (s:Zba):Nat:=(l.takeWhile fun x=>ltS (key x) s).length
def hasL (l:List α) (s:Zba):Bool:=l.any fun x=>decide (key x=s)
def putL (l:List α) (x:α):List α:=if hasL key l (key x)=true then l.set (posL key l (key x)) x else l.take (posL key l (key x))++x::l.drop (posL key l (key x))
def takeL (l:List α) (s:Zba):List α:=if hasL key l s=true then l.eraseIdx (posL key l s) else l
end
structure Srv where
 st:St
 now:Int
 deriving DecidableEq
abbrev zsh (v:Srv) (p q r:Zoa) (c d e:Nat):Array Value:=#[.int .i64 v.st.rev,.slice p v.st.jobs.length c,.slice q v.st.nodes.length d,.slice r v.st.leases.length e,.int .i64 v.now]
def uwd (j:JobD):JobD:={ j with tries:=j.tries+1 }
def uja (s:St) (now:Int) (l:uqb):St×Nat :=
 match jobAt s.jobs l.job with
 | none=>(s,6)
 | some j =>
  if hasL NodeD.name s.nodes l.node=false then(s,6) else
  if hasL uqb.job s.leases l.job=true then(s,7) else
  if l.till<=now then(s,1) else
  if j.tries=100 then(s,2) else
  let t:St:={ s with jobs:=s.jobs.set (posL JobD.name s.jobs l.job) (uwd j),leases:=putL uqb.job s.leases l }
  (t,uqp t)
def doW (v:Srv) (q:ReqD):Srv×Nat :=
 if q.kind=1 then let t:St:={ v.st with jobs:=putL JobD.name v.st.jobs q.job };(⟨t,v.now⟩,uqp t) else
 if q.kind=2 then let t:St:={ v.st with nodes:=putL NodeD.name v.st.nodes q.node };(⟨t,v.now⟩,uqp t) else
 if q.kind=3 then(⟨{ v.st with jobs:=takeL JobD.name v.st.jobs q.name,leases:=v.st.leases.filter fun l => !decide (l.job=q.name) },v.now⟩,if hasL JobD.name v.st.jobs q.name=true then 0 else 6) else
 if q.kind=4 then(⟨{ v.st with nodes:=takeL NodeD.name v.st.nodes q.name,leases:=v.st.leases.filter fun l => !decide (l.node=q.name) },v.now⟩,if hasL NodeD.name v.st.nodes q.name=true then 0 else 6) else
 if q.kind=5 then let r:=uja v.st v.now q.lease;(⟨r.1,v.now⟩,r.2) else
 if q.kind=6 then(⟨{ v.st with leases:=takeL uqb.job v.st.leases q.name },v.now⟩,if hasL uqb.job v.st.leases q.name=true then 0 else 6) else
 if q.kind=7 then(if 1099511627776-v.now<q.n then(v,1) else(⟨{ v.st with leases:=v.st.leases.filter fun l => !decide (l.till<=v.now+q.n) },v.now+q.n⟩,0)) else
 (v,0)
def doN (v:Srv) (q:ReqD):Srv×Nat:=if reqE q=0 then doW v q else(v,reqE q)
def sameT (a b:St):Bool:=decide (a.jobs=b.jobs/\a.nodes=b.nodes/\a.leases=b.leases)
structure DoR where
 code:Nat
 told:Option uq0
 srv:Srv
def doR (v:Srv) (q:ReqD):DoR :=
 let r:=doN v q
 if r.2=0/\sameT v.st r.1.st=false then
  if 1099511627776<v.st.rev+1 then⟨2,none,v⟩
  else⟨0,some (betw v.st { r.1.st with rev:=v.st.rev+1 }),⟨{ r.1.st with rev:=v.st.rev+1 },r.1.now⟩⟩
 else⟨r.2,none,⟨v.st,if r.2=0 then r.1.now else v.now⟩⟩
section
variable {α:Type} {key:α->Zba}
theorem xqk (x:α) (r:List α) (s:Zba):posL key (x::r) s=if ltS (key x) s=true then posL key r s+1 else 0:=by
 unfold posL
 rw[List.takeWhile_cons]
 split <;> rfl
theorem vwf (l:List α) (s:Zba):posL key l s<=l.length:=(List.takeWhile_prefix _).length_le
theorem xv8:∀{l:List α} {s:Zba} {k:Nat},k<=l.length->(∀t x,t<k->l[t]?=some x->ltS (key x) s=true)->(∀x,l[k]?=some x->ltS (key x) s=false)->posL key l s=k
 | [],s,k,hk,_,_=>by simp at hk;subst hk;rfl
 | a::r,s,k,hk,h1,h2=>by
  rw[xqk]
  cases k with
  | zero=>rw[h2 a rfl];rfl
  | succ k =>
   rw[h1 0 a (by omega) rfl,if_pos rfl]
   rw[xv8 (by simpa using hk) (fun t x ht hx=>h1 (t+1) x (by omega) (by simpa using hx)) (fun x hx=>h2 x (by simpa using hx))]
theorem vjr {l:List α} {s:Zba}:hasL key l s=true↔∃x∈l,key x=s:=by
 unfold hasL
 rw[List.any_eq_true]
 simp
theorem vze {l:List α} {s:Zba}:hasL key l s=false↔∀x∈l,key x≠s:=by
 unfold hasL
 rw[List.any_eq_false]
 simp
theorem vqa {l:List α} (hs:uqy key l) {s:Zba} (h:hasL key l s=true):∃x,l[posL key l s]?=some x/\key x=s:=by
 obtain⟨x,hx,he⟩:=vjr.1 h
 obtain⟨t,ht,rfl⟩:=List.mem_iff_getElem.1 hx
 have:posL key l s=t:=by
  refine xv8 (by omega) (fun u y hu hy=>?_) (fun y hy=>?_)
  ·obtain⟨hl,rfl⟩:=List.getElem?_eq_some_iff.1 hy
   rw[<- he]
   exact List.pairwise_iff_getElem.1 hs u t hl ht hu
  ·rw[zrd ht] at hy
   injection hy with hy
   rw[<- hy,he]
   exact uxr _
 exact⟨l[t],by rw[this];exact zrd ht,he⟩
theorem at_has {l:List α} {s:Zba} {x:α} (hx:l[posL key l s]?=some x) (he:key x=s):hasL key l s=true:=vjr.2 ⟨x,List.mem_of_getElem? hx,he⟩
theorem wjt {l:List α} (hs:uqy key l) {k:Nat} {x y:α} (hx:l[k]?=some x) (he:key y=key x) (z:α):z∈l.set k y↔z=y\/(z∈l/\key z≠key y):=by
 obtain⟨hk,rfl⟩:=List.getElem?_eq_some_iff.1 hx
 rw[List.mem_iff_getElem?]
 constructor
 ·rintro⟨t,ht⟩
  rw[List.getElem?_set] at ht
  by_cases htk:k=t
  ·rw[if_pos htk,if_pos (by omega)] at ht
   exact .inl (by injection ht with ht;exact ht.symm)
  ·rw[if_neg htk] at ht
   refine .inr ⟨List.mem_of_getElem? ht,fun hc=>htk ?_⟩
   obtain⟨htl,rfl⟩:=List.getElem?_eq_some_iff.1 ht
   rw[he] at hc
   rcases Nat.lt_trichotomy k t with h | h | h
   ·have:=List.pairwise_iff_getElem.1 hs k t hk htl h
    rw[hc,uxr] at this;cases this
   ·exact h
   ·have:=List.pairwise_iff_getElem.1 hs t k htl hk h
    rw[hc,uxr] at this;cases this
 ·rintro(rfl | ⟨hz,hne⟩)
  ·exact⟨k,by rw[List.getElem?_set_self hk]⟩
  ·obtain⟨t,ht,rfl⟩:=List.mem_iff_getElem.1 hz
   refine⟨t,?_⟩
   have:k≠t:=by rintro rfl;exact hne he.symm
   rw[List.getElem?_set_ne this]
   exact zrd ht
theorem uzj {l:List α} (hs:uqy key l) (x z:α):z∈putL key l x↔z=x\/(z∈l/\key z≠key x):=by
 unfold putL
 cases hh:hasL key l (key x)
 ·rw[if_neg (by simp)]
  rw[List.mem_append,List.mem_cons]
  have hm:z∈l↔z∈l.take (posL key l (key x))\/z∈l.drop (posL key l (key x)):=by
   rw[<- List.mem_append,List.take_append_drop]
  constructor
  ·rintro(h | rfl | h)
   ·exact .inr ⟨hm.2 (.inl h),vze.1 hh z (hm.2 (.inl h))⟩
   ·exact .inl rfl
   ·exact .inr ⟨hm.2 (.inr h),vze.1 hh z (hm.2 (.inr h))⟩
  ·rintro(rfl | ⟨h,_⟩)
   ·exact .inr (.inl rfl)
   ·rcases hm.1 h with h | h
    ·exact .inl h
    ·exact .inr (.inr h)
 ·rw[if_pos rfl]
  obtain⟨y,hy,he⟩:=vqa hs hh
  exact wjt hs hy he.symm z
theorem uwo {l:List α} (hs:uqy key l) (s:Zba) (z:α):z∈takeL key l s↔z∈l/\key z≠s:=by
 unfold takeL
 cases hh:hasL key l s
 ·rw[if_neg (by simp)]
  exact⟨fun h=>⟨h,vze.1 hh z h⟩,fun h=>h.1⟩
 ·rw[if_pos rfl]
  obtain⟨y,hy,he⟩:=vqa hs hh
  obtain⟨hk,hyk⟩:=List.getElem?_eq_some_iff.1 hy
  rw[List.mem_eraseIdx_iff_getElem]
  constructor
  ·rintro⟨t,ht,hne,rfl⟩
   refine⟨List.getElem_mem _,fun hc=>hne ?_⟩
   rw[<- he] at hc
   rcases Nat.lt_trichotomy t (posL key l s) with h | h | h
   ·have:=List.pairwise_iff_getElem.1 hs t _ ht hk h
    rw[hyk,hc,uxr] at this;cases this
   ·exact h
   ·have:=List.pairwise_iff_getElem.1 hs _ t hk ht h
    rw[hyk,hc,uxr] at this;cases this
  ·rintro⟨hz,hne⟩
   obtain⟨t,ht,rfl⟩:=List.mem_iff_getElem.1 hz
   refine⟨t,ht,?_,rfl⟩
   rintro rfl
   exact hne (by rw[hyk];exact he)
theorem vkq {l:List α} (hs:uqy key l) (s:Zba):uqy key (takeL key l s):=by
 unfold takeL
 cases hh:hasL key l s
 ·rw[if_neg (by simp)];exact hs
 ·rw[if_pos rfl];exact List.Pairwise.sublist (List.eraseIdx_sublist _ _) hs
theorem wkf (l:List α) (s:Zba):(takeL key l s).length<=l.length:=by
 unfold takeL
 split
 ·exact List.length_eraseIdx_le _ _
 ·exact zra _
theorem wxi (l:List α) (x:α):(putL key l x).length<=l.length+1:=by
 unfold putL
 split
 ·rw[List.length_set];omega
 ·rw[zrb,List.length_cons,List.length_take,List.length_drop];omega
end
theorem vv6 {l:List JobD} (hs:uqy JobD.name l) {x:JobD} (hx:x∈l):jobAt l x.name=some x:=by
 unfold jobAt
 cases h:l.find? fun j=>decide (j.name=x.name) with
 | none=>have h':=List.find?_eq_none.1 h x hx;simp at h'
 | some y=>rw[uj2 hs (List.mem_of_find?_eq_some h) hx (by simpa using List.find?_some h)]
theorem vxj {l:List JobD} {nm:Zba} {j:JobD} (h:jobAt l nm=some j):j∈l/\j.name=nm:=by
 unfold jobAt at h
 exact⟨List.mem_of_find?_eq_some h,by simpa using List.find?_some h⟩
theorem wv9 {l:List NodeD} {nm:Zba} {j:NodeD} (h:uzb l nm=some j):j∈l/\j.name=nm:=by
 unfold uzb at h
 exact⟨List.mem_of_find?_eq_some h,by simpa using List.find?_some h⟩
theorem ukh {s:St} (h:Fine s) {l:uqb} (hl:l∈s.leases):(∃j∈s.jobs,j.name=l.job)/\(∃n∈s.nodes,n.name=l.node)/\0<=l.till/\l.till<=1099511627776:=by
 have:=h.l l hl
 unfold uzw at this
 cases h1:jobAt s.jobs l.job with
 | none=>rw[h1] at this;simp at this
 | some j =>
  cases h2:uzb s.nodes l.node with
  | none=>rw[h1,h2] at this;simp at this
  | some n =>
   rw[h1,h2] at this
   simp only[Option.isSome_some,Bool.and_self,if_true] at this
   cases h3:uxg l.till 0 1099511627776
   ·rw[h3] at this;simp at this
   ·exact⟨⟨j,vxj h1⟩,⟨n,wv9 h2⟩,uq2.1 h3⟩
theorem xvp {jobs:List JobD} {nodes:List NodeD} {l:uqb} (h1:∃j∈jobs,j.name=l.job) (h2:∃n∈nodes,n.name=l.node) (h3:0<=l.till/\l.till<=1099511627776):uzw jobs nodes l=0:=by
 unfold uzw
 have a1:(jobAt jobs l.job).isSome=true:=by
  obtain⟨j,hj,he⟩:=h1
  unfold jobAt
  rw[List.find?_isSome]
  exact⟨j,hj,decide_eq_true he⟩
 have a2:(uzb nodes l.node).isSome=true:=by
  obtain⟨j,hj,he⟩:=h2
  unfold uzb
  rw[List.find?_isSome]
  exact⟨j,hj,decide_eq_true he⟩
 rw[a1,a2,uq2.2 h3]
 rfl
theorem vwa {s:St} (h:Fine s) (nm:Zba):0<=ux0 s.jobs nm:=by
 unfold ux0
 cases hj:jobAt s.jobs nm with
 | none=>exact Int.le_refl _
 | some j=>exact(uwu.1 (h.j j (vxj hj).1)).2.2.1.1
theorem xze {s:St} (h:Fine s) {jobs:List JobD} (hs:uqy JobD.name jobs) (hm:∀x∈jobs,x∈s.jobs) (nm:Zba):ux0 jobs nm<=ux0 s.jobs nm:=by
 unfold ux0
 cases hj:jobAt jobs nm with
 | none=>exact vwa h nm
 | some j =>
  obtain⟨h1,rfl⟩:=vxj hj
  rw[vv6 h.sj (hm j h1)]
  exact Int.le_refl _
theorem wkl {jobs:List JobD} (hn:∀nm,0<=ux0 jobs nm) (nm:Zba) {a b:List uqb} (h:a.Sublist b):ux5 jobs nm a<=ux5 jobs nm b:=by
 induction h with
 | slnil=>exact Int.le_refl _
 | cons x _ ih =>
  simp only[ux5]
  have:=hn x.job
  split <;> omega
 | cons_cons x _ ih =>
  simp only[ux5]
  omega
theorem Fine.less {s t:St} (h:Fine s) (hr:t.rev=s.rev) (sj:uqy JobD.name t.jobs) (jm:∀x∈t.jobs,x∈s.jobs) (nj:t.jobs.length<=s.jobs.length) (sn:uqy NodeD.name t.nodes) (nm:∀x∈t.nodes,x∈s.nodes) (nn:t.nodes.length<=s.nodes.length)
  (ls:t.leases.Sublist s.leases) (lj:∀l∈t.leases,∃j∈t.jobs,j.name=l.job) (ln:∀l∈t.leases,∃n∈t.nodes,n.name=l.node):Fine t where
 rev:=hr ▸ h.rev
 nj:=zrc nj h.nj
 nl:=zrc ls.length_le h.nl
 nn:=zrc nn h.nn
 j:=fun x hx=>h.j x (jm x hx)
 sj:=sj
 n:=fun x hx=>h.n x (nm x hx)
 sn:=sn
 l:=fun x hx=>xvp (lj x hx) (ln x hx) (ukh h (ls.subset hx)).2.2
 sl:=h.sl.sublist ls
 room:=fun x hx=>by
  have h1:=h.room x (nm x hx)
  have h2:=vzk (xze h sj jm) x.name t.leases
  have h3:=wkl (vwa h) x.name ls
  omega
theorem Fine.at {s:St} (h:Fine s) {r:Int} (hr:0<=r/\r<=1099511627776):Fine { s with rev:=r }:=⟨hr,h.nj,h.nl,h.nn,h.j,h.sj,h.n,h.sn,h.l,h.sl,h.room⟩
def SrvOk (v:Srv):Prop:=Fine v.st/\0<=v.now/\v.now<=1099511627776
theorem uv5 {α:Type} {p:α->Bool} {l:List α} {x:α}:x∈l.filter p↔x∈l/\p x=true:=List.mem_filter
theorem vwk {q:ReqD} (h:reqE q=0):(1<=q.kind/\q.kind<=9)/\uz2 q=q/\partE q=0:=by
 unfold reqE at h
 by_cases h1:1<=q.kind/\q.kind<=9
 ·rw[if_pos h1] at h
  by_cases h2:uz2 q=q
  ·rw[if_pos h2] at h;exact⟨h1,h2,h⟩
  ·rw[if_neg h2] at h;cases h
 ·rw[if_neg h1] at h;cases h
theorem xx1 (s:St) (now:Int) (l:uqb):(uja s now l).1.rev=s.rev:=by
 unfold uja
 split
 ·rfl
 ·repeat(first | rfl | split)
theorem wjb {s:St} {now:Int} {l:uqb} (h:(uja s now l).2=0):∃j,jobAt s.jobs l.job=some j/\hasL NodeD.name s.nodes l.node=true/\hasL uqb.job s.leases l.job=false/\now<l.till/\j.tries≠100 /\
  (uja s now l).1={ s with jobs:=s.jobs.set (posL JobD.name s.jobs l.job) (uwd j),leases:=putL uqb.job s.leases l }/\uqp (uja s now l).1=0:=by
 unfold uja at h ⊢
 cases hj:jobAt s.jobs l.job with
 | none=>rw[hj] at h;cases h
 | some j =>
  rw[hj] at h
  simp only at h ⊢
  cases h1:hasL NodeD.name s.nodes l.node
  ·rw[h1] at h;simp at h
  ·cases h2:hasL uqb.job s.leases l.job
   ·rw[h1,h2] at h
    by_cases h3:l.till<=now
    ·simp[h3] at h
    ·by_cases h4:j.tries=100
     ·simp[h3,h4] at h
     ·simp only[h3,h4,if_false,Bool.true_eq_false,Bool.false_eq_true] at h ⊢
      exact⟨j,rfl,by first | rfl | trivial,by first | rfl | trivial,by omega,h4,rfl,h⟩
   ·rw[h1,h2] at h;simp at h
theorem xkn (v:Srv) (q:ReqD):(doW v q).1.st.rev=v.st.rev:=by
 unfold doW
 simp only
 repeat(first | rfl | exact xx1 _ _ _ | split)
theorem doW_ok {v:Srv} {q:ReqD} (hv:SrvOk v) (hq:reqE q=0) (h:(doW v q).2=0):SrvOk (doW v q).1/\v.now<=(doW v q).1.now:=by
 obtain⟨hf,hn⟩:=hv
 obtain⟨hk,_,hp⟩:=vwk hq
 unfold doW at h ⊢
 simp only at h ⊢
 split at h
 ·rename_i c;rw[if_pos c];exact⟨⟨(uxp _).1 h,hn⟩,Int.le_refl _⟩
 rename_i c1;rw[if_neg c1]
 split at h
 ·rename_i c;rw[if_pos c];exact⟨⟨(uxp _).1 h,hn⟩,Int.le_refl _⟩
 rename_i c2;rw[if_neg c2]
 split at h
 ·rename_i c;rw[if_pos c]
  refine⟨⟨hf.less rfl (vkq hf.sj _) (fun x hx=>((uwo hf.sj _ x).1 hx).1) (wkf _ _) hf.sn (fun x hx=>hx) (zra _) List.filter_sublist (fun l hl=>?_) (fun l hl=>(ukh hf (uv5.1 hl).1).2.1),hn⟩,Int.le_refl _⟩
  obtain⟨h1,h2⟩:=uv5.1 hl
  obtain⟨j,hj,he⟩:=(ukh hf h1).1
  exact⟨j,(uwo hf.sj _ j).2 ⟨hj,by rw[he];simpa using h2⟩,he⟩
 rename_i c3;rw[if_neg c3]
 split at h
 ·rename_i c;rw[if_pos c]
  refine⟨⟨hf.less rfl hf.sj (fun x hx=>hx) (zra _) (vkq hf.sn _) (fun x hx=>((uwo hf.sn _ x).1 hx).1) (wkf _ _) List.filter_sublist (fun l hl=>(ukh hf (uv5.1 hl).1).1) (fun l hl=>?_),hn⟩,Int.le_refl _⟩
  obtain⟨h1,h2⟩:=uv5.1 hl
  obtain⟨j,hj,he⟩:=(ukh hf h1).2.1
  exact⟨j,(uwo hf.sn _ j).2 ⟨hj,by rw[he];simpa using h2⟩,he⟩
 rename_i c4;rw[if_neg c4]
 split at h
 ·rename_i c;rw[if_pos c]
  obtain⟨j,_,_,_,_,_,_,hc⟩:=wjb h
  exact⟨⟨(uxp _).1 hc,hn⟩,Int.le_refl _⟩
 rename_i c5;rw[if_neg c5]
 split at h
 ·rename_i c;rw[if_pos c]
  have hsub:(takeL uqb.job v.st.leases q.name).Sublist v.st.leases:=by
   unfold takeL
   split
   ·exact List.eraseIdx_sublist _ _
   ·exact List.Sublist.refl _
  exact⟨⟨hf.less rfl hf.sj (fun x hx=>hx) (zra _) hf.sn (fun x hx=>hx) (zra _) hsub (fun l hl=>(ukh hf (hsub.subset hl)).1) (fun l hl=>(ukh hf (hsub.subset hl)).2.1),hn⟩,Int.le_refl _⟩
 rename_i c6;rw[if_neg c6]
 split at h
 ·rename_i c;rw[if_pos c]
  split at h
  ·cases h
  ·rename_i c';rw[if_neg c']
   unfold partE at hp
   rw[if_neg c1,if_neg c2,if_neg c5,if_neg (by omega),if_pos c] at hp
   have hw:0<=q.n/\q.n<=1099511627776:=by
    cases hw:uxg q.n 0 1099511627776
    ·rw[hw] at hp;simp at hp
    ·exact uq2.1 hw
   simp only
   exact⟨⟨hf.less rfl hf.sj (fun x hx=>hx) (zra _) hf.sn (fun x hx=>hx) (zra _) List.filter_sublist (fun l hl=>(ukh hf (uv5.1 hl).1).1) (fun l hl=>(ukh hf (uv5.1 hl).1).2.1),by show(0:Int)<=v.now+q.n;omega,by show v.now+q.n<=1099511627776;omega⟩,by show v.now<=v.now+q.n;omega⟩
 rename_i c7;rw[if_neg c7]
 exact⟨⟨hf,hn⟩,Int.le_refl _⟩
theorem doN_ok {v:Srv} {q:ReqD} (hv:SrvOk v) (h:(doN v q).2=0):reqE q=0/\doN v q=doW v q/\SrvOk (doN v q).1/\v.now<=(doN v q).1.now/\(doN v q).1.st.rev=v.st.rev:=by
 unfold doN at h ⊢
 by_cases hq:reqE q=0
 ·rw[if_pos hq] at h ⊢
  obtain⟨h1,h2⟩:=doW_ok hv hq h
  exact⟨hq,rfl,h1,h2,xkn _ _⟩
 ·rw[if_neg hq] at h;exact absurd h hq
theorem uwk {a b:St}:sameT a b=true↔a.jobs=b.jobs/\a.nodes=b.nodes/\a.leases=b.leases:=by unfold sameT;rw[decide_eq_true_iff]
theorem ujh (v:Srv) (q:ReqD) :
  ((doN v q).2=0/\sameT v.st (doN v q).1.st=false/\1099511627776<v.st.rev+1/\doR v q=⟨2,none,v⟩) \/
  ((doN v q).2=0/\sameT v.st (doN v q).1.st=false/\v.st.rev+1<=1099511627776/\doR v q=⟨0,some (betw v.st { (doN v q).1.st with rev:=v.st.rev+1 }),⟨{ (doN v q).1.st with rev:=v.st.rev+1 },(doN v q).1.now⟩⟩) \/
  ((doN v q).2=0/\sameT v.st (doN v q).1.st=true/\doR v q=⟨0,none,⟨v.st,(doN v q).1.now⟩⟩) \/
  ((doN v q).2≠0/\doR v q=⟨(doN v q).2,none,v⟩):=by
 unfold doR
 simp only
 by_cases h:(doN v q).2=0
 ·cases hs:sameT v.st (doN v q).1.st
  ·by_cases hr:1099511627776<v.st.rev+1
   ·exact .inl ⟨h,rfl,hr,by rw[if_pos ⟨h,rfl⟩,if_pos hr]⟩
   ·exact .inr (.inl ⟨h,rfl,by omega,by rw[if_pos ⟨h,rfl⟩,if_neg hr]⟩)
  ·exact .inr (.inr (.inl ⟨h,rfl,by rw[if_neg (by simp),h,if_pos rfl]⟩))
 ·exact .inr (.inr (.inr ⟨h,by rw[if_neg (by simp[h]),if_neg h]⟩))
theorem uvd {v:Srv} (hv:SrvOk v) (q:ReqD):SrvOk (doR v q).srv/\v.st.rev<=(doR v q).srv.st.rev/\(doR v q).srv.st.rev<=v.st.rev+1/\v.now<=(doR v q).srv.now:=by
 have h0:=hv.1.rev
 rcases ujh v q with⟨_,_,_,he⟩ | ⟨h1,_,h3,he⟩ | ⟨h1,h2,he⟩ | ⟨_,he⟩ <;> rw[he] <;> simp only
 ·exact⟨hv,Int.le_refl _,by omega,Int.le_refl _⟩
 ·obtain⟨_,_,⟨a,b⟩,c,d⟩:=doN_ok hv h1
  exact⟨⟨a.at ⟨by omega,h3⟩,b⟩,by omega,Int.le_refl _,c⟩
 ·obtain⟨_,_,⟨a,b⟩,c,d⟩:=doN_ok hv h1
  exact⟨⟨hv.1,b⟩,Int.le_refl _,by omega,c⟩
 ·exact⟨hv,Int.le_refl _,by omega,Int.le_refl _⟩
theorem uyr {v:Srv} {q:ReqD} (h:(doR v q).code≠0):(doR v q).told=none/\(doR v q).srv=v:=by
 rcases ujh v q with⟨_,_,_,he⟩ | ⟨h1,_,h3,he⟩ | ⟨h1,h2,he⟩ | ⟨_,he⟩ <;> rw[he] at h ⊢ <;> simp only at h ⊢ <;> simp at h ⊢
theorem wqu {v:Srv} {q:ReqD} (h:q.kind=8\/q.kind=9):doW v q=(v,0):=by
 unfold doW
 simp only
 rw[if_neg (by omega),if_neg (by omega),if_neg (by omega),if_neg (by omega),if_neg (by omega),if_neg (by omega),if_neg (by omega)]
theorem vj3 (s:St):sameT s s=true:=uwk.2 ⟨rfl,rfl,rfl⟩
theorem wyo {v:Srv} {q:ReqD} (h:q.kind=8\/q.kind=9):(doR v q).told=none/\(doR v q).srv=v:=by
 by_cases hc:(doR v q).code=0
 ·have hN:(doN v q).2=0->doN v q=(v,0):=fun h'=>by
   unfold doN at h' ⊢
   by_cases hq:reqE q=0
   ·rw[if_pos hq];exact wqu h
   ·rw[if_neg hq] at h';exact absurd h' hq
  rcases ujh v q with⟨h1,h2,_,he⟩ | ⟨h1,h2,h3,he⟩ | ⟨h1,h2,he⟩ | ⟨h1,he⟩
  ·rw[hN h1,vj3] at h2;cases h2
  ·rw[hN h1,vj3] at h2;cases h2
  ·rw[he,hN h1];exact⟨rfl,rfl⟩
  ·rw[he] at hc;exact absurd hc h1
 ·exact uyr hc
theorem uwt {v:Srv} {q:ReqD} (h:(doR v q).code=0):(doN v q).2=0/\(doR v q).srv.st.jobs=(doN v q).1.st.jobs/\(doR v q).srv.st.nodes=(doN v q).1.st.nodes/\(doR v q).srv.st.leases=(doN v q).1.st.leases/\(doR v q).srv.now=(doN v q).1.now:=by
 rcases ujh v q with⟨h1,_,_,he⟩ | ⟨h1,_,h3,he⟩ | ⟨h1,h2,he⟩ | ⟨h1,he⟩
 ·rw[he] at h;cases h
 ·rw[he];exact⟨h1,rfl,rfl,rfl,rfl⟩
 ·rw[he]
  obtain⟨a,b,c⟩:=uwk.1 h2
  exact⟨h1,a,b,c,rfl⟩
 ·rw[he] at h;exact absurd h h1
theorem vvk {v:Srv} {q:ReqD} (h:(doN v q).2=0):reqE q=0/\doN v q=doW v q:=by
 unfold doN at h ⊢
 by_cases hq:reqE q=0
 ·rw[if_pos hq];exact⟨hq,rfl⟩
 ·rw[if_neg hq] at h;exact absurd h hq
theorem vkx {v:Srv} {q:ReqD} (hv:SrvOk v) {d:uq0} (h:(doR v q).told=some d):(doR v q).code=0/\d=betw v.st (doR v q).srv.st/\v.st.rev<(doR v q).srv.st.rev:=by
 rcases ujh v q with⟨h1,_,h3,he⟩ | ⟨h1,h2,h3,he⟩ | ⟨h1,h2,he⟩ | ⟨h1,he⟩ <;> rw[he] at h ⊢
 ·cases h
 ·simp only at h ⊢
  exact⟨trivial,by injection h with h;exact h.symm,by omega⟩
 ·cases h
 ·cases h
theorem wzt {v:Srv} {q:ReqD} (h:(doR v q).told=none):(doR v q).srv.st=v.st:=by
 rcases ujh v q with⟨h1,_,h3,he⟩ | ⟨h1,h2,h3,he⟩ | ⟨h1,h2,he⟩ | ⟨h1,he⟩ <;> rw[he] at h ⊢
 cases h
def qPut (j:JobD):ReqD:=⟨1,j,noN,noL,ByteArray.empty,0⟩
def qDel (nm:Zba):ReqD:=⟨3,noJ,noN,noL,nm,0⟩
def uwi (l:uqb):ReqD:=⟨5,noJ,noN,l,ByteArray.empty,0⟩
def qFree (nm:Zba):ReqD:=⟨6,noJ,noN,noL,nm,0⟩
def qTick (n:Int):ReqD:=⟨7,noJ,noN,noL,ByteArray.empty,n⟩
section
variable {w W W':World} {g:Nat}
theorem GrB.grown {row:Option Nat} (h:GrB w g W) (hg:W.grownBy W' row) (hr:∀k,row=some k->w.heap.size<=k):GrB w g W' :=
 ⟨hg.os.trans h.os,hg.tape.trans h.tape,hg.output.trans h.output,zrc h.size hg.size,fun k hk hne=>(hg.block k (Nat.lt_of_lt_of_le hk h.size) (fun e=>by have:=hr k e.symm;omega)).trans (h.block k hk hne)⟩
theorem GrB.cell (h:GrB w g W) (i:Nat) (v:Value):GrB w g (W.setCell ⟨g,i,none⟩ v) :=
 ⟨h.os,h.tape,h.output,by simpa using h.size,fun k hk hne=>(Below.heap_setCell _ _ _ k (fun e=>hne (by rw[e]))).trans (h.block k hk hne)⟩
theorem GrB.own {base c size:Nat} {E:TypeId} {p:Zoa} {rows:List (List Value)} (h:GrB w g W) (ho:OwnR w base E size p c rows) (hb:g<base):OwnR W base E size p c rows :=
 ⟨ho.1,World.ownsRow.kept (row:=some g) ho.2 h (.inr (fun h0=>by have:=(World.ownsRow.lt ho.2 g h0).1;omega))⟩
theorem GrB.low {w0:World} (hc:Below w0.heap.size w0 w) (h:GrB w g W) (hB:w0.heap.size<=g):Below w0.heap.size w0 W:=hc.grown h hc.size (fun k e=>by cases e;exact hB)
theorem GrB.then2 {W2:World} (h:GrB w g W) (h2:GrB W g W2):GrB w g W2 :=
 ⟨h2.os.trans h.os,h2.tape.trans h.tape,h2.output.trans h.output,zrc h.size h2.size,fun k hk hne=>(h2.block k (Nat.lt_of_lt_of_le hk h.size) hne).trans (h.block k hk hne)⟩
end
open Go.ChangeShapes Go.WideShapes Go.Deep Go.Joins
def rowQ (q:ReqD):List Value:=[.int .i64 q.kind,.string q.job.name,.int .i64 q.job.prio,.int .i64 q.job.need,.int .i64 q.job.tries,.string q.job.tag,.string q.node.name,.int .i64 q.node.room,.string q.node.zone,.string q.lease.job,.string q.lease.node,.int .i64 q.lease.till,.string q.name,.int .i64 q.n]
def datQ {H:Type} (q:ReqD):DataW H:=.agg [.lit (.int .i64 q.kind),datJ q.job,datN q.node,datL q.lease,.lit (.string q.name.data.toList),.lit (.int .i64 q.n)]
def okQ (q:ReqD):Prop:=i64B q.kind/\okJ q.job/\okN q.node/\okL q.lease/\q.name.size<=9223372036854775807/\i64B q.n
section
variable {H:Type} {enc:TypeId×Value->H} {w:World} {base:Nat} {spare:Nat->Bool} {held:Bool}
theorem wzx (n:Nat) (cs:List Value) (d:DataW H) (pl:List MemPlace) (hl:cs.length=14)
  (h:DataW.trod enc prog w base spare held n 44 cs=some (d,pl)):∃x:ReqD,cs=rowQ x/\d=datQ x/\okQ x:=by
 obtain⟨ys,n',rfl,hy,hlen,hyl,hf⟩:=DataW.trod_struct underlying44 h
 simp only[Prod.mk.injEq] at hy
 have ci:prog.cellsOf 3 = 1:=by kernel_rfl
 have cs1:prog.cellsOf 9 = 1:=by kernel_rfl
 have cj:prog.cellsOf 38 = 5:=by kernel_rfl
 have cn:prog.cellsOf 40 = 3:=by kernel_rfl
 have cl:prog.cellsOf 42 = 3:=by kernel_rfl
 have hy6:ys.length=6:=hyl
 have t0:DataW.trod enc prog w base spare held n' 3 ((cs.drop 0).take (prog.cellsOf 3))=ys[0]?:=hf 0 _ rfl
 have t1:DataW.trod enc prog w base spare held n' 38 ((cs.drop 1).take (prog.cellsOf 38))=ys[1]?:=hf 1 _ rfl
 have t2:DataW.trod enc prog w base spare held n' 40 ((cs.drop 6).take (prog.cellsOf 40))=ys[2]?:=hf 2 _ rfl
 have t3:DataW.trod enc prog w base spare held n' 42 ((cs.drop 9).take (prog.cellsOf 42))=ys[3]?:=hf 3 _ rfl
 have t4:DataW.trod enc prog w base spare held n' 9 ((cs.drop 12).take (prog.cellsOf 9))=ys[4]?:=hf 4 _ rfl
 have t5:DataW.trod enc prog w base spare held n' 3 ((cs.drop 13).take (prog.cellsOf 3))=ys[5]?:=hf 5 _ rfl
 rw[ci] at t0 t5
 rw[cs1] at t4
 rw[cj] at t1
 rw[cn] at t2
 rw[cl] at t3
 obtain⟨c0,c1,c2,c3,c4,c5,c6,c7,c8,c9,c10,c11,c12,c13,rfl⟩:∃c0 c1 c2 c3 c4 c5 c6 c7 c8 c9 c10 c11 c12 c13,cs=[c0,c1,c2,c3,c4,c5,c6,c7,c8,c9,c10,c11,c12,c13]:=by
  match cs,hl with
  | [c0,c1,c2,c3,c4,c5,c6,c7,c8,c9,c10,c11,c12,c13],_=>exact⟨c0,c1,c2,c3,c4,c5,c6,c7,c8,c9,c10,c11,c12,c13,rfl⟩
 obtain⟨y0,y1,y2,y3,y4,y5,rfl⟩:∃y0 y1 y2 y3 y4 y5,ys=[y0,y1,y2,y3,y4,y5]:=by
  match ys,hy6 with
  | [y0,y1,y2,y3,y4,y5],_=>exact⟨y0,y1,y2,y3,y4,y5,rfl⟩
 have t0:DataW.trod enc prog w base spare held n' 3 [c0]=some (y0.1,y0.2):=t0
 have t1:DataW.trod enc prog w base spare held n' 38 [c1,c2,c3,c4,c5]=some (y1.1,y1.2):=t1
 have t2:DataW.trod enc prog w base spare held n' 40 [c6,c7,c8]=some (y2.1,y2.2):=t2
 have t3:DataW.trod enc prog w base spare held n' 42 [c9,c10,c11]=some (y3.1,y3.2):=t3
 have t4:DataW.trod enc prog w base spare held n' 9 [c12]=some (y4.1,y4.2):=t4
 have t5:DataW.trod enc prog w base spare held n' 3 [c13]=some (y5.1,y5.2):=t5
 obtain⟨k,e0,f0,w0⟩:=DataW.trod_int underlying3 t0
 obtain⟨j,e1,f1,w1⟩:=xko n' _ _ _ rfl t1
 obtain⟨nd,e2,f2,w2⟩:=elem_N n' _ _ _ rfl t2
 obtain⟨le,e3,f3,w3⟩:=xkp n' _ _ _ rfl t3
 obtain⟨nm,e4,f4,w4⟩:=DataW.trod_string underlying9 t4
 obtain⟨m,e5,f5,w5⟩:=DataW.trod_int underlying3 t5
 have b0:=bounds_i64 w0
 have b5:=bounds_i64 w5
 unfold maxLen at w4
 simp only[Prod.mk.injEq] at f0 f4 f5
 refine⟨⟨k,j,nd,le,nm,m⟩,?_,?_,⟨b0.1,b0.2⟩,w1,w2,w3,w4,b5.1,b5.2⟩
 ·simp only[rowJ,rowN,rowL,List.cons.injEq,and_true] at e0 e1 e2 e3 e4 e5
  obtain⟨rfl,rfl,rfl,rfl,rfl⟩:=e1
  obtain⟨rfl,rfl,rfl⟩:=e2
  obtain⟨rfl,rfl,rfl⟩:=e3
  subst e0 e4 e5
  rfl
 ·rw[hy.1]
  simp only[List.map_cons,List.map_nil,f0.1,f1,f2,f3,f4.1,f5.1]
  rfl
theorem open_reqs {v:Value} {d:DataW H} {ps:List MemPlace} {r:Reach} {b0:Nat} (hv:Value.okWide prog w r b0 27 v) (h:DataW.Trod enc prog w base spare held 27 v d ps) :
  ∃(p:Zoa) (c:Nat) (l:List ReqD),v=.slice p l.length c/\Elts w w.heap.size 14 p (l.map rowQ)/\(∀x∈l,okQ x)/\l.length<=9223372036854775807:=by
 obtain⟨p,c,l,rfl,hlc,hcm,hel,hok,hd⟩:=vqv rowQ datQ okQ 14 underlying27 (by kernel_rfl) (by decide) hv h (fun n cs d pl=>wzx n cs d pl)
 refine⟨p,c,l,rfl,hel,hok,?_⟩
 unfold maxLen at hcm
 omega
end
end Go.Proofs.YtknmnhleicakhaaGreatDoor
