/- Lemmas.
-/
import Derived.Test.YtnnfgchhkekkeacGreatDoorPvDelC
set_option linter.all false
set_option maxHeartbeats 16000000
set_option maxRecDepth 100000
namespace Go.Proofs.YtnnfgchhkekkeacGreatDoor
open Go.Proofs.Tryz
section
variable {α:Type} {key:α->Zba}
theorem uji:∀{l:List α},uq1 key l->∀{x y:α},x∈l->y∈l->key x=key y->x=y
 | [],_,x,y,hx,_,_=>by cases hx
 | z::r,h,x,y,hx,hy,he=>by
  obtain⟨h1,h2⟩:=List.pairwise_cons.1 h
  rcases List.mem_cons.1 hx with e1 | hx1
  ·rcases List.mem_cons.1 hy with e2 | hy1
   ·rw[e1,e2]
   ·have:=h1 y hy1;rw[<- e1,he,uxu] at this;cases this
  ·rcases List.mem_cons.1 hy with e2 | hy1
   ·have:=h1 x hx1;rw[<- e2,he,uxu] at this;cases this
   ·exact uji h2 hx1 hy1 he
def IsChg (key:α->Zba) (rows set:List α) (gone:List Zba) (r:List α):Prop :=
 uq1 key r/\∀x,x∈r↔(x∈set\/(x∈rows/\key x∉gone/\∀y∈set,key y≠key x))
def AllIn (key:α->Zba) (rows:List α) (gone:List Zba):Prop:=∀s∈gone,∃x∈rows,key x=s
def chgB (key:α->Zba) (rows:List α) (gone:List Zba):Bool:=gone.all fun s=>rows.any fun x=>decide (key x=s)
def chgL (key:α->Zba) (rows set:List α) (gone:List Zba):List α :=
 ((rows.filter fun x => !(gone.any fun s=>decide (s=key x)) && !(set.any fun y=>decide (key y=key x)))++set).mergeSort fun x y => !ltS (key y) (key x)
theorem ujn [DecidableEq α] {a b:List α} (h:uq1 key b):uq1 key (setOf a b):=List.Pairwise.sublist List.filter_sublist h
theorem uwb {a b:List α} (h:uq1 key a):uq1 (fun s:Zba=>s) (uqq key a b):=by
 unfold uqq uq1
 rw[List.pairwise_map]
 exact List.Pairwise.sublist List.filter_sublist h
end
theorem wjm (has:Zba->Bool):∀(l:List Zba) (p:Option Zba),goneE has p l=0↔rowsE (fun s:Zba=>s) (fun s=>if uq9 s=false then 4 else if has s=true then 7 else 0) p l=0
 | [],p=>by simp[goneE,rowsE]
 | s::r,p=>by
  have ih:=wjm has r (some s)
  unfold goneE rowsE
  cases hn:uq9 s
  ·simp
  ·cases hb:ux9 (fun s:Zba=>s) p s
   ·cases hh:has s
    ·simpa using ih
    ·simp
   ·cases hh:has s <;> simp
theorem uyb {has:Zba->Bool} {l:List Zba}:goneE has none l=0↔(∀s∈l,uq9 s=true/\has s=false)/\uq1 (fun s:Zba=>s) l:=by
 rw[wjm,uzd]
 refine and_congr (forall_congr' fun s=>imp_congr_right fun _=>?_) Iff.rfl
 cases uq9 s <;> cases has s <;> simp
theorem vkl:∀{l:List Nat},(∀e∈l,e=0)->uyv l=0
 | [],_=>rfl
 | x::r,h=>by
  unfold uyv
  rw[if_neg (by simpa using h x List.mem_cons_self)]
  exact vkl fun e he=>h e (List.mem_cons_of_mem _ he)
theorem vz4 {x:JobD} (h:jobE x=0):uq9 x.name=true:=by
 unfold jobE at h
 cases hn:uq9 x.name
 ·rw[hn] at h;simp at h
 ·rfl
theorem vkr {x:NodeD} (h:nodeE x=0):uq9 x.name=true:=by
 unfold nodeE at h
 cases hn:uq9 x.name
 ·rw[hn] at h;simp at h
 ·rfl
theorem wjs {s:St} (hs:Fine s) {x:uqc} (hx:x∈s.leases):ux0 x=0:=by
 have h:=hs.l x hx
 unfold ux5 at h
 cases h1:jobAt s.jobs x.job with
 | none=>rw[h1] at h;simp at h
 | some j =>
  cases h2:uxq s.nodes x.node with
  | none=>rw[h1,h2] at h;simp at h
  | some n =>
   rw[h1,h2] at h
   have hj:=List.mem_of_find?_eq_some h1
   have hj2:=List.find?_some h1
   have hn:=List.mem_of_find?_eq_some h2
   have hn2:=List.find?_some h2
   have e1:uq9 x.job=true:=by rw[<- of_decide_eq_true hj2];exact vz4 (hs.j j hj)
   have e2:uq9 x.node=true:=by rw[<- of_decide_eq_true hn2];exact vkr (hs.n n hn)
   unfold ux0
   rw[e1,e2]
   simpa using h
theorem vz8 {x:uqc} (h:ux0 x=0):uq9 x.job=true:=by
 unfold ux0 at h
 cases hn:uq9 x.job
 ·rw[hn] at h;simp at h
 ·rfl
theorem vzz {α:Type} [DecidableEq α] {key:α->Zba} {a b:List α} {s:Zba} (h:s∈uqq key a b):((setOf a b).any fun x=>decide (key x=s))=false:=by
 rw[List.any_eq_false]
 intro x hx he
 exact(ujk.1 h).2 x (ujw.1 hx).1 (of_decide_eq_true he)
theorem ww5 {a b:St} (ha:uqr a=0) (hb:uqr b=0) (h:a.rev<b.rev):uzm (betw a b)=0:=by
 have fa:=(uxk a).1 ha
 have fb:=(uxk b).1 hb
 have r1:revOk (betw a b):=⟨fa.rev,h,fb.rev.2⟩
 have r2:lenOk (betw a b) :=
  ⟨⟨zrc (ujv _ _) fb.nj,zrc (ujv _ _) fb.nl,zrc (ukw _ _ _) fa.nj,zrc (ukw _ _ _) fa.nl⟩,zrc (ujv _ _) fb.nn,zrc (ukw _ _ _) fa.nn⟩
 unfold uzm
 rw[if_neg (by simpa using r1),if_neg (by simpa using r2)]
 refine vkl fun e he=>?_
 simp only[uzi,List.mem_cons,List.mem_nil_iff,or_false] at he
 rcases he with rfl | rfl | rfl | rfl | rfl | rfl
 ·exact uzd.2 ⟨fun x hx=>fb.j x (ujw.1 hx).1,ujn fb.sj⟩
 ·exact uzd.2 ⟨fun x hx=>fb.n x (ujw.1 hx).1,ujn fb.sn⟩
 ·exact uzd.2 ⟨fun x hx=>wjs fb (ujw.1 hx).1,ujn fb.sl⟩
 ·refine uyb.2 ⟨fun s hs=>⟨?_,vzz hs⟩,uwb fa.sj⟩
  obtain⟨⟨x,hx,rfl⟩,_⟩:=ujk.1 hs
  exact vz4 (fa.j x hx)
 ·refine uyb.2 ⟨fun s hs=>⟨?_,vzz hs⟩,uwb fa.sn⟩
  obtain⟨⟨x,hx,rfl⟩,_⟩:=ujk.1 hs
  exact vkr (fa.n x hx)
 ·refine uyb.2 ⟨fun s hs=>⟨?_,vzz hs⟩,uwb fa.sl⟩
  obtain⟨⟨x,hx,rfl⟩,_⟩:=ujk.1 hs
  exact vz8 (wjs fa hx)
def chgSt (s:St) (d:uxa):St:=⟨d.upto,chgL JobD.name s.jobs d.jobs d.gj,chgL NodeD.name s.nodes d.nodes d.gn,chgL uqc.job s.leases d.leases d.gl⟩
def ww9 (s:St) (d:uxa):Bool:=chgB JobD.name s.jobs d.gj&&chgB NodeD.name s.nodes d.gn&&chgB uqc.job s.leases d.gl
def wz6 (s:St) (d:uxa):Nat :=
 if uqr s≠0 then uqr s else if uzm d≠0 then uzm d else if d.frm≠s.rev then 10 else if ww9 s d=true then uqr (chgSt s d) else 6
def applyS (s:St) (d:uxa):St:=if wz6 s d=0 then chgSt s d else⟨0,[],[],[]⟩
open Go.RowKit
theorem vy2 {l:uqc} (h:ux0 l=0):uq9 l.job=true/\uq9 l.node=true/\0<=l.till/\l.till<=1099511627776:=by
 unfold ux0 at h
 cases h1:uq9 l.job
 ·rw[h1] at h;simp at h
 ·cases h2:uq9 l.node
  ·rw[h1,h2] at h;simp at h
  ·cases h3:uq5 l.till 0 1099511627776
   ·rw[h1,h2,h3] at h;simp at h
   ·exact⟨rfl,rfl,uqs.1 h3⟩
structure DelFine (d:uxa):Prop where
 lj:d.jobs.length<=40
 ln:d.nodes.length<=20
 ll:d.leases.length<=40
 gj:d.gj.length<=40
 gn:d.gn.length<=20
 gl:d.gl.length<=40
 j:(∀x∈d.jobs,jobE x=0)/\uq1 JobD.name d.jobs
 n:(∀x∈d.nodes,nodeE x=0)/\uq1 NodeD.name d.nodes
 l:(∀x∈d.leases,ux0 x=0)/\uq1 uqc.job d.leases
 hj:(∀s∈d.gj,uq9 s=true/\hasJn d.jobs s=false)/\uq1 (fun s:Zba=>s) d.gj
 hn:(∀s∈d.gn,uq9 s=true/\hasNn d.nodes s=false)/\uq1 (fun s:Zba=>s) d.gn
 hl:(∀s∈d.gl,uq9 s=true/\hasLn d.leases s=false)/\uq1 (fun s:Zba=>s) d.gl
theorem delFine {d:uxa} (h:uzm d=0):DelFine d:=by
 obtain⟨_,h2,h3⟩:=vzn h
 obtain⟨⟨a1,a2,a3,a4⟩,a5,a6⟩:=h2
 simp only[uzi,List.mem_cons,List.mem_nil_iff,or_false,forall_eq_or_imp,forall_eq] at h3
 obtain⟨b1,b2,b3,b4,b5,b6⟩:=h3
 exact⟨a1,a5,a2,a3,a6,a4,uzd.1 b1,uzd.1 b2,uzd.1 b3,uyb.1 b4,uyb.1 b5,uyb.1 b6⟩
end Go.Proofs.YtnnfgchhkekkeacGreatDoor
