/- Lemmas.
-/
import Derived.Test.YtknmnhleicakhaaGreatDoorPtOwn
import Derived.Deep.Onto
set_option linter.all false
set_option maxHeartbeats 16000000
set_option maxRecDepth 100000
namespace Go.Proofs.YtknmnhleicakhaaGreatDoor
open Go.Proofs.Tryz
structure uq0 where
 frm:Int
 upto:Int
 jobs:List JobD
 nodes:List NodeD
 leases:List uqb
 gj:List Zba
 gn:List Zba
 gl:List Zba
 deriving DecidableEq
abbrev dv (d:uq0) (a b c e f g:Zoa) (i j k l m n:Nat):Array Value:=#[.int .i64 d.frm,.int .i64 d.upto,.slice a d.jobs.length i,.slice b d.nodes.length j,.slice c d.leases.length k,.slice e d.gj.length l,.slice f d.gn.length m,.slice g d.gl.length n]
def setOf {α:Type} [DecidableEq α] (a b:List α):List α:=b.filter fun x => !(a.any fun y=>decide (x=y))
def uqr {α:Type} (key:α->Zba) (a b:List α):List Zba:=(a.filter fun x => !(b.any fun y=>decide (key y=key x))).map key
def betw (a b:St):uq0 :=
 ⟨a.rev,b.rev,setOf a.jobs b.jobs,setOf a.nodes b.nodes,setOf a.leases b.leases,uqr JobD.name a.jobs b.jobs,uqr NodeD.name a.nodes b.nodes,uqr uqb.job a.leases b.leases⟩
def noD:uq0:=⟨0,0,[],[],[],[],[],[]⟩
def diffE (a b:St):Nat:=if uqp a≠0 then uqp a else if uqp b≠0 then uqp b else if b.rev<=a.rev then 1 else 0
abbrev zsg (a s:St):uq0:=betw a { s with rev:=a.rev+1 }
def diffD (a b:St):uq0:=if diffE a b=0 then betw a b else noD
section
variable {α:Type} [DecidableEq α]
theorem vj6 (a b:List α) (k:Nat) (x:α) (h:b[k]?=some x):setOf a (b.take (k+1))=setOf a (b.take k)++(if(a.any fun y=>decide (x=y))=true then[] else[x]):=by
 unfold setOf
 rw[List.take_add_one,h,Option.toList_some,List.filter_append,List.filter_cons,List.filter_nil]
 cases(a.any fun y=>decide (x=y)) <;> rfl
omit [DecidableEq α] in
theorem vzd (key:α->Zba) (a b:List α) (k:Nat) (x:α) (h:a[k]?=some x):uqr key (a.take (k+1)) b=uqr key (a.take k) b++(if(b.any fun y=>decide (key y=key x))=true then[] else[key x]):=by
 unfold uqr
 rw[List.take_add_one,h,Option.toList_some,List.filter_append,List.filter_cons,List.filter_nil,List.map_append]
 cases(b.any fun y=>decide (key y=key x)) <;> rfl
theorem ukp (a b:List α):(setOf a b).length<=b.length:=List.length_filter_le _ _
omit [DecidableEq α] in
theorem uzv (key:α->Zba) (a b:List α):(uqr key a b).length<=a.length:=by
 unfold uqr;rw[zre];exact List.length_filter_le _ _
theorem uz1 {a b:List α} {x:α}:x∈setOf a b↔x∈b/\x∉a:=by
 unfold setOf
 rw[List.mem_filter,Bool.not_eq_true',List.any_eq_false]
 constructor
 ·rintro⟨h1,h2⟩
  exact⟨h1,fun h=>h2 x h (decide_eq_true rfl)⟩
 ·rintro⟨h1,h2⟩
  exact⟨h1,fun y hy he=>h2 (of_decide_eq_true he ▸ hy)⟩
omit [DecidableEq α] in
theorem uj4 {key:α->Zba} {a b:List α} {s:Zba}:s∈uqr key a b↔(∃x∈a,key x=s)/\∀y∈b,key y≠s:=by
 unfold uqr
 rw[List.mem_map]
 constructor
 ·rintro⟨x,hx,rfl⟩
  rw[List.mem_filter,Bool.not_eq_true',List.any_eq_false] at hx
  exact⟨⟨x,hx.1,rfl⟩,fun y hy he=>hx.2 y hy (decide_eq_true he)⟩
 ·rintro⟨⟨x,hx,rfl⟩,h⟩
  refine⟨x,?_,rfl⟩
  rw[List.mem_filter,Bool.not_eq_true',List.any_eq_false]
  exact⟨hx,fun y hy he=>h y hy (of_decide_eq_true he)⟩
theorem vqu:∀(l m:List α),l.Pairwise (· ≠ ·)->(∀x∈l,x∈m)->l.length<=m.length
 | [],m,_,_=>Nat.zero_le _
 | x::r,m,h,hs=>by
  obtain⟨h1,h2⟩:=List.pairwise_cons.1 h
  have hx:x∈m:=hs x List.mem_cons_self
  have hr:=vqu r (m.erase x) h2 (fun y hy=>(List.mem_erase_of_ne (fun e=>h1 y hy e.symm)).2 (hs y (List.mem_cons_of_mem _ hy)))
  rw[List.length_erase_of_mem hx] at hr
  have:=List.length_pos_of_mem hx
  rw[List.length_cons]
  omega
end
def uzi (l:uqb):Nat:=if uxh l.job&&uxh l.node then(if uxg l.till 0 1099511627776 then 0 else 1) else 4
def goneE (has:Zba->Bool):Option Zba->List Zba->Nat
 | _,[]=>0
 | p,s::r=>if uxh s=false then 4 else if uzp (fun s:Zba=>s) p s=true then 8 else if has s=true then 7 else goneE has (some s) r
theorem vjp (has:Zba->Bool) (p:Option Zba) (s:Zba) (r:List Zba):goneE has p (s::r)=if uxh s=false then 4 else if uzp (fun s:Zba=>s) p s=true then 8 else if has s=true then 7 else goneE has (some s) r:=rfl
def vx2:List Nat->Nat
 | []=>0
 | e::r=>if e≠0 then e else vx2 r
def hasJn (l:List JobD) (s:Zba):Bool:=l.any fun x=>decide (x.name=s)
def hasNn (l:List NodeD) (s:Zba):Bool:=l.any fun x=>decide (x.name=s)
def hasLn (l:List uqb) (s:Zba):Bool:=l.any fun x=>decide (x.job=s)
def uz3 (d:uq0):List Nat :=
 [rowsE JobD.name jobE none d.jobs,rowsE NodeD.name nodeE none d.nodes,rowsE uqb.job uzi none d.leases,goneE (hasJn d.jobs) none d.gj,goneE (hasNn d.nodes) none d.gn,goneE (hasLn d.leases) none d.gl]
def revOk (d:uq0):Prop:=(0<=d.frm/\d.frm<=1099511627776)/\d.frm+1<=d.upto/\d.upto<=1099511627776
def lenOk (d:uq0):Prop:=(d.jobs.length<=40/\d.leases.length<=40/\d.gj.length<=40/\d.gl.length<=40)/\d.nodes.length<=20/\d.gn.length<=20
instance (d:uq0):Decidable (revOk d):=by unfold revOk;infer_instance
instance (d:uq0):Decidable (lenOk d):=by unfold lenOk;infer_instance
def uxn (d:uq0):Nat:=if ¬revOk d then 1 else if ¬lenOk d then 2 else vx2 (uz3 d)
theorem vvr:∀{l:List Nat},vx2 l=0->∀e∈l,e=0
 | [],_,e,h=>by cases h
 | x::r,h,e,he=>by
  unfold vx2 at h
  by_cases hx:x≠0
  ·rw[if_pos hx] at h;exact absurd h hx
  ·rw[if_neg hx] at h
   rcases List.mem_cons.1 he with rfl | he
   ·omega
   ·exact vvr h e he
theorem uyv {has:Zba->Bool}:∀{l:List Zba} {p:Option Zba},goneE has p l=0->∀s∈l,uxh s=true
 | [],_,_,s,h=>by cases h
 | x::r,p,h,s,hs=>by
  unfold goneE at h
  split at h
  ·cases h
  rename_i h1
  split at h
  ·cases h
  split at h
  ·cases h
  rcases List.mem_cons.1 hs with rfl | hs
  ·cases hn:uxh s
   ·exact absurd hn h1
   ·rfl
  ·exact uyv h s hs
theorem vvj {d:uq0} (h:uxn d=0):revOk d/\lenOk d/\∀e∈uz3 d,e=0:=by
 unfold uxn at h
 by_cases h1:revOk d
 ·rw[if_neg (by simpa using h1)] at h
  by_cases h2:lenOk d
  ·rw[if_neg (by simpa using h2)] at h
   exact⟨h1,h2,vvr h⟩
  ·rw[if_pos h2] at h;cases h
 ·rw[if_pos h1] at h;cases h
open Go.RowKit
section
variable {P:Program} {ops:Array Oper} {C:World->Prop} {Q:Act->Prop} {o:Oper} {rest:List Oper} {a:Act}
theorem uk0 (hw:Region.wanted o (yielded ops a.tmps)=true) (t rt:TypeId) (x y:Operand) (ho:o.op=.binOp .eql t x y rt) (xs ys:Array Value) (b:Bool) (hx:a.eval x=.agg xs) (hy:a.eval y=.agg ys)
  (hm:P.eqGuardType P.depth t=false) (heq:∀w,(Op.equalIn 10000 t (.agg xs) (.agg ys)).run P w=.ok b w) (h:wpQuiet P ops C Q rest (a.put o.dst (.bool b))):wpQuiet P ops C Q (o::rest) a:=by
 refine uxs (v:=.bool b) hw (fun w _=>?_) h
 unfold Oper.quietAt execOp
 simp only[ho,hx,hy,Sem.run_bind,run_eqGuard_agg w .eql t x y xs ys hm,Result.andThen_ok,run_eql_struct,heq,Sem.run_pure]
 exact⟨rfl,rfl⟩
end
theorem oIxEJ1 {p:Prop} (h:p:=by first | omega | (simp only[Z2,Z11] at *;omega)):p:=h
theorem sIxEJ1 {p:Prop} (h:p:=by
 have hb0:=zsa w (.cells (Z1 x) Z2)
 have bx:=Blk.new w Z2 (Z1 x)
 go_enter Z3,Z4
 go_wp2_with fail
 go_loopw [8] (fun i wr=>∃k:Nat,k<=l.length/\i=.int .i64 k/\Below w.heap.size w wr/\Blk wr w.heap.size Z2 (Z1 x)/\Hid (pIx (fun y=>decide (x=y)) l 0=pIx (fun y=>decide (x=y)) (l.drop k) k)) (fun i _=>l.length-(intOf i).toNat)
 case atStart=>exact⟨0,Nat.zero_le _,rfl,hb0,bx,(show _=_ from rfl)⟩
 case round =>
  obtain⟨k,hk,rfl,hbr,bxr,HR⟩:=hrel
  clear bx hb0
  by_cases hlt:k<l.length
  ·have hx:l[k]?=some l[k]:=zrd hlt
   have hdr:=vx1 l k _ hx
   generalize l[k]=y at *
   obtain⟨a,rfl,hab,_,hat⟩:=(hel.below hbr).at_ (k:=k) (r:=Z5 y) (by rw[zrg,hx];rfl)
   have hbx:=At.blk bxr
   have HR0:=HR.out
   rw[hdr,uk7] at HR0
   have hk0:(0:Int)<=(k:Int):=by exact oIxEJ1
   have hk1:(k:Int)<(l.length:Int):=by exact oIxEJ1
   by_cases hxy:x=y
   ·have HQ:=zrj (fun W=>(Z6 x y W).trans (by rw[decide_eq_true hxy]))
    rw[if_pos (decide_eq_true hxy)] at HR0
    have HR1:=zrj HR0
    clear HR0 HR hdr hx hxy
    go_wp2_with fail
    refine wp_region_quiet_lit (by kernel_rfl) (by kernel_rfl) ?_
    repeat(first
     | (refine uk0 rfl _ _ _ _ rfl (Z1 x) (Z1 y) true rfl rfl Z7 HQ.out ?_;simp only[Act.put,ma,mb,mc])
     | (refine uqq rfl _ _ rfl ⟨w.heap.size,0,none⟩ rfl (Z8 x) _ ?_ Z9 rfl Z10 ?_;(focus (rintro w5 ⟨n5,rfl⟩;exact hbx.drewN n5));simp only[Act.put,ma,mb,mc])
     | (refine uqq rfl _ _ rfl (a.add (k*Z11)) rfl (Z8 y) _ ?_ Z9 rfl Z10 ?_;(focus (rintro w5 ⟨n5,rfl⟩;exact hat.drewN n5));simp only[Act.put,ma,mb,mc])
     | go_big_quiet_step (fail))
    refine wpQuiet_nil ?_
    intro _ hw'
    obtain⟨nq,hw''⟩:=hw'
    subst hw''
    go_wp2_with fail
    go_ret
    exact⟨by rw[HR1.out];rfl,uqn hbr nq⟩
   ·have HQ:=zrj (fun W=>(Z6 x y W).trans (by rw[decide_eq_false hxy]))
    rw[if_neg (by simpa using hxy)] at HR0
    have HR1:=zrj HR0
    clear HR0 HR hdr hx hxy
    go_wp2_with fail
    refine wp_region_quiet_lit (by kernel_rfl) (by kernel_rfl) ?_
    repeat(first
     | (refine uk0 rfl _ _ _ _ rfl (Z1 x) (Z1 y) false rfl rfl Z7 HQ.out ?_;simp only[Act.put,ma,mb,mc])
     | (refine uqq rfl _ _ rfl ⟨w.heap.size,0,none⟩ rfl (Z8 x) _ ?_ Z9 rfl Z10 ?_;(focus (rintro w5 ⟨n5,rfl⟩;exact hbx.drewN n5));simp only[Act.put,ma,mb,mc])
     | (refine uqq rfl _ _ rfl (a.add (k*Z11)) rfl (Z8 y) _ ?_ Z9 rfl Z10 ?_;(focus (rintro w5 ⟨n5,rfl⟩;exact hat.drewN n5));simp only[Act.put,ma,mb,mc])
     | go_big_quiet_step (fail))
    refine wpQuiet_nil ?_
    intro _ hw'
    obtain⟨nq,hw''⟩:=hw'
    subst hw''
    go_wp2_with fail
    go_roundw
    case rel=>exact⟨k+1,by exact oIxEJ1,by go_num,uqn hbr nq,bxr.below (uqn (zri _ _) nq) bxr.lt,HR1.out⟩
    case measure=>simp[intOf];exact oIxEJ1
  ·obtain rfl:k=l.length:=by exact oIxEJ1
   have HR0:=HR.out
   rw[List.drop_length] at HR0
   have HR1:=zrj HR0
   clear HR0 HR
   go_wp2_with fail
   go_ret
   exact⟨by rw[HR1.out];rfl,hbr⟩):p:=h
theorem sIxEJ2 {p:Prop} (h:p:=by
 have hb0:=zsa w (.cells (Z1 x) Z2)
 have hc:=Z12 x p c l _ ((hel.below hb0).more hb0.size) hl
 have ha:=vzf (fun y=>decide (x=y)) l 0
 have hbd:=vwd (fun y=>decide (x=y)) l 0
 generalize pIx (fun y=>decide (x=y)) l 0=n at *
 have HC:=zrj hc
 have HA:=zrj ha
 clear hc ha hel
 go_enter Z13,Z14
 go_wp2_with fail
 refine HC.out.mono ?_
 rintro e w1 ⟨rfl,hb1⟩
 have hB:=bthen hb0 hb1
 go_wp2_with fail
 go_ret
 exact⟨by rw[<- HA.out];rfl,hB⟩):p:=h
@[simp] abbrev cIxEJ0J:Nat:=38
@[simp] abbrev cIxEJ0N:Nat:=40
@[simp] abbrev cIxEJ0L:Nat:=42
@[simp] abbrev cIxEJ1J:Nat:=5
@[simp] abbrev cIxEJ1N:Nat:=3
@[simp] abbrev cIxEJ1L:Nat:=3
section
open Go.RowKit
open YtknmnhleicakhaaGreatDoor renaming rwJ -> Z1, cIxEJ0J -> Z2, rowJ -> Z5, eqInJ -> Z6, vxb -> Z7, rlJ -> Z8, uqo -> Z10, cIxEJ1J -> Z11
open Go.Proofs.Tryz renaming func196 -> Z3, ntmps196 -> Z4, underlying38 -> Z9
theorem xx5 (x:JobD) (p:Zoa) (c:Nat) (l:List JobD) (w:World) (hel:Elts w w.heap.size 5 p (l.map rowJ)) (hl:l.length<=4611686018427387904) :
  Calls prog 196 #[.slice p l.length c,.agg (rwJ x)] w fun e w'=>e=.returned (.int .i64 (pIx (fun y=>decide (x=y)) l 0))/\Below w.heap.size w w':=sIxEJ1
open YtknmnhleicakhaaGreatDoor renaming xx5 -> Z12
open Go.Proofs.Tryz renaming func159 -> Z13, ntmps159 -> Z14
theorem wqp (x:JobD) (p:Zoa) (c:Nat) (l:List JobD) (w:World) (hel:Elts w w.heap.size 5 p (l.map rowJ)) (hl:l.length<=4611686018427387904) :
  Calls prog 159 #[.slice p l.length c,.agg (rwJ x)] w fun e w'=>e=.returned (.bool (l.any fun y=>decide (x=y)))/\Below w.heap.size w w':=sIxEJ2
end
section
open Go.RowKit
open YtknmnhleicakhaaGreatDoor renaming rwN -> Z1, cIxEJ0N -> Z2, rowN -> Z5, eqInN -> Z6, vxd -> Z7, rlN -> Z8, uqk -> Z10, cIxEJ1N -> Z11
open Go.Proofs.Tryz renaming func198 -> Z3, ntmps198 -> Z4, underlying40 -> Z9
theorem xx7 (x:NodeD) (p:Zoa) (c:Nat) (l:List NodeD) (w:World) (hel:Elts w w.heap.size 3 p (l.map rowN)) (hl:l.length<=4611686018427387904) :
  Calls prog 198 #[.slice p l.length c,.agg (rwN x)] w fun e w'=>e=.returned (.int .i64 (pIx (fun y=>decide (x=y)) l 0))/\Below w.heap.size w w':=sIxEJ1
open YtknmnhleicakhaaGreatDoor renaming xx7 -> Z12
open Go.Proofs.Tryz renaming func162 -> Z13, ntmps162 -> Z14
theorem wqr (x:NodeD) (p:Zoa) (c:Nat) (l:List NodeD) (w:World) (hel:Elts w w.heap.size 3 p (l.map rowN)) (hl:l.length<=4611686018427387904) :
  Calls prog 162 #[.slice p l.length c,.agg (rwN x)] w fun e w'=>e=.returned (.bool (l.any fun y=>decide (x=y)))/\Below w.heap.size w w':=sIxEJ2
end
section
open Go.RowKit
open YtknmnhleicakhaaGreatDoor renaming rwL -> Z1, cIxEJ0L -> Z2, rowL -> Z5, eqInL -> Z6, vxc -> Z7, rlL -> Z8, uqj -> Z10, cIxEJ1L -> Z11
open Go.Proofs.Tryz renaming func200 -> Z3, ntmps200 -> Z4, underlying42 -> Z9
theorem xx6 (x:uqb) (p:Zoa) (c:Nat) (l:List uqb) (w:World) (hel:Elts w w.heap.size 3 p (l.map rowL)) (hl:l.length<=4611686018427387904) :
  Calls prog 200 #[.slice p l.length c,.agg (rwL x)] w fun e w'=>e=.returned (.int .i64 (pIx (fun y=>decide (x=y)) l 0))/\Below w.heap.size w w':=sIxEJ1
open YtknmnhleicakhaaGreatDoor renaming xx6 -> Z12
open Go.Proofs.Tryz renaming func165 -> Z13, ntmps165 -> Z14
theorem wqq (x:uqb) (p:Zoa) (c:Nat) (l:List uqb) (w:World) (hel:Elts w w.heap.size 3 p (l.map rowL)) (hl:l.length<=4611686018427387904) :
  Calls prog 165 #[.slice p l.length c,.agg (rwL x)] w fun e w'=>e=.returned (.bool (l.any fun y=>decide (x=y)))/\Below w.heap.size w w':=sIxEJ2
end
theorem oIxFJ1 {p:Prop} (h:p:=by first | omega | (simp only[Z4] at *;omega)):p:=h
theorem sIxFJ1 {p:Prop} (h:p:=by
 have HF:=zrj hf.calls
 have hen:=hf.enter
 clear hf
 go_enter Z1,Z2
 go_wp2_with fail
 go_loopw [8] (fun i wr=>∃k:Nat,k<=l.length/\i=.int .i64 k/\Below w.heap.size w wr/\Hid (pIx f l 0=pIx f (l.drop k) k)) (fun i _=>l.length-(intOf i).toNat)
 case atStart=>exact⟨0,Nat.zero_le _,rfl,zri _ _,(show _=_ from rfl)⟩
 case round =>
  obtain⟨k,hk,rfl,hbr,HR⟩:=hrel
  by_cases hlt:k<l.length
  ·have hx:l[k]?=some l[k]:=zrd hlt
   have hc:=HF.out l[k] (List.getElem_mem hlt) wr hbr
   have hdr:=vx1 l k _ hx
   generalize l[k]=x at *
   obtain⟨a,rfl,hab,_,hat⟩:=(hel.below hbr).at_ (k:=k) (r:=Z3 x) (by rw[zrg,hx];rfl)
   have HR0:=HR.out
   rw[hdr,uk7] at HR0
   cases hp:f x
   ·rw[hp] at hc HR0
    rw[if_neg (by simp)] at HR0
    have HC:=zrj hc
    have HR1:=zrj HR0
    clear hc HR0 HR hdr hx hp
    go_wp2_with(refine uqe rfl _ _ rfl (a.add (k*Z4)) rfl (Z5 x) _ hat Z6 rfl Z7 ?_)
    refine HC.out.mono ?_
    rintro e w1 ⟨rfl,hb1⟩
    have hB:=bthen hbr hb1
    clear hb1 hat
    go_wp2_with fail
    go_roundw
    case rel=>exact⟨k+1,by exact oIxFJ1,by go_num,hB,HR1.out⟩
    case measure=>simp[intOf];exact oIxFJ1
   ·rw[hp] at hc HR0
    rw[if_pos rfl] at HR0
    have HC:=zrj hc
    have HR1:=zrj HR0
    clear hc HR0 HR hdr hx hp
    go_wp2_with(refine uqe rfl _ _ rfl (a.add (k*Z4)) rfl (Z5 x) _ hat Z6 rfl Z7 ?_)
    refine HC.out.mono ?_
    rintro e w1 ⟨rfl,hb1⟩
    have hB:=bthen hbr hb1
    clear hb1 hat
    go_wp2_with fail
    go_ret
    exact⟨by rw[HR1.out];rfl,hB⟩
  ·obtain rfl:k=l.length:=by exact oIxFJ1
   have HR0:=HR.out
   rw[List.drop_length] at HR0
   have HR1:=zrj HR0
   clear HR0 HR
   go_wp2_with fail
   go_ret
   exact⟨by rw[HR1.out];rfl,hbr⟩):p:=h
theorem sIxFJ2 {p:Prop} (h:p:=by
 have hc:=Z8 K caps f p c l w hel hl hf
 have ha:=vzf f l 0
 have hbd:=vwd f l 0
 generalize pIx f l 0=n at *
 have HC:=zrj hc
 have HA:=zrj ha
 clear hc ha hf hel
 go_enter Z9,Z10
 go_wp2_with fail
 refine HC.out.mono ?_
 rintro e w1 ⟨rfl,hb1⟩
 go_wp2_with fail
 go_ret
 exact⟨by rw[<- HA.out];rfl,hb1⟩):p:=h
@[simp] abbrev cIxFJ0J:Nat:=5
@[simp] abbrev cIxFJ0N:Nat:=3
@[simp] abbrev cIxFJ0L:Nat:=3
section
open Go.RowKit
open YtknmnhleicakhaaGreatDoor renaming rowJ -> Z3, cIxFJ0J -> Z4, rlJ -> Z5, uqo -> Z7
open Go.Proofs.Tryz renaming func197 -> Z1, ntmps197 -> Z2, underlying38 -> Z6
theorem wvv (K:FuncId) (caps:Array Value) (f:JobD->Bool) (p:Zoa) (c:Nat) (l:List JobD) (w:World) (hel:Elts w w.heap.size 5 p (l.map rowJ)) (hl:l.length<=4611686018427387904) (hf:FnOk prog w K caps rowJ f l) :
  Calls prog 197 #[.slice p l.length c,.func (.func K) #[] caps] w fun e w'=>e=.returned (.int .i64 (pIx f l 0))/\Below w.heap.size w w':=sIxFJ1
open YtknmnhleicakhaaGreatDoor renaming wvv -> Z8
open Go.Proofs.Tryz renaming func160 -> Z9, ntmps160 -> Z10
theorem vxy (K:FuncId) (caps:Array Value) (f:JobD->Bool) (p:Zoa) (c:Nat) (l:List JobD) (w:World) (hel:Elts w w.heap.size 5 p (l.map rowJ)) (hl:l.length<=4611686018427387904) (hf:FnOk prog w K caps rowJ f l) :
  Calls prog 160 #[.slice p l.length c,.func (.func K) #[] caps] w fun e w'=>e=.returned (.bool (l.any f))/\Below w.heap.size w w':=sIxFJ2
end
section
open Go.RowKit
open YtknmnhleicakhaaGreatDoor renaming rowN -> Z3, cIxFJ0N -> Z4, rlN -> Z5, uqk -> Z7
open Go.Proofs.Tryz renaming func199 -> Z1, ntmps199 -> Z2, underlying40 -> Z6
theorem wvw (K:FuncId) (caps:Array Value) (f:NodeD->Bool) (p:Zoa) (c:Nat) (l:List NodeD) (w:World) (hel:Elts w w.heap.size 3 p (l.map rowN)) (hl:l.length<=4611686018427387904) (hf:FnOk prog w K caps rowN f l) :
  Calls prog 199 #[.slice p l.length c,.func (.func K) #[] caps] w fun e w'=>e=.returned (.int .i64 (pIx f l 0))/\Below w.heap.size w w':=sIxFJ1
open YtknmnhleicakhaaGreatDoor renaming wvw -> Z8
open Go.Proofs.Tryz renaming func163 -> Z9, ntmps163 -> Z10
theorem vx0 (K:FuncId) (caps:Array Value) (f:NodeD->Bool) (p:Zoa) (c:Nat) (l:List NodeD) (w:World) (hel:Elts w w.heap.size 3 p (l.map rowN)) (hl:l.length<=4611686018427387904) (hf:FnOk prog w K caps rowN f l) :
  Calls prog 163 #[.slice p l.length c,.func (.func K) #[] caps] w fun e w'=>e=.returned (.bool (l.any f))/\Below w.heap.size w w':=sIxFJ2
end
section
open Go.RowKit
open YtknmnhleicakhaaGreatDoor renaming rowL -> Z3, cIxFJ0L -> Z4, rlL -> Z5, uqj -> Z7
open Go.Proofs.Tryz renaming func192 -> Z1, ntmps192 -> Z2, underlying42 -> Z6
theorem uyy (K:FuncId) (caps:Array Value) (f:uqb->Bool) (p:Zoa) (c:Nat) (l:List uqb) (w:World) (hel:Elts w w.heap.size 3 p (l.map rowL)) (hl:l.length<=4611686018427387904) (hf:FnOk prog w K caps rowL f l) :
  Calls prog 192 #[.slice p l.length c,.func (.func K) #[] caps] w fun e w'=>e=.returned (.int .i64 (pIx f l 0))/\Below w.heap.size w w':=sIxFJ1
open YtknmnhleicakhaaGreatDoor renaming uyy -> Z8
open Go.Proofs.Tryz renaming func166 -> Z9, ntmps166 -> Z10
theorem vxz (K:FuncId) (caps:Array Value) (f:uqb->Bool) (p:Zoa) (c:Nat) (l:List uqb) (w:World) (hel:Elts w w.heap.size 3 p (l.map rowL)) (hl:l.length<=4611686018427387904) (hf:FnOk prog w K caps rowL f l) :
  Calls prog 166 #[.slice p l.length c,.func (.func K) #[] caps] w fun e w'=>e=.returned (.bool (l.any f))/\Below w.heap.size w w':=sIxFJ2
end
theorem uzq {a b:World} {base size n:Nat} {e:TypeId} {v:Value} {xs:List Value} (h:a.ownsRow base e size v n xs) (hb:Below a.heap.size a b):b.ownsRow base e size v n xs :=
 World.ownsRow.kept (row:=none) h ⟨hb.os,hb.tape,hb.output,hb.size,fun k hk _=>hb.block k hk⟩ (Classical.em _)
theorem uzz {w:World} {base:Nat} {e:TypeId} {size n:Nat} {v:Value} {xs:List Value} (h:w.ownsRow base e size v n xs):∃p c,v=.slice p n c:=by
 rcases h.2 with⟨rfl,h0⟩ | ⟨g,cap,cur,rfl,_⟩
 ·exact⟨none,0,by rw[h0]⟩
 ·exact⟨_,cap,rfl⟩
theorem OwnR.lower {w:World} {base b c size:Nat} {E:TypeId} {p:Zoa} {rows:List (List Value)} (h:OwnR w base E size p c rows) (hb:b<=base):OwnR w b E size p c rows:=⟨h.1,World.ownsRow.mono h.2 hb⟩
theorem sDiffJ1 {p:Prop} (h:p:=by
 have hb0:=zsa w (.cells (Z1 y) Z2)
 have by0:=Blk.new w Z2 (Z1 y)
 have bk0:=bk.alloc (.cells (Z1 y) Z2)
 have bx0:=bx.alloc (.cells (Z1 y) Z2)
 have HT:=zrj (vy5 (Z3 y) (Z3 x))
 go_enter Z4,Z5
 go_wp2_with fail
 generalize w.alloc _=w0 at *
 refine uxq (by kernel_rfl) (by kernel_rfl) ?_
 repeat(first
  | (refine uqt (by first | rfl | kernel_rfl) _ _ rfl ⟨w.heap.size,0,none⟩ rfl (Z6 y) _ (fun w5 hw5=>At.blk (by0.bl hw5)) Z7 rfl Z8 ?_;simp only[Act.put,ma,mb,mc])
  | (refine uqt (by first | rfl | kernel_rfl) _ _ rfl ⟨gx,0,none⟩ rfl (Z6 x) _ (fun w5 hw5=>At.blk (bx0.bl hw5)) Z7 rfl Z8 ?_;simp only[Act.put,ma,mb,mc])
  | (apply uxs;(focus (first | rfl | kernel_rfl));(focus (intro w5 hw5;have hk5:=(bk0.bl hw5).c0;unfold Oper.quietAt;go_simp;first | rfl | exact⟨rfl,rfl⟩ | (with_reducible refine(Z9 x w5).mono ?_;rintro e w8 ⟨rfl,hb8⟩;exact⟨rfl,Abv.step hw5 hb8⟩) | (with_reducible refine(Z9 y w5).mono ?_;rintro e w8 ⟨rfl,hb8⟩;exact⟨rfl,Abv.step hw5 hb8⟩)));simp only[Act.put,ma,mb,mc]))
 refine wpQuiet_nil ?_
 intro w7 hw7
 have hb7:=hb0.trans ((show Below w0.heap.size w0 w7 from hw7).mono hb0.size)
 go_wp2_with fail
 go_ret
 exact⟨by rw[<- HT.out];rfl,hb7⟩):p:=h
theorem oDiffJ3 {p:Prop} (h:p:=by first | omega | (simp only[Z2,Z10,Z11,Z15,Z18,Z19,Z21] at *;omega)):p:=h
theorem sDiffJ3 {p:Prop} (h:p:=by
 have hb0:=zsa w (.cells #[Value.func (.func Z10) #[] #[]] Z11)
 have bk:=Blk.new w Z11 #[Value.func (.func Z10) #[] #[]]
 obtain⟨i0,hi,hz0,hz1,hz2⟩:=info_parts Z12
 obtain⟨i1,si,sz0,sz1,sz2⟩:=info_parts uwm
 go_enter Z13,Z14
 go_wp2_with fail
 go_loopw [6,14] (fun v i wr=>∃(k:Nat) (p1:Zoa) (c1:Nat),k<=b.length/\v=.slice p1 (setOf a (b.take k)).length c1/\i=.int .i64 k/\Below w.heap.size w wr/\Blk wr w.heap.size Z11 #[Value.func (.func Z10) #[] #[]]/\wr.ownsRow (w.heap.size+1) Z2 Z15 v (setOf a (b.take k)).length ((setOf a (b.take k)).map Z16).flatten) (fun _ i _=>b.length-(intOf i).toNat)
 case atStart=>exact⟨0,none,0,Nat.zero_le _,rfl,rfl,hb0,bk,World.ownsRow_nil _ _ _ _⟩
 case round =>
  obtain⟨k,p1,c1,hk,rfl,rfl,hbr,bkr,hO⟩:=hrel
  clear bk hb0
  have hsz1:w.heap.size+1<=wr.heap.size:=bkr.lt
  by_cases hlt:k<b.length
  ·have hx:b[k]?=some b[k]:=zrd hlt
   have hst:=vj6 a b k _ hx
   have hsl:=ukp a (b.take k)
   rw[List.length_take,Nat.min_eq_left hk] at hsl
   generalize b[k]=x at *
   generalize hS1:setOf a (b.take (k+1))=S1 at *
   generalize setOf a (b.take k)=S0 at *
   obtain⟨ad,rfl,hab,_,hat⟩:=(hb.below hbr).at_ (k:=k) (r:=Z16 x) (by rw[zrg,hx];rfl)
   have bx:=Blk.new wr Z2 (Z1 x)
   have bk5:=bkr.alloc (.cells (Z1 x) Z2)
   have hb5:=hbr.alloc hbr.size (.cells (Z1 x) Z2)
   have hO5:=World.ownsRow.alloc hO (.cells (Z1 x) Z2)
   have hk0:(0:Int)<=(k:Int):=by exact oDiffJ3
   have hk1:(k:Int)<(b.length:Int):=by exact oDiffJ3
   have hc:=Z17 x p c a (wr.alloc (.cells (Z1 x) Z2)) ((ha.below hb5).more hb5.size) (by exact oDiffJ3)
   cases hp:(a.any fun y=>decide (x=y))
   ·rw[hp] at hc hst
    rw[if_neg (by simp)] at hst
    have HC:=zrj hc
    have HS:=zrj hst
    clear hc hst hO hp hx
    go_wp2_with(first
     | (refine uqe rfl _ _ rfl (ad.add (k*Z15)) rfl (Z6 x) _ hat Z7 rfl Z8 ?_))
    refine HC.out.mono ?_
    rintro e w1 ⟨rfl,hb1⟩
    have bx1:=bx.bl hb1
    have bk1:=bk5.bl hb1
    have hB1:=bthen hb5 hb1
    have hO1:=uzq hO5 hb1
    have hsz2:w.heap.size+1<=w1.heap.size:=bk1.lt
    clear hb1 hO5 hb5 bx bk5 bkr hat
    go_wp2_with(first
     | (refine uqa rfl _ _ rfl wr.heap.size rfl _ _ bx1 _ Z7 rfl Z8 ?_)
     | (at_builtin;refine uq6 _ rfl _ _ Z18 rfl (w.heap.size+1) Z2 i0 _ Z15 Z19 Z20 hi hz0 hz1 hz2 rfl (by decide) _ S0.length _ rfl (World.ownsRow.alloc hO1 _) _ (some ⟨w1.heap.size,0,none⟩) 1 1 (Z16 x) rfl (Blk.reads1 (Blk.new w1 Z2 (Z1 x)) rfl) (by intro u hu;simp[Z16] at hu;rcases hu with rfl | rfl | rfl | rfl | rfl <;> rfl) (by unfold maxLen;exact oDiffJ3) (by exact oDiffJ3) (by simp;exact oDiffJ3) ?_))
    intro v2 w2 hO2 hg2 _
    obtain⟨p2,c2,rfl⟩:=uzz hO2
    have hb2:Below (w.heap.size+1) w1 w2:=((zri _ _).alloc hsz2 _).grown hg2 (by simp;exact oDiffJ3) (fun k hk=>(World.ownsRow.lt hO1 k hk).1)
    have hB2:Below w.heap.size w w2:=hB1.trans (hb2.mono (Nat.le_succ _))
    have bk2:=bk1.below hb2 (Nat.lt_succ_self _)
    clear hO1 hg2 hb2
    go_wp2_with fail
    go_roundw
    case rel=>exact⟨k+1,p2,c2,by exact oDiffJ3,by rw[hS1,HS.out];simp,by go_num,hB2,bk2,by rw[hS1,HS.out];simpa using hO2⟩
    case measure=>simp[intOf];exact oDiffJ3
   ·rw[hp] at hc hst
    rw[if_pos rfl,List.append_nil] at hst
    have HC:=zrj hc
    have HS:=zrj hst
    clear hc hst hO hp hx
    go_wp2_with(first
     | (refine uqe rfl _ _ rfl (ad.add (k*Z15)) rfl (Z6 x) _ hat Z7 rfl Z8 ?_))
    refine HC.out.mono ?_
    rintro e w1 ⟨rfl,hb1⟩
    have bk1:=bk5.bl hb1
    have hB1:=bthen hb5 hb1
    have hO1:=uzq hO5 hb1
    clear hb1 hO5 hb5 bx bk5 bkr hat
    go_wp2_with fail
    go_roundw
    case rel=>exact⟨k+1,p1,c1,by exact oDiffJ3,by rw[hS1,HS.out],by go_num,hB1,bk1,by rw[hS1,HS.out];exact hO1⟩
    case measure=>simp[intOf];exact oDiffJ3
  ·obtain rfl:k=b.length:=by exact oDiffJ3
   rw[List.take_length] at hO ⊢
   have hsl:=ukp a b
   have hOS:OwnR wr (w.heap.size+1) Z2 Z15 p1 c1 ((setOf a b).map Z16):=⟨fun r hr=>by obtain⟨x,_,rfl⟩:=List.mem_map.1 hr;rfl,by rw[zre];exact hO⟩
   have HO:=zrj hOS
   clear hO hOS
   generalize hSS:setOf a b=SS at *
   obtain⟨wm,rfl⟩:∃wm:World,wm=wr:=⟨_,rfl⟩
   go_wp2_with fail
   go_loopw [7,29] (fun v i wr=>∃(k:Nat) (p2:Zoa) (c2:Nat),k<=a.length/\v=.slice p2 (uqr Z3 (a.take k) b).length c2/\i=.int .i64 k/\Below wm.heap.size wm wr/\wr.ownsRow wm.heap.size 9 1 v (uqr Z3 (a.take k) b).length ((uqr Z3 (a.take k) b).map rowS).flatten) (fun _ i _=>a.length-(intOf i).toNat)
   case atStart=>exact⟨0,none,0,Nat.zero_le _,rfl,rfl,zri _ _,World.ownsRow_nil _ _ _ _⟩
   case round =>
    obtain⟨k,p2,c2,hk,rfl,rfl,hbm,hO⟩:=hrel
    have hwm:=hbm.size
    by_cases hlt:k<a.length
    ·have hx:a[k]?=some a[k]:=zrd hlt
     have hst:=vzd Z3 a b k _ hx
     have hgl:=uzv Z3 (a.take k) b
     rw[List.length_take,Nat.min_eq_left hk] at hgl
     generalize a[k]=x at *
     generalize hS1:uqr Z3 (a.take (k+1)) b=S1 at *
     generalize uqr Z3 (a.take k) b=S0 at *
     have hbw:=bthen hbr hbm
     obtain⟨ad,rfl,hab,_,hat⟩:=(ha.below hbw).at_ (k:=k) (r:=Z16 x) (by rw[zrg,hx];rfl)
     have bx:=Blk.new wr Z2 (Z1 x)
     have bk5:=(bkr.bl hbm).alloc (.cells (Z1 x) Z2)
     have hb5:=hbw.alloc hbw.size (.cells (Z1 x) Z2)
     have hm5:=hbm.alloc hbm.size (.cells (Z1 x) Z2)
     have hO5:=World.ownsRow.alloc hO (.cells (Z1 x) Z2)
     have hk0:(0:Int)<=(k:Int):=by exact oDiffJ3
     have hk1:(k:Int)<(a.length:Int):=by exact oDiffJ3
     have hFn:FnOk prog (wr.alloc (.cells (Z1 x) Z2)) Z21 #[zse w.heap.size,zse wr.heap.size] Z16 (fun y=>decide (Z3 y=Z3 x)) b :=
      ⟨fun args W=>by kernel_rfl,fun y _ W hW=>Z22 w.heap.size wr.heap.size x y W (bk5.bl hW) (bx.bl hW)⟩
     have hc:=Z23 _ _ _ q d b _ ((hb.below hb5).more hb5.size) (by exact oDiffJ3) hFn
     clear hFn
     cases hp:(b.any fun y=>decide (Z3 y=Z3 x))
     ·rw[hp] at hc hst
      rw[if_neg (by simp)] at hst
      have HC:=zrj hc
      have HS:=zrj hst
      clear hc hst hO hp hx
      go_wp2_with(first
       | (refine uqe rfl _ _ rfl (ad.add (k*Z15)) rfl (Z6 x) _ hat Z7 rfl Z8 ?_))
      refine HC.out.mono ?_
      rintro e w1 ⟨rfl,hb1⟩
      have bx1:=bx.bl hb1
      have bk1:=bk5.bl hb1
      have hB1:=bthen hm5 hb1
      have hO1:=uzq hO5 hb1
      have hk5:=bk1.c0
      clear hb1 hO5 hb5 hm5 bx bk5 hat
      go_wp2_with(first
       | (refine uqa rfl _ _ rfl wr.heap.size rfl _ _ bx1 _ Z7 rfl Z8 ?_))
      refine(Z9 x _).mono ?_
      rintro e w2 ⟨rfl,hb2⟩
      have hB2:=bthen hB1 hb2
      have hO2:=uzq hO1 hb2
      have hsz2:=hB2.size
      clear hb2 hO1 hB1 bx1 bk1 hk5
      go_wp2_with(first
       | (at_builtin;refine uq6 _ rfl _ _ 116 rfl wm.heap.size 9 i1 _ 1 16 underlying116 si sz0 sz1 sz2 rfl (by decide) _ S0.length _ rfl (World.ownsRow.alloc hO2 _) _ (some ⟨w2.heap.size,0,none⟩) 1 1 (rowS (Z3 x)) rfl (Blk.reads1 (Blk.new w2 9 #[.string (Z3 x)]) rfl) (by intro u hu;simp[rowS] at hu;subst hu;rfl) (by unfold maxLen;exact oDiffJ3) (by exact oDiffJ3) (by simp;exact oDiffJ3) ?_))
      intro v3 w3 hO3 hg3 _
      obtain⟨p3,c3,rfl⟩:=uzz hO3
      have hB3:Below wm.heap.size wm w3:=(hB2.alloc hsz2 _).grown hg3 (by simp;exact oDiffJ3) (fun k hk=>(World.ownsRow.lt hO2 k hk).1)
      clear hO2 hg3
      go_wp2_with fail
      go_roundw
      case rel=>exact⟨k+1,p3,c3,by exact oDiffJ3,by rw[hS1,HS.out];simp,by go_num,hB3,by rw[hS1,HS.out];simpa using hO3⟩
      case measure=>simp[intOf];exact oDiffJ3
     ·rw[hp] at hc hst
      rw[if_pos rfl,List.append_nil] at hst
      have HC:=zrj hc
      have HS:=zrj hst
      clear hc hst hO hp hx
      go_wp2_with(first
       | (refine uqe rfl _ _ rfl (ad.add (k*Z15)) rfl (Z6 x) _ hat Z7 rfl Z8 ?_))
      refine HC.out.mono ?_
      rintro e w1 ⟨rfl,hb1⟩
      have hB1:=bthen hm5 hb1
      have hO1:=uzq hO5 hb1
      clear hb1 hO5 hb5 hm5 bx bk5 hat
      go_wp2_with fail
      go_roundw
      case rel=>exact⟨k+1,p2,c2,by exact oDiffJ3,by rw[hS1,HS.out],by go_num,hB1,by rw[hS1,HS.out];exact hO1⟩
      case measure=>simp[intOf];exact oDiffJ3
    ·obtain rfl:k=a.length:=by exact oDiffJ3
     rw[List.take_length] at hO ⊢
     have hOG:OwnR wr wm.heap.size 9 1 p2 c2 ((uqr Z3 a b).map rowS):=⟨fun r hr=>by obtain⟨x,_,rfl⟩:=List.mem_map.1 hr;rfl,by rw[zre];exact hO⟩
     have HG:=zrj hOG
     clear hO hOG
     go_wp2_with fail
     go_ret2
     exact⟨p1,c1,p2,c2,by rw[hSS];rfl,by rw[hSS];exact(OwnR.lower HO.out (Nat.le_succ _)).below hbm,OwnR.lower HG.out hbr.size,bthen hbr hbm⟩):p:=h
@[simp] abbrev cDiffJ0J:Nat:=38
@[simp] abbrev cDiffJ0N:Nat:=40
@[simp] abbrev cDiffJ0L:Nat:=42
@[simp] abbrev cDiffJ1J:Nat:=91
@[simp] abbrev cDiffJ1N:Nat:=93
@[simp] abbrev cDiffJ1L:Nat:=95
@[simp] abbrev cDiffJ2J:Nat:=191
@[simp] abbrev cDiffJ2N:Nat:=194
@[simp] abbrev cDiffJ2L:Nat:=197
@[simp] abbrev cDiffJ3J:Nat:=5
@[simp] abbrev cDiffJ3N:Nat:=3
@[simp] abbrev cDiffJ3L:Nat:=3
@[simp] abbrev cDiffJ4J:Nat:=22
@[simp] abbrev cDiffJ4N:Nat:=23
@[simp] abbrev cDiffJ4L:Nat:=24
@[simp] abbrev cDiffJ5J:Nat:=56
@[simp] abbrev cDiffJ5N:Nat:=40
@[simp] abbrev cDiffJ5L:Nat:=40
@[simp] abbrev cDiffJ6J:Nat:=161
@[simp] abbrev cDiffJ6N:Nat:=164
@[simp] abbrev cDiffJ6L:Nat:=167
section
open Go.RowKit
open YtknmnhleicakhaaGreatDoor renaming rwJ -> Z1, cDiffJ0J -> Z2, JobD.name -> Z3, rlJ -> Z6, uqo -> Z8, uj6 -> Z9
open Go.Proofs.Tryz renaming func161 -> Z4, ntmps161 -> Z5, underlying38 -> Z7
theorem wzq (gk gx:Nat) (x y:JobD) (w:World) (bk:Blk w gk 191 #[Value.func (.func 91) #[] #[]]) (bx:Blk w gx 38 (rwJ x)) :
  Calls prog 161 #[.agg (rwJ y),zse gk,zse gx] w fun e w'=>e=.returned (.bool (decide (JobD.name y=JobD.name x)))/\Below w.heap.size w w':=sDiffJ1
def xjl (w:World) (a b:List JobD) (e:Ending) (w':World):Prop :=
 ∃p1 c1 p2 c2,e=.returned (.tuple #[.slice p1 (setOf a b).length c1,.slice p2 (uqr JobD.name a b).length c2])/\OwnR w' w.heap.size 38 5 p1 c1 ((setOf a b).map rowJ)/\OwnR w' w.heap.size 9 1 p2 c2 ((uqr JobD.name a b).map rowS)/\Below w.heap.size w w'
open YtknmnhleicakhaaGreatDoor renaming cDiffJ1J -> Z10, cDiffJ2J -> Z11, uve -> Z12, cDiffJ3J -> Z15, rowJ -> Z16, wqp -> Z17, cDiffJ4J -> Z18, cDiffJ5J -> Z19, cDiffJ6J -> Z21, wzq -> Z22, vxy -> Z23
open Go.Proofs.Tryz renaming func121 -> Z13, ntmps121 -> Z14, underlying22 -> Z20
theorem wvc (p q:Zoa) (c d:Nat) (a b:List JobD) (w:World) (ha:Elts w w.heap.size 5 p (a.map rowJ)) (hb:Elts w w.heap.size 5 q (b.map rowJ)) (hla:a.length<=1000) (hlb:b.length<=1000) :
  Calls prog 121 #[.slice p a.length c,.slice q b.length d,.func (.func 91) #[] #[]] w fun e w'=>xjl w a b e w':=sDiffJ3
end
section
open Go.RowKit
open YtknmnhleicakhaaGreatDoor renaming rwN -> Z1, cDiffJ0N -> Z2, NodeD.name -> Z3, rlN -> Z6, uqk -> Z8, ujn -> Z9
open Go.Proofs.Tryz renaming func164 -> Z4, ntmps164 -> Z5, underlying40 -> Z7
theorem wzs (gk gx:Nat) (x y:NodeD) (w:World) (bk:Blk w gk 194 #[Value.func (.func 93) #[] #[]]) (bx:Blk w gx 40 (rwN x)) :
  Calls prog 164 #[.agg (rwN y),zse gk,zse gx] w fun e w'=>e=.returned (.bool (decide (NodeD.name y=NodeD.name x)))/\Below w.heap.size w w':=sDiffJ1
def xjn (w:World) (a b:List NodeD) (e:Ending) (w':World):Prop :=
 ∃p1 c1 p2 c2,e=.returned (.tuple #[.slice p1 (setOf a b).length c1,.slice p2 (uqr NodeD.name a b).length c2])/\OwnR w' w.heap.size 40 3 p1 c1 ((setOf a b).map rowN)/\OwnR w' w.heap.size 9 1 p2 c2 ((uqr NodeD.name a b).map rowS)/\Below w.heap.size w w'
open YtknmnhleicakhaaGreatDoor renaming cDiffJ1N -> Z10, cDiffJ2N -> Z11, uj7 -> Z12, cDiffJ3N -> Z15, rowN -> Z16, wqr -> Z17, cDiffJ4N -> Z18, cDiffJ5N -> Z19, cDiffJ6N -> Z21, wzs -> Z22, vx0 -> Z23
open Go.Proofs.Tryz renaming func122 -> Z13, ntmps122 -> Z14, underlying23 -> Z20
theorem wve (p q:Zoa) (c d:Nat) (a b:List NodeD) (w:World) (ha:Elts w w.heap.size 3 p (a.map rowN)) (hb:Elts w w.heap.size 3 q (b.map rowN)) (hla:a.length<=1000) (hlb:b.length<=1000) :
  Calls prog 122 #[.slice p a.length c,.slice q b.length d,.func (.func 93) #[] #[]] w fun e w'=>xjn w a b e w':=sDiffJ3
end
section
open Go.RowKit
open YtknmnhleicakhaaGreatDoor renaming rwL -> Z1, cDiffJ0L -> Z2, uqb.job -> Z3, rlL -> Z6, uqj -> Z8, uza -> Z9
open Go.Proofs.Tryz renaming func167 -> Z4, ntmps167 -> Z5, underlying42 -> Z7
theorem wzr (gk gx:Nat) (x y:uqb) (w:World) (bk:Blk w gk 197 #[Value.func (.func 95) #[] #[]]) (bx:Blk w gx 42 (rwL x)) :
  Calls prog 167 #[.agg (rwL y),zse gk,zse gx] w fun e w'=>e=.returned (.bool (decide (uqb.job y=uqb.job x)))/\Below w.heap.size w w':=sDiffJ1
def xjm (w:World) (a b:List uqb) (e:Ending) (w':World):Prop :=
 ∃p1 c1 p2 c2,e=.returned (.tuple #[.slice p1 (setOf a b).length c1,.slice p2 (uqr uqb.job a b).length c2])/\OwnR w' w.heap.size 42 3 p1 c1 ((setOf a b).map rowL)/\OwnR w' w.heap.size 9 1 p2 c2 ((uqr uqb.job a b).map rowS)/\Below w.heap.size w w'
open YtknmnhleicakhaaGreatDoor renaming cDiffJ1L -> Z10, cDiffJ2L -> Z11, ujl -> Z12, cDiffJ3L -> Z15, rowL -> Z16, wqq -> Z17, cDiffJ4L -> Z18, cDiffJ5L -> Z19, cDiffJ6L -> Z21, wzr -> Z22, vxz -> Z23
open Go.Proofs.Tryz renaming func123 -> Z13, ntmps123 -> Z14, underlying24 -> Z20
theorem wvd (p q:Zoa) (c d:Nat) (a b:List uqb) (w:World) (ha:Elts w w.heap.size 3 p (a.map rowL)) (hb:Elts w w.heap.size 3 q (b.map rowL)) (hla:a.length<=1000) (hlb:b.length<=1000) :
  Calls prog 123 #[.slice p a.length c,.slice q b.length d,.func (.func 95) #[] #[]] w fun e w'=>xjm w a b e w':=sDiffJ3
end
end Go.Proofs.YtknmnhleicakhaaGreatDoor
