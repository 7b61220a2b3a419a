/- Lemmas.
-/
import Derived.Test.YtknmnhleicakhaaGreatDoorPtPrim
import Derived.Test.YtknmnhleicakhaaGreatDoorPtStateB
import Derived.Lib.AppendStr
set_option linter.all false
set_option maxHeartbeats 16000000
set_option maxRecDepth 100000
namespace Go.Proofs.YtknmnhleicakhaaGreatDoor
open Go.Proofs.Tryz
inductive Res (α:Type) where
 | ok (a:α) (rest:Zlu)
 | bad (e:Nat)
def Res.bind {α β:Type}:Res α->(α->Zlu->Res β)->Res β
 | .ok a r,f=>f a r
 | .bad e,_=>.bad e
structure PP {α:Type} (p:Zlu->Res α) (enc:α->Zlu) (D:α->Prop):Prop where
 fwd:∀a more,D a->p (enc a++more)=.ok a more
 bwd:∀l a rest,p l=.ok a rest->D a/\l=enc a++rest
 cut:∀a k,D a->k<(enc a).length->p ((enc a).take k)=.bad 3
 err:∀l e,p l=.bad e->e≠0
def pSeq {α β:Type} (p:Zlu->Res α) (q:α->Zlu->Res β) (l:Zlu):Res (α×β) :=
 (p l).bind fun a r=>(q a r).bind fun b r'=>.ok (a,b) r'
theorem PP.seq {α β:Type} {p:Zlu->Res α} {enc:α->Zlu} {D:α->Prop} {q:α->Zlu->Res β} {enc':α->β->Zlu} {D':α->β->Prop}
  (hp:PP p enc D) (hq:∀a,D a->PP (q a) (enc' a) (D' a)):PP (pSeq p q) (fun x=>enc x.1++enc' x.1 x.2) (fun x=>D x.1/\D' x.1 x.2) where
 fwd:=fun⟨a,b⟩ more ⟨h1,h2⟩=>by
  unfold pSeq
  rw[zrh,hp.fwd a _ h1]
  show((q a _).bind _)=_
  rw[(hq a h1).fwd b more h2];rfl
 bwd:=fun l ⟨a,b⟩ rest h=>by
  unfold pSeq at h
  cases h1:p l with
  | bad e=>rw[h1] at h;cases h
  | ok a' r =>
   rw[h1] at h
   obtain⟨g1,g2⟩:=hp.bwd _ _ _ h1
   change ((q a' r).bind _)=_ at h
   cases h2:q a' r with
   | bad e=>rw[h2] at h;cases h
   | ok b' r' =>
    rw[h2] at h
    obtain⟨g3,g4⟩:=(hq a' g1).bwd _ _ _ h2
    change Res.ok (a',b') r'=_ at h
    injection h with h3 h4
    injection h3 with h5 h6
    subst h5 h6 h4
    exact⟨⟨g1,g3⟩,by rw[g2,g4,zrh]⟩
 cut:=fun⟨a,b⟩ k ⟨h1,h2⟩ hk=>by
  unfold pSeq
  simp only[] at hk ⊢
  rw[zrb] at hk
  by_cases hlt:k<(enc a).length
  ·rw[List.take_append_of_le_length (by omega),hp.cut a k h1 hlt];rfl
  ·rw[List.take_append,List.take_of_length_le (by omega),hp.fwd a _ h1]
   show((q a _).bind _)=_
   rw[(hq a h1).cut b _ h2 (by omega)];rfl
 err:=fun l e h=>by
  unfold pSeq at h
  cases h1:p l with
  | bad e'=>rw[h1] at h;injection h with h;subst h;exact hp.err _ _ h1
  | ok a' r =>
   rw[h1] at h
   obtain⟨g1,g2⟩:=hp.bwd _ _ _ h1
   change ((q a' r).bind _)=_ at h
   cases h2:q a' r with
   | bad e'=>rw[h2] at h;injection h with h;subst h;exact(hq a' g1).err _ _ h2
   | ok b' r'=>rw[h2] at h;cases h
def pMap {α β:Type} (f:α->β) (p:Zlu->Res α) (l:Zlu):Res β:=(p l).bind fun a r=>.ok (f a) r
theorem PP.map {α β:Type} {p:Zlu->Res α} {enc:α->Zlu} {D:α->Prop} (f:α->β) (g:β->α) {enc':β->Zlu} {D':β->Prop} (hp:PP p enc D)
  (h1:∀a,D a->D' (f a)/\g (f a)=a) (h2:∀b,D' b->D (g b)/\f (g b)=b) (h3:∀b,D' b->enc' b=enc (g b)):PP (pMap f p) enc' D' where
 fwd:=fun b more hb=>by
  unfold pMap
  rw[h3 b hb,hp.fwd _ more (h2 b hb).1]
  show Res.ok (f (g b)) more=_
  rw[(h2 b hb).2]
 bwd:=fun l b rest h=>by
  unfold pMap at h
  cases h4:p l with
  | bad e=>rw[h4] at h;cases h
  | ok a r =>
   rw[h4] at h
   obtain⟨g1,g2⟩:=hp.bwd _ _ _ h4
   change Res.ok (f a) r=_ at h
   injection h with h5 h6
   subst h5 h6
   exact⟨(h1 a g1).1,by rw[h3 _ (h1 a g1).1,(h1 a g1).2];exact g2⟩
 cut:=fun b k hb hk=>by
  unfold pMap
  rw[h3 b hb] at hk ⊢
  rw[hp.cut _ k (h2 b hb).1 hk];rfl
 err:=fun l e h=>by
  unfold pMap at h
  cases h4:p l with
  | bad e'=>rw[h4] at h;injection h with h;subst h;exact hp.err _ _ h4
  | ok a r=>rw[h4] at h;cases h
def pUnit {α:Type} (a:α) (l:Zlu):Res α:=.ok a l
theorem PP.unit {α:Type} (a:α):PP (pUnit a) (fun _=>[]) (fun x=>x=a) where
 fwd:=fun x more h=>by subst h;rfl
 bwd:=fun l x rest h=>by unfold pUnit at h;injection h with h1 h2;subst h1 h2;exact⟨rfl,rfl⟩
 cut:=fun x k _ hk=>by simp at hk
 err:=fun l e h=>by cases h
def pRep {α:Type} (p:Zlu->Res α):Nat->Zlu->Res (List α)
 | 0,l=>.ok [] l
 | n+1,l=>(p l).bind fun a r=>(pRep p n r).bind fun xs r'=>.ok (a::xs) r'
theorem PP.rep {α:Type} {p:Zlu->Res α} {enc:α->Zlu} {D:α->Prop} (hp:PP p enc D):∀n:Nat,PP (pRep p n) (fun l=>l.flatMap enc) (fun l=>l.length=n/\∀x∈l,D x)
 | 0=>{
  fwd:=fun l more ⟨h,_⟩=>by
   obtain rfl:=List.eq_nil_of_length_eq_zero h
   rfl
  bwd:=fun l a rest h=>by unfold pRep at h;injection h with h1 h2;subst h1 h2;exact⟨⟨rfl,by simp⟩,rfl⟩
  cut:=fun l k ⟨h,_⟩ hk=>by
   obtain rfl:=List.eq_nil_of_length_eq_zero h
   simp at hk
  err:=fun l e h=>by cases h }
 | n+1=>by
  have ih:=PP.rep hp n
  refine⟨fun l more ⟨h,hd⟩=>?_,fun l a rest h=>?_,fun l k ⟨h,hd⟩ hk=>?_,fun l e h=>?_⟩
  ·match l,h with
   | x::r,h =>
    unfold pRep
    rw[List.flatMap_cons,zrh,hp.fwd x _ (hd x List.mem_cons_self)]
    show((pRep p n _).bind _)=_
    rw[ih.fwd r more ⟨by simpa using h,fun y hy=>hd y (List.mem_cons_of_mem _ hy)⟩];rfl
  ·unfold pRep at h
   cases h1:p l with
   | bad e=>rw[h1] at h;cases h
   | ok x r =>
    rw[h1] at h
    obtain⟨g1,g2⟩:=hp.bwd _ _ _ h1
    change ((pRep p n r).bind _)=_ at h
    cases h2:pRep p n r with
    | bad e=>rw[h2] at h;cases h
    | ok xs r' =>
     rw[h2] at h
     obtain⟨⟨g3,g4⟩,g5⟩:=ih.bwd _ _ _ h2
     change Res.ok (x::xs) r'=_ at h
     injection h with h3 h4
     subst h3 h4
     refine⟨⟨by simp[g3],fun y hy=>?_⟩,by rw[List.flatMap_cons,zrh,<- g5];exact g2⟩
     rcases List.mem_cons.1 hy with rfl | hy
     ·exact g1
     ·exact g4 y hy
  ·match l,h with
   | x::r,h =>
    have hx:=hd x List.mem_cons_self
    unfold pRep
    rw[List.flatMap_cons] at hk ⊢
    rw[zrb] at hk
    by_cases hlt:k<(enc x).length
    ·rw[List.take_append_of_le_length (by omega),hp.cut x k hx hlt];rfl
    ·rw[List.take_append,List.take_of_length_le (by omega),hp.fwd x _ hx]
     show((pRep p n _).bind _)=_
     rw[ih.cut r _ ⟨by simpa using h,fun y hy=>hd y (List.mem_cons_of_mem _ hy)⟩ (by omega)];rfl
  ·unfold pRep at h
   cases h1:p l with
   | bad e'=>rw[h1] at h;injection h with h;subst h;exact hp.err _ _ h1
   | ok x r =>
    rw[h1] at h
    change ((pRep p n r).bind _)=_ at h
    cases h2:pRep p n r with
    | bad e'=>rw[h2] at h;injection h with h;subst h;exact ih.err _ _ h2
    | ok xs r'=>rw[h2] at h;cases h
def pNum (l:Zlu):Res Nat:=if(rd l).2.2=0 then(if 4611686018427387904<(rd l).1 then .bad 2 else .ok (rd l).1 (l.drop (rd l).2.1)) else .bad (rd l).2.2
theorem uy5:PP pNum putN (fun n=>n<=4611686018427387904) where
 fwd:=fun n more h=>by
  unfold pNum
  rw[vz3 n more (by omega)]
  simp only[]
  rw[if_pos trivial,if_neg (by omega),List.drop_left]
 bwd:=fun l n rest h=>by
  unfold pNum at h
  by_cases h0:(rd l).2.2=0
  ·obtain⟨m,k,hr,hp,hk1,hk10,hkl,hn,_⟩:=rd_ok l h0
   rw[hr] at h
   simp only[] at h
   rw[if_pos trivial] at h
   by_cases h2:4611686018427387904<m
   ·rw[if_pos h2] at h;cases h
   ·rw[if_neg h2] at h
    injection h with h3 h4
    subst h3 h4
    exact⟨by omega,by rw[hp,List.take_append_drop]⟩
  ·rw[if_neg h0] at h;cases h
 cut:=fun n k h hk=>by
  unfold pNum
  obtain⟨m,j,hr,_,_,_,_,_,h7⟩:=rd_ok (putN n) (by have:=vz3 n [] (by omega);rw[List.append_nil] at this;rw[this])
  have:=vz3 n [] (by omega)
  rw[List.append_nil] at this
  rw[this] at hr
  have hj:j=(putN n).length:=by simp at hr;omega
  rw[h7 k (by omega)]
  rfl
 err:=fun l e h=>by
  unfold pNum at h
  by_cases h0:(rd l).2.2=0
  ·rw[if_pos h0] at h
   split at h
   ·injection h with h;omega
   ·cases h
  ·rw[if_neg h0] at h;injection h with h;subst h;exact h0
def pSig (l:Zlu):Res Int:=pMap (fun n:Nat=>zagI n) pNum l
theorem wxe:PP pSig (fun n=>putN (zigI n).toNat) (fun n=>zigI n<=4611686018427387904) :=
 uy5.map (fun n:Nat=>zagI n) (fun n=>(zigI n).toNat) (fun n h=>⟨by rw[xy3];exact Int.ofNat_le.2 h,by rw[xy3];rfl⟩)
  (fun n h=>⟨by have:=vzo n;omega,by rw[zag_zig]⟩) (fun _ _=>rfl)
def pText (l:Zlu):Res (Zlu):=if(rdT l).2.2=0 then .ok (rdT l).1 (l.drop (rdT l).2.1) else .bad (rdT l).2.2
theorem pText_PP:PP pText textB (fun t=>t.length<=16/\Lib.validD t=true) where
 fwd:=fun t more h=>by
  unfold pText
  rw[rdT_text t more h.1 h.2]
  simp only[]
  rw[if_pos trivial,List.drop_left]
 bwd:=fun l t rest h=>by
  unfold pText at h
  by_cases h0:(rdT l).2.2=0
  ·obtain⟨g1,g2,g3,g4,g5⟩:=xwo l h0
   rw[if_pos h0] at h
   injection h with h3 h4
   subst h3 h4
   exact⟨⟨g1,g2⟩,by rw[g3,List.take_append_drop]⟩
  ·rw[if_neg h0] at h;cases h
 cut:=fun t k h hk=>by
  have hr0:=vz3 t.length t (by have:=h.1;omega)
  have hs:(rdT ((textB t).take k))=([],0,3):=by
   unfold textB at hk ⊢
   rw[zrb] at hk
   by_cases hlt:k<(putN t.length).length
   ·obtain⟨m,j,hr,_,_,_,_,_,h7⟩:=rd_ok (putN t.length++t) (by rw[hr0])
    rw[hr0] at hr
    have hj:j=(putN t.length).length:=by simp at hr;omega
    unfold rdT
    rw[h7 k (by omega)]
    rfl
   ·rw[List.take_append,List.take_of_length_le (by omega)]
    unfold rdT
    rw[vz3 t.length _ (by have:=h.1;omega)]
    simp only[]
    rw[if_neg (by simp),if_neg (by have:=h.1;omega),if_pos (by rw[zrb,List.length_take];omega)]
  unfold pText
  rw[hs];rfl
 err:=fun l e h=>by
  unfold pText at h
  by_cases h0:(rdT l).2.2=0
  ·rw[if_pos h0] at h;cases h
  ·rw[if_neg h0] at h;injection h with h;subst h;exact h0
def pRows {α:Type} (many:Nat) (p:Zlu->Res α) (l:Zlu):Res (List α):=(pNum l).bind fun n r=>if many<n then .bad 2 else pRep p n r
def rowsB {α:Type} (enc:α->Zlu) (l:List α):Zlu:=putN l.length++l.flatMap enc
theorem PP.rows {α:Type} {p:Zlu->Res α} {enc:α->Zlu} {D:α->Prop} (hp:PP p enc D) (many:Nat) (hm:many<=4611686018427387904):PP (pRows many p) (rowsB enc) (fun l=>l.length<=many/\∀x∈l,D x) where
 fwd:=fun l more ⟨h,hd⟩=>by
  unfold pRows rowsB
  rw[zrh,uy5.fwd _ _ (by omega)]
  show(if _ then _ else _)=_
  rw[if_neg (by omega)]
  exact(hp.rep l.length).fwd l more ⟨rfl,hd⟩
 bwd:=fun l xs rest h=>by
  unfold pRows at h
  cases h1:pNum l with
  | bad e=>rw[h1] at h;cases h
  | ok n r =>
   rw[h1] at h
   obtain⟨g1,g2⟩:=uy5.bwd _ _ _ h1
   change (if many<n then _ else _)=_ at h
   by_cases h2:many<n
   ·rw[if_pos h2] at h;cases h
   ·rw[if_neg h2] at h
    obtain⟨⟨g3,g4⟩,g5⟩:=(hp.rep n).bwd _ _ _ h
    unfold rowsB
    exact⟨⟨by omega,g4⟩,by rw[g3,zrh,<- g5];exact g2⟩
 cut:=fun l k ⟨h,hd⟩ hk=>by
  unfold pRows
  unfold rowsB at hk ⊢
  rw[zrb] at hk
  by_cases hlt:k<(putN l.length).length
  ·rw[List.take_append_of_le_length (by omega),uy5.cut _ _ (by omega) hlt];rfl
  ·rw[List.take_append,List.take_of_length_le (by omega),uy5.fwd _ _ (by omega)]
   show(if _ then _ else _)=_
   rw[if_neg (by omega)]
   exact(hp.rep l.length).cut l _ ⟨rfl,hd⟩ (by omega)
 err:=fun l e h=>by
  unfold pRows at h
  cases h1:pNum l with
  | bad e'=>rw[h1] at h;injection h with h;subst h;exact uy5.err _ _ h1
  | ok n r =>
   rw[h1] at h
   change (if many<n then _ else _)=_ at h
   by_cases h2:many<n
   ·rw[if_pos h2] at h;injection h with h;omega
   ·rw[if_neg h2] at h;exact(hp.rep n).err _ _ h
def fitJ (v:Int) (x:JobD):Bool:=(decide (2<v)||x.tag.toList.isEmpty)&&(decide (1<v)||(x.tries == 0))
def fitN (v:Int) (x:NodeD):Bool:=decide (1<v)||x.zone.toList.isEmpty
def fitR (v:Int) (s:St):Bool:=(v == 3)||(s.rev == 0)
def fitsB (s:St) (v:Int):Bool:=fitR v s&&s.jobs.all (fitJ v)&&s.nodes.all (fitN v)
def fitsR (s:St) (v:Int):Bool×Nat:=if uqp s≠0 then(false,uqp s) else if uxg v 1 3 then(fitsB s v,0) else(false,1)
theorem wye {α:Type} (f:α->Bool) (l:List α) (k:Nat) (x:α) (h:l[k]?=some x):(l.take (k+1)).all f=((l.take k).all f&&f x):=by
 rw[List.take_add_one,h,Option.toList_some,List.all_append]
 simp
def pOpt {α:Type} (c:Bool) (p:Zlu->Res α) (a:α) (l:Zlu):Res α:=if c=true then p l else pUnit a l
theorem PP.opt {α:Type} (c:Bool) {p:Zlu->Res α} {enc:α->Zlu} {D:α->Prop} (a:α) (hp:PP p enc D) :
  PP (pOpt c p a) (fun x=>if c=true then enc x else[]) (fun x=>if c=true then D x else x=a):=by
 cases c
 ·exact⟨(PP.unit a).fwd,(PP.unit a).bwd,(PP.unit a).cut,(PP.unit a).err⟩
 ·exact⟨hp.fwd,hp.bwd,hp.cut,hp.err⟩
def okTx (t:Zlu):Prop:=t.length<=16/\Lib.validD t=true
def okNb (n:Int):Prop:=0<=n/\n<=4611686018427387904
def pStr (l:Zlu):Res Zba:=pMap (fun t=>bstr t) pText l
theorem uzl:PP pStr (fun s=>textB s.data.toList) (fun s=>okTx s.data.toList) :=
 pText_PP.map (fun t=>bstr t) (fun s=>s.data.toList) (fun t h=>⟨by rw[uqu];exact h,uqu t⟩) (fun s h=>⟨h,ux3 s⟩) (fun _ _=>rfl)
def pInt (l:Zlu):Res Int:=pMap (fun n:Nat=>(n:Int)) pNum l
theorem uzg:PP pInt (fun n=>putN n.toNat) okNb :=
 uy5.map (fun n:Nat=>(n:Int)) (fun n=>n.toNat) (fun n h=>⟨⟨by omega,by omega⟩,by omega⟩) (fun n h=>⟨by have:=h.2;omega,by have:=h.1;omega⟩) (fun _ _=>rfl)
def encJ (v:Int) (j:JobD):Zlu :=
 textB j.name.data.toList++(putN (zigI j.prio).toNat++(putN j.need.toNat++((if decide (1<v)=true then putN j.tries.toNat else[])++(if decide (2<v)=true then textB j.tag.data.toList else[]))))
def okJb (v:Int) (j:JobD):Prop :=
 okTx j.name.data.toList/\zigI j.prio<=4611686018427387904/\okNb j.need/\(if decide (1<v)=true then okNb j.tries else j.tries=0)/\(if decide (2<v)=true then okTx j.tag.data.toList else j.tag=ByteArray.empty)
def pJob (v:Int) (l:Zlu):Res JobD :=
 pMap (fun x:Zba×Int×Int×Int×Zba=>(⟨x.1,x.2.1,x.2.2.1,x.2.2.2.1,x.2.2.2.2⟩:JobD)) (pSeq pStr fun _=>pSeq pSig fun _=>pSeq pInt fun _=>pSeq (pOpt (decide (1<v)) pInt 0) fun _=>pOpt (decide (2<v)) pStr ByteArray.empty) l
theorem ukl (v:Int):PP (pJob v) (encJ v) (okJb v) :=
 PP.map (enc':=encJ v) (D':=okJb v) (fun x:Zba×Int×Int×Int×Zba=>(⟨x.1,x.2.1,x.2.2.1,x.2.2.2.1,x.2.2.2.2⟩:JobD)) (fun j=>(j.name,j.prio,j.need,j.tries,j.tag))
  (uzl.seq fun _ _=>wxe.seq fun _ _=>uzg.seq fun _ _=>(PP.opt (decide (1<v)) 0 uzg).seq fun _ _=>PP.opt (decide (2<v)) ByteArray.empty uzl)
  (fun x h=>⟨⟨h.1,h.2.1,h.2.2.1,h.2.2.2.1,h.2.2.2.2⟩,rfl⟩) (fun j h=>⟨⟨h.1,h.2.1,h.2.2.1,h.2.2.2.1,h.2.2.2.2⟩,rfl⟩) (fun _ _=>rfl)
def encN (v:Int) (n:NodeD):Zlu:=textB n.name.data.toList++(putN n.room.toNat++(if decide (1<v)=true then textB n.zone.data.toList else[]))
def okNd (v:Int) (n:NodeD):Prop:=okTx n.name.data.toList/\okNb n.room/\(if decide (1<v)=true then okTx n.zone.data.toList else n.zone=ByteArray.empty)
def pNode (v:Int) (l:Zlu):Res NodeD :=
 pMap (fun x:Zba×Int×Zba=>(⟨x.1,x.2.1,x.2.2⟩:NodeD)) (pSeq pStr fun _=>pSeq pInt fun _=>pOpt (decide (1<v)) pStr ByteArray.empty) l
theorem uji (v:Int):PP (pNode v) (encN v) (okNd v) :=
 PP.map (enc':=encN v) (D':=okNd v) (fun x:Zba×Int×Zba=>(⟨x.1,x.2.1,x.2.2⟩:NodeD)) (fun j=>(j.name,j.room,j.zone)) (uzl.seq fun _ _=>uzg.seq fun _ _=>PP.opt (decide (1<v)) ByteArray.empty uzl)
  (fun x h=>⟨⟨h.1,h.2.1,h.2.2⟩,rfl⟩) (fun j h=>⟨⟨h.1,h.2.1,h.2.2⟩,rfl⟩) (fun _ _=>rfl)
def encL (n:uqb):Zlu:=textB n.job.data.toList++(textB n.node.data.toList++putN n.till.toNat)
def okLs (n:uqb):Prop:=okTx n.job.data.toList/\okTx n.node.data.toList/\okNb n.till
def uj8 (l:Zlu):Res uqb:=pMap (fun x:Zba×Zba×Int=>(⟨x.1,x.2.1,x.2.2⟩:uqb)) (pSeq pStr fun _=>pSeq pStr fun _=>pInt) l
theorem uju:PP uj8 encL okLs :=
 PP.map (enc':=encL) (D':=okLs) (fun x:Zba×Zba×Int=>(⟨x.1,x.2.1,x.2.2⟩:uqb)) (fun j=>(j.job,j.node,j.till)) (uzl.seq fun _ _=>uzl.seq fun _ _=>uzg)
  (fun x h=>⟨⟨h.1,h.2.1,h.2.2⟩,rfl⟩) (fun j h=>⟨⟨h.1,h.2.1,h.2.2⟩,rfl⟩) (fun _ _=>rfl)
def encS (v:Int) (s:St):Zlu:=(if decide (2<v)=true then putN s.rev.toNat else[])++(rowsB (encJ v) s.jobs++(rowsB (encN v) s.nodes++rowsB encL s.leases))
def okSt (v:Int) (s:St):Prop :=
 (if decide (2<v)=true then okNb s.rev else s.rev=0)/\(s.jobs.length<=40/\∀x∈s.jobs,okJb v x)/\(s.nodes.length<=20/\∀x∈s.nodes,okNd v x)/\(s.leases.length<=40/\∀x∈s.leases,okLs x)
def vx7 (v:Int) (l:Zlu):Res St :=
 pMap (fun x:Int×List JobD×List NodeD×List uqb=>(⟨x.1,x.2.1,x.2.2.1,x.2.2.2⟩:St)) (pSeq (pOpt (decide (2<v)) pInt 0) fun _=>pSeq (pRows 40 (pJob v)) fun _=>pSeq (pRows 20 (pNode v)) fun _=>pRows 40 uj8) l
theorem ujv (v:Int):PP (vx7 v) (encS v) (okSt v) :=
 PP.map (enc':=encS v) (D':=okSt v) (fun x:Int×List JobD×List NodeD×List uqb=>(⟨x.1,x.2.1,x.2.2.1,x.2.2.2⟩:St)) (fun s=>(s.rev,s.jobs,s.nodes,s.leases))
  ((PP.opt (decide (2<v)) 0 uzg).seq fun _ _=>((ukl v).rows 40 (by decide)).seq fun _ _=>((uji v).rows 20 (by decide)).seq fun _ _=>uju.rows 40 (by decide))
  (fun x h=>⟨⟨h.1,h.2.1,h.2.2.1,h.2.2.2⟩,rfl⟩) (fun j h=>⟨⟨h.1,h.2.1,h.2.2.1,h.2.2.2⟩,rfl⟩) (fun _ _=>rfl)
theorem uzy {s:Zba} (h:uxh s=true):okTx s.data.toList:=by
 unfold uxh uvi at h
 simp only[Bool.and_eq_true,decide_eq_true_eq] at h
 exact⟨by rw[uwa];exact h.2.1,h.2.2⟩
theorem vz6 {s:Zba} (h:uvi s=true):okTx s.data.toList:=by
 unfold uvi at h
 simp only[Bool.and_eq_true,decide_eq_true_eq] at h
 exact⟨by rw[uwa];exact h.1,h.2⟩
theorem wyq {s:Zba} (h:s.toList.isEmpty=true):s=ByteArray.empty:=by
 rw[ByteArray.toList_eq,List.isEmpty_iff] at h
 exact bext h
theorem wwb (v:Int) (s:St) (h:Fine s) (hf:fitsB s v=true) (hv:1<=v/\v<=3):okSt v s:=by
 unfold fitsB at hf
 simp only[Bool.and_eq_true,List.all_eq_true] at hf
 obtain⟨⟨f1,f2⟩,f3⟩:=hf
 refine⟨?_,⟨h.nj,fun x hx=>?_⟩,⟨h.nn,fun x hx=>?_⟩,⟨h.nl,fun x hx=>?_⟩⟩
 ·by_cases h2:2<v
  ·rw[if_pos (decide_eq_true h2)]
   exact⟨h.rev.1,by have:=h.rev.2;omega⟩
  ·rw[if_neg (by simp[h2])]
   unfold fitR at f1
   rw[Bool.or_eq_true] at f1
   rcases f1 with f1 | f1
   ·have:=(beq_iff_eq.1 f1);omega
   ·exact beq_iff_eq.1 f1
 ·have hj:=h.j x hx
  have hf:=f2 x hx
  unfold jobE at hj
  split at hj
  ·rename_i hn
   rw[Bool.and_eq_true] at hn
   split at hj
   ·rename_i hw
    simp only[Bool.and_eq_true,uq2] at hw
    obtain⟨⟨⟨w1,w2⟩,w3,w4⟩,w5,w6⟩:=hw
    unfold fitJ at hf
    simp only[Bool.and_eq_true,Bool.or_eq_true,decide_eq_true_eq] at hf
    refine⟨uzy hn.1,?_,⟨w3,by omega⟩,?_,?_⟩
    ·unfold zigI;split <;> omega
    ·by_cases h1:1<v
     ·rw[if_pos (decide_eq_true h1)];exact⟨w5,by omega⟩
     ·rw[if_neg (by simp[h1])]
      rcases hf.2 with h2 | h2
      ·omega
      ·exact beq_iff_eq.1 h2
    ·by_cases h1:2<v
     ·rw[if_pos (decide_eq_true h1)];exact vz6 hn.2
     ·rw[if_neg (by simp[h1])]
      rcases hf.1 with h2 | h2
      ·omega
      ·exact wyq h2
   ·cases hj
  ·cases hj
 ·have hj:=h.n x hx
  have hf:=f3 x hx
  unfold nodeE at hj
  split at hj
  ·rename_i hn
   rw[Bool.and_eq_true] at hn
   split at hj
   ·rename_i hw
    have hw:=uq2.1 hw
    unfold fitN at hf
    simp only[Bool.or_eq_true,decide_eq_true_eq] at hf
    refine⟨uzy hn.1,⟨hw.1,by omega⟩,?_⟩
    by_cases h1:1<v
    ·rw[if_pos (decide_eq_true h1)];exact vz6 hn.2
    ·rw[if_neg (by simp[h1])]
     rcases hf with h2 | h2
     ·omega
     ·exact wyq h2
   ·cases hj
  ·cases hj
 ·obtain⟨⟨j,hj⟩,⟨n,hn⟩,t1,t2⟩:=uy0 (h.l x hx)
  obtain⟨hjm,hjn⟩:=wjr hj
  obtain⟨hnm,hnn⟩:=vys hn
  have e1:=h.j j hjm
  have e2:=h.n n hnm
  refine⟨?_,?_,⟨t1,by omega⟩⟩
  ·rw[<- hjn]
   unfold jobE at e1
   split at e1
   ·rename_i hq;rw[Bool.and_eq_true] at hq;exact uzy hq.1
   ·cases e1
  ·rw[<- hnn]
   unfold nodeE at e2
   split at e2
   ·rename_i hq;rw[Bool.and_eq_true] at hq;exact uzy hq.1
   ·cases e2
theorem fits_of (v:Int) (s:St) (h:okSt v s) (hv:1<=v/\v<=3):fitsB s v=true:=by
 obtain⟨h1,⟨_,h2⟩,⟨_,h3⟩,_⟩:=h
 unfold fitsB
 simp only[Bool.and_eq_true,List.all_eq_true]
 refine⟨⟨?_,fun x hx=>?_⟩,fun x hx=>?_⟩
 ·unfold fitR
  by_cases h4:2<v
  ·have:v=3:=by omega
   subst this;rfl
  ·rw[if_neg (by simp[h4])] at h1
   rw[h1];simp
 ·obtain⟨_,_,_,h5,h6⟩:=h2 x hx
  unfold fitJ
  simp only[Bool.and_eq_true,Bool.or_eq_true,decide_eq_true_eq]
  refine⟨?_,?_⟩
  ·by_cases h4:2<v
   ·exact .inl h4
   ·rw[if_neg (by simp[h4])] at h6
    rw[h6];exact .inr (by rw[ByteArray.toList_eq];rfl)
  ·by_cases h4:1<v
   ·exact .inl h4
   ·rw[if_neg (by simp[h4])] at h5
    rw[h5];exact .inr rfl
 ·obtain⟨_,_,h5⟩:=h3 x hx
  unfold fitN
  simp only[Bool.or_eq_true,decide_eq_true_eq]
  by_cases h4:1<v
  ·exact .inl h4
  ·rw[if_neg (by simp[h4])] at h5
   rw[h5];exact .inr (by rw[ByteArray.toList_eq];rfl)
inductive DecS where
 | ok (s:St)
 | bad (e:Nat)
def decS (v:Int) (l:Zlu):DecS :=
 match vx7 v l with
 | .bad e=>.bad e
 | .ok s rest=>if rest≠[] then .bad 4 else if uqp s≠0 then .bad (uqp s) else .ok s
theorem decS_enc (v:Int) (s:St) (h:okSt v s) (hc:uqp s=0):decS v (encS v s)=.ok s:=by
 have:=(ujv v).fwd s [] h
 rw[List.append_nil] at this
 unfold decS
 rw[this]
 show(if _ then _ else _)=_
 rw[if_neg (by simp),if_neg (by rw[hc];simp)]
theorem decS_inv (v:Int) (l:Zlu) (s:St) (h:decS v l=.ok s):okSt v s/\uqp s=0/\l=encS v s:=by
 unfold decS at h
 cases h1:vx7 v l with
 | bad e=>rw[h1] at h;cases h
 | ok t rest =>
  rw[h1] at h
  obtain⟨g1,g2⟩:=(ujv v).bwd _ _ _ h1
  change (if _ then _ else if _ then _ else _)=_ at h
  by_cases h2:rest=[]
  ·rw[if_neg (by simp[h2])] at h
   by_cases h3:uqp t=0
   ·rw[if_neg (by simp[h3])] at h
    injection h with h
    subst h
    exact⟨g1,h3,by rw[g2,h2,List.append_nil]⟩
   ·rw[if_pos h3] at h;cases h
  ·rw[if_pos h2] at h;cases h
open Go.RowKit
theorem xz8 (s:St) (p1 p2 p3:Zoa) (c1 c2 c3:Nat) (w:World) (hm:StM w w.heap.size p1 p2 p3 s) (hz:StSz s) (hT:Tabs w) (W:World) (hW:Below w.heap.size w W) :
    Calls prog 35 #[.agg (stv s p1 p2 p3 c1 c2 c3)] W fun e w'=>e=.returned (.int .i64 (uqp s:Int))/\Below W.heap.size W w' :=
  uxw s p1 p2 p3 c1 c2 c3 W ((hm.below hW).more hW.size) hz (hT.below hW)
theorem vj9 (s:St) (v:Int) (p1 p2 p3:Zoa) (c1 c2 c3:Nat) (w:World) (hm:StM w w.heap.size p1 p2 p3 s) (hz:StSz s) (hT:Tabs w) :
    Calls prog 53 #[.agg (stv s p1 p2 p3 c1 c2 c3),.int .i64 v] w fun e w'=>e=.returned (.tuple #[.bool (fitsR s v).1,.int .i64 ((fitsR s v).2:Int)])/\Below w.heap.size w w':=by
  have hc:=xz8 s p1 p2 p3 c1 c2 c3 w hm hz hT
  have hmj:=hm.j
  have hmn:=hm.n
  have hlj:=hz.lj
  have hln:=hz.ln
  have hb0:=zsa w (.cells (stv s p1 p2 p3 c1 c2 c3) 26)
  have bx0:=Blk.new w 26 (stv s p1 p2 p3 c1 c2 c3)
  have hwi:=fun w=>ukc v 1 3 w
  clear hm hz hT
  by_cases h0:uqp s=0
  · rw[h0] at hc
    cases hv:uxg v 1 3
    · have hR:fitsR s v=(false,1):=by unfold fitsR;rw[if_neg (by rw[h0];simp),hv];rfl
      rw[hv] at hwi
      have HR:=zrj hR
      have HC:=zrj hc
      have HW:=zrj hwi
      clear hc hR h0 hv hwi
      go_enter func53,ntmps53
      go_wp2_with fail
      refine(HC.out _ hb0).mono ?_
      rintro e w1 ⟨rfl,hb1⟩
      have hB1:=bthen hb0 hb1
      go_wp2_with fail
      refine(HW.out _).mono ?_
      rintro e w2 ⟨rfl,rfl⟩
      go_wp2_with fail
      go_ret2
      exact⟨by rw[HR.out];rfl,hB1⟩
    · have hR:fitsR s v=(fitsB s v,0):=by unfold fitsR;rw[if_neg (by rw[h0];simp),hv];rfl
      have hv3:=uq2.1 hv
      rw[hv] at hwi
      obtain⟨F,hF⟩:∃F,fitJ v=F:=⟨_,rfl⟩
      obtain⟨G,hG⟩:∃G,fitN v=G:=⟨_,rfl⟩
      obtain⟨r1,hr1⟩:∃r1,fitR v s=r1:=⟨_,rfl⟩
      have hfs:fitsB s v=(r1&&s.jobs.all F&&s.nodes.all G):=by unfold fitsB;rw[hF,hG,hr1]
      have hFx:∀x,F x=((decide (2<v)||x.tag.toList.isEmpty)&&(decide (1<v)||(x.tries == 0))):=fun x=>by rw[<- hF];rfl
      have hGx:∀x,G x=(decide (1<v)||x.zone.toList.isEmpty):=fun x=>by rw[<- hG];rfl
      have hR1:r1=((v == 3)||(s.rev == 0)):=by rw[<- hr1];rfl
      have HR:=zrj hR
      have HC:=zrj hc
      have HW:=zrj hwi
      have HFS:=zrj hfs
      have HF:=zrj hFx
      have HG:=zrj hGx
      have HR1:=zrj hR1
      clear hc hR h0 hv hwi hfs hFx hGx hR1 hF hG hr1
      obtain rfl | rfl | rfl:v=1\/v=2\/v=3:=by omega
      all_goals
        clear hv3
        go_enter func53,ntmps53
        go_wp2_with fail
        refine(HC.out _ hb0).mono ?_
        rintro e w1 ⟨rfl,hb1⟩
        have hB1:=bthen hb0 hb1
        have bx1:=bx0.bl hb1
        have e0:=bx1.c0
        have e1:=bx1.c1
        clear hb1
        go_wp2_with fail
        refine(HW.out _).mono ?_
        rintro e w2 ⟨rfl,rfl⟩
        first
          | (cases hz0:(s.rev == 0)
             all_goals
               have hr1:=HR1.out
               rw[hz0] at hr1
               have HR2:=zrj hr1
               clear hr1)
      all_goals
        go_wp2_with fail
        go_loopw [7,30] (fun b i wr=>∃k:Nat,k<=s.jobs.length/\i=.int .i64 k/\b=.bool (r1&&(s.jobs.take k).all F)/\Below w1.heap.size w1 wr) (fun _ i _=>s.jobs.length-(intOf i).toNat)
        case atStart=>exact⟨0,Nat.zero_le _,rfl,by rw[HR2.out];rfl,zri _ _⟩
        case round =>
          obtain⟨k,hk,rfl,rfl,hbr⟩:=hrel
          by_cases hlt:k<s.jobs.length
          · have hx:s.jobs[k]?=some s.jobs[k]:=zrd hlt
            have hA:(r1&&(s.jobs.take (k+1)).all F)=((r1&&(s.jobs.take k).all F)&&F s.jobs[k]):=by rw[wye F s.jobs k _ hx,Bool.and_assoc]
            have hFx:=HF.out s.jobs[k]
            generalize s.jobs[k]=x at *
            obtain⟨a,ha,hab,_,hat⟩:=(hmj.below (bthen hB1 hbr)).at_ (k:=k) (r:=rowJ x) (by rw[zrg,hx];rfl)
            subst ha
            have hb5:=hbr.alloc hbr.size (.cells (rwJ x) 38)
            generalize(r1&&(s.jobs.take k).all F)=cur at *
            cases cur
            all_goals cases ht:x.tag.toList.isEmpty
            all_goals cases hr:(x.tries == 0)
            all_goals
              rw[ht,hr] at hFx
              rw[hFx] at hA
              have HA:=zrj hA
              clear hA hFx hx
              go_wp2_with(refine uqe rfl _ _ rfl (a.add (k*5)) rfl (rlJ x) _ hat underlying38 rfl uqo ?_)
              go_roundw
              case rel=>exact⟨k+1,by omega,by go_num,by rw[HA.out];rfl,hb5⟩
              case measure=>simp[intOf];omega
          · obtain rfl:k=s.jobs.length:=by omega
            rw[List.take_length]
            have hB2:=bthen hB1 hbr
            have e2:=(bx1.bl hbr).c2
            obtain⟨r2,hr2⟩:∃r2,(r1&&s.jobs.all F)=r2:=⟨_,rfl⟩
            rw[hr2]
            have HR3:=zrj hr2
            clear hr2
            go_wp2_with fail
            go_loopw [7,57] (fun b i wx=>∃k:Nat,k<=s.nodes.length/\i=.int .i64 k/\b=.bool (r2&&(s.nodes.take k).all G)/\Below wr.heap.size wr wx) (fun _ i _=>s.nodes.length-(intOf i).toNat)
            case atStart=>exact⟨0,Nat.zero_le _,rfl,by simp,zri _ _⟩
            case round =>
              obtain⟨k,hk,rfl,rfl,hbx⟩:=hrel
              by_cases hlt:k<s.nodes.length
              · have hx:s.nodes[k]?=some s.nodes[k]:=zrd hlt
                have hA:(r2&&(s.nodes.take (k+1)).all G)=((r2&&(s.nodes.take k).all G)&&G s.nodes[k]):=by rw[wye G s.nodes k _ hx,Bool.and_assoc]
                have hGx:=HG.out s.nodes[k]
                generalize s.nodes[k]=x at *
                obtain⟨a,ha,hab,_,hat⟩:=(hmn.below (bthen hB2 hbx)).at_ (k:=k) (r:=rowN x) (by rw[zrg,hx];rfl)
                subst ha
                have hb5:=hbx.alloc hbx.size (.cells (rwN x) 40)
                generalize(r2&&(s.nodes.take k).all G)=cur at *
                cases cur
                all_goals cases ht:x.zone.toList.isEmpty
                all_goals
                  rw[ht] at hGx
                  rw[hGx] at hA
                  have HA:=zrj hA
                  clear hA hGx hx
                  go_wp2_with(refine uqe rfl _ _ rfl (a.add (k*3)) rfl (rlN x) _ hat underlying40 rfl uqk ?_)
                  go_roundw
                  case rel=>exact⟨k+1,by omega,by go_num,by rw[HA.out];rfl,hb5⟩
                  case measure=>simp[intOf];omega
              · obtain rfl:k=s.nodes.length:=by omega
                rw[List.take_length]
                have hB3:=bthen hB2 hbx
                have hfin:=HFS.out
                rw[HR3.out] at hfin
                have HFIN:=zrj hfin
                clear hfin
                generalize(r2&&s.nodes.all G)=res at *
                go_wp2_with fail
                go_ret2
                exact⟨by rw[HR.out,HFIN.out];rfl,hB3⟩
  · have hR:fitsR s v=(false,uqp s):=by unfold fitsR;rw[if_pos h0]
    have hne:((uqp s:Int) != 0)=true:=by rw[bne_iff_ne];omega
    have HR:=zrj hR
    have HC:=zrj hc
    clear hc hR h0 hwi
    go_enter func53,ntmps53
    go_wp2_with fail
    refine(HC.out _ hb0).mono ?_
    rintro e w1 ⟨rfl,hb1⟩
    have hB1:=bthen hb0 hb1
    go_wp2_with fail
    go_ret2
    exact⟨by rw[HR.out];rfl,hB1⟩
theorem uw0 (s:Zba):Lib.strCells s=uzk s.data.toList:=rfl
section
variable {P:Program} (w:World)
end
theorem Buf.form {U:TypeId} {w:World} {base:Nat} {v:Value} {l:Zlu} (h:Buf U w base v l):∃a c,v=.slice a l.length c:=by
 rcases h.2 with⟨rfl,h0⟩ | ⟨g,cap,cur,rfl,_⟩
 ·exact⟨none,0,by rw[h0]⟩
 ·exact⟨_,cap,rfl⟩
def Wr (w:World) (g:Nat) (l:Zlu):Prop:=∃v,Blk w g 100 #[v]/\Buf 5 w (g+1) v l
theorem Wr.below {w w':World} {g:Nat} {l:Zlu} (h:Wr w g l) (hb:Below w.heap.size w w'):Wr w' g l:=by
 obtain⟨v,h1,h2⟩:=h
 exact⟨v,h1.bl hb,World.ownsRow.kept (row:=none) h2 ⟨hb.os,hb.tape,hb.output,hb.size,fun k hk _=>hb.block k hk⟩ (Classical.em _)⟩
theorem Wr.lt {w:World} {g:Nat} {l:Zlu} (h:Wr w g l):g<w.heap.size:=by obtain⟨v,h1,_⟩:=h;exact h1.lt
theorem vjg {U:TypeId} {w:World} {g:Nat} {v:Value} {l:Zlu} (h:Buf U w (g+1) v l) (i:Nat) (u:Value):Buf U (w.setCell ⟨g,i,none⟩ u) (g+1) v l :=
 World.ownsRow.kept (row:=some g) h ⟨rfl,rfl,rfl,by simp,fun k hk hk2=>Below.heap_setCell w ⟨g,i,none⟩ u k (by intro h0;exact hk2 (by rw[h0]))⟩ (.inr (fun h0=>by have:=(World.ownsRow.lt h g h0).1;omega))
def Keep (U:TypeId) (w w':World):Prop:=∀b t cs,t≠U->Blk w b t cs->Blk w' b t cs
theorem Keep.refl (U:TypeId) (w:World):Keep U w w:=fun _ _ _ _ h=>h
theorem Keep.trans {U:TypeId} {a b c:World} (h1:Keep U a b) (h2:Keep U b c):Keep U a c:=fun k t cs hne h=>h2 k t cs hne (h1 k t cs hne h)
theorem Keep.alloc (U:TypeId) (w:World) (o:Obj):Keep U w (w.alloc o):=fun _ _ _ _ h=>Blk.alloc h o
theorem Keep.own {U:TypeId} {w w':World} {base:Nat} {v:Value} {l:Zlu} (hb:Buf U w base v l) (hg:w.grownBy w' v.ownBlock):Keep U w w':=by
 intro b t cs hne h
 refine(hg.block b h.lt ?_).trans h
 rcases hb.2 with⟨rfl,_⟩ | ⟨g,cap,cur,rfl,_,hc,_⟩
 ·intro h0;cases h0
 ·intro h0
  injection h0 with h0
  subst h0
  unfold Blk at h
  rw[hc] at h
  injection h with h
  injection h with _ h2
  exact hne h2.symm
section
variable {P:Program} (w:World)
theorem uwp {ops:Array Oper} {rest:List Oper} {o:Oper} {a:Act} {Q:Exit->Act->World->Prop} (hgd:o.guard=none) (s x:Operand) (t:TypeId)
  (ho:o.op=.call { callee:=.builtin .append,args:=#[s,x],argTypes:=#[t,t] })
  (U:TypeId) (ht:P.underlying t=some (.slice U)) (hinfo:(P.info? U).map (fun i=>(i.zero,i.size,i.bytes))=some (some (.int .u8 0),1,1))
  (base:Nat) (v:Value) (l:Zlu) (hs:a.eval s=v) (hbuf:Buf U w base v l)
  (ad:Addr) (m c:Nat) (news:Zlu) (hx:a.eval x=.slice (some ad) m c) (hm:m=news.length)
  (hcells:∀j u,news[j]?=some u->w.cell? (ad.add j)=some (.int .u8 (u.toNat:Int))) (hlen:l.length+news.length<=140737488355328) (hbase:base<=w.heap.size)
  (h:∀v' w',Buf U w' base v' (l++news)->Below base w w'->Keep U w w'->wpList P ops Q rest (a.put o.dst v') w'):wpList P ops Q (o::rest) a w:=by
 obtain⟨i0,hi,hz,hz1,hz2⟩:=info_parts hinfo
 subst hm
 refine wpList_append_own w hgd s x t ho base U i0 (.int .u8 0) 1 1 ht hi hz hz1 hz2 rfl (by decide) v l.length (uzk l) hs hbuf ad news.length c (uzk news) hx (by simp[uzk]) ?_ ?_ ?_ ?_ hbase ?_
 ·intro j u hj
  simp only[uzk,zrg,Option.map_eq_some_iff] at hj
  obtain⟨u',hu,rfl⟩:=hj
  exact hcells j u' hu
 ·intro u hu
  simp only[uzk,List.mem_map] at hu
  obtain⟨u',_,rfl⟩:=hu
  rfl
 ·simp only[maxLen];omega
 ·omega
 ·intro v' w' hown hg hat
  refine h v' w' ?_ ?_ (Keep.own hbuf hg)
  ·unfold Buf
   rw[uke,zrb]
   exact hown
  ·refine(zri base w).grown hg hbase (fun k hk=>?_)
   exact(World.ownsRow.lt hbuf k hk).1
theorem uy7 {ops:Array Oper} {rest:List Oper} {o:Oper} {a:Act} {Q:Exit->Act->World->Prop} (hgd:o.guard=none) (s x:Operand) (t u:TypeId)
  (ho:o.op=.call { callee:=.builtin .append,args:=#[s,x],argTypes:=#[t,u] })
  (U:TypeId) (ht:P.underlying t=some (.slice U)) (hu:P.underlying u=some .string) (hinfo:(P.info? U).map (fun i=>(i.zero,i.size,i.bytes))=some (some (.int .u8 0),1,1))
  (base:Nat) (v:Value) (l:Zlu) (hs:a.eval s=v) (hbuf:Buf U w base v l)
  (y:Zba) (hx:a.eval x=.string y) (hlen:l.length+y.size<=140737488355328) (hbase:base<=w.heap.size)
  (h:∀v' w',Buf U w' base v' (l++y.data.toList)->Below base w w'->Keep U w w'->wpList P ops Q rest (a.put o.dst v') w'):wpList P ops Q (o::rest) a w:=by
 obtain⟨i0,hi,hz,hz1,hz2⟩:=info_parts hinfo
 refine Lib.wpList_append_own_string w hgd s x t u ho base U i0 ht hu hi hz hz1 hz2 v l.length (uzk l) hs hbuf y hx (by simp only[maxLen];omega) hlen hbase ?_
 intro v' w' hown hg _
 refine h v' w' ?_ ((zri base w).grown hg hbase (fun k hk=>(World.ownsRow.lt hbuf k hk).1)) (Keep.own hbuf hg)
 unfold Buf
 rw[uke,zrb,<- uw0,uwa]
 exact hown
end
theorem xqn (base:Nat) (v:Value) (l:Zlu) (n:Nat) (w:World) (hn:n<18446744073709551616) (hl:l.length<=70368744177664) (hbuf:Buf 5 w base v l) (hbase:base<=w.heap.size) :
  Calls prog 64 #[v,.int .u64 n] w fun e w'=>∃v',e=.returned v'/\Buf 5 w' base v' (l++putN n)/\Below base w w'/\Keep 5 w w':=by
 have hn':=uqm n hn
 go_enter func64,ntmps64
 go_wp2
 go_loopw [0,1] (fun b i wr=>∃(v':Value) (l':Zlu) (m:Nat),b=v'/\i=.int .u64 m/\m<18446744073709551616/\Buf 5 wr base v' l'/\Hid (l'++putN m=l++putN n)/\Below base w wr/\Keep 5 w wr/\l'.length<=l.length+10) (fun _ i _=>(intOf i).toNat)
 case atStart=>exact⟨v,l,n,rfl,rfl,hn,hbuf,rfl,zri _ _,Keep.refl _ _,by omega⟩
 case round =>
  obtain⟨v',l',m,rfl,rfl,hm,hb,H,hbel,hkp,hlen⟩:=hrel
  have H1:=H.out
  by_cases h128:m<128
  ·have hv:=zrj (vkm m h128)
   rw[ukx m h128] at H1
   have HH:=zrj H1
   clear H1 H
   go_wp2_with(at_builtin;refine uwp _ rfl _ _ 62 rfl 5 underlying62 vq1 base _ l' rfl (hb.alloc _) ⟨wr.heap.size,0,none⟩ 1 1 [UInt8.ofNat m] rfl rfl (vqh _ _ _ _ (congrArg (fun x=>[Value.int .u8 x]) hv.out)) (by simp;omega) (by simp;have:=hbel.size;omega) ?_)
   intro v2 w2 hb2 hbel2 hk2
   go_wp2
   go_ret
   exact⟨v2,rfl,HH.out ▸ hb2,(hbel.alloc (by have:=hbel.size;omega) _).trans hbel2,(hkp.trans ((Keep.alloc _ _ _).trans hk2))⟩
  ·have hv:=zrj (vkn m)
   rw[uvo m h128] at H1
   have HH:=zrj H1
   clear H1 H
   go_wp2_with(at_builtin;refine uwp _ rfl _ _ 62 rfl 5 underlying62 vq1 base _ l' rfl (hb.alloc _) ⟨wr.heap.size,0,none⟩ 1 1 [hiB m] rfl rfl (vqh _ _ _ _ (congrArg (fun x=>[Value.int .u8 x]) hv.out)) (by simp;omega) (by simp;have:=hbel.size;omega) ?_)
   intro v2 w2 hb2 hbel2 hk2
   go_wp2
   go_roundw
   case rel=>exact⟨v2,l'++[hiB m],m / 128,rfl,by go_num,by omega,hb2,by show _=_;rw[zrh];exact HH.out,(hbel.alloc (by have:=hbel.size;omega) _).trans hbel2,(hkp.trans ((Keep.alloc _ _ _).trans hk2)),by have:=congrArg List.length HH.out;have h3:=vk4 (m / 128);simp only[zrb,List.length_cons,List.length_nil] at this ⊢;omega⟩
   case measure=>simp[intOf];omega
theorem Keep.drew (U:TypeId) (w:World):Keep U w w.drew:=fun _ _ _ _ h=>h
theorem Keep.below {U:TypeId} {w w':World} (hb:Below w.heap.size w w'):Keep U w w':=fun _ _ _ _ h=>h.bl hb
def WKeep (g:Nat) (w w':World):Prop:=∀b t cs,t≠5 -> b≠g->Blk w b t cs->Blk w' b t cs
theorem WKeep.of {w w':World} (g:Nat) (h:Keep 5 w w'):WKeep g w w':=fun b t cs hne _ hb=>h b t cs hne hb
theorem WKeep.trans {g:Nat} {a b c:World} (h1:WKeep g a b) (h2:WKeep g b c):WKeep g a c:=fun k t cs hne hg h=>h2 k t cs hne hg (h1 k t cs hne hg h)
theorem WKeep.set_ {g:Nat} {w w':World} (h:WKeep g w w') (i:Nat) (u:Value):WKeep g w (w'.setCell ⟨g,i,none⟩ u):=fun b t cs hne hg hb=>(h b t cs hne hg hb).far hg u
theorem uq5 (g:Nat) (l:Zlu) (n:Int) (w:World) (h:Wr w g l) (hn:0<=n/\n<=4611686018427387904) (hl:l.length<=70368744177664) :
  Calls prog 38 #[zse g,.int .i64 n] w fun e w'=>e=.returned (.tuple #[])/\Wr w' g (l++putN n.toNat)/\Below g w w'/\WKeep g w w':=by
 obtain⟨v,hb,hv⟩:=h
 obtain⟨pa,ca,rfl⟩:=hv.form
 obtain⟨k,rfl⟩:=Int.eq_ofNat_of_zero_le hn.1
 have hw:IntKind.u64.wrap (k:Int)=(k:Int):=by rw[IntKind.wrap_u64];omega
 have c0:=hb.c0
 have hglt:=hb.lt
 go_enter func38,ntmps38
 go_wp2_with fail
 refine(xqn (g+1) _ l k w (by omega) hl hv (by omega)).mono ?_
 rintro e w1 ⟨v1,rfl,hv1,hb1,hk1⟩
 obtain⟨pb,cb,rfl⟩:=hv1.form
 have b1:=hb.below hb1 (by omega)
 have f1:=b1.frozen 0
 have c1:=b1.c0
 rw[zrb] at hv1
 have hW:Wr (w1.setCell ⟨g,0,none⟩ (.slice pb (l.length+(putN k).length) cb)) g (l++putN k):=⟨_,b1.set_ 0 _,vjg hv1 0 _⟩
 have HW:=zrj hW
 have HK:=zrj ((WKeep.of g hk1).set_ 0 (.slice pb (l.length+(putN k).length) cb))
 have hB:Below g w (w1.setCell ⟨g,0,none⟩ (.slice pb (l.length+(putN k).length) cb)):=(hb1.mono (by omega)).setCell (by show g<=g;omega) _
 clear hW hv hv1 hb1 b1
 go_wp2_with fail
 go_end0
 exact⟨rfl,HW.out,hB,HK.out⟩
theorem vq2 (g:Nat) (l:Zlu) (n:Int) (w:World) (h:Wr w g l) (hn : -9223372036854775808<=n/\n<=9223372036854775807) (hl:l.length<=70368744177664) :
  Calls prog 98 #[zse g,.int .i64 n] w fun e w'=>e=.returned (.tuple #[])/\Wr w' g (l++putN (zigI n).toNat)/\Below g w w'/\WKeep g w w':=by
 obtain⟨v,hb,hv⟩:=h
 obtain⟨pa,ca,rfl⟩:=hv.form
 have hz0:=vzo n
 have hz1:=xy1 n hn.1 hn.2
 have hZ:=zrj (fun w=>xy2 n w hn.1 hn.2)
 generalize zigI n=z at *
 obtain⟨k,rfl⟩:=Int.eq_ofNat_of_zero_le hz0
 have c0:=hb.c0
 have hglt:=hb.lt
 go_enter func98,ntmps98
 go_wp2_with fail
 have hvd:Buf 5 w.drew (g+1) (.slice pa l.length ca) l:=World.ownsRow.kept (row:=none) hv ⟨rfl,rfl,rfl,zra _,fun k hk _=>rfl⟩ (Classical.em _)
 have bd:Blk w.drew g 100 #[.slice pa l.length ca]:=hb
 have hglt':g<w.drew.heap.size:=hglt
 have cd:w.drew.cell? ⟨g,0,none⟩=some (.slice pa l.length ca):=c0
 have hBd:Below g w w.drew:=(zri g w).drew
 go_region_law (first
  | (go_simp;go_at_call 146;refine(hZ.out _).mono ?_;rintro e w0 ⟨rfl,rfl⟩)
  | (go_simp;go_at_call 64;refine(xqn (g+1) _ l k _ (by omega) hl hvd hglt').mono ?_;rintro e w1 ⟨v1,rfl,hv1,hb1,hk1⟩;obtain⟨pb,cb,rfl⟩:=hv1.form;have b1:=bd.below hb1 (by omega);have f1:=b1.frozen 0;have c1:w1.cell? ⟨g,0,none⟩=some (.slice pa l.length ca):=b1.cell 0))
 all_goals(
  rw[zrb] at hv1
  have hW:Wr (w1.setCell ⟨g,0,none⟩ (.slice pb (l.length+(putN k).length) cb)) g (l++putN k):=⟨_,b1.set_ 0 _,vjg hv1 0 _⟩
  have HW:=zrj hW
  have HK:=zrj ((WKeep.of g (Keep.trans (Keep.drew _ _) hk1)).set_ 0 (.slice pb (l.length+(putN k).length) cb))
  have hB:Below g w (w1.setCell ⟨g,0,none⟩ (.slice pb (l.length+(putN k).length) cb)):=(hBd.trans (hb1.mono (by omega))).setCell (by show g<=g;omega) _
  clear hW hvd hv1 hb1 b1
  try go_wp2_with fail
  go_end0
  exact⟨rfl,HW.out,hB,HK.out⟩)
theorem uz9 (g:Nat) (l:Zlu) (s:Zba) (w:World) (h:Wr w g l) (hs:okTx s.data.toList) (hl:l.length<=70368744177664) (hT:Tabs w) :
  Calls prog 97 #[zse g,.string s] w fun e w'=>e=.returned (.tuple #[])/\Wr w' g (l++textB s.data.toList)/\Below g w w'/\WKeep g w w':=by
 have hx:=xyo s w hT (by rw[<- ux3 s];exact xyn.2 hs)
 have hlen:(textB s.data.toList).length<=26:=by
  have:=uqm s.data.toList.length (by have:=hs.1;omega)
  have:=hs.1
  unfold textB;rw[zrb];omega
 have hbl:(bstr (textB s.data.toList)).data.toList=textB s.data.toList:=uqu _
 have hbz:(bstr (textB s.data.toList)).size=(textB s.data.toList).length:=uqz _
 generalize textB s.data.toList=t at *
 have HX:=zrj hx
 clear hx hs
 have HL:=zrj hbl
 go_enter func97,ntmps97
 go_wp2_with fail
 refine HX.out.mono ?_
 rintro e w1 ⟨rfl,hb1⟩
 have h1:=h.below hb1
 have hglt:=h.lt
 have hsz:=hb1.size
 have HB1:=zrj hb1
 obtain⟨v,hb,hv⟩:=h1
 obtain⟨pa,ca,rfl⟩:=hv.form
 have c0:=hb.c0
 have hll:l.length+(bstr t).size<=140737488355328:=by omega
 clear hbl hbz hlen
 go_wp2_with(at_builtin;refine uy7 _ rfl _ _ 62 9 rfl 5 underlying62 underlying9 vq1 (g+1) _ l rfl hv (bstr t) rfl hll (by omega) ?_)
 intro v2 w2 hv2 hb2 hk2
 rw[HL.out] at hv2
 obtain⟨pb,cb,rfl⟩:=hv2.form
 have b1:=hb.below hb2 (by omega)
 have f1:=b1.frozen 0
 have c1:=b1.c0
 rw[zrb] at hv2
 have hW:Wr (w2.setCell ⟨g,0,none⟩ (.slice pb (l.length+t.length) cb)) g (l++t):=⟨_,b1.set_ 0 _,vjg hv2 0 _⟩
 have HW:=zrj hW
 have HK:=zrj ((WKeep.of g (Keep.trans (Keep.below HB1.out) hk2)).set_ 0 (.slice pb (l.length+t.length) cb))
 have hB:Below g w (w2.setCell ⟨g,0,none⟩ (.slice pb (l.length+t.length) cb)):=((hb1.mono (by omega)).trans (hb2.mono (by omega))).setCell (by show g<=g;omega) _
 clear hW hv hv2 hb2 b1
 go_wp2_with fail
 go_end0
 exact⟨rfl,HW.out,hB,HK.out⟩
theorem ux9 {t:Zlu} (h:okTx t):(textB t).length<=26:=by
 have:=uqm t.length (by have:=h.1;omega)
 have:=h.1
 unfold textB;rw[zrb];omega
theorem vy7 (g:Nat) (l:Zlu) (j:uqb) (w:World) (h:Wr w g l) (hj:okLs j) (hl:l.length<=70368744177000) (hT:∀w',Below g w w'->Tabs w') :
  Calls prog 61 #[zse g,.agg (rwL j)] w fun e w'=>e=.returned (.tuple #[])/\Wr w' g (l++encL j)/\Below g w w'/\WKeep g w w':=by
 have hglt:=h.lt
 have HT:=zrj hT
 have HJ:=zrj hj
 have len1:=ux9 hj.1
 have len2:=ux9 hj.2.1
 have bX:=Blk.new w 42 (rwL j)
 have h0:Wr (w.alloc (.cells (rwL j) 42)) g l:=h.below ((zri _ _).alloc (zra _) _)
 have B0:Below g w (w.alloc (.cells (rwL j) 42)):=(zri _ _).alloc (by omega) _
 have K0:WKeep g w (w.alloc (.cells (rwL j) 42)):=WKeep.of g (Keep.alloc _ _ _)
 clear hT hj h
 go_enter func61,ntmps61
 have c0:(w.alloc (.cells (rwL j) 42)).cell? ⟨w.heap.size,0,none⟩=some (.string j.job):=bX.cell 0
 go_wp2_with fail
 generalize w.alloc (.cells (rwL j) 42)=W0 at *
 refine(uz9 g l j.job W0 h0 HJ.out.1 (by omega) (HT.out _ B0)).mono ?_
 rintro e w1 ⟨rfl,h1,hb1,k1⟩
 have b1:=k1 _ _ _ (by decide) (by omega) bX
 have B1:=B0.trans hb1
 have K1:=K0.trans k1
 have c1:=b1.c1
 clear c0 bX h0 B0 K0 hb1 k1
 go_wp2_with fail
 refine(uz9 g _ j.node w1 h1 HJ.out.2.1 (by rw[zrb];omega) (HT.out _ B1)).mono ?_
 rintro e w2 ⟨rfl,h2,hb2,k2⟩
 have b2:=k2 _ _ _ (by decide) (by omega) b1
 have B2:=B1.trans hb2
 have K2:=K1.trans k2
 have c2:=b2.c2
 clear c1 b1 h1 B1 K1 hb2 k2
 go_wp2_with fail
 refine(uq5 g _ j.till w2 h2 HJ.out.2.2 (by rw[zrb,zrb];omega)).mono ?_
 rintro e w3 ⟨rfl,h3,hb3,k3⟩
 have B3:=B2.trans hb3
 have K3:=K2.trans k3
 have HW:=zrj (show Wr w3 g (l++encL j) from by unfold encL;rw[<- zrh,<- zrh];exact h3)
 clear h3 h2
 go_wp2_with fail
 go_end0
 exact⟨rfl,HW.out,B3,K3⟩
theorem vkf {n:Int} (h:zigI n<=4611686018427387904) : -9223372036854775808<=n/\n<=9223372036854775807:=by
 unfold zigI at h
 split at h <;> omega
theorem vwy (g:Nat) (l:Zlu) (j:NodeD) (v:Int) (w:World) (h:Wr w g l) (hj:okNd v j) (hl:l.length<=70368744177000) (hT:∀w',Below g w w'->Tabs w') :
  Calls prog 59 #[zse g,.agg (rwN j),.int .i64 v] w fun e w'=>e=.returned (.tuple #[])/\Wr w' g (l++encN v j)/\Below g w w'/\WKeep g w w':=by
 have hglt:=h.lt
 have HT:=zrj hT
 have bX:=Blk.new w 40 (rwN j)
 have h0:Wr (w.alloc (.cells (rwN j) 40)) g l:=h.below ((zri _ _).alloc (zra _) _)
 have B0:Below g w (w.alloc (.cells (rwN j) 40)):=(zri _ _).alloc (by omega) _
 have K0:WKeep g w (w.alloc (.cells (rwN j) 40)):=WKeep.of g (Keep.alloc _ _ _)
 clear hT h
 by_cases hv1:1<v
 ·have hz:okTx j.zone.data.toList:=by have h8:=hj.2.2;rw[if_pos (decide_eq_true hv1)] at h8;exact h8
  have o0:okTx j.name.data.toList:=hj.1
  have len0:=ux9 o0
  have H0:=zrj o0
  clear o0
  have o1:0<=j.room/\j.room<=4611686018427387904:=hj.2.1
  have len1:(putN j.room.toNat).length<=10:=uqm _ (by have:=hj.2.1;omega)
  have H1:=zrj o1
  clear o1
  have o2:okTx j.zone.data.toList:=hz
  have len2:=ux9 o2
  have H2:=zrj o2
  clear o2
  clear hj
  go_enter func59,ntmps59
  have c0:(w.alloc (.cells (rwN j) 40)).cell? ⟨w.heap.size,0,none⟩=some (.string j.name):=bX.cell 0
  go_wp2_with fail
  generalize w.alloc (.cells (rwN j) 40)=W0 at *
  refine(uz9 g _ j.name W0 h0 H0.out (by(repeat rw[zrb]);omega) (HT.out _ B0)).mono ?_
  rintro e w1 ⟨rfl,h1,hb1,k1⟩
  have b1:=k1 _ _ _ (by decide) (by omega) bX
  have B1:=B0.trans hb1
  have K1:=K0.trans k1
  have c1:=b1.c1
  clear c0 bX h0 B0 K0 hb1 k1
  go_wp2_with fail
  refine(uq5 g _ j.room w1 h1 H1.out (by(repeat rw[zrb]);omega)).mono ?_
  rintro e w2 ⟨rfl,h2,hb2,k2⟩
  have b2:=k2 _ _ _ (by decide) (by omega) b1
  have B2:=B1.trans hb2
  have K2:=K1.trans k2
  have c2:=b2.c2
  clear c1 b1 h1 B1 K1 hb2 k2
  go_wp2_with fail
  refine(uz9 g _ j.zone w2 h2 H2.out (by(repeat rw[zrb]);omega) (HT.out _ B2)).mono ?_
  rintro e w3 ⟨rfl,h3,hb3,k3⟩
  have b3:=k3 _ _ _ (by decide) (by omega) b2
  have B3:=B2.trans hb3
  have K3:=K2.trans k3
  have HW:=zrj (show Wr w3 g (l++encN v j) from by have h9:=h3;unfold encN;simp only[zrh] at h9;simpa[hv1] using h9)
  clear h3 h2
  go_wp2_with fail
  go_end0
  exact⟨rfl,HW.out,B3,K3⟩
 ·skip
  have o0:okTx j.name.data.toList:=hj.1
  have len0:=ux9 o0
  have H0:=zrj o0
  clear o0
  have o1:0<=j.room/\j.room<=4611686018427387904:=hj.2.1
  have len1:(putN j.room.toNat).length<=10:=uqm _ (by have:=hj.2.1;omega)
  have H1:=zrj o1
  clear o1
  clear hj
  go_enter func59,ntmps59
  have c0:(w.alloc (.cells (rwN j) 40)).cell? ⟨w.heap.size,0,none⟩=some (.string j.name):=bX.cell 0
  go_wp2_with fail
  generalize w.alloc (.cells (rwN j) 40)=W0 at *
  refine(uz9 g _ j.name W0 h0 H0.out (by(repeat rw[zrb]);omega) (HT.out _ B0)).mono ?_
  rintro e w1 ⟨rfl,h1,hb1,k1⟩
  have b1:=k1 _ _ _ (by decide) (by omega) bX
  have B1:=B0.trans hb1
  have K1:=K0.trans k1
  have c1:=b1.c1
  clear c0 bX h0 B0 K0 hb1 k1
  go_wp2_with fail
  refine(uq5 g _ j.room w1 h1 H1.out (by(repeat rw[zrb]);omega)).mono ?_
  rintro e w2 ⟨rfl,h2,hb2,k2⟩
  have b2:=k2 _ _ _ (by decide) (by omega) b1
  have B2:=B1.trans hb2
  have K2:=K1.trans k2
  have HW:=zrj (show Wr w2 g (l++encN v j) from by have h9:=h2;unfold encN;simp only[zrh] at h9;simpa[if_neg (show ¬(1<v) by omega)] using h9)
  clear h2 h1
  go_wp2_with fail
  go_end0
  exact⟨rfl,HW.out,B2,K2⟩
theorem wxu (g:Nat) (l:Zlu) (j:JobD) (v:Int) (w:World) (h:Wr w g l) (hj:okJb v j) (hl:l.length<=70368744177000) (hT:∀w',Below g w w'->Tabs w') :
  Calls prog 56 #[zse g,.agg (rwJ j),.int .i64 v] w fun e w'=>e=.returned (.tuple #[])/\Wr w' g (l++encJ v j)/\Below g w w'/\WKeep g w w':=by
 have hglt:=h.lt
 have HT:=zrj hT
 have bX:=Blk.new w 38 (rwJ j)
 have h0:Wr (w.alloc (.cells (rwJ j) 38)) g l:=h.below ((zri _ _).alloc (zra _) _)
 have B0:Below g w (w.alloc (.cells (rwJ j) 38)):=(zri _ _).alloc (by omega) _
 have K0:WKeep g w (w.alloc (.cells (rwJ j) 38)):=WKeep.of g (Keep.alloc _ _ _)
 clear hT h
 by_cases hv1:1<v
 ·have h4:okNb j.tries:=by have h8:=hj.2.2.2.1;rw[if_pos (decide_eq_true hv1)] at h8;exact h8
  by_cases hv2:2<v
  ·have h5:okTx j.tag.data.toList:=by have h8:=hj.2.2.2.2;rw[if_pos (decide_eq_true hv2)] at h8;exact h8
   have o0:okTx j.name.data.toList:=hj.1
   have len0:=ux9 o0
   have H0:=zrj o0
   clear o0
   have o1 : -9223372036854775808<=j.prio/\j.prio<=9223372036854775807:=vkf hj.2.1
   have len1:(putN (zigI j.prio).toNat).length<=10:=uqm _ (by have:=hj.2.1;omega)
   have H1:=zrj o1
   clear o1
   have o2:0<=j.need/\j.need<=4611686018427387904:=hj.2.2.1
   have len2:(putN j.need.toNat).length<=10:=uqm _ (by have:=hj.2.2.1;omega)
   have H2:=zrj o2
   clear o2
   have o3:0<=j.tries/\j.tries<=4611686018427387904:=h4
   have len3:(putN j.tries.toNat).length<=10:=uqm _ (by have:=h4;omega)
   have H3:=zrj o3
   clear o3
   have o4:okTx j.tag.data.toList:=h5
   have len4:=ux9 o4
   have H4:=zrj o4
   clear o4
   clear hj
   go_enter func56,ntmps56
   have c0:(w.alloc (.cells (rwJ j) 38)).cell? ⟨w.heap.size,0,none⟩=some (.string j.name):=bX.cell 0
   go_wp2_with fail
   generalize w.alloc (.cells (rwJ j) 38)=W0 at *
   refine(uz9 g _ j.name W0 h0 H0.out (by(repeat rw[zrb]);omega) (HT.out _ B0)).mono ?_
   rintro e w1 ⟨rfl,h1,hb1,k1⟩
   have b1:=k1 _ _ _ (by decide) (by omega) bX
   have B1:=B0.trans hb1
   have K1:=K0.trans k1
   have c1:=b1.c1
   clear c0 bX h0 B0 K0 hb1 k1
   go_wp2_with fail
   refine(vq2 g _ j.prio w1 h1 H1.out (by(repeat rw[zrb]);omega)).mono ?_
   rintro e w2 ⟨rfl,h2,hb2,k2⟩
   have b2:=k2 _ _ _ (by decide) (by omega) b1
   have B2:=B1.trans hb2
   have K2:=K1.trans k2
   have c2:=b2.c2
   clear c1 b1 h1 B1 K1 hb2 k2
   go_wp2_with fail
   refine(uq5 g _ j.need w2 h2 H2.out (by(repeat rw[zrb]);omega)).mono ?_
   rintro e w3 ⟨rfl,h3,hb3,k3⟩
   have b3:=k3 _ _ _ (by decide) (by omega) b2
   have B3:=B2.trans hb3
   have K3:=K2.trans k3
   have c3:=b3.c3
   clear c2 b2 h2 B2 K2 hb3 k3
   go_wp2_with fail
   refine(uq5 g _ j.tries w3 h3 H3.out (by(repeat rw[zrb]);omega)).mono ?_
   rintro e w4 ⟨rfl,h4,hb4,k4⟩
   have b4:=k4 _ _ _ (by decide) (by omega) b3
   have B4:=B3.trans hb4
   have K4:=K3.trans k4
   have c4:=b4.c4
   clear c3 b3 h3 B3 K3 hb4 k4
   go_wp2_with fail
   refine(uz9 g _ j.tag w4 h4 H4.out (by(repeat rw[zrb]);omega) (HT.out _ B4)).mono ?_
   rintro e w5 ⟨rfl,h5,hb5,k5⟩
   have b5:=k5 _ _ _ (by decide) (by omega) b4
   have B5:=B4.trans hb5
   have K5:=K4.trans k5
   have HW:=zrj (show Wr w5 g (l++encJ v j) from by have h9:=h5;unfold encJ;simp only[zrh] at h9;simpa[hv1,hv2] using h9)
   clear h5 h4
   go_wp2_with fail
   go_end0
   exact⟨rfl,HW.out,B5,K5⟩
  ·skip
   have o0:okTx j.name.data.toList:=hj.1
   have len0:=ux9 o0
   have H0:=zrj o0
   clear o0
   have o1 : -9223372036854775808<=j.prio/\j.prio<=9223372036854775807:=vkf hj.2.1
   have len1:(putN (zigI j.prio).toNat).length<=10:=uqm _ (by have:=hj.2.1;omega)
   have H1:=zrj o1
   clear o1
   have o2:0<=j.need/\j.need<=4611686018427387904:=hj.2.2.1
   have len2:(putN j.need.toNat).length<=10:=uqm _ (by have:=hj.2.2.1;omega)
   have H2:=zrj o2
   clear o2
   have o3:0<=j.tries/\j.tries<=4611686018427387904:=h4
   have len3:(putN j.tries.toNat).length<=10:=uqm _ (by have:=h4;omega)
   have H3:=zrj o3
   clear o3
   clear hj
   go_enter func56,ntmps56
   have c0:(w.alloc (.cells (rwJ j) 38)).cell? ⟨w.heap.size,0,none⟩=some (.string j.name):=bX.cell 0
   go_wp2_with fail
   generalize w.alloc (.cells (rwJ j) 38)=W0 at *
   refine(uz9 g _ j.name W0 h0 H0.out (by(repeat rw[zrb]);omega) (HT.out _ B0)).mono ?_
   rintro e w1 ⟨rfl,h1,hb1,k1⟩
   have b1:=k1 _ _ _ (by decide) (by omega) bX
   have B1:=B0.trans hb1
   have K1:=K0.trans k1
   have c1:=b1.c1
   clear c0 bX h0 B0 K0 hb1 k1
   go_wp2_with fail
   refine(vq2 g _ j.prio w1 h1 H1.out (by(repeat rw[zrb]);omega)).mono ?_
   rintro e w2 ⟨rfl,h2,hb2,k2⟩
   have b2:=k2 _ _ _ (by decide) (by omega) b1
   have B2:=B1.trans hb2
   have K2:=K1.trans k2
   have c2:=b2.c2
   clear c1 b1 h1 B1 K1 hb2 k2
   go_wp2_with fail
   refine(uq5 g _ j.need w2 h2 H2.out (by(repeat rw[zrb]);omega)).mono ?_
   rintro e w3 ⟨rfl,h3,hb3,k3⟩
   have b3:=k3 _ _ _ (by decide) (by omega) b2
   have B3:=B2.trans hb3
   have K3:=K2.trans k3
   have c3:=b3.c3
   clear c2 b2 h2 B2 K2 hb3 k3
   go_wp2_with fail
   refine(uq5 g _ j.tries w3 h3 H3.out (by(repeat rw[zrb]);omega)).mono ?_
   rintro e w4 ⟨rfl,h4,hb4,k4⟩
   have b4:=k4 _ _ _ (by decide) (by omega) b3
   have B4:=B3.trans hb4
   have K4:=K3.trans k4
   have HW:=zrj (show Wr w4 g (l++encJ v j) from by have h9:=h4;unfold encJ;simp only[zrh] at h9;simpa[hv1,if_neg (show ¬(2<v) by omega)] using h9)
   clear h4 h3
   go_wp2_with fail
   go_end0
   exact⟨rfl,HW.out,B4,K4⟩
 ·have hv2:¬2<v:=by omega
  have o0:okTx j.name.data.toList:=hj.1
  have len0:=ux9 o0
  have H0:=zrj o0
  clear o0
  have o1 : -9223372036854775808<=j.prio/\j.prio<=9223372036854775807:=vkf hj.2.1
  have len1:(putN (zigI j.prio).toNat).length<=10:=uqm _ (by have:=hj.2.1;omega)
  have H1:=zrj o1
  clear o1
  have o2:0<=j.need/\j.need<=4611686018427387904:=hj.2.2.1
  have len2:(putN j.need.toNat).length<=10:=uqm _ (by have:=hj.2.2.1;omega)
  have H2:=zrj o2
  clear o2
  clear hj
  go_enter func56,ntmps56
  have c0:(w.alloc (.cells (rwJ j) 38)).cell? ⟨w.heap.size,0,none⟩=some (.string j.name):=bX.cell 0
  go_wp2_with fail
  generalize w.alloc (.cells (rwJ j) 38)=W0 at *
  refine(uz9 g _ j.name W0 h0 H0.out (by(repeat rw[zrb]);omega) (HT.out _ B0)).mono ?_
  rintro e w1 ⟨rfl,h1,hb1,k1⟩
  have b1:=k1 _ _ _ (by decide) (by omega) bX
  have B1:=B0.trans hb1
  have K1:=K0.trans k1
  have c1:=b1.c1
  clear c0 bX h0 B0 K0 hb1 k1
  go_wp2_with fail
  refine(vq2 g _ j.prio w1 h1 H1.out (by(repeat rw[zrb]);omega)).mono ?_
  rintro e w2 ⟨rfl,h2,hb2,k2⟩
  have b2:=k2 _ _ _ (by decide) (by omega) b1
  have B2:=B1.trans hb2
  have K2:=K1.trans k2
  have c2:=b2.c2
  clear c1 b1 h1 B1 K1 hb2 k2
  go_wp2_with fail
  refine(uq5 g _ j.need w2 h2 H2.out (by(repeat rw[zrb]);omega)).mono ?_
  rintro e w3 ⟨rfl,h3,hb3,k3⟩
  have b3:=k3 _ _ _ (by decide) (by omega) b2
  have B3:=B2.trans hb3
  have K3:=K2.trans k3
  have HW:=zrj (show Wr w3 g (l++encJ v j) from by have h9:=h3;unfold encJ;simp only[zrh] at h9;simpa[if_neg (show ¬(1<v) by omega),if_neg (show ¬(2<v) by omega)] using h9)
  clear h3 h2
  go_wp2_with fail
  go_end0
  exact⟨rfl,HW.out,B3,K3⟩
end Go.Proofs.YtknmnhleicakhaaGreatDoor
