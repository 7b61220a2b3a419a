/- Lemmas.
-/
import Derived.Test.YtnnfgchhkekkeacGreatDoorPvSrvP
import Derived.Test.YtnnfgchhkekkeacGreatDoorPvDelD
set_option linter.all false
set_option maxHeartbeats 16000000
set_option maxRecDepth 100000
namespace Go.Proofs.YtnnfgchhkekkeacGreatDoor
open Go.Proofs.Tryz
def noQ:ReqD:=⟨0,noJ,noN,noL,ByteArray.empty,0⟩
def partB (q:ReqD):Zlu :=
 if q.kind=1 then encJ 3 q.job else
 if q.kind=2 then encN 3 q.node else
 if q.kind=5 then encL q.lease else
 if q.kind=3\/q.kind=4\/q.kind=6 then textB q.name.data.toList else
 if q.kind=7 then putN q.n.toNat else[]
def encQ (q:ReqD):Zlu:=putN q.kind.toNat++partB q
def encQR (q:ReqD):Zlu×Nat:=if reqE q≠0 then([],reqE q) else(encQ q,0)
def pPart (k:Int) (l:Zlu):Res ReqD :=
 if k=1 then pMap (fun j=>⟨1,j,noN,noL,ByteArray.empty,0⟩) (pJob 3) l else
 if k=2 then pMap (fun n=>⟨2,noJ,n,noL,ByteArray.empty,0⟩) (pNode 3) l else
 if k=5 then pMap (fun x=>⟨5,noJ,noN,x,ByteArray.empty,0⟩) uk3 l else
 if k=3\/k=4\/k=6 then pMap (fun s=>⟨k,noJ,noN,noL,s,0⟩) pStr l else
 if k=7 then pMap (fun n=>⟨7,noJ,noN,noL,ByteArray.empty,n⟩) pInt l else
 pUnit ⟨k,noJ,noN,noL,ByteArray.empty,0⟩ l
def finQ (r:Res ReqD):ReqD×Nat:=match r with
 | .bad e=>(noQ,e)
 | .ok q r'=>if r'≠[] then(noQ,4) else if reqE q≠0 then(noQ,reqE q) else(q,0)
def decQR (l:Zlu):ReqD×Nat:=match pInt l with
 | .bad e=>(noQ,e)
 | .ok k r=>if 1<=k/\k<=9 then finQ (pPart k r) else(noQ,1)
theorem uz6 {q:ReqD} (h:reqE q=0):(1<=q.kind/\q.kind<=9)/\uzh q=q/\partE q=0:=by
 unfold reqE at h
 by_cases h1:1<=q.kind/\q.kind<=9
 ·rw[if_pos h1] at h
  by_cases h2:uzh q=q
  ·rw[if_pos h2] at h;exact⟨h1,h2,h⟩
  ·rw[if_neg h2] at h;cases h
 ·rw[if_neg h1] at h;cases h
theorem xq7 {q:ReqD} (h:reqE q=0) (m:Zlu):pPart q.kind (partB q++m)=.ok q m:=by
 obtain⟨hk,hw,hp⟩:=uz6 h
 unfold pPart partB
 by_cases k1:q.kind=1
 ·rw[if_pos k1,if_pos k1]
  have hj:jobE q.job=0:=by unfold partE at hp;rwa [if_pos k1] at hp
  unfold pMap
  rw[(uvk 3).fwd q.job m (vqs hj)]
  unfold uzh at hw
  rw[if_pos k1] at hw
  exact congrArg (fun z=>Res.ok z m) hw
 rw[if_neg k1,if_neg k1]
 by_cases k2:q.kind=2
 ·rw[if_pos k2,if_pos k2]
  have hj:nodeE q.node=0:=by unfold partE at hp;rwa [if_neg k1,if_pos k2] at hp
  unfold pMap
  rw[(ukd 3).fwd q.node m (uyf hj)]
  unfold uzh at hw
  rw[if_neg k1,if_pos k2] at hw
  exact congrArg (fun z=>Res.ok z m) hw
 rw[if_neg k2,if_neg k2]
 by_cases k5:q.kind=5
 ·rw[if_pos k5,if_pos k5]
  have hj:ux0 q.lease=0:=by unfold partE at hp;rwa [if_neg k1,if_neg k2,if_pos k5] at hp
  unfold pMap
  rw[ujt.fwd q.lease m (uwe hj)]
  unfold uzh at hw
  rw[if_neg k1,if_neg k2,if_pos k5] at hw
  exact congrArg (fun z=>Res.ok z m) hw
 rw[if_neg k5,if_neg k5]
 by_cases k3:q.kind=3\/q.kind=4\/q.kind=6
 ·rw[if_pos k3,if_pos k3]
  have hj:uq9 q.name=true:=by
   unfold partE at hp;rw[if_neg k1,if_neg k2,if_neg k5,if_pos k3] at hp
   cases hn:uq9 q.name
   ·rw[hn] at hp;cases hp
   ·rfl
  unfold pMap
  rw[uzn.fwd q.name m (uzf hj)]
  unfold uzh at hw
  rw[if_neg k1,if_neg k2,if_neg k5,if_pos k3] at hw
  exact congrArg (fun z=>Res.ok z m) hw
 rw[if_neg k3,if_neg k3]
 by_cases k7:q.kind=7
 ·rw[if_pos k7,if_pos k7]
  have hj:uq5 q.n 0 1099511627776=true:=by
   unfold partE at hp;rw[if_neg k1,if_neg k2,if_neg k5,if_neg k3,if_pos k7] at hp
   cases hn:uq5 q.n 0 1099511627776
   ·rw[hn] at hp;cases hp
   ·rfl
  have hb:=uqs.1 hj
  unfold pMap
  rw[ux1.fwd q.n m ⟨hb.1,by omega⟩]
  unfold uzh at hw
  rw[if_neg k1,if_neg k2,if_neg k5,if_neg k3,if_pos k7] at hw
  exact congrArg (fun z=>Res.ok z m) hw
 ·rw[if_neg k7,if_neg k7]
  unfold uzh at hw
  rw[if_neg k1,if_neg k2,if_neg k5,if_neg k3,if_neg k7] at hw
  exact congrArg (fun z=>Res.ok z m) hw
theorem wyf {q:ReqD} (h:reqE q=0):decQR (encQ q)=(q,0):=by
 obtain⟨hk,_,_⟩:=uz6 h
 unfold decQR encQ
 rw[ux1.fwd q.kind _ ⟨by omega,by omega⟩]
 simp only[]
 rw[if_pos hk]
 have:=xq7 h []
 rw[List.append_nil] at this
 rw[this]
 unfold finQ
 simp only[]
 rw[if_neg (by simp),if_neg (by rw[h];simp)]
theorem decQR_ok {l:Zlu} (h:(decQR l).2=0):reqE (decQR l).1=0:=by
 have hfin:∀r:Res ReqD,(∀e,r=.bad e->e≠0)->(finQ r).2=0->reqE (finQ r).1=0:=by
  intro r hr h
  cases r with
  | bad e=>exact absurd h (hr e rfl)
  | ok q r' =>
   unfold finQ at h ⊢
   simp only[] at h ⊢
   by_cases h1:r'≠[]
   ·rw[if_pos h1] at h;cases h
   ·rw[if_neg h1] at h ⊢
    by_cases h2:reqE q≠0
    ·rw[if_pos h2] at h;exact absurd h h2
    ·rw[if_neg h2];simpa using h2
 have herr:∀k r e,pPart k r=.bad e->e≠0:=by
  intro k r e he
  have hm:∀{α:Type} (f:α->ReqD) (p:Zlu->Res α),(∀l e,p l=.bad e->e≠0)->pMap f p r=.bad e->e≠0:=by
   intro α f p hp h
   unfold pMap at h
   cases h4:p r with
   | bad e'=>rw[h4] at h;injection h with h;subst h;exact hp _ _ h4
   | ok a r=>rw[h4] at h;cases h
  unfold pPart at he
  split at he
  ·exact hm _ _ (uvk 3).err he
  split at he
  ·exact hm _ _ (ukd 3).err he
  split at he
  ·exact hm _ _ ujt.err he
  split at he
  ·exact hm _ _ uzn.err he
  split at he
  ·exact hm _ _ ux1.err he
  ·cases he
 unfold decQR at h ⊢
 cases hp:pInt l with
 | bad e=>rw[hp] at h;exact absurd h (ux1.err _ _ hp)
 | ok k r =>
  rw[hp] at h
  simp only[] at h ⊢
  by_cases hk:1<=k/\k<=9
  ·rw[if_pos hk] at h ⊢
   exact hfin _ (herr k r) h
  ·rw[if_neg hk] at h;cases h
theorem ujh {t:Zlu} (h:okTx t):(textB t).length<=26:=by
 have:=uqn t.length (by have:=h.1;omega)
 have:=h.1
 unfold textB;rw[zrb];omega
theorem wv3 {v:Int} {j:JobD} (h:okJb v j):(encJ v j).length<=82:=by
 have h1:=ujh h.1
 have h2:(putN (zigI j.prio).toNat).length<=10:=uqn _ (by have:=h.2.1;omega)
 have h3:(putN j.need.toNat).length<=10:=uqn _ (by have:=h.2.2.1.2;omega)
 have h4:(if decide (1<v)=true then putN j.tries.toNat else[]).length<=10:=by
  have h9:=h.2.2.2.1
  split
  ·rename_i hv;rw[if_pos hv] at h9;exact uqn _ (by have:=h9.2;omega)
  ·simp
 have h5:(if decide (2<v)=true then textB j.tag.data.toList else[]).length<=26:=by
  have h9:=h.2.2.2.2
  split
  ·rename_i hv;rw[if_pos hv] at h9;exact ujh h9
  ·simp
 unfold encJ
 rw[zrb,zrb,zrb,zrb];omega
theorem wv5 {v:Int} {j:NodeD} (h:okNd v j):(encN v j).length<=62:=by
 have h1:=ujh h.1
 have h2:(putN j.room.toNat).length<=10:=uqn _ (by have:=h.2.1.2;omega)
 have h3:(if decide (1<v)=true then textB j.zone.data.toList else[]).length<=26:=by
  have h9:=h.2.2
  split
  ·rename_i hv;rw[if_pos hv] at h9;exact ujh h9
  ·simp
 unfold encN
 rw[zrb,zrb];omega
theorem wv4 {j:uqc} (h:okLs j):(encL j).length<=62:=by
 have h1:=ujh h.1
 have h2:=ujh h.2.1
 have h3:(putN j.till.toNat).length<=10:=uqn _ (by have:=h.2.2.2;omega)
 unfold encL
 rw[zrb,zrb];omega
theorem vvw {q:ReqD} (h:reqE q=0):(encQ q).length<=110:=by
 obtain⟨hk,hw,hp⟩:=uz6 h
 unfold encQ
 rw[zrb]
 have h1:=uqn q.kind.toNat (by omega)
 have h2:(partB q).length<=100:=by
  unfold partB
  unfold partE at hp
  split
  ·rename_i k1
   rw[if_pos k1] at hp
   have:=wv3 (vqs hp);omega
  rename_i k1
  rw[if_neg k1] at hp
  split
  ·rename_i k2
   rw[if_pos k2] at hp
   have:=wv5 (uyf hp);omega
  rename_i k2
  rw[if_neg k2] at hp
  split
  ·rename_i k5
   rw[if_pos k5] at hp
   have:=wv4 (uwe hp);omega
  rename_i k5
  rw[if_neg k5] at hp
  split
  ·rename_i k3
   rw[if_pos k3] at hp
   have hj:uq9 q.name=true:=by
    cases hn:uq9 q.name
    ·rw[hn] at hp;cases hp
    ·rfl
   have:=ujh (uzf hj);omega
  rename_i k3
  rw[if_neg k3] at hp
  split
  ·rename_i k7
   rw[if_pos k7] at hp
   have hj:uq5 q.n 0 1099511627776=true:=by
    cases hn:uq5 q.n 0 1099511627776
    ·rw[hn] at hp;cases hp
    ·rfl
   have hb:=uqs.1 hj
   have:=uqn q.n.toNat (by omega);omega
  ·simp
 omega
def Low {α:Type} (p:Zlu->Res α):Prop:=∀l e,p l=.bad e->e<=9
theorem vwf:∀(f i n:Nat) (l:Zlu),(rdN f i n l).2.2<=9
 | 0,_,_,_=>by show 4<=9;decide
 | _+1,_,_,[]=>by show 3<=9;decide
 | f+1,i,n,c::r=>by
  unfold rdN
  split
  ·show 4<=9;decide
  ·split
   ·show 0<=9;decide
   ·exact vwf f _ _ r
theorem rdT_low (l:Zlu):(rdT l).2.2<=9:=by
 unfold rdT
 split
 ·exact vwf _ _ _ _
 split
 ·show 2<=9;decide
 split
 ·show 3<=9;decide
 split
 ·show 0<=9;decide
 ·show 4<=9;decide
theorem wj2:Low pNum:=by
 intro l e h
 unfold pNum at h
 split at h
 ·split at h
  ·injection h with h;omega
  ·cases h
 ·injection h with h;rw[<- h];exact vwf _ _ _ _
theorem xq9:Low pText:=by
 intro l e h
 unfold pText at h
 split at h
 ·cases h
 ·injection h with h;rw[<- h];exact rdT_low _
theorem vvi {α β:Type} {r:Res α} {f:α->Zlu->Res β} (hr:∀e,r=.bad e->e<=9) (hf:∀a,Low (f a)):∀e,r.bind f=.bad e->e<=9:=by
 intro e h
 cases r with
 | bad e'=>exact hr e (by unfold Res.bind at h;injection h with h;rw[h])
 | ok a m=>exact hf a m e h
theorem uk2 {α β:Type} (f:α->β) {p:Zlu->Res α} (hp:Low p):Low (pMap f p):=by
 intro l e h
 exact vvi (hp l) (fun a m e h=>by cases h) e h
theorem uwv {α β:Type} {p:Zlu->Res α} {q:α->Zlu->Res β} (hp:Low p) (hq:∀a,Low (q a)):Low (pSeq p q):=by
 intro l e h
 unfold pSeq at h
 refine vvi (hp l) (fun a m e h=>?_) e h
 exact vvi (hq a m) (fun b n e h=>by cases h) e h
theorem wkr {α:Type} (a:α):Low (pUnit a):=fun l e h=>by cases h
theorem wzg {α:Type} (c:Bool) {p:Zlu->Res α} (a:α) (hp:Low p):Low (pOpt c p a):=by
 intro l e h
 unfold pOpt at h
 split at h
 ·exact hp l e h
 ·exact wkr a l e h
theorem uyj:Low pInt:=uk2 _ wj2
theorem pSig_low:Low pSig:=uk2 _ wj2
theorem uwh:Low pStr:=uk2 _ xq9
theorem pJob_low (v:Int):Low (pJob v):=uk2 _ (uwv uwh fun _=>uwv pSig_low fun _=>uwv uyj fun _=>uwv (wzg _ _ uyj) fun _=>wzg _ _ uwh)
theorem xq6 (v:Int):Low (pNode v):=uk2 _ (uwv uwh fun _=>uwv uyj fun _=>wzg _ _ uwh)
theorem wvy:Low uk3:=uk2 _ (uwv uwh fun _=>uwv uwh fun _=>uyj)
theorem xq8 (k:Int):Low (pPart k):=by
 intro l e h
 unfold pPart at h
 split at h
 ·exact uk2 _ (pJob_low 3) l e h
 split at h
 ·exact uk2 _ (xq6 3) l e h
 split at h
 ·exact uk2 _ wvy l e h
 split at h
 ·exact uk2 _ uwh l e h
 split at h
 ·exact uk2 _ uyj l e h
 ·exact wkr _ l e h
end Go.Proofs.YtnnfgchhkekkeacGreatDoor
