/- Lemmas.
-/
import Derived.Test.YtknmnhleicakhaaGreatDoorPtDelD
import Derived.Test.YtknmnhleicakhaaGreatDoorPtReqB
set_option linter.all false
set_option maxHeartbeats 16000000
set_option maxRecDepth 100000
namespace Go.Proofs.YtknmnhleicakhaaGreatDoor
open Go.Proofs.Tryz
def noQ:ReqD:=⟨0,noJ,noN,noL,ByteArray.empty,0⟩
def partB (q:ReqD):Zlu :=
 if q.kind=1 then encJ 3 q.job else
 if q.kind=2 then encN 3 q.node else
 if q.kind=5 then encL q.lease else
 if q.kind=3\/q.kind=4\/q.kind=6 then textB q.name.data.toList else
 if q.kind=7 then putN q.n.toNat else[]
def encQ (q:ReqD):Zlu:=putN q.kind.toNat++partB q
def encQR (q:ReqD):Zlu×Nat:=if reqE q≠0 then([],reqE q) else(encQ q,0)
def pPart (k:Int) (l:Zlu):Res ReqD :=
 if k=1 then pMap (fun j=>⟨1,j,noN,noL,ByteArray.empty,0⟩) (pJob 3) l else
 if k=2 then pMap (fun n=>⟨2,noJ,n,noL,ByteArray.empty,0⟩) (pNode 3) l else
 if k=5 then pMap (fun x=>⟨5,noJ,noN,x,ByteArray.empty,0⟩) uj8 l else
 if k=3\/k=4\/k=6 then pMap (fun s=>⟨k,noJ,noN,noL,s,0⟩) pStr l else
 if k=7 then pMap (fun n=>⟨7,noJ,noN,noL,ByteArray.empty,n⟩) pInt l else
 pUnit ⟨k,noJ,noN,noL,ByteArray.empty,0⟩ l
def finQ (r:Res ReqD):ReqD×Nat:=match r with
 | .bad e=>(noQ,e)
 | .ok q r'=>if r'≠[] then(noQ,4) else if reqE q≠0 then(noQ,reqE q) else(q,0)
def decQR (l:Zlu):ReqD×Nat:=match pInt l with
 | .bad e=>(noQ,e)
 | .ok k r=>if 1<=k/\k<=9 then finQ (pPart k r) else(noQ,1)
theorem ujs {q:ReqD} (h:reqE q=0):(1<=q.kind/\q.kind<=9)/\uz2 q=q/\partE q=0:=by
 unfold reqE at h
 by_cases h1:1<=q.kind/\q.kind<=9
 ·rw[if_pos h1] at h
  by_cases h2:uz2 q=q
  ·rw[if_pos h2] at h;exact⟨h1,h2,h⟩
  ·rw[if_neg h2] at h;cases h
 ·rw[if_neg h1] at h;cases h
theorem xv1 {q:ReqD} (h:reqE q=0) (m:Zlu):pPart q.kind (partB q++m)=.ok q m:=by
 obtain⟨hk,hw,hp⟩:=ujs h
 unfold pPart partB
 by_cases k1:q.kind=1
 ·rw[if_pos k1,if_pos k1]
  have hj:jobE q.job=0:=by unfold partE at hp;rwa [if_pos k1] at hp
  unfold pMap
  rw[(ukl 3).fwd q.job m (vzy hj)]
  unfold uz2 at hw
  rw[if_pos k1] at hw
  exact congrArg (fun z=>Res.ok z m) hw
 rw[if_neg k1,if_neg k1]
 by_cases k2:q.kind=2
 ·rw[if_pos k2,if_pos k2]
  have hj:nodeE q.node=0:=by unfold partE at hp;rwa [if_neg k1,if_pos k2] at hp
  unfold pMap
  rw[(uji 3).fwd q.node m (vxm hj)]
  unfold uz2 at hw
  rw[if_neg k1,if_pos k2] at hw
  exact congrArg (fun z=>Res.ok z m) hw
 rw[if_neg k2,if_neg k2]
 by_cases k5:q.kind=5
 ·rw[if_pos k5,if_pos k5]
  have hj:uzi q.lease=0:=by unfold partE at hp;rwa [if_neg k1,if_neg k2,if_pos k5] at hp
  unfold pMap
  rw[uju.fwd q.lease m (uyz hj)]
  unfold uz2 at hw
  rw[if_neg k1,if_neg k2,if_pos k5] at hw
  exact congrArg (fun z=>Res.ok z m) hw
 rw[if_neg k5,if_neg k5]
 by_cases k3:q.kind=3\/q.kind=4\/q.kind=6
 ·rw[if_pos k3,if_pos k3]
  have hj:uxh q.name=true:=by
   unfold partE at hp;rw[if_neg k1,if_neg k2,if_neg k5,if_pos k3] at hp
   cases hn:uxh q.name
   ·rw[hn] at hp;cases hp
   ·rfl
  unfold pMap
  rw[uzl.fwd q.name m (uzy hj)]
  unfold uz2 at hw
  rw[if_neg k1,if_neg k2,if_neg k5,if_pos k3] at hw
  exact congrArg (fun z=>Res.ok z m) hw
 rw[if_neg k3,if_neg k3]
 by_cases k7:q.kind=7
 ·rw[if_pos k7,if_pos k7]
  have hj:uxg q.n 0 1099511627776=true:=by
   unfold partE at hp;rw[if_neg k1,if_neg k2,if_neg k5,if_neg k3,if_pos k7] at hp
   cases hn:uxg q.n 0 1099511627776
   ·rw[hn] at hp;cases hp
   ·rfl
  have hb:=uq2.1 hj
  unfold pMap
  rw[uzg.fwd q.n m ⟨hb.1,by omega⟩]
  unfold uz2 at hw
  rw[if_neg k1,if_neg k2,if_neg k5,if_neg k3,if_pos k7] at hw
  exact congrArg (fun z=>Res.ok z m) hw
 ·rw[if_neg k7,if_neg k7]
  unfold uz2 at hw
  rw[if_neg k1,if_neg k2,if_neg k5,if_neg k3,if_neg k7] at hw
  exact congrArg (fun z=>Res.ok z m) hw
theorem xkg {q:ReqD} (h:reqE q=0):decQR (encQ q)=(q,0):=by
 obtain⟨hk,_,_⟩:=ujs h
 unfold decQR encQ
 rw[uzg.fwd q.kind _ ⟨by omega,by omega⟩]
 simp only[]
 rw[if_pos hk]
 have:=xv1 h []
 rw[List.append_nil] at this
 rw[this]
 unfold finQ
 simp only[]
 rw[if_neg (by simp),if_neg (by rw[h];simp)]
theorem decQR_ok {l:Zlu} (h:(decQR l).2=0):reqE (decQR l).1=0:=by
 have hfin:∀r:Res ReqD,(∀e,r=.bad e->e≠0)->(finQ r).2=0->reqE (finQ r).1=0:=by
  intro r hr h
  cases r with
  | bad e=>exact absurd h (hr e rfl)
  | ok q r' =>
   unfold finQ at h ⊢
   simp only[] at h ⊢
   by_cases h1:r'≠[]
   ·rw[if_pos h1] at h;cases h
   ·rw[if_neg h1] at h ⊢
    by_cases h2:reqE q≠0
    ·rw[if_pos h2] at h;exact absurd h h2
    ·rw[if_neg h2];simpa using h2
 have herr:∀k r e,pPart k r=.bad e->e≠0:=by
  intro k r e he
  have hm:∀{α:Type} (f:α->ReqD) (p:Zlu->Res α),(∀l e,p l=.bad e->e≠0)->pMap f p r=.bad e->e≠0:=by
   intro α f p hp h
   unfold pMap at h
   cases h4:p r with
   | bad e'=>rw[h4] at h;injection h with h;subst h;exact hp _ _ h4
   | ok a r=>rw[h4] at h;cases h
  unfold pPart at he
  split at he
  ·exact hm _ _ (ukl 3).err he
  split at he
  ·exact hm _ _ (uji 3).err he
  split at he
  ·exact hm _ _ uju.err he
  split at he
  ·exact hm _ _ uzl.err he
  split at he
  ·exact hm _ _ uzg.err he
  ·cases he
 unfold decQR at h ⊢
 cases hp:pInt l with
 | bad e=>rw[hp] at h;exact absurd h (uzg.err _ _ hp)
 | ok k r =>
  rw[hp] at h
  simp only[] at h ⊢
  by_cases hk:1<=k/\k<=9
  ·rw[if_pos hk] at h ⊢
   exact hfin _ (herr k r) h
  ·rw[if_neg hk] at h;cases h
theorem uj1 {t:Zlu} (h:okTx t):(textB t).length<=26:=by
 have:=uqm t.length (by have:=h.1;omega)
 have:=h.1
 unfold textB;rw[zrb];omega
theorem xzo {v:Int} {j:JobD} (h:okJb v j):(encJ v j).length<=82:=by
 have h1:=uj1 h.1
 have h2:(putN (zigI j.prio).toNat).length<=10:=uqm _ (by have:=h.2.1;omega)
 have h3:(putN j.need.toNat).length<=10:=uqm _ (by have:=h.2.2.1.2;omega)
 have h4:(if decide (1<v)=true then putN j.tries.toNat else[]).length<=10:=by
  have h9:=h.2.2.2.1
  split
  ·rename_i hv;rw[if_pos hv] at h9;exact uqm _ (by have:=h9.2;omega)
  ·simp
 have h5:(if decide (2<v)=true then textB j.tag.data.toList else[]).length<=26:=by
  have h9:=h.2.2.2.2
  split
  ·rename_i hv;rw[if_pos hv] at h9;exact uj1 h9
  ·simp
 unfold encJ
 rw[zrb,zrb,zrb,zrb];omega
theorem xzq {v:Int} {j:NodeD} (h:okNd v j):(encN v j).length<=62:=by
 have h1:=uj1 h.1
 have h2:(putN j.room.toNat).length<=10:=uqm _ (by have:=h.2.1.2;omega)
 have h3:(if decide (1<v)=true then textB j.zone.data.toList else[]).length<=26:=by
  have h9:=h.2.2
  split
  ·rename_i hv;rw[if_pos hv] at h9;exact uj1 h9
  ·simp
 unfold encN
 rw[zrb,zrb];omega
theorem xzp {j:uqb} (h:okLs j):(encL j).length<=62:=by
 have h1:=uj1 h.1
 have h2:=uj1 h.2.1
 have h3:(putN j.till.toNat).length<=10:=uqm _ (by have:=h.2.2.2;omega)
 unfold encL
 rw[zrb,zrb];omega
theorem wqz {q:ReqD} (h:reqE q=0):(encQ q).length<=110:=by
 obtain⟨hk,hw,hp⟩:=ujs h
 unfold encQ
 rw[zrb]
 have h1:=uqm q.kind.toNat (by omega)
 have h2:(partB q).length<=100:=by
  unfold partB
  unfold partE at hp
  split
  ·rename_i k1
   rw[if_pos k1] at hp
   have:=xzo (vzy hp);omega
  rename_i k1
  rw[if_neg k1] at hp
  split
  ·rename_i k2
   rw[if_pos k2] at hp
   have:=xzq (vxm hp);omega
  rename_i k2
  rw[if_neg k2] at hp
  split
  ·rename_i k5
   rw[if_pos k5] at hp
   have:=xzp (uyz hp);omega
  rename_i k5
  rw[if_neg k5] at hp
  split
  ·rename_i k3
   rw[if_pos k3] at hp
   have hj:uxh q.name=true:=by
    cases hn:uxh q.name
    ·rw[hn] at hp;cases hp
    ·rfl
   have:=uj1 (uzy hj);omega
  rename_i k3
  rw[if_neg k3] at hp
  split
  ·rename_i k7
   rw[if_pos k7] at hp
   have hj:uxg q.n 0 1099511627776=true:=by
    cases hn:uxg q.n 0 1099511627776
    ·rw[hn] at hp;cases hp
    ·rfl
   have hb:=uq2.1 hj
   have:=uqm q.n.toNat (by omega);omega
  ·simp
 omega
def Low {α:Type} (p:Zlu->Res α):Prop:=∀l e,p l=.bad e->e<=9
theorem wxm:∀(f i n:Nat) (l:Zlu),(rdN f i n l).2.2<=9
 | 0,_,_,_=>by show 4<=9;decide
 | _+1,_,_,[]=>by show 3<=9;decide
 | f+1,i,n,c::r=>by
  unfold rdN
  split
  ·show 4<=9;decide
  ·split
   ·show 0<=9;decide
   ·exact wxm f _ _ r
theorem rdT_low (l:Zlu):(rdT l).2.2<=9:=by
 unfold rdT
 split
 ·exact wxm _ _ _ _
 split
 ·show 2<=9;decide
 split
 ·show 3<=9;decide
 split
 ·show 0<=9;decide
 ·show 4<=9;decide
theorem xqb:Low pNum:=by
 intro l e h
 unfold pNum at h
 split at h
 ·split at h
  ·injection h with h;omega
  ·cases h
 ·injection h with h;rw[<- h];exact wxm _ _ _ _
theorem xv3:Low pText:=by
 intro l e h
 unfold pText at h
 split at h
 ·cases h
 ·injection h with h;rw[<- h];exact rdT_low _
theorem wqg {α β:Type} {r:Res α} {f:α->Zlu->Res β} (hr:∀e,r=.bad e->e<=9) (hf:∀a,Low (f a)):∀e,r.bind f=.bad e->e<=9:=by
 intro e h
 cases r with
 | bad e'=>exact hr e (by unfold Res.bind at h;injection h with h;rw[h])
 | ok a m=>exact hf a m e h
theorem uwg {α β:Type} (f:α->β) {p:Zlu->Res α} (hp:Low p):Low (pMap f p):=by
 intro l e h
 exact wqg (hp l) (fun a m e h=>by cases h) e h
theorem vqx {α β:Type} {p:Zlu->Res α} {q:α->Zlu->Res β} (hp:Low p) (hq:∀a,Low (q a)):Low (pSeq p q):=by
 intro l e h
 unfold pSeq at h
 refine wqg (hp l) (fun a m e h=>?_) e h
 exact wqg (hq a m) (fun b n e h=>by cases h) e h
theorem xq3 {α:Type} (a:α):Low (pUnit a):=fun l e h=>by cases h
theorem wwe {α:Type} (c:Bool) {p:Zlu->Res α} (a:α) (hp:Low p):Low (pOpt c p a):=by
 intro l e h
 unfold pOpt at h
 split at h
 ·exact hp l e h
 ·exact xq3 a l e h
theorem vxp:Low pInt:=uwg _ xqb
theorem pSig_low:Low pSig:=uwg _ xqb
theorem uy6:Low pStr:=uwg _ xv3
theorem pJob_low (v:Int):Low (pJob v):=uwg _ (vqx uy6 fun _=>vqx pSig_low fun _=>vqx vxp fun _=>vqx (wwe _ _ vxp) fun _=>wwe _ _ uy6)
theorem xv0 (v:Int):Low (pNode v):=uwg _ (vqx uy6 fun _=>vqx vxp fun _=>wwe _ _ uy6)
theorem xzj:Low uj8:=uwg _ (vqx uy6 fun _=>vqx uy6 fun _=>vxp)
theorem xv2 (k:Int):Low (pPart k):=by
 intro l e h
 unfold pPart at h
 split at h
 ·exact uwg _ (pJob_low 3) l e h
 split at h
 ·exact uwg _ (xv0 3) l e h
 split at h
 ·exact uwg _ xzj l e h
 split at h
 ·exact uwg _ uy6 l e h
 split at h
 ·exact uwg _ vxp l e h
 ·exact xq3 _ l e h
open Go.RowKit
theorem part_J {q:ReqD} (hE:reqE q=0) (k1:q.kind=1):jobE q.job=0:=by
 have hp:=(ujs hE).2.2
 unfold partE at hp;rwa [if_pos k1] at hp
theorem part_N {q:ReqD} (hE:reqE q=0) (k:q.kind=2):nodeE q.node=0:=by
 have hp:=(ujs hE).2.2
 unfold partE at hp;rwa [if_neg (by omega),if_pos k] at hp
theorem part_L {q:ReqD} (hE:reqE q=0) (k:q.kind=5):uzi q.lease=0:=by
 have hp:=(ujs hE).2.2
 unfold partE at hp;rwa [if_neg (by omega),if_neg (by omega),if_pos k] at hp
theorem part_S {q:ReqD} (hE:reqE q=0) (k:q.kind=3\/q.kind=4\/q.kind=6):uxh q.name=true:=by
 have hp:=(ujs hE).2.2
 unfold partE at hp;rw[if_neg (by omega),if_neg (by omega),if_neg (by omega),if_pos k] at hp
 cases hn:uxh q.name
 ·rw[hn] at hp;cases hp
 ·rfl
theorem part_C {q:ReqD} (hE:reqE q=0) (k:q.kind=7):0<=q.n/\q.n<=4611686018427387904:=by
 have hp:=(ujs hE).2.2
 unfold partE at hp;rw[if_neg (by omega),if_neg (by omega),if_neg (by omega),if_neg (by omega),if_pos k] at hp
 have hj:uxg q.n 0 1099511627776=true:=by
  cases hn:uxg q.n 0 1099511627776
  ·rw[hn] at hp;cases hp
  ·rfl
 have hb:=uq2.1 hj
 omega
theorem partJ_B {q:ReqD} (k:q.kind=1):partB q=encJ 3 q.job:=by unfold partB;rw[if_pos k]
theorem partN_B {q:ReqD} (k:q.kind=2):partB q=encN 3 q.node:=by unfold partB;rw[if_neg (by omega),if_pos k]
theorem partL_B {q:ReqD} (k:q.kind=5):partB q=encL q.lease:=by unfold partB;rw[if_neg (by omega),if_neg (by omega),if_pos k]
theorem partS_B {q:ReqD} (k:q.kind=3\/q.kind=4\/q.kind=6):partB q=textB q.name.data.toList:=by unfold partB;rw[if_neg (by omega),if_neg (by omega),if_neg (by omega),if_pos k]
theorem partC_B {q:ReqD} (k:q.kind=7):partB q=putN q.n.toNat:=by unfold partB;rw[if_neg (by omega),if_neg (by omega),if_neg (by omega),if_neg (by omega),if_pos k]
theorem partZ_B {q:ReqD} (k:q.kind=8\/q.kind=9):partB q=[]:=by unfold partB;rw[if_neg (by omega),if_neg (by omega),if_neg (by omega),if_neg (by omega),if_neg (by omega)]
theorem xv4 (q:ReqD) (hkind:q.kind=3\/q.kind=4\/q.kind=6) (w:World) :
  Calls prog 39 #[.agg (qv q)] w fun e w'=>∃g,e=.returned (.iface 155 (zse g))/\w.heap.size<=g/\Blk w' g 154 #[.string q.name]/\Below w.heap.size w w':=by
 rcases hkind with h | h | h
 ·exact xqd q h w
 ·exact xqe q h w
 ·exact xqf q h w
theorem xv5 (q:ReqD) (hkind:q.kind=8\/q.kind=9) (w:World) :
  Calls prog 39 #[.agg (qv q)] w fun e w'=>e=.returned (.iface 159 (.agg #[]))/\Below w.heap.size w w':=by
 rcases hkind with h | h
 ·exact xqg q h w
 ·exact xqh q h w
theorem rputJ (x:JobD) (g d:Nat) (l:Zlu) (w:World) (bg:Blk w g 147 (rwJ x)) (hW:Wr w d l) (hx:okJb 3 x) (hl:l.length<=1000) (hT:∀w',Below d w w'->Tabs w') :
  Calls prog 276 #[zse g,zse d] w fun e w'=>e=.returned (.tuple #[])/\Wr w' d (l++encJ 3 x)/\Below d w w':=by
 have c0:=bg.c0
 have c1:=bg.c1
 have c2:=bg.c2
 have c3:=bg.c3
 have c4:=bg.c4
 have HN:=zrj (wxu d l x 3 w hW hx (by omega) hT)
 clear hT hl hx
 go_enter func276,ntmps276
 go_wp2_with(first | (refine uqe rfl _ _ rfl ⟨g,0,none⟩ rfl (rlJ x) _ (At.blk bg) underlying38 rfl uqo ?_))
 refine HN.out.mono ?_
 rintro e w1 ⟨rfl,h1,B1,_⟩
 go_wp2_with fail
 go_end0
 exact⟨rfl,h1,B1⟩
theorem rputN (x:NodeD) (g d:Nat) (l:Zlu) (w:World) (bg:Blk w g 150 (rwN x)) (hW:Wr w d l) (hx:okNd 3 x) (hl:l.length<=1000) (hT:∀w',Below d w w'->Tabs w') :
  Calls prog 280 #[zse g,zse d] w fun e w'=>e=.returned (.tuple #[])/\Wr w' d (l++encN 3 x)/\Below d w w':=by
 have c0:=bg.c0
 have c1:=bg.c1
 have c2:=bg.c2
 have HN:=zrj (vwy d l x 3 w hW hx (by omega) hT)
 clear hT hl hx
 go_enter func280,ntmps280
 go_wp2_with(first | (refine uqe rfl _ _ rfl ⟨g,0,none⟩ rfl (rlN x) _ (At.blk bg) underlying40 rfl uqk ?_))
 refine HN.out.mono ?_
 rintro e w1 ⟨rfl,h1,B1,_⟩
 go_wp2_with fail
 go_end0
 exact⟨rfl,h1,B1⟩
theorem rputL (x:uqb) (g d:Nat) (l:Zlu) (w:World) (bg:Blk w g 153 (rwL x)) (hW:Wr w d l) (hx:okLs x) (hl:l.length<=1000) (hT:∀w',Below d w w'->Tabs w') :
  Calls prog 284 #[zse g,zse d] w fun e w'=>e=.returned (.tuple #[])/\Wr w' d (l++encL x)/\Below d w w':=by
 have c0:=bg.c0
 have c1:=bg.c1
 have c2:=bg.c2
 have HN:=zrj (vy7 d l x w hW hx (by omega) hT)
 clear hT hl hx
 go_enter func284,ntmps284
 go_wp2_with(first | (refine uqe rfl _ _ rfl ⟨g,0,none⟩ rfl (rlL x) _ (At.blk bg) underlying42 rfl uqj ?_))
 refine HN.out.mono ?_
 rintro e w1 ⟨rfl,h1,B1,_⟩
 go_wp2_with fail
 go_end0
 exact⟨rfl,h1,B1⟩
theorem rputS (x:Zba) (g d:Nat) (l:Zlu) (w:World) (bg:Blk w g 154 #[.string x]) (hW:Wr w d l) (hx:okTx x.data.toList) (hl:l.length<=1000) (hT:∀w',Below d w w'->Tabs w') :
  Calls prog 288 #[zse g,zse d] w fun e w'=>e=.returned (.tuple #[])/\Wr w' d (l++textB x.data.toList)/\Below d w w':=by
 have c0:=bg.c0
 have HN:=zrj (uz9 d l x w hW hx (by omega) (hT w (zri _ _)))
 clear hT hl hx
 go_enter func288,ntmps288
 go_wp2_with fail
 refine HN.out.mono ?_
 rintro e w1 ⟨rfl,h1,B1,_⟩
 go_wp2_with fail
 go_end0
 exact⟨rfl,h1,B1⟩
theorem rputC (x:Int) (g d:Nat) (l:Zlu) (w:World) (bg:Blk w g 156 #[.int .i64 x]) (hW:Wr w d l) (hx:0<=x/\x<=4611686018427387904) (hl:l.length<=1000) (hT:∀w',Below d w w'->Tabs w') :
  Calls prog 292 #[zse g,zse d] w fun e w'=>e=.returned (.tuple #[])/\Wr w' d (l++putN x.toNat)/\Below d w w':=by
 have c0:=bg.c0
 have HN:=zrj (uq5 d l x w hW hx (by omega))
 clear hT hl hx
 go_enter func292,ntmps292
 go_wp2_with fail
 refine HN.out.mono ?_
 rintro e w1 ⟨rfl,h1,B1,_⟩
 go_wp2_with fail
 go_end0
 exact⟨rfl,h1,B1⟩
theorem rputZ (v:Value) (w:World):Calls prog 296 #[.agg #[],v] w fun e w'=>e=.returned (.tuple #[])/\Below w.heap.size w w':=by
 go_enter func296,ntmps296
 go_wp2_with fail
 go_end0
 exact⟨rfl,(zri _ _).alloc (zra _) _⟩
theorem reqEncJ (q:ReqD) (w:World) (HS:ReqSz q) (hT:Tabs w) (hkind:q.kind=1) (hE:reqE q=0) :
  Calls prog 19 #[.agg (qv q)] w fun e w'=>e=.returned (.tuple #[.string (bstr (encQ q)),.int .i64 0])/\Below w.heap.size w w':=by
 have hb0:=zsa w (.cells (qv q) 44)
 have bx0:=Blk.new w 44 (qv q)
 have hCk:=fun(W:World) (hW:Below w.heap.size w W)=>wj7 q W HS (hT.below hW) hkind
 rw[hE] at hCk
 have HCk:=zrj hCk
 have hk19:=(ujs hE).1
 have l1:=uqm q.kind.toNat (by omega)
 have HOK:=zrj (vzy (part_J hE hkind))
 have hQ:encQ q=putN q.kind.toNat++encJ 3 q.job:=by unfold encQ;rw[partJ_B hkind]
 have HQ:=zrj hQ
 have HPO:=zrj (fun(W:World)=>wwg q hkind W)
 have HT:=zrj hT
 have HK:=zrj hk19
 clear hCk hT hQ hkind hE
 go_enter func19,ntmps19
 go_wp2_with fail
 generalize w.alloc _=w0 at *
 go_wp2_with(first | (refine uqa rfl _ _ rfl (w.heap.size) rfl _ _ bx0 _ underlying44 rfl uqd ?_))
 refine(HCk.out w0 hb0).mono ?_
 rintro e w2 ⟨rfl,hb2⟩
 have hB2:=bthen hb0 hb2
 have bx2:=bx0.bl hb2
 clear hb2 hb0 bx0
 have bw:=Blk.new w2 100 #[.slice none 0 0]
 have hB3:=hB2.alloc hB2.size (.cells #[.slice none 0 0] 100)
 have bx3:=bx2.alloc (.cells #[.slice none 0 0] 100)
 have hW3:Wr (w2.alloc (.cells #[.slice none 0 0] 100)) w2.heap.size []:=⟨_,bw,Buf.nil _ _ _⟩
 have n1:w.heap.size≠w2.heap.size:=by have:=bx2.lt;omega
 have hsz2:=hB2.size
 have x0:(w2.alloc (.cells #[.slice none 0 0] 100)).cell? ⟨w.heap.size,0,none⟩=some (.int .i64 q.kind):=bx3.cell 0
 clear bw bx2 hB2
 go_wp2_with fail
 generalize w2.alloc _=w3 at *
 refine(uq5 w2.heap.size [] q.kind w3 hW3 (by have:=HK.out;omega) (by simp)).mono ?_
 rintro e w4 ⟨rfl,h4,B4,K4⟩
 rw[List.nil_append] at h4
 have bx4:=K4 _ _ _ (by decide) n1 bx3
 have hB4:=hB3.trans (B4.mono hsz2)
 clear hB3 bx3 B4 K4 hW3 x0
 go_wp2_with(first | (refine uqa rfl _ _ rfl (w.heap.size) rfl _ _ bx4 _ underlying44 rfl uqd ?_))
 refine(HPO.out w4).mono ?_
 rintro e w5 ⟨g,rfl,hg,bg,hb5⟩
 have h5:=h4.below hb5
 have hB5:=bthen hB4 hb5
 have hl4:=h4.lt
 clear hb5 h4 hB4 bx4
 go_wp2_with fail
 refine(rputJ q.job g w2.heap.size _ w5 bg h5 HOK.out (by omega) (fun W hW=>HT.out.below (hB5.trans (hW.mono hsz2)))).mono ?_
 rintro e w6 ⟨rfl,h6,B6⟩
 have hB6:=hB5.trans (B6.mono hsz2)
 rw[<- HQ.out] at h6
 clear hB5 B6 h5 bg
 obtain⟨vv,bw7,hv7⟩:=h6
 obtain⟨pa,ca,rfl⟩:=hv7.form
 have ew:=bw7.c0
 have hcv:=uzu (P:=prog) (U:=5) (src:=62) (dst:=9) underlying62 underlying5 underlying9 hv7
 generalize hout:encQ q=out at *
 have HU:=zrj hout
 clear hout
 have HB:=zrj hB6
 clear hB6 bw7 hv7
 go_wp2_with fail
 go_ret2
 exact⟨by rw[HU.out];rfl,HB.out⟩
theorem reqEncN (q:ReqD) (w:World) (HS:ReqSz q) (hT:Tabs w) (hkind:q.kind=2) (hE:reqE q=0) :
  Calls prog 19 #[.agg (qv q)] w fun e w'=>e=.returned (.tuple #[.string (bstr (encQ q)),.int .i64 0])/\Below w.heap.size w w':=by
 have hb0:=zsa w (.cells (qv q) 44)
 have bx0:=Blk.new w 44 (qv q)
 have hCk:=fun(W:World) (hW:Below w.heap.size w W)=>wj9 q W HS (hT.below hW) hkind
 rw[hE] at hCk
 have HCk:=zrj hCk
 have hk19:=(ujs hE).1
 have l1:=uqm q.kind.toNat (by omega)
 have HOK:=zrj (vxm (part_N hE hkind))
 have hQ:encQ q=putN q.kind.toNat++encN 3 q.node:=by unfold encQ;rw[partN_B hkind]
 have HQ:=zrj hQ
 have HPO:=zrj (fun(W:World)=>wwi q hkind W)
 have HT:=zrj hT
 have HK:=zrj hk19
 clear hCk hT hQ hkind hE
 go_enter func19,ntmps19
 go_wp2_with fail
 generalize w.alloc _=w0 at *
 go_wp2_with(first | (refine uqa rfl _ _ rfl (w.heap.size) rfl _ _ bx0 _ underlying44 rfl uqd ?_))
 refine(HCk.out w0 hb0).mono ?_
 rintro e w2 ⟨rfl,hb2⟩
 have hB2:=bthen hb0 hb2
 have bx2:=bx0.bl hb2
 clear hb2 hb0 bx0
 have bw:=Blk.new w2 100 #[.slice none 0 0]
 have hB3:=hB2.alloc hB2.size (.cells #[.slice none 0 0] 100)
 have bx3:=bx2.alloc (.cells #[.slice none 0 0] 100)
 have hW3:Wr (w2.alloc (.cells #[.slice none 0 0] 100)) w2.heap.size []:=⟨_,bw,Buf.nil _ _ _⟩
 have n1:w.heap.size≠w2.heap.size:=by have:=bx2.lt;omega
 have hsz2:=hB2.size
 have x0:(w2.alloc (.cells #[.slice none 0 0] 100)).cell? ⟨w.heap.size,0,none⟩=some (.int .i64 q.kind):=bx3.cell 0
 clear bw bx2 hB2
 go_wp2_with fail
 generalize w2.alloc _=w3 at *
 refine(uq5 w2.heap.size [] q.kind w3 hW3 (by have:=HK.out;omega) (by simp)).mono ?_
 rintro e w4 ⟨rfl,h4,B4,K4⟩
 rw[List.nil_append] at h4
 have bx4:=K4 _ _ _ (by decide) n1 bx3
 have hB4:=hB3.trans (B4.mono hsz2)
 clear hB3 bx3 B4 K4 hW3 x0
 go_wp2_with(first | (refine uqa rfl _ _ rfl (w.heap.size) rfl _ _ bx4 _ underlying44 rfl uqd ?_))
 refine(HPO.out w4).mono ?_
 rintro e w5 ⟨g,rfl,hg,bg,hb5⟩
 have h5:=h4.below hb5
 have hB5:=bthen hB4 hb5
 have hl4:=h4.lt
 clear hb5 h4 hB4 bx4
 go_wp2_with fail
 refine(rputN q.node g w2.heap.size _ w5 bg h5 HOK.out (by omega) (fun W hW=>HT.out.below (hB5.trans (hW.mono hsz2)))).mono ?_
 rintro e w6 ⟨rfl,h6,B6⟩
 have hB6:=hB5.trans (B6.mono hsz2)
 rw[<- HQ.out] at h6
 clear hB5 B6 h5 bg
 obtain⟨vv,bw7,hv7⟩:=h6
 obtain⟨pa,ca,rfl⟩:=hv7.form
 have ew:=bw7.c0
 have hcv:=uzu (P:=prog) (U:=5) (src:=62) (dst:=9) underlying62 underlying5 underlying9 hv7
 generalize hout:encQ q=out at *
 have HU:=zrj hout
 clear hout
 have HB:=zrj hB6
 clear hB6 bw7 hv7
 go_wp2_with fail
 go_ret2
 exact⟨by rw[HU.out];rfl,HB.out⟩
theorem reqEncL (q:ReqD) (w:World) (HS:ReqSz q) (hT:Tabs w) (hkind:q.kind=5) (hE:reqE q=0) :
  Calls prog 19 #[.agg (qv q)] w fun e w'=>e=.returned (.tuple #[.string (bstr (encQ q)),.int .i64 0])/\Below w.heap.size w w':=by
 have hb0:=zsa w (.cells (qv q) 44)
 have bx0:=Blk.new w 44 (qv q)
 have hCk:=fun(W:World) (hW:Below w.heap.size w W)=>wj8 q W HS (hT.below hW) hkind
 rw[hE] at hCk
 have HCk:=zrj hCk
 have hk19:=(ujs hE).1
 have l1:=uqm q.kind.toNat (by omega)
 have HOK:=zrj (uyz (part_L hE hkind))
 have hQ:encQ q=putN q.kind.toNat++encL q.lease:=by unfold encQ;rw[partL_B hkind]
 have HQ:=zrj hQ
 have HPO:=zrj (fun(W:World)=>wwh q hkind W)
 have HT:=zrj hT
 have HK:=zrj hk19
 clear hCk hT hQ hkind hE
 go_enter func19,ntmps19
 go_wp2_with fail
 generalize w.alloc _=w0 at *
 go_wp2_with(first | (refine uqa rfl _ _ rfl (w.heap.size) rfl _ _ bx0 _ underlying44 rfl uqd ?_))
 refine(HCk.out w0 hb0).mono ?_
 rintro e w2 ⟨rfl,hb2⟩
 have hB2:=bthen hb0 hb2
 have bx2:=bx0.bl hb2
 clear hb2 hb0 bx0
 have bw:=Blk.new w2 100 #[.slice none 0 0]
 have hB3:=hB2.alloc hB2.size (.cells #[.slice none 0 0] 100)
 have bx3:=bx2.alloc (.cells #[.slice none 0 0] 100)
 have hW3:Wr (w2.alloc (.cells #[.slice none 0 0] 100)) w2.heap.size []:=⟨_,bw,Buf.nil _ _ _⟩
 have n1:w.heap.size≠w2.heap.size:=by have:=bx2.lt;omega
 have hsz2:=hB2.size
 have x0:(w2.alloc (.cells #[.slice none 0 0] 100)).cell? ⟨w.heap.size,0,none⟩=some (.int .i64 q.kind):=bx3.cell 0
 clear bw bx2 hB2
 go_wp2_with fail
 generalize w2.alloc _=w3 at *
 refine(uq5 w2.heap.size [] q.kind w3 hW3 (by have:=HK.out;omega) (by simp)).mono ?_
 rintro e w4 ⟨rfl,h4,B4,K4⟩
 rw[List.nil_append] at h4
 have bx4:=K4 _ _ _ (by decide) n1 bx3
 have hB4:=hB3.trans (B4.mono hsz2)
 clear hB3 bx3 B4 K4 hW3 x0
 go_wp2_with(first | (refine uqa rfl _ _ rfl (w.heap.size) rfl _ _ bx4 _ underlying44 rfl uqd ?_))
 refine(HPO.out w4).mono ?_
 rintro e w5 ⟨g,rfl,hg,bg,hb5⟩
 have h5:=h4.below hb5
 have hB5:=bthen hB4 hb5
 have hl4:=h4.lt
 clear hb5 h4 hB4 bx4
 go_wp2_with fail
 refine(rputL q.lease g w2.heap.size _ w5 bg h5 HOK.out (by omega) (fun W hW=>HT.out.below (hB5.trans (hW.mono hsz2)))).mono ?_
 rintro e w6 ⟨rfl,h6,B6⟩
 have hB6:=hB5.trans (B6.mono hsz2)
 rw[<- HQ.out] at h6
 clear hB5 B6 h5 bg
 obtain⟨vv,bw7,hv7⟩:=h6
 obtain⟨pa,ca,rfl⟩:=hv7.form
 have ew:=bw7.c0
 have hcv:=uzu (P:=prog) (U:=5) (src:=62) (dst:=9) underlying62 underlying5 underlying9 hv7
 generalize hout:encQ q=out at *
 have HU:=zrj hout
 clear hout
 have HB:=zrj hB6
 clear hB6 bw7 hv7
 go_wp2_with fail
 go_ret2
 exact⟨by rw[HU.out];rfl,HB.out⟩
theorem reqEncS (q:ReqD) (w:World) (HS:ReqSz q) (hT:Tabs w) (hkind:q.kind=3\/q.kind=4\/q.kind=6) (hE:reqE q=0) :
  Calls prog 19 #[.agg (qv q)] w fun e w'=>e=.returned (.tuple #[.string (bstr (encQ q)),.int .i64 0])/\Below w.heap.size w w':=by
 have hb0:=zsa w (.cells (qv q) 44)
 have bx0:=Blk.new w 44 (qv q)
 have hCk:=fun(W:World) (hW:Below w.heap.size w W)=>wka q W HS (hT.below hW) hkind
 rw[hE] at hCk
 have HCk:=zrj hCk
 have hk19:=(ujs hE).1
 have l1:=uqm q.kind.toNat (by omega)
 have HOK:=zrj (uzy (part_S hE hkind))
 have hQ:encQ q=putN q.kind.toNat++textB q.name.data.toList:=by unfold encQ;rw[partS_B hkind]
 have HQ:=zrj hQ
 have HPO:=zrj (fun(W:World)=>xv4 q hkind W)
 have HT:=zrj hT
 have HK:=zrj hk19
 clear hCk hT hQ hkind hE
 go_enter func19,ntmps19
 go_wp2_with fail
 generalize w.alloc _=w0 at *
 go_wp2_with(first | (refine uqa rfl _ _ rfl (w.heap.size) rfl _ _ bx0 _ underlying44 rfl uqd ?_))
 refine(HCk.out w0 hb0).mono ?_
 rintro e w2 ⟨rfl,hb2⟩
 have hB2:=bthen hb0 hb2
 have bx2:=bx0.bl hb2
 clear hb2 hb0 bx0
 have bw:=Blk.new w2 100 #[.slice none 0 0]
 have hB3:=hB2.alloc hB2.size (.cells #[.slice none 0 0] 100)
 have bx3:=bx2.alloc (.cells #[.slice none 0 0] 100)
 have hW3:Wr (w2.alloc (.cells #[.slice none 0 0] 100)) w2.heap.size []:=⟨_,bw,Buf.nil _ _ _⟩
 have n1:w.heap.size≠w2.heap.size:=by have:=bx2.lt;omega
 have hsz2:=hB2.size
 have x0:(w2.alloc (.cells #[.slice none 0 0] 100)).cell? ⟨w.heap.size,0,none⟩=some (.int .i64 q.kind):=bx3.cell 0
 clear bw bx2 hB2
 go_wp2_with fail
 generalize w2.alloc _=w3 at *
 refine(uq5 w2.heap.size [] q.kind w3 hW3 (by have:=HK.out;omega) (by simp)).mono ?_
 rintro e w4 ⟨rfl,h4,B4,K4⟩
 rw[List.nil_append] at h4
 have bx4:=K4 _ _ _ (by decide) n1 bx3
 have hB4:=hB3.trans (B4.mono hsz2)
 clear hB3 bx3 B4 K4 hW3 x0
 go_wp2_with(first | (refine uqa rfl _ _ rfl (w.heap.size) rfl _ _ bx4 _ underlying44 rfl uqd ?_))
 refine(HPO.out w4).mono ?_
 rintro e w5 ⟨g,rfl,hg,bg,hb5⟩
 have h5:=h4.below hb5
 have hB5:=bthen hB4 hb5
 have hl4:=h4.lt
 clear hb5 h4 hB4 bx4
 go_wp2_with fail
 refine(rputS q.name g w2.heap.size _ w5 bg h5 HOK.out (by omega) (fun W hW=>HT.out.below (hB5.trans (hW.mono hsz2)))).mono ?_
 rintro e w6 ⟨rfl,h6,B6⟩
 have hB6:=hB5.trans (B6.mono hsz2)
 rw[<- HQ.out] at h6
 clear hB5 B6 h5 bg
 obtain⟨vv,bw7,hv7⟩:=h6
 obtain⟨pa,ca,rfl⟩:=hv7.form
 have ew:=bw7.c0
 have hcv:=uzu (P:=prog) (U:=5) (src:=62) (dst:=9) underlying62 underlying5 underlying9 hv7
 generalize hout:encQ q=out at *
 have HU:=zrj hout
 clear hout
 have HB:=zrj hB6
 clear hB6 bw7 hv7
 go_wp2_with fail
 go_ret2
 exact⟨by rw[HU.out];rfl,HB.out⟩
theorem reqEncC (q:ReqD) (w:World) (HS:ReqSz q) (hT:Tabs w) (hkind:q.kind=7) (hE:reqE q=0) :
  Calls prog 19 #[.agg (qv q)] w fun e w'=>e=.returned (.tuple #[.string (bstr (encQ q)),.int .i64 0])/\Below w.heap.size w w':=by
 have hb0:=zsa w (.cells (qv q) 44)
 have bx0:=Blk.new w 44 (qv q)
 have hCk:=fun(W:World) (hW:Below w.heap.size w W)=>wj6 q W HS (hT.below hW) hkind
 rw[hE] at hCk
 have HCk:=zrj hCk
 have hk19:=(ujs hE).1
 have l1:=uqm q.kind.toNat (by omega)
 have HOK:=zrj (part_C hE hkind)
 have hQ:encQ q=putN q.kind.toNat++putN q.n.toNat:=by unfold encQ;rw[partC_B hkind]
 have HQ:=zrj hQ
 have HPO:=zrj (fun(W:World)=>wwf q hkind W)
 have HT:=zrj hT
 have HK:=zrj hk19
 clear hCk hT hQ hkind hE
 go_enter func19,ntmps19
 go_wp2_with fail
 generalize w.alloc _=w0 at *
 go_wp2_with(first | (refine uqa rfl _ _ rfl (w.heap.size) rfl _ _ bx0 _ underlying44 rfl uqd ?_))
 refine(HCk.out w0 hb0).mono ?_
 rintro e w2 ⟨rfl,hb2⟩
 have hB2:=bthen hb0 hb2
 have bx2:=bx0.bl hb2
 clear hb2 hb0 bx0
 have bw:=Blk.new w2 100 #[.slice none 0 0]
 have hB3:=hB2.alloc hB2.size (.cells #[.slice none 0 0] 100)
 have bx3:=bx2.alloc (.cells #[.slice none 0 0] 100)
 have hW3:Wr (w2.alloc (.cells #[.slice none 0 0] 100)) w2.heap.size []:=⟨_,bw,Buf.nil _ _ _⟩
 have n1:w.heap.size≠w2.heap.size:=by have:=bx2.lt;omega
 have hsz2:=hB2.size
 have x0:(w2.alloc (.cells #[.slice none 0 0] 100)).cell? ⟨w.heap.size,0,none⟩=some (.int .i64 q.kind):=bx3.cell 0
 clear bw bx2 hB2
 go_wp2_with fail
 generalize w2.alloc _=w3 at *
 refine(uq5 w2.heap.size [] q.kind w3 hW3 (by have:=HK.out;omega) (by simp)).mono ?_
 rintro e w4 ⟨rfl,h4,B4,K4⟩
 rw[List.nil_append] at h4
 have bx4:=K4 _ _ _ (by decide) n1 bx3
 have hB4:=hB3.trans (B4.mono hsz2)
 clear hB3 bx3 B4 K4 hW3 x0
 go_wp2_with(first | (refine uqa rfl _ _ rfl (w.heap.size) rfl _ _ bx4 _ underlying44 rfl uqd ?_))
 refine(HPO.out w4).mono ?_
 rintro e w5 ⟨g,rfl,hg,bg,hb5⟩
 have h5:=h4.below hb5
 have hB5:=bthen hB4 hb5
 have hl4:=h4.lt
 clear hb5 h4 hB4 bx4
 go_wp2_with fail
 refine(rputC q.n g w2.heap.size _ w5 bg h5 HOK.out (by omega) (fun W hW=>HT.out.below (hB5.trans (hW.mono hsz2)))).mono ?_
 rintro e w6 ⟨rfl,h6,B6⟩
 have hB6:=hB5.trans (B6.mono hsz2)
 rw[<- HQ.out] at h6
 clear hB5 B6 h5 bg
 obtain⟨vv,bw7,hv7⟩:=h6
 obtain⟨pa,ca,rfl⟩:=hv7.form
 have ew:=bw7.c0
 have hcv:=uzu (P:=prog) (U:=5) (src:=62) (dst:=9) underlying62 underlying5 underlying9 hv7
 generalize hout:encQ q=out at *
 have HU:=zrj hout
 clear hout
 have HB:=zrj hB6
 clear hB6 bw7 hv7
 go_wp2_with fail
 go_ret2
 exact⟨by rw[HU.out];rfl,HB.out⟩
theorem reqEncZ (q:ReqD) (w:World) (HS:ReqSz q) (hT:Tabs w) (hkind:q.kind=8\/q.kind=9) (hE:reqE q=0) :
  Calls prog 19 #[.agg (qv q)] w fun e w'=>e=.returned (.tuple #[.string (bstr (encQ q)),.int .i64 0])/\Below w.heap.size w w':=by
 have hb0:=zsa w (.cells (qv q) 44)
 have bx0:=Blk.new w 44 (qv q)
 have hCk:=fun(W:World) (hW:Below w.heap.size w W)=>wkb q W HS (hT.below hW) hkind
 rw[hE] at hCk
 have HCk:=zrj hCk
 have hk19:=(ujs hE).1
 have l1:=uqm q.kind.toNat (by omega)
 have hQ:encQ q=putN q.kind.toNat++[]:=by unfold encQ;rw[partZ_B hkind]
 have HQ:=zrj hQ
 have HPO:=zrj (fun(W:World)=>xv5 q hkind W)
 have HT:=zrj hT
 have HK:=zrj hk19
 clear hCk hT hQ hkind hE
 go_enter func19,ntmps19
 go_wp2_with fail
 generalize w.alloc _=w0 at *
 go_wp2_with(first | (refine uqa rfl _ _ rfl (w.heap.size) rfl _ _ bx0 _ underlying44 rfl uqd ?_))
 refine(HCk.out w0 hb0).mono ?_
 rintro e w2 ⟨rfl,hb2⟩
 have hB2:=bthen hb0 hb2
 have bx2:=bx0.bl hb2
 clear hb2 hb0 bx0
 have bw:=Blk.new w2 100 #[.slice none 0 0]
 have hB3:=hB2.alloc hB2.size (.cells #[.slice none 0 0] 100)
 have bx3:=bx2.alloc (.cells #[.slice none 0 0] 100)
 have hW3:Wr (w2.alloc (.cells #[.slice none 0 0] 100)) w2.heap.size []:=⟨_,bw,Buf.nil _ _ _⟩
 have n1:w.heap.size≠w2.heap.size:=by have:=bx2.lt;omega
 have hsz2:=hB2.size
 have x0:(w2.alloc (.cells #[.slice none 0 0] 100)).cell? ⟨w.heap.size,0,none⟩=some (.int .i64 q.kind):=bx3.cell 0
 clear bw bx2 hB2
 go_wp2_with fail
 generalize w2.alloc _=w3 at *
 refine(uq5 w2.heap.size [] q.kind w3 hW3 (by have:=HK.out;omega) (by simp)).mono ?_
 rintro e w4 ⟨rfl,h4,B4,K4⟩
 rw[List.nil_append] at h4
 have bx4:=K4 _ _ _ (by decide) n1 bx3
 have hB4:=hB3.trans (B4.mono hsz2)
 clear hB3 bx3 B4 K4 hW3 x0
 go_wp2_with(first | (refine uqa rfl _ _ rfl (w.heap.size) rfl _ _ bx4 _ underlying44 rfl uqd ?_))
 refine(HPO.out w4).mono ?_
 rintro e w5 ⟨rfl,hb5⟩
 have h5:=h4.below hb5
 have hB5:=bthen hB4 hb5
 have hl4:=h4.lt
 clear hb5 h4 hB4 bx4
 go_wp2_with fail
 refine(rputZ _ w5).mono ?_
 rintro e w6 ⟨rfl,hb6⟩
 have h6:=h5.below hb6
 have hq0:=HQ.out
 rw[List.append_nil] at hq0
 rw[<- hq0] at h6
 have hB6:=bthen hB5 hb6
 clear hB5 hb6 h5 hq0
 obtain⟨vv,bw7,hv7⟩:=h6
 obtain⟨pa,ca,rfl⟩:=hv7.form
 have ew:=bw7.c0
 have hcv:=uzu (P:=prog) (U:=5) (src:=62) (dst:=9) underlying62 underlying5 underlying9 hv7
 generalize hout:encQ q=out at *
 have HU:=zrj hout
 clear hout
 have HB:=zrj hB6
 clear hB6 bw7 hv7
 go_wp2_with fail
 go_ret2
 exact⟨by rw[HU.out];rfl,HB.out⟩
theorem xzu (q:ReqD) (w:World) (HS:ReqSz q) (hT:Tabs w) (hE:reqE q≠0) :
  Calls prog 19 #[.agg (qv q)] w fun e w'=>e=.returned (.tuple #[.string (bstr []),.int .i64 (reqE q:Int)])/\Below w.heap.size w w':=by
 have hb0:=zsa w (.cells (qv q) 44)
 have bx0:=Blk.new w 44 (qv q)
 have HCk:=zrj (fun(W:World) (hW:Below w.heap.size w W)=>uzc q W HS (hT.below hW))
 have hne:((reqE q:Int) != 0)=true:=by rw[bne_iff_ne];omega
 generalize reqE q=er at *
 clear hT hE
 go_enter func19,ntmps19
 go_wp2_with fail
 generalize w.alloc _=w0 at *
 go_wp2_with(first | (refine uqa rfl _ _ rfl (w.heap.size) rfl _ _ bx0 _ underlying44 rfl uqd ?_))
 refine(HCk.out w0 hb0).mono ?_
 rintro e w2 ⟨rfl,hb2⟩
 have hB2:=bthen hb0 hb2
 clear hb2 hb0 bx0
 go_wp2_with fail
 go_ret2
 exact⟨rfl,hB2⟩
theorem vy1 (q:ReqD) (w:World) (HS:ReqSz q) (hT:Tabs w) :
  Calls prog 19 #[.agg (qv q)] w fun e w'=>e=.returned (.tuple #[.string (bstr (encQR q).1),.int .i64 ((encQR q).2:Int)])/\Below w.heap.size w w':=by
 by_cases hE:reqE q=0
 ·have h0:encQR q=(encQ q,0):=by unfold encQR;rw[if_neg (by rw[hE];simp)]
  rw[h0]
  obtain⟨hk,_,_⟩:=ujs hE
  by_cases h1:q.kind=1
  ·exact reqEncJ q w HS hT h1 hE
  by_cases h2:q.kind=2
  ·exact reqEncN q w HS hT h2 hE
  by_cases h5:q.kind=5
  ·exact reqEncL q w HS hT h5 hE
  by_cases h7:q.kind=7
  ·exact reqEncC q w HS hT h7 hE
  by_cases h8:q.kind=8\/q.kind=9
  ·exact reqEncZ q w HS hT h8 hE
  exact reqEncS q w HS hT (by omega) hE
 ·have h0:encQR q=([],reqE q):=by unfold encQR;rw[if_pos hE]
  rw[h0]
  exact xzu q w HS hT hE
end Go.Proofs.YtknmnhleicakhaaGreatDoor
