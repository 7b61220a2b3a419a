/- Lemmas.
-/
import Derived.Test.YtnnfgchhkekkeaaGreatDoorPfFolC
import Derived.Test.YtnnfgchhkekkeaaGreatDoorPfActs
set_option linter.all false
set_option maxHeartbeats 16000000
set_option maxRecDepth 100000
namespace Go.Proofs.YtnnfgchhkekkeaaGreatDoor
open Go.Proofs.Tryz
theorem xky {fs gs:List Fr} (hg:∀x∈fs,uxu x) (hy:∀x∈gs,uxu x) :
  newF (folOf fs).L (encs gs)=gs/\(folOf fs).push (encs gs)=folOf (fs++gs)/\(folOf fs).code (encs gs)=(uxm (folOf fs).st gs).2:=by
 obtain⟨h1,h2⟩:=uws hg hy
 have h1':newF (folOf fs).L (encs gs)=gs:=h1
 refine⟨h1',?_,?_⟩
 ·unfold FolD.push
  rw[h1']
  unfold folOf
  simp only
  rw[uxv,uw4]
 ·unfold FolD.code
  rw[h1']
  have h2':errF ((folOf fs).L++encs gs)=0:=h2
  rw[h2']
  split
  ·rename_i h;rw[h]
  ·rfl
structure Fw (c:Nat) (b o:Bool) (h:HubD) (fs:List Fr):Prop where
 v:SrvOk h.srv
 w:ux2 h
 wt:(h.c c).watch=b
 cl:(h.c c).closed=false
 ws:(h.c c).waits=[]
 g:∀y∈fs,uxu y
 st:(folOf fs).st=if o then some h.srv.st else none
 bo:o=true->b=true
theorem Fw.send {c:Nat} {b o:Bool} {h:HubD} {fs:List Fr} (F:Fw c b o h fs) {k:Nat} (hne:c≠k) (s:Zlu) :
  (∀y∈((h.send k s).c c).waits,uxu y)/\(uxm (folOf fs).st ((h.send k s).c c).waits).2=0/\Fw c b o ((h.send k s).flush c) (fs++((h.send k s).c c).waits):=by
 obtain⟨ex,h1,h2,h3⟩:=xzs F.v hne s
 have hw:((h.send k s).c c).waits=ex:=by rw[h1,F.ws];rfl
 have hgo:∀y∈((h.send k s).c c).waits,uxu y:=fun y hy=>(vwl F.w k s c y hy).1
 rw[hw] at hgo ⊢
 have hex:uxm (folOf fs).st ex=(if o then some (h.send k s).srv.st else none,0):=by
  rw[F.st]
  cases ho:o
  ·exact h3
  ·exact h2 (by rw[F.wt];exact F.bo ho) F.cl
 refine⟨hgo,by rw[hex],?_⟩
 have hf:((h.send k s).flush c).c c={ (h.send k s).c c with waits:=[] }:=uqs _ _ _
 refine⟨wxm F.v k s,vkz (vwl F.w k s) c,?_,?_,?_,?_,?_,F.bo⟩
 ·rw[hf,h1];exact F.wt
 ·rw[hf,h1];exact F.cl
 ·rw[hf]
 ·intro y hy
  rcases List.mem_append.1 hy with hy | hy
  ·exact F.g y hy
  ·exact hgo y hy
 ·have hst:(folOf (fs++ex)).st=(uxm (folOf fs).st ex).1:=by
   unfold folOf
   simp only
   rw[uw4]
  rw[hst,hex]
  rfl
theorem Fw.flush {c:Nat} {b o:Bool} {h:HubD} {fs:List Fr} (F:Fw c b o h fs) (k:Nat):Fw c b o (h.flush k) fs:=by
 by_cases hk:c=k
 ·subst hk
  have hf:(h.flush c).c c={ h.c c with waits:=[] }:=uqs _ _ _
  exact⟨F.v,vkz F.w c,by rw[hf];exact F.wt,by rw[hf];exact F.cl,by rw[hf],F.g,F.st,F.bo⟩
 ·have hf:(h.flush k).c c=h.c c:=uq1 _ _ hk
  exact⟨F.v,vkz F.w k,by rw[hf];exact F.wt,by rw[hf];exact F.cl,by rw[hf];exact F.ws,F.g,F.st,F.bo⟩
def qWat:ReqD:=⟨9,noJ,noN,noL,ByteArray.empty,0⟩
theorem xwb:reqE qWat=0:=by decide +kernel
theorem wvd (v:Srv):doR v qWat=⟨0,none,v⟩:=by
 have h:doN v qWat=(v,0):=by
  unfold doN
  rw[if_pos xwb]
  exact wqq (.inr rfl)
 unfold doR
 simp only[h]
 rw[if_neg (by rw[vj1];simp)]
 rfl
theorem wat_send {h:HubD} (W:Whole h) (hv:SrvOk h.srv) {k:Nat} (hk:k<8) :
  h.out k (encs [reqFr qWat])=((h.c k).waits++[⟨3,4,encP ((0:Nat):Int) h.srv.st.rev⟩])++telF h.srv/\(h.send k (encs [reqFr qWat])).srv=h.srv /\
  ((h.send k (encs [reqFr qWat])).c k).watch=true/\((h.send k (encs [reqFr qWat])).c k).closed=false/\((h.send k (encs [reqFr qWat])).c k).waits=[]/\(∀i,i≠k->(h.send k (encs [reqFr qWat])).c i=h.c i)/\Whole (h.send k (encs [reqFr qWat])):=by
 obtain⟨h1,h2,h3,h4⟩:=uwt W hk xwb
 have hr:=(vjh hv qWat).2
 rw[wvd] at hr h3
 have hsf:(h.feed k (encs [reqFr qWat])).srv=h.srv:=rfl
 have ha:(h.feed k (encs [reqFr qWat])).asked k qWat=(h.feed k (encs [reqFr qWat])).told k qWat:=by
  unfold HubD.asked
  rw[hsf,wvd]
 have hfk:(h.feed k (encs [reqFr qWat])).c k={ h.c k with L:=(h.c k).L++encs [reqFr qWat] }:=uqs _ _ _
 have ht:((h.feed k (encs [reqFr qWat])).told k qWat).c k={ (({ h.c k with L:=(h.c k).L++encs [reqFr qWat] }:ConnD).put (repF 0 h.srv.st.rev)).put (telF h.srv) with watch:=true }:=by
  unfold HubD.told
  rw[hsf,wvd]
  simp only[if_true]
  rw[if_pos ⟨trivial,.inr rfl⟩,hfk]
  show({ (({ h.c k with L:=(h.c k).L++encs [reqFr qWat] }:ConnD).put (repF 0 h.srv.st.rev)).put (telF h.srv) with watch:=(h.c k).watch||decide ((9:Int)=9) }:ConnD)=_
  rw[decide_eq_true rfl,Bool.or_true]
 rw[ha] at h1 h2
 have hflk:(((h.feed k (encs [reqFr qWat])).told k qWat).flush k).c k={ ((h.feed k (encs [reqFr qWat])).told k qWat).c k with waits:=[] }:=uqs _ _ _
 refine⟨?_,h3,?_,?_,?_,fun i hi=>?_,h4⟩
 ·rw[h1,ht]
  show((h.c k).waits++repF 0 h.srv.st.rev)++telF h.srv=_
  rw[show repF 0 h.srv.st.rev=[⟨3,4,encP ((0:Nat):Int) h.srv.st.rev⟩] from hr]
 ·rw[h2,hflk,ht]
 ·rw[h2,hflk,ht];exact(W k hk).1
 ·rw[h2,hflk]
 ·rw[h2,ujh _ hi,ujr _ hi];exact uq1 _ _ hi
theorem tel_fol {v:Srv} (hv:SrvOk v) (s:Option St) (W:List Fr) (hs:uxm s W=(s,0)) (r:Int) : 
  ((sfrR 3 v.st).2=0->uxm s ((W++[⟨3,4,encP ((0:Nat):Int) r⟩])++telF v)=(some v.st,0))/\((sfrR 3 v.st).2≠0->uxm s ((W++[⟨3,4,encP ((0:Nat):Int) r⟩])++telF v)=(s,0)):=by
 have h1:uxm s (W++[⟨3,4,encP ((0:Nat):Int) r⟩])=(s,0):=by
  rw[uw6 hs]
  exact uw5 (vx7 _ _)
 constructor
 ·intro h
  rw[uw6 h1]
  unfold telF
  rw[if_neg (by simpa using h)]
  obtain⟨hc,_⟩:=sfr_is h
  rw[show(encR 3 v.st).1=encS 3 v.st by rw[vye hc]]
  exact uw5 (uyp hc)
 ·intro h
  rw[uw6 h1]
  unfold telF
  rw[if_pos h]
  have hr:repF 2 v.st.rev=[⟨3,4,encP ((2:Nat):Int) v.st.rev⟩]:=(xwi (by decide) hv.1.rev).2
  rw[hr]
  exact uw5 (vx7 _ _)
theorem Fw.same {c:Nat} {b o:Bool} {h h':HubD} {fs:List Fr} (F:Fw c b o h fs) (hc:h'.c c=h.c c) (hs:h'.srv=h.srv) (hw:ux2 h'):Fw c b o h' fs :=
 ⟨by rw[hs];exact F.v,hw,by rw[hc];exact F.wt,by rw[hc];exact F.cl,by rw[hc];exact F.ws,F.g,by rw[hs];exact F.st,F.bo⟩
theorem Fw.look {c:Nat} {b o:Bool} {h:HubD} {fs:List Fr} (F:Fw c b o h fs) (W:Whole h) (hk:c<8) :
  (∀x∈h.out c (encs [reqFr qWat]),uxu x)/\(uxm (folOf fs).st (h.out c (encs [reqFr qWat]))).2=0/\(encs (h.out c (encs [reqFr qWat]))).length<=1000000000000 /\
  Whole (h.send c (encs [reqFr qWat]))/\(h.send c (encs [reqFr qWat])).srv=h.srv/\(∀i,i≠c->(h.send c (encs [reqFr qWat])).c i=h.c i) /\
  ∃o',Fw c true o' (h.send c (encs [reqFr qWat])) (fs++h.out c (encs [reqFr qWat])):=by
 obtain⟨ho,hs,hw,hc,he,hx,hW⟩:=wat_send W F.v hk
 have hg:∀x∈h.out c (encs [reqFr qWat]),uxu x:=fun x hx=>(wju F.w c _ x hx).1
 obtain⟨t1,t2⟩:=tel_fol F.v (folOf fs).st (h.c c).waits (by rw[F.ws];rfl) h.srv.st.rev
 rw[<- ho] at t1 t2
 have hl2:(h.out c (encs [reqFr qWat])).length<=2:=by rw[ho,F.ws];unfold telF;split <;> simp[repF,frF] <;> split <;> simp
 have hl:(encs (h.out c (encs [reqFr qWat]))).length<=1000000000000:=zrc (vzo _ hg) (zrc (Nat.mul_le_mul_right 6018 hl2) (by decide))
 have hst:∀s,uxm (folOf fs).st (h.out c (encs [reqFr qWat]))=(s,0)->(folOf (fs++h.out c (encs [reqFr qWat]))).st=s:=fun s e=>by
  have:(folOf (fs++h.out c (encs [reqFr qWat]))).st=(uxm (folOf fs).st (h.out c (encs [reqFr qWat]))).1:=by
   unfold folOf
   simp only
   rw[uw4]
  rw[this,e]
 have mk:∀o':Bool,(folOf (fs++h.out c (encs [reqFr qWat]))).st=(if o' then some h.srv.st else none)->Fw c true o' (h.send c (encs [reqFr qWat])) (fs++h.out c (encs [reqFr qWat])):=fun o' e =>
  ⟨by rw[hs];exact F.v,vwl F.w c _,hw,hc,he,fun x hx=>by rcases List.mem_append.1 hx with h1 | h1;exact F.g x h1;exact hg x h1,by rw[hs];exact e,fun _=>rfl⟩
 by_cases h0:(sfrR 3 h.srv.st).2=0
 ·exact⟨hg,by rw[t1 h0],hl,hW,hs,hx,true,mk true (hst _ (t1 h0))⟩
 ·exact⟨hg,by rw[t2 h0],hl,hW,hs,hx,o,mk o ((hst _ (t2 h0)).trans F.st)⟩
open Go.RowKit
section
variable {w w':World} {O:Nat->Prop}
theorem Own.tch {base size c:Nat} {E:TypeId} {p:Zoa} {rows:List (List Value)} (h:Own w base E size p c rows) (T:HTch O w w') (hO:∀k cs,Blk w k E cs->¬O k):Own w' base E size p c rows:=by
 refine⟨h.1,?_⟩
 rcases h.2 with h0 | ⟨g,cur,h1,hb,hk,rest⟩
 ·exact .inl h0
 ·exact .inr ⟨g,cur,h1,hb,T.blk hk (hO g cur hk),rest⟩
theorem SvI.tch {sv:Nat} {v:Srv} (hs:SvI w sv v) (T:HTch O w w') (h0:∀k cs,Blk w k 95 cs->¬O k) (h1:∀k cs,Blk w k 38 cs->¬O k) (h2:∀k cs,Blk w k 40 cs->¬O k) (h3:∀k cs,Blk w k 42 cs->¬O k):SvI w' sv v:=by
 obtain⟨q1,q2,q3,d1,d2,d3,hM⟩:=hs
 exact⟨q1,q2,q3,d1,d2,d3,T.blk hM.b (h0 _ _ hM.b),⟨hM.own.j.tch T h1,hM.own.n.tch T h2,hM.own.l.tch T h3⟩⟩
theorem Buf.tch {U:TypeId} {base:Nat} {v:Value} {l:Zlu} (hq:Buf U w base v l) (T:HTch O w w') (hO:∀k,v.ownBlock=some k->¬O k):Buf U w' base v l:=by
 refine⟨hq.1,?_⟩
 rcases hq.2 with h0 | ⟨g,cap,cur,rfl,a,hg,rest⟩
 ·exact .inl h0
 ·exact .inr ⟨g,cap,cur,rfl,a,(T.block g (Blk.lt (t:=U) (cs:=cur) hg) (hO g rfl)).trans hg,rest⟩
theorem HubM.fol {B g sv:Nat} {fd:Nat->Nat} {ws:Nat->Value} {h:HubD} (H:HubM w B g sv fd ws h) {f fd':Nat} {R:Nat->Prop} {x:FolD} {v:Value} (M:FolM w f fd' R x v) (T:HTch (FolT f fd') w w') (hd:∀i,i<8->fd i≠fd'):HubM w' B g sv fd ws h:=by
 obtain⟨ce,he⟩:=M.e.own
 have hne:∀k t cs,Blk w k t cs->t≠71 -> t≠97 -> ¬FolT f fd' k:=fun k t cs hb h1 h2 hk=>by
  rcases hk with rfl | rfl
  ·exact hb.ne_ M.b h1 rfl
  ·exact hb.ne_ he h2 rfl
 refine⟨T.blk H.b (hne _ _ _ H.b (by decide) (by decide)),H.s.tch T (fun k cs hb=>hne k _ cs hb (by decide) (by decide)) (fun k cs hb=>hne k _ cs hb (by decide) (by decide)) (fun k cs hb=>hne k _ cs hb (by decide) (by decide)) (fun k cs hb=>hne k _ cs hb (by decide) (by decide)),fun i hi=>?_,H.d,fun i hi=>(H.q i hi).tch T fun k hk=>?_,H.e,⟨H.lo.1,H.lo.2.1,H.lo.2.2.1,zrc H.lo.2.2.2 T.size⟩⟩
 ·obtain⟨cs,hc⟩:=(H.f i hi).own
  refine(H.f i hi).tch T fun hk=>?_
  rcases hk with hk | hk
  ·exact hc.ne_ M.b (by decide) hk
  ·exact hd i hi hk
 ·obtain⟨cs,hc⟩:=(H.q i hi).own hk
  exact hne k _ cs hc (by decide) (by decide)
end
theorem FolM.off {w w':World} {g sv:Nat} {fd:Nat->Nat} {ws ws':Nat->Value} {f fd':Nat} {R:Nat->Prop} {x:FolD} {v:Value} (M:FolM w f fd' R x v) (C:HubC w g sv fd ws w' ws') (hR:∀k,R k->¬uv6 g sv fd ws k):FolM w' f fd' R x v/\∀k,R k->¬uv6 g sv fd ws' k :=
 ⟨M.tch C.t hR,fun k hk ho=>hR k hk (C.own (M.u k hk) ho)⟩
theorem HubC.fol {w0 w w':World} {g sv:Nat} {fd:Nat->Nat} {ws ws':Nat->Value} (C:HubC w0 g sv fd ws w ws') {f fd':Nat} (T:HTch (FolT f fd') w w') (hf:w0.heap.size<=f/\w0.heap.size<=fd'):HubC w0 g sv fd ws w' ws' :=
 ⟨C.t.trans T (fun k hk h=>by rcases h with h | h <;> omega),C.n⟩
set_option maxRecDepth 200000
theorem totP_bd3 {l:List ActP} (h:sumP l+l.length<=1048576):totP l<=114000000000000:=by
 unfold totP
 omega
theorem totP_next {l:List ActD} {n:Nat} {x:ActD} (hx:l[n]?=some x):totP ((l.take (n+1)).map toP)=totP ((l.take n).map toP)+((x.bytes.size+6020)*18054+6018):=by
 rw[List.take_add_one,hx,Option.toList_some,List.map_append]
 unfold totP sumP
 rw[List.map_append,List.sum_append,zrb]
 simp only[List.map_cons,List.map_nil,List.sum_cons,List.sum_nil,List.length_cons,List.length_nil]
 have h:(toP x).s.length=x.bytes.size:=uv7 _
 rw[h]
 omega
theorem totP_all {l:List ActD} (h:ujd l+l.length<=1048576) (n:Nat):totP ((l.take n).map toP)<=114000000000000:=by
 rw[List.map_take]
 exact zrc (vwt _ n) (totP_bd3 (by rw[vqw,zre];exact h))
def LenI (h:HubD) (m:Nat):Prop:=∀i,h.len i<=m
theorem LenI.flush {h:HubD} {m:Nat} (L:LenI h m) (k:Nat):LenI (h.flush k) m:=fun i=>by
 by_cases hk:i=k
 ·subst hk
  unfold HubD.len
  rw[uj0,uxt]
  exact Nat.zero_le _
 ·unfold HubD.len
  rw[ujh _ hk]
  exact L i
theorem LenI.send {h:HubD} {m:Nat} (L:LenI h m) (k:Nat) (s:Zlu):LenI (h.send k s) (m+((s.length+6020)*18054+6018)):=fun i=>by
 have h1:=xqp h k s i
 have h2:=vqq (h.c k).L s
 have h3:=L i
 omega
theorem LenI.sent {h:HubD} (L:LenI h 0) (k:Nat) (s:Zlu) (hs:s.length<=130):LenI (h.send k s) 200000000:=fun i=>by
 have h1:=L.send k s i
 omega
theorem LenI.new (s:St):LenI (newH s) 0:=fun i=>by rw[vzw];exact zra _
theorem LenI.bound {h:HubD} {m:Nat} (L:LenI h m) (k:Nat) (s:Zlu) (hs:m+((s.length+6020)*18054+6018)<=140737488200000) (n i:Nat):(encs (((h.feed k s).frames k ((newF (h.c k).L s).take n)).c i).waits).length<=140737488200000:=by
 have h1:=vv6 h k s n i
 have h2:=vqq (h.c k).L s
 have h3:=L i
 omega
theorem LenI.out {h:HubD} {m:Nat} (L:LenI h m) (k:Nat):(encs (h.c k).waits).length<=m:=L k
set_option maxRecDepth 200000
structure Led (c:Nat) (b o:Bool) (h:HubD) (fs:List Fr):Prop where
 g:∀y∈(h.c c).waits,uxu y
 z:(uxm (folOf fs).st (h.c c).waits).2=0
 f:Fw c b o (h.flush c) (fs++(h.c c).waits)
theorem Fw.led {c:Nat} {b o:Bool} {h:HubD} {fs:List Fr} (F:Fw c b o h fs):Led c b o h fs:=by
 refine⟨?_,?_,?_⟩
 ·rw[F.ws];intro y hy;cases hy
 ·rw[F.ws];rfl
 ·rw[F.ws,List.append_nil];exact F.flush c
theorem LenI.more {h:HubD} {m m':Nat} (L:LenI h m) (hm:m<=m'):LenI h m':=fun i=>zrc (L i) hm
def WatQ (w:World) (B g sv:Nat) (fd:Nat->Nat) (ws:Nat->Value) (fs:List Fr) (m:Nat) (e:Ending) (w':World):Prop :=
 ∃(r1:Zba) (r2:Int) (h2:HubD) (ws2:Nat->Value),e=.returned (.tuple #[.string r1,.int .i64 r2])/\HubM w' B g sv fd ws2 h2/\HubC w g sv fd ws w' ws2/\LenI h2 m/\Led 7 true true h2 fs/\h2.len 7<=20000000000
theorem wsend_any {w:World} {B g sv:Nat} {fd:Nat->Nat} {ws:Nat->Value} {h:HubD} {fs:List Fr} {m:Nat} (H:HubM w B g sv fd ws h) (F:Fw 7 true true h fs) (L:LenI h m) (cn:Int) (h7:cn≠7) (s:Zba) (hss:s.size<=1048576) (hs:m+((s.size+6020)*18054+6018)<=140737488200000) (HTb:∀W,Below B w W->Tabs W) :
  Calls prog 8 #[zse g,.int .i64 cn,.string s] w fun e w'=>WatQ w B g sv fd ws fs (m+((s.size+6020)*18054+6018)) e w':=by
 have h70:h.len 7=0:=by unfold HubD.len;rw[F.ws,uxt];rfl
 by_cases hr:cn<0\/8<=cn
 ·refine(wjc (w:=w) g cn hr s).mono ?_
  rintro e w' ⟨rfl,rfl⟩
  exact⟨_,_,h,ws,rfl,H,HubC.refl _ _ _ _ _,L.more (by omega),F.led,by omega⟩
 ·obtain⟨k,rfl⟩:∃k:Nat,cn=k:=Int.eq_ofNat_of_zero_le (by omega)
  have hk:k<8:=by omega
  have hk7:7≠k:=by omega
  have hl:=uv7 s
  cases hcl:(h.c k).closed
  ·refine(vzt H hk F.v HTb s (by omega) (by have h2:=vzv (h.c k).L s.data.toList;rw[hl] at h2;omega) (fun n i hi=>L.bound k s.data.toList (by rw[hl];exact hs) n i) hcl).mono ?_
   rintro e w' ⟨rfl,ws2,H2,C2⟩
   obtain⟨g1,g2,g3⟩:=F.send hk7 s.data.toList
   have L2:=L.send k s.data.toList
   rw[hl] at L2
   have h71:=xqp h k s.data.toList 7
   have h72:=vqq (h.c k).L s.data.toList
   rw[hl] at h72
   exact⟨_,_,_,ws2,rfl,H2,C2,L2,⟨g1,g2,g3⟩,by omega⟩
  ·refine(vym H hk s hcl).mono ?_
   rintro e w' ⟨rfl,rfl⟩
   exact⟨_,_,h,ws,rfl,H,HubC.refl _ _ _ _ _,L.more (by omega),F.led,by omega⟩
set_option maxRecDepth 200000
structure HubS (w wN:World) (B g sv:Nat) (fd:Nat->Nat) (ws0 ws:Nat->Value) (h:HubD):Prop where
 H:HubM w B g sv fd ws h
 C:HubC wN g sv fd ws0 w ws
 T:∀W,Below B w W->Tabs W
 b:B<=wN.heap.size
structure FolN (w:World) (N g sv:Nat) (fd:Nat->Nat) (ws:Nat->Value) (f fd':Nat) (R:Nat->Prop) (fs:List Fr) (v:Value):Prop where
 M:FolM w f fd' R (folOf fs) v
 D:∀k,R k->¬uv6 g sv fd ws k
 F:N<=f/\N<=fd'
 G:∀x∈fs,uxu x
section
variable {w w' wN:World} {B g sv f fd' N:Nat} {fd:Nat->Nat} {ws0 ws ws':Nat->Value} {h h':HubD} {R:Nat->Prop} {fs:List Fr} {v:Value}
theorem HubS.hub (S:HubS w wN B g sv fd ws0 ws h) (H:HubM w' B g sv fd ws' h') (C:HubC w g sv fd ws w' ws'):HubS w' wN B g sv fd ws0 ws' h' :=
 ⟨H,S.C.trans C,fun W hW=>S.T W ((C.under S.H).trans hW),S.b⟩
theorem HubS.below (S:HubS w wN B g sv fd ws0 ws h) (hb:Below w.heap.size w w'):HubS w' wN B g sv fd ws0 ws h :=
 ⟨S.H.below hb,S.C.below hb,fun W hW=>S.T W ((hb.mono S.H.lo.2.2.2).trans hW),S.b⟩
theorem HubS.all (S:HubS w wN B g sv fd ws0 ws h) (H:HubM wN B g sv fd ws0 h') {w0:World} (h0:Below w0.heap.size w0 wN) (hB:w0.heap.size<=B):Below w0.heap.size w0 w:=h0.trans ((S.C.under H).mono hB)
theorem FolN.hub (S:FolN w N g sv fd ws f fd' R fs v) (C:HubC w g sv fd ws w' ws'):FolN w' N g sv fd ws' f fd' R fs v :=
 ⟨(S.M.off C S.D).1,(S.M.off C S.D).2,S.F,S.G⟩
theorem FolN.below (S:FolN w N g sv fd ws f fd' R fs v) (hb:Below w.heap.size w w'):FolN w' N g sv fd ws f fd' R fs v:=⟨S.M.below hb,S.D,S.F,S.G⟩
theorem FolN.off (S:FolN w N g sv fd ws f fd' R fs v) {f2 fd2:Nat} {R2:Nat->Prop} (hd:∀k,R k->¬R2 k) (h2:R2 f2/\R2 fd2) (T:HTch (FolT f2 fd2) w w'):FolN w' N g sv fd ws f fd' R fs v :=
 ⟨S.M.tch T (fun k hk ht=>hd k hk (by rcases ht with rfl | rfl;exact h2.1;exact h2.2)),S.D,S.F,S.G⟩
def PushQ (w wN:World) (B g sv:Nat) (fd:Nat->Nat) (ws0 ws:Nat->Value) (h:HubD) (f fd':Nat) (R:Nat->Prop) (fs gs:List Fr) (e:Ending) (w':World):Prop :=
 e=.returned (.tuple #[.int .i64 (gs.length:Int),.int .i64 ((uxm (folOf fs).st gs).2:Int)])/\∃R' v',HubS w' wN B g sv fd ws0 ws h/\FolN w' wN.heap.size g sv fd ws f fd' R' (fs++gs) v'/\(∀k,R' k->R k\/w.heap.size<=k)/\HTch (FolT f fd') w w'
theorem fpush_any (S:HubS w wN B g sv fd ws0 ws h) (X:FolN w wN.heap.size g sv fd ws f fd' R fs v) (gs:List Fr) (hg:∀x∈gs,uxu x) (hl:(encs gs).length<=1000000000000) :
  Calls prog 9 #[zse f,.string (bstr (encs gs))] w fun e w'=>PushQ w wN B g sv fd ws0 ws h f fd' R fs gs e w':=by
 obtain⟨p1,p2,p3⟩:=xky X.G hg
 have hn:=vzv (folOf fs).L (encs gs)
 have hB:=S.b
 have hF:=X.F
 have HP:=vvr f fd' R (folOf fs) v (bstr (encs gs)) w B X.M (folOf_ok fs) (by rw[uqz];omega) (by rw[uqv];omega) S.T S.H.lo.2.2.2 ⟨by omega,by omega⟩
 rw[uqv,p1,p2,p3] at HP
 refine HP.mono ?_
 rintro e w' ⟨rfl,v',R',M',T',hR'⟩
 refine⟨rfl,R',v',⟨S.H.fol X.M T' (fun i hi he=>X.D _ X.M.r.2 (.inr (.inr (.inl ⟨i,hi,he.symm⟩)))),S.C.fol T' hF,fun W hW=>S.T W ((T'.below (fun k hk=>by rcases hk with rfl | rfl <;> omega) S.H.lo.2.2.2).trans hW),hB⟩,⟨M',fun k hk ho=>?_,hF,fun x hx=>?_⟩,hR',T'⟩
 ·rcases hR' k hk with h1 | h1
  ·exact X.D k h1 ho
  ·have:=(S.H.own_ge ho).2
   omega
 ·rcases List.mem_append.1 hx with h1 | h1
  ·exact X.G x h1
  ·exact hg x h1
end
end Go.Proofs.YtnnfgchhkekkeaaGreatDoor
