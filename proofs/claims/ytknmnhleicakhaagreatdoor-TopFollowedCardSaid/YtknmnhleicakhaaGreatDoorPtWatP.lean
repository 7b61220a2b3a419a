/- Lemmas.
-/
import Derived.Test.YtknmnhleicakhaaGreatDoorPtFolC
import Derived.Test.YtknmnhleicakhaaGreatDoorPtActs
set_option linter.all false
set_option maxHeartbeats 16000000
set_option maxRecDepth 100000
namespace Go.Proofs.YtknmnhleicakhaaGreatDoor
open Go.Proofs.Tryz
theorem xk5 {fs gs:List Fr} (hg:∀x∈fs,uxu x) (hy:∀x∈gs,uxu x) :
  newF (folOf fs).L (encs gs)=gs/\(folOf fs).push (encs gs)=folOf (fs++gs)/\(folOf fs).code (encs gs)=(uxl (folOf fs).st gs).2:=by
 obtain⟨h1,h2⟩:=uvu hg hy
 have h1':newF (folOf fs).L (encs gs)=gs:=h1
 refine⟨h1',?_,?_⟩
 ·unfold FolD.push
  rw[h1']
  unfold folOf
  simp only
  rw[uxv,uw7]
 ·unfold FolD.code
  rw[h1']
  have h2':errF ((folOf fs).L++encs gs)=0:=h2
  rw[h2']
  split
  ·rename_i h;rw[h]
  ·rfl
structure Fw (c:Nat) (b o:Bool) (h:HubD) (fs:List Fr):Prop where
 v:SrvOk h.srv
 w:ux2 h
 wt:(h.c c).watch=b
 cl:(h.c c).closed=false
 ws:(h.c c).waits=[]
 g:∀y∈fs,uxu y
 st:(folOf fs).st=if o then some h.srv.st else none
 bo:o=true->b=true
theorem Fw.send {c:Nat} {b o:Bool} {h:HubD} {fs:List Fr} (F:Fw c b o h fs) {k:Nat} (hne:c≠k) (s:Zlu) :
  (∀y∈((h.send k s).c c).waits,uxu y)/\(uxl (folOf fs).st ((h.send k s).c c).waits).2=0/\Fw c b o ((h.send k s).flush c) (fs++((h.send k s).c c).waits):=by
 obtain⟨ex,h1,h2,h3⟩:=xz1 F.v hne s
 have hw:((h.send k s).c c).waits=ex:=by rw[h1,F.ws];rfl
 have hgo:∀y∈((h.send k s).c c).waits,uxu y:=fun y hy=>(vwp F.w k s c y hy).1
 rw[hw] at hgo ⊢
 have hex:uxl (folOf fs).st ex=(if o then some (h.send k s).srv.st else none,0):=by
  rw[F.st]
  cases ho:o
  ·exact h3
  ·exact h2 (by rw[F.wt];exact F.bo ho) F.cl
 refine⟨hgo,by rw[hex],?_⟩
 have hf:((h.send k s).flush c).c c={ (h.send k s).c c with waits:=[] }:=uqs _ _ _
 refine⟨vvb F.v k s,vk0 (vwp F.w k s) c,?_,?_,?_,?_,?_,F.bo⟩
 ·rw[hf,h1];exact F.wt
 ·rw[hf,h1];exact F.cl
 ·rw[hf]
 ·intro y hy
  rcases List.mem_append.1 hy with hy | hy
  ·exact F.g y hy
  ·exact hgo y hy
 ·have hst:(folOf (fs++ex)).st=(uxl (folOf fs).st ex).1:=by
   unfold folOf
   simp only
   rw[uw7]
  rw[hst,hex]
  rfl
theorem Fw.flush {c:Nat} {b o:Bool} {h:HubD} {fs:List Fr} (F:Fw c b o h fs) (k:Nat):Fw c b o (h.flush k) fs:=by
 by_cases hk:c=k
 ·subst hk
  have hf:(h.flush c).c c={ h.c c with waits:=[] }:=uqs _ _ _
  exact⟨F.v,vk0 F.w c,by rw[hf];exact F.wt,by rw[hf];exact F.cl,by rw[hf],F.g,F.st,F.bo⟩
 ·have hf:(h.flush k).c c=h.c c:=uq1 _ _ hk
  exact⟨F.v,vk0 F.w k,by rw[hf];exact F.wt,by rw[hf];exact F.cl,by rw[hf];exact F.ws,F.g,F.st,F.bo⟩
def qWat:ReqD:=⟨9,noJ,noN,noL,ByteArray.empty,0⟩
theorem xwl:reqE qWat=0:=by decide +kernel
theorem wvf (v:Srv):doR v qWat=⟨0,none,v⟩:=by
 have h:doN v qWat=(v,0):=by
  unfold doN
  rw[if_pos xwl]
  exact wqu (.inr rfl)
 unfold doR
 simp only[h]
 rw[if_neg (by rw[vj3];simp)]
 rfl
theorem wat_send {h:HubD} (W:Whole h) (hv:SrvOk h.srv) {k:Nat} (hk:k<8) :
  h.out k (encs [reqFr qWat])=((h.c k).waits++[⟨3,4,encP ((0:Nat):Int) h.srv.st.rev⟩])++telF h.srv/\(h.send k (encs [reqFr qWat])).srv=h.srv /\
  ((h.send k (encs [reqFr qWat])).c k).watch=true/\((h.send k (encs [reqFr qWat])).c k).closed=false/\((h.send k (encs [reqFr qWat])).c k).waits=[]/\(∀i,i≠k->(h.send k (encs [reqFr qWat])).c i=h.c i)/\Whole (h.send k (encs [reqFr qWat])):=by
 obtain⟨h1,h2,h3,h4⟩:=uvb W hk xwl
 have hr:=(vjj hv qWat).2
 rw[wvf] at hr h3
 have hsf:(h.feed k (encs [reqFr qWat])).srv=h.srv:=rfl
 have ha:(h.feed k (encs [reqFr qWat])).asked k qWat=(h.feed k (encs [reqFr qWat])).told k qWat:=by
  unfold HubD.asked
  rw[hsf,wvf]
 have hfk:(h.feed k (encs [reqFr qWat])).c k={ h.c k with L:=(h.c k).L++encs [reqFr qWat] }:=uqs _ _ _
 have ht:((h.feed k (encs [reqFr qWat])).told k qWat).c k={ (({ h.c k with L:=(h.c k).L++encs [reqFr qWat] }:ConnD).put (repF 0 h.srv.st.rev)).put (telF h.srv) with watch:=true }:=by
  unfold HubD.told
  rw[hsf,wvf]
  simp only[if_true]
  rw[if_pos ⟨trivial,.inr rfl⟩,hfk]
  show({ (({ h.c k with L:=(h.c k).L++encs [reqFr qWat] }:ConnD).put (repF 0 h.srv.st.rev)).put (telF h.srv) with watch:=(h.c k).watch||decide ((9:Int)=9) }:ConnD)=_
  rw[decide_eq_true rfl,Bool.or_true]
 rw[ha] at h1 h2
 have hflk:(((h.feed k (encs [reqFr qWat])).told k qWat).flush k).c k={ ((h.feed k (encs [reqFr qWat])).told k qWat).c k with waits:=[] }:=uqs _ _ _
 refine⟨?_,h3,?_,?_,?_,fun i hi=>?_,h4⟩
 ·rw[h1,ht]
  show((h.c k).waits++repF 0 h.srv.st.rev)++telF h.srv=_
  rw[show repF 0 h.srv.st.rev=[⟨3,4,encP ((0:Nat):Int) h.srv.st.rev⟩] from hr]
 ·rw[h2,hflk,ht]
 ·rw[h2,hflk,ht];exact(W k hk).1
 ·rw[h2,hflk]
 ·rw[h2,ux7 _ hi,ujr _ hi];exact uq1 _ _ hi
theorem tel_fol {v:Srv} (hv:SrvOk v) (s:Option St) (W:List Fr) (hs:uxl s W=(s,0)) (r:Int) : 
  ((sfrR 3 v.st).2=0->uxl s ((W++[⟨3,4,encP ((0:Nat):Int) r⟩])++telF v)=(some v.st,0))/\((sfrR 3 v.st).2≠0->uxl s ((W++[⟨3,4,encP ((0:Nat):Int) r⟩])++telF v)=(s,0)):=by
 have h1:uxl s (W++[⟨3,4,encP ((0:Nat):Int) r⟩])=(s,0):=by
  rw[uw9 hs]
  exact uw8 (vzc _ _)
 constructor
 ·intro h
  rw[uw9 h1]
  unfold telF
  rw[if_neg (by simpa using h)]
  obtain⟨hc,_⟩:=sfr_is h
  rw[show(encR 3 v.st).1=encS 3 v.st by rw[vyh hc]]
  exact uw8 (uyt hc)
 ·intro h
  rw[uw9 h1]
  unfold telF
  rw[if_pos h]
  have hr:repF 2 v.st.rev=[⟨3,4,encP ((2:Nat):Int) v.st.rev⟩]:=(xws (by decide) hv.1.rev).2
  rw[hr]
  exact uw8 (vzc _ _)
theorem Fw.same {c:Nat} {b o:Bool} {h h':HubD} {fs:List Fr} (F:Fw c b o h fs) (hc:h'.c c=h.c c) (hs:h'.srv=h.srv) (hw:ux2 h'):Fw c b o h' fs :=
 ⟨by rw[hs];exact F.v,hw,by rw[hc];exact F.wt,by rw[hc];exact F.cl,by rw[hc];exact F.ws,F.g,by rw[hs];exact F.st,F.bo⟩
theorem Fw.look {c:Nat} {b o:Bool} {h:HubD} {fs:List Fr} (F:Fw c b o h fs) (W:Whole h) (hk:c<8) :
  (∀x∈h.out c (encs [reqFr qWat]),uxu x)/\(uxl (folOf fs).st (h.out c (encs [reqFr qWat]))).2=0/\(encs (h.out c (encs [reqFr qWat]))).length<=1000000000000 /\
  Whole (h.send c (encs [reqFr qWat]))/\(h.send c (encs [reqFr qWat])).srv=h.srv/\(∀i,i≠c->(h.send c (encs [reqFr qWat])).c i=h.c i) /\
  ∃o',Fw c true o' (h.send c (encs [reqFr qWat])) (fs++h.out c (encs [reqFr qWat])):=by
 obtain⟨ho,hs,hw,hc,he,hx,hW⟩:=wat_send W F.v hk
 have hg:∀x∈h.out c (encs [reqFr qWat]),uxu x:=fun x hx=>(wy9 F.w c _ x hx).1
 obtain⟨t1,t2⟩:=tel_fol F.v (folOf fs).st (h.c c).waits (by rw[F.ws];rfl) h.srv.st.rev
 rw[<- ho] at t1 t2
 have hl2:(h.out c (encs [reqFr qWat])).length<=2:=by rw[ho,F.ws];unfold telF;split <;> simp[repF,frF] <;> split <;> simp
 have hl:(encs (h.out c (encs [reqFr qWat]))).length<=1000000000000:=zrc (vzt _ hg) (zrc (Nat.mul_le_mul_right 6018 hl2) (by decide))
 have hst:∀s,uxl (folOf fs).st (h.out c (encs [reqFr qWat]))=(s,0)->(folOf (fs++h.out c (encs [reqFr qWat]))).st=s:=fun s e=>by
  have:(folOf (fs++h.out c (encs [reqFr qWat]))).st=(uxl (folOf fs).st (h.out c (encs [reqFr qWat]))).1:=by
   unfold folOf
   simp only
   rw[uw7]
  rw[this,e]
 have mk:∀o':Bool,(folOf (fs++h.out c (encs [reqFr qWat]))).st=(if o' then some h.srv.st else none)->Fw c true o' (h.send c (encs [reqFr qWat])) (fs++h.out c (encs [reqFr qWat])):=fun o' e =>
  ⟨by rw[hs];exact F.v,vwp F.w c _,hw,hc,he,fun x hx=>by rcases List.mem_append.1 hx with h1 | h1;exact F.g x h1;exact hg x h1,by rw[hs];exact e,fun _=>rfl⟩
 by_cases h0:(sfrR 3 h.srv.st).2=0
 ·exact⟨hg,by rw[t1 h0],hl,hW,hs,hx,true,mk true (hst _ (t1 h0))⟩
 ·exact⟨hg,by rw[t2 h0],hl,hW,hs,hx,o,mk o ((hst _ (t2 h0)).trans F.st)⟩
open Go.RowKit
section
variable {w w':World} {O:Nat->Prop}
theorem Own.tch {base size c:Nat} {E:TypeId} {p:Zoa} {rows:List (List Value)} (h:Own w base E size p c rows) (T:HTch O w w') (hO:∀k cs,Blk w k E cs->¬O k):Own w' base E size p c rows:=by
 refine⟨h.1,?_⟩
 rcases h.2 with h0 | ⟨g,cur,h1,hb,hk,rest⟩
 ·exact .inl h0
 ·exact .inr ⟨g,cur,h1,hb,T.blk hk (hO g cur hk),rest⟩
theorem SvI.tch {sv:Nat} {v:Srv} (hs:SvI w sv v) (T:HTch O w w') (h0:∀k cs,Blk w k 94 cs->¬O k) (h1:∀k cs,Blk w k 38 cs->¬O k) (h2:∀k cs,Blk w k 40 cs->¬O k) (h3:∀k cs,Blk w k 42 cs->¬O k):SvI w' sv v:=by
 obtain⟨q1,q2,q3,d1,d2,d3,hM⟩:=hs
 exact⟨q1,q2,q3,d1,d2,d3,T.blk hM.b (h0 _ _ hM.b),⟨hM.own.j.tch T h1,hM.own.n.tch T h2,hM.own.l.tch T h3⟩⟩
theorem Buf.tch {U:TypeId} {base:Nat} {v:Value} {l:Zlu} (hq:Buf U w base v l) (T:HTch O w w') (hO:∀k,v.ownBlock=some k->¬O k):Buf U w' base v l:=by
 refine⟨hq.1,?_⟩
 rcases hq.2 with h0 | ⟨g,cap,cur,rfl,a,hg,rest⟩
 ·exact .inl h0
 ·exact .inr ⟨g,cap,cur,rfl,a,(T.block g (Blk.lt (t:=U) (cs:=cur) hg) (hO g rfl)).trans hg,rest⟩
theorem HubM.fol {B g sv:Nat} {fd:Nat->Nat} {ws:Nat->Value} {h:HubD} (H:HubM w B g sv fd ws h) {f fd':Nat} {R:Nat->Prop} {x:FolD} {v:Value} (M:FolM w f fd' R x v) (T:HTch (FolT f fd') w w') (hd:∀i,i<8->fd i≠fd'):HubM w' B g sv fd ws h:=by
 obtain⟨ce,he⟩:=M.e.own
 have hne:∀k t cs,Blk w k t cs->t≠71 -> t≠96 -> ¬FolT f fd' k:=fun k t cs hb h1 h2 hk=>by
  rcases hk with rfl | rfl
  ·exact hb.ne_ M.b h1 rfl
  ·exact hb.ne_ he h2 rfl
 refine⟨T.blk H.b (hne _ _ _ H.b (by decide) (by decide)),H.s.tch T (fun k cs hb=>hne k _ cs hb (by decide) (by decide)) (fun k cs hb=>hne k _ cs hb (by decide) (by decide)) (fun k cs hb=>hne k _ cs hb (by decide) (by decide)) (fun k cs hb=>hne k _ cs hb (by decide) (by decide)),fun i hi=>?_,H.d,fun i hi=>(H.q i hi).tch T fun k hk=>?_,H.e,⟨H.lo.1,H.lo.2.1,H.lo.2.2.1,zrc H.lo.2.2.2 T.size⟩⟩
 ·obtain⟨cs,hc⟩:=(H.f i hi).own
  refine(H.f i hi).tch T fun hk=>?_
  rcases hk with hk | hk
  ·exact hc.ne_ M.b (by decide) hk
  ·exact hd i hi hk
 ·obtain⟨cs,hc⟩:=(H.q i hi).own hk
  exact hne k _ cs hc (by decide) (by decide)
end
theorem FolM.off {w w':World} {g sv:Nat} {fd:Nat->Nat} {ws ws':Nat->Value} {f fd':Nat} {R:Nat->Prop} {x:FolD} {v:Value} (M:FolM w f fd' R x v) (C:HubC w g sv fd ws w' ws') (hR:∀k,R k->¬uv9 g sv fd ws k):FolM w' f fd' R x v/\∀k,R k->¬uv9 g sv fd ws' k :=
 ⟨M.tch C.t hR,fun k hk ho=>hR k hk (C.own (M.u k hk) ho)⟩
theorem HubC.fol {w0 w w':World} {g sv:Nat} {fd:Nat->Nat} {ws ws':Nat->Value} (C:HubC w0 g sv fd ws w ws') {f fd':Nat} (T:HTch (FolT f fd') w w') (hf:w0.heap.size<=f/\w0.heap.size<=fd'):HubC w0 g sv fd ws w' ws' :=
 ⟨C.t.trans T (fun k hk h=>by rcases h with h | h <;> omega),C.n⟩
set_option maxRecDepth 200000
def LenI (h:HubD) (m:Nat):Prop:=∀i,h.len i<=m
theorem LenI.flush {h:HubD} {m:Nat} (L:LenI h m) (k:Nat):LenI (h.flush k) m:=fun i=>by
 by_cases hk:i=k
 ·subst hk
  unfold HubD.len
  rw[uz4,uxo]
  exact Nat.zero_le _
 ·unfold HubD.len
  rw[ux7 _ hk]
  exact L i
theorem LenI.send {h:HubD} {m:Nat} (L:LenI h m) (k:Nat) (s:Zlu):LenI (h.send k s) (m+((s.length+6020)*18054+6018)):=fun i=>by
 have h1:=wxn h k s i
 have h2:=uye (h.c k).L s
 have h3:=L i
 omega
theorem LenI.sent {h:HubD} (L:LenI h 0) (k:Nat) (s:Zlu) (hs:s.length<=130):LenI (h.send k s) 200000000:=fun i=>by
 have h1:=L.send k s i
 omega
theorem LenI.new (s:St):LenI (newH s) 0:=fun i=>by rw[vzz];exact zra _
theorem LenI.bound {h:HubD} {m:Nat} (L:LenI h m) (k:Nat) (s:Zlu) (hs:m+((s.length+6020)*18054+6018)<=140737488200000) (n i:Nat):(encs (((h.feed k s).frames k ((newF (h.c k).L s).take n)).c i).waits).length<=140737488200000:=by
 have h1:=vv9 h k s n i
 have h2:=uye (h.c k).L s
 have h3:=L i
 omega
theorem LenI.out {h:HubD} {m:Nat} (L:LenI h m) (k:Nat):(encs (h.c k).waits).length<=m:=L k
set_option maxRecDepth 200000
structure Led (c:Nat) (b o:Bool) (h:HubD) (fs:List Fr):Prop where
 g:∀y∈(h.c c).waits,uxu y
 z:(uxl (folOf fs).st (h.c c).waits).2=0
 f:Fw c b o (h.flush c) (fs++(h.c c).waits)
theorem Fw.led {c:Nat} {b o:Bool} {h:HubD} {fs:List Fr} (F:Fw c b o h fs):Led c b o h fs:=by
 refine⟨?_,?_,?_⟩
 ·rw[F.ws];intro y hy;cases hy
 ·rw[F.ws];rfl
 ·rw[F.ws,List.append_nil];exact F.flush c
theorem LenI.more {h:HubD} {m m':Nat} (L:LenI h m) (hm:m<=m'):LenI h m':=fun i=>zrc (L i) hm
def WatQ (w:World) (B g sv:Nat) (fd:Nat->Nat) (ws:Nat->Value) (fs:List Fr) (m:Nat) (e:Ending) (w':World):Prop :=
 ∃(r1:Zba) (r2:Int) (h2:HubD) (ws2:Nat->Value),e=.returned (.tuple #[.string r1,.int .i64 r2])/\HubM w' B g sv fd ws2 h2/\HubC w g sv fd ws w' ws2/\LenI h2 m/\Led 7 true true h2 fs/\h2.len 7<=20000000000
set_option maxRecDepth 200000
structure HubS (w wN:World) (B g sv:Nat) (fd:Nat->Nat) (ws0 ws:Nat->Value) (h:HubD):Prop where
 H:HubM w B g sv fd ws h
 C:HubC wN g sv fd ws0 w ws
 T:∀W,Below B w W->Tabs W
 b:B<=wN.heap.size
structure FolN (w:World) (N g sv:Nat) (fd:Nat->Nat) (ws:Nat->Value) (f fd':Nat) (R:Nat->Prop) (fs:List Fr) (v:Value):Prop where
 M:FolM w f fd' R (folOf fs) v
 D:∀k,R k->¬uv9 g sv fd ws k
 F:N<=f/\N<=fd'
 G:∀x∈fs,uxu x
section
variable {w w' wN:World} {B g sv f fd' N:Nat} {fd:Nat->Nat} {ws0 ws ws':Nat->Value} {h h':HubD} {R:Nat->Prop} {fs:List Fr} {v:Value}
theorem HubS.hub (S:HubS w wN B g sv fd ws0 ws h) (H:HubM w' B g sv fd ws' h') (C:HubC w g sv fd ws w' ws'):HubS w' wN B g sv fd ws0 ws' h' :=
 ⟨H,S.C.trans C,fun W hW=>S.T W ((C.under S.H).trans hW),S.b⟩
theorem HubS.below (S:HubS w wN B g sv fd ws0 ws h) (hb:Below w.heap.size w w'):HubS w' wN B g sv fd ws0 ws h :=
 ⟨S.H.below hb,S.C.below hb,fun W hW=>S.T W ((hb.mono S.H.lo.2.2.2).trans hW),S.b⟩
theorem HubS.all (S:HubS w wN B g sv fd ws0 ws h) (H:HubM wN B g sv fd ws0 h') {w0:World} (h0:Below w0.heap.size w0 wN) (hB:w0.heap.size<=B):Below w0.heap.size w0 w:=h0.trans ((S.C.under H).mono hB)
theorem FolN.hub (S:FolN w N g sv fd ws f fd' R fs v) (C:HubC w g sv fd ws w' ws'):FolN w' N g sv fd ws' f fd' R fs v :=
 ⟨(S.M.off C S.D).1,(S.M.off C S.D).2,S.F,S.G⟩
theorem FolN.below (S:FolN w N g sv fd ws f fd' R fs v) (hb:Below w.heap.size w w'):FolN w' N g sv fd ws f fd' R fs v:=⟨S.M.below hb,S.D,S.F,S.G⟩
theorem FolN.off (S:FolN w N g sv fd ws f fd' R fs v) {f2 fd2:Nat} {R2:Nat->Prop} (hd:∀k,R k->¬R2 k) (h2:R2 f2/\R2 fd2) (T:HTch (FolT f2 fd2) w w'):FolN w' N g sv fd ws f fd' R fs v :=
 ⟨S.M.tch T (fun k hk ht=>hd k hk (by rcases ht with rfl | rfl;exact h2.1;exact h2.2)),S.D,S.F,S.G⟩
def PushQ (w wN:World) (B g sv:Nat) (fd:Nat->Nat) (ws0 ws:Nat->Value) (h:HubD) (f fd':Nat) (R:Nat->Prop) (fs gs:List Fr) (e:Ending) (w':World):Prop :=
 e=.returned (.tuple #[.int .i64 (gs.length:Int),.int .i64 ((uxl (folOf fs).st gs).2:Int)])/\∃R' v',HubS w' wN B g sv fd ws0 ws h/\FolN w' wN.heap.size g sv fd ws f fd' R' (fs++gs) v'/\(∀k,R' k->R k\/w.heap.size<=k)/\HTch (FolT f fd') w w'
theorem xk6 (S:HubS w wN B g sv fd ws0 ws h) (X:FolN w wN.heap.size g sv fd ws f fd' R fs v) (gs:List Fr) (hg:∀x∈gs,uxu x) (hl:(encs gs).length<=1000000000000) :
  Calls prog 11 #[zse f,.string (bstr (encs gs))] w fun e w'=>PushQ w wN B g sv fd ws0 ws h f fd' R fs gs e w':=by
 obtain⟨p1,p2,p3⟩:=xk5 X.G hg
 have hn:=vxk (folOf fs).L (encs gs)
 have hB:=S.b
 have hF:=X.F
 have HP:=vvu f fd' R (folOf fs) v (bstr (encs gs)) w B X.M (folOf_ok fs) (by rw[uqz];omega) (by rw[uqu];omega) S.T S.H.lo.2.2.2 ⟨by omega,by omega⟩
 rw[uqu,p1,p2,p3] at HP
 refine HP.mono ?_
 rintro e w' ⟨rfl,v',R',M',T',hR'⟩
 refine⟨rfl,R',v',⟨S.H.fol X.M T' (fun i hi he=>X.D _ X.M.r.2 (.inr (.inr (.inl ⟨i,hi,he.symm⟩)))),S.C.fol T' hF,fun W hW=>S.T W ((T'.below (fun k hk=>by rcases hk with rfl | rfl <;> omega) S.H.lo.2.2.2).trans hW),hB⟩,⟨M',fun k hk ho=>?_,hF,fun x hx=>?_⟩,hR',T'⟩
 ·rcases hR' k hk with h1 | h1
  ·exact X.D k h1 ho
  ·have:=(S.H.own_ge ho).2
   omega
 ·rcases List.mem_append.1 hx with h1 | h1
  ·exact X.G x h1
  ·exact hg x h1
end
theorem upd_self (h:HubD) (k:Nat):h.upd k (h.c k)=h:=by
 cases h
 unfold HubD.upd
 congr 1
 funext i
 show(if i=k then _ else _)=_
 split
 ·rename_i hi;subst hi;rfl
 ·rfl
theorem send_nil {h:HubD} (W:Whole h) {k:Nat} (hk:k<8):h.out k []=(h.c k).waits/\h.send k []=h.flush k:=by
 obtain⟨hc,fs,hg,hL⟩:=W k hk
 obtain⟨h1,h2⟩:=uvu (gs:=[]) hg (by simp)
 rw[uxo] at h1 h2
 have hf:h.feed k []=h:=by
  unfold HubD.feed
  rw[List.append_nil]
  exact upd_self h k
 have hw:h.work k []=h:=by
  unfold HubD.work
  rw[hL,h1,h2,hf]
  unfold HubD.ended HubD.frames
  rw[if_neg (by simp)]
  rfl
 unfold HubD.out HubD.send
 rw[if_neg (by rw[hc];simp),if_neg (by rw[hc];simp),hw]
 exact⟨rfl,rfl⟩
theorem Whole.flush {h:HubD} (W:Whole h) (k:Nat):Whole (h.flush k):=fun i hi=>by
 by_cases hk:i=k
 ·subst hk
  have hf:(h.flush i).c i={ h.c i with waits:=[] }:=uqs _ _ _
  rw[hf]
  exact W i hi
 ·rw[ux7 _ hk]
  exact W i hi
structure TI (h:HubD) (fa fb:List Fr) (ba oa bb ob:Bool):Prop where
 W:Whole h
 A:Fw 6 ba oa h fa
 B:Fw 7 bb ob h fb
 q:∀i,i≠0->i≠6->i≠7->(h.c i).watch=false
 z:∀i,(h.c i).waits=[]
theorem TI.new {s:St} (F:Fine s):TI (newH s) [] [] false false false false :=
 ⟨vq3 s,⟨uvp F,vwb s,rfl,rfl,rfl,(fun x hx=>by cases hx),rfl,(fun h=>by cases h)⟩,⟨uvp F,vwb s,rfl,rfl,rfl,(fun x hx=>by cases hx),rfl,(fun h=>by cases h)⟩,fun _ _ _ _=>rfl,fun _=>rfl⟩
theorem TI.lookA {h:HubD} {fa fb:List Fr} {ba oa bb ob:Bool} (T:TI h fa fb ba oa bb ob):∃oa',TI (h.send 6 (encs [reqFr qWat])) (fa++h.out 6 (encs [reqFr qWat])) fb true oa' bb ob:=by
 obtain⟨_,_,_,W,hs,hx,oa',A⟩:=T.A.look T.W (by decide)
 exact⟨oa',W,A,T.B.same (hx 7 (by decide)) hs A.w,fun i h0 h6 h7=>by rw[hx i h6];exact T.q i h0 h6 h7,fun i=>by
  by_cases hi:i=6
  ·rw[hi];exact A.ws
  ·rw[hx i hi];exact T.z i⟩
theorem TI.lookB {h:HubD} {fa fb:List Fr} {ba oa bb ob:Bool} (T:TI h fa fb ba oa bb ob):∃ob',TI (h.send 7 (encs [reqFr qWat])) fa (fb++h.out 7 (encs [reqFr qWat])) ba oa true ob':=by
 obtain⟨_,_,_,W,hs,hx,ob',B⟩:=T.B.look T.W (by decide)
 exact⟨ob',W,T.A.same (hx 6 (by decide)) hs B.w,B,fun i h0 h6 h7=>by rw[hx i h7];exact T.q i h0 h6 h7,fun i=>by
  by_cases hi:i=7
  ·rw[hi];exact B.ws
  ·rw[hx i hi];exact T.z i⟩
theorem TI.len {h:HubD} {fa fb:List Fr} {ba oa bb ob:Bool} (T:TI h fa fb ba oa bb ob):LenI h 0:=fun i=>by
 unfold HubD.len
 rw[T.z i,uxo]
 exact zra _
structure TM (h:HubD) (fa fb:List Fr) (ba oa bb ob:Bool):Prop where
 W:Whole h
 A:Led 6 ba oa h fa
 B:Led 7 bb ob h fb
 q:∀i,i≠0->i≠6->i≠7->(h.c i).watch=false
 z:∀i,i≠6->i≠7->(h.c i).waits=[]
 L:LenI h 200000000
theorem TI.mid {h:HubD} {fa fb:List Fr} {ba oa bb ob:Bool} (T:TI h fa fb ba oa bb ob):TM h fa fb ba oa bb ob :=
 ⟨T.W,T.A.led,T.B.led,T.q,fun i _ _=>T.z i,T.len.more (by omega)⟩
theorem TI.sent {h:HubD} {fa fb:List Fr} {ba oa bb ob:Bool} (T:TI h fa fb ba oa bb ob) {q:ReqD} (hq:reqE q=0):TM (h.send 0 (uxd q)) fa fb ba oa bb ob:=by
 have hL:=T.len.sent 0 (uxd q) (uw1 q)
 have hb:uxd q=encs [reqFr q]:=by unfold uxd;rw[if_pos hq]
 rw[hb] at hL ⊢
 obtain⟨a1,a2,a3⟩:=T.A.send (k:=0) (by decide) (encs [reqFr q])
 obtain⟨b1,b2,b3⟩:=T.B.send (k:=0) (by decide) (encs [reqFr q])
 refine⟨(uvb T.W (by decide) hq).2.2.2,⟨a1,a2,a3⟩,⟨b1,b2,b3⟩,fun i h0 h6 h7=>by rw[vxs h0 (T.q i h0 h6 h7)];exact T.q i h0 h6 h7,fun i h6 h7=>?_,hL⟩
 by_cases h0:i=0
 ·subst h0
  rw[(uvb T.W (by decide) hq).2.1]
  exact uz4 _ _
 ·rw[vxs h0 (T.q i h0 h6 h7)]
  exact T.z i
theorem xxs (h:HubD) {i j:Nat} (hij:i≠j):(h.flush i).flush j=(h.flush j).flush i:=by
 unfold HubD.flush HubD.upd
 congr 1
 funext k
 by_cases h1:k=i
 ·subst h1
  simp[hij]
 ·by_cases h2:k=j
  ·subst h2
   simp[h1]
  ·simp[h1,h2]
theorem TM.outA {h:HubD} {fa fb:List Fr} {ba oa bb ob:Bool} (T:TM h fa fb ba oa bb ob):TM (h.flush 6) (fa++(h.c 6).waits) fb ba oa bb ob:=by
 have h7:(h.flush 6).c 7=h.c 7:=ux7 _ (by decide)
 refine⟨T.W.flush 6,T.A.f.led,⟨by rw[h7];exact T.B.g,by rw[h7];exact T.B.z,by rw[h7,xxs h (by decide)];exact T.B.f.flush 6⟩,fun i h0 h6 h7=>by rw[ux7 _ h6];exact T.q i h0 h6 h7,fun i h6 h7=>by rw[ux7 _ h6];exact T.z i h6 h7,T.L.flush 6⟩
theorem TM.outB {h:HubD} {fa fb:List Fr} {ba oa bb ob:Bool} (T:TM (h.flush 6) fa fb ba oa bb ob) (A:Fw 6 ba oa (h.flush 6) fa):TI ((h.flush 6).flush 7) fa (fb++((h.flush 6).c 7).waits) ba oa bb ob:=by
 refine⟨T.W.flush 7,A.flush 7,T.B.f,fun i h0 h6 h7=>by rw[ux7 _ h7];exact T.q i h0 h6 h7,fun i=>?_⟩
 by_cases h7:i=7
 ·rw[h7];exact uz4 _ _
 ·rw[ux7 _ h7]
  by_cases h6:i=6
  ·rw[h6];exact uz4 _ _
  ·exact T.z i h6 h7
set_option maxRecDepth 200000
def TwoE (w wN:World) (B g sv:Nat) (fd:Nat->Nat) (ws0:Nat->Value) (gh f fa f2 fa2:Nat) (h:HubD) (fs fs2:List Fr):Prop :=
 ∃ws R v R2 v2,HubS w wN B g sv fd ws0 ws h/\FolN w wN.heap.size g sv fd ws f fa R fs v/\FolN w wN.heap.size g sv fd ws f2 fa2 R2 fs2 v2/\(∀k,R k->¬R2 k)/\Blk w gh 29 #[zse g]
section
variable {w w' wN:World} {B g sv gh f fa f2 fa2:Nat} {fd:Nat->Nat} {ws0:Nat->Value} {h:HubD} {fs fs2:List Fr}
theorem TwoE.swap (T:TwoE w wN B g sv fd ws0 gh f fa f2 fa2 h fs fs2):TwoE w wN B g sv fd ws0 gh f2 fa2 f fa h fs2 fs:=by
 obtain⟨ws,R,v,R2,v2,S,X,Y,d,hk⟩:=T
 exact⟨ws,R2,v2,R,v,S,Y,X,fun k h1 h2=>d k h2 h1,hk⟩
theorem TwoE.below (T:TwoE w wN B g sv fd ws0 gh f fa f2 fa2 h fs fs2) (hb:Below w.heap.size w w'):TwoE w' wN B g sv fd ws0 gh f fa f2 fa2 h fs fs2:=by
 obtain⟨ws,R,v,R2,v2,S,X,Y,d,hk⟩:=T
 exact⟨ws,R,v,R2,v2,S.below hb,X.below hb,Y.below hb,d,hk.bl hb⟩
theorem TwoE.at_ (T:TwoE w wN B g sv fd ws0 gh f fa f2 fa2 h fs fs2):w.cell? ⟨gh,0,none⟩=some (zse g):=by
 obtain⟨ws,R,v,R2,v2,S,X,Y,d,hk⟩:=T
 exact hk.cell 0
theorem TwoE.all (T:TwoE w wN B g sv fd ws0 gh f fa f2 fa2 h fs fs2) {h':HubD} (H:HubM wN B g sv fd ws0 h') {w0:World} (h0:Below w0.heap.size w0 wN) (hB:w0.heap.size<=B):Below w0.heap.size w0 w:=by
 obtain⟨ws,R,v,R2,v2,S,X,Y,d,hk⟩:=T
 exact S.all H h0 hB
theorem TwoE.tabs (T:TwoE w wN B g sv fd ws0 gh f fa f2 fa2 h fs fs2):Tabs w:=by
 obtain⟨ws,R,v,R2,v2,S,X,Y,d,hk⟩:=T
 exact S.T _ (zri _ _)
theorem TwoE.under (T:TwoE w wN B g sv fd ws0 gh f fa f2 fa2 h fs fs2) {h':HubD} (H:HubM wN B g sv fd ws0 h'):Below B wN w:=by
 obtain⟨ws,R,v,R2,v2,S,X,Y,d,hk⟩:=T
 exact S.C.under H
def Kept (w w':World):Prop:=∀k t cs,Blk w k t cs->t≠67 -> t≠94 -> t≠96 -> t≠5 -> t≠71 -> Blk w' k t cs
def wqe (w:World) (B g sv:Nat) (fd:Nat->Nat) (h h2:HubD) (cn:Int) (s:Zba) (out:List Fr):Prop :=
 ∀ws,HubM w B g sv fd ws h->(∀W,Below B w W->Tabs W)->Calls prog 10 #[zse g,.int .i64 cn,.string s] w fun e w1=>e=.returned (.tuple #[.string (bstr (encs out)),.int .i64 0])/\HubQ w B g sv fd ws h2 w1
theorem xys (T:TwoE w wN B g sv fd ws0 gh f fa f2 fa2 h fs fs2) {cn:Int} {s:Zba} {out:List Fr} {h2:HubD} (HS:wqe w B g sv fd h h2 cn s out) :
  Calls prog 10 #[zse g,.int .i64 cn,.string s] w fun e w1=>e=.returned (.tuple #[.string (bstr (encs out)),.int .i64 0])/\Kept w w1/\TwoE w1 wN B g sv fd ws0 gh f fa f2 fa2 h2 fs fs2:=by
 obtain⟨ws,R,v,R2,v2,S,X,Y,d,hk⟩:=T
 refine(HS ws S.H S.T).mono ?_
 rintro e w1 ⟨rfl,ws1,H1,C1⟩
 exact⟨rfl,fun k t cs hb h1 h2 h3 h4 _=>C1.blk S.H hb h1 h2 h3 h4,ws1,R,v,R2,v2,S.hub H1 C1,X.hub C1,Y.hub C1,d,C1.blk S.H hk (by decide) (by decide) (by decide) (by decide)⟩
theorem tpush_any (T:TwoE w wN B g sv fd ws0 gh f fa f2 fa2 h fs fs2) {cn:Int} {s:Zba} {out:List Fr} {h2:HubD} (HS:wqe w B g sv fd h h2 cn s out) (hg:∀x∈out,uxu x) (hz:(uxl (folOf fs).st out).2=0) (hl:(encs out).length<=1000000000000) :
  Calls prog 9 #[zse f,.int .i64 cn,.string s,zse gh] w fun e w'=>e=.returned (.bool true)/\Kept w w'/\TwoE w' wN B g sv fd ws0 gh f fa f2 fa2 h2 (fs++out) fs2:=by
 have HT:=zrj (xys T HS)
 have HL:=zrj (show(∀x∈out,uxu x)/\(uxl (folOf fs).st out).2=0/\(encs out).length<=1000000000000 from⟨hg,hz,hl⟩)
 have k0:=T.at_
 clear T HS hg hz hl
 go_enter func9,ntmps9
 go_wp2_with fail
 refine HT.out.mono ?_
 rintro e w1 ⟨rfl,K1,ws,R,v,R2,v2,S,X,Y,d,hk⟩
 have HKe:=zrj K1
 have HP:=xk6 S X out HL.out.1 HL.out.2.2
 unfold PushQ at HP
 rw[HL.out.2.1] at HP
 have HPu:=zrj HP
 have HX:=zrj X
 have HY:=zrj Y
 have HD:=zrj d
 have HK:=zrj hk
 clear HP HT HL S X Y d hk k0 K1
 generalize bstr (encs out)=ob at *
 go_wp2_with fail
 refine HPu.out.mono ?_
 rintro e w2 ⟨rfl,R',v',S',X',hR',T'⟩
 go_wp2_with fail
 go_ret
 have HFt:∀k t cs,Blk w1 k t cs->t≠96 -> t≠71 -> Blk w2 k t cs:=fun k t cs hb h1 h2=>T'.blk hb fun ht=>by
  obtain⟨ce,he⟩:=HX.out.M.e.own
  rcases ht with ht | ht
  ·exact hb.ne_ HX.out.M.b h2 ht
  ·exact hb.ne_ he h1 ht
 refine⟨rfl,fun k t cs hb h1 h2 h3 h4 h5=>HFt k t cs (HKe.out k t cs hb h1 h2 h3 h4 h5) h3 h5,ws,R',v',R2,v2,S',X',HY.out.off (fun k h1 h2=>HD.out k h2 h1) HX.out.M.r T',fun k h1 h2=>?_,HFt _ _ _ HK.out (by decide) (by decide)⟩
 rcases hR' k h1 with h3 | h3
 ·exact HD.out k h3 h2
 ·have:=HY.out.M.u k h2
  omega
theorem wwt {m:Nat} (W:Whole h) (v:SrvOk h.srv) (L:LenI h m) (hm:m<=200000000) {k:Nat} (hk:k<8) (s:Zlu) (hs:s.length<=130):wqe w B g sv fd h (h.send k s) k (bstr s) (h.out k s):=fun ws H HT=>by
 have h2:=vxk (h.c k).L s
 have hr:=vqo H hk v HT (bstr s) (by rw[uqz];omega) (by rw[uqu];omega) (fun n i _=>by rw[uqu];exact L.bound k s (by omega) n i) (W k hk).1
 rw[uqu] at hr
 exact hr
theorem sendsNil {m:Nat} (W:Whole h) (v:SrvOk h.srv) (L:LenI h m) (hm:m<=200000000) {k:Nat} (hk:k<8):wqe w B g sv fd h (h.flush k) k ByteArray.empty (h.c k).waits:=by
 have hr:=wwt (w:=w) (B:=B) (g:=g) (sv:=sv) (fd:=fd) W v L hm hk [] (Nat.zero_le _)
 obtain⟨h1,h2⟩:=send_nil W hk
 rw[h1,h2] at hr
 exact hr
end
theorem large_any (s:St) (p1 p2 p3:Zoa) (c1 c2 c3:Nat) (w:World) (hm:StM w w.heap.size p1 p2 p3 s) (hz:StSz s) (hT:Tabs w) :
  Calls prog 12 #[.agg (stv s p1 p2 p3 c1 c2 c3)] w fun e w'=>(∃b:Bool,e=.returned (.bool b))/\Below w.heap.size w w':=by
 have hb0:=zsa w (.cells (stv s p1 p2 p3 c1 c2 c3) 26)
 have bx:=Blk.new w 26 (stv s p1 p2 p3 c1 c2 c3)
 have HF:=zrj (vy8 s 3 p1 p2 p3 c1 c2 c3 _ ((hm.below hb0).more hb0.size) hz (hT.below hb0) (by have:=wz0 s;omega) (by decide) (by decide))
 clear hm hz hT
 go_enter func12,ntmps12
 go_wp2_with(first | (refine uqw (by rfl) _ _ rfl (w.heap.size) rfl _ _ bx _ underlying26 rfl uqg ?_))
 refine HF.out.mono ?_
 rintro e w1 ⟨rfl,hb1⟩
 go_wp2_with fail
 go_ret
 exact⟨⟨_,rfl⟩,bthen hb0 hb1⟩
theorem hubp_size:(prog.info? 29).map (·.size)=some 1:=by kernel_rfl
theorem one_hubp (p:Zoa):(#[.pointer p]:Array Value).all (·.oneCell')=true:=by simp[Value.oneCell']
theorem wrap_succ_ne {k:Nat} (h:k<=9223372036854775807):IntKind.i64.wrap ((k:Int)+1)≠0:=by
 by_cases h2:(k:Int)+1<=9223372036854775807
 ·rw[IntWalk.i64_in _ (by omega)]
  omega
 ·obtain rfl:k=9223372036854775807:=by omega
  decide +kernel
theorem reqSz_wat:ReqSz qWat :=
 have h:ByteArray.empty.size<=9223372036854775807:=by decide
 ⟨h,h,h,h,h,h,h⟩
theorem rest_ne (a n:Int) (w:World) (hn:n≠0) :
  Calls prog 8 #[.int .i64 a,.int .i64 n] w fun e w'=>(∃r:Int,e=.returned (.int .i64 r))/\w=w':=by
 have h0:(n == 0)=false:=by simpa using hn
 go_enter func8,ntmps8
 generalize hk:a.tmod n=k at *
 go_wp2
 all_goals
  go_ret
  exact⟨⟨_,rfl⟩,rfl⟩
end Go.Proofs.YtknmnhleicakhaaGreatDoor
