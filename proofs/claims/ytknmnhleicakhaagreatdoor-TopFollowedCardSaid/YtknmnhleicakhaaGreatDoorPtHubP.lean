/- Lemmas.
-/
import Derived.Test.YtknmnhleicakhaaGreatDoorPtReqE
import Derived.Test.YtknmnhleicakhaaGreatDoorPtRead
import Derived.Test.YtknmnhleicakhaaGreatDoorPtFeed
set_option linter.all false
set_option maxHeartbeats 16000000
set_option maxRecDepth 100000
namespace Go.Proofs.YtknmnhleicakhaaGreatDoor
open Go.Proofs.Tryz
structure ConnD where
 L:Zlu
 closed:Bool
 watch:Bool
 waits:List Fr
structure HubD where
 srv:Srv
 c:Nat->ConnD
def newC:ConnD:=⟨[],false,false,[]⟩
def newH (s:St):HubD:=⟨⟨s,0⟩,fun _=>newC⟩
def HubD.upd (h:HubD) (k:Nat) (x:ConnD):HubD:=⟨h.srv,fun i=>if i=k then x else h.c i⟩
def frF (k:Nat) (pl:Zlu):List Fr:=if(encF 3 k pl).2=0 then[⟨3,k,pl⟩] else[]
def repF (code:Nat) (rev:Int):List Fr:=frF 4 (encPR code rev).1
def telF (v:Srv):List Fr:=if(sfrR 3 v.st).2≠0 then repF 2 v.st.rev else[⟨3,1,(encR 3 v.st).1⟩]
def chgF (v:Srv) (d:uq0):List Fr:=if(encDR d).2=0 then frF 2 (encDR d).1 else telF v
def ConnD.put (x:ConnD) (fs:List Fr):ConnD:={ x with waits:=x.waits++fs }
def HubD.app (h:HubD) (k:Nat) (fs:List Fr):HubD:=h.upd k ((h.c k).put fs)
def HubD.close (h:HubD) (k:Nat) (e:Nat):HubD:=h.upd k { (h.c k).put (repF e h.srv.st.rev) with closed:=true }
def HubD.changed (h:HubD) (d:uq0):HubD:=⟨h.srv,fun i=>if(h.c i).closed=true\/(h.c i).watch=false then h.c i else(h.c i).put (chgF h.srv d)⟩
def HubD.told (h:HubD) (k:Nat) (q:ReqD):HubD :=
 let r:=doR h.srv q
 let x:=(h.c k).put (repF r.code r.srv.st.rev)
 ⟨r.srv,fun i=>if i=k then(if r.code=0/\(q.kind=8\/q.kind=9) then { x.put (telF r.srv) with watch:=x.watch||decide (q.kind=9) } else x) else h.c i⟩
def HubD.asked (h:HubD) (k:Nat) (q:ReqD):HubD:=match(doR h.srv q).told with
 | none=>h.told k q
 | some d=>(h.told k q).changed d
def HubD.frame (h:HubD) (k:Nat) (f:Fr):HubD :=
 if f.ver≠3\/f.kind≠3 then h.close k 1 else
 if(decQR f.pl).2≠0 then h.close k (decQR f.pl).2 else h.asked k (decQR f.pl).1
def HubD.step (k:Nat) (h:HubD) (f:Fr):HubD:=if(h.c k).closed=true then h else h.frame k f
def HubD.frames (h:HubD) (k:Nat) (fs:List Fr):HubD:=fs.foldl (HubD.step k) h
def newF (L s:Zlu):List Fr:=(feedF (L++s)).out.drop (feedF L).out.length
def HubD.feed (h:HubD) (k:Nat) (s:Zlu):HubD:=h.upd k { h.c k with L:=(h.c k).L++s }
def HubD.ended (h:HubD) (k:Nat) (e:Nat):HubD:=if e≠0/\(h.c k).closed=false then h.close k e else h
def HubD.work (h:HubD) (k:Nat) (s:Zlu):HubD:=((h.feed k s).frames k (newF (h.c k).L s)).ended k (errF ((h.c k).L++s))
def HubD.flush (h:HubD) (k:Nat):HubD:=h.upd k { h.c k with waits:=[] }
def HubD.send (h:HubD) (k:Nat) (s:Zlu):HubD:=if(h.c k).closed=true then h else(h.work k s).flush k
def HubD.out (h:HubD) (k:Nat) (s:Zlu):List Fr:=if(h.c k).closed=true then[] else((h.work k s).c k).waits
theorem uqs (h:HubD) (k:Nat) (x:ConnD):(h.upd k x).c k=x:=if_pos rfl
theorem uq1 (h:HubD) {k i:Nat} (x:ConnD) (hi:i≠k):(h.upd k x).c i=h.c i:=if_neg hi
theorem ww5 (h:HubD) (k:Nat) (x y:ConnD):(h.upd k x).upd k y=h.upd k y:=by
 unfold HubD.upd
 congr 1
 funext i
 by_cases hi:i=k <;> simp[hi]
theorem uk3 (x:Fr):encs [x]=wireF x.ver x.kind x.pl:=by rw[ujt,uxo,List.append_nil]
theorem wq3 (k:Nat) (pl:Zlu):∀x∈frF k pl,uxu x/\x.ver=3/\x.kind=k:=by
 intro x hx
 unfold frF at hx
 split at hx
 ·rename_i h
  simp only[List.mem_singleton] at hx
  subst hx
  unfold encF at h
  by_cases hg:goodF 3 (k:Int)
  ·rw[if_pos hg] at h
   by_cases hl:6000<pl.length
   ·rw[if_pos hl] at h;cases h
   ·obtain⟨_,_,h3,h4⟩:=hg
    exact⟨⟨⟨by show 1<=3;decide,by show 3<=3;decide⟩,⟨by show 1<=k;omega,by show k<=4;omega⟩,by show pl.length<=6000;omega⟩,rfl,rfl⟩
  ·rw[if_neg hg] at h;cases h
 ·cases hx
theorem wys (k:Nat) (pl:Zlu):encs (frF k pl)=(encF 3 k pl).1:=by
 unfold frF
 split
 ·rename_i h
  rw[uk3]
  unfold encF at h ⊢
  by_cases hg:goodF 3 (k:Int)
  ·rw[if_pos hg] at h ⊢
   by_cases hl:6000<pl.length
   ·rw[if_pos hl] at h;cases h
   ·rw[if_neg hl];rfl
  ·rw[if_neg hg] at h;cases h
 ·rename_i h
  rw[uxo]
  unfold encF at h ⊢
  by_cases hg:goodF 3 (k:Int)
  ·rw[if_pos hg] at h ⊢
   by_cases hl:6000<pl.length
   ·rw[if_pos hl]
   ·rw[if_neg hl] at h;exact absurd rfl h
  ·rw[if_neg hg]
def OutFr (x:Fr):Prop:=uxu x/\x.ver=3/\x.kind≠3
theorem wvk {k:Nat} (hk:k≠3) (pl:Zlu):∀x∈frF k pl,OutFr x:=fun x hx=>by
 obtain⟨h1,h2,h3⟩:=wq3 k pl x hx
 exact⟨h1,h2,by rw[h3];exact hk⟩
theorem vk6 (c:Nat) (r:Int):∀x∈repF c r,OutFr x:=wvk (by decide) _
theorem sfr_ok {v:Srv} (h:(sfrR 3 v.st).2=0):(encF 3 1 (encR 3 v.st).1).2=0/\(sfrR 3 v.st).1=(encF 3 1 (encR 3 v.st).1).1:=by
 unfold sfrR at h ⊢
 by_cases h0:(encR 3 v.st).2≠0
 ·rw[if_pos h0] at h;exact absurd h h0
 ·rw[if_neg h0] at h ⊢;exact⟨h,rfl⟩
theorem vww {v:Srv} (h:(sfrR 3 v.st).2=0):telF v=frF 1 (encR 3 v.st).1:=by
 unfold telF frF
 rw[if_neg (by simpa using h),if_pos (show(encF 3 ((1:Nat):Int) (encR 3 v.st).1).2=0 from(sfr_ok h).1)]
theorem xq1 (v:Srv):∀x∈telF v,OutFr x:=by
 by_cases h:(sfrR 3 v.st).2=0
 ·rw[vww h];exact wvk (by decide) _
 ·unfold telF;rw[if_pos h];exact vk6 _ _
theorem xkw {v:Srv}:encs (telF v)=if(sfrR 3 v.st).2≠0 then encs (repF 2 v.st.rev) else(sfrR 3 v.st).1:=by
 by_cases h:(sfrR 3 v.st).2=0
 ·rw[vww h,wys,if_neg (by simpa using h),(sfr_ok h).2];rfl
 ·unfold telF;rw[if_pos h,if_pos h]
theorem chgF_out (v:Srv) (d:uq0):∀x∈chgF v d,OutFr x:=by
 unfold chgF
 split
 ·exact wvk (by decide) _
 ·exact xq1 v
def ux2 (h:HubD):Prop:=∀i,∀x∈(h.c i).waits,OutFr x
theorem wj2 {x:ConnD} {fs:List Fr} (h:∀f∈x.waits,OutFr f) (hf:∀f∈fs,OutFr f):∀f∈(x.put fs).waits,OutFr f:=by
 intro f hm
 rcases List.mem_append.1 hm with hm | hm
 ·exact h f hm
 ·exact hf f hm
theorem xyu {h:HubD} (hw:ux2 h) (k:Nat) {x:ConnD} (hx:∀f∈x.waits,OutFr f):ux2 (h.upd k x):=by
 intro i
 by_cases hi:i=k
 ·subst hi;rw[uqs];exact hx
 ·rw[uq1 _ _ hi];exact hw i
theorem wqn {h:HubD} (hw:ux2 h) (k e:Nat):ux2 (h.close k e):=xyu hw k (wj2 (hw k) (vk6 _ _))
theorem xxd {h:HubD} (hw:ux2 h) (d:uq0):ux2 (h.changed d):=by
 intro i
 unfold HubD.changed;dsimp only
 split
 ·exact hw i
 ·exact wj2 (hw i) (chgF_out _ _)
theorem xyq {h:HubD} (hw:ux2 h) (k:Nat) (q:ReqD):ux2 (h.told k q):=by
 intro i
 unfold HubD.told;dsimp only
 split
 ·split
  ·exact wj2 (wj2 (hw k) (vk6 _ _)) (xq1 _)
  ·exact wj2 (hw k) (vk6 _ _)
 ·exact hw i
theorem asked_ok {h:HubD} (hw:ux2 h) (k:Nat) (q:ReqD):ux2 (h.asked k q):=by
 unfold HubD.asked
 split
 ·exact xyq hw k q
 ·exact xxd (xyq hw k q) _
theorem frame_ok {h:HubD} (hw:ux2 h) (k:Nat) (f:Fr):ux2 (h.frame k f):=by
 unfold HubD.frame
 split
 ·exact wqn hw k _
 split
 ·exact wqn hw k _
 ·exact asked_ok hw k _
theorem step_ok {h:HubD} (hw:ux2 h) (k:Nat) (f:Fr):ux2 (HubD.step k h f):=by
 unfold HubD.step
 split
 ·exact hw
 ·exact frame_ok hw k f
theorem wz9:∀{fs:List Fr} {h:HubD} (hw:ux2 h) (k:Nat),ux2 (h.frames k fs)
 | [],_,hw,_=>hw
 | f::fs,_,hw,k=>wz9 (fs:=fs) (step_ok hw k f) k
theorem feed_ok {h:HubD} (hw:ux2 h) (k:Nat) (s:Zlu):ux2 (h.feed k s):=xyu hw k (hw k)
theorem ended_ok {h:HubD} (hw:ux2 h) (k e:Nat):ux2 (h.ended k e):=by
 unfold HubD.ended
 split
 ·exact wqn hw k e
 ·exact hw
theorem xyx {h:HubD} (hw:ux2 h) (k:Nat) (s:Zlu):ux2 (h.work k s):=ended_ok (wz9 (feed_ok hw k s) k) k _
theorem vk0 {h:HubD} (hw:ux2 h) (k:Nat):ux2 (h.flush k):=xyu hw k (by intro f hf;cases hf)
theorem vwp {h:HubD} (hw:ux2 h) (k:Nat) (s:Zlu):ux2 (h.send k s):=by
 unfold HubD.send
 split
 ·exact hw
 ·exact vk0 (xyx hw k s) k
theorem wy9 {h:HubD} (hw:ux2 h) (k:Nat) (s:Zlu):∀x∈h.out k s,OutFr x:=by
 unfold HubD.out
 split
 ·intro x hx;cases hx
 ·exact xyx hw k s k
theorem vwb (s:St):ux2 (newH s):=fun i x hx=>by cases hx
theorem vzp (h:HubD) (k:Nat) (q:ReqD):(h.asked k q).srv=(doR h.srv q).srv:=by
 unfold HubD.asked
 split <;> rfl
theorem xk7 {h:HubD} (hv:SrvOk h.srv) (k:Nat) (f:Fr):SrvOk (h.frame k f).srv:=by
 unfold HubD.frame
 split
 ·exact hv
 split
 ·exact hv
 ·rw[vzp];exact(uvd hv _).1
theorem xqv {h:HubD} (hv:SrvOk h.srv) (k:Nat) (f:Fr):SrvOk (HubD.step k h f).srv:=by
 unfold HubD.step
 split
 ·exact hv
 ·exact xk7 hv k f
theorem vjo:∀{fs:List Fr} {h:HubD} (hv:SrvOk h.srv) (k:Nat),SrvOk (h.frames k fs).srv
 | [],_,hv,_=>hv
 | f::fs,_,hv,k=>vjo (fs:=fs) (xqv hv k f) k
theorem wz3 (h:HubD) (k e:Nat):(h.ended k e).srv=h.srv:=by
 unfold HubD.ended
 split <;> rfl
theorem work_srv {h:HubD} (hv:SrvOk h.srv) (k:Nat) (s:Zlu):SrvOk (h.work k s).srv:=by
 unfold HubD.work
 rw[wz3]
 exact vjo (h:=h.feed k s) hv k
theorem vvb {h:HubD} (hv:SrvOk h.srv) (k:Nat) (s:Zlu):SrvOk (h.send k s).srv:=by
 unfold HubD.send
 split
 ·exact hv
 ·exact work_srv hv k s
theorem newF_app (L s:Zlu) (h:∃outs,(feedF L).out++outs=(feedF (L++s)).out):(feedF L).out++newF L s=(feedF (L++s)).out:=by
 obtain⟨outs,h⟩:=h
 unfold newF
 rw[<- h,List.drop_left]
theorem xkz (L s:Zlu):∃outs,(feedF L).out++outs=(feedF (L++s)).out:=by
 rw[uw5]
 by_cases h:(feedF L).e=3
 ·rw[if_pos h];exact⟨_,rfl⟩
 ·rw[if_neg h];exact⟨[],List.append_nil _⟩
theorem uy2 (L s:Zlu):(feedF L).out++newF L s=(feedF (L++s)).out:=newF_app L s (xkz L s)
theorem uy1 {L s:Zlu} {outs:List Fr} (h:(feedF L).out++outs=(feedF (L++s)).out):outs=newF L s:=by
 have:=uy2 L s
 rw[<- h] at this
 exact(List.append_cancel_left this).symm
theorem wxb {fs:List Fr} (hg:∀x∈fs,uxu x) {y:Fr} (hy:uxu y):newF (encs fs) (wireF y.ver y.kind y.pl)=[y]/\errF (encs fs++wireF y.ver y.kind y.pl)=0:=by
 have h1:=vqk fs hg
 have h2:=vqk (fs++[y]) (fun x hx=>by
  rcases List.mem_append.1 hx with hx | hx
  ·exact hg x hx
  ·rw[List.mem_singleton.1 hx];exact hy)
 have he:encs (fs++[y])=encs fs++wireF y.ver y.kind y.pl:=by rw[uxv,uk3]
 rw[he] at h2
 refine⟨(uy1 (by rw[h1,h2])).symm,?_⟩
 unfold errF
 rw[h2,if_pos rfl]
theorem uvu {fs gs:List Fr} (hg:∀x∈fs,uxu x) (hy:∀x∈gs,uxu x):newF (encs fs) (encs gs)=gs/\errF (encs fs++encs gs)=0:=by
 have h1:=vqk fs hg
 have h2:=vqk (fs++gs) (fun x hx=>by
  rcases List.mem_append.1 hx with hx | hx
  ·exact hg x hx
  ·exact hy x hx)
 rw[uxv] at h2
 refine⟨(uy1 (by rw[h1,h2])).symm,?_⟩
 unfold errF
 rw[h2,if_pos rfl]
theorem xvi (j:JobD):jobE j<=9:=by unfold jobE;split <;> (try split) <;> decide
theorem wy5 (j:NodeD):nodeE j<=9:=by unfold nodeE;split <;> (try split) <;> decide
theorem xvo (js:List JobD) (ns:List NodeD) (l:uqb):uzw js ns l<=9:=by unfold uzw;split <;> (try split) <;> decide
theorem xvn (l:uqb):uzi l<=9:=by unfold uzi;(repeat' split) <;> decide
theorem vva {α:Type} {key:α->Zba} {chk:α->Nat} (h:∀x,chk x<=9):∀(l:List α) (p:Option α),rowsE key chk p l<=9
 | [],_=>by unfold rowsE;decide
 | x::r,p=>by
  unfold rowsE
  split
  ·exact h x
  split
  ·decide
  ·exact vva h r _
theorem wzd (s:St):uqp s<=9:=by
 unfold uqp
 (repeat' split)
 all_goals first | decide | exact vva xvi _ _ | exact vva wy5 _ _ | exact vva (xvo _ _) _ _
theorem partE_le (q:ReqD):partE q<=9:=by
 unfold partE
 (repeat' split)
 all_goals first | decide | exact xvi _ | exact wy5 _ | exact xvn _
theorem xww (q:ReqD):reqE q<=9:=by
 unfold reqE
 (repeat' split)
 all_goals first | decide | exact partE_le _
theorem wja (s:St) (n:Int) (l:uqb):(uja s n l).2<=9:=by
 unfold uja
 (repeat' split)
 all_goals first | (show _<=9;dsimp only;decide) | (dsimp only;exact wzd _) | (dsimp only;omega)
theorem doW_le (v:Srv) (q:ReqD):(doW v q).2<=9:=by
 unfold doW
 (repeat' split)
 all_goals first | (dsimp only;decide) | (dsimp only;exact wzd _) | exact wja _ _ _ | (dsimp only;exact wja _ _ _) | (dsimp only;split <;> decide) | (simp only;split <;> (dsimp only;decide))
theorem doN_le (v:Srv) (q:ReqD):(doN v q).2<=9:=by
 unfold doN
 split
 ·exact doW_le v q
 ·exact xww q
theorem doR_le (v:Srv) (q:ReqD):(doR v q).code<=9:=by
 rcases ujh v q with⟨_,_,_,h⟩ | ⟨_,_,_,h⟩ | ⟨_,_,h⟩ | ⟨_,h⟩ <;> rw[h]
 ·show _<=9;dsimp only;decide
 ·show _<=9;dsimp only;decide
 ·show _<=9;dsimp only;decide
 ·exact doN_le v q
theorem xws {c:Nat} {r:Int} (hc:c<=10) (hr:0<=r/\r<=1099511627776):uzt (c:Int) r=true/\repF c r=[⟨3,4,encP c r⟩]:=by
 have h1:uzt (c:Int) r=true:=uwj.2 ⟨⟨by omega,by omega⟩,hr⟩
 refine⟨h1,?_⟩
 have h2:(encPR c r).1=encP c r:=by unfold encPR;rw[if_pos h1]
 have hl:(encP c r).length<=20:=by
  unfold encP
  rw[zrb]
  have a:=uqm (c:Int).toNat (by omega)
  have b:=uqm r.toNat (by omega)
  omega
 unfold repF frF
 rw[h2,if_pos (by unfold encF;rw[if_pos (by unfold goodF;omega),if_neg (by omega)])]
theorem vjj {v:Srv} (hv:SrvOk v) (q:ReqD):uzt ((doR v q).code:Int) (doR v q).srv.st.rev=true/\repF (doR v q).code (doR v q).srv.st.rev=[⟨3,4,encP (doR v q).code (doR v q).srv.st.rev⟩] :=
 xws (zrc (doR_le v q) (by decide)) (uvd hv q).1.1.rev
def reqFr (q:ReqD):Fr:=⟨3,3,encQ q⟩
theorem uj9 {q:ReqD} (h:reqE q=0):uxu (reqFr q):=⟨⟨by show 1<=3;decide,by show 3<=3;decide⟩,⟨by show 1<=3;decide,by show 3<=4;decide⟩,zrc (wqz h) (by decide)⟩
theorem vvx {q:ReqD} (h:reqE q=0) (H:HubD) (k:Nat):H.frame k (reqFr q)=H.asked k q:=by
 unfold HubD.frame
 rw[if_neg (by simp[reqFr])]
 show(if(decQR (encQ q)).2≠0 then _ else H.asked k (decQR (encQ q)).1)=_
 rw[xkg h,if_neg (by simp)]
theorem vqd (h:HubD) (k:Nat) (q:ReqD) (i:Nat):((h.asked k q).c i).closed=(h.c i).closed/\((h.asked k q).c i).L=(h.c i).L:=by
 have ht:∀i,((h.told k q).c i).closed=(h.c i).closed/\((h.told k q).c i).L=(h.c i).L:=by
  intro i
  show(if _ then _ else _:ConnD).closed=_/\(if _ then _ else _:ConnD).L=_
  by_cases hi:i=k
  ·subst hi
   simp only[if_true]
   split <;> exact⟨rfl,rfl⟩
  ·simp only[if_neg hi];exact⟨trivial,trivial⟩
 unfold HubD.asked
 split
 ·exact ht i
 ·show(if _ then _ else _:ConnD).closed=_/\(if _ then _ else _:ConnD).L=_
  split
  ·exact ht i
  ·exact ht i
def Whole (h:HubD):Prop:=∀i,i<8->(h.c i).closed=false/\∃fs,(∀x∈fs,uxu x)/\(h.c i).L=encs fs
theorem vq3 (s:St):Whole (newH s):=fun i _=>⟨rfl,[],by simp,rfl⟩
theorem work_req {h:HubD} (W:Whole h) {k:Nat} (hk:k<8) {q:ReqD} (hq:reqE q=0):h.work k (encs [reqFr q])=(h.feed k (encs [reqFr q])).asked k q:=by
 obtain⟨hc,fs,hg,hL⟩:=W k hk
 have h1:=wxb hg (uj9 hq)
 have hf0:((h.feed k (encs [reqFr q])).c k).closed=false:=by unfold HubD.feed;rw[uqs];exact hc
 unfold HubD.work
 rw[hL,uk3,h1.1,h1.2]
 rw[uk3] at hf0
 unfold HubD.frames HubD.ended
 rw[if_neg (by simp)]
 show HubD.step k _ _=_
 unfold HubD.step
 rw[if_neg (by rw[hf0];simp),vvx hq]
theorem uvb {h:HubD} (W:Whole h) {k:Nat} (hk:k<8) {q:ReqD} (hq:reqE q=0) :
  h.out k (encs [reqFr q])=(((h.feed k (encs [reqFr q])).asked k q).c k).waits/\h.send k (encs [reqFr q])=((h.feed k (encs [reqFr q])).asked k q).flush k/\(h.send k (encs [reqFr q])).srv=(doR h.srv q).srv/\Whole (h.send k (encs [reqFr q])):=by
 have hw:=work_req W hk hq
 have hc:=(W k hk).1
 have h2:h.send k (encs [reqFr q])=((h.feed k (encs [reqFr q])).asked k q).flush k:=by unfold HubD.send;rw[if_neg (by rw[hc];simp),hw]
 refine⟨by unfold HubD.out;rw[if_neg (by rw[hc];simp),hw],h2,by rw[h2];show((h.feed k _).asked k q).srv=_;rw[vzp];rfl,fun i hi=>?_⟩
 rw[h2]
 have ha:=vqd (h.feed k (encs [reqFr q])) k q i
 have hfl:((((h.feed k (encs [reqFr q])).asked k q).flush k).c i).closed=(((h.feed k (encs [reqFr q])).asked k q).c i).closed/\((((h.feed k (encs [reqFr q])).asked k q).flush k).c i).L=(((h.feed k (encs [reqFr q])).asked k q).c i).L:=by
  unfold HubD.flush
  by_cases hik:i=k
  ·subst hik;rw[uqs];exact⟨rfl,rfl⟩
  ·rw[uq1 _ _ hik];exact⟨rfl,rfl⟩
 rw[hfl.1,hfl.2,ha.1,ha.2]
 obtain⟨hci,fs,hg,hL⟩:=W i hi
 unfold HubD.feed
 by_cases hik:i=k
 ·subst hik
  rw[uqs]
  refine⟨hci,fs++[reqFr q],fun x hx=>?_,by rw[uxv,hL]⟩
  rcases List.mem_append.1 hx with hx | hx
  ·exact hg x hx
  ·rw[List.mem_singleton.1 hx];exact uj9 hq
 ·rw[uq1 _ _ hik]
  exact⟨hci,fs,hg,hL⟩
theorem vx8 {h:HubD} (hv:SrvOk h.srv) (k:Nat) (q:ReqD):(⟨3,4,encP (doR h.srv q).code (doR h.srv q).srv.st.rev⟩:Fr)∈((h.asked k q).c k).waits:=by
 have hr:=(vjj hv q).2
 have ht:(⟨3,4,encP (doR h.srv q).code (doR h.srv q).srv.st.rev⟩:Fr)∈((h.told k q).c k).waits:=by
  unfold HubD.told
  simp only[if_true]
  split
  ·refine List.mem_append.2 (.inl (List.mem_append.2 (.inr ?_)))
   rw[hr];exact List.mem_singleton.2 rfl
  ·refine List.mem_append.2 (.inr ?_)
   rw[hr];exact List.mem_singleton.2 rfl
 unfold HubD.asked
 split
 ·exact ht
 ·show _∈(if _ then _ else _:ConnD).waits
  split
  ·exact ht
  ·exact List.mem_append.2 (.inl ht)
theorem ujr (h:HubD) {k i:Nat} (hi:i≠k) (q:ReqD):(h.told k q).c i=h.c i:=if_neg hi
theorem wku {h:HubD} {k i:Nat} (hi:i≠k) (hw:(h.c i).watch=false) (q:ReqD):(h.asked k q).c i=h.c i:=by
 unfold HubD.asked
 split
 ·exact ujr h hi q
 ·show(if _ then _ else _)=_
  rw[ujr h hi q,if_pos (.inr hw)]
theorem wvm {h:HubD} {k i:Nat} (hi:i≠k) (hw:(h.c i).watch=false) (f:Fr):(h.frame k f).c i=h.c i:=by
 unfold HubD.frame
 split
 ·exact uq1 _ _ hi
 split
 ·exact uq1 _ _ hi
 ·exact wku hi hw _
theorem vqm {k i:Nat} (hi:i≠k):∀(fs:List Fr) {h:HubD} (hw:(h.c i).watch=false),(h.frames k fs).c i=h.c i
 | [],_,_=>rfl
 | f::fs,h,hw=>by
  have h1:(HubD.step k h f).c i=h.c i:=by
   unfold HubD.step
   split
   ·rfl
   ·exact wvm hi hw f
  show((HubD.step k h f).frames k fs).c i=_
  rw[vqm hi fs (by rw[h1];exact hw),h1]
theorem vvp (h:HubD) {k i:Nat} (hi:i≠k) (e:Nat):(h.ended k e).c i=h.c i:=by
 unfold HubD.ended
 split
 ·exact uq1 _ _ hi
 ·rfl
theorem vxs {h:HubD} {k i:Nat} (hi:i≠k) (hw:(h.c i).watch=false) (s:Zlu):(h.send k s).c i=h.c i:=by
 unfold HubD.send
 split
 ·rfl
 ·unfold HubD.flush HubD.work
  rw[uq1 _ _ hi,vvp _ hi]
  have hf:(h.feed k s).c i=h.c i:=uq1 _ _ hi
  rw[vqm hi _ (by rw[hf];exact hw),hf]
theorem ux7 (h:HubD) {k i:Nat} (hi:i≠k):(h.flush k).c i=h.c i:=uq1 _ _ hi
theorem uz4 (h:HubD) (k:Nat):((h.flush k).c k).waits=[]:=by unfold HubD.flush;rw[uqs]
structure PreH (k:Nat) (p:List Fr) (a b:HubD):Prop where
 srv:a.srv=b.srv
 o:∀i,i≠k->a.c i=b.c i
 cl:(a.c k).closed=(b.c k).closed
 wt:(a.c k).watch=(b.c k).watch
 ws:(a.c k).waits=p++(b.c k).waits
section
variable {k:Nat} {p:List Fr} {a b:HubD}
theorem PreH.upd (h:PreH k p a b) {x y:ConnD} (hc:x.closed=y.closed) (hw:x.watch=y.watch) (hs:x.waits=p++y.waits):PreH k p (a.upd k x) (b.upd k y) :=
 ⟨h.srv,fun i hi=>by rw[uq1 _ _ hi,uq1 _ _ hi];exact h.o i hi,by rw[uqs,uqs];exact hc,by rw[uqs,uqs];exact hw,by rw[uqs,uqs];exact hs⟩
theorem PreH.put_ws (h:PreH k p a b) (fs:List Fr):((a.c k).put fs).waits=p++((b.c k).put fs).waits:=by
 show(a.c k).waits++fs=p++((b.c k).waits++fs)
 rw[h.ws,zrh]
theorem PreH.close (h:PreH k p a b) (e:Nat):PreH k p (a.close k e) (b.close k e):=by
 unfold HubD.close
 rw[h.srv]
 exact h.upd rfl h.wt (h.put_ws _)
theorem PreH.told (h:PreH k p a b) (q:ReqD):PreH k p (a.told k q) (b.told k q):=by
 unfold HubD.told
 rw[h.srv]
 refine⟨rfl,fun i hi=>by simp only[if_neg hi];exact h.o i hi,?_,?_,?_⟩
 ·simp only[if_true];split <;> exact h.cl
 ·simp only[if_true]
  split
  ·show((a.c k).watch||_)=((b.c k).watch||_);rw[h.wt]
  ·exact h.wt
 ·simp only[if_true]
  split
  ·show((a.c k).waits++_)++_=p++(((b.c k).waits++_)++_);rw[h.ws];simp only[zrh]
  ·exact h.put_ws _
theorem PreH.changed (h:PreH k p a b) (d:uq0):PreH k p (a.changed d) (b.changed d):=by
 unfold HubD.changed
 rw[h.srv]
 refine⟨rfl,fun i hi=>by simp only[h.o i hi],?_,?_,?_⟩
 ·simp only[h.cl,h.wt];split <;> exact h.cl
 ·simp only[h.cl,h.wt];split <;> exact h.wt
 ·simp only[h.cl,h.wt]
  split
  ·exact h.ws
  ·exact h.put_ws _
theorem PreH.asked (h:PreH k p a b) (q:ReqD):PreH k p (a.asked k q) (b.asked k q):=by
 unfold HubD.asked
 rw[h.srv]
 split
 ·exact h.told q
 ·exact(h.told q).changed _
theorem PreH.frame (h:PreH k p a b) (f:Fr):PreH k p (a.frame k f) (b.frame k f):=by
 unfold HubD.frame
 split
 ·exact h.close _
 split
 ·exact h.close _
 ·exact h.asked _
theorem PreH.step (h:PreH k p a b) (f:Fr):PreH k p (HubD.step k a f) (HubD.step k b f):=by
 unfold HubD.step
 rw[h.cl]
 split
 ·exact h
 ·exact h.frame f
theorem PreH.frames:∀(fs:List Fr) {a b:HubD},PreH k p a b->PreH k p (a.frames k fs) (b.frames k fs)
 | [],_,_,h=>h
 | f::fs,_,_,h=>PreH.frames fs (h.step f)
theorem PreH.ended (h:PreH k p a b) (e:Nat):PreH k p (a.ended k e) (b.ended k e):=by
 unfold HubD.ended
 rw[h.cl]
 split
 ·exact h.close e
 ·exact h
theorem PreH.flush (h:PreH k p a b):PreH k [] (a.flush k) (b.flush k):=by
 unfold HubD.flush
 refine⟨h.srv,fun i hi=>by rw[uq1 _ _ hi,uq1 _ _ hi];exact h.o i hi,by rw[uqs,uqs];exact h.cl,by rw[uqs,uqs];exact h.wt,by rw[uqs,uqs];rfl⟩
end
theorem vyo (h:HubD) (k:Nat) (a b:List Fr):h.frames k (a++b)=(h.frames k a).frames k b:=by unfold HubD.frames;rw[List.foldl_append]
theorem wkz (h:HubD) (k e i:Nat):((h.close k e).c i).L=(h.c i).L:=by
 unfold HubD.close
 by_cases hi:i=k
 ·subst hi;rw[uqs];rfl
 ·rw[uq1 _ _ hi]
theorem frame_L (h:HubD) (k:Nat) (f:Fr) (i:Nat):((h.frame k f).c i).L=(h.c i).L:=by
 unfold HubD.frame
 split
 ·exact wkz _ _ _ _
 split
 ·exact wkz _ _ _ _
 ·exact(vqd h k _ i).2
theorem wyx {k:Nat}:∀(fs:List Fr) (h:HubD) (i:Nat),((h.frames k fs).c i).L=(h.c i).L
 | [],_,_=>rfl
 | f::fs,h,i=>by
  show(((HubD.step k h f).frames k fs).c i).L=_
  rw[wyx fs]
  unfold HubD.step
  split
  ·rfl
  ·exact frame_L h k f i
structure SameH (k:Nat) (a b:HubD):Prop where
 p:PreH k [] a b
 L:(b.c k).closed=false->(a.c k).L=(b.c k).L
theorem vxa (h:HubD) (k:Nat):h.ended k 0=h:=by unfold HubD.ended;rw[if_neg (by simp)]
theorem vyi {h:HubD} {k:Nat} (hc:(h.c k).closed=true) (e:Nat):h.ended k e=h:=by unfold HubD.ended;rw[if_neg (by rw[hc];simp)]
theorem ended_L (h:HubD) (k e i:Nat):((h.ended k e).c i).L=(h.c i).L:=by
 unfold HubD.ended
 split
 ·exact wkz _ _ _ _
 ·rfl
theorem wkn (h:HubD) (k:Nat) (s:Zlu):((h.work k s).c k).L=(h.c k).L++s:=by
 unfold HubD.work
 rw[ended_L,wyx]
 unfold HubD.feed
 rw[uqs]
theorem uys (h:HubD) (k:Nat):(h.flush k).c k={ h.c k with waits:=[] }:=by unfold HubD.flush;rw[uqs]
theorem SameH.refl (k:Nat) (h:HubD):SameH k h h:=⟨⟨rfl,fun _ _=>rfl,rfl,rfl,rfl⟩,fun _=>rfl⟩
theorem SameH.trans {k:Nat} {a b c:HubD} (h:SameH k a b) (g:SameH k b c):SameH k a c :=
 ⟨⟨h.p.srv.trans g.p.srv,fun i hi=>(h.p.o i hi).trans (g.p.o i hi),h.p.cl.trans g.p.cl,h.p.wt.trans g.p.wt,by have:=h.p.ws;rw[List.nil_append] at this;rw[this];exact g.p.ws⟩,
  fun hc=>(h.L (by rw[g.p.cl];exact hc)).trans (g.L hc)⟩
theorem SameH.send {k:Nat} {a b:HubD} (h:SameH k a b) (s:Zlu):a.out k s=b.out k s/\SameH k (a.send k s) (b.send k s):=by
 cases hc:(b.c k).closed with
 | true =>
  have ha:(a.c k).closed=true:=by rw[h.p.cl];exact hc
  unfold HubD.out HubD.send
  rw[if_pos ha,if_pos hc,if_pos ha,if_pos hc]
  exact⟨rfl,h⟩
 | false =>
  have ha:(a.c k).closed=false:=by rw[h.p.cl];exact hc
  have hL:=h.L hc
  have hf:PreH k [] (a.feed k s) (b.feed k s):=by
   unfold HubD.feed
   exact⟨h.p.srv,fun i hi=>by rw[uq1 _ _ hi,uq1 _ _ hi];exact h.p.o i hi,by rw[uqs,uqs];exact h.p.cl,by rw[uqs,uqs];exact h.p.wt,by rw[uqs,uqs];exact h.p.ws⟩
  have hw:PreH k [] (a.work k s) (b.work k s):=by
   unfold HubD.work
   rw[hL]
   exact(PreH.frames _ hf).ended _
  unfold HubD.out HubD.send
  rw[if_neg (by rw[ha];simp),if_neg (by rw[hc];simp),if_neg (by rw[ha];simp),if_neg (by rw[hc];simp)]
  refine⟨hw.ws,hw.flush,fun _=>?_⟩
  rw[uys,uys]
  show((a.work k s).c k).L=((b.work k s).c k).L
  rw[wkn,wkn,hL]
def outsH (k:Nat):HubD->List (Zlu)->List Fr
 | _,[]=>[]
 | h,s::r=>h.out k s++outsH k (h.send k s) r
def vqc (k:Nat) (h:HubD) (ps:List (Zlu)):HubD:=ps.foldl (fun h s=>h.send k s) h
def uxd (q:ReqD):Zlu:=if reqE q=0 then encs [reqFr q] else[]
theorem uw1 (q:ReqD):(uxd q).length<=130:=by
 unfold uxd
 split
 ·rename_i h
  have:=wqz h
  have h2:=uqm (encQ q).length (by omega)
  rw[uk3,uze]
  have h3:(reqFr q).pl=encQ q:=rfl
  rw[h3]
  omega
 ·simp
theorem vk1 (k:Nat) (pl:Zlu):(encs (frF k pl)).length<=6018:=by
 have h:=vzt (frF k pl) (fun x hx=>(wq3 k pl x hx).1)
 have h1:(frF k pl).length<=1:=by unfold frF;split <;> simp
 omega
theorem wj5 (c:Nat) (r:Int):(encs (repF c r)).length<=6018:=vk1 _ _
theorem wkg (v:Srv):(encs (telF v)).length<=6018:=by
 by_cases h:(sfrR 3 v.st).2=0
 ·rw[vww h];exact vk1 _ _
 ·unfold telF;rw[if_pos h];exact vk1 _ _
theorem xj3 (v:Srv) (d:uq0):(encs (chgF v d)).length<=6018:=by
 unfold chgF
 split
 ·exact vk1 _ _
 ·exact wkg _
theorem vwh (x:ConnD) (fs:List Fr):(encs (x.put fs).waits).length=(encs x.waits).length+(encs fs).length:=by
 show(encs (x.waits++fs)).length=_
 rw[uxv,zrb]
def HubD.len (h:HubD) (i:Nat):Nat:=(encs (h.c i).waits).length
theorem upd_len (h:HubD) (k:Nat) (x:ConnD) (i n:Nat) (hx:(encs x.waits).length<=h.len k+n):(h.upd k x).len i<=h.len i+n:=by
 unfold HubD.len
 by_cases hi:i=k
 ·subst hi;rw[uqs];exact hx
 ·rw[uq1 _ _ hi];omega
theorem vvg (h:HubD) (k e i:Nat):(h.close k e).len i<=h.len i+6018:=by
 refine upd_len h k _ i 6018 ?_
 show(encs ((h.c k).put (repF e h.srv.st.rev)).waits).length<=_
 rw[vwh]
 have:=wj5 e h.srv.st.rev
 unfold HubD.len
 omega
theorem wky (h:HubD) (d:uq0) (i:Nat):(h.changed d).len i<=h.len i+6018:=by
 unfold HubD.changed HubD.len
 simp only
 split
 ·omega
 ·rw[vwh]
  have:=xj3 h.srv d
  omega
theorem told_len (h:HubD) (k:Nat) (q:ReqD) (i:Nat):(h.told k q).len i<=h.len i+12036:=by
 unfold HubD.told HubD.len
 simp only
 by_cases hi:i=k
 ·subst hi
  rw[if_pos rfl]
  have h1:=wj5 (doR h.srv q).code (doR h.srv q).srv.st.rev
  have h2:=wkg (doR h.srv q).srv
  split
  ·show(encs (((h.c i).put _).put _).waits).length<=_
   rw[vwh,vwh];omega
  ·rw[vwh];omega
 ·rw[if_neg hi];omega
theorem xjy (h:HubD) (k:Nat) (q:ReqD) (i:Nat):(h.asked k q).len i<=h.len i+18054:=by
 have h1:=told_len h k q i
 unfold HubD.asked
 split
 ·omega
 ·rename_i d _
  have h2:=wky (h.told k q) d i
  omega
theorem step_len (h:HubD) (k:Nat) (f:Fr) (i:Nat):(HubD.step k h f).len i<=h.len i+18054:=by
 unfold HubD.step
 split
 ·omega
 ·unfold HubD.frame
  split
  ·have:=vvg h k 1 i;omega
  split
  ·have:=vvg h k (decQR f.pl).2 i;omega
  ·exact xjy h k _ i
theorem vjn (k:Nat):∀(fs:List Fr) (h:HubD) (i:Nat),(h.frames k fs).len i<=h.len i+fs.length*18054
 | [],h,i=>by show h.len i<=_;omega
 | f::r,h,i=>by
  have h1:=vjn k r (HubD.step k h f) i
  have h2:=step_len h k f i
  show((HubD.step k h f).frames k r).len i<=_
  rw[List.length_cons]
  omega
theorem wyu (h:HubD) (k:Nat) (s:Zlu) (i:Nat):(h.feed k s).len i=h.len i:=by
 unfold HubD.feed HubD.len
 by_cases hi:i=k
 ·subst hi;rw[uqs]
 ·rw[uq1 _ _ hi]
theorem xq4 (h:HubD) (k:Nat) (s:Zlu) (i:Nat):(h.work k s).len i<=h.len i+(newF (h.c k).L s).length*18054+6018:=by
 unfold HubD.work
 have h1:=vjn k (newF (h.c k).L s) (h.feed k s) i
 rw[wyu] at h1
 unfold HubD.ended
 split
 ·have h2:=vvg ((h.feed k s).frames k (newF (h.c k).L s)) k (errF ((h.c k).L++s)) i
  omega
 ·omega
theorem xk4 (h:HubD) (k i:Nat):(h.flush k).len i<=h.len i:=by
 unfold HubD.flush HubD.len
 by_cases hi:i=k
 ·subst hi;rw[uqs];simp[uxo]
 ·rw[uq1 _ _ hi];exact zra _
theorem wxn (h:HubD) (k:Nat) (s:Zlu) (i:Nat):(h.send k s).len i<=h.len i+(newF (h.c k).L s).length*18054+6018:=by
 unfold HubD.send
 split
 ·omega
 ·exact zrc (xk4 _ _ _) (xq4 h k s i)
theorem vxk (L s:Zlu):(newF L s).length<=s.length+6020:=by
 have hm:=uw5 L s
 have h:=uy2 L s
 rw[hm] at h
 by_cases he:(feedF L).e=3
 ·rw[if_pos he] at h
  have h2:=List.append_cancel_left h
  rw[h2]
  have h3:=wyt (L.drop (feedF L).n++s)
  have h4:=vyj L he
  rw[zrb] at h3
  omega
 ·rw[if_neg he] at h
  have h2:newF L s=[]:=by
   have:=congrArg List.length h
   rw[zrb] at this
   exact List.eq_nil_of_length_eq_zero (by omega)
  rw[h2];simp
structure ActP where
 k:Option Nat
 s:Zlu
structure PlayD where
 h:HubD
 o:Nat->List Fr
def actP (a:PlayD) (x:ActP):PlayD:=match x.k with
 | none=>a
 | some k=>⟨a.h.send k x.s,fun i=>if i=k then a.o k++a.h.out k x.s else a.o i⟩
def playP (s:St) (l:List ActP):PlayD:=l.foldl actP ⟨newH s,fun _=>[]⟩
def playF (s:St) (l:List ActP) (k:Nat):List Fr:=(playP s l).o k++((playP s l).h.c k).waits
structure wxz (a:PlayD):Prop where
 w:ux2 a.h
 v:SrvOk a.h.srv
 o:∀k,∀x∈a.o k,OutFr x
def byK (k:Nat) (ps:List (Zlu)):List ActP:=ps.map fun p=>⟨some k,p⟩
end Go.Proofs.YtknmnhleicakhaaGreatDoor
