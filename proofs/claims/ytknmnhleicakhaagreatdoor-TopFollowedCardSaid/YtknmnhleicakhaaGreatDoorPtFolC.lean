/- Lemmas.
-/
import Derived.Test.YtknmnhleicakhaaGreatDoorPtFolB
set_option linter.all false
set_option maxHeartbeats 16000000
set_option maxRecDepth 100000
namespace Go.Proofs.YtknmnhleicakhaaGreatDoor
open Go.Proofs.Tryz
theorem uyi {α:Type} {enc:α->Zlu} {l:List α} {m n:Nat} (h:∀x∈l,(enc x).length<=m) (hl:l.length<=n) (hn:n<=1000):(rowsB enc l).length<=10+m*n:=by
 have h1:=uqm l.length (by omega)
 have h2:(l.flatMap enc).length<=m*l.length:=by
  clear hl h1
  induction l with
  | nil=>simp
  | cons a r ih =>
   rw[List.flatMap_cons,zrb,List.length_cons,Nat.mul_succ]
   have:=h a (List.mem_cons_self ..)
   have:=ih (fun x hx=>h x (List.mem_cons_of_mem _ hx))
   omega
 have h3:m*l.length<=m*n:=Nat.mul_le_mul_left m hl
 unfold rowsB
 rw[zrb]
 omega
theorem vwr {α:Type} {key:α->Zba} {l:List α} (h:uqy key l):l.Pairwise (· ≠ ·) :=
 List.Pairwise.imp (fun {a b} hab e=>by subst e;rw[uxr] at hab;cases hab) h
theorem uyk {α:Type} [DecidableEq α] {key:α->Zba} {a b:List α} (hb:uqy key b) {y:α} (h:∀x∈b,x=y\/x∈a):(setOf a b).length<=1:=by
 have hp:(setOf a b).Pairwise (· ≠ ·):=List.Pairwise.filter _ (vwr hb)
 exact vqu (setOf a b) [y] hp (fun x hx=>by
  obtain⟨h1,h2⟩:=uz1.1 hx
  rcases h x h1 with h3 | h3
  ·exact List.mem_singleton.2 h3
  ·exact absurd h3 h2)
theorem uym {α:Type} {key:α->Zba} {l:List α} {s:Zba} {x:α} (h:x∈takeL key l s):x∈l:=by
 unfold takeL at h
 split at h
 ·exact List.mem_of_mem_eraseIdx h
 ·exact h
theorem doW_new {v:Srv} (hv:SrvOk v) (q:ReqD):∃(yj:JobD) (yn:NodeD) (yl:uqb),(∀x∈(doW v q).1.st.jobs,x=yj\/x∈v.st.jobs)/\(∀x∈(doW v q).1.st.nodes,x=yn\/x∈v.st.nodes)/\(∀x∈(doW v q).1.st.leases,x=yl\/x∈v.st.leases):=by
 have F:=hv.1
 unfold doW
 by_cases k1:q.kind=1
 ·rw[if_pos k1]
  exact⟨q.job,noN,noL,fun x hx=>((uzj F.sj q.job x).1 hx).imp id (·.1),fun x hx=>.inr hx,fun x hx=>.inr hx⟩
 rw[if_neg k1]
 by_cases k2:q.kind=2
 ·rw[if_pos k2]
  exact⟨noJ,q.node,noL,fun x hx=>.inr hx,fun x hx=>((uzj F.sn q.node x).1 hx).imp id (·.1),fun x hx=>.inr hx⟩
 rw[if_neg k2]
 by_cases k3:q.kind=3
 ·rw[if_pos k3]
  exact⟨noJ,noN,noL,fun x hx=>.inr (uym hx),fun x hx=>.inr hx,fun x hx=>.inr (List.mem_filter.1 hx).1⟩
 rw[if_neg k3]
 by_cases k4:q.kind=4
 ·rw[if_pos k4]
  exact⟨noJ,noN,noL,fun x hx=>.inr hx,fun x hx=>.inr (uym hx),fun x hx=>.inr (List.mem_filter.1 hx).1⟩
 rw[if_neg k4]
 by_cases k5:q.kind=5
 ·rw[if_pos k5]
  show ∃yj yn yl,(∀x∈(uja v.st v.now q.lease).1.jobs,_)/\(∀x∈(uja v.st v.now q.lease).1.nodes,_)/\(∀x∈(uja v.st v.now q.lease).1.leases,_)
  unfold uja
  cases hj:jobAt v.st.jobs q.lease.job with
  | none=>exact⟨noJ,noN,noL,fun x hx=>.inr hx,fun x hx=>.inr hx,fun x hx=>.inr hx⟩
  | some j =>
   have triv:∃(yj:JobD) (yn:NodeD) (yl:uqb),(∀x∈v.st.jobs,x=yj\/x∈v.st.jobs)/\(∀x∈v.st.nodes,x=yn\/x∈v.st.nodes)/\(∀x∈v.st.leases,x=yl\/x∈v.st.leases):=⟨noJ,noN,noL,fun x hx=>.inr hx,fun x hx=>.inr hx,fun x hx=>.inr hx⟩
   simp only[]
   by_cases g1:hasL NodeD.name v.st.nodes q.lease.node=false
   ·rw[if_pos g1];exact triv
   rw[if_neg g1]
   by_cases g2:hasL uqb.job v.st.leases q.lease.job=true
   ·rw[if_pos g2];exact triv
   rw[if_neg g2]
   by_cases g3:q.lease.till<=v.now
   ·rw[if_pos g3];exact triv
   rw[if_neg g3]
   by_cases g4:j.tries=100
   ·rw[if_pos g4];exact triv
   rw[if_neg g4]
   refine⟨uwd j,noN,q.lease,fun x hx=>?_,fun x hx=>.inr hx,fun x hx=>((uzj F.sl q.lease x).1 hx).imp id (·.1)⟩
   rcases List.mem_or_eq_of_mem_set hx with h | h
   ·exact .inr h
   ·exact .inl h
 rw[if_neg k5]
 by_cases k6:q.kind=6
 ·rw[if_pos k6]
  exact⟨noJ,noN,noL,fun x hx=>.inr hx,fun x hx=>.inr hx,fun x hx=>.inr (uym hx)⟩
 rw[if_neg k6]
 by_cases k7:q.kind=7
 ·rw[if_pos k7]
  by_cases g:1099511627776-v.now<q.n
  ·rw[if_pos g];exact⟨noJ,noN,noL,fun x hx=>.inr hx,fun x hx=>.inr hx,fun x hx=>.inr hx⟩
  ·rw[if_neg g];exact⟨noJ,noN,noL,fun x hx=>.inr hx,fun x hx=>.inr hx,fun x hx=>.inr (List.mem_filter.1 hx).1⟩
 ·rw[if_neg k7];exact⟨noJ,noN,noL,fun x hx=>.inr hx,fun x hx=>.inr hx,fun x hx=>.inr hx⟩
theorem vz7 {v:Srv} (hv:SrvOk v) {q:ReqD} {d:uq0} (h:(doR v q).told=some d):d=betw v.st (doR v q).srv.st/\uqp v.st=0/\uqp (doR v q).srv.st=0/\v.st.rev<(doR v q).srv.st.rev:=by
 obtain⟨_,h2,h3⟩:=vkx hv h
 exact⟨h2,(uxp _).2 hv.1,(uxp _).2 (uvd hv q).1.1,h3⟩
theorem vkc {v:Srv} (hv:SrvOk v) {q:ReqD} {d:uq0} (h:(doR v q).told=some d):(encD d).length<=6000:=by
 obtain⟨hc,_,_⟩:=vkx hv h
 obtain⟨hd,ha,hb,hr⟩:=vz7 hv h
 have hE:=vqe ha hb hr
 have hD:=uv4 hE
 obtain⟨hn,e1,e2,e3,_⟩:=uwt hc
 obtain⟨_,hw⟩:=vvk hn
 obtain⟨yj,yn,yl,n1,n2,n3⟩:=doW_new hv q
 rw[hw] at e1 e2 e3
 rw[<- e1] at n1
 rw[<- e2] at n2
 rw[<- e3] at n3
 have F':=(uvd hv q).1.1
 have l1:=uyk F'.sj n1
 have l2:=uyk F'.sn n2
 have l3:=uyk F'.sl n3
 have F:=hv.1
 have g1:=zrc (uzv JobD.name v.st.jobs (doR v q).srv.st.jobs) F.nj
 have g2:=zrc (uzv NodeD.name v.st.nodes (doR v q).srv.st.nodes) (zrc F.nn (by decide:20<=40))
 have g3:=zrc (uzv uqb.job v.st.leases (doR v q).srv.st.leases) F.nl
 rw[hd]
 generalize(doR v q).srv.st=t at *
 generalize hdd:betw v.st t=d' at *
 subst hdd
 obtain⟨o1,o2,o3,o4,o5,o6,o7,o8⟩:=hD
 have a1:=uyi (enc:=encJ 3) (m:=82) (fun x hx=>vq8 (o3.2 x hx)) (show(betw v.st t).jobs.length<=1 from l1) (by decide)
 have a2:=uyi (enc:=encN 3) (m:=62) (fun x hx=>vq9 (o4.2 x hx)) (show(betw v.st t).nodes.length<=1 from l2) (by decide)
 have a3:=uyi (enc:=encL) (m:=62) (fun x hx=>vzs (o5.2 x hx)) (show(betw v.st t).leases.length<=1 from l3) (by decide)
 have a4:=uyi (enc:=encT) (m:=26) (fun x hx=>ux9 (o6.2 x hx)) (show(betw v.st t).gj.length<=40 from g1) (by decide)
 have a5:=uyi (enc:=encT) (m:=26) (fun x hx=>ux9 (o7.2 x hx)) (show(betw v.st t).gn.length<=40 from g2) (by decide)
 have a6:=uyi (enc:=encT) (m:=26) (fun x hx=>ux9 (o8.2 x hx)) (show(betw v.st t).gl.length<=40 from g3) (by decide)
 have b1:=uqm (betw v.st t).frm.toNat (by have:=o1.2;omega)
 have b2:=uqm ((betw v.st t).upto-(betw v.st t).frm).toNat (by have:=o2.2;omega)
 unfold encD
 simp only[zrb]
 omega
theorem wze {v:Srv} (hv:SrvOk v) {q:ReqD} {d:uq0} (h:(doR v q).told=some d) (u:Srv):chgF u d=[⟨3,2,encD d⟩]:=by
 have hl:=vkc hv h
 obtain⟨hd,ha,hb,hr⟩:=vz7 hv h
 have hE:uxn d=0:=by rw[hd];exact vqe ha hb hr
 have h0:encDR d=(encD d,0):=by unfold encDR;rw[if_neg (by rw[hE];simp),if_neg (by omega)]
 unfold chgF
 rw[h0,if_pos rfl]
 unfold frF
 rw[if_pos (by unfold encF;rw[if_pos (by unfold goodF;omega),if_neg (by show ¬6000<(encD d).length;omega)])]
theorem uw9 {s t:Option St} {a b:List Fr} (h:uxl s a=(t,0)):uxl s (a++b)=uxl t b:=by
 unfold uxl at *
 rw[List.foldl_append,h]
theorem uw8 {s t:Option St} {x:Fr} (h:folFr s x=(t,0)):uxl s [x]=(t,0):=by
 unfold uxl folGo
 simp only[List.foldl_cons,List.foldl_nil,if_true]
 rw[h]
def Leads (c:Nat) (h h':HubD):Prop:=∃ex,h'.c c={ h.c c with waits:=(h.c c).waits++ex }/\((h.c c).watch=true->(h.c c).closed=false->uxl (some h.srv.st) ex=(some h'.srv.st,0))/\uxl none ex=(none,0)
theorem Leads.refl (c:Nat) (h:HubD):Leads c h h:=⟨[],by rw[List.append_nil],fun _ _=>rfl,rfl⟩
theorem Leads.trans {c:Nat} {a b d:HubD} (h:Leads c a b) (g:Leads c b d):Leads c a d:=by
 obtain⟨x,h1,h2,h3⟩:=h
 obtain⟨y,g1,g2,g3⟩:=g
 refine⟨x++y,?_,fun hw hc=>?_,by rw[uw9 h3];exact g3⟩
 ·rw[g1,h1,zrh]
 ·rw[uw9 (h2 hw hc)]
  exact g2 (by rw[h1];exact hw) (by rw[h1];exact hc)
theorem wks {h:HubD} (hv:SrvOk h.srv) {c k:Nat} (hne:c≠k) (q:ReqD):Leads c h (h.asked k q):=by
 unfold HubD.asked
 cases ht:(doR h.srv q).told with
 | none =>
  simp only[]
  refine⟨[],by rw[ujr h hne,List.append_nil],fun _ _=>?_,rfl⟩
  show uxl _ _=(some (doR h.srv q).srv.st,0)
  rw[wzt ht];rfl
 | some d =>
  simp only[]
  have hc2:=wze hv ht (doR h.srv q).srv
  by_cases hw:(h.c c).watch=true/\(h.c c).closed=false
  ·refine⟨[⟨3,2,encD d⟩],?_,fun _ _=>?_,uw8 rfl⟩
   ·show(if _ then _ else _:ConnD)=_
    rw[ujr h hne,if_neg (by rw[hw.1,hw.2];simp)]
    show(h.c c).put (chgF (doR h.srv q).srv d)=_
    rw[hc2];rfl
   ·obtain⟨hd,ha,hb,hr⟩:=vz7 hv ht
    have hl:=vkc hv ht
    rw[hd] at hl ⊢
    exact uw8 (wvj ha hb hr hl)
  ·refine⟨[],?_,fun h1 h2=>absurd ⟨h1,h2⟩ hw,rfl⟩
   show(if _ then _ else _:ConnD)=_
   rw[ujr h hne,if_pos (by cases h1:(h.c c).watch <;> cases h2:(h.c c).closed <;> simp_all),List.append_nil]
theorem wvl {h:HubD} (hv:SrvOk h.srv) {c k:Nat} (hne:c≠k) (f:Fr):Leads c h (h.frame k f):=by
 have sh:∀e,Leads c h (h.close k e):=fun e=>⟨[],by rw[List.append_nil];exact uq1 _ _ hne,fun _ _=>rfl,rfl⟩
 unfold HubD.frame
 split
 ·exact sh _
 split
 ·exact sh _
 ·exact wks hv hne _
theorem vkj {c k:Nat} (hne:c≠k):∀(fs:List Fr) {h:HubD} (hv:SrvOk h.srv),Leads c h (h.frames k fs)
 | [],h,_=>Leads.refl c h
 | f::fs,h,hv=>by
  have h1:Leads c h (HubD.step k h f):=by
   unfold HubD.step
   split
   ·exact Leads.refl c h
   ·exact wvl hv hne f
  exact h1.trans (vkj hne fs (xqv hv k f))
theorem xz1 {h:HubD} (hv:SrvOk h.srv) {c k:Nat} (hne:c≠k) (s:Zlu):Leads c h (h.send k s):=by
 unfold HubD.send
 split
 ·exact Leads.refl c h
 ·have hf:(h.feed k s).c c=h.c c:=uq1 _ _ hne
  obtain⟨ex,h1,h2,h3⟩:Leads c (h.feed k s) ((h.feed k s).frames k (newF (h.c k).L s)):=vkj hne _ hv
  refine⟨ex,?_,fun hw hc=>?_,h3⟩
  ·unfold HubD.work
   rw[ux7 _ hne,vvp _ hne,h1,hf]
  ·show uxl (some h.srv.st) ex=(some ((h.work k s).flush k).srv.st,0)
   have:((h.work k s).flush k).srv=((h.feed k s).frames k (newF (h.c k).L s)).srv:=by
    show(h.work k s).srv=_
    unfold HubD.work
    rw[wz3]
   rw[this]
   exact h2 (by rw[hf];exact hw) (by rw[hf];exact hc)
def folOf (fs:List Fr):FolD:=⟨encs fs,(uxl none fs).1⟩
theorem folOf_nil:folOf []=vx4:=by unfold folOf vx4;rw[uxo];rfl
theorem folOf_ok (fs:List Fr):FolOk (folOf fs).st:=wz5 (fun t h=>by cases h) fs
theorem sfr_is {s:St} (h:(sfrR 3 s).2=0):uqp s=0/\uxu ⟨3,1,encS 3 s⟩/\(sfrR 3 s).1=wireF 3 1 (encS 3 s):=by
 unfold sfrR at h ⊢
 by_cases h0:(encR 3 s).2≠0
 ·rw[if_pos h0] at h;exact absurd h h0
 rw[if_neg h0] at h ⊢
 obtain⟨he0,_,hc,_⟩:=encR_ok (v:=3) (s:=s) (by omega)
 have he:(encR 3 s).1=encS 3 s:=by rw[he0]
 rw[he] at h ⊢
 unfold encF at h ⊢
 by_cases hg:goodF 3 1
 ·rw[if_pos hg] at h ⊢
  by_cases hl:6000<(encS 3 s).length
  ·rw[if_pos hl] at h;cases h
  ·rw[if_neg hl]
   exact⟨hc,⟨⟨by show 1<=3;decide,by show 3<=3;decide⟩,⟨by show 1<=1;decide,by show 1<=4;decide⟩,by show(encS 3 s).length<=6000;omega⟩,rfl⟩
 ·rw[if_neg hg] at h;cases h
def flatP (ps:List Zba) (k:Nat):Zlu:=((ps.take k).map (·.data.toList)).flatten
open Go.RowKit
def stOr (o:Option St):St:=o.getD uvr
theorem stOr_sz {o:Option St} (h:FolOk o):StSz (stOr o):=by
 cases o with
 | none=>exact⟨(fun x hx=>by cases hx),(fun x hx=>by cases hx),(fun x hx=>by cases hx),Nat.zero_le _,Nat.zero_le _,Nat.zero_le _⟩
 | some t=>exact((uxp t).1 (h t rfl)).sz
theorem folState_any {w:World} {f fd:Nat} {R:Nat->Prop} {x:FolD} {v:Value} (M:FolM w f fd R x v) (hok:FolOk x.st) :
  Calls prog 14 #[zse f] w fun e w'=>∃q1 q2 q3 d1 d2 d3,e=.returned (.tuple #[.agg #[.int .i64 (stOr x.st).rev,.slice q1 (stOr x.st).jobs.length d1,.slice q2 (stOr x.st).nodes.length d2,.slice q3 (stOr x.st).leases.length d3],.bool x.st.isSome])/\StM w' w'.heap.size q1 q2 q3 (stOr x.st)/\Below w.heap.size w w':=by
 have hs:=M.s
 cases hx:x.st with
 | none =>
  rw[hx] at hs
  obtain rfl:v=.pointer none:=hs
  refine(wq2 f fd w M.b).mono ?_
  rintro e w' ⟨rfl,hb⟩
  exact⟨none,none,none,0,0,0,rfl,⟨.nil_,.nil_,.nil_⟩,hb⟩
 | some t =>
  rw[hx] at hs
  obtain⟨b,p1,p2,p3,c1,c2,c3,rfl,hbb,_,hm,_,_,_⟩:=hs
  have F:=(uxp t).1 (hok t hx)
  refine(vzw f fd b t p1 p2 p3 c1 c2 c3 w M.b hbb hm (by have:=F.nj;omega) (by have:=F.nn;omega) (by have:=F.nl;omega)).mono ?_
  rintro e w' ⟨q1,q2,q3,d1,d2,d3,rfl,hO,hb⟩
  exact⟨q1,q2,q3,d1,d2,d3,rfl,hO.m,hb⟩
end Go.Proofs.YtknmnhleicakhaaGreatDoor
