/- Lemmas.
-/
import Derived.Test.YtnnfgchhkekkeacGreatDoorPvActs
set_option linter.all false
set_option maxHeartbeats 16000000
set_option maxRecDepth 100000
namespace Go.Proofs.YtnnfgchhkekkeacGreatDoor
open Go.Proofs.Tryz
set_option maxRecDepth 200000
def toP (x:ActD):ActP:=⟨if 0<=x.conn/\x.conn<8 then some x.conn.toNat else none,x.bytes.data.toList⟩
def sumP (l:List ActP):Nat:=(l.map fun x=>x.s.length).sum
theorem vjs (l:List ActD):sumP (l.map toP)=uz5 l:=by
 unfold sumP uz5
 rw[List.map_map]
 congr 1
def totP (l:List ActP):Nat:=(sumP l+l.length*6020)*18054+l.length*6018
theorem vq0 (x:ActP) (r:List ActP):totP (x::r)=((x.s.length+6020)*18054+6018)+totP r:=by
 unfold totP sumP
 rw[List.map_cons,List.sum_cons,List.length_cons]
 omega
theorem wqx (l:List ActP) (n:Nat):totP (l.take n)<=totP l:=by
 induction l generalizing n with
 | nil=>simp
 | cons x r ih =>
  cases n with
  | zero=>simp[totP,sumP]
  | succ n=>rw[List.take_succ_cons,vq0,vq0];have:=ih n;omega
theorem vjb (L s:Zlu):(newF L s).length*18054<=(s.length+6020)*18054:=Nat.mul_le_mul_right _ (vv5 L s)
theorem ww2 (a:PlayD) (x:ActP) (i:Nat):(actP a x).h.len i<=a.h.len i+((x.s.length+6020)*18054+6018):=by
 unfold actP
 split
 ·omega
 ·rename_i k _
  have h1:=send_len a.h k x.s i
  have h2:=vjb (a.h.c k).L x.s
  dsimp only
  omega
theorem xq5 (h:HubD) (k:Nat) (s:Zlu):(encs (h.out k s)).length<=h.len k+((s.length+6020)*18054+6018):=by
 unfold HubD.out
 split
 ·simp[uz2]
 ·have h1:=wkt h k s k
  have h2:=vjb (h.c k).L s
  unfold HubD.len at h1 ⊢
  omega
theorem wka:∀(l:List ActP) (a:PlayD) (i:Nat),(l.foldl actP a).h.len i<=a.h.len i+totP l
 | [],a,i=>by show a.h.len i<=_;omega
 | x::r,a,i=>by
  have h1:=wka r (actP a x) i
  have h2:=ww2 a x i
  rw[vq0]
  have h3:((x::r).foldl actP a)=r.foldl actP (actP a x):=rfl
  rw[h3]
  omega
theorem vy8:∀(l:List ActP) (a:PlayD) (k M:Nat),a.h.len k+totP l<=M->(encs ((l.foldl actP a).o k)).length<=(encs (a.o k)).length+l.length*M
 | [],a,k,M,_=>by show(encs (a.o k)).length<=_;omega
 | x::r,a,k,M,hM=>by
  rw[vq0] at hM
  have h2:=ww2 a x k
  have h1:=vy8 r (actP a x) k M (by omega)
  have h3:(encs ((actP a x).o k)).length<=(encs (a.o k)).length+M:=by
   unfold actP
   split
   ·omega
   ·rename_i j _
    show(encs (if k=j then a.o j++a.h.out j x.s else a.o k)).length<=_
    by_cases hk:k=j
    ·subst hk
     rw[if_pos rfl,ux3,zrb]
     have:=xq5 a.h k x.s
     omega
    ·rw[if_neg hk];omega
  show(encs ((r.foldl actP (actP a x)).o k)).length<=_
  have h4:(r.length+1)*M=r.length*M+M:=by rw[Nat.add_mul,Nat.one_mul]
  rw[List.length_cons]
  omega
theorem vjg (s:St) (l:List ActP) (i:Nat):(playP s l).h.len i<=totP l:=by
 have h:=wka l ⟨newH s,fun _=>[]⟩ i
 have h0:(newH s).len i=0:=vv6 s i
 show(l.foldl actP _).h.len i<=_
 have h1:(⟨newH s,fun _=>[]⟩:PlayD).h.len i=0:=h0
 omega
theorem vkv (s:St) (l:List ActP) (k:Nat):(encs ((playP s l).o k)).length<=l.length*totP l:=by
 have h:=vy8 l ⟨newH s,fun _=>[]⟩ k (totP l) (by show(newH s).len k+totP l<=totP l;rw[vv6];omega)
 have h0:(encs ((⟨newH s,fun _=>[]⟩:PlayD).o k)).length=0:=by show(encs []).length=0;rw[uz2];rfl
 show(encs ((l.foldl actP _).o k)).length<=_
 omega
theorem vwj {l:List ActP} (h1:l.length<=60) (h2:sumP l<=200000000):totP l<=4000000000000:=by
 unfold totP
 omega
theorem play_mid (s:St) (l:List ActP) (x:ActP) (k n i:Nat):(encs (((((playP s l).h.feed k x.s).frames k ((newF ((playP s l).h.c k).L x.s).take n)).c i).waits)).length<=totP (l++[x]):=by
 have h1:=wx9 (playP s l).h k x.s n i
 have h2:=vjb ((playP s l).h.c k).L x.s
 have h3:=vjg s l i
 have h4:totP (l++[x])=totP l+((x.s.length+6020)*18054+6018):=by
  unfold totP sumP
  rw[List.map_append,List.sum_append,zrb]
  simp only[List.map_cons,List.map_nil,List.sum_cons,List.sum_nil,List.length_cons,List.length_nil]
  omega
 omega
def outL (o:Nat->List Fr):List Value:=[.string (bstr (encs (o 0))),.string (bstr (encs (o 1))),.string (bstr (encs (o 2))),.string (bstr (encs (o 3))),.string (bstr (encs (o 4))),.string (bstr (encs (o 5))),.string (bstr (encs (o 6))),.string (bstr (encs (o 7)))]
def outA (o:Nat->List Fr):Array Value:=(outL o).toArray
theorem xq4 {o:Nat->List Fr} {k:Nat} (hk:k<8):(outA o)[k]?=some (.string (bstr (encs (o k)))):=uyr (p:=fun k=>(outA o)[k]?=some (.string (bstr (encs (o k))))) hk rfl rfl rfl rfl rfl rfl rfl rfl
theorem wjz {o:Nat->List Fr} {k:Nat} (hk:k<8) (v:List Fr):(outA o).setIfInBounds k (.string (bstr (encs v)))=outA (fun i=>if i=k then v else o i):=uyr (p:=fun k=>(outA o).setIfInBounds k (.string (bstr (encs v)))=outA (fun i=>if i=k then v else o i)) hk rfl rfl rfl rfl rfl rfl rfl rfl
theorem vxk {o o':Nat->List Fr} (h:∀i,i<8->o i=o' i):outA o=outA o':=by
 unfold outA outL
 rw[h 0 (by decide),h 1 (by decide),h 2 (by decide),h 3 (by decide),h 4 (by decide),h 5 (by decide),h 6 (by decide),h 7 (by decide)]
open Go.RowKit
section
variable {w w':World} {B g sv:Nat} {fd:Nat->Nat} {ws:Nat->Value} {h:HubD}
theorem SvI.offstr {v:Srv} (hs:SvI w sv v) {k:Nat} (hg:w.grownBy w' (some k)) {cs:Array Value} (hk:Blk w k 9 cs):SvI w' sv v:=by
 obtain⟨q1,q2,q3,d1,d2,d3,hM⟩:=hs
 refine⟨q1,q2,q3,d1,d2,d3,GrB.blk hg hM.b (hM.b.ne_ hk ?_),hM.own.other hg hk ?_ ?_ ?_⟩
 all_goals decide
theorem HubM.offstr (H:HubM w B g sv fd ws h) {k:Nat} (hg:w.grownBy w' (some k)) {cs:Array Value} (hk:Blk w k 9 cs):HubM w' B g sv fd ws h:=by
 have n1:g≠k:=H.b.ne_ hk (by decide)
 refine⟨H.b.kept hg (fun e=>n1 (by injection e with e;exact e.symm)),H.s.offstr hg hk,fun i hi=>(H.f i hi).kept hg (fun e=>?_),H.d,fun i hi=>(H.q i hi).kept hg (fun j hj e=>?_),H.e,⟨H.lo.1,H.lo.2.1,H.lo.2.2.1,zrc H.lo.2.2.2 hg.size⟩⟩
 ·injection e with e
  exact(H.f i hi).ne_ hk (by decide) e.symm
 ·obtain⟨c3,h3⟩:=(H.q i hi).own hj
  injection e with e
  exact h3.ne_ hk (by decide) e.symm
end
theorem outA_nil:outA (fun _=>[])=#[.string .empty,.string .empty,.string .empty,.string .empty,.string .empty,.string .empty,.string .empty,.string .empty]:=by
 unfold outA outL
 simp only[uz2]
 rfl
theorem make8 (W:World):(Instr.makeSlice 51 (.int .i64 8) (.int .i64 8)).run prog W=.ok (.slice (some ⟨W.heap.size,0,none⟩) 8 8) (W.alloc (.cells #[.string .empty,.string .empty,.string .empty,.string .empty,.string .empty,.string .empty,.string .empty,.string .empty] 9)):=by kernel_rfl
theorem toP_none {x:ActD} (h:x.conn<0\/8<=x.conn) (a:PlayD):actP a (toP x)=a:=by
 unfold actP toP
 dsimp only
 rw[if_neg (by omega)]
theorem wkq {k:Nat} (hk:k<8) (b:Zba) (a:PlayD):actP a (toP ⟨(k:Int),b⟩)=⟨a.h.send k b.data.toList,fun i=>if i=k then a.o k++a.h.out k b.data.toList else a.o i⟩:=by
 unfold actP toP
 dsimp only
 rw[if_pos (by omega)]
 simp only[Int.toNat_natCast]
theorem toP_shut {k:Nat} (hk:k<8) (b:Zba) {a:PlayD} (hc:(a.h.c k).closed=true):actP a (toP ⟨(k:Int),b⟩)=a:=by
 rw[wkq hk]
 unfold HubD.send HubD.out
 rw[if_pos hc,if_pos hc,List.append_nil]
 have:(fun i=>if i=k then a.o k else a.o i)=a.o:=by
  funext i
  by_cases hi:i=k
  ·subst hi;rw[if_pos rfl]
  ·rw[if_neg hi]
 rw[this]
theorem xxd (s:St) {l:List ActD} {n:Nat} {x:ActD} (h:l[n]?=some x):playP s ((l.map toP).take (n+1))=actP (playP s ((l.map toP).take n)) (toP x):=by
 rw[List.take_add_one,zrg,h]
 exact wvz _ _ _
theorem play_tot {l:List ActD} {n:Nat} {x:ActD} (h:l[n]?=some x) (h1:l.length<=60) (h2:uz5 l<=200000000):totP ((l.map toP).take n++[toP x])<=4000000000000:=by
 have e:(l.map toP).take n++[toP x]=(l.map toP).take (n+1):=by rw[List.take_add_one,zrg,h];rfl
 rw[e]
 exact zrc (wqx _ _) (vwj (by rw[zre];exact h1) (by rw[vjs];exact h2))
theorem hplay_any (s:St) (p1 p2 p3:Zoa) (c1 c2 c3:Nat) (w:World) (hm:StM w w.heap.size p1 p2 p3 s) (hz:StSz s) (hT:Tabs w) (l:List ActD) (pa:Zoa) (ca:Nat) (hel:Elts w w.heap.size 2 pa (l.map rowA)) (hl:l.length<=60) (hsum:uz5 l<=200000000) (h:uqr s=0) :
  Calls prog 12 #[.agg (stv s p1 p2 p3 c1 c2 c3),.slice pa l.length ca] w fun e w'=>∃b,e=.returned (.tuple #[.slice (some ⟨b,0,none⟩) 8 8,.int .i64 0])/\w.heap.size<=b/\Blk w' b 9 (outA (playF s (l.map toP)))/\Below w.heap.size w w':=by
 have hb0:=zsa w (.cells (stv s p1 p2 p3 c1 c2 c3) 26)
 have bx0:=Blk.new w 26 (stv s p1 p2 p3 c1 c2 c3)
 have HN:=zrj (fun(W:World) (hW:Below w.heap.size w W)=>wxs s p1 p2 p3 c1 c2 c3 W ((hm.below hW).more hW.size) hz (hT.below hW) h)
 have hli:¬((60:Int)<(l.length:Int)):=by omega
 have F0:=zrj ((uxk s).1 h)
 have HT:=zrj hT
 have HEL:=zrj hel
 have HSU:=zrj hsum
 have hza:=wq1
 clear h hm hz hT hel hsum
 go_enter func12,ntmps12
 go_wp2_with(first | (refine uqa rfl _ _ rfl w.heap.size rfl _ _ bx0 _ underlying26 rfl uqg ?_))
 generalize w.alloc _=w0 at *
 refine(HN.out w0 hb0).mono ?_
 rintro e w1 ⟨g,sv,fd,ws,rfl,H1,hb1⟩
 have hB1:=bthen hb0 hb1
 have hB:=zrj hb0.size
 have hb2:=zsa w1 (.cells #[.string .empty,.string .empty,.string .empty,.string .empty,.string .empty,.string .empty,.string .empty,.string .empty] 9)
 have bo:=Blk.new w1 9 #[.string .empty,.string .empty,.string .empty,.string .empty,.string .empty,.string .empty,.string .empty,.string .empty]
 have H2:=H1.below hb2
 have hB2:=bthen hB1 hb2
 have hbb:w.heap.size<=w1.heap.size:=hB1.size
 have HBo:=zrj bo
 have HH2:=zrj H2
 have HB2:=zrj hB2
 have hmk:=make8 w1
 clear hb0 hb1 HN bx0 hB1 hb2 bo H1 H2 hB2
 go_wp2_with fail
 clear hmk
 generalize w1.alloc _=wO at *
 generalize w1.heap.size=b at *
 have HBo2:=HBo.out
 rw[<- outA_nil] at HBo2
 clear HBo
 go_loopw [34] (fun i wr=>∃(n:Nat) (wsn:Nat->Value),n<=l.length/\i=.int .i64 n/\HubM wr w0.heap.size g sv fd wsn (playP s ((l.map toP).take n)).h/\Blk wr b 9 (outA (playP s ((l.map toP).take n)).o)/\Below w.heap.size w wr) (fun i _=>l.length-(intOf i).toNat)
 case atStart=>exact⟨0,ws,Nat.zero_le _,rfl,HH2.out,HBo2,HB2.out⟩
 case round =>
  obtain⟨n,wsn,hn,rfl,Hn,bn,cc⟩:=hrel
  clear HBo2
  by_cases hlt:n<l.length
  ·have hx:l[n]?=some l[n]:=zrd hlt
   have hub:=zrc (wz4 (List.getElem_mem hlt)) HSU.out
   have hpt:=xxd s hx
   have htt:=play_tot hx hl HSU.out
   generalize l[n]=x at *
   obtain⟨a,rfl,hab,_,hat⟩:=(HEL.out.below cc).at_ (k:=n) (r:=rowA x) (by rw[zrg,hx];rfl)
   obtain⟨cn,by_⟩:=x
   have hmb:=fun k=>play_mid s ((l.map toP).take n) (toP ⟨cn,by_⟩) k
   have holn:=fun k=>vkv s ((l.map toP).take n) k
   have htk:=zrc (wqx (l.map toP) n) (vwj (l:=l.map toP) (by rw[zre];exact hl) (by rw[vjs];exact HSU.out))
   have hlk:((l.map toP).take n).length<=60:=by rw[List.length_take,zre];omega
   have hlen:=fun i=>vjg s ((l.map toP).take n) i
   have hvk:SrvOk (playP s ((l.map toP).take n)).h.srv:=(vwa F0.out _).v
   generalize hP:playP s ((l.map toP).take n)=P at *
   clear hP
   generalize(l.map toP).take n=L at *
   have HPT:=zrj hpt
   have HMB:=zrj hmb
   have HTT:=zrj htt
   have HOL:=zrj (fun k=>zrc (holn k) (zrc (Nat.mul_le_mul hlk htk) (by decide:60*4000000000000<=4611686018427387904)))
   have HVK:=zrj hvk
   have HLN:=zrj (fun i=>zrc (hlen i) htk)
   have hb1:=zsa wr (.cells #[.int .i64 cn,.string by_] 50)
   have bx:=Blk.new wr 50 #[.int .i64 cn,.string by_]
   have HHn:=zrj (Hn.below hb1)
   have bn1:=bn.bl hb1
   have cc1:=bthen cc hb1
   have x0:=bx.cell 0
   have x1:=bx.cell 1
   simp only at hub
   clear Hn bn cc hx hab hb1 hpt htt hmb holn htk hlk hlen hvk
   go_upto_region 10 with(first | (refine uqe rfl _ _ rfl (a.add (n*2)) rfl [Value.int .i64 cn,Value.string by_] _ hat underlying50 rfl wz3 ?_) | (refine uqh rfl _ _ _ rfl rfl 50 _ #[.int .i64 cn,.string by_] rfl wz3 rfl (one_act _ _) ?_))
   generalize wr.alloc _=W1 at *
   generalize wr.heap.size=gx at *
   clear hat
   by_cases hr:cn<0\/8<=cn
   ·have HS:=zrj (xqk (w:=W1) g cn hr by_)
    have HE:=zrj (HPT.out.trans (toP_none (x:=⟨cn,by_⟩) hr P))
    clear hr
    go_wp2_with fail
    refine HS.out.mono ?_
    rintro e w2 ⟨rfl,rfl⟩
    go_wp2_with fail
    go_roundw
    case rel=>exact⟨n+1,wsn,by omega,by go_num,by rw[HE.out];exact HHn.out,by rw[HE.out];exact bn1,cc1⟩
    case measure=>simp[intOf];omega
   ·obtain⟨k,rfl⟩:∃k:Nat,cn=k:=Int.eq_ofNat_of_zero_le (by omega)
    have hk:k<8:=by omega
    cases hcl:(P.h.c k).closed
    ·have HS:=zrj (vym HHn.out hk HVK.out (fun W hW=>HT.out.below (cc1.trans (hW.mono hB.out))) by_ (by omega) (by have h2:=vv5 (P.h.c k).L by_.data.toList;rw[uvq] at h2;omega) (fun m i hi=>by
      have h1:=HMB.out k m i
      have h2:(encs ((P.h.mid k by_.data.toList m).c i).waits).length<=totP (L++[toP ⟨(k:Int),by_⟩]):=h1
      have h3:=HTT.out
      omega) hcl)
     have HE:=zrj (HPT.out.trans (wkq hk by_ P))
     have hol:=xq5 P.h k by_.data.toList
     have hln:=HLN.out k
     have hok:=HOL.out k
     have hadd:∀W,(Op.stringOp .add (bstr (encs (P.o k))) (bstr (encs (P.h.out k by_.data.toList)))).run prog W=.ok (.string (bstr (encs (P.o k))++bstr (encs (P.h.out k by_.data.toList)))) W:=fun W=>run_string_add_sum W _ _ (by rw[uq2,uq2];rw[uvq] at hol;omega)
     rw[uy0,<- ux3] at hadd
     have hki:(k:Int)<8:=by omega
     have hk0:¬(k:Int)<0:=by omega
     have HBS:=zrj (fun(v:List Fr)=>wjz (o:=P.o) hk v)
     have HAT:=zrj (xq4 (o:=P.o) hk)
     clear hr hcl hol hln hok
     generalize P.h.out k by_.data.toList=no at *
     go_wp2_with fail
     refine HS.out.mono ?_
     rintro e w2 ⟨rfl,ws2,H2,C2⟩
     have bx2:=C2.blk HHn.out bx (by decide) (by decide) (by decide) (by decide)
     have bn2:=C2.blk HHn.out bn1 (by decide) (by decide) (by decide) (by decide)
     have cc2:=cc1.trans ((C2.under HHn.out).mono hB.out)
     have x0:=bx2.cell 0
     have y0:w2.cell? ⟨b,k,none⟩=some (.string (bstr (encs (P.o k)))):=(bn2.cell k).trans HAT.out
     have y1:w2.frozen? ⟨b,k,none⟩=false:=bn2.frozen k
     have hbs:=bn2.set_ k (.string (bstr (encs (P.o k++no))))
     rw[HBS.out] at hbs
     have HO3:=zrj hbs
     have HH3:=zrj (H2.offstr (uxz w2 b k (.string (bstr (encs (P.o k++no))))) bn2)
     have HC3:=zrj (cc2.setCell (p:=⟨b,k,none⟩) hbb (.string (bstr (encs (P.o k++no)))))
     clear H2 C2 cc1 bx bn1 HS hbs
     go_wp2_with fail
     go_roundw
     case rel=>exact⟨n+1,ws2,by omega,by go_num,by rw[HE.out];exact HH3.out,by rw[HE.out];exact HO3.out,HC3.out⟩
     case measure=>simp[intOf];omega
    ·have HS:=zrj (wvg HHn.out hk by_ hcl)
     have HE:=zrj (HPT.out.trans (toP_shut hk by_ hcl))
     clear hr hcl
     go_wp2_with fail
     refine HS.out.mono ?_
     rintro e w2 ⟨rfl,rfl⟩
     go_wp2_with fail
     go_roundw
     case rel=>exact⟨n+1,wsn,by omega,by go_num,by rw[HE.out];exact HHn.out,by rw[HE.out];exact bn1,cc1⟩
     case measure=>simp[intOf];omega
  ·obtain rfl:n=l.length:=by omega
   have htk:=vwj (l:=l.map toP) (by rw[zre];exact hl) (by rw[vjs];exact HSU.out)
   rw[<- zre (f:=toP),List.take_length] at Hn bn
   have HOL:=zrj (fun k=>zrc (vkv s (l.map toP) k) (zrc (Nat.mul_le_mul (by rw[zre];exact hl) htk) (by decide:60*4000000000000<=4611686018427387904)))
   have HLN:=zrj (fun i=>zrc (vjg s (l.map toP) i) htk)
   have HPF:=zrj (show ∀k,playF s (l.map toP) k=(playP s (l.map toP)).o k++((playP s (l.map toP)).h.c k).waits from fun k=>rfl)
   clear htk HEL HSU hza hlt
   generalize hfin:playF s (l.map toP)=fin at *
   have HFIN:=zrj hfin
   clear hfin
   generalize playP s (l.map toP)=P at *
   have HHn:=zrj Hn
   have hO0:outA P.o=outA (fun i=>if i<0 then fin i else P.o i):=vxk (fun i _=>by rw[if_neg (Nat.not_lt_zero _)])
   rw[hO0] at bn
   clear Hn hO0
   go_wp2_with fail
   go_loopw [60] (fun i wx=>∃(k:Nat) (wsk:Nat->Value) (h:HubD),k<=8/\i=.int .i64 k/\HubM wx w0.heap.size g sv fd wsk h/\Hid (∀i,k<=i->(h.c i).waits=(P.h.c i).waits)/\Blk wx b 9 (outA (fun i=>if i<k then fin i else P.o i))/\Below w.heap.size w wx) (fun i _=>8-(intOf i).toNat)
   case atStart=>exact⟨0,wsn,P.h,by omega,rfl,HHn.out,zrj (fun _ _=>rfl),bn,cc⟩
   case round =>
    obtain⟨k,wsk,h,hk8,rfl,Hk,HWk,bk,ck⟩:=hrel
    clear bn cc HHn
    by_cases hlt2:k<8
    ·have HO:=hout_any Hk hlt2
     rw[HWk.out k (zra _)] at HO
     have HO2:=zrj HO
     have hln:=HLN.out k
     have hok:=HOL.out k
     have hwl:(encs (P.h.c k).waits).length<=4000000000000:=hln
     have hadd:∀W,(Op.stringOp .add (bstr (encs (P.o k))) (bstr (encs (P.h.c k).waits))).run prog W=.ok (.string (bstr (encs (P.o k))++bstr (encs (P.h.c k).waits))) W:=fun W=>run_string_add_sum W _ _ (by rw[uq2,uq2];omega)
     rw[uy0,<- ux3,<- HPF.out k] at hadd
     have hki:(k:Int)<8:=by omega
     have hk0:¬(k:Int)<0:=by omega
     have HAT:=xq4 (o:=fun i=>if i<k then fin i else P.o i) hlt2
     simp only[if_neg (Nat.lt_irrefl k)] at HAT
     have HBS:=zrj ((wjz (o:=fun i=>if i<k then fin i else P.o i) hlt2 (fin k)).trans (vxk (o':=fun i=>if i<k+1 then fin i else P.o i) (fun i _=>by
      (try dsimp only)
      by_cases h1:i=k
      ·subst h1;rw[if_pos rfl,if_pos (Nat.lt_succ_self _)]
      ·rw[if_neg h1]
       by_cases h2:i<k
       ·rw[if_pos h2,if_pos (by omega)]
       ·rw[if_neg h2,if_neg (by omega)])))
     have HA2:=zrj HAT
     have HHk:=zrj Hk
     have HWn:=zrj (fun i (hi:k+1<=i)=>(show((h.flush k).c i).waits=(P.h.c i).waits by rw[uy4 _ (by omega)];exact HWk.out i (by omega)))
     clear HO HAT hln hok hwl Hk HWk
     generalize(P.h.c k).waits=wt at *
     go_wp2_with fail
     refine HO2.out.mono ?_
     rintro e w3 ⟨rfl,ws3,H3,C3⟩
     have bk3:=C3.blk HHk.out bk (by decide) (by decide) (by decide) (by decide)
     have ck3:=ck.trans ((C3.under HHk.out).mono hB.out)
     have y0:w3.cell? ⟨b,k,none⟩=some (.string (bstr (encs (P.o k)))):=(bk3.cell k).trans HA2.out
     have y1:w3.frozen? ⟨b,k,none⟩=false:=bk3.frozen k
     have hbs:=bk3.set_ k (.string (bstr (encs (fin k))))
     rw[HBS.out] at hbs
     have HO3:=zrj hbs
     have HH3:=zrj (H3.offstr (uxz w3 b k (.string (bstr (encs (fin k))))) bk3)
     have HC3:=zrj (ck3.setCell (p:=⟨b,k,none⟩) hbb (.string (bstr (encs (fin k)))))
     clear H3 C3 ck bk HHk hbs
     go_wp2_with fail
     go_roundw
     case rel=>exact⟨k+1,ws3,_,by omega,by go_num,HH3.out,HWn,HO3.out,HC3.out⟩
     case measure=>simp[intOf];omega
    ·obtain rfl:k=8:=by omega
     have HF:=zrj bk
     have HC:=zrj ck
     clear Hk HWk bk ck
     go_wp2_with fail
     go_ret2
     refine⟨b,rfl,hbb,?_,HC.out⟩
     rw[HFIN.out,vxk (o:=fin) (o':=fun i=>if i<8 then fin i else P.o i) (fun i hi=>by(try dsimp only);rw[if_pos hi])]
     exact HF.out
end Go.Proofs.YtnnfgchhkekkeacGreatDoor
