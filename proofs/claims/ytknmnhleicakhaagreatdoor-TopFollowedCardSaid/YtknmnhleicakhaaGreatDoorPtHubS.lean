/- Lemmas.
-/
import Derived.Test.YtknmnhleicakhaaGreatDoorPtHubG
set_option linter.all false
set_option maxHeartbeats 16000000
set_option maxRecDepth 100000
namespace Go.Proofs.YtknmnhleicakhaaGreatDoor
open Go.Proofs.Tryz
open Go.RowKit
theorem xjz (i:Nat) (c:UInt8):badAt i c<=4:=by
 unfold badAt
 repeat' split
 all_goals omega
theorem xvd:∀(f i:Nat) (l:Zlu),hdE f i l<=4
 | 0,_,_=>by show 0<=4;decide
 | _+1,_,[]=>by show 0<=4;decide
 | f+1,i,c::r=>by
  unfold hdE
  split
  ·exact xvd f _ _
  ·exact xjz _ _
theorem decF_low (l:Zlu):(decF l).e<=9:=by
 unfold decF
 split
 ·exact zrc (xvd _ _ _) (by decide)
 split
 ·show 3<=9;decide
 split
 ·exact wxm _ _ _ _
 split
 ·show 2<=9;decide
 split
 ·show 3<=9;decide
 split
 ·show 5<=9;decide
 ·show 0<=9;decide
theorem wz4:∀(f:Nat) (l:Zlu),(feedN f l).e<=9
 | 0,_=>by show 3<=9;decide
 | f+1,l=>by
  unfold feedN
  split
  ·exact wz4 f _
  ·exact decF_low l
theorem errF_low (L:Zlu):errF L<=9:=by
 unfold errF
 split
 ·decide
 ·exact wz4 _ _
theorem xx2 {w:World} {B g sv:Nat} {fd:Nat->Nat} {ws:Nat->Value} {h:HubD} (H:HubM w B g sv fd ws h) {k:Nat} (hk:k<8) (hv:SrvOk h.srv) (HTb:∀W,Below B w W->Tabs W) (x:Fr) (hg:uxu x) (hz:∀i,i<8->(encs (h.c i).waits).length<=140737488200000) :
  Calls prog 23 #[zse g,.pointer (some ⟨g,1+k*4,none⟩),.agg #[.int .i64 (x.ver:Int),.int .i64 (x.kind:Int),.string (bstr x.pl)]] w fun e w'=>e=.returned (.tuple #[])/\HubQ w B g sv fd ws (h.frame k x) w':=by
 by_cases h1:x.ver=3
 ·by_cases h2:x.kind=3
  ·by_cases hd:(decQR x.pl).2=0
   ·exact wvo H hk hv HTb x hg hz h1 h2 hd
   ·exact xx3 H hk hv HTb x hg hz h1 h2 hd
  ·exact vv3 H hk hv HTb x hg hz (.inr h2)
 ·exact vv3 H hk hv HTb x hg hz (.inl h1)
def HubD.mid (h:HubD) (k:Nat) (s:Zlu) (n:Nat):HubD:=(h.feed k s).frames k ((newF (h.c k).L s).take n)
theorem mid_zero (h:HubD) (k:Nat) (s:Zlu):h.mid k s 0=h.feed k s:=by unfold HubD.mid;rw[List.take_zero];rfl
theorem mid_step (h:HubD) (k:Nat) (s:Zlu) (n:Nat) (x:Fr) (hx:(newF (h.c k).L s)[n]?=some x):h.mid k s (n+1)=HubD.step k (h.mid k s n) x:=by
 unfold HubD.mid
 rw[List.take_add_one,hx,Option.toList_some,vyo]
 rfl
theorem mid_all (h:HubD) (k:Nat) (s:Zlu):(h.mid k s (newF (h.c k).L s).length).ended k (errF ((h.c k).L++s))=h.work k s:=by
 unfold HubD.mid
 rw[List.take_length]
 rfl
theorem mid_srv {h:HubD} (hv:SrvOk h.srv) (k:Nat) (s:Zlu) (n:Nat):SrvOk (h.mid k s n).srv:=vjo (h:=h.feed k s) hv k
theorem HubC.asd {w w':World} {g sv:Nat} {fd:Nat->Nat} {ws:Nat->Value} {k:Nat} (hk:k<8) (ha:Asd w (fd k) w'):HubC w g sv fd ws w' ws:=HubC.grown ha (fun j hj=>by injection hj with hj;subst hj;exact .inr (.inr (.inl ⟨k,hk,rfl⟩)))
theorem vqo {w:World} {B g sv:Nat} {fd:Nat->Nat} {ws:Nat->Value} {h:HubD} (H:HubM w B g sv fd ws h) {k:Nat} (hk:k<8) (hv:SrvOk h.srv) (HTb:∀W,Below B w W->Tabs W) (s:Zba) (hs:s.size<=1152921504606846976)
  (hc:(newF (h.c k).L s.data.toList).length<=4398046511104) (hz:∀n i,i<8->(encs ((h.mid k s.data.toList n).c i).waits).length<=140737488200000) (ho:(h.c k).closed=false) :
  Calls prog 10 #[zse g,.int .i64 (k:Int),.string s] w fun e w'=>e=.returned (.tuple #[.string (bstr (encs (h.out k s.data.toList))),.int .i64 0])/\HubQ w B g sv fd ws (h.send k s.data.toList) w':=by
 have c1:w.cell? ⟨g,1+k*4+1,none⟩=some (.bool false):=by rw[H.at_cl hk,ho]
 have c2:=H.at_fp hk
 have HO:=zrj (wq8 H hk)
 have HP:=zrj (wxg (fd k) (h.c k).L s w (H.f k hk) hs (fun outs ho=>by rw[uy1 ho];exact hc))
 have HH:=zrj H
 have HN:=zrj (fun outs (ho:(feedF (h.c k).L).out++outs=(feedF ((h.c k).L++s.data.toList)).out)=>uy1 ho)
 have HV:=zrj (fun n=>mid_srv hv k s.data.toList n)
 have HT:=zrj HTb
 have HZ:=zrj hz
 have HG:=zrj (wjv (h.c k).L s.data.toList)
 have HST:=zrj (mid_step h k s.data.toList)
 have HZE:=zrj (mid_zero h k s.data.toList)
 have HAL:=zrj (mid_all h k s.data.toList)
 have HER:=zrj (errF_low ((h.c k).L++s.data.toList))
 have hou:h.out k s.data.toList=((h.work k s.data.toList).c k).waits:=by unfold HubD.out;rw[if_neg (by rw[ho];simp)]
 have hse:h.send k s.data.toList=(h.work k s.data.toList).flush k:=by unfold HubD.send;rw[if_neg (by rw[ho];simp)]
 rw[hou,hse]
 have hL:=zrj hc
 clear H hs hc hz HTb hv hou hse ho
 go_enter func10,ntmps10
 go_wp2_with fail
 refine HO.out.mono ?_
 rintro e w1 ⟨rfl,rfl⟩
 go_wp2_with fail
 refine HP.out.mono ?_
 rintro e w2 ⟨pa,ca,outs,rfl,hel,hge,hou,hfe,hasd⟩
 have hne:=HN.out outs hou
 rw[<- hne] at HST HG HAL hL
 have H2:=HH.out.fed hk hfe hasd
 rw[<- HZE.out] at H2
 have HH2:=zrj H2
 have C2:=zrj (HubC.asd (g:=g) (sv:=sv) (ws:=ws) hk hasd)
 have HB2:=zrj (C2.out.under HH.out)
 have HNO:=zrj (show ∀a,pa=some a->¬uv9 g sv fd ws a.block from fun a ha hown=>by have h1:=hge a ha;have h2:=(HH.out.own_ge hown).2;omega)
 have HEL:=zrj hel
 have hlen:outs.length<=4398046511104:=hL.out
 clear HP HO HN HZE hel hge hou hfe hasd hne c1 c2
 generalize errF ((h.c k).L++s.data.toList)=er at *
 go_wp2_with fail
 go_loopw [35] (fun i wr=>∃(n:Nat) (wsn:Nat->Value),n<=outs.length/\i=.int .i64 n/\HubM wr B g sv fd wsn (h.mid k s.data.toList n)/\HubC w2 g sv fd ws wr wsn) (fun i _=>outs.length-(intOf i).toNat)
 case atStart=>exact⟨0,ws,Nat.zero_le _,rfl,H2,HubC.refl _ _ _ _ _⟩
 case round =>
  obtain⟨n,wsn,hn,rfl,Hn,Cn⟩:=hrel
  clear H2
  by_cases hlt:n<outs.length
  ·have hx:outs[n]?=some outs[n]:=zrd hlt
   have hgx:=HG.out outs[n] (List.getElem_mem hlt)
   have hst:=HST.out n outs[n] hx
   generalize outs[n]=x at *
   obtain⟨a,rfl,hab,_,hat⟩:=(HEL.out.tch (zra _) Cn.t HNO.out).at_ (k:=n) (r:=rowFr x) (by rw[zrg,hx];rfl)
   have hb1:=zsa wr (.cells #[.int .i64 (x.ver:Int),.int .i64 (x.kind:Int),.string (bstr x.pl)] 75)
   have bx:=Blk.new wr 75 #[.int .i64 (x.ver:Int),.int .i64 (x.kind:Int),.string (bstr x.pl)]
   have Hn1:=Hn.below hb1
   have HCn1:=zrj (Cn.below hb1)
   have k1:=Hn1.at_cl hk
   have HHn:=zrj Hn1
   have HST2:=zrj hst
   have HGX:=zrj hgx
   clear Hn Cn hx hgx hst Hn1 hab hb1
   go_upto_region 10 with(first | (refine uqe rfl _ _ rfl (a.add (n*3)) rfl [Value.int .i64 (x.ver:Int),Value.int .i64 (x.kind:Int),Value.string (bstr x.pl)] _ hat underlying75 rfl uqx ?_) | (refine uqf rfl _ _ _ rfl rfl 75 _ #[.int .i64 (x.ver:Int),.int .i64 (x.kind:Int),.string (bstr x.pl)] rfl uqx rfl (vql _ _ _) ?_))
   generalize wr.alloc _=W1 at *
   generalize wr.heap.size=gf at *
   generalize hcl:((h.mid k s.data.toList n).c k).closed=cl at *
   cases cl
   ·have HS:=zrj (HST2.out.trans (by unfold HubD.step;rw[if_neg (by rw[hcl];simp)]))
    have HF:=zrj (xx2 HHn.out hk (HV.out n) (fun W hW=>HT.out W ((HB2.out.trans (HCn1.out.under HH2.out)).trans hW)) x HGX.out (HZ.out n))
    clear hcl HST2
    go_wp2_with(first | (refine uqw (by rfl) _ _ rfl gf rfl _ _ bx _ underlying75 rfl uqx ?_))
    refine HF.out.mono ?_
    rintro e w3 ⟨rfl,ws3,H3,C3⟩
    have HC3:=zrj (HCn1.out.trans C3)
    have HH3:=zrj H3
    clear H3 C3 bx k1 hat
    go_wp2_with fail
    go_roundw
    case rel=>exact⟨n+1,ws3,by omega,by go_num,by rw[HS.out];exact HH3.out,HC3.out⟩
    case measure=>simp[intOf];omega
   ·have HS:=zrj (HST2.out.trans (by unfold HubD.step;rw[if_pos hcl]))
    clear hcl HST2 bx hat
    go_wp2_with fail
    go_roundw
    case rel=>exact⟨n+1,wsn,by omega,by go_num,by rw[HS.out];exact HHn.out,HCn1.out⟩
    case measure=>simp[intOf];omega
  ·obtain rfl:n=outs.length:=by omega
   have k1:=Hn.at_cl hk
   have HHn:=zrj Hn
   have HCn:=zrj (C2.out.trans Cn)
   have FV:=zrj (HV.out outs.length)
   have HZn:=zrj (HZ.out outs.length k hk)
   clear Hn Cn HST HG hlt
   generalize hmid:h.mid k s.data.toList outs.length=hm at *
   clear hmid
   by_cases he:er=0
   ·have e0:((er:Int) != 0)=false:=by rw[he];rfl
    have HW:=zrj (show hm=h.work k s.data.toList by rw[<- HAL.out,he,vxa])
    clear HAL he
    go_wp2_with fail
    refine(vxi HHn.out hk).mono ?_
    rintro e w3 ⟨rfl,ws3,H3,C3⟩
    go_wp2_with fail
    go_ret2
    rw[<- HW.out]
    exact⟨rfl,ws3,H3,HCn.out.trans C3⟩
   ·have e0:((er:Int) != 0)=true:=by rw[bne_iff_ne];omega
    generalize hcl:(hm.c k).closed=cl at *
    cases cl
    ·have HW:=zrj (show hm.close k er=h.work k s.data.toList by rw[<- HAL.out];unfold HubD.ended;rw[if_pos ⟨he,hcl⟩])
     clear HAL he hcl
     go_wp2_with fail
     refine(vjs HHn.out hk FV.out.1 er (by have:=HER.out;omega) (by have:=HZn.out;omega)).mono ?_
     rintro e w3 ⟨rfl,ws3,H3,C3⟩
     have HC3:=zrj (HCn.out.trans C3)
     have HF:=zrj (vxi H3 hk)
     clear C3 H3
     go_wp2_with fail
     refine HF.out.mono ?_
     rintro e w4 ⟨rfl,ws4,H4,C4⟩
     go_wp2_with fail
     go_ret2
     rw[<- HW.out]
     exact⟨rfl,ws4,H4,HC3.out.trans C4⟩
    ·have HW:=zrj (show hm=h.work k s.data.toList by rw[<- HAL.out,vyi hcl])
     clear HAL he hcl
     go_wp2_with fail
     refine(vxi HHn.out hk).mono ?_
     rintro e w3 ⟨rfl,ws3,H3,C3⟩
     go_wp2_with fail
     go_ret2
     rw[<- HW.out]
     exact⟨rfl,ws3,H3,HCn.out.trans C3⟩
def newCs (n:Nat) (fd:Nat->Nat) (i:Nat):ConnM:=⟨if i<n then .pointer (some ⟨fd i,0,none⟩) else .pointer none,false,false,.slice none 0 0⟩
structure NewM (w:World) (B g sv n:Nat) (fd:Nat->Nat) (s:St):Prop where
 b:Blk w g 67 (hubA (zse sv) (newCs n fd))
 s:SvI w sv ⟨s,0⟩
 f:∀i,i<n->FeedIs w (fd i) []
 d:∀i j,i<n->j<n->fd i=fd j->i=j
 lo:B<=g/\B<=sv/\(∀i,i<n->B<=fd i)/\B<=w.heap.size
section
variable {w w':World} {B g sv n:Nat} {fd:Nat->Nat} {s:St}
theorem NewM.below (N:NewM w B g sv n fd s) (hb:Below w.heap.size w w'):NewM w' B g sv n fd s :=
 ⟨N.b.below hb N.b.lt,N.s.below hb,fun i hi=>(N.f i hi).below hb (N.f i hi).lt,N.d,⟨N.lo.1,N.lo.2.1,N.lo.2.2.1,zrc N.lo.2.2.2 hb.size⟩⟩
theorem NewM.step (N:NewM w B g sv n fd s) (hn:n<8) :
  NewM ((w.alloc (.cells #[.string .empty,.int .i64 0,.int .i64 0] 96)).setCell ⟨g,1+n*4,none⟩ (zse w.heap.size)) B g sv (n+1) (fun i=>if i=n then w.heap.size else fd i) s:=by
 have hb:=zsa w (.cells #[.string .empty,.int .i64 0,.int .i64 0] 96)
 have bn:=Blk.new w 96 #[.string .empty,.int .i64 0,.int .i64 0]
 have hsz:=zsb w (.cells #[.string .empty,.int .i64 0,.int .i64 0] 96)
 have N1:=N.below hb
 have hset:=uzh (w.alloc (.cells #[.string .empty,.int .i64 0,.int .i64 0] 96)) g (1+n*4) (zse w.heap.size)
 have hlt:∀i,i<n->fd i<w.heap.size:=fun i hi=>(N.f i hi).lt
 refine⟨?_,N1.s.grown hset (.inr (.inr rfl)) (fun j e=>by injection e with e;subst e;exact⟨_,N1.b⟩),fun i hi=>?_,fun i j hi hj e=>?_,⟨N.lo.1,N.lo.2.1,fun i hi=>?_,by have:=N.lo.2.2.2;simp;omega⟩⟩
 ·have h1:=N1.b.set_ (1+n*4) (zse w.heap.size)
  rw[wvr hn] at h1
  rw[uj5 (cs':=updM (newCs n fd) n { newCs n fd n with fp:=zse w.heap.size }) (fun i hi=>?_)]
  ·exact h1
  ·unfold updM newCs
   by_cases hin:i=n
   ·subst hin;simp
   ·simp only[if_neg hin]
    by_cases hl:i<n
    ·rw[if_pos hl,if_pos (by omega)]
    ·rw[if_neg hl,if_neg (by omega)]
 ·by_cases hin:i=n
  ·simp only[if_pos hin]
   exact(FeedIs.nil bn).kept hset (fun e=>by injection e with e;have:=N.b.lt;omega)
  ·simp only[if_neg hin]
   have h1:=N1.f i (by omega)
   exact h1.kept hset (fun e=>(h1.ne_ N1.b (by decide)) (by injection e with e;exact e.symm))
 ·(try dsimp only at e)
  by_cases h1:i=n
  ·by_cases h2:j=n
   ·omega
   ·rw[if_pos h1,if_neg h2] at e
    have:=hlt j (by omega);omega
  ·by_cases h2:j=n
   ·rw[if_neg h1,if_pos h2] at e
    have:=hlt i (by omega);omega
   ·rw[if_neg h1,if_neg h2] at e
    exact N.d i j (by omega) (by omega) e
 ·(try dsimp only)
  by_cases hin:i=n
  ·rw[if_pos hin];exact N.lo.2.2.2
  ·rw[if_neg hin];exact N.lo.2.2.1 i (by omega)
theorem NewM.done (N:NewM w B g sv 8 fd s):HubM w B g sv fd (fun _=>.slice none 0 0) (newH s):=by
 refine⟨?_,N.s,N.f,N.d,fun i _=>by show Buf _ _ _ _ (encs []);rw[uxo];exact Buf.nil _ _ _,fun i j _ _ _ k hk=>(by cases hk),N.lo⟩
 rw[uj5 (cs':=newCs 8 fd) (fun i hi=>?_)]
 ·exact N.b
 ·unfold cellC newCs newH newC
  rw[if_pos hi]
end
theorem wkp (W:World):(zeroValue 67).run prog W=.ok (.agg (hubA (.pointer none) (fun _=>⟨.pointer none,false,false,.slice none 0 0⟩))) W:=by kernel_rfl
theorem hnew_bad (s:St) (p1 p2 p3:Zoa) (c1 c2 c3:Nat) (w:World) (hm:StM w w.heap.size p1 p2 p3 s) (hz:StSz s) (hT:Tabs w) (h:uqp s≠0) :
  Calls prog 5 #[.agg (stv s p1 p2 p3 c1 c2 c3)] w fun e w'=>e=.returned (.tuple #[.pointer none,.int .i64 ((uqp s:Nat):Int)])/\Below w.heap.size w w':=by
 have hb0:=zsa w (.cells (stv s p1 p2 p3 c1 c2 c3) 26)
 have bx0:=Blk.new w 26 (stv s p1 p2 p3 c1 c2 c3)
 have HC:=zrj (fun(W:World) (hW:Below w.heap.size w W)=>xyi s p1 p2 p3 c1 c2 c3 W ((hm.below hW).more hW.size) hz (hT.below hW) h)
 have hne:(((uqp s:Nat):Int) != 0)=true:=by rw[bne_iff_ne];omega
 generalize uqp s=n at *
 clear h hm hz hT
 go_enter func5,ntmps5
 go_wp2_with(first | (refine uqa rfl _ _ rfl w.heap.size rfl _ _ bx0 _ underlying26 rfl uqg ?_))
 generalize w.alloc _=w0 at *
 refine(HC.out w0 hb0).mono ?_
 rintro e w1 ⟨rfl,hb1⟩
 have hB1:=bthen hb0 hb1
 go_wp2_with fail
 go_ret2
 exact⟨rfl,hB1⟩
theorem wq7 (s:St) (p1 p2 p3:Zoa) (c1 c2 c3:Nat) (w:World) (hm:StM w w.heap.size p1 p2 p3 s) (hz:StSz s) (hT:Tabs w) (h:uqp s=0) :
  Calls prog 5 #[.agg (stv s p1 p2 p3 c1 c2 c3)] w fun e w'=>∃g sv fd ws,e=.returned (.tuple #[zse g,.int .i64 0])/\HubM w' w.heap.size g sv fd ws (newH s)/\Below w.heap.size w w':=by
 have hb0:=zsa w (.cells (stv s p1 p2 p3 c1 c2 c3) 26)
 have bx0:=Blk.new w 26 (stv s p1 p2 p3 c1 c2 c3)
 have HC:=zrj (fun(W:World) (hW:Below w.heap.size w W)=>svNew_ok s p1 p2 p3 c1 c2 c3 W ((hm.below hW).more hW.size) hz (hT.below hW) h)
 have hzh:=wkp
 clear h hm hz hT
 go_enter func5,ntmps5
 go_wp2_with(first | (refine uqa rfl _ _ rfl w.heap.size rfl _ _ bx0 _ underlying26 rfl uqg ?_))
 generalize w.alloc _=w0 at *
 refine(HC.out w0 hb0).mono ?_
 rintro e w1 ⟨sv,rfl,hsv,hI,hb1⟩
 have hB1:=bthen hb0 hb1
 have hsv':=zrc hb0.size hsv
 clear hb0 hb1 hsv bx0 HC
 go_wp2_with fail
 have N0:NewM (w1.alloc (.cells ((hubA (.pointer none) (fun _=>⟨.pointer none,false,false,.slice none 0 0⟩)).setIfInBounds 0 (zse sv)) 67)) w.heap.size w1.heap.size sv 0 (fun _=>0) s:=by
  have hb:=zsa w1 (.cells ((hubA (.pointer none) (fun _=>⟨.pointer none,false,false,.slice none 0 0⟩)).setIfInBounds 0 (zse sv)) 67)
  refine⟨?_,hI.below hb,fun i hi=>absurd hi (Nat.not_lt_zero _),fun i j hi=>absurd hi (Nat.not_lt_zero _),⟨hB1.size,hsv',fun i hi=>absurd hi (Nat.not_lt_zero _),zrc hB1.size hb.size⟩⟩
  rw[uj5 (cs:=newCs 0 (fun _=>0)) (cs':=fun _=>⟨.pointer none,false,false,.slice none 0 0⟩) (fun i _=>by unfold newCs;rw[if_neg (Nat.not_lt_zero _)])]
  exact Blk.new w1 67 _
 have HB2:=zrj (hB1.alloc hB1.size (.cells ((hubA (.pointer none) (fun _=>⟨.pointer none,false,false,.slice none 0 0⟩)).setIfInBounds 0 (zse sv)) 67))
 have hgl:w.heap.size<=w1.heap.size:=hB1.size
 clear hI hB1 hsv' hzh
 generalize w1.alloc _=w2 at *
 generalize w1.heap.size=g at *
 generalize Array.setIfInBounds _ _ _=zv at *
 go_loopw [19] (fun i wr=>∃(n:Nat) (fd:Nat->Nat),n<=8/\i=.int .i64 n/\NewM wr w.heap.size g sv n fd s/\Below w.heap.size w wr) (fun i _=>8-(intOf i).toNat)
 case atStart=>exact⟨0,_,Nat.zero_le _,rfl,N0,HB2.out⟩
 case round =>
  obtain⟨n,fd,hn,rfl,Nn,hBn⟩:=hrel
  clear N0 HB2
  by_cases hlt:n<8
  ·have hni:(n:Int)<8:=by omega
   have hn0:¬(n:Int)<0:=by omega
   go_upto_region 8 with fail
   have Nd:=Nn.below (zri _ wr).drew
   have hBd:=hBn.drew
   clear Nn hBn
   refine wp_region_held_drew (S:=fun _=>True) (by kernel_rfl) trivial (fun hHeld=>?_)
   generalize wr.drew=W0 at *
   refine tq 0 ?_
   refine tq 1 ?_
   refine tq 3 ?_
   refine tq 4 ?_
   refine tr 2 rfl (fun K hK=>?_)
   go_simp
   refine(wv6 W0).mono ?_
   rintro e W1 ⟨rfl,rfl⟩
   refine hK.out _ _ trivial (fun hHeld=>?_)
   clear hK K
   (try simp only[Act.put,ma,mb,mc,md,me,mf])
   refine tq 5 ?_
   refine tq 6 ?_
   have Ns:=Nd.step hlt
   have y0:(W0.alloc (.cells #[.string .empty,.int .i64 0,.int .i64 0] 96)).cell? ⟨g,1+n*4,none⟩=some (.pointer none):=by
    rw[(Nd.b.alloc _).cell,xve hlt];unfold newCs;rw[if_neg (Nat.lt_irrefl _)]
   have y1:(W0.alloc (.cells #[.string .empty,.int .i64 0,.int .i64 0] 96)).frozen? ⟨g,1+n*4,none⟩=false:=(Nd.b.alloc _).frozen _
   have hBs:Below w.heap.size w ((W0.alloc (.cells #[.string .empty,.int .i64 0,.int .i64 0] 96)).setCell ⟨g,1+n*4,none⟩ (zse W0.heap.size)):=(hBd.alloc hBd.size _).setCell (p:=⟨g,1+n*4,none⟩) hgl _
   refine tr 7 rfl (fun K hK=>?_)
   go_simp
   refine hK.out _ _ trivial (fun hHeld=>?_)
   clear hK K y0 y1 Nd
   (try simp only[Act.put,ma,mb,mc,md,me,mf])
   refine wpAnyH_done (by kernel_rfl) ?_ _
   have HNs:=zrj Ns
   have HBs:=zrj hBs
   clear Ns hBs hBd
   go_wp2_with fail
   go_roundw
   case rel=>exact⟨n+1,_,by omega,by go_num,HNs.out,HBs.out⟩
   case measure=>simp[intOf];omega
  ·obtain rfl:n=8:=by omega
   have HN:=zrj Nn.done
   have HB:=zrj hBn
   clear Nn hBn
   go_wp2_with fail
   go_ret2
   exact⟨g,sv,fd,_,rfl,HN.out,HB.out⟩
theorem xx4 {w:World} {B g sv:Nat} {fd:Nat->Nat} {ws:Nat->Value} {h:HubD} (H:HubM w B g sv fd ws h) (F:Fine h.srv.st) :
  Calls prog 15 #[zse g] w fun e w'=>xjp w h.srv.st e w':=by
 have hzs:=uq3
 have hb0:=zsa w (.cells zsv 26)
 have bz0:=Blk.new w 26 zsv
 have H0:=H.below hb0
 have c0:=H0.at_sv
 have HO:=zrj (vzj sv h.srv _ H0.s F)
 clear H H0 F
 go_enter func15,ntmps15
 go_wp2_with fail
 generalize w.alloc _=w0 at *
 refine HO.out.mono ?_
 rintro e w1 ⟨r1,r2,r3,e1,e2,e3,rfl,hO,hb1⟩
 have hB1:=bthen hb0 hb1
 have bz1:=bz0.bl hb1
 have hS:=zrj ((hO.other (growR w1 w.heap.size (stv h.srv.st r1 r2 r3 e1 e2 e3)) bz1 (by decide) (by decide) (by decide)).less hb0.size)
 have hB2:=zrj (uqh hB1 (zra _) (stv h.srv.st r1 r2 r3 e1 e2 e3))
 clear hO hB1 hb1 bz0 hb0 HO c0
 go_wp2_with(first | (refine uqc rfl _ _ _ rfl w.heap.size rfl _ _ (stv h.srv.st r1 r2 r3 e1 e2 e3) bz1 rfl uqg rfl (ux8 _ _ _ _ _ _ _ _ _ _) ?_))
 refine bodyPost_ret (uq8 rfl _ rfl (bz1.setRow (stv h.srv.st r1 r2 r3 e1 e2 e3)) underlying26 rfl uqg) rfl ?_
 exact⟨r1,r2,r3,e1,e2,e3,rfl,hS.out,hB2.out⟩
theorem uvp {s:St} (F:Fine s):SrvOk ⟨s,0⟩:=⟨F,Int.le_refl _,(by decide:(0:Int)<=1099511627776)⟩
def qGet:ReqD:=⟨8,noJ,noN,noL,ByteArray.empty,0⟩
theorem xvt (s:St) {k:Nat} (hk:k<8) {q:ReqD} (hq:reqE q=0):newF ((newH s).c k).L (uxd q)=[reqFr q]:=by
 unfold uxd
 rw[if_pos hq]
 have:=(uvu (fs:=[]) (gs:=[reqFr q]) (by simp) (by intro x hx;rw[List.mem_singleton.1 hx];exact uj9 hq)).1
 rw[uxo] at this
 exact this
theorem vv9 (h:HubD) (k:Nat) (s:Zlu) (n i:Nat):(encs (((h.feed k s).frames k ((newF (h.c k).L s).take n)).c i).waits).length<=h.len i+(newF (h.c k).L s).length*18054:=by
 have h1:=vjn k ((newF (h.c k).L s).take n) (h.feed k s) i
 rw[wyu] at h1
 have h2:((newF (h.c k).L s).take n).length<=(newF (h.c k).L s).length:=by rw[List.length_take];omega
 have h3:=Nat.mul_le_mul_right 18054 h2
 exact zrc h1 (by omega)
theorem vzz (s:St) (i:Nat):(newH s).len i=0:=by show(encs []).length=0;rw[uxo];rfl
def uw2:St:=⟨0,[],[],[]⟩
def qPutA:ReqD:=⟨1,⟨⟨#[97]⟩,0,0,0,ByteArray.empty⟩,noN,noL,ByteArray.empty,0⟩
theorem wzy:uqp uw2=0:=by decide +kernel
theorem vk5:reqE qPutA=0:=by decide +kernel
theorem xzn:(doR ⟨uw2,0⟩ qPutA).srv.st.jobs.length=1:=by decide +kernel
theorem xw4 (s:St) {k:Nat} (hk:k<8) {q:ReqD} (hq:reqE q=0):((newH s).send k (uxd q)).srv=(doR ⟨s,0⟩ q).srv:=by
 unfold uxd
 rw[if_pos hq]
 exact(uvb (vq3 s) hk hq).2.2.1
theorem xw3 {s:St} (F:Fine s) {k:Nat} (hk:k<8) {q:ReqD} (hq:reqE q=0):(encs ((newH s).out k (uxd q))).length≠0:=by
 unfold uxd
 rw[if_pos hq,(uvb (vq3 s) hk hq).1]
 have h:=vx8 (h:=(newH s).feed k (encs [reqFr q])) (uvp F) k q
 generalize((((newH s).feed k (encs [reqFr q])).asked k q).c k).waits=l at *
 cases l with
 | nil=>cases h
 | cons x r=>rw[ujt,zrb,uze];omega
theorem wy4 (h:HubD) (k:Nat) (s:Zlu) (n i:Nat):(encs ((h.mid k s n).c i).waits).length<=h.len i+(newF (h.c k).L s).length*18054:=vv9 h k s n i
theorem xvs {l:Zlu} (h:l.length≠0):(bstr l).toList.isEmpty=false:=by
 rw[vve]
 cases l with
 | nil=>exact absurd rfl h
 | cons a r=>rfl
end Go.Proofs.YtknmnhleicakhaaGreatDoor
