/- Lemmas.
-/
import Derived.Test.YtknmnhleicakhaaGreatDoorPtHubS
set_option linter.all false
set_option maxHeartbeats 16000000
set_option maxRecDepth 100000
namespace Go.Proofs.YtknmnhleicakhaaGreatDoor
open Go.Proofs.Tryz
open Go.RowKit Go.ChangeShapes Go.WideShapes Go.Deep Go.Joins
structure ActD where
 conn:Int
 bytes:Zba
def rowA (x:ActD):List Value:=[.int .i64 x.conn,.string x.bytes]
def datA {H:Type} (x:ActD):DataW H:=.agg [.lit (.int .i64 x.conn),.lit (.string x.bytes.data.toList)]
def okA (x:ActD):Prop:=i64B x.conn/\x.bytes.size<=9223372036854775807
section
variable {H:Type} {enc:TypeId×Value->H} {w:World} {base:Nat} {spare:Nat->Bool} {held:Bool}
end
def ujf (l:List ActD):Nat:=(l.map fun x=>x.bytes.size).sum
theorem xxc (q:ReqD) (w:World) (HS:ReqSz q) (hT:Tabs w) :
  Calls prog 7 #[.agg (qv q)] w fun e w'=>e=.returned (.tuple #[.string (bstr (uxd q)),.bool (decide (reqE q=0))])/\Below w.heap.size w w':=by
 have hb0:=zsa w (.cells (qv q) 44)
 have bx0:=Blk.new w 44 (qv q)
 have hzf:=ujx
 have hzq:=uq7
 by_cases hE:reqE q=0
 ·have he:encQR q=(encQ q,0):=by unfold encQR;rw[if_neg (by rw[hE];simp)]
  have hbs:uxd q=wireF 3 3 (encQ q):=by unfold uxd;rw[if_pos hE,uk3];rfl
  have HE:=zrj (fun W (hW:Tabs W)=>vy1 q W HS hW)
  rw[he] at HE
  have HF:=zrj (fun W=>vvo 3 3 (encQ q) (by omega) (by omega) (zrc (wqz hE) (by decide)) W)
  have HT:=zrj hT
  have hdec:decide (reqE q=0)=true:=by simp[hE]
  rw[hbs,hdec]
  generalize wireF 3 3 (encQ q)=out at *
  generalize encQ q=pl at *
  clear he hbs hE HS hT hdec
  go_enter func7,ntmps7
  go_wp2_with(first | (refine uqa rfl _ _ rfl w.heap.size rfl _ _ bx0 _ underlying44 rfl uqd ?_))
  generalize w.alloc _=w0 at *
  refine(HE.out _ (HT.out.below hb0)).mono ?_
  rintro e w1 ⟨rfl,hb1⟩
  go_wp2_with fail
  refine(HF.out _).mono ?_
  rintro e w2 ⟨rfl,hb2⟩
  go_wp2_with fail
  go_ret2
  exact⟨rfl,(bthen hb0 hb1).trans (hb2.mono (zrc hb0.size hb1.size))⟩
 ·have he:encQR q=([],reqE q):=by unfold encQR;rw[if_pos hE]
  have hbs:uxd q=[]:=by unfold uxd;rw[if_neg hE]
  have HE:=zrj (fun W (hW:Tabs W)=>vy1 q W HS hW)
  rw[he] at HE
  have HT:=zrj hT
  have hne:(((reqE q:Nat):Int) != 0)=true:=by rw[bne_iff_ne];omega
  have hdec:decide (reqE q=0)=false:=by simp[hE]
  rw[hbs,hdec,show bstr []=ByteArray.empty from rfl]
  generalize reqE q=er at *
  clear he hbs hE HS hT hdec
  go_enter func7,ntmps7
  go_wp2_with(first | (refine uqa rfl _ _ rfl w.heap.size rfl _ _ bx0 _ underlying44 rfl uqd ?_))
  generalize w.alloc _=w0 at *
  refine(HE.out _ (HT.out.below hb0)).mono ?_
  rintro e w1 ⟨rfl,hb1⟩
  go_wp2_with fail
  go_ret2
  exact⟨rfl,bthen hb0 hb1⟩
theorem wvh (a:Int) (p1 p2 p3:Zoa) (n1 n2 n3 c1 c2 c3:Nat) (W:World):(Instr.field 26 (.agg #[.int .i64 a,.slice p1 n1 c1,.slice p2 n2 c2,.slice p3 n3 c3]) 1).run prog W=.ok (Value.slice p1 n1 c1) W:=by kernel_rfl
theorem xzv:ReqSz qPutA:=⟨by decide,sz0,sz0,sz0,sz0,sz0,sz0⟩
theorem works_any (w:World) (hT:Tabs w):Calls prog 4 #[] w fun e w'=>e=.returned (.bool true)/\Below w.heap.size w w':=by
 have hzq:=uq7
 have hzs:=uq3
 have hzj:=vq5
 have F0:Fine uw2:=(uxp _).1 wzy
 have hbs:=uw1 qPutA
 have hnf:=xvt uw2 (k:=0) (by decide) vk5
 have hso:=xw3 F0 (k:=0) (by decide) vk5
 have hsr:=xw4 uw2 (k:=0) (by decide) vk5
 have hone:=xzn
 have hm:StM w w.heap.size none none none uw2:=⟨.nil_,.nil_,.nil_⟩
 have HN:=zrj (wq7 uw2 none none none 0 0 0 w hm F0.sz hT wzy)
 go_enter func4,ntmps4
 go_wp2_with fail
 refine HN.out.mono ?_
 rintro e w2 ⟨g,sv,fd,ws,rfl,H2,hb2⟩
 have HH2:=zrj H2
 have HBy:=zrj (xxc qPutA w2 xzv (hT.below hb2))
 rw[show decide (reqE qPutA=0)=true from by rw[vk5];rfl] at HBy
 clear H2 HN hm
 go_wp2_with fail
 refine HBy.out.mono ?_
 rintro e w3 ⟨rfl,hb3⟩
 have H3:=HH2.out.below hb3
 have hB3:=bthen hb2 hb3
 have HSd:=zrj (vqo H3 (k:=0) (by decide) (uvp F0) (fun W hW=>hT.below (hB3.trans hW)) (bstr (uxd qPutA)) (by rw[uqz];omega)
  (by rw[uqu,hnf];decide) (fun n i hi=>by
   rw[uqu]
   have h:=wy4 (newH uw2) 0 (uxd qPutA) n i
   rw[vzz,hnf] at h
   have h2:[reqFr qPutA].length=1:=rfl
   omega) rfl)
 rw[uqu] at HSd
 have HV:=zrj (show SrvOk ((newH uw2).send 0 (uxd qPutA)).srv from vvb (h:=newH uw2) (uvp F0) 0 _)
 have HH3:=zrj H3
 have hlen:((newH uw2).send 0 (uxd qPutA)).srv.st.jobs.length=1:=by rw[hsr];exact hone
 have hne:=xvs hso
 clear H3 HBy HH2 hbs hnf hb3 hso hsr hone F0
 generalize(newH uw2).send 0 (uxd qPutA)=h4 at *
 generalize bstr (encs ((newH uw2).out 0 (uxd qPutA)))=out at *
 generalize bstr (uxd qPutA)=bs at *
 go_wp2_with fail
 refine HSd.out.mono ?_
 rintro e w4 ⟨rfl,ws4,H4,C4⟩
 have hB4:=hB3.trans (C4.under HH3.out)
 have HSt:=zrj (xx4 H4 HV.out.1)
 clear H4 C4 HSd
 go_wp2_with fail
 refine HSt.out.mono ?_
 rintro e w5 ⟨q1,q2,q3,d1,d2,d3,rfl,hO,hb5⟩
 have hB5:=bthen hB4 hb5
 clear hO
 unfold stv
 have hfj:=wvh h4.srv.st.rev q1 q2 q3 1 h4.srv.st.nodes.length h4.srv.st.leases.length d1 d2 d3 w5
 go_wp2_with fail
 go_ret
 exact⟨rfl,hB5⟩
set_option maxRecDepth 200000
def toP (x:ActD):ActP:=⟨if 0<=x.conn/\x.conn<8 then some x.conn.toNat else none,x.bytes.data.toList⟩
def sumP (l:List ActP):Nat:=(l.map fun x=>x.s.length).sum
def totP (l:List ActP):Nat:=(sumP l+l.length*6020)*18054+l.length*6018
theorem uye (L s:Zlu):(newF L s).length*18054<=(s.length+6020)*18054:=Nat.mul_le_mul_right _ (vxk L s)
def outL (o:Nat->List Fr):List Value:=[.string (bstr (encs (o 0))),.string (bstr (encs (o 1))),.string (bstr (encs (o 2))),.string (bstr (encs (o 3))),.string (bstr (encs (o 4))),.string (bstr (encs (o 5))),.string (bstr (encs (o 6))),.string (bstr (encs (o 7)))]
def outA (o:Nat->List Fr):Array Value:=(outL o).toArray
end Go.Proofs.YtknmnhleicakhaaGreatDoor
