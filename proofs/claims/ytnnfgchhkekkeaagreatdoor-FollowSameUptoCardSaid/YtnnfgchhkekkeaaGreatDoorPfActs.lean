/- Lemmas.
-/
import Derived.Test.YtnnfgchhkekkeaaGreatDoorPfHubS
set_option linter.all false
set_option maxHeartbeats 16000000
set_option maxRecDepth 100000
namespace Go.Proofs.YtnnfgchhkekkeaaGreatDoor
open Go.Proofs.Tryz
open Go.RowKit Go.ChangeShapes Go.WideShapes Go.Deep Go.Joins
structure ActD where
 conn:Int
 bytes:Zba
def rowA (x:ActD):List Value:=[.int .i64 x.conn,.string x.bytes]
def datA {H:Type} (x:ActD):DataW H:=.agg [.lit (.int .i64 x.conn),.lit (.string x.bytes.data.toList)]
def okA (x:ActD):Prop:=i64B x.conn/\x.bytes.size<=9223372036854775807
section
variable {H:Type} {enc:TypeId×Value->H} {w:World} {base:Nat} {spare:Nat->Bool} {held:Bool}
theorem elem_A (n:Nat) (cs:List Value) (d:DataW H) (pl:List MemPlace) (hl:cs.length=2)
  (h:DataW.trod enc prog w base spare held n 52 cs=some (d,pl)):∃x:ActD,cs=rowA x/\d=datA x/\okA x:=by
 obtain⟨ys,n',hd,hyl,hf⟩:=uvy underlying52 (by kernel_rfl) hl h
 obtain⟨v0,y0,h0,g0,t0⟩:=hf 0 _ rfl
 obtain⟨v1,y1,h1,g1,t1⟩:=hf 1 _ rfl
 obtain⟨a,e0,rfl,wa⟩:=DataW.trod_int underlying3 t0
 obtain⟨s,e1,rfl,ws⟩:=DataW.trod_string underlying9 t1
 simp at e0 e1;subst e0 e1
 match cs,hl,h0,h1 with
 | [c0,c1],_,h0,h1 =>
  simp at h0 h1;subst h0 h1
  match ys,hyl,g0,g1 with
  | [z0,z1],_,g0,g1 =>
   simp at g0 g1;subst g0 g1
   have ba:=bounds_i64 wa
   unfold maxLen at ws
   exact⟨⟨a,s⟩,rfl,by rw[hd];rfl,⟨ba.1,ba.2⟩,ws⟩
theorem open_acts {v:Value} {d:DataW H} {ps:List MemPlace} {r:Reach} {b0:Nat} (hv:Value.okWide prog w r b0 27 v) (h:DataW.Trod enc prog w base spare held 27 v d ps) :
  ∃(p:Zoa) (c:Nat) (l:List ActD),v=.slice p l.length c/\Elts w w.heap.size 2 p (l.map rowA)/\(∀x∈l,okA x)/\((l=[]/\p=none/\c=0/\d=.nil)\/∃rest:List ActD,d=.slice (l.map datA) (rest.map datA)):=by
 obtain⟨p,c,l,rfl,hlc,hcm,hel,hok,hd⟩:=vqs rowA datA okA 2 underlying27 (by kernel_rfl) (by decide) hv h (fun n cs d pl=>elem_A n cs d pl)
 exact⟨p,c,l,rfl,hel,hok,hd⟩
end
def ujd (l:List ActD):Nat:=(l.map fun x=>x.bytes.size).sum
theorem acts_bulk {H:Type} {l:List ActD} {p:Zoa} {c:Nat} {d:DataW H} (hd:(l=[]/\p=none/\c=0/\d=.nil)\/∃rest:List ActD,d=.slice (l.map datA) (rest.map datA)):ujd l+l.length<=Rows.uptoBulk d:=by
 rcases hd with⟨rfl,_⟩ | ⟨rest,rfl⟩
 ·simp[ujd]
 ·have h:∀l:List ActD,ujd l+l.length<=Rows.uptoBulkAll (l.map (datA (H:=H))):=by
   intro l
   induction l with
   | nil=>simp[ujd]
   | cons x r ih =>
    have h1:ujd (x::r)=x.bytes.size+ujd r:=by simp[ujd]
    have h2:x.bytes.data.toList.length=x.bytes.size:=by simp
    simp only[List.map_cons,Rows.uptoBulkAll,datA,Rows.uptoBulk,List.length_cons]
    omega
  have:=h l
  simp only[Rows.uptoBulk]
  omega
theorem vw9 (q:ReqD) (w:World) (HS:ReqSz q) (hT:Tabs w) :
  Calls prog 7 #[.agg (qv q)] w fun e w'=>e=.returned (.tuple #[.string (bstr (uxd q)),.bool (decide (reqE q=0))])/\Below w.heap.size w w':=by
 have hb0:=zsa w (.cells (qv q) 44)
 have bx0:=Blk.new w 44 (qv q)
 have hzf:=ujx
 have hzq:=uq8
 by_cases hE:reqE q=0
 ·have he:encQR q=(encQ q,0):=by unfold encQR;rw[if_neg (by rw[hE];simp)]
  have hbs:uxd q=wireF 3 3 (encQ q):=by unfold uxd;rw[if_pos hE,uk3];rfl
  have HE:=zrj (fun W (hW:Tabs W)=>vyz q W HS hW)
  rw[he] at HE
  have HF:=zrj (fun W=>vvl 3 3 (encQ q) (by omega) (by omega) (zrc (wqv hE) (by decide)) W)
  have HT:=zrj hT
  have hdec:decide (reqE q=0)=true:=by simp[hE]
  rw[hbs,hdec]
  generalize wireF 3 3 (encQ q)=out at *
  generalize encQ q=pl at *
  clear he hbs hE HS hT hdec
  go_enter func7,ntmps7
  go_wp2_with(first | (refine uqa rfl _ _ rfl w.heap.size rfl _ _ bx0 _ underlying44 rfl uqd ?_))
  generalize w.alloc _=w0 at *
  refine(HE.out _ (HT.out.below hb0)).mono ?_
  rintro e w1 ⟨rfl,hb1⟩
  go_wp2_with fail
  refine(HF.out _).mono ?_
  rintro e w2 ⟨rfl,hb2⟩
  go_wp2_with fail
  go_ret2
  exact⟨rfl,(bthen hb0 hb1).trans (hb2.mono (zrc hb0.size hb1.size))⟩
 ·have he:encQR q=([],reqE q):=by unfold encQR;rw[if_pos hE]
  have hbs:uxd q=[]:=by unfold uxd;rw[if_neg hE]
  have HE:=zrj (fun W (hW:Tabs W)=>vyz q W HS hW)
  rw[he] at HE
  have HT:=zrj hT
  have hne:(((reqE q:Nat):Int) != 0)=true:=by rw[bne_iff_ne];omega
  have hdec:decide (reqE q=0)=false:=by simp[hE]
  rw[hbs,hdec,show bstr []=ByteArray.empty from rfl]
  generalize reqE q=er at *
  clear he hbs hE HS hT hdec
  go_enter func7,ntmps7
  go_wp2_with(first | (refine uqa rfl _ _ rfl w.heap.size rfl _ _ bx0 _ underlying44 rfl uqd ?_))
  generalize w.alloc _=w0 at *
  refine(HE.out _ (HT.out.below hb0)).mono ?_
  rintro e w1 ⟨rfl,hb1⟩
  go_wp2_with fail
  go_ret2
  exact⟨rfl,bthen hb0 hb1⟩
set_option maxRecDepth 200000
def toP (x:ActD):ActP:=⟨if 0<=x.conn/\x.conn<8 then some x.conn.toNat else none,x.bytes.data.toList⟩
def sumP (l:List ActP):Nat:=(l.map fun x=>x.s.length).sum
theorem vqw (l:List ActD):sumP (l.map toP)=ujd l:=by
 unfold sumP ujd
 rw[List.map_map]
 congr 1
def totP (l:List ActP):Nat:=(sumP l+l.length*6020)*18054+l.length*6018
theorem vz5 (x:ActP) (r:List ActP):totP (x::r)=((x.s.length+6020)*18054+6018)+totP r:=by
 unfold totP sumP
 rw[List.map_cons,List.sum_cons,List.length_cons]
 omega
theorem vwt (l:List ActP) (n:Nat):totP (l.take n)<=totP l:=by
 induction l generalizing n with
 | nil=>simp
 | cons x r ih =>
  cases n with
  | zero=>simp[totP,sumP]
  | succ n=>rw[List.take_succ_cons,vz5,vz5];have:=ih n;omega
theorem vqq (L s:Zlu):(newF L s).length*18054<=(s.length+6020)*18054:=Nat.mul_le_mul_right _ (vzv L s)
def outL (o:Nat->List Fr):List Value:=[.string (bstr (encs (o 0))),.string (bstr (encs (o 1))),.string (bstr (encs (o 2))),.string (bstr (encs (o 3))),.string (bstr (encs (o 4))),.string (bstr (encs (o 5))),.string (bstr (encs (o 6))),.string (bstr (encs (o 7)))]
def outA (o:Nat->List Fr):Array Value:=(outL o).toArray
structure QI (h:HubD) (n:Nat):Prop where
 v:SrvOk h.srv
 c:h.c 6=newC
 w:∀i,i<n->(h.c i).waits=[]
theorem QI.less {h:HubD} {n m:Nat} (q:QI h n) (hm:m<=n):QI h m:=⟨q.v,q.c,fun i hi=>q.w i (by omega)⟩
theorem QI.new {s:St} (F:Fine s):QI (newH s) 8:=⟨uy3 F,rfl,fun _ _=>rfl⟩
theorem QI.flush {h:HubD} {n:Nat} (q:QI h n) (k:Nat):QI (h.flush k) n:=by
 refine⟨q.v,?_,fun i hi=>?_⟩
 ·by_cases hk:6=k
  ·subst hk;rw[uyo,q.c];rfl
  ·rw[ujh _ hk];exact q.c
 ·by_cases hk:i=k
  ·subst hk;exact uj0 _ _
  ·rw[ujh _ hk];exact q.w i hi
theorem QI.send {h:HubD} {n:Nat} (q:QI h n) {k:Nat} (hk:k≠6) (s:Zlu):QI (h.send k s) 0:=by
 refine⟨wxm q.v k s,?_,fun i hi=>absurd hi (Nat.not_lt_zero _)⟩
 rw[vy1 (fun e=>hk e.symm) (by rw[q.c];rfl)]
 exact q.c
theorem QI.len {h:HubD} (q:QI h 8) {i:Nat} (hi:i<8):h.len i=0:=by
 unfold HubD.len
 rw[q.w i hi,uxt]
 rfl
theorem QI.bound {h:HubD} (q:QI h 8) (k:Nat) (s:Zlu) (hs:s.length<=1048576) (n i:Nat) (hi:i<8):(encs (((h.feed k s).frames k ((newF (h.c k).L s).take n)).c i).waits).length<=140737488200000:=by
 have h1:=vv6 h k s n i
 have h2:=vzv (h.c k).L s
 rw[q.len hi] at h1
 have h3:=Nat.mul_le_mul_right 18054 (zrc h2 (by omega:s.length+6020<=1054596))
 omega
theorem ww8 {l:List ActD} {x:ActD} (h:x∈l):x.bytes.size<=ujd l:=by
 unfold ujd
 induction l with
 | nil=>cases h
 | cons y r ih =>
  rw[List.map_cons,List.sum_cons]
  rcases List.mem_cons.1 h with rfl | h
  ·omega
  ·have:=ih h;omega
theorem ww7:(prog.info? 52).map (·.size)=some 2:=by kernel_rfl
theorem wkm (W:World):(zeroValue 52).run prog W=.ok (.agg #[.int .i64 0,.string .empty]) W:=by kernel_rfl
theorem one_act (a:Int) (s:Zba):(#[.int .i64 a,.string s]:Array Value).all (·.oneCell')=true:=by simp[Value.oneCell']
end Go.Proofs.YtnnfgchhkekkeaaGreatDoor
