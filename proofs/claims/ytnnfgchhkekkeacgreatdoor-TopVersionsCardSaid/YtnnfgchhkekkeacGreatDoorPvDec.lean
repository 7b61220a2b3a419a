/- Lemmas.
-/
import Derived.Test.YtnnfgchhkekkeacGreatDoorPvTake
import Derived.Test.YtnnfgchhkekkeacGreatDoorPvWireB
set_option linter.all false
set_option maxHeartbeats 16000000
set_option maxRecDepth 100000
namespace Go.Proofs.YtnnfgchhkekkeacGreatDoor
open Go.Proofs.Tryz
open Go.RowKit
def AboveP (base:Nat) (p:Zoa):Prop:=∀a,p=some a->base<=a.block
theorem AboveP.none_ (base:Nat):AboveP base none:=fun _ h=>by cases h
theorem uzg {w:World} {base:Nat} {e:TypeId} {size n:Nat} {v:Value} {xs:List Value} (h:w.ownsRow base e size v n xs):∃p c,v=.slice p n c/\AboveP base p:=by
 rcases h.2 with⟨rfl,h0⟩ | ⟨g,cap,cur,rfl,hb,_⟩
 ·exact⟨none,0,by rw[h0],.none_ _⟩
 ·exact⟨_,cap,rfl,fun a ha=>by injection ha with ha;subst ha;exact hb⟩
theorem OwnJ.form {w:World} {base:Nat} {v:Value} {l:List JobD} (h:OwnJ w base v l):∃p c,v=.slice p l.length c/\AboveP base p/\Elts w w.heap.size 5 p (l.map rowJ):=by
 obtain⟨p,c,rfl,ha⟩:=uzg h
 refine⟨p,c,rfl,ha,?_⟩
 unfold OwnJ at h
 rw[List.flatMap_def] at h
 have hl:l.length=(l.map rowJ).length:=by simp
 rw[hl] at h
 exact .of_own (fun r hr=>by obtain⟨x,_,rfl⟩:=List.mem_map.1 hr;rfl) h
theorem OwnN.form {w:World} {base:Nat} {v:Value} {l:List NodeD} (h:OwnN w base v l):∃p c,v=.slice p l.length c/\AboveP base p/\Elts w w.heap.size 3 p (l.map rowN):=by
 obtain⟨p,c,rfl,ha⟩:=uzg h
 refine⟨p,c,rfl,ha,?_⟩
 unfold OwnN at h
 rw[List.flatMap_def] at h
 have hl:l.length=(l.map rowN).length:=by simp
 rw[hl] at h
 exact .of_own (fun r hr=>by obtain⟨x,_,rfl⟩:=List.mem_map.1 hr;rfl) h
theorem OwnL.form {w:World} {base:Nat} {v:Value} {l:List uqc} (h:OwnL w base v l):∃p c,v=.slice p l.length c/\AboveP base p/\Elts w w.heap.size 3 p (l.map rowL):=by
 obtain⟨p,c,rfl,ha⟩:=uzg h
 refine⟨p,c,rfl,ha,?_⟩
 unfold OwnL at h
 rw[List.flatMap_def] at h
 have hl:l.length=(l.map rowL).length:=by simp
 rw[hl] at h
 exact .of_own (fun r hr=>by obtain⟨x,_,rfl⟩:=List.mem_map.1 hr;rfl) h
theorem Elts.gra {w w':World} {B b base size:Nat} {p:Zoa} {rows:List (List Value)} (h:Elts w B size p rows) (hg:w.grownBy w' (some b)) (hB:B<=w.heap.size) (ha:AboveP base p) (hb:b<base):Elts w' B size p rows :=
 ⟨h.1,fun hn=>by
  obtain⟨a,e,hab,hc⟩:=h.2 hn
  have:=ha a e
  exact⟨a,e,hab,fun k r hr=>(hc k r hr).gr hg (by rw[uqk];omega) (by rw[uqk];omega)⟩⟩
theorem vzy (w:World) (g:Nat) (cs:Array Value):w.grownBy (w.setRow g cs) (some g) :=
 ⟨rfl,rfl,rfl,by simp,fun k hk hne=>setRow_other w g k cs (fun h=>hne (by rw[h]))⟩
theorem Step.state {v:Int} {l l1 l2 l3 l4:Zlu} {x y1 y2 y3 y4:Nat} {rev:Int} {jobs:List JobD} {nodes:List NodeD} {leases:List uqc}
  (h0:Step (pOpt (decide (2<v)) pInt 0) l x rev l1 y1) (h1:Step (pRows 40 (pJob v)) l1 y1 jobs l2 y2) (h2:Step (pRows 20 (pNode v)) l2 y2 nodes l3 y3) (h3:Step (pRows 40 uk3) l3 y3 leases l4 y4) :
  Step (uyy v) l x ⟨rev,jobs,nodes,leases⟩ l4 y4 :=
 Step.map (fun x:Int×List JobD×List NodeD×List uqc=>(⟨x.1,x.2.1,x.2.2.1,x.2.2.2⟩:St))
  (Step.seq (q:=fun _=>pSeq (pRows 40 (pJob v)) fun _=>pSeq (pRows 20 (pNode v)) fun _=>pRows 40 uk3) h0
   (Step.seq (q:=fun _=>pSeq (pRows 20 (pNode v)) fun _=>pRows 40 uk3) h1 (Step.seq (q:=fun _=>pRows 40 uk3) h2 h3 ((ukd v).rows 20 (by decide)).err) ((uvk v).rows 40 (by decide)).err) (PP.opt _ _ ux1).err)
theorem wja {v:Int} {l l':Zlu} {s:St} {y:Nat} (hv:1<=v/\v<=3) (h:Step (uyy v) l 0 s l' y) (he:endE y l'≠0):decT v l=(uvb,endE y l'):=by
 unfold decT
 rw[if_neg (by omega)]
 unfold decS
 cases hp:uyy v l with
 | bad z =>
  obtain rfl:=(h.2.2 rfl).2 _ hp
  have:=(uz8 v).err _ _ hp
  simp only[]
  unfold endE;rw[if_pos this]
 | ok t r =>
  obtain⟨rfl,rfl,rfl⟩:=(h.2.2 rfl).1 _ _ hp
  unfold endE at he ⊢
  by_cases hl:l'=[]
  ·rw[if_neg (by simp),if_pos hl] at he;exact absurd rfl he
  ·simp only[]
   rw[if_pos hl,if_neg (by simp),if_neg hl]
theorem vw1 {v:Int} {l l':Zlu} {s:St} {y:Nat} (hv:1<=v/\v<=3) (h:Step (uyy v) l 0 s l' y) (he:endE y l'=0):okSt v s/\decT v l=(if uqr s=0 then s else uvb,uqr s):=by
 have hy:y=0/\l'=[]:=by
  unfold endE at he
  by_cases h1:y=0
  ·rw[if_neg (by simp[h1])] at he
   refine⟨h1,?_⟩
   by_cases h2:l'=[]
   ·exact h2
   ·rw[if_neg h2] at he;cases he
  ·rw[if_pos h1] at he;exact absurd he h1
 obtain⟨rfl,rfl⟩:=hy
 have hp:uyy v l=.ok s []:=by
  cases hp:uyy v l with
  | bad z =>
   have h1:=(h.2.2 rfl).2 _ hp
   exact absurd h1.symm ((uz8 v).err _ _ hp)
  | ok t r =>
   obtain⟨rfl,rfl,_⟩:=(h.2.2 rfl).1 _ _ hp
   rfl
 refine⟨((uz8 v).bwd _ _ _ hp).1,?_⟩
 unfold decT
 rw[if_neg (by omega)]
 unfold decS
 rw[hp]
 simp only[]
 rw[if_neg (by simp)]
 by_cases hc:uqr s=0
 ·rw[if_neg (by simp[hc]),if_pos hc,hc]
 ·rw[if_pos hc,if_neg hc]
def vvg (w:World) (v:Int) (l:Zlu) (e:Ending) (w':World):Prop :=
 ∃(s:St) (er:Nat) (p1 p2 p3:Zoa) (c1 c2 c3:Nat),e=.returned (.tuple #[.agg (stv s p1 p2 p3 c1 c2 c3),.int .i64 (er:Int)]) /\
  StM w' w'.heap.size p1 p2 p3 s/\(AboveP w.heap.size p1/\AboveP w.heap.size p2/\AboveP w.heap.size p3)/\Below w.heap.size w w'/\decT v l=(s,er)
theorem stM_zero (w:World):StM w w.heap.size none none none uvb:=⟨.nil_,.nil_,.nil_⟩
theorem ukz {w w':World} {v:Int} {l:Zlu} {er:Nat} (hb:Below w.heap.size w w') (hd:decT v l=(uvb,er)) :
  vvg w v l (.returned (.tuple #[.agg zsv,.int .i64 (er:Int)])) w' :=
 ⟨uvb,er,none,none,none,0,0,0,rfl,stM_zero w',⟨.none_ _,.none_ _,.none_ _⟩,hb,hd⟩
theorem uj1 {w:World} {n:Nat} (h:w.heap.size=n) (t:TypeId) (cs:Array Value):Blk (w.alloc (.cells cs t)) n t cs:=h ▸ Blk.new w t cs
theorem ukr {w:World} {n:Nat} (h:w.heap.size=n) (o:Obj):(w.alloc o).heap.size=n+1:=by simp[h]
theorem vks (a:Int) (p1 p2 p3:Zoa) (n1 n2 n3 c1 c2 c3:Nat):(#[.int .i64 a,.slice p1 n1 c1,.slice p2 n2 c2,.slice p3 n3 c3]:Array Value).all (·.oneCell')=true:=by simp[Value.oneCell']
def zeroCells:Array Value:=zsv
structure DI (w0 W:World) (H:Nat) (v:Int) (l:Zlu) (y:Nat) (cs:Array Value):Prop where
 b3:Blk W H 3 #[.int .i64 v]
 br:Blk W (H+1) 26 zsv
 rd:Rd W (H+1+1) l y
 b6:Blk W (H+1+1+1) 78 #[zse (H+1+1)]
 bs:Blk W (H+1+1+1+1) 26 cs
 tb:Tabs W
 bl:Below H w0 W
theorem DI.read {w0 W W':World} {H:Nat} {v:Int} {l l':Zlu} {y y':Nat} {cs:Array Value} (h:DI w0 W H v l y cs) (hg:W.grownBy W' (some (H+1+1))) (hr:Rd W' (H+1+1) l' y'):DI w0 W' H v l' y' cs :=
 ⟨h.b3.gr hg (by omega),h.br.gr hg (by omega),hr,h.b6.gr hg (by omega),h.bs.gr hg (by omega),h.tb.gw h.rd hg,h.bl.grown hg (by have:=h.br.lt;omega) (fun k hk=>by injection hk with hk;omega)⟩
theorem DI.set_ {w0 W:World} {H:Nat} {v:Int} {l:Zlu} {y:Nat} {cs:Array Value} (h:DI w0 W H v l y cs) (hw0:w0.heap.size=H) (hT:Tabs w0) (i:Nat) (u:Value):DI w0 (W.setCell ⟨H+1+1+1+1,i,none⟩ u) H v l y (cs.setIfInBounds i u) :=
 have hb:Below H w0 (W.setCell ⟨H+1+1+1+1,i,none⟩ u):=h.bl.setCell (by show H<=H+1+1+1+1;omega) _
 ⟨h.b3.far (p:=⟨H+1+1+1+1,i,none⟩) (by show H≠H+1+1+1+1;omega) _,h.br.far (p:=⟨H+1+1+1+1,i,none⟩) (by show H+1≠H+1+1+1+1;omega) _,Blk.far (p:=⟨H+1+1+1+1,i,none⟩) h.rd (by show H+1+1≠H+1+1+1+1;omega) _,
  h.b6.far (p:=⟨H+1+1+1+1,i,none⟩) (by show H+1+1+1≠H+1+1+1+1;omega) _,h.bs.set_ i u,hT.below (hw0 ▸ hb),hb⟩
theorem DI.start (w:World) (v:Int) (l:Zlu) (hT:Tabs w) :
  DI w (((((w.alloc (.cells #[.int .i64 v] 3)).alloc (.cells zsv 26)).alloc (.cells #[.string (bstr l),.int .i64 0] 80)).alloc
   (.cells #[zse (w.heap.size+1+1)] 78)).alloc (.cells zsv 26)) w.heap.size v l 0 zsv:=by
 have s0:w.heap.size=w.heap.size:=rfl
 have s1:=ukr s0 (.cells #[.int .i64 v] 3)
 have s2:=ukr s1 (.cells zsv 26)
 have s3:=ukr s2 (.cells #[.string (bstr l),.int .i64 0] 80)
 have s4:=ukr s3 (.cells #[zse (w.heap.size+1+1)] 78)
 have hb:=((((((zri w.heap.size w).alloc (zra _) (.cells #[.int .i64 v] 3)).alloc (by omega) (.cells zsv 26)).alloc (by omega) (.cells #[.string (bstr l),.int .i64 0] 80)).alloc (by omega)
   (.cells #[zse (w.heap.size+1+1)] 78)).alloc (by omega) (.cells zsv 26))
 exact⟨((((uj1 s0 _ _).alloc _).alloc _).alloc _).alloc _,(((uj1 s1 _ _).alloc _).alloc _).alloc _,(((uj1 s2 _ _).alloc _).alloc _),(uj1 s3 _ _).alloc _,uj1 s4 _ _,hT.below hb,hb⟩
theorem decode_v (b:Zba) (v:Int) (w:World) (hv:v<1\/3<v) :
  Calls prog 8 #[.string b,.int .i64 v] w fun e w'=>vvg w v b.data.toList e w':=by
 have hzs:=uq4
 have hs1:=zsb w (.cells #[.int .i64 v] 3)
 have hB:Below w.heap.size w ((w.alloc (.cells #[.int .i64 v] 3)).alloc (.cells zsv 26)):=((zri _ _).alloc (zra _) _).alloc (by omega) _
 have br:=uj1 hs1 26 zsv
 have hd:decT v b.data.toList=(uvb,1):=by unfold decT;rw[if_pos hv]
 have HD:=zrj (ukz hB hd)
 clear hd
 rcases hv with hv | hv
 ·go_enter func8,ntmps8
  go_wp2_with fail
  refine bodyPost_ret (uqj rfl _ rfl br underlying26 rfl uqg) rfl ?_
  exact HD.out
 ·have h1:¬v<1:=by omega
  go_enter func8,ntmps8
  go_wp2_with fail
  refine bodyPost_ret (uqj rfl _ rfl br underlying26 rfl uqg) rfl ?_
  exact HD.out
theorem wyh (b:Zba) (v:Int) (w:World) (hb:b.size<=4611686018427387904) (hT:Tabs w) (hv:1<=v/\v<=3) :
  Calls prog 8 #[.string b,.int .i64 v] w fun e w'=>vvg w v b.data.toList e w':=by
 have hzs:=uq4
 have h1:¬v<1:=by omega
 have h3:¬3<v:=by omega
 obtain⟨l,rfl⟩:∃l,b=bstr l:=⟨b.data.toList,(uxt b).symm⟩
 rw[uqx]
 rw[uq2] at hb
 have D5:=DI.start w v l hT
 have HT:=zrj hT
 have HV:=zrj hv
 clear hT hv
 by_cases h2:2<v
 ·have HO:Hid (decide (2<v)=true):=zrj (decide_eq_true h2)
  go_enter func8,ntmps8
  go_wp2_with fail
  generalize((((w.alloc _).alloc _).alloc _).alloc _).alloc _=W5 at *
  refine(uxd (w.heap.size+1+1) 0 l W5 D5.rd).mono ?_
  rintro e w6 ⟨G6,n,l1,y1,rfl,R6,S6,_,_,hn⟩
  have D6:=D5.read G6 R6
  have e0:=D6.bs.c0
  have f0:=D6.bs.frozen 0
  have e6:=D6.b6.c0
  have D7:=D6.set_ rfl HT.out 0 (.int .i64 (n:Int))
  have S0:Step (pOpt (decide (2<v)) pInt 0) l 0 (n:Int) l1 y1:=Step.opt (fun _=>S6) (fun h=>by rw[HO.out] at h;cases h)
  have HS0:=zrj S0
  have hl1:=zrc S6.1 hb
  clear S6 R6 G6 D5 D6 S0 HO
  go_wp2_with fail
  generalize w6.setCell ⟨w.heap.size+1+1+1+1,0,none⟩ (.int .i64 (n:Int))=w7 at *
  simp only[List.setIfInBounds_toArray,List.set_cons_zero] at D7
  clear e0 f0 e6
  refine(vvc _ _ (w.heap.size+1+1+1) w.heap.size (w.heap.size+1+1) y1 l1 v 40 w7 D7.b6 D7.b3 (by omega) (by omega) D7.rd hl1 D7.tb (by decide)).mono ?_
  rintro e w8 ⟨G8,val,jobs,l2,y2,rfl,OJ,R8,S8⟩
  obtain⟨pJ,cJ,rfl,aJ⟩:=uzg OJ
  have D8:=D7.read G8 R8
  have hltJ:w.heap.size+1+1+1+1<w7.heap.size:=D7.bs.lt
  have hszJ:w.heap.size<=w7.heap.size:=D7.bl.size
  have ec:=D8.bs.c1
  have fc:=D8.bs.frozen 1
  have e6:=D8.b6.c0
  have D9:=D8.set_ rfl HT.out 1 (.slice pJ jobs.length cJ)
  have OJ:=OwnJ.gw OJ (uxz w8 (w.heap.size+1+1+1+1) 1 (.slice pJ jobs.length cJ)) (by omega)
  have HS8:=zrj S8
  have hl2:=zrc S8.1 hl1
  clear S8 R8 G8 D7 D8
  go_wp2_with fail
  generalize w8.setCell ⟨w.heap.size+1+1+1+1,1,none⟩ (.slice pJ jobs.length cJ)=w9 at *
  simp only[ma,mb,mc] at D9
  clear ec fc e6
  refine(vve _ _ (w.heap.size+1+1+1) w.heap.size (w.heap.size+1+1) y2 l2 v 20 w9 D9.b6 D9.b3 (by omega) (by omega) D9.rd hl2 D9.tb (by decide)).mono ?_
  rintro e w10 ⟨G10,val,nodes,l3,y3,rfl,ON,R10,S10⟩
  obtain⟨pN,cN,rfl,aN⟩:=uzg ON
  have D10:=D9.read G10 R10
  have hltN:w.heap.size+1+1+1+1<w9.heap.size:=D9.bs.lt
  have hszN:w.heap.size<=w9.heap.size:=D9.bl.size
  have ec:=D10.bs.c2
  have fc:=D10.bs.frozen 2
  have e6:=D10.b6.c0
  have D11:=D10.set_ rfl HT.out 2 (.slice pN nodes.length cN)
  have ON:=OwnN.gw ON (uxz w10 (w.heap.size+1+1+1+1) 2 (.slice pN nodes.length cN)) (by omega)
  have OJ:=OwnJ.gw OJ G10 (by omega)
  have OJ:=OwnJ.gw OJ (uxz w10 (w.heap.size+1+1+1+1) 2 (.slice pN nodes.length cN)) (by omega)
  have HS10:=zrj S10
  have hl3:=zrc S10.1 hl2
  clear S10 R10 G10 D9 D10
  go_wp2_with fail
  generalize w10.setCell ⟨w.heap.size+1+1+1+1,2,none⟩ (.slice pN nodes.length cN)=w11 at *
  simp only[ma,mb,mc] at D11
  clear ec fc e6
  refine(vvd (w.heap.size+1+1) y3 l3 40 w11 D11.rd hl3 D11.tb (by decide)).mono ?_
  rintro e w12 ⟨G12,val,leases,l4,y4,rfl,OL,R12,S12⟩
  obtain⟨pL,cL,rfl,aL⟩:=uzg OL
  have D12:=D11.read G12 R12
  have hltL:w.heap.size+1+1+1+1<w11.heap.size:=D11.bs.lt
  have hszL:w.heap.size<=w11.heap.size:=D11.bl.size
  have ec:=D12.bs.c3
  have fc:=D12.bs.frozen 3
  have e6:=D12.b6.c0
  have D13:=D12.set_ rfl HT.out 3 (.slice pL leases.length cL)
  have OL:=OwnL.gw OL (uxz w12 (w.heap.size+1+1+1+1) 3 (.slice pL leases.length cL)) (by omega)
  have ON:=OwnN.gw ON G12 (by omega)
  have ON:=OwnN.gw ON (uxz w12 (w.heap.size+1+1+1+1) 3 (.slice pL leases.length cL)) (by omega)
  have OJ:=OwnJ.gw OJ G12 (by omega)
  have OJ:=OwnJ.gw OJ (uxz w12 (w.heap.size+1+1+1+1) 3 (.slice pL leases.length cL)) (by omega)
  have HS12:=zrj S12
  have hl4:=zrc S12.1 hl3
  clear S12 R12 G12 D11 D12
  go_wp2_with fail
  generalize w12.setCell ⟨w.heap.size+1+1+1+1,3,none⟩ (.slice pL leases.length cL)=w13 at *
  simp only[ma,mb,mc] at D13
  clear ec fc e6
  have HST:=zrj (Step.state HS0.out HS8.out HS10.out HS12.out)
  refine(ukn (w.heap.size+1+1) y4 l4 w13 D13.rd).mono ?_
  rintro e w14 ⟨G14,rfl⟩
  have br:=D13.br.gr G14 (by omega)
  have bs:=D13.bs.gr G14 (by omega)
  have hB14:Below w.heap.size w w14:=D13.bl.grown G14 (by have:=D13.br.lt;omega) (fun k hk=>by injection hk with hk;omega)
  have OJ:=OwnJ.gw OJ G14 (by omega)
  have ON:=OwnN.gw ON G14 (by omega)
  have OL:=OwnL.gw OL G14 (by omega)
  clear D13 G14 HS0 HS8 HS10 HS12
  by_cases he:endE y4 l4=0
  ·obtain⟨hok,hd⟩:=vw1 HV.out HST.out he
   have hez:((endE y4 l4:Int) != 0)=false:=by rw[he];rfl
   have hsz:=wze hok
   obtain⟨qJ,dJ,eqJ,_,EJ⟩:=OwnJ.form OJ
   obtain⟨qN,dN,eqN,_,EN⟩:=OwnN.form ON
   obtain⟨qL,dL,eqL,_,EL⟩:=OwnL.form OL
   simp only[Value.slice.injEq,true_and] at eqJ eqN eqL
   obtain⟨rfl,rfl⟩:=eqJ
   obtain⟨rfl,rfl⟩:=eqN
   obtain⟨rfl,rfl⟩:=eqL
   have hm:StM w14 w14.heap.size pJ pN pL ((⟨(n:Int),jobs,nodes,leases⟩:St)):=⟨EJ,EN,EL⟩
   have hC:=uzv ((⟨(n:Int),jobs,nodes,leases⟩:St)) pJ pN pL cJ cN cL w14 hm hsz (HT.out.below hB14)
   have HC:=zrj hC
   have HM:=zrj hm
   have HD:=zrj hd
   generalize uqr ((⟨(n:Int),jobs,nodes,leases⟩:St))=ce at *
   generalize hee:endE y4 l4=ee at *
   clear hC hm hd hsz hok he OJ ON OL EJ EN EL hee HST
   go_wp2_with(first
    | (refine uqa rfl _ _ rfl (w.heap.size+1+1+1+1) rfl _ _ bs _ underlying26 rfl uqg ?_))
   refine HC.out.mono ?_
   rintro e w15 ⟨rfl,hb15⟩
   have hB15:=bthen hB14 hb15
   have br:=br.bl hb15
   have bs:=bs.bl hb15
   have HM5:=zrj (HM.out.below hb15)
   have hsz15:=hb15.size
   clear hb15 HM HC
   by_cases hce:ce=0
   ·subst hce
    have hcz:(((0:Nat):Int) != 0)=false:=rfl
    have hd:=HD.out
    rw[if_pos rfl] at hd
    have HD2:=zrj hd
    clear hd HD
    go_wp2_with(first
     | (refine uqa rfl _ _ rfl (w.heap.size+1+1+1+1) rfl _ _ bs _ underlying26 rfl uqg ?_)
     | (refine uqd rfl _ _ _ rfl (w.heap.size+1) rfl _ _ #[.int .i64 (n:Int),.slice pJ jobs.length cJ,.slice pN nodes.length cN,.slice pL leases.length cL] br rfl uqg rfl (vks _ _ _ _ _ _ _ _ _ _) ?_))
    refine bodyPost_ret (uqj rfl _ rfl (br.setRow #[.int .i64 (n:Int),.slice pJ jobs.length cJ,.slice pN nodes.length cN,.slice pL leases.length cL]) underlying26 rfl uqg) rfl ?_
    have hb16:Below w15.heap.size w15 w15:=zri _ _
    have hlt:=br.lt
    refine⟨((⟨(n:Int),jobs,nodes,leases⟩:St)),0,pJ,pN,pL,cJ,cN,cL,rfl,?_,⟨fun a ha=>zrc hszJ (aJ a ha),fun a ha=>zrc hszN (aN a ha),fun a ha=>zrc hszL (aL a ha)⟩,uqf hB15 (by omega) _,HD2.out⟩
    have hm:=HM5.out
    have hle:w14.heap.size<=(w15.setRow (w.heap.size+1) #[.int .i64 (n:Int),.slice pJ jobs.length cJ,.slice pN nodes.length cN,.slice pL leases.length cL]).heap.size:=zrc hsz15 (by simp)
    have hG:=vzy w15 (w.heap.size+1) #[.int .i64 (n:Int),.slice pJ jobs.length cJ,.slice pN nodes.length cN,.slice pL leases.length cL]
    exact⟨(hm.j.gra hG hsz15 aJ (by omega)).more hle,(hm.n.gra hG hsz15 aN (by omega)).more hle,(hm.l.gra hG hsz15 aL (by omega)).more hle⟩
   ·have hcz:((ce:Int) != 0)=true:=by rw[bne_iff_ne];omega
    have hd:=HD.out
    rw[if_neg hce] at hd
    have HD2:=zrj hd
    clear hd HD
    go_wp2_with(first
     | (refine uqd rfl _ _ _ rfl (w.heap.size+1) rfl _ _ zsv br rfl uqg rfl (vks _ _ _ _ _ _ _ _ _ _) ?_))
    refine bodyPost_ret (uqj rfl _ rfl (br.setRow zsv) underlying26 rfl uqg) rfl ?_
    exact ukz (uqf hB15 (by omega) _) HD2.out
  ·have hd:=wja HV.out HST.out he
   have hez:((endE y4 l4:Int) != 0)=true:=by rw[bne_iff_ne];omega
   have HD:=zrj hd
   generalize endE y4 l4=ee at *
   clear hd he OJ ON OL HST
   go_wp2_with(first
    | (refine uqd rfl _ _ _ rfl (w.heap.size+1) rfl _ _ zsv br rfl uqg rfl (vks _ _ _ _ _ _ _ _ _ _) ?_))
   refine bodyPost_ret (uqj rfl _ rfl (br.setRow zsv) underlying26 rfl uqg) rfl ?_
   exact ukz (uqf hB14 (by omega) _) HD.out
 ·have HO:Hid (decide (2<v)=false):=zrj (decide_eq_false h2)
  go_enter func8,ntmps8
  go_wp2_with fail
  generalize((((w.alloc _).alloc _).alloc _).alloc _).alloc _=w7 at *
  have S0:Step (pOpt (decide (2<v)) pInt 0) l 0 (0:Int) l 0:=Step.opt (fun h=>by rw[HO.out] at h;cases h) (fun _=>⟨rfl,rfl,rfl⟩)
  have HS0:=zrj S0
  have hl1:=hb
  have D7:=D5
  clear D5 S0 HO
  refine(vvc _ _ (w.heap.size+1+1+1) w.heap.size (w.heap.size+1+1) 0 l v 40 w7 D7.b6 D7.b3 (by omega) (by omega) D7.rd hl1 D7.tb (by decide)).mono ?_
  rintro e w8 ⟨G8,val,jobs,l2,y2,rfl,OJ,R8,S8⟩
  obtain⟨pJ,cJ,rfl,aJ⟩:=uzg OJ
  have D8:=D7.read G8 R8
  have hltJ:w.heap.size+1+1+1+1<w7.heap.size:=D7.bs.lt
  have hszJ:w.heap.size<=w7.heap.size:=D7.bl.size
  have ec:=D8.bs.c1
  have fc:=D8.bs.frozen 1
  have e6:=D8.b6.c0
  have D9:=D8.set_ rfl HT.out 1 (.slice pJ jobs.length cJ)
  have OJ:=OwnJ.gw OJ (uxz w8 (w.heap.size+1+1+1+1) 1 (.slice pJ jobs.length cJ)) (by omega)
  have HS8:=zrj S8
  have hl2:=zrc S8.1 hl1
  clear S8 R8 G8 D7 D8
  go_wp2_with fail
  generalize w8.setCell ⟨w.heap.size+1+1+1+1,1,none⟩ (.slice pJ jobs.length cJ)=w9 at *
  simp only[ma,mb,mc] at D9
  clear ec fc e6
  refine(vve _ _ (w.heap.size+1+1+1) w.heap.size (w.heap.size+1+1) y2 l2 v 20 w9 D9.b6 D9.b3 (by omega) (by omega) D9.rd hl2 D9.tb (by decide)).mono ?_
  rintro e w10 ⟨G10,val,nodes,l3,y3,rfl,ON,R10,S10⟩
  obtain⟨pN,cN,rfl,aN⟩:=uzg ON
  have D10:=D9.read G10 R10
  have hltN:w.heap.size+1+1+1+1<w9.heap.size:=D9.bs.lt
  have hszN:w.heap.size<=w9.heap.size:=D9.bl.size
  have ec:=D10.bs.c2
  have fc:=D10.bs.frozen 2
  have e6:=D10.b6.c0
  have D11:=D10.set_ rfl HT.out 2 (.slice pN nodes.length cN)
  have ON:=OwnN.gw ON (uxz w10 (w.heap.size+1+1+1+1) 2 (.slice pN nodes.length cN)) (by omega)
  have OJ:=OwnJ.gw OJ G10 (by omega)
  have OJ:=OwnJ.gw OJ (uxz w10 (w.heap.size+1+1+1+1) 2 (.slice pN nodes.length cN)) (by omega)
  have HS10:=zrj S10
  have hl3:=zrc S10.1 hl2
  clear S10 R10 G10 D9 D10
  go_wp2_with fail
  generalize w10.setCell ⟨w.heap.size+1+1+1+1,2,none⟩ (.slice pN nodes.length cN)=w11 at *
  simp only[ma,mb,mc] at D11
  clear ec fc e6
  refine(vvd (w.heap.size+1+1) y3 l3 40 w11 D11.rd hl3 D11.tb (by decide)).mono ?_
  rintro e w12 ⟨G12,val,leases,l4,y4,rfl,OL,R12,S12⟩
  obtain⟨pL,cL,rfl,aL⟩:=uzg OL
  have D12:=D11.read G12 R12
  have hltL:w.heap.size+1+1+1+1<w11.heap.size:=D11.bs.lt
  have hszL:w.heap.size<=w11.heap.size:=D11.bl.size
  have ec:=D12.bs.c3
  have fc:=D12.bs.frozen 3
  have e6:=D12.b6.c0
  have D13:=D12.set_ rfl HT.out 3 (.slice pL leases.length cL)
  have OL:=OwnL.gw OL (uxz w12 (w.heap.size+1+1+1+1) 3 (.slice pL leases.length cL)) (by omega)
  have ON:=OwnN.gw ON G12 (by omega)
  have ON:=OwnN.gw ON (uxz w12 (w.heap.size+1+1+1+1) 3 (.slice pL leases.length cL)) (by omega)
  have OJ:=OwnJ.gw OJ G12 (by omega)
  have OJ:=OwnJ.gw OJ (uxz w12 (w.heap.size+1+1+1+1) 3 (.slice pL leases.length cL)) (by omega)
  have HS12:=zrj S12
  have hl4:=zrc S12.1 hl3
  clear S12 R12 G12 D11 D12
  go_wp2_with fail
  generalize w12.setCell ⟨w.heap.size+1+1+1+1,3,none⟩ (.slice pL leases.length cL)=w13 at *
  simp only[ma,mb,mc] at D13
  clear ec fc e6
  have HST:=zrj (Step.state HS0.out HS8.out HS10.out HS12.out)
  refine(ukn (w.heap.size+1+1) y4 l4 w13 D13.rd).mono ?_
  rintro e w14 ⟨G14,rfl⟩
  have br:=D13.br.gr G14 (by omega)
  have bs:=D13.bs.gr G14 (by omega)
  have hB14:Below w.heap.size w w14:=D13.bl.grown G14 (by have:=D13.br.lt;omega) (fun k hk=>by injection hk with hk;omega)
  have OJ:=OwnJ.gw OJ G14 (by omega)
  have ON:=OwnN.gw ON G14 (by omega)
  have OL:=OwnL.gw OL G14 (by omega)
  clear D13 G14 HS0 HS8 HS10 HS12
  by_cases he:endE y4 l4=0
  ·obtain⟨hok,hd⟩:=vw1 HV.out HST.out he
   have hez:((endE y4 l4:Int) != 0)=false:=by rw[he];rfl
   have hsz:=wze hok
   obtain⟨qJ,dJ,eqJ,_,EJ⟩:=OwnJ.form OJ
   obtain⟨qN,dN,eqN,_,EN⟩:=OwnN.form ON
   obtain⟨qL,dL,eqL,_,EL⟩:=OwnL.form OL
   simp only[Value.slice.injEq,true_and] at eqJ eqN eqL
   obtain⟨rfl,rfl⟩:=eqJ
   obtain⟨rfl,rfl⟩:=eqN
   obtain⟨rfl,rfl⟩:=eqL
   have hm:StM w14 w14.heap.size pJ pN pL ((⟨0,jobs,nodes,leases⟩:St)):=⟨EJ,EN,EL⟩
   have hC:=uzv ((⟨0,jobs,nodes,leases⟩:St)) pJ pN pL cJ cN cL w14 hm hsz (HT.out.below hB14)
   have HC:=zrj hC
   have HM:=zrj hm
   have HD:=zrj hd
   generalize uqr ((⟨0,jobs,nodes,leases⟩:St))=ce at *
   generalize hee:endE y4 l4=ee at *
   clear hC hm hd hsz hok he OJ ON OL EJ EN EL hee HST
   go_wp2_with(first
    | (refine uqa rfl _ _ rfl (w.heap.size+1+1+1+1) rfl _ _ bs _ underlying26 rfl uqg ?_))
   refine HC.out.mono ?_
   rintro e w15 ⟨rfl,hb15⟩
   have hB15:=bthen hB14 hb15
   have br:=br.bl hb15
   have bs:=bs.bl hb15
   have HM5:=zrj (HM.out.below hb15)
   have hsz15:=hb15.size
   clear hb15 HM HC
   by_cases hce:ce=0
   ·subst hce
    have hcz:(((0:Nat):Int) != 0)=false:=rfl
    have hd:=HD.out
    rw[if_pos rfl] at hd
    have HD2:=zrj hd
    clear hd HD
    go_wp2_with(first
     | (refine uqa rfl _ _ rfl (w.heap.size+1+1+1+1) rfl _ _ bs _ underlying26 rfl uqg ?_)
     | (refine uqd rfl _ _ _ rfl (w.heap.size+1) rfl _ _ #[.int .i64 0,.slice pJ jobs.length cJ,.slice pN nodes.length cN,.slice pL leases.length cL] br rfl uqg rfl (vks _ _ _ _ _ _ _ _ _ _) ?_))
    refine bodyPost_ret (uqj rfl _ rfl (br.setRow #[.int .i64 0,.slice pJ jobs.length cJ,.slice pN nodes.length cN,.slice pL leases.length cL]) underlying26 rfl uqg) rfl ?_
    have hb16:Below w15.heap.size w15 w15:=zri _ _
    have hlt:=br.lt
    refine⟨((⟨0,jobs,nodes,leases⟩:St)),0,pJ,pN,pL,cJ,cN,cL,rfl,?_,⟨fun a ha=>zrc hszJ (aJ a ha),fun a ha=>zrc hszN (aN a ha),fun a ha=>zrc hszL (aL a ha)⟩,uqf hB15 (by omega) _,HD2.out⟩
    have hm:=HM5.out
    have hle:w14.heap.size<=(w15.setRow (w.heap.size+1) #[.int .i64 0,.slice pJ jobs.length cJ,.slice pN nodes.length cN,.slice pL leases.length cL]).heap.size:=zrc hsz15 (by simp)
    have hG:=vzy w15 (w.heap.size+1) #[.int .i64 0,.slice pJ jobs.length cJ,.slice pN nodes.length cN,.slice pL leases.length cL]
    exact⟨(hm.j.gra hG hsz15 aJ (by omega)).more hle,(hm.n.gra hG hsz15 aN (by omega)).more hle,(hm.l.gra hG hsz15 aL (by omega)).more hle⟩
   ·have hcz:((ce:Int) != 0)=true:=by rw[bne_iff_ne];omega
    have hd:=HD.out
    rw[if_neg hce] at hd
    have HD2:=zrj hd
    clear hd HD
    go_wp2_with(first
     | (refine uqd rfl _ _ _ rfl (w.heap.size+1) rfl _ _ zsv br rfl uqg rfl (vks _ _ _ _ _ _ _ _ _ _) ?_))
    refine bodyPost_ret (uqj rfl _ rfl (br.setRow zsv) underlying26 rfl uqg) rfl ?_
    exact ukz (uqf hB15 (by omega) _) HD2.out
  ·have hd:=wja HV.out HST.out he
   have hez:((endE y4 l4:Int) != 0)=true:=by rw[bne_iff_ne];omega
   have HD:=zrj hd
   generalize endE y4 l4=ee at *
   clear hd he OJ ON OL HST
   go_wp2_with(first
    | (refine uqd rfl _ _ _ rfl (w.heap.size+1) rfl _ _ zsv br rfl uqg rfl (vks _ _ _ _ _ _ _ _ _ _) ?_))
   refine bodyPost_ret (uqj rfl _ rfl (br.setRow zsv) underlying26 rfl uqg) rfl ?_
   exact ukz (uqf hB14 (by omega) _) HD.out
theorem vw2 (b:Zba) (v:Int) (w:World) (hb:b.size<=4611686018427387904) (hT:Tabs w) :
  Calls prog 8 #[.string b,.int .i64 v] w fun e w'=>vvg w v b.data.toList e w':=by
 by_cases hv:1<=v/\v<=3
 ·exact wyh b v w hb hT hv
 ·exact decode_v b v w (by omega)
end Go.Proofs.YtnnfgchhkekkeacGreatDoor
