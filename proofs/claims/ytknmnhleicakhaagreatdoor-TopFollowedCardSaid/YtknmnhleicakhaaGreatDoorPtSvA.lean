/- Lemmas.
-/
import Derived.Sort.Grow
import Derived.Deep.RegionLaw
import Derived.Laws.CopyOwn
import Derived.ArgAppend
import Derived.Deep.AppendSrc
import Derived.Lib.AppendZerosOnto
import Derived.Shelf.Spec.SlicesInsert
import Derived.Test.YtknmnhleicakhaaGreatDoorPtSrvP
set_option linter.all false
set_option maxHeartbeats 16000000
set_option maxRecDepth 100000
namespace Go.Proofs.YtknmnhleicakhaaGreatDoor
open Go.Proofs.Tryz
open Go.RowKit
def cmpB (a b:Zba):Int:=if ltS a b=true then -1 else if ltS b a=true then 1 else 0
theorem wqo (a b:Zba):decide (cmpB a b<0)=ltS a b:=by
 unfold cmpB
 cases h:ltS a b
 ·cases h2:ltS b a <;> simp
 ·simp
theorem nan_any (a:Zba) (w:World) :
  Calls prog 177 #[.string a] w fun e w'=>e=.returned (.bool false)/\w=w':=by
 have h0:(a.toList != a.toList)=false:=by simp
 go_enter func177,ntmps177
 go_wp2_with fail
 go_ret
 exact⟨rfl,rfl⟩
theorem ukv (a b:Zba) (w:World) :
  Calls prog 138 #[.string a,.string b] w fun e w'=>e=.returned (.int .i64 (cmpB a b))/\w=w':=by
 have HN:=zrj (fun(x:Zba) (W:World)=>nan_any x W)
 cases h1:ltS a b
 ·have f1:Op.bytesLess a.toList b.toList=false:=h1
  by_cases h2:a=b
  ·subst h2
   have HC:=zrj (show cmpB a a=0 from by unfold cmpB;rw[h1];rfl)
   have f3:(!(Op.bytesLess a.toList a.toList||a.toList == a.toList))=false:=by simp
   have f4:(a.toList == a.toList)=true:=by simp
   clear h1
   go_enter func138,ntmps138
   go_wp2_with fail
   refine(HN.out _ _).mono ?_
   rintro e w1 ⟨rfl,rfl⟩
   go_wp2_with fail
   refine(HN.out _ _).mono ?_
   rintro e w1 ⟨rfl,rfl⟩
   go_wp2_with fail
   go_ret
   exact⟨by rw[HC.out];rfl,rfl⟩
  ·have h3:ltS b a=true:=by
    rcases wqh a.toList b.toList with h | h | h
    ·rw[f1] at h;cases h
    ·exact absurd (toList_inj h) h2
    ·exact h
   have HC:=zrj (show cmpB a b=1 from by unfold cmpB;rw[h1,h3];rfl)
   have f4:(a.toList == b.toList)=false:=by rw[zrf];exact fun h=>h2 (toList_inj h)
   clear h1 h2 h3
   go_enter func138,ntmps138
   go_wp2_with fail
   refine(HN.out _ _).mono ?_
   rintro e w1 ⟨rfl,rfl⟩
   go_wp2_with fail
   refine(HN.out _ _).mono ?_
   rintro e w1 ⟨rfl,rfl⟩
   go_wp2_with fail
   go_ret
   exact⟨by rw[HC.out];rfl,rfl⟩
 ·have f1:Op.bytesLess a.toList b.toList=true:=h1
  have HC:=zrj (show cmpB a b = -1 from by unfold cmpB;rw[h1];rfl)
  clear h1
  go_enter func138,ntmps138
  go_wp2_with fail
  refine(HN.out _ _).mono ?_
  rintro e w1 ⟨rfl,rfl⟩
  go_wp2_with fail
  refine(HN.out _ _).mono ?_
  rintro e w1 ⟨rfl,rfl⟩
  go_wp2_with fail
  go_ret
  exact⟨by rw[HC.out];rfl,rfl⟩
def Grw (W w':World):Prop:=Below W.heap.size W w'/\W.drawn<=w'.drawn
theorem Grw.refl (W:World):Grw W W:=⟨zri _ _,zra _⟩
theorem Grw.step {W a b:World} (h:Grw W a) (hb:Below a.heap.size a b) (hd:a.drawn<=b.drawn):Grw W b:=⟨bthen h.1 hb,zrc h.2 hd⟩
theorem Grw.is {w w':World} (h:Grw w w'):∃q os,w'=Sort.grow (w.drewN q) os:=by
 obtain⟨h1,h2⟩:=h
 refine⟨w'.drawn-w.drawn,w'.heap.extract w.heap.size w'.heap.size,?_⟩
 obtain⟨hp,tp,dr,os,out⟩:=w'
 obtain⟨a1,a2,a3,a4,a5⟩:=h1
 simp only at a1 a2 a3 a4 a5 h2
 subst a1 a2 a3
 unfold Sort.grow World.drewN
 simp only[World.mk.injEq]
 refine⟨?_,trivial,by omega,trivial,trivial⟩
 apply Array.ext_getElem?
 intro i
 by_cases hi:i<w.heap.size
 ·rw[a5 i hi,Array.getElem?_append_left hi]
 ·rw[Array.getElem?_append_right (by omega)]
  rw[Array.getElem?_extract]
  by_cases h3:i<hp.size
  ·rw[if_pos (by omega)];congr 1;omega
  ·rw[if_neg (by omega),Array.getElem?_eq_none (by omega)]
theorem uy8 {P:Program} {id:Nat} {Q:Exit->Act->World->Prop} {a:Act} {w:World} {l:List Oper} (hm:P.follows .mixedOrders=true) (hB:Region.lexB .any l.toArray=true)
  (h:wpQuiet P l.toArray (Grw w) (fun a'=>∀w',Grw w w'->Q .normal a' w') l a):(Code.region id l.toArray true).wp P Q a w :=
 wp_region_quiet (C:=Grw w) hm hB ⟨(zri _ w).drew,Nat.le_succ _⟩ (by simpa using h)
def vvd (w:World) (E:TypeId) (size n:Nat) (rows:List (List Value)) (e:Ending) (w':World):Prop :=
 ∃q c,e=.returned (.slice q n c)/\Own w' w.heap.size E size q c rows/\Below w.heap.size w w'
theorem vyd (p:Zoa) (c:Nat) (l:List JobD) (w:World) (hel:Elts w w.heap.size 5 p (l.map rowJ)) (hl:l.length<=1099511627776) :
  Calls prog 28 #[.slice p l.length c] w fun e w'=>vvd w 38 5 l.length (l.map rowJ) e w':=by
 have hq:=fun W:World=>Lib.run_eql_slice_nil (P:=prog) W 22 38 p l.length c 0 0 underlying22
 rcases p with _ | ad
 ·obtain rfl:l=[]:=by
   rcases l with _ | ⟨x,r⟩
   ·rfl
   ·obtain⟨a,h,_⟩:=hel.2 (by simp)
    cases h
  have hq2:∀W:World,(binOp .eql 22 (.slice none 0 c) (.slice none 0 0)).run prog W=.ok (.bool true) W:=hq
  clear hq hel
  go_enter func28,ntmps28
  go_wp2_with fail
  go_ret
  exact⟨none,0,rfl,Own.nil_ _ _ _ _ _,zri _ _⟩
 ·have hq2:∀W:World,(binOp .eql 22 (.slice (some ad) l.length c) (.slice none 0 0)).run prog W=.ok (.bool false) W:=hq
  obtain⟨i0,hi,hz0,hz1,hz2⟩:=info_parts uve
  have hb0:=zsa w (.cells #[] 38)
  have hrd:=(hel.below hb0).reads
  have hs:=hel.1
  rw[zre] at hrd
  have h1:=xwy l
  have hlen:(l.map rowJ).length=l.length:=zre _
  generalize(l.map rowJ)=rows at *
  have HL:=zrj hlen
  have hml:0+l.length<=maxLen:=by unfold maxLen;omega
  have hby:(0+l.length)*56<=140737488355328:=by omega
  have hown0:(w.alloc (.cells #[] 38)).ownsRow w.heap.size 38 5 (.slice (some ⟨w.heap.size,0,none⟩) 0 0) 0 []:=⟨rfl,.inr ⟨w.heap.size,0,#[],rfl,zra _,heap_alloc_new w _,zra _,by decide,rfl,rfl⟩⟩
  clear hlen hel hq
  go_enter func28,ntmps28
  go_wp2_with(at_builtin;refine uq6 _ rfl _ _ 22 rfl w.heap.size 38 i0 _ 5 56 underlying22 hi hz0 hz1 hz2 rfl (by decide) _ 0 [] rfl hown0 w.heap.size (some ad) l.length c rows.flatten rfl hrd h1 hml hby hb0.size ?_)
  intro v' w' hown hg _
  have hB:Below w.heap.size w w':=hb0.grown hg hb0.size (fun k hk=>by have h0:some w.heap.size=some k:=hk;injection h0 with h0;omega)
  (try simp only[Nat.zero_add,List.nil_append] at hown)
  have hfm:∃q c',v'=.slice q l.length c':=by
   rcases hown.2 with⟨rfl,h0⟩ | ⟨g,cap,cur,rfl,_⟩
   ·exact⟨none,0,by rw[h0]⟩
   ·exact⟨_,cap,rfl⟩
  obtain⟨q,c',rfl⟩:=hfm
  have HO:=zrj hown
  clear hown hown0 hg hi hz0 hz1 hz2 hrd h1 hml hby hq2
  go_wp2_with fail
  go_ret
  exact⟨q,c',rfl,Own.of ⟨hs,by rw[HL.out];exact HO.out⟩,hB⟩
theorem vyf (p:Zoa) (c:Nat) (l:List NodeD) (w:World) (hel:Elts w w.heap.size 3 p (l.map rowN)) (hl:l.length<=1099511627776) :
  Calls prog 29 #[.slice p l.length c] w fun e w'=>vvd w 40 3 l.length (l.map rowN) e w':=by
 have hq:=fun W:World=>Lib.run_eql_slice_nil (P:=prog) W 23 40 p l.length c 0 0 underlying23
 rcases p with _ | ad
 ·obtain rfl:l=[]:=by
   rcases l with _ | ⟨x,r⟩
   ·rfl
   ·obtain⟨a,h,_⟩:=hel.2 (by simp)
    cases h
  have hq2:∀W:World,(binOp .eql 23 (.slice none 0 c) (.slice none 0 0)).run prog W=.ok (.bool true) W:=hq
  clear hq hel
  go_enter func29,ntmps29
  go_wp2_with fail
  go_ret
  exact⟨none,0,rfl,Own.nil_ _ _ _ _ _,zri _ _⟩
 ·have hq2:∀W:World,(binOp .eql 23 (.slice (some ad) l.length c) (.slice none 0 0)).run prog W=.ok (.bool false) W:=hq
  obtain⟨i0,hi,hz0,hz1,hz2⟩:=info_parts uj7
  have hb0:=zsa w (.cells #[] 40)
  have hrd:=(hel.below hb0).reads
  have hs:=hel.1
  rw[zre] at hrd
  have h1:=xw1 l
  have hlen:(l.map rowN).length=l.length:=zre _
  generalize(l.map rowN)=rows at *
  have HL:=zrj hlen
  have hml:0+l.length<=maxLen:=by unfold maxLen;omega
  have hby:(0+l.length)*40<=140737488355328:=by omega
  have hown0:(w.alloc (.cells #[] 40)).ownsRow w.heap.size 40 3 (.slice (some ⟨w.heap.size,0,none⟩) 0 0) 0 []:=⟨rfl,.inr ⟨w.heap.size,0,#[],rfl,zra _,heap_alloc_new w _,zra _,by decide,rfl,rfl⟩⟩
  clear hlen hel hq
  go_enter func29,ntmps29
  go_wp2_with(at_builtin;refine uq6 _ rfl _ _ 23 rfl w.heap.size 40 i0 _ 3 40 underlying23 hi hz0 hz1 hz2 rfl (by decide) _ 0 [] rfl hown0 w.heap.size (some ad) l.length c rows.flatten rfl hrd h1 hml hby hb0.size ?_)
  intro v' w' hown hg _
  have hB:Below w.heap.size w w':=hb0.grown hg hb0.size (fun k hk=>by have h0:some w.heap.size=some k:=hk;injection h0 with h0;omega)
  (try simp only[Nat.zero_add,List.nil_append] at hown)
  have hfm:∃q c',v'=.slice q l.length c':=by
   rcases hown.2 with⟨rfl,h0⟩ | ⟨g,cap,cur,rfl,_⟩
   ·exact⟨none,0,by rw[h0]⟩
   ·exact⟨_,cap,rfl⟩
  obtain⟨q,c',rfl⟩:=hfm
  have HO:=zrj hown
  clear hown hown0 hg hi hz0 hz1 hz2 hrd h1 hml hby hq2
  go_wp2_with fail
  go_ret
  exact⟨q,c',rfl,Own.of ⟨hs,by rw[HL.out];exact HO.out⟩,hB⟩
theorem vye (p:Zoa) (c:Nat) (l:List uqb) (w:World) (hel:Elts w w.heap.size 3 p (l.map rowL)) (hl:l.length<=1099511627776) :
  Calls prog 30 #[.slice p l.length c] w fun e w'=>vvd w 42 3 l.length (l.map rowL) e w':=by
 have hq:=fun W:World=>Lib.run_eql_slice_nil (P:=prog) W 24 42 p l.length c 0 0 underlying24
 rcases p with _ | ad
 ·obtain rfl:l=[]:=by
   rcases l with _ | ⟨x,r⟩
   ·rfl
   ·obtain⟨a,h,_⟩:=hel.2 (by simp)
    cases h
  have hq2:∀W:World,(binOp .eql 24 (.slice none 0 c) (.slice none 0 0)).run prog W=.ok (.bool true) W:=hq
  clear hq hel
  go_enter func30,ntmps30
  go_wp2_with fail
  go_ret
  exact⟨none,0,rfl,Own.nil_ _ _ _ _ _,zri _ _⟩
 ·have hq2:∀W:World,(binOp .eql 24 (.slice (some ad) l.length c) (.slice none 0 0)).run prog W=.ok (.bool false) W:=hq
  obtain⟨i0,hi,hz0,hz1,hz2⟩:=info_parts ujl
  have hb0:=zsa w (.cells #[] 42)
  have hrd:=(hel.below hb0).reads
  have hs:=hel.1
  rw[zre] at hrd
  have h1:=xw0 l
  have hlen:(l.map rowL).length=l.length:=zre _
  generalize(l.map rowL)=rows at *
  have HL:=zrj hlen
  have hml:0+l.length<=maxLen:=by unfold maxLen;omega
  have hby:(0+l.length)*40<=140737488355328:=by omega
  have hown0:(w.alloc (.cells #[] 42)).ownsRow w.heap.size 42 3 (.slice (some ⟨w.heap.size,0,none⟩) 0 0) 0 []:=⟨rfl,.inr ⟨w.heap.size,0,#[],rfl,zra _,heap_alloc_new w _,zra _,by decide,rfl,rfl⟩⟩
  clear hlen hel hq
  go_enter func30,ntmps30
  go_wp2_with(at_builtin;refine uq6 _ rfl _ _ 24 rfl w.heap.size 42 i0 _ 3 40 underlying24 hi hz0 hz1 hz2 rfl (by decide) _ 0 [] rfl hown0 w.heap.size (some ad) l.length c rows.flatten rfl hrd h1 hml hby hb0.size ?_)
  intro v' w' hown hg _
  have hB:Below w.heap.size w w':=hb0.grown hg hb0.size (fun k hk=>by have h0:some w.heap.size=some k:=hk;injection h0 with h0;omega)
  (try simp only[Nat.zero_add,List.nil_append] at hown)
  have hfm:∃q c',v'=.slice q l.length c':=by
   rcases hown.2 with⟨rfl,h0⟩ | ⟨g,cap,cur,rfl,_⟩
   ·exact⟨none,0,by rw[h0]⟩
   ·exact⟨_,cap,rfl⟩
  obtain⟨q,c',rfl⟩:=hfm
  have HO:=zrj hown
  clear hown hown0 hg hi hz0 hz1 hz2 hrd h1 hml hby hq2
  go_wp2_with fail
  go_ret
  exact⟨q,c',rfl,Own.of ⟨hs,by rw[HL.out];exact HO.out⟩,hB⟩
def xjp (w:World) (s:St) (e:Ending) (w':World):Prop :=
 ∃q1 q2 q3 d1 d2 d3,e=.returned (.agg (stv s q1 q2 q3 d1 d2 d3))/\StOwn w' w.heap.size q1 q2 q3 d1 d2 d3 s/\Below w.heap.size w w'
theorem uwn (s:St) (p1 p2 p3:Zoa) (c1 c2 c3:Nat) (w:World) (hm:StM w w.heap.size p1 p2 p3 s) (hj:s.jobs.length<=1099511627776) (hn:s.nodes.length<=1099511627776) (hl:s.leases.length<=1099511627776) :
  Calls prog 36 #[.agg (stv s p1 p2 p3 c1 c2 c3)] w fun e w'=>xjp w s e w':=by
 have hzs:=uq3
 have hb0:=zsa w (.cells (stv s p1 p2 p3 c1 c2 c3) 26)
 have bx:=(Blk.new w 26 (stv s p1 p2 p3 c1 c2 c3)).alloc (.cells zsv 26)
 have bz:=Blk.new (w.alloc (.cells (stv s p1 p2 p3 c1 c2 c3) 26)) 26 zsv
 rw[show(w.alloc (.cells (stv s p1 p2 p3 c1 c2 c3) 26)).heap.size=w.heap.size+1 by simp] at bz
 have hB0:=hb0.alloc hb0.size (.cells zsv 26)
 have HJ:=zrj (fun(W:World) (hW:Below w.heap.size w W)=>vyd p1 c1 s.jobs W ((hm.j.below hW).more hW.size) hj)
 have HN:=zrj (fun(W:World) (hW:Below w.heap.size w W)=>vyf p2 c2 s.nodes W ((hm.n.below hW).more hW.size) hn)
 have HL:=zrj (fun(W:World) (hW:Below w.heap.size w W)=>vye p3 c3 s.leases W ((hm.l.below hW).more hW.size) hl)
 clear hm hj hn hl hb0
 go_enter func36,ntmps36
 go_wp2_with fail
 generalize(w.alloc (.cells (stv s p1 p2 p3 c1 c2 c3) 26)).alloc _=w0 at *
 have hBd:Below w.heap.size w w0.drew:=hB0.drew
 have bx0:=bx.drew
 have bz0:=bz.drew
 generalize hw0:w0.drew=W0 at *
 have e1:=bx0.c1
 have e2:=bx0.c2
 have e3:=bx0.c3
 have hlt0:=bx0.lt
 have hltz:=bz0.lt
 subst hw0
 go_region_law (first
  | (go_simp;go_at_call 28;refine(HJ.out _ hBd).mono ?_;rintro e w1 ⟨q1,d1,rfl,O1,hb1⟩;have hB1:=bthen hBd hb1;have bx1:=bx0.below hb1 hlt0;have bz1:=bz0.below hb1 hltz;have hlt1:=bx1.lt;have hlz1:=bz1.lt;have a2:=bx1.cell 2;have a3:w1.cell? ⟨w.heap.size,3,none⟩=some (.slice p3 s.leases.length c3):=bx1.cell 3)
  | (go_simp;go_at_call 29;refine(HN.out _ hB1).mono ?_;rintro e w2 ⟨q2,d2,rfl,O2,hb2⟩;have hB2:=bthen hB1 hb2;have bx2:=bx1.below hb2 hlt1;have bz2:=bz1.below hb2 hlz1;have hlt2:=bx2.lt;have hlz2:=bz2.lt;have i3:w2.cell? ⟨w.heap.size,3,none⟩=some (.slice p3 s.leases.length c3):=bx2.cell 3)
  | (go_simp;go_at_call 30;refine(HL.out _ hB2).mono ?_;rintro e w3 ⟨q3,d3,rfl,O3,hb3⟩;have hB3:=bthen hB2 hb3;have bx3:=bx2.below hb3 hlt2;have bz3:=bz2.below hb3 hlz2;have u1:=bx3.cell 1;have u2:=bx3.cell 2;have u3:=bx3.cell 3;have f1:=bx3.frozen 1;have f2:=bx3.frozen 2;have f3:=bx3.frozen 3))
 all_goals(
  have X1:=((bx3.set_ 1 (.slice q1 s.jobs.length d1)).set_ 2 (.slice q2 s.nodes.length d2)).set_ 3 (.slice q3 s.leases.length d3)
  have X:Blk (((w3.setCell ⟨w.heap.size,1,none⟩ (.slice q1 s.jobs.length d1)).setCell ⟨w.heap.size,2,none⟩ (.slice q2 s.nodes.length d2)).setCell ⟨w.heap.size,3,none⟩ (.slice q3 s.leases.length d3)) w.heap.size 26 (stv s q1 q2 q3 d1 d2 d3):=X1
  have hne:w.heap.size+1≠w.heap.size:=by omega
  have Z:=((bz3.far (p:=⟨w.heap.size,1,none⟩) hne (.slice q1 s.jobs.length d1)).far (p:=⟨w.heap.size,2,none⟩) hne (.slice q2 s.nodes.length d2)).far (p:=⟨w.heap.size,3,none⟩) hne (.slice q3 s.leases.length d3)
  have G1:=ux4 w3 w.heap.size 1 (.slice q1 s.jobs.length d1)
  have G2:=ux4 (w3.setCell ⟨w.heap.size,1,none⟩ (.slice q1 s.jobs.length d1)) w.heap.size 2 (.slice q2 s.nodes.length d2)
  have G3:=ux4 ((w3.setCell ⟨w.heap.size,1,none⟩ (.slice q1 s.jobs.length d1)).setCell ⟨w.heap.size,2,none⟩ (.slice q2 s.nodes.length d2)) w.heap.size 3 (.slice q3 s.leases.length d3)
  have hS3:StOwn w3 w.heap.size q1 q2 q3 d1 d2 d3 s:=⟨((O1.below (B:=0) hb2).below (B:=0) hb3).less hBd.size,(O2.below (B:=0) hb3).less hB1.size,O3.less hB2.size⟩
  have b1:=bx3.set_ 1 (.slice q1 s.jobs.length d1)
  have b2:=b1.set_ 2 (.slice q2 s.nodes.length d2)
  have hS:=((hS3.other G1 bx3 (by decide) (by decide) (by decide)).other G2 b1 (by decide) (by decide) (by decide)).other G3 b2 (by decide) (by decide) (by decide)
  have hB:Below w.heap.size w (((w3.setCell ⟨w.heap.size,1,none⟩ (.slice q1 s.jobs.length d1)).setCell ⟨w.heap.size,2,none⟩ (.slice q2 s.nodes.length d2)).setCell ⟨w.heap.size,3,none⟩ (.slice q3 s.leases.length d3)) :=
   ((hB3.setCell (p:=⟨w.heap.size,1,none⟩) (zra _) _).setCell (p:=⟨w.heap.size,2,none⟩) (zra _) _).setCell (p:=⟨w.heap.size,3,none⟩) (zra _) _
  clear X1 G1 G2 G3 hS3 b1 b2 hB0 hB1 hB2 hB3 hBd hb1 hb2 hb3 O1 O2 O3 bx3 bz3 bx2 bz2 bx1 bz1 bx0 bz0 u1 u2 u3 f1 f2 f3 a2 a3 i3
  try go_simp
  generalize((w3.setCell ⟨w.heap.size,1,none⟩ (.slice q1 s.jobs.length d1)).setCell ⟨w.heap.size,2,none⟩ (.slice q2 s.nodes.length d2)).setCell ⟨w.heap.size,3,none⟩ (.slice q3 s.leases.length d3)=W3 at *
  have G4:=growR W3 (w.heap.size+1) (stv s q1 q2 q3 d1 d2 d3)
  have hS4:=zrj (hS.other G4 Z (by decide) (by decide) (by decide))
  have hB4:=zrj (uqh hB (Nat.le_succ _) (stv s q1 q2 q3 d1 d2 d3))
  clear hS hB G4
  go_wp2_with(first
   | (refine uqa rfl _ _ rfl w.heap.size rfl _ _ X _ underlying26 rfl uqg ?_)
   | (refine uqc rfl _ _ _ rfl (w.heap.size+1) rfl _ _ (stv s q1 q2 q3 d1 d2 d3) Z rfl uqg rfl (ux8 _ _ _ _ _ _ _ _ _ _) ?_))
  refine bodyPost_ret (uq8 rfl _ rfl (Z.setRow (stv s q1 q2 q3 d1 d2 d3)) underlying26 rfl uqg) rfl ?_
  exact⟨q1,q2,q3,d1,d2,d3,rfl,hS4.out,hB4.out⟩)
section
variable {P:Program} {w:World} {g:Nat} {t:TypeId} {a b r vs:List Value}
theorem uvz (hg:w.heap[g]?=some (.cells (a++b++r).toArray t (0,0))) (hl:vs.length=b.length) (h1:∀v∈vs,v.oneCell'=true) (o:Nat) (ho:o=a.length) :
  (storeCells ⟨g,o,none⟩ vs 0).run P w=.ok () (w.setRow g (a++vs++r).toArray):=by
 subst ho
 rw[run_storeCells_at P g a.length t vs 0 (a++b++r).toArray w hg (by simp;omega) h1]
 congr 3
 simp only[Nat.add_zero,hl,zrh]
 have e1:(a++(b++r)).take a.length=a:=List.take_left
 have e2:(a++(b++r)).drop (a.length+b.length)=r:=by rw[<- zrh,List.drop_left' (by simp)]
 rw[e1,e2]
theorem uzd (size:Nat) (dT sT ty elem:TypeId) (o dLen dCap:Nat) (ad:Addr) (sLen sCap:Nat) (hu:P.underlying dT=some (.slice elem)) (hs:(P.info? elem).map (·.size)=some size)
  (hg:w.heap[g]?=some (.cells (a++b++r).toArray t (0,0))) (ho:o=a.length) (hn:vs.length=Nat.min sLen dLen*size) (hl:vs.length=b.length)
  (hsrc:∀j v,vs[j]?=some v->w.cell? (ad.add j)=some v) (h1:∀v∈vs,v.oneCell'=true) :
  (Builtin.copy_ #[dT,sT] ty #[.slice (some ⟨g,o,none⟩) dLen dCap,.slice (some ad) sLen sCap]).run P w=.ok (goInt (Nat.min sLen dLen)) (w.setRow g (a++vs++r).toArray):=by
 have hld:=run_loadCells_list (P:=P) w ad vs hsrc
 have hst:=uvz (P:=P) hg hl h1 o ho
 cases hq:P.info? elem with
 | none=>simp[hq] at hs
 | some i =>
  have hi:i.size=size:=by simpa[hq] using hs
  simp[Builtin.copy_,run_underlying hu,Builtin.lenOf,Builtin.firstCells,sizeOf,typeInfo,hq,hi,<- hn,hld,hst]
theorem uwx (ty T elem:TypeId) (i:TypeInfo) (size:Nat) (ht:P.underlying T=some (.slice elem)) (hi:P.info? elem=some i) (hz:i.size=size) (sLen sCap:Nat) (ad:Addr) (m c:Nat)
  (hg:w.heap[g]?=some (.cells (a++b++r).toArray t (0,0))) (hla:a.length=sLen*size) (hl:vs.length=b.length) (hm:vs.length=m*size) (hroom:sLen+m<=sCap)
  (hsrc:∀j v,vs[j]?=some v->w.cell? (ad.add j)=some v) (h1:∀v∈vs,v.oneCell'=true) :
  (Builtin.append_ #[T,T] ty #[.slice (some ⟨g,0,none⟩) sLen sCap,.slice (some ad) m c]).run P w=.ok (.slice (some ⟨g,0,none⟩) (sLen+m) sCap) (w.setRow g (a++vs++r).toArray):=by
 subst hz
 have hfc:=run_firstCells_some (P:=P) w i.size m ad m c vs hm hsrc
 have hst:=uvz (P:=P) hg hl h1 (sLen*i.size) hla.symm
 simp[Builtin.append_,run_underlying ht,sizeOf,typeInfo,hi,Builtin.lenOf,hroom,hfc,Addr.add_lit,hst]
theorem uvy (ty T elem:TypeId) (z:Value) (ht:P.underlying T=some (.slice elem)) (hzv:∀W,(zeroValue elem).run P W=.ok z W) (n c o:Nat) (hn:n≠0)
  (hg:w.heap[g]?=some (.cells (a++b++r).toArray t (0,0))) (ho:o=a.length) (hv:(Builtin.zeroCells z.cells n).toList=vs) (hl:vs.length=b.length) (h1:∀v∈vs,v.oneCell'=true) :
  (Builtin.clear_ #[T] ty #[.slice (some ⟨g,o,none⟩) n c]).run P w=.ok (.tuple #[]) (w.setRow g (a++vs++r).toArray):=by
 have hst:=uvz (P:=P) hg hl h1 o ho
 obtain⟨n,rfl⟩:∃k,n=k+1:=⟨n-1,by omega⟩
 simp[Builtin.clear_,run_underlying ht,hzv,hv,hst]
end
theorem OwnR.at_ {w:World} {base size c:Nat} {E:TypeId} {p:Zoa} {rows:List (List Value)} (h:OwnR w base E size p c rows) (hn:rows≠[]) :
  ∃g rest,p=some ⟨g,0,none⟩/\base<=g/\w.heap[g]?=some (.cells (rows.flatten++rest).toArray E (0,0))/\(rows.flatten++rest).length=c*size/\rows.length<=c/\c<=maxLen:=by
 obtain⟨hr,_,h2⟩:=h
 rcases h2 with⟨_,h0⟩ | ⟨g,cap,cur,hv,hb,hg,h3,h4,h5,h6⟩
 ·exact absurd (List.eq_nil_of_length_eq_zero h0) hn
 ·injection hv with hp hc hd
  refine⟨g,cur.toList.drop (rows.length*size),hp,hb,?_,?_,by omega,by omega⟩
  ·rw[<- h6,List.take_append_drop,Array.toArray_toList];exact hg
  ·rw[<- h6,List.take_append_drop,Array.length_toList,h5,hd]
theorem OwnR.of_ {w:World} {base size c g:Nat} {E:TypeId} {rows:List (List Value)} {rest:List Value} (hr:∀r∈rows,r.length=size) (hb:base<=g) (hg:w.heap[g]?=some (.cells (rows.flatten++rest).toArray E (0,0))) (hl:(rows.flatten++rest).length=c*size) (hn:rows.length<=c) (hc:c<=maxLen) :
  OwnR w base E size (some ⟨g,0,none⟩) c rows :=
 ⟨hr,uxf hr,.inr ⟨g,c,_,rfl,hb,hg,hn,hc,by simpa using hl,by rw[<- uxf hr];simp⟩⟩
theorem uxt {w:World} {g:Nat} {t:TypeId} {cs cs':Array Value} (h:w.heap[g]?=some (.cells cs t (0,0))):(w.setRow g cs').heap[g]?=some (.cells cs' t (0,0)):=setRow_heap w g cs cs' t (0,0) h
theorem uz5 {w:World} {g:Nat} {t:TypeId} {a b r:List Value} (hg:w.heap[g]?=some (.cells (a++b++r).toArray t (0,0))) (o:Nat) (ho:o=a.length):∀j v,b[j]?=some v->w.cell? ((⟨g,o,none⟩:Addr).add j)=some v:=by
 intro j v hv
 subst ho
 have hb:Blk w g t (a++b++r).toArray:=hg
 rw[Addr.add_lit,hb.cell]
 have hj:=(List.getElem?_eq_some_iff.1 hv).1
 simp only[List.getElem?_toArray,zrh]
 rw[List.getElem?_append_right (by omega),Nat.add_sub_cancel_left,List.getElem?_append_left (by omega)]
 exact hv
section
variable {P:Program} {w:World} {ops:Array Oper} {rest:List Oper} {o:Oper} {a:Act} {K:Act->World->Prop} {Q:Exit->Act->World->Prop} {E:Prop}
theorem uwl (hg:Region.wanted o (yielded ops a.tmps)=true) (d x:Operand) (dT sT:TypeId) (hop:o.op=Op.call { callee:=Callee.builtin Builtin.append,args:=#[d,x],argTypes:=#[dT,sT] })
  (v u:Value) (hd:a.eval d=v) (hx:a.eval x=u) {v':Value} {w':World} (hr:(Builtin.append_ #[dT,sT] o.type #[v,u]).run P w=.ok v' w') (hK:K (a.put o.dst v') w') :
  if Region.wanted o (yielded ops a.tmps)=true then Oper.wp P o a w K Q else E:=by
 rw[if_pos hg]
 unfold Oper.wp
 simp[execOp,hop,resolve,invoke,builtin,hd,hx,hr,Result.andThen]
 exact hK
theorem ujq (hg:Region.wanted o (yielded ops a.tmps)=true) (d x:Operand) (dT sT:TypeId) (hop:o.op=Op.call { callee:=Callee.builtin Builtin.copy,args:=#[d,x],argTypes:=#[dT,sT] })
  (v u:Value) (hd:a.eval d=v) (hx:a.eval x=u) {v':Value} {w':World} (hr:(Builtin.copy_ #[dT,sT] o.type #[v,u]).run P w=.ok v' w') (hK:K (a.put o.dst v') w') :
  if Region.wanted o (yielded ops a.tmps)=true then Oper.wp P o a w K Q else E:=by
 rw[if_pos hg]
 unfold Oper.wp
 simp[execOp,hop,resolve,invoke,builtin,hd,hx,hr,Result.andThen]
 exact hK
end
theorem ujp {α:Type} (l:List α) (n:Nat) (h:n<=l.length):∃u v,l=u++v/\u.length=n:=⟨l.take n,l.drop n,(List.take_append_drop n l).symm,by rw[List.length_take];omega⟩
section
variable {P:Program} {w:World} {ops:Array Oper} {rest:List Oper} {op:Oper} {a:Act} {Q:Exit->Act->World->Prop} {g:Nat} {t:TypeId} {A B R vs:List Value}
theorem vks (ty:TypeId) (o:Nat) (hg:w.heap[g]?=some (.cells (A++B++R).toArray t (0,0))) (ho:o=A.length) (hl:vs.length=B.length) (hi:(P.info? ty).map (·.size)=some vs.length) (h1:∀v∈vs,v.oneCell'=true) :
  (storeVar ty ⟨g,o,none⟩ (.agg vs.toArray)).run P w=.ok () (w.setRow g (A++vs++R).toArray):=by
 have:=uvz (P:=P) hg hl h1 o ho
 cases hq:P.info? ty with
 | none=>simp[hq] at hi
 | some i =>
  have hs:vs.length=i.size:=by simp[hq] at hi;omega
  simp[storeVar,sizeOf,typeInfo,hq,Value.cells,hs,this]
theorem uzf (hgd:op.guard=none) (ty:TypeId) (x y:Operand) (ho:op.op=.store ty x y) (o:Nat) (hx:a.eval x=.pointer (some ⟨g,o,none⟩)) (hy:a.eval y=.agg vs.toArray)
  (hg:w.heap[g]?=some (.cells (A++B++R).toArray t (0,0))) (hoo:o=A.length) (hl:vs.length=B.length) (hi:(P.info? ty).map (·.size)=some vs.length) (h1:∀v∈vs,v.oneCell'=true)
  (CS:Array Value) (hCS:(A++vs++R).toArray=CS) (h:wpList P ops Q rest (a.put op.dst undef) (w.setRow g CS)):wpList P ops Q (op::rest) a w :=
 wpList_plain hgd fun _ hK=>by
  subst hCS
  unfold Oper.wp execOp
  simp only[ho,hx,hy,Instr.storeAt,Instr.sureAddr,Sem.run_bind,Sem.run_pure,Result.andThen_ok,vks ty o hg hoo hl hi h1]
  exact hK _ _ h
end
theorem uk5 {w W W':World} {row:Option Nat} (hb:Below w.heap.size w W) (hg:W.grownBy W' row):w.grownBy W' row :=
 ⟨hg.os.trans hb.os,hg.tape.trans hb.tape,hg.output.trans hb.output,zrc hb.size hg.size,fun k hk hne=>(hg.block k (Nat.lt_of_lt_of_le hk hb.size) hne).trans (hb.block k hk)⟩
theorem uzo {w W:World} (row:Option Nat) (hb:Below w.heap.size w W):w.grownBy W row:=⟨hb.os,hb.tape,hb.output,hb.size,fun k hk _=>hb.block k hk⟩
theorem OwnR.lt_ {w:World} {base c size g:Nat} {E:TypeId} {p:Zoa} {rows:List (List Value)} (h:OwnR w base E size p c rows) (hg:(Value.slice p rows.length c).ownBlock=some g):base<=g/\g<w.heap.size:=World.ownsRow.lt h.2 g hg
theorem Own.toR {w:World} {base size c:Nat} {E:TypeId} {p:Zoa} {rows:List (List Value)} (h:Own w base E size p c rows):(rows=[]/\c=0)\/OwnR w base E size p c rows:=by
 obtain⟨hr,h | ⟨g,cur,rfl,hb,hg,hn,hm,hs,ht⟩⟩:=h
 ·exact .inl h
 ·by_cases hc:c=0
  ·exact .inl ⟨List.eq_nil_of_length_eq_zero (by omega),hc⟩
  ·exact .inr ⟨hr,uxf hr,.inr ⟨g,c,cur,rfl,hb,hg,hn,hm,hs,ht⟩⟩
theorem Own.toR0 {w:World} {base size c:Nat} {E:TypeId} {p:Zoa} {rows:List (List Value)} (h:Own w base E size p c rows):(rows=[]/\c=0)\/(OwnR w base E size p c rows/\c≠0):=by
 by_cases hc:c=0
 ·rcases h.2 with h1 | ⟨g,cur,_,_,_,hn,_⟩
  ·exact .inl h1
  ·exact .inl ⟨List.eq_nil_of_length_eq_zero (by omega),hc⟩
 ·rcases h.toR with h1 | h1
  ·exact absurd h1.2 hc
  ·exact .inr ⟨h1,hc⟩
theorem OwnR.far {w w':World} {base size c:Nat} {E:TypeId} {p:Zoa} {rows:List (List Value)} (h:OwnR w base E size p c rows) (hc:c≠0) (hg:w.grownBy w' (Value.slice p rows.length c).ownBlock) {k:Nat} {t:TypeId} {cs:Array Value} (hb:Blk w k t cs) (hf:c≠0->∀a,p=some a->a.block≠k):Blk w' k t cs:=by
 refine(hg.block k hb.lt fun e=>?_).trans hb
 rcases h.2.2 with⟨h0,_⟩ | ⟨g',cap,cur,h0,_⟩
 ·rw[h0] at e;simp[Value.ownBlock] at e
 ·rw[h0] at e
  have e':g'=k:=by simpa[Value.ownBlock] using e.symm
  injection h0 with h1 _ _
  exact hf hc _ h1 e'
def Tch (base:Nat) (T:TypeId) (w w':World):Prop:=∃row:Option Nat,w.grownBy w' row/\∀g,row=some g->base<=g/\∃cur,Blk w g T cur
section
variable {w w' W:World} {base:Nat} {T:TypeId}
theorem Tch.new (h:Below w.heap.size w w'):Tch base T w w':=⟨none,⟨h.os,h.tape,h.output,h.size,fun k hk _=>h.block k hk⟩,fun g e=>by cases e⟩
theorem Tch.of_own {size c:Nat} {p:Zoa} {rows:List (List Value)} (hO:OwnR w base T size p c rows) (hg:w.grownBy w' (Value.slice p rows.length c).ownBlock):Tch base T w w':=by
 refine⟨_,hg,fun g e=>?_⟩
 rcases hO.2.2 with⟨h0,_⟩ | ⟨g',cap,cur,h0,hb,hc,_⟩
 ·rw[h0] at e;simp[Value.ownBlock] at e
 ·rw[h0] at e
  have:g'=g:=by simpa[Value.ownBlock] using e
  subst this
  exact⟨hb,cur,hc⟩
theorem Tch.after (hb:Below w.heap.size w W) (h:Tch base T W w'):Tch base T w w':=by
 obtain⟨row,hg,hr⟩:=h
 have hg2:w.grownBy w' row:=uk5 hb hg
 by_cases hx:∃g,row=some g/\g<w.heap.size
 ·obtain⟨g,rfl,hgl⟩:=hx
  obtain⟨h1,cur,h2⟩:=hr g rfl
  exact⟨some g,hg2,fun g' e=>by cases e;exact⟨h1,cur,(hb.block g hgl).symm.trans h2⟩⟩
 ·exact⟨none,⟨hg2.os,hg2.tape,hg2.output,hg2.size,fun k hk _=>hg2.block k hk (fun e=>hx ⟨k,e.symm,hk⟩)⟩,fun g e=>by cases e⟩
theorem Tch.low (h:Tch base T w w') {w0:World} (hc:Below base w0 w) (hb:base<=w.heap.size):Below base w0 w':=by
 obtain⟨row,hg,hr⟩:=h
 exact hc.grown hg hb (fun k e=>(hr k e).1)
theorem Tch.blk {k:Nat} {t:TypeId} {cs:Array Value} (h:Tch base T w w') (b:Blk w k t cs) (hne:t≠T):Blk w' k t cs:=by
 obtain⟨row,hg,hr⟩:=h
 refine(hg.block k b.lt fun e=>?_).trans b
 obtain⟨_,cur,h2⟩:=hr k e.symm
 have:Obj.cells cs t (0,0)=Obj.cells cur T (0,0):=by
  have h3:w.heap[k]?=some _:=b
  have h4:w.heap[k]?=some _:=h2
  rw[h3] at h4;injection h4
 injection this with _ h5
 exact hne h5
theorem Tch.own {b2 size c:Nat} {E:TypeId} {p:Zoa} {rows:List (List Value)} (h:Tch base T w w') (ho:Own w b2 E size p c rows) (hne:E≠T):Own w' b2 E size p c rows:=by
 refine⟨ho.1,?_⟩
 rcases ho.2 with h0 | ⟨g,cur,hp,hb,hg,rest⟩
 ·exact .inl h0
 ·exact .inr ⟨g,cur,hp,hb,h.blk hg hne,rest⟩
end
structure WorkM (w:World) (base gn gw:Nat) (q1 q2 q3:Zoa) (d1 d2 d3:Nat) (s:St) (now:Int):Prop where
 bw:Blk w gw 174 #[zse gn,.int .i64 now]
 bn:Blk w gn 26 (stv s q1 q2 q3 d1 d2 d3)
 own:StOwn w base q1 q2 q3 d1 d2 d3 s
 hn:base<=gn
 hw:base<=gw
def Kp (w w':World):Prop:=∀k t cs,Blk w k t cs->t≠38 -> t≠40 -> t≠42 -> t≠26 -> t≠174 -> Blk w' k t cs
theorem Kp.refl (w:World):Kp w w:=fun _ _ _ h _ _ _ _ _=>h
theorem Kp.trans {a b c:World} (h1:Kp a b) (h2:Kp b c):Kp a c:=fun k t cs h a1 a2 a3 a4 a5=>h2 k t cs (h1 k t cs h a1 a2 a3 a4 a5) a1 a2 a3 a4 a5
theorem Kp.below {w w':World} (hb:Below w.heap.size w w'):Kp w w':=fun _ _ _ h _ _ _ _ _=>h.bl hb
theorem Kp.tchJ {base:Nat} {w w':World} (h:Tch base 38 w w'):Kp w w':=fun _ _ _ b a1 _ _ _ _=>h.blk b a1
theorem Kp.tchN {base:Nat} {w w':World} (h:Tch base 40 w w'):Kp w w':=fun _ _ _ b _ a2 _ _ _=>h.blk b a2
theorem Kp.tchL {base:Nat} {w w':World} (h:Tch base 42 w w'):Kp w w':=fun _ _ _ b _ _ a3 _ _=>h.blk b a3
theorem Kp.cell {w:World} {g:Nat} {T:TypeId} {cs:Array Value} (hb:Blk w g T cs) (hT:T=38 \/ T=40 \/ T=42 \/ T=26 \/ T=174) (o:Nat) (v:Value):Kp w (w.setCell ⟨g,o,none⟩ v):=fun k t cs' b a1 a2 a3 a4 a5=>by
 refine b.far (p:=⟨g,o,none⟩) (fun e=>?_) v
 have e':k=g:=e
 subst e'
 have h3:w.heap[k]?=some _:=b
 have h4:w.heap[k]?=some _:=hb
 rw[h3] at h4
 injection h4 with h5
 injection h5 with _ h6
 rcases hT with rfl | rfl | rfl | rfl | rfl
 ·exact a1 h6
 ·exact a2 h6
 ·exact a3 h6
 ·exact a4 h6
 ·exact a5 h6
section
variable {w w':World} {base gn gw:Nat} {q1 q2 q3:Zoa} {d1 d2 d3:Nat} {s:St} {now:Int}
theorem WorkM.below (h:WorkM w base gn gw q1 q2 q3 d1 d2 d3 s now) (hb:Below w.heap.size w w'):WorkM w' base gn gw q1 q2 q3 d1 d2 d3 s now:=⟨h.bw.below hb h.bw.lt,h.bn.below hb h.bn.lt,h.own.below hb,h.hn,h.hw⟩
theorem WorkM.ne (h:WorkM w base gn gw q1 q2 q3 d1 d2 d3 s now):gw≠gn:=h.bw.ne_ h.bn (by decide)
theorem WorkM.setL (h:WorkM w base gn gw q1 q2 q3 d1 d2 d3 s now) {w1:World} {l:List uqb} {q:Zoa} {d:Nat} (hT:Tch base 42 w w1) (hO:Own w1 base 42 3 q d (l.map rowL)) :
  WorkM (w1.setCell ⟨gn,3,none⟩ (.slice q l.length d)) base gn gw q1 q2 q d1 d2 d { s with leases:=l } now:=by
 have bn1:=hT.blk h.bn (by decide)
 have bw1:=hT.blk h.bw (by decide)
 have oj:=hT.own h.own.j (by decide)
 have on:=hT.own h.own.n (by decide)
 have G:=ux4 w1 gn 3 (.slice q l.length d)
 exact⟨bw1.far (p:=⟨gn,3,none⟩) h.ne _,bn1.set_ 3 _,⟨oj.other G bn1 (by decide),on.other G bn1 (by decide),hO.other G bn1 (by decide)⟩,h.hn,h.hw⟩
theorem WorkM.setJ (h:WorkM w base gn gw q1 q2 q3 d1 d2 d3 s now) {w1:World} {l:List JobD} {q:Zoa} {d:Nat} (hT:Tch base 38 w w1) (hO:Own w1 base 38 5 q d (l.map rowJ)) :
  WorkM (w1.setCell ⟨gn,1,none⟩ (.slice q l.length d)) base gn gw q q2 q3 d d2 d3 { s with jobs:=l } now:=by
 have bn1:=hT.blk h.bn (by decide)
 have bw1:=hT.blk h.bw (by decide)
 have on:=hT.own h.own.n (by decide)
 have ol:=hT.own h.own.l (by decide)
 have G:=ux4 w1 gn 1 (.slice q l.length d)
 exact⟨bw1.far (p:=⟨gn,1,none⟩) h.ne _,bn1.set_ 1 _,⟨hO.other G bn1 (by decide),on.other G bn1 (by decide),ol.other G bn1 (by decide)⟩,h.hn,h.hw⟩
theorem WorkM.setN (h:WorkM w base gn gw q1 q2 q3 d1 d2 d3 s now) {w1:World} {l:List NodeD} {q:Zoa} {d:Nat} (hT:Tch base 40 w w1) (hO:Own w1 base 40 3 q d (l.map rowN)) :
  WorkM (w1.setCell ⟨gn,2,none⟩ (.slice q l.length d)) base gn gw q1 q q3 d1 d d3 { s with nodes:=l } now:=by
 have bn1:=hT.blk h.bn (by decide)
 have bw1:=hT.blk h.bw (by decide)
 have oj:=hT.own h.own.j (by decide)
 have ol:=hT.own h.own.l (by decide)
 have G:=ux4 w1 gn 2 (.slice q l.length d)
 exact⟨bw1.far (p:=⟨gn,2,none⟩) h.ne _,bn1.set_ 2 _,⟨oj.other G bn1 (by decide),hO.other G bn1 (by decide),ol.other G bn1 (by decide)⟩,h.hn,h.hw⟩
end
section
variable {P:Program}
theorem uxk {ops:Array Oper} {rest:List Oper} {op:Oper} {act:Act} {w:World} {Q:Exit->Act->World->Prop} (hw:Region.wanted op (yielded ops act.tmps)=true) (ty:TypeId) (x:Operand) (ho:op.op=.load ty x)
  (a:Addr) (hx:act.eval x=.pointer (some a)) (cs:List Value) (d:TypeDesc) (hc:At w a cs)
  (hu:P.underlying ty=some d) (hd:d.isRow=true) (hi:(P.info? ty).map (·.size)=some cs.length)
  (h:wpList P ops Q rest (act.put op.dst (.agg cs.toArray)) w):wpList P ops Q (op::rest) act w :=
 wpList_step fun K hK=>by
  rw[if_pos hw]
  unfold Oper.wp execOp
  simp only[ho,hx,Instr.loadAt,Instr.sureAddr,Sem.run_bind,Sem.run_pure,Result.andThen_ok,ujw w a ty cs d hc hu hd hi]
  exact hK _ _ h
end
structure CmpTo {α:Type} (P:Program) (w:World) (K:FuncId) (caps:Array Value) (row:α->List Value) (tv:Value) (cf:α->Int) (l:List α):Prop where
 enter:∀(args:Array Value) (W:World),(callFunc K args).run P W=.ok (.enter K args) W
 calls:∀x∈l,∀W,Below w.heap.size w W->Calls P K (#[.agg (row x).toArray,tv]++caps) W fun e W'=>e=.returned (.int .i64 (cf x))/\Below W.heap.size W W'
theorem wzf (a b:Zba):cmpB a b=0↔a=b:=by
 unfold cmpB
 cases h:ltS a b
 ·cases h2:ltS b a
  ·simp
   rcases ujc a b with h3 | h3 | h3
   ·rw[h] at h3;cases h3
   ·exact h3
   ·rw[h2] at h3;cases h3
  ·simp
   rintro rfl
   rw[uxr] at h2;cases h2
 ·simp
  rintro rfl
  rw[uxr] at h;cases h
theorem uwr (a b:Zba):cmpB a b<0↔ltS a b=true:=by
 rw[<- wqo,decide_eq_true_iff]
def FoundAt {α:Type} (cf:α->Int) (l:List α) (k:Nat) (is:Bool):Prop :=
 k<=l.length/\(∀t x,t<k->l[t]?=some x->cf x<0)/\(∀x,l[k]?=some x->¬cf x<0)/\(is=true↔∃x,l[k]?=some x/\cf x=0)
theorem FoundAt.place {α:Type} {key:α->Zba} {l:List α} {s:Zba} {k:Nat} {is:Bool} (hs:uqy key l) (h:FoundAt (fun x=>cmpB (key x) s) l k is):posL key l s=k/\hasL key l s=is:=by
 obtain⟨h1,h2,h3,h4⟩:=h
 have hp:posL key l s=k:=xv8 h1 (fun t x ht hx=>(uwr _ _).1 (h2 t x ht hx)) (fun x hx=>by
  cases hc:ltS (key x) s
  ·rfl
  ·exact absurd ((uwr _ _).2 hc) (h3 x hx))
 refine⟨hp,?_⟩
 cases is
 ·cases hh:hasL key l s
  ·rfl
  ·obtain⟨x,hx,he⟩:=vqa hs hh
   rw[hp] at hx
   have:=h4.2 ⟨x,hx,(wzf _ _).2 he⟩
   cases this
 ·obtain⟨x,hx,he⟩:=h4.1 rfl
  exact at_has (by rw[hp];exact hx) ((wzf _ _).1 he)
theorem sz_putJ {s:St} (F:Fine s) {j:JobD} (hj:jobE j=0):StSz { s with jobs:=putL JobD.name s.jobs j } where
 j:=fun x hx=>by
  rcases(uzj F.sj j x).1 hx with rfl | h
  ·have h1:=(uwu.1 hj).1;exact⟨zrc (uxb h1.1) (by decide),zrc (uz8 h1.2) (by decide)⟩
  ·exact F.sz.j x h.1
 n:=F.sz.n
 nr:=F.sz.nr
 lj:=zrc (wxi _ _) (by have:=F.nj;omega)
 ln:=F.sz.ln
 ll:=F.sz.ll
theorem sz_putN {s:St} (F:Fine s) {n:NodeD} (hn:nodeE n=0):StSz { s with nodes:=putL NodeD.name s.nodes n } where
 j:=F.sz.j
 n:=fun x hx=>by
  rcases(uzj F.sn n x).1 hx with rfl | h
  ·have h1:=(uki.1 hn).1;exact⟨zrc (uxb h1.1) (by decide),zrc (uz8 h1.2) (by decide)⟩
  ·exact F.sz.n x h.1
 nr:=fun x hx=>by
  rcases(uzj F.sn n x).1 hx with rfl | h
  ·have h1:=(uki.1 hn).2;omega
  ·exact F.sz.nr x h.1
 lj:=F.sz.lj
 ln:=zrc (wxi _ _) (by have:=F.nn;omega)
 ll:=F.sz.ll
theorem sz_grant {s:St} (F:Fine s) {l:uqb} {k:Nat} {j:JobD} (hk:s.jobs[k]?=some j):StSz { s with jobs:=s.jobs.set k (uwd j),leases:=putL uqb.job s.leases l } where
 j:=fun x hx=>by
  rcases List.mem_or_eq_of_mem_set hx with h | rfl
  ·exact F.sz.j x h
  ·exact F.sz.j j (List.mem_of_getElem? hk)
 n:=F.sz.n
 nr:=F.sz.nr
 lj:=by rw[List.length_set];exact F.sz.lj
 ln:=F.sz.ln
 ll:=zrc (wxi _ _) (by have:=F.nl;omega)
theorem uqd:(prog.info? 44).map (·.size)=some 14:=by kernel_rfl
def vxv (w:World) (base gn gw:Nat) (r:Srv×Nat) (e:Ending) (w':World):Prop :=
 ∃q1 q2 q3 d1 d2 d3,e=.returned (.int .i64 ((r.2:Nat):Int))/\WorkM w' base gn gw q1 q2 q3 d1 d2 d3 r.1.st r.1.now/\Below base w w'/\Kp w w'/\w.heap.size<=w'.heap.size
theorem vxu {base:Nat} {T:TypeId} {w w':World} (h:Tch base T w w'):w.heap.size<=w'.heap.size:=by
 obtain⟨_,hg,_⟩:=h
 exact hg.size
end Go.Proofs.YtknmnhleicakhaaGreatDoor
