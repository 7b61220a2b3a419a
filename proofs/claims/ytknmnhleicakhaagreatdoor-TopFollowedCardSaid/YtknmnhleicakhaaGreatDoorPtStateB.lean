/- Lemmas.
-/
import Derived.Test.YtknmnhleicakhaaGreatDoorPtStateA
set_option linter.all false
set_option maxHeartbeats 16000000
set_option maxRecDepth 100000
namespace Go.Proofs.YtknmnhleicakhaaGreatDoor
open Go.Proofs.Tryz
open Go.RowKit
structure StM (w:World) (B:Nat) (p1 p2 p3:Zoa) (s:St):Prop where
 j:Elts w B 5 p1 (s.jobs.map rowJ)
 n:Elts w B 3 p2 (s.nodes.map rowN)
 l:Elts w B 3 p3 (s.leases.map rowL)
theorem StM.below {w w':World} {B:Nat} {p1 p2 p3:Zoa} {s:St} (h:StM w B p1 p2 p3 s) (hb:Below B w w'):StM w' B p1 p2 p3 s:=⟨h.j.below hb,h.n.below hb,h.l.below hb⟩
theorem StM.more {w:World} {B B':Nat} {p1 p2 p3:Zoa} {s:St} (h:StM w B p1 p2 p3 s) (hb:B<=B'):StM w B' p1 p2 p3 s:=⟨h.j.more hb,h.n.more hb,h.l.more hb⟩
structure StSz (s:St):Prop where
 j:∀x∈s.jobs,x.name.size<=9223372036854775807/\x.tag.size<=9223372036854775807
 n:∀x∈s.nodes,x.name.size<=9223372036854775807/\x.zone.size<=9223372036854775807
 nr:∀x∈s.nodes,-9223372036854775808<=x.room/\x.room<=9223372036854775807
 lj:s.jobs.length<=4611686018427387904
 ln:s.nodes.length<=4611686018427387904
 ll:s.leases.length<=4611686018427387904
section
variable {w:World} {gt bj bn bu:Nat} {jobs:List JobD} {nodes:List NodeD} {u:Zba->Int}
theorem xza (l:List JobD) (x:JobD) (nm:Zba) (h:jobAt l x.name=none):jobAt (l++[x]) nm=if x.name=nm then some x else jobAt l nm:=by
 unfold jobAt at h ⊢
 rw[List.find?_append]
 by_cases hx:x.name=nm
 ·subst hx;rw[h];simp
 ·rw[if_neg hx];simp[hx]
theorem wv8 (l:List NodeD) (x:NodeD) (nm:Zba) (h:uzb l x.name=none):uzb (l++[x]) nm=if x.name=nm then some x else uzb l nm:=by
 unfold uzb at h ⊢
 rw[List.find?_append]
 by_cases hx:x.name=nm
 ·subst hx;rw[h];simp
 ·rw[if_neg hx];simp[hx]
theorem TabIs.putJ (h:TabIs w gt bj bn bu jobs nodes u) (hne:gt≠bj/\bn≠bj/\bu≠bj) (x:JobD) (hx:jobAt jobs x.name=none) :
  ∃w',(Instr.mapUpdate 203 (.map (some bj)) (.string x.name) (valJ x)).run prog w=.ok () w'/\TabIs w' gt bj bn bu (jobs++[x]) nodes u/\w.grownBy w' (some bj):=by
 obtain⟨m,hm,hg⟩:=h.mj
 obtain⟨w',h1,h2,h3,h4⟩:=uwz (P:=prog) hm underlying203 underlying9 x.name (valJ x)
 refine⟨w',h1,⟨?_,⟨_,h2,fun nm=>?_⟩,?_,?_⟩,h3⟩
 ·exact(h3.block gt h.blk.lt (by intro h0;injection h0 with h0;exact hne.1 h0)).trans h.blk
 ·rw[wq5,hg,xza _ _ _ hx]
  by_cases h5:x.name=nm
  ·rw[if_pos h5,if_pos h5];rfl
  ·rw[if_neg h5,if_neg h5]
 ·obtain⟨m,a1,a2⟩:=h.mn
  exact⟨m,a1.grown h3 (by intro h0;injection h0 with h0;exact hne.2.1 h0),a2⟩
 ·obtain⟨m,a1,a2⟩:=h.mu
  exact⟨m,a1.grown h3 (by intro h0;injection h0 with h0;exact hne.2.2 h0),a2⟩
theorem TabIs.putN (h:TabIs w gt bj bn bu jobs nodes u) (hne:gt≠bn/\bj≠bn/\bu≠bn) (x:NodeD) (hx:uzb nodes x.name=none) :
  ∃w',(Instr.mapUpdate 204 (.map (some bn)) (.string x.name) (valN x)).run prog w=.ok () w'/\TabIs w' gt bj bn bu jobs (nodes++[x]) u/\w.grownBy w' (some bn):=by
 obtain⟨m,hm,hg⟩:=h.mn
 obtain⟨w',h1,h2,h3,h4⟩:=uwz (P:=prog) hm underlying204 underlying9 x.name (valN x)
 refine⟨w',h1,⟨?_,?_,⟨_,h2,fun nm=>?_⟩,?_⟩,h3⟩
 ·exact(h3.block gt h.blk.lt (by intro h0;injection h0 with h0;exact hne.1 h0)).trans h.blk
 ·obtain⟨m,a1,a2⟩:=h.mj
  exact⟨m,a1.grown h3 (by intro h0;injection h0 with h0;exact hne.2.1 h0),a2⟩
 ·rw[wq5,hg,wv8 _ _ _ hx]
  by_cases h5:x.name=nm
  ·rw[if_pos h5,if_pos h5];rfl
  ·rw[if_neg h5,if_neg h5]
 ·obtain⟨m,a1,a2⟩:=h.mu
  exact⟨m,a1.grown h3 (by intro h0;injection h0 with h0;exact hne.2.2 h0),a2⟩
end
theorem uyx {B b:Nat} {a w w':World} (h:Below B a w) (hg:w.grownBy w' (some b)) (hb:B<=b) (hB:B<=w.heap.size):Below B a w' :=
 h.grown hg hB (fun k hk=>by injection hk with hk;omega)
theorem MapIs.made (w:World):MapIs (w.alloc (.map #[] 0)) w.heap.size []:=⟨#[],0,heap_alloc_new w _,rfl,by simp⟩
theorem ww0 (w:World):TabIs ((((w.alloc (.map #[] 0)).alloc (.map #[] 0)).alloc (.map #[] 0)).alloc (.cells #[.map (some w.heap.size),.map (some (w.heap.size+1)),.map (some (w.heap.size+1+1))] 207)) (w.heap.size+1+1+1) w.heap.size (w.heap.size+1) (w.heap.size+1+1) [] [] (fun _=>0):=by
 have s1:(w.alloc (.map #[] 0)).heap.size=w.heap.size+1:=by simp
 have s2:((w.alloc (.map #[] 0)).alloc (.map #[] 0)).heap.size=w.heap.size+1+1:=by simp
 have s3:(((w.alloc (.map #[] 0)).alloc (.map #[] 0)).alloc (.map #[] 0)).heap.size=w.heap.size+1+1+1:=by simp
 have hal:∀(a:World) (o:Obj),Below a.heap.size a (a.alloc o):=fun a o=>(zri _ _).alloc (zra _) _
 have m1:=(((MapIs.made w).below (hal _ (.map #[] 0))).below (hal _ (.map #[] 0))).below (hal _ (.cells #[.map (some w.heap.size),.map (some (w.heap.size+1)),.map (some (w.heap.size+1+1))] 207))
 have m2:=((MapIs.made (w.alloc (.map #[] 0))).below (hal _ (.map #[] 0))).below (hal _ (.cells #[.map (some w.heap.size),.map (some (w.heap.size+1)),.map (some (w.heap.size+1+1))] 207))
 have m3:=(MapIs.made ((w.alloc (.map #[] 0)).alloc (.map #[] 0))).below (hal _ (.cells #[.map (some w.heap.size),.map (some (w.heap.size+1)),.map (some (w.heap.size+1+1))] 207))
 have b4:=Blk.new (((w.alloc (.map #[] 0)).alloc (.map #[] 0)).alloc (.map #[] 0)) 207 #[.map (some w.heap.size),.map (some (w.heap.size+1)),.map (some (w.heap.size+1+1))]
 rw[s1] at m2
 rw[s2] at m3
 rw[s3] at b4
 exact⟨b4,⟨[],m1,fun _=>rfl⟩,⟨[],m2,fun _=>rfl⟩,⟨[],m3,fun _=>rfl⟩⟩
def vvc (w:World) (s:St) (e:Ending) (w':World):Prop :=
 Below w.heap.size w w'/\((uqp s≠0/\e=.returned (.tuple #[.pointer none,.int .i64 (uqp s:Int)])) \/
  (uqp s=0/\∃gt bj bn bu,e=.returned (.tuple #[zse gt,.int .i64 0])/\TabIs w' gt bj bn bu s.jobs s.nodes (fun nm=>ux5 s.jobs nm s.leases)))
theorem xxe (s:St) (p1 p2 p3:Zoa) (c1 c2 c3:Nat) (w:World) (hm:StM w w.heap.size p1 p2 p3 s) (hz:StSz s) (hT:Tabs w)
  (q0:uxg s.rev 0 1099511627776=true) (q2:s.jobs.length<=40) (q3:s.leases.length<=40) (q4:s.nodes.length<=20) (q5:rowsE JobD.name jobE none s.jobs=0) (q6:rowsE NodeD.name nodeE none s.nodes=0) :
  Calls prog 62 #[.agg (stv s p1 p2 p3 c1 c2 c3)] w fun e w'=>vvc w s e w':=by
 have hb0:=zsa w (.cells (stv s p1 p2 p3 c1 c2 c3) 26)
 have bx0:=Blk.new w 26 (stv s p1 p2 p3 c1 c2 c3)
 have hwi:=fun w=>ukc s.rev 0 1099511627776 w
 have hmj:=hm.j
 have hmn:=hm.n
 have hml:=hm.l
 obtain⟨hzj,hzn,hzr,hlj,hln,hll⟩:=hz
 have HZJ:=zrj hzj
 have HZN:=zrj hzn
 have HZR:=zrj hzr
 clear hzj hzn hzr hm
 have hRJ:=fun(W:World) (hW:Below w.heap.size w W)=>vwn p1 c1 s.jobs W ((hmj.below hW).more hW.size) HZJ.out hlj (hT.below hW)
 have hRN:=fun(W:World) (hW:Below w.heap.size w W)=>vwo p2 c2 s.nodes W ((hmn.below hW).more hW.size) HZN.out hln (hT.below hW)
 rw[q0] at hwi
 have HW:=zrj hwi
 clear hwi
 rw[q5] at hRJ
 rw[q6] at hRN
 have q1:¬(40<s.jobs.length\/40<s.leases.length\/20<s.nodes.length):=by omega
 have HRJ:=zrj hRJ
 have HRN:=zrj hRN
 obtain⟨aj,sj⟩:=uzs.1 q5
 obtain⟨an,sn⟩:=uzs.1 q6
 have hE:uqp s=if rowsE uqb.job (uzw s.jobs s.nodes) none s.leases≠0 then rowsE uqb.job (uzw s.jobs s.nodes) none s.leases else if vz4 s then 0 else 9:=by
  unfold uqp;rw[if_neg (by rw[q0];simp),if_neg q1,if_neg (by rw[q5];simp),if_neg (by rw[q6];simp)]
 have HE:=zrj hE
 have HAJ:=zrj aj
 have HSJ:=zrj sj
 have HSN:=zrj sn
 clear hE q5 q6 hRJ hRN aj sj an sn q1
 have hmm:=@run_makeMap prog
 have q2b:decide (40<(s.jobs.length:Int))=false:=decide_eq_false (by omega)
 have q3b:decide (40<(s.leases.length:Int))=false:=decide_eq_false (by omega)
 have q4b:decide (20<(s.nodes.length:Int))=false:=decide_eq_false (by omega)
 go_enter func62,ntmps62
 go_wp2_with fail
 refine(HW.out _).mono ?_
 rintro e w1 ⟨rfl,rfl⟩
 go_wp2_with fail
 refine(HRJ.out _ hb0).mono ?_
 rintro e w2 ⟨rfl,hb2⟩
 have hB2:=bthen hb0 hb2
 have bx2:=bx0.bl hb2
 have c2_1:=bx2.c1
 have c2_2:=bx2.c2
 have c2_3:=bx2.c3
 have hb2':=hb2
 clear hb2 bx2
 go_wp2_with fail
 refine(HRN.out _ hB2).mono ?_
 rintro e w3 ⟨rfl,hb3⟩
 have hB3:=bthen hB2 hb3
 have bx3:=(bx0.bl hb2').below hb3 (Nat.lt_of_lt_of_le bx0.lt hb2'.size)
 have c3_1:=bx3.c1
 have c3_2:=bx3.c2
 have c3_3:=bx3.c3
 clear hb3 c2_1 c2_2 c2_3
 have g0:w.heap.size<w3.heap.size:=bx3.lt
 have g1:w.heap.size<w3.heap.size+1:=by omega
 have g2:w.heap.size<w3.heap.size+1+1:=by omega
 have g3:w.heap.size<w3.heap.size+1+1+1:=by omega
 go_wp2_with fail
 have hT4:=ww0 w3
 have hB4:Below w.heap.size w ((((w3.alloc (.map #[] 0)).alloc (.map #[] 0)).alloc (.map #[] 0)).alloc (.cells #[.map (some w3.heap.size),.map (some (w3.heap.size+1)),.map (some (w3.heap.size+1+1))] 207)) :=
  (((hB3.alloc hB3.size _).alloc (zrc hB3.size (by simp)) _).alloc (zrc hB3.size (by simp;omega)) _).alloc (zrc hB3.size (by simp;omega)) _
 have bx4:Blk ((((w3.alloc (.map #[] 0)).alloc (.map #[] 0)).alloc (.map #[] 0)).alloc (.cells #[.map (some w3.heap.size),.map (some (w3.heap.size+1)),.map (some (w3.heap.size+1+1))] 207)) w.heap.size 26 _:=(((bx3.alloc _).alloc _).alloc _).alloc _
 have n1:w3.heap.size+1+1+1≠w3.heap.size/\w3.heap.size+1≠w3.heap.size/\w3.heap.size+1+1≠w3.heap.size:=by omega
 have n2:w3.heap.size+1+1+1≠w3.heap.size+1/\w3.heap.size≠w3.heap.size+1/\w3.heap.size+1+1≠w3.heap.size+1:=by omega
 have n3:w3.heap.size+1+1+1≠w3.heap.size+1+1/\w3.heap.size≠w3.heap.size+1+1/\w3.heap.size+1≠w3.heap.size+1+1:=by omega
 clear bx3 c3_1 c3_2 c3_3 hB2 hB3 hb2'
 generalize((((w3.alloc (.map #[] 0)).alloc (.map #[] 0)).alloc (.map #[] 0)).alloc (.cells #[.map (some w3.heap.size),.map (some (w3.heap.size+1)),.map (some (w3.heap.size+1+1))] 207))=W4 at *
 generalize w3.heap.size+1+1+1=gt at *
 generalize w3.heap.size+1+1=bu at *
 generalize w3.heap.size+1=bn at *
 generalize w3.heap.size=bj at *
 go_loopw [56] (fun i wr=>∃k:Nat,k<=s.jobs.length/\i=.int .i64 k/\Below w.heap.size w wr/\Hid (TabIs wr gt bj bn bu (s.jobs.take k) [] (fun _=>0))/\Blk wr w.heap.size 26 (stv s p1 p2 p3 c1 c2 c3)) (fun i _=>s.jobs.length-(intOf i).toNat)
 case atStart=>exact⟨0,Nat.zero_le _,rfl,hB4,(show TabIs _ gt bj bn bu _ [] _ from hT4),bx4⟩
 case round =>
  obtain⟨k,hk,rfl,hbr,HT,bxr⟩:=hrel
  clear hT4 hB4 bx4
  by_cases hlt:k<s.jobs.length
  ·have hx:s.jobs[k]?=some s.jobs[k]:=zrd hlt
   have hbe:=ukq HSJ.out hx
   have htk:s.jobs.take (k+1)=s.jobs.take k++[s.jobs[k]]:=by rw[List.take_add_one,hx,Option.toList_some]
   generalize s.jobs[k]=x at *
   obtain⟨a,ha,hab,_,hat⟩:=(hmj.below hbr).at_ (k:=k) (r:=rowJ x) (by rw[zrg,hx];rfl)
   subst ha
   have hb5:=hbr.alloc hbr.size (.cells (rwJ x) 38)
   have hb':Below wr.heap.size wr (wr.alloc (.cells (rwJ x) 38)):=(zri _ _).alloc (zra _) _
   have bJ:=Blk.new wr 38 (rwJ x)
   have hTd:=(HT.out.below hb').below (zri _ _).drew
   obtain⟨w5,hup,hT5,hg5⟩:=hTd.putJ n1 x (xx9 hbe)
   unfold valJ at hup
   have d0:(wr.alloc (.cells (rwJ x) 38)).cell? ⟨gt,0,none⟩=some (.map (some bj)):=(HT.out.below hb').blk.cell 0
   have e0:(wr.alloc (.cells (rwJ x) 38)).cell? ⟨wr.heap.size,0,none⟩=some (Value.string x.name):=bJ.cell 0
   have e1:(wr.alloc (.cells (rwJ x) 38)).cell? ⟨wr.heap.size,1,none⟩=some (Value.int .i64 x.prio):=bJ.cell 1
   have e2:(wr.alloc (.cells (rwJ x) 38)).cell? ⟨wr.heap.size,2,none⟩=some (Value.int .i64 x.need):=bJ.cell 2
   have e3:(wr.alloc (.cells (rwJ x) 38)).cell? ⟨wr.heap.size,3,none⟩=some (Value.int .i64 x.tries):=bJ.cell 3
   have e4:(wr.alloc (.cells (rwJ x) 38)).cell? ⟨wr.heap.size,4,none⟩=some (Value.string x.tag):=bJ.cell 4
   have bxd:Blk (wr.alloc (.cells (rwJ x) 38)).drew w.heap.size 26 _:=bxr.alloc _
   rw[<- htk] at hT5
   have HT5:=zrj hT5
   clear hT5 hTd hbe htk hx
   go_wp2_with(refine uqe rfl _ _ rfl (a.add (k*5)) rfl (rlJ x) _ hat underlying38 rfl uqo ?_)
   have hb6:Below w.heap.size w w5:=uyx hb5.drew hg5 (by omega) hb5.drew.size
   have bx5:=bxd.gr hg5 (show w.heap.size≠bj by omega)
   clear hb5 hb' bJ bxd hg5 hat bxr
   generalize(wr.alloc (.cells (rwJ x) 38))=W5 at *
   go_still_tail 7,(by kernel_rfl)
   change wpList _ _ _ _ _ W5.drew
   clear d0 e0 e1 e2 e3 e4
   generalize W5.drew=W6 at *
   go_wp2_with fail
   go_roundw
   case rel=>exact⟨k+1,by omega,by go_num,hb6,HT5.out,bx5⟩
   case measure=>simp[intOf];omega
  ·obtain rfl:k=s.jobs.length:=by omega
   have hT5:=HT.out
   rw[List.take_length] at hT5
   have e2:=bxr.c2
   clear HT
   go_wp2_with fail
   go_loopw [71] (fun i wr=>∃k:Nat,k<=s.nodes.length/\i=.int .i64 k/\Below w.heap.size w wr/\Hid (TabIs wr gt bj bn bu s.jobs (s.nodes.take k) (fun _=>0))/\Blk wr w.heap.size 26 (stv s p1 p2 p3 c1 c2 c3)) (fun i _=>s.nodes.length-(intOf i).toNat)
   case atStart=>exact⟨0,Nat.zero_le _,rfl,hbr,(show TabIs _ gt bj bn bu _ _ _ from hT5),bxr⟩
   case round =>
    clear hT5 hbr bxr e2
    obtain⟨k,hk,rfl,hbr,HT,bxr⟩:=hrel
    by_cases hlt:k<s.nodes.length
    ·have hx:s.nodes[k]?=some s.nodes[k]:=zrd hlt
     have hbe:=ukq HSN.out hx
     have htk:s.nodes.take (k+1)=s.nodes.take k++[s.nodes[k]]:=by rw[List.take_add_one,hx,Option.toList_some]
     generalize s.nodes[k]=x at *
     obtain⟨a,ha,hab,_,hat⟩:=(hmn.below hbr).at_ (k:=k) (r:=rowN x) (by rw[zrg,hx];rfl)
     subst ha
     have hb5:=hbr.alloc hbr.size (.cells (rwN x) 40)
     have hb':Below wr.heap.size wr (wr.alloc (.cells (rwN x) 40)):=(zri _ _).alloc (zra _) _
     have bJ:=Blk.new wr 40 (rwN x)
     have hTd:=(HT.out.below hb').below (zri _ _).drew
     obtain⟨w5,hup,hT5,hg5⟩:=hTd.putN n2 x (wv7 hbe)
     unfold valN at hup
     have d0:(wr.alloc (.cells (rwN x) 40)).cell? ⟨gt,1,none⟩=some (.map (some bn)):=(HT.out.below hb').blk.cell 1
     have e0:(wr.alloc (.cells (rwN x) 40)).cell? ⟨wr.heap.size,0,none⟩=some (Value.string x.name):=bJ.cell 0
     have e1:(wr.alloc (.cells (rwN x) 40)).cell? ⟨wr.heap.size,1,none⟩=some (Value.int .i64 x.room):=bJ.cell 1
     have e2:(wr.alloc (.cells (rwN x) 40)).cell? ⟨wr.heap.size,2,none⟩=some (Value.string x.zone):=bJ.cell 2
     have bxd:Blk (wr.alloc (.cells (rwN x) 40)).drew w.heap.size 26 _:=bxr.alloc _
     rw[<- htk] at hT5
     have HT5:=zrj hT5
     clear hT5 hTd hbe htk hx
     go_wp2_with(refine uqe rfl _ _ rfl (a.add (k*3)) rfl (rlN x) _ hat underlying40 rfl uqk ?_)
     have hb6:Below w.heap.size w w5:=uyx hb5.drew hg5 (by omega) hb5.drew.size
     have bx5:=bxd.gr hg5 (show w.heap.size≠bn by omega)
     clear hb5 hb' bJ bxd hg5 hat bxr
     generalize(wr.alloc (.cells (rwN x) 40))=W5 at *
     go_still_tail 7,(by kernel_rfl)
     change wpList _ _ _ _ _ W5.drew
     clear d0 e0 e1 e2
     generalize W5.drew=W6 at *
     go_wp2_with fail
     go_roundw
     case rel=>exact⟨k+1,by omega,by go_num,hb6,HT5.out,bx5⟩
     case measure=>simp[intOf];omega
    ·obtain rfl:k=s.nodes.length:=by omega
     have hT5:=HT.out
     rw[List.take_length] at hT5
     have e3:=bxr.c3
     have hRL:=xwz p3 c3 s.leases gt bj bn bu w.heap.size s.jobs s.nodes wr hT5 n3 (wju HAJ.out) q3 (hml.below hbr) hbr.size (by omega)
     unfold wx0 at hRL
     clear HT hT5
     by_cases q7:rowsE uqb.job (uzw s.jobs s.nodes) none s.leases=0
     ·rw[q7] at hRL
      have HRL:=zrj hRL
      have hE2:=HE.out
      rw[if_neg (by rw[q7];simp)] at hE2
      have HE2:=zrj hE2
      clear hRL q7 hE2 HE
      go_wp2_with fail
      refine HRL.out.mono ?_
      rintro e w6 ⟨rfl,hg6,ht6⟩
      have hT6:=ht6 trivial
      have hB6:=uyx hbr hg6 (by omega) hbr.size
      have bx6:=bxr.gr hg6 (show w.heap.size≠bu by omega)
      have e2:=bx6.c2
      clear hg6 bxr e3 ht6 HRL hbr
      go_wp2_with fail
      go_loopw [94] (fun i wr=>∃k:Nat,k<=s.nodes.length/\i=.int .i64 k/\Below w6.heap.size w6 wr/\Hid (∀y∈s.nodes.take k,ux5 s.jobs y.name s.leases<=y.room)) (fun i _=>s.nodes.length-(intOf i).toNat)
      case atStart=>exact⟨0,Nat.zero_le _,rfl,zri _ _,(show ∀y∈s.nodes.take 0,_ from fun y hy=>by simp at hy)⟩
      case round =>
       obtain⟨k,hk,rfl,hbr,HA⟩:=hrel
       by_cases hlt:k<s.nodes.length
       ·have hx:s.nodes[k]?=some s.nodes[k]:=zrd hlt
        have hmem:s.nodes[k]∈s.nodes:=List.getElem_mem hlt
        have htk:s.nodes.take (k+1)=s.nodes.take k++[s.nodes[k]]:=by rw[List.take_add_one,hx,Option.toList_some]
        generalize s.nodes[k]=x at *
        obtain⟨a,ha,hab,_,hat⟩:=(hmn.below (bthen hB6 hbr)).at_ (k:=k) (r:=rowN x) (by rw[zrg,hx];rfl)
        subst ha
        have hb5:=hbr.alloc hbr.size (.cells (rwN x) 40)
        have bJ:=Blk.new wr 40 (rwN x)
        have hT7:=hT6.below hb5
        have hlk:=fun n=>(hT6.below (uqn hb5 n)).lookU x.name
        have d0:(wr.alloc (.cells (rwN x) 40)).cell? ⟨gt,2,none⟩=some (.map (some bu)):=hT7.blk.cell 2
        have e0:(wr.alloc (.cells (rwN x) 40)).cell? ⟨wr.heap.size,0,none⟩=some (Value.string x.name):=bJ.cell 0
        have e1:(wr.alloc (.cells (rwN x) 40)).cell? ⟨wr.heap.size,1,none⟩=some (Value.int .i64 x.room):=bJ.cell 1
        have e2:(wr.alloc (.cells (rwN x) 40)).cell? ⟨wr.heap.size,2,none⟩=some (Value.string x.zone):=bJ.cell 2
        have HM:=zrj hmem
        have HTK:=zrj htk
        clear htk hx hT7 hmem
        go_wp2_with(refine uqe rfl _ _ rfl (a.add (k*3)) rfl (rlN x) _ hat underlying40 rfl uqk ?_)
        clear bJ hat
        generalize(wr.alloc (.cells (rwN x) 40))=W5 at *
        by_cases hov:x.room<ux5 s.jobs x.name s.leases
        ·have hr9:vz4 s=false:=by
          cases hro:vz4 s
          ·rfl
          ·unfold vz4 at hro
           have:=of_decide_eq_true (List.all_eq_true.1 hro x HM.out)
           omega
         have HR9:=zrj hr9
         clear hr9
         go_quiet (fail)
         go_wp2_with fail
         go_ret2
         exact⟨hB6.trans ((uqn hb5 _).mono hB6.size),.inl ⟨by rw[HE2.out,HR9.out];decide,by rw[HE2.out,HR9.out];rfl⟩⟩
        ·go_quiet (fail)
         go_wp2_with fail
         have hov2:=hov
         go_roundw
         case rel =>
          refine⟨k+1,by omega,by go_num,uqn hb5 _,?_⟩
          show ∀y∈s.nodes.take (k+1),_
          rw[HTK.out]
          intro y hy
          rcases List.mem_append.1 hy with hy | hy
          ·exact HA.out y hy
          ·simp at hy;subst hy;omega
         case measure=>simp[intOf];omega
       ·obtain rfl:k=s.nodes.length:=by omega
        have hA:=HA.out
        rw[List.take_length] at hA
        have hro:vz4 s=true:=by
         unfold vz4
         rw[List.all_eq_true]
         intro y hy
         exact decide_eq_true (hA y hy)
        have HRO:=zrj hro
        have HT8:=zrj (hT6.below hbr)
        clear hA HA hro hT6
        go_wp2_with fail
        go_ret2
        exact⟨bthen hB6 hbr,.inr ⟨by rw[HE2.out,HRO.out];rfl,gt,bj,bn,bu,rfl,HT8.out⟩⟩
     ·have hne:((rowsE uqb.job (uzw s.jobs s.nodes) none s.leases:Int) != 0)=true:=by rw[bne_iff_ne];omega
      have hE2:=HE.out
      rw[if_pos q7] at hE2
      have HRL:=zrj hRL
      have HE2:=zrj hE2
      have HN7:=zrj q7
      clear hRL q7 hE2 HE
      go_wp2_with fail
      refine HRL.out.mono ?_
      rintro e w6 ⟨rfl,hg6,_⟩
      have hB6:=uyx hbr hg6 (by omega) hbr.size
      go_wp2_with fail
      go_ret2
      exact⟨hB6,.inl ⟨by rw[HE2.out];exact HN7.out,by rw[HE2.out];rfl⟩⟩
theorem xj2 (s:St) (p1 p2 p3:Zoa) (c1 c2 c3:Nat) (w:World) (hm:StM w w.heap.size p1 p2 p3 s) (hz:StSz s) (hT:Tabs w) :
  Calls prog 62 #[.agg (stv s p1 p2 p3 c1 c2 c3)] w fun e w'=>vvc w s e w':=by
 have hb0:=zsa w (.cells (stv s p1 p2 p3 c1 c2 c3) 26)
 have bx0:=Blk.new w 26 (stv s p1 p2 p3 c1 c2 c3)
 have hwi:=fun w=>ukc s.rev 0 1099511627776 w
 have hm0:=hm
 have hz0:=hz
 have hmj:=hm.j
 have hmn:=hm.n
 have hml:=hm.l
 obtain⟨hzj,hzn,hzr,hlj,hln,hll⟩:=hz
 have HZJ:=zrj hzj
 have HZN:=zrj hzn
 have HZR:=zrj hzr
 clear hzj hzn hzr hm
 cases q0:uxg s.rev 0 1099511627776
 ·
  have hE:uqp s=1:=by unfold uqp;rw[if_pos q0]
  rw[q0] at hwi
  have HE:=zrj hE
  have HW:=zrj hwi
  clear hE hwi
  go_enter func62,ntmps62
  go_wp2_with fail
  refine(HW.out _).mono ?_
  rintro e w1 ⟨rfl,rfl⟩
  go_wp2_with fail
  go_ret2
  exact⟨hb0,.inl ⟨by rw[HE.out];decide,by rw[HE.out];rfl⟩⟩
 ·by_cases q1:40<s.jobs.length\/40<s.leases.length\/20<s.nodes.length
  ·
   have hE:uqp s=2:=by unfold uqp;rw[if_neg (by rw[q0];simp),if_pos q1]
   have hl1:(s.jobs.length:Int)<=4611686018427387904:=by omega
   by_cases q2:40<s.jobs.length
   all_goals by_cases q3:40<s.leases.length
   all_goals by_cases q4:20<s.nodes.length
   all_goals first | (exfalso;omega) | skip
   all_goals
    rw[q0] at hwi
    have HE:=zrj hE
    have HW:=zrj hwi
    clear hE hwi
    go_enter func62,ntmps62
    go_wp2_with fail
    refine(HW.out _).mono ?_
    rintro e w1 ⟨rfl,rfl⟩
    go_wp2_with fail
    go_ret2
    exact⟨hb0,.inl ⟨by rw[HE.out];decide,by rw[HE.out];rfl⟩⟩
  ·obtain⟨q2,q3,q4⟩:s.jobs.length<=40/\s.leases.length<=40/\s.nodes.length<=20:=by omega
   have hRJ:=fun(W:World) (hW:Below w.heap.size w W)=>vwn p1 c1 s.jobs W ((hmj.below hW).more hW.size) HZJ.out hlj (hT.below hW)
   have hRN:=fun(W:World) (hW:Below w.heap.size w W)=>vwo p2 c2 s.nodes W ((hmn.below hW).more hW.size) HZN.out hln (hT.below hW)
   rw[q0] at hwi
   have HW:=zrj hwi
   clear hwi
   by_cases q5:rowsE JobD.name jobE none s.jobs=0
   ·rw[q5] at hRJ
    by_cases q6:rowsE NodeD.name nodeE none s.nodes=0
    ·rw[q6] at hRN
     exact xxe s p1 p2 p3 c1 c2 c3 w hm0 hz0 hT q0 q2 q3 q4 q5 q6
    ·have hE:uqp s=rowsE NodeD.name nodeE none s.nodes:=by unfold uqp;rw[if_neg (by rw[q0];simp),if_neg q1,if_neg (by rw[q5];simp),if_pos q6]
     have hne:((rowsE NodeD.name nodeE none s.nodes:Int) != 0)=true:=by rw[bne_iff_ne];omega
     have HRJ:=zrj hRJ
     have HRN:=zrj hRN
     have HE:=zrj hE
     have HN6:=zrj q6
     clear hE q5 q6 hRJ hRN q1
     go_enter func62,ntmps62
     go_wp2_with fail
     refine(HW.out _).mono ?_
     rintro e w1 ⟨rfl,rfl⟩
     go_wp2_with fail
     refine(HRJ.out _ hb0).mono ?_
     rintro e w2 ⟨rfl,hb2⟩
     have hB2:=bthen hb0 hb2
     have bx2:=bx0.bl hb2
     have c2_1:=bx2.c1
     have c2_2:=bx2.c2
     have c2_3:=bx2.c3
     have hb2':=hb2
     clear hb2 bx2
     go_wp2_with fail
     refine(HRN.out _ hB2).mono ?_
     rintro e w3 ⟨rfl,hb3⟩
     have hB3:=bthen hB2 hb3
     have bx3:=(bx0.bl hb2').below hb3 (Nat.lt_of_lt_of_le bx0.lt hb2'.size)
     have c3_1:=bx3.c1
     have c3_2:=bx3.c2
     have c3_3:=bx3.c3
     clear hb3 c2_1 c2_2 c2_3
     go_wp2_with fail
     go_ret2
     exact⟨hB3,.inl ⟨by rw[HE.out];exact HN6.out,by rw[HE.out];rfl⟩⟩
   ·have hE:uqp s=rowsE JobD.name jobE none s.jobs:=by unfold uqp;rw[if_neg (by rw[q0];simp),if_neg q1,if_pos q5]
    have hne:((rowsE JobD.name jobE none s.jobs:Int) != 0)=true:=by rw[bne_iff_ne];omega
    have HRJ:=zrj hRJ
    have HE:=zrj hE
    have HN5:=zrj q5
    clear hE q5 hRJ hRN q1
    go_enter func62,ntmps62
    go_wp2_with fail
    refine(HW.out _).mono ?_
    rintro e w1 ⟨rfl,rfl⟩
    go_wp2_with fail
    refine(HRJ.out _ hb0).mono ?_
    rintro e w2 ⟨rfl,hb2⟩
    have hB2:=bthen hb0 hb2
    have bx2:=bx0.bl hb2
    have c2_1:=bx2.c1
    have c2_2:=bx2.c2
    have c2_3:=bx2.c3
    clear hb2 bx2
    go_wp2_with fail
    go_ret2
    exact⟨hB2,.inl ⟨by rw[HE.out];exact HN5.out,by rw[HE.out];rfl⟩⟩
theorem check_at (s:St) (p1 p2 p3:Zoa) (c1 c2 c3:Nat) (w:World) (hm:StM w w.heap.size p1 p2 p3 s) (hz:StSz s) (hT:Tabs w) (W:World) (hW:Below w.heap.size w W) :
  Calls prog 62 #[.agg (stv s p1 p2 p3 c1 c2 c3)] W fun e w'=>vvc W s e w' :=
 xj2 s p1 p2 p3 c1 c2 c3 W ((hm.below hW).more hW.size) hz (hT.below hW)
theorem uxw (s:St) (p1 p2 p3:Zoa) (c1 c2 c3:Nat) (w:World) (hm:StM w w.heap.size p1 p2 p3 s) (hz:StSz s) (hT:Tabs w) :
  Calls prog 35 #[.agg (stv s p1 p2 p3 c1 c2 c3)] w fun e w'=>e=.returned (.int .i64 (uqp s:Int))/\Below w.heap.size w w':=by
 have hc:=zrj (check_at s p1 p2 p3 c1 c2 c3 w hm hz hT)
 have hb0:=zsa w (.cells (stv s p1 p2 p3 c1 c2 c3) 26)
 clear hm hz hT
 go_enter func35,ntmps35
 go_wp2_with fail
 refine(hc.out _ hb0).mono ?_
 rintro e w1 ⟨hb',h⟩
 have hb:=bthen hb0 hb'
 rcases h with⟨hne,rfl⟩ | ⟨h0,gt,bj,bn,bu,rfl,hT⟩
 ·have HN:=zrj hne
  clear hne
  go_wp2_with fail
  go_ret
  exact⟨rfl,hb⟩
 ·have H0:=zrj h0
  have HT:=zrj hT
  clear h0 hT
  go_wp2_with fail
  go_ret
  exact⟨by rw[H0.out];rfl,hb⟩
def uxa:St:=⟨4,[⟨⟨#[97]⟩,0,3,0,ByteArray.empty⟩,⟨⟨#[98]⟩,0,2,0,⟨#[120]⟩⟩],[⟨⟨#[110]⟩,4,ByteArray.empty⟩],[⟨⟨#[97]⟩,⟨#[110]⟩,9⟩]⟩
theorem uq3 (W:World):(zeroValue 26).run prog W=.ok (.agg zsv) W:=by kernel_rfl
theorem uqg:(prog.info? 26).map (·.size)=some 4:=by kernel_rfl
def xq5 (w:World) (e:Ending) (w':World):Prop :=
 ∃bj bn bl,e=.returned (.agg #[.int .i64 4,.slice (some ⟨bj,0,none⟩) 2 2,.slice (some ⟨bn,0,none⟩) 1 1,.slice (some ⟨bl,0,none⟩) 1 1]) /\
  Blk w' bj 38 #[.string ⟨#[97]⟩,.int .i64 0,.int .i64 3,.int .i64 0,.string .empty,.string ⟨#[98]⟩,.int .i64 0,.int .i64 2,.int .i64 0,.string ⟨#[120]⟩] /\
  Blk w' bn 40 #[.string ⟨#[110]⟩,.int .i64 4,.string .empty]/\Blk w' bl 42 #[.string ⟨#[97]⟩,.string ⟨#[110]⟩,.int .i64 9]/\Below w.heap.size w w'/\w.heap.size<=bl
def xw2:St:={ uxa with leases:=uxa.leases++[⟨⟨#[98]⟩,⟨#[110]⟩,0⟩] }
open Go.ChangeShapes Go.WideShapes Go.Deep Go.Joins
def datJ {H:Type} (x:JobD):DataW H:=.agg [.lit (.string x.name.data.toList),.lit (.int .i64 x.prio),.lit (.int .i64 x.need),.lit (.int .i64 x.tries),.lit (.string x.tag.data.toList)]
def datN {H:Type} (x:NodeD):DataW H:=.agg [.lit (.string x.name.data.toList),.lit (.int .i64 x.room),.lit (.string x.zone.data.toList)]
def datL {H:Type} (x:uqb):DataW H:=.agg [.lit (.string x.job.data.toList),.lit (.string x.node.data.toList),.lit (.int .i64 x.till)]
def i64B (n:Int):Prop := -9223372036854775808<=n/\n<=9223372036854775807
def okJ (x:JobD):Prop:=(x.name.size<=9223372036854775807/\x.tag.size<=9223372036854775807)/\i64B x.prio/\i64B x.need/\i64B x.tries
def okN (x:NodeD):Prop:=(x.name.size<=9223372036854775807/\x.zone.size<=9223372036854775807)/\i64B x.room
def okL (x:uqb):Prop:=(x.job.size<=9223372036854775807/\x.node.size<=9223372036854775807)/\i64B x.till
section
variable {H:Type} {enc:TypeId×Value->H} {w:World} {base:Nat} {spare:Nat->Bool} {held:Bool}
theorem xko (n:Nat) (cs:List Value) (d:DataW H) (pl:List MemPlace) (hl:cs.length=5)
  (h:DataW.trod enc prog w base spare held n 38 cs=some (d,pl)):∃x:JobD,cs=rowJ x/\d=datJ x/\okJ x:=by
 obtain⟨ys,n',hd,hyl,hf⟩:=uv1 underlying38 (by kernel_rfl) hl h
 obtain⟨v0,y0,h0,g0,t0⟩:=hf 0 _ rfl
 obtain⟨v1,y1,h1,g1,t1⟩:=hf 1 _ rfl
 obtain⟨v2,y2,h2,g2,t2⟩:=hf 2 _ rfl
 obtain⟨v3,y3,h3,g3,t3⟩:=hf 3 _ rfl
 obtain⟨v4,y4,h4,g4,t4⟩:=hf 4 _ rfl
 obtain⟨s0,e0,rfl,w0⟩:=DataW.trod_string underlying9 t0
 obtain⟨a1,e1,rfl,w1⟩:=DataW.trod_int underlying3 t1
 obtain⟨a2,e2,rfl,w2⟩:=DataW.trod_int underlying3 t2
 obtain⟨a3,e3,rfl,w3⟩:=DataW.trod_int underlying3 t3
 obtain⟨s4,e4,rfl,w4⟩:=DataW.trod_string underlying9 t4
 simp at e0 e1 e2 e3 e4;subst e0 e1 e2 e3 e4
 match cs,hl,h0,h1,h2,h3,h4 with
 | [c0,c1,c2,c3,c4],_,h0,h1,h2,h3,h4 =>
  simp at h0 h1 h2 h3 h4;subst h0 h1 h2 h3 h4
  match ys,hyl,g0,g1,g2,g3,g4 with
  | [z0,z1,z2,z3,z4],_,g0,g1,g2,g3,g4 =>
   simp at g0 g1 g2 g3 g4;subst g0 g1 g2 g3 g4
   have b1:=bounds_i64 w1
   have b2:=bounds_i64 w2
   have b3:=bounds_i64 w3
   unfold maxLen at w0 w4
   exact⟨⟨s0,a1,a2,a3,s4⟩,rfl,by rw[hd];rfl,⟨w0,w4⟩,⟨b1.1,b1.2⟩,⟨b2.1,b2.2⟩,b3.1,b3.2⟩
theorem elem_N (n:Nat) (cs:List Value) (d:DataW H) (pl:List MemPlace) (hl:cs.length=3)
  (h:DataW.trod enc prog w base spare held n 40 cs=some (d,pl)):∃x:NodeD,cs=rowN x/\d=datN x/\okN x:=by
 obtain⟨ys,n',hd,hyl,hf⟩:=uv1 underlying40 (by kernel_rfl) hl h
 obtain⟨v0,y0,h0,g0,t0⟩:=hf 0 _ rfl
 obtain⟨v1,y1,h1,g1,t1⟩:=hf 1 _ rfl
 obtain⟨v2,y2,h2,g2,t2⟩:=hf 2 _ rfl
 obtain⟨s0,e0,rfl,w0⟩:=DataW.trod_string underlying9 t0
 obtain⟨a1,e1,rfl,w1⟩:=DataW.trod_int underlying3 t1
 obtain⟨s2,e2,rfl,w2⟩:=DataW.trod_string underlying9 t2
 simp at e0 e1 e2;subst e0 e1 e2
 match cs,hl,h0,h1,h2 with
 | [c0,c1,c2],_,h0,h1,h2 =>
  simp at h0 h1 h2;subst h0 h1 h2
  match ys,hyl,g0,g1,g2 with
  | [z0,z1,z2],_,g0,g1,g2 =>
   simp at g0 g1 g2;subst g0 g1 g2
   have b1:=bounds_i64 w1
   unfold maxLen at w0 w2
   exact⟨⟨s0,a1,s2⟩,rfl,by rw[hd];rfl,⟨w0,w2⟩,b1.1,b1.2⟩
theorem xkp (n:Nat) (cs:List Value) (d:DataW H) (pl:List MemPlace) (hl:cs.length=3)
  (h:DataW.trod enc prog w base spare held n 42 cs=some (d,pl)):∃x:uqb,cs=rowL x/\d=datL x/\okL x:=by
 obtain⟨ys,n',hd,hyl,hf⟩:=uv1 underlying42 (by kernel_rfl) hl h
 obtain⟨v0,y0,h0,g0,t0⟩:=hf 0 _ rfl
 obtain⟨v1,y1,h1,g1,t1⟩:=hf 1 _ rfl
 obtain⟨v2,y2,h2,g2,t2⟩:=hf 2 _ rfl
 obtain⟨s0,e0,rfl,w0⟩:=DataW.trod_string underlying9 t0
 obtain⟨s1,e1,rfl,w1⟩:=DataW.trod_string underlying9 t1
 obtain⟨a2,e2,rfl,w2⟩:=DataW.trod_int underlying3 t2
 simp at e0 e1 e2;subst e0 e1 e2
 match cs,hl,h0,h1,h2 with
 | [c0,c1,c2],_,h0,h1,h2 =>
  simp at h0 h1 h2;subst h0 h1 h2
  match ys,hyl,g0,g1,g2 with
  | [z0,z1,z2],_,g0,g1,g2 =>
   simp at g0 g1 g2;subst g0 g1 g2
   have b2:=bounds_i64 w2
   unfold maxLen at w0 w1
   exact⟨⟨s0,s1,a2⟩,rfl,by rw[hd];rfl,⟨w0,w1⟩,b2.1,b2.2⟩
structure StOk (s:St):Prop where
 rev:i64B s.rev
 j:∀x∈s.jobs,okJ x
 n:∀x∈s.nodes,okN x
 l:∀x∈s.leases,okL x
 lj:s.jobs.length<=4398046511104
 ln:s.nodes.length<=4398046511104
 ll:s.leases.length<=4398046511104
theorem StOk.sz {s:St} (h:StOk s):StSz s :=
 ⟨fun x hx=>(h.j x hx).1,fun x hx=>(h.n x hx).1,fun x hx=>(h.n x hx).2,by have:=h.lj;omega,by have:=h.ln;omega,by have:=h.ll;omega⟩
theorem vwq {t e:TypeId} {α:Type} {datOf:α->DataW H} {l rest:List α} {b:Nat} (ht:prog.underlying t=some (.slice e)) (hb:prog.bytesOf e=b) (h32:32<=b)
  (hw:∀n∈DataW.weights prog t (.slice (l.map datOf) (rest.map datOf)),n<=reachBytes):l.length<=4398046511104:=by
 simp only[DataW.weights,ht,hb] at hw
 have:=hw _ List.mem_cons_self
 have hr:reachBytes=140737488351232:=rfl
 rw[zre,zre,hr] at this
 have:(l.length+rest.length)*32<=(l.length+rest.length)*b:=Nat.mul_le_mul_left _ h32
 omega
theorem wwd {v:Value} {d:DataW H} {ps:List MemPlace} {ts:List TypeId} {ds:List (DataW H)} {j:Nat} {r:Reach} {b0:Nat} (hv:Value.okWide prog w r b0 26 v) (h:DataW.Trod enc prog w base spare held 26 v d ps)
  (hsz:(DataW.weightsEach prog ts ds).all (· <= reachBytes)=true) (htj:ts[j]?=some 26) (hdj:ds[j]?=some d) :
  ∃(s:St) (p1 p2 p3:Zoa) (c1 c2 c3:Nat),v=.agg (stv s p1 p2 p3 c1 c2 c3)/\StM w w.heap.size p1 p2 p3 s/\StOk s/\(s.jobs.length<=c1/\s.nodes.length<=c2/\s.leases.length<=c3)/\c1<=maxLen/\c2<=maxLen/\c3<=maxLen:=by
 obtain⟨v0,v1,v2,v3,y0,y1,y2,y3,n,rfl,rfl,_,t0,t1,t2,t3⟩:=open_agg4 underlying26 (by kernel_rfl) (by kernel_rfl) hv h
 obtain⟨a,e0,rfl,wa⟩:=DataW.trod_int underlying3 t0
 simp at e0;subst e0
 obtain⟨p1,c1,l1,rfl,hc1,hm1,hE1,hk1,hd1⟩:=vxo rowJ datJ okJ 5 underlying22 (by kernel_rfl) (by decide) t1 (fun n cs d pl=>xko n cs d pl)
 obtain⟨p2,c2,l2,rfl,hc2,hm2,hE2,hk2,hd2⟩:=vxo rowN datN okN 3 underlying23 (by kernel_rfl) (by decide) t2 (fun n cs d pl=>elem_N n cs d pl)
 obtain⟨p3,c3,l3,rfl,hc3,hm3,hE3,hk3,hd3⟩:=vxo rowL datL okL 3 underlying24 (by kernel_rfl) (by decide) t3 (fun n cs d pl=>xkp n cs d pl)
 have ba:=bounds_i64 wa
 have hm:∀n∈DataW.weights prog 26 (.agg [.lit (.int .i64 a),y1.1,y2.1,y3.1]:DataW H),n<=reachBytes:=fun n hn =>
  of_decide_eq_true (List.all_eq_true.1 hsz _ (DataW.weights_mem_each (P:=prog) htj hdj n hn))
 simp only[DataW.weights,underlying26,DataW.weightsEach,List.map_cons,List.map_nil,List.nil_append,List.append_nil] at hm
 refine⟨⟨a,l1,l2,l3⟩,p1,p2,p3,c1,c2,c3,rfl,⟨hE1,hE2,hE3⟩,⟨⟨ba.1,ba.2⟩,hk1,hk2,hk3,?_,?_,?_⟩,⟨hc1,hc2,hc3⟩,hm1,hm2,hm3⟩
 ·rcases hd1 with⟨rfl,_⟩ | ⟨rest,hd⟩
  ·exact Nat.zero_le _
  ·exact vwq underlying22 (b:=56) (by kernel_rfl) (by decide) (fun n hn=>hm n (by rw[<- hd] at hn;exact List.mem_append_left _ hn))
 ·rcases hd2 with⟨rfl,_⟩ | ⟨rest,hd⟩
  ·exact Nat.zero_le _
  ·exact vwq underlying23 (b:=40) (by kernel_rfl) (by decide) (fun n hn=>hm n (by rw[<- hd] at hn;exact List.mem_append_right _ (List.mem_append_left _ hn)))
 ·rcases hd3 with⟨rfl,_⟩ | ⟨rest,hd⟩
  ·exact Nat.zero_le _
  ·exact vwq underlying24 (b:=40) (by kernel_rfl) (by decide) (fun n hn=>hm n (by rw[<- hd] at hn;exact List.mem_append_right _ (List.mem_append_right _ hn)))
theorem open_state {v:Value} {d:DataW H} {ps:List MemPlace} {ts:List TypeId} {ds:List (DataW H)} {j:Nat} {r:Reach} {b0:Nat} (hv:Value.okWide prog w r b0 26 v) (h:DataW.Trod enc prog w base spare held 26 v d ps)
  (hsz:(DataW.weightsEach prog ts ds).all (· <= reachBytes)=true) (htj:ts[j]?=some 26) (hdj:ds[j]?=some d) :
  ∃(s:St) (p1 p2 p3:Zoa) (c1 c2 c3:Nat),v=.agg (stv s p1 p2 p3 c1 c2 c3)/\StM w w.heap.size p1 p2 p3 s/\StOk s:=by
 obtain⟨s,p1,p2,p3,c1,c2,c3,hv,hm,hk,_⟩:=wwd hv h hsz htj hdj
 exact⟨s,p1,p2,p3,c1,c2,c3,hv,hm,hk⟩
end
theorem uwu {j:JobD}:jobE j=0↔(uxh j.name=true/\uvi j.tag=true)/\(-1000<=j.prio/\j.prio<=1000)/\(0<=j.need/\j.need<=1000000)/\0<=j.tries/\j.tries<=100:=by
 unfold jobE
 constructor
 ·intro h
  split at h
  ·rename_i h1
   split at h
   ·rename_i h2
    simp only[Bool.and_eq_true,uq2] at h1 h2
    exact⟨h1,h2.1.1,h2.1.2,h2.2⟩
   ·cases h
  ·cases h
 ·intro⟨h1,h2,h3,h4⟩
  rw[if_pos (by simp only[Bool.and_eq_true];exact h1),if_pos (by simp only[Bool.and_eq_true,uq2];exact⟨⟨h2,h3⟩,h4⟩)]
theorem uki {n:NodeD}:nodeE n=0↔(uxh n.name=true/\uvi n.zone=true)/\0<=n.room/\n.room<=1000000:=by
 unfold nodeE
 constructor
 ·intro h
  split at h
  ·rename_i h1
   split at h
   ·rename_i h2
    simp only[Bool.and_eq_true,uq2] at h1 h2
    exact⟨h1,h2⟩
   ·cases h
  ·cases h
 ·intro⟨h1,h2⟩
  rw[if_pos (by simp only[Bool.and_eq_true];exact h1),if_pos (by simp only[uq2];exact h2)]
theorem uz8 {s:Zba} (h:uvi s=true):s.size<=16:=by
 unfold uvi at h
 rw[Bool.and_eq_true] at h
 exact of_decide_eq_true h.1
theorem uxb {s:Zba} (h:uxh s=true):s.size<=16:=by
 unfold uxh at h
 rw[Bool.and_eq_true] at h
 exact uz8 h.2
theorem Fine.sz {s:St} (h:Fine s):StSz s where
 j:=fun x hx=>by
  obtain⟨⟨h1,h2⟩,_⟩:=uwu.1 (h.j x hx)
  have:=uxb h1
  have:=uz8 h2
  omega
 n:=fun x hx=>by
  obtain⟨⟨h1,h2⟩,_⟩:=uki.1 (h.n x hx)
  have:=uxb h1
  have:=uz8 h2
  omega
 nr:=fun x hx=>by
  obtain⟨_,h1,h2⟩:=uki.1 (h.n x hx)
  omega
 lj:=by have:=h.nj;omega
 ln:=by have:=h.nn;omega
 ll:=by have:=h.nl;omega
end Go.Proofs.YtknmnhleicakhaaGreatDoor
namespace Go.Proofs.YtknmnhleicakhaaGreatDoor
theorem ukw {α β:Type} (f:α->β):∀(l:List α) (i:Nat) (x y:α),l[i]?=some x->f y=f x->(l.set i y).map f=l.map f
 | [],i,_,_,h,_=>by simp at h
 | a::r,0,x,y,h,he=>by
  simp at h;subst h
  simp[he]
 | a::r,i+1,x,y,h,he=>by
  simp at h
  simp[ukw f r i x y h he]
theorem vj7 {α:Type} {key:α->Zba} {l l':List α} (h:uqy key l) (he:l'.map key=l.map key):uqy key l':=by
 have h1:(l.map key).Pairwise (fun a b=>ltS a b=true):=List.pairwise_map.2 h
 rw[<- he] at h1
 exact List.pairwise_map.1 h1
theorem vyr (nm:Zba):∀(l:List JobD) (i:Nat) (x y:JobD),l[i]?=some x->y.name=x.name->y.need<=x.need->ux0 (l.set i y) nm<=ux0 l nm
 | [],i,_,_,h,_,_=>by simp at h
 | a::r,0,x,y,h,he,hn=>by
  simp at h;subst h
  unfold ux0 jobAt
  simp only[List.set_cons_zero,List.find?_cons,he]
  split
  ·simpa using hn
  ·exact Int.le_refl _
 | a::r,i+1,x,y,h,he,hn=>by
  simp at h
  have ih:=vyr nm r i x y h he hn
  unfold ux0 jobAt at ih ⊢
  simp only[List.set_cons_succ,List.find?_cons]
  split
  ·exact Int.le_refl _
  ·exact ih
theorem vkl (nm:Zba) (l:List JobD) (i:Nat) (x y:JobD) (h:l[i]?=some x) (he:y.name=x.name):(jobAt (l.set i y) nm).isSome=(jobAt l nm).isSome:=by
 unfold jobAt
 have key:∀m:List JobD,(m.find? fun j=>decide (j.name=nm)).isSome=(m.map JobD.name).any fun a=>decide (a=nm):=fun m=>by
  induction m with
  | nil=>rfl
  | cons a r ih =>
   rw[List.find?_cons,List.map_cons,List.any_cons,<- ih]
   cases decide (a.name=nm) <;> rfl
 rw[key,key,ukw JobD.name l i x y h he]
theorem wxc (nm:Zba) (l:List NodeD) (i:Nat) (x y:NodeD) (h:l[i]?=some x) (he:y.name=x.name):(uzb (l.set i y) nm).isSome=(uzb l nm).isSome:=by
 unfold uzb
 have key:∀m:List NodeD,(m.find? fun j=>decide (j.name=nm)).isSome=(m.map NodeD.name).any fun a=>decide (a=nm):=fun m=>by
  induction m with
  | nil=>rfl
  | cons a r ih =>
   rw[List.find?_cons,List.map_cons,List.any_cons,<- ih]
   cases decide (a.name=nm) <;> rfl
 rw[key,key,ukw NodeD.name l i x y h he]
theorem vzk {jobs jobs':List JobD} (h:∀nm,ux0 jobs' nm<=ux0 jobs nm) (nm:Zba):∀l:List uqb,ux5 jobs' nm l<=ux5 jobs nm l
 | []=>Int.le_refl _
 | a::r=>by
  show(if a.node=nm then ux0 jobs' a.job else 0)+ux5 jobs' nm r<=(if a.node=nm then ux0 jobs a.job else 0)+ux5 jobs nm r
  have:=vzk h nm r
  have:=h a.job
  split <;> omega
theorem Fine.setN {s:St} (h:Fine s) (i:Nat) (x y:NodeD) (hx:s.nodes[i]?=some x) (he:y.name=x.name) (hr:x.room<=y.room) (hy:nodeE y=0):Fine { s with nodes:=s.nodes.set i y } where
 rev:=h.rev
 nj:=h.nj
 nl:=h.nl
 nn:=by show(s.nodes.set i y).length<=20;rw[List.length_set];exact h.nn
 j:=h.j
 sj:=h.sj
 n:=fun z hz=>by
  rcases List.mem_or_eq_of_mem_set hz with hz | rfl
  ·exact h.n z hz
  ·exact hy
 sn:=vj7 h.sn (ukw NodeD.name s.nodes i x y hx he)
 l:=fun z hz=>by
  have:=h.l z hz
  unfold uzw at this ⊢
  show(if(_&&(uzb (s.nodes.set i y) z.node).isSome)=true then _ else _)=_
  rw[wxc _ _ _ _ _ hx he]
  exact this
 sl:=h.sl
 room:=fun z hz=>by
  show ux5 s.jobs z.name s.leases<=z.room
  rcases List.mem_or_eq_of_mem_set hz with hz | rfl
  ·exact h.room z hz
  ·have:=h.room x (List.mem_of_getElem? hx)
   rw[he];omega
theorem Fine.setJ {s:St} (h:Fine s) (i:Nat) (x y:JobD) (hx:s.jobs[i]?=some x) (he:y.name=x.name) (hr:y.need<=x.need) (hy:jobE y=0):Fine { s with jobs:=s.jobs.set i y } where
 rev:=h.rev
 nj:=by show(s.jobs.set i y).length<=40;rw[List.length_set];exact h.nj
 nl:=h.nl
 nn:=h.nn
 j:=fun z hz=>by
  rcases List.mem_or_eq_of_mem_set hz with hz | rfl
  ·exact h.j z hz
  ·exact hy
 sj:=vj7 h.sj (ukw JobD.name s.jobs i x y hx he)
 n:=h.n
 sn:=h.sn
 l:=fun z hz=>by
  have:=h.l z hz
  unfold uzw at this ⊢
  show(if((jobAt (s.jobs.set i y) z.job).isSome&&_)=true then _ else _)=_
  rw[vkl _ _ _ _ _ hx he]
  exact this
 sl:=h.sl
 room:=fun z hz=>Int.le_trans (vzk (fun nm=>vyr nm s.jobs i x y hx he hr) z.name s.leases) (h.room z hz)
end Go.Proofs.YtknmnhleicakhaaGreatDoor
