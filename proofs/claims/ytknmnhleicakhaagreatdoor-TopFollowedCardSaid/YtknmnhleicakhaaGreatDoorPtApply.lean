/- Lemmas.
-/
import Derived.Test.YtknmnhleicakhaaGreatDoorPtChgA
set_option linter.all false
set_option maxHeartbeats 16000000
set_option maxRecDepth 100000
namespace Go.Proofs.YtknmnhleicakhaaGreatDoor
open Go.Proofs.Tryz
open Go.RowKit
def chgT (s:St) (d:uq0):St:=⟨d.upto,chgR JobD.name s.jobs d.jobs d.gj,chgR NodeD.name s.nodes d.nodes d.gn,chgR uqb.job s.leases d.leases d.gl⟩
theorem wql {α:Type} {key:α->Zba} {rows set:List α} {gone:List Zba} {x:α} (h:x∈chgR key rows set gone):x∈rows\/x∈set:=by
 unfold chgR at h
 split at h
 ·have:=(List.mergeSort_perm _ _).mem_iff.1 h
  rcases List.mem_append.1 this with h | h
  ·exact .inl (List.mem_filter.1 h).1
  ·exact .inr h
 ·cases h
theorem wqk {α:Type} {key:α->Zba} {rows set:List α} {gone:List Zba}:(chgR key rows set gone).length<=rows.length+set.length:=by
 unfold chgR
 split
 ·exact chgL_len
 ·exact Nat.zero_le _
theorem chgT_sz {s:St} {d:uq0} (hs:StSz s) (hd:DelOk d) (hr:∀x∈d.nodes,-9223372036854775808<=x.room/\x.room<=9223372036854775807) (l1:s.jobs.length<=1000) (l2:s.nodes.length<=1000) (l3:s.leases.length<=1000) (m1:d.jobs.length<=1000) (m2:d.nodes.length<=1000) (m3:d.leases.length<=1000):StSz (chgT s d) where
 j:=fun x hx=>(wql hx).elim (hs.j x) (hd.j x)
 n:=fun x hx=>(wql hx).elim (hs.n x) (hd.n x)
 nr:=fun x hx=>(wql hx).elim (hs.nr x) (hr x)
 lj:=zrc wqk (by omega)
 ln:=zrc wqk (by omega)
 ll:=zrc wqk (by omega)
theorem chgT_all {s:St} {d:uq0} (h1:chgB JobD.name s.jobs d.gj=true) (h2:chgB NodeD.name s.nodes d.gn=true) (h3:chgB uqb.job s.leases d.gl=true):chgT s d=chgSt s d/\vxx s d=true:=by
 unfold chgT chgSt chgR vxx
 rw[h1,h2,h3]
 exact⟨rfl,rfl⟩
structure NewR (B:Nat) (q1 q2 q3:Zoa):Prop where
  a:∀x,q1=some x->B<=x.block
  b:∀x,q2=some x->B<=x.block
  c:∀x,q3=some x->B<=x.block
theorem NewR.nil (B:Nat):NewR B none none none:=⟨by simp,by simp,by simp⟩
theorem OwnR.new {w:World} {base c size B:Nat} {E:TypeId} {p:Zoa} {rows:List (List Value)} (h:OwnR w base E size p c rows) (hb:B<=base):∀x,p=some x->B<=x.block:=fun x hx=>by
  subst hx
  have:=(World.ownsRow.lt h.2 x.block rfl).1
  omega
theorem uj3 {w:World} {n:Nat} (h:w.heap.size=n) (t:TypeId) (cs:Array Value):Blk (w.alloc (.cells cs t)) n t cs:=h ▸ Blk.new w t cs
theorem xq8 (s:St) (d:uq0) (p1 p2 p3:Zoa) (c1 c2 c3:Nat) (r1 r2 r3 r4 r5 r6:Zoa) (e1 e2 e3 e4 e5 e6:Nat) (w:World) (hm:StM w w.heap.size p1 p2 p3 s) (hd:DelM w w.heap.size r1 r2 r3 r4 r5 r6 d) (hz:StSz s) (hk:DelOk d) (hT:Tabs w) (hc:uqp s≠0) :
    Calls prog 52 #[.agg (stv s p1 p2 p3 c1 c2 c3),.agg (dv d r1 r2 r3 r4 r5 r6 e1 e2 e3 e4 e5 e6)] w fun e w'=>∃q1 q2 q3 d1 d2 d3,e=.returned (.tuple #[.agg #[.int .i64 (⟨0,[],[],[]⟩:St).rev,.slice q1 (⟨0,[],[],[]⟩:St).jobs.length d1,.slice q2 (⟨0,[],[],[]⟩:St).nodes.length d2,.slice q3 (⟨0,[],[],[]⟩:St).leases.length d3],.int .i64 ((uqp s:Nat):Int)])/\StM w' w'.heap.size q1 q2 q3 (⟨0,[],[],[]⟩:St)/\Below w.heap.size w w'/\NewR w.heap.size q1 q2 q3:=by
  have hzs:=uq3
  have hw1:=zsb w (.cells (stv s p1 p2 p3 c1 c2 c3) 26)
  have hw2:((w.alloc (.cells (stv s p1 p2 p3 c1 c2 c3) 26)).alloc (.cells (dv d r1 r2 r3 r4 r5 r6 e1 e2 e3 e4 e5 e6) 118)).heap.size=w.heap.size+2:=by simp
  have bS:=((Blk.new w 26 (stv s p1 p2 p3 c1 c2 c3)).alloc (.cells (dv d r1 r2 r3 r4 r5 r6 e1 e2 e3 e4 e5 e6) 118)).alloc (.cells zsv 26)
  have bD:=(uj3 hw1 118 (dv d r1 r2 r3 r4 r5 r6 e1 e2 e3 e4 e5 e6)).alloc (.cells zsv 26)
  have bZ:=uj3 hw2 26 zsv
  have hB0:Below w.heap.size w (((w.alloc (.cells (stv s p1 p2 p3 c1 c2 c3) 26)).alloc (.cells (dv d r1 r2 r3 r4 r5 r6 e1 e2 e3 e4 e5 e6) 118)).alloc (.cells zsv 26)):=(((zri _ _).alloc (zra _) _).alloc (by simp) _).alloc (by simp;omega) _
  have HC:=zrj (fun(W:World) (hW:Below w.heap.size w W)=>uxw s p1 p2 p3 c1 c2 c3 W ((hm.below hW).more hW.size) hz (hT.below hW))
  have HD:=zrj (fun(W:World) (hW:Below w.heap.size w W)=>uv3 d r1 r2 r3 r4 r5 r6 e1 e2 e3 e4 e5 e6 W ((hd.below hW).more hW.size) hk (hT.below hW))
  have z0:(((0:Nat):Int) != 0)=false:=rfl
  clear hw1 hw2
  have hne:((uqp s:Int) != 0)=true:=by rw[bne_iff_ne];omega
  generalize uqp s=ce at *
  clear hm hd hz hk hT hc HD
  go_enter func52,ntmps52
  go_upto_region 1 with fail
  generalize((w.alloc (.cells (stv s p1 p2 p3 c1 c2 c3) 26)).alloc (.cells (dv d r1 r2 r3 r4 r5 r6 e1 e2 e3 e4 e5 e6) 118)).alloc _=w0 at *
  have hB00:=hB0;have bS0:=bS;have bD0:=bD;have bZ0:=bZ;clear bS bD bZ hB00
  go_wp2_with(first | (refine uqa rfl _ _ rfl w.heap.size rfl _ _ bS0 _ underlying26 rfl uqg ?_))
  refine(HC.out _ hB0).mono ?_
  rintro e w1 ⟨rfl,hb1⟩
  have hB1:=bthen hB0 hb1
  have bS1:=bS0.bl hb1
  have bD1:=bD0.bl hb1
  have bZ1:=bZ0.bl hb1
  clear hb1 bS0 bD0 bZ0 hB0
  go_wp2_with(first | (refine uqc rfl _ _ _ rfl (w.heap.size+2) rfl _ _ zsv bZ1 rfl uqg rfl (ux8 _ _ _ _ _ _ _ _ _ _) ?_))
  refine bodyPost_ret (uqi rfl _ rfl (bZ1.setRow zsv) underlying26 rfl uqg) rfl ?_
  exact⟨none,none,none,0,0,0,rfl,⟨.nil_,.nil_,.nil_⟩,uqh hB1 (by omega) _,NewR.nil _⟩
theorem xq9 (s:St) (d:uq0) (p1 p2 p3:Zoa) (c1 c2 c3:Nat) (r1 r2 r3 r4 r5 r6:Zoa) (e1 e2 e3 e4 e5 e6:Nat) (w:World) (hm:StM w w.heap.size p1 p2 p3 s) (hd:DelM w w.heap.size r1 r2 r3 r4 r5 r6 d) (hz:StSz s) (hk:DelOk d) (hT:Tabs w) (hc:uqp s=0) (hc2:uxn d≠0) :
    Calls prog 52 #[.agg (stv s p1 p2 p3 c1 c2 c3),.agg (dv d r1 r2 r3 r4 r5 r6 e1 e2 e3 e4 e5 e6)] w fun e w'=>∃q1 q2 q3 d1 d2 d3,e=.returned (.tuple #[.agg #[.int .i64 (⟨0,[],[],[]⟩:St).rev,.slice q1 (⟨0,[],[],[]⟩:St).jobs.length d1,.slice q2 (⟨0,[],[],[]⟩:St).nodes.length d2,.slice q3 (⟨0,[],[],[]⟩:St).leases.length d3],.int .i64 ((uxn d:Nat):Int)])/\StM w' w'.heap.size q1 q2 q3 (⟨0,[],[],[]⟩:St)/\Below w.heap.size w w'/\NewR w.heap.size q1 q2 q3:=by
  have hzs:=uq3
  have hw1:=zsb w (.cells (stv s p1 p2 p3 c1 c2 c3) 26)
  have hw2:((w.alloc (.cells (stv s p1 p2 p3 c1 c2 c3) 26)).alloc (.cells (dv d r1 r2 r3 r4 r5 r6 e1 e2 e3 e4 e5 e6) 118)).heap.size=w.heap.size+2:=by simp
  have bS:=((Blk.new w 26 (stv s p1 p2 p3 c1 c2 c3)).alloc (.cells (dv d r1 r2 r3 r4 r5 r6 e1 e2 e3 e4 e5 e6) 118)).alloc (.cells zsv 26)
  have bD:=(uj3 hw1 118 (dv d r1 r2 r3 r4 r5 r6 e1 e2 e3 e4 e5 e6)).alloc (.cells zsv 26)
  have bZ:=uj3 hw2 26 zsv
  have hB0:Below w.heap.size w (((w.alloc (.cells (stv s p1 p2 p3 c1 c2 c3) 26)).alloc (.cells (dv d r1 r2 r3 r4 r5 r6 e1 e2 e3 e4 e5 e6) 118)).alloc (.cells zsv 26)):=(((zri _ _).alloc (zra _) _).alloc (by simp) _).alloc (by simp;omega) _
  have HC:=zrj (fun(W:World) (hW:Below w.heap.size w W)=>uxw s p1 p2 p3 c1 c2 c3 W ((hm.below hW).more hW.size) hz (hT.below hW))
  have HD:=zrj (fun(W:World) (hW:Below w.heap.size w W)=>uv3 d r1 r2 r3 r4 r5 r6 e1 e2 e3 e4 e5 e6 W ((hd.below hW).more hW.size) hk (hT.below hW))
  have z0:(((0:Nat):Int) != 0)=false:=rfl
  clear hw1 hw2
  have hne:((uxn d:Int) != 0)=true:=by rw[bne_iff_ne];omega
  rw[hc] at HC
  generalize uxn d=ce at *
  clear hm hd hz hk hT hc hc2
  go_enter func52,ntmps52
  go_upto_region 1 with fail
  generalize((w.alloc (.cells (stv s p1 p2 p3 c1 c2 c3) 26)).alloc (.cells (dv d r1 r2 r3 r4 r5 r6 e1 e2 e3 e4 e5 e6) 118)).alloc _=w0 at *
  have bS0:=bS;have bD0:=bD;have bZ0:=bZ;clear bS bD bZ
  go_wp2_with(first | (refine uqa rfl _ _ rfl w.heap.size rfl _ _ bS0 _ underlying26 rfl uqg ?_))
  refine(HC.out _ hB0).mono ?_
  rintro e w1 ⟨rfl,hb1⟩
  have hB1:=bthen hB0 hb1
  have bS1:=bS0.bl hb1
  have bD1:=bD0.bl hb1
  have bZ1:=bZ0.bl hb1
  clear hb1 bS0 bD0 bZ0 hB0
  go_wp2_with(first | (refine uqa rfl _ _ rfl (w.heap.size+1) rfl _ _ bD1 _ underlying118 rfl uqv ?_))
  refine(HD.out _ hB1).mono ?_
  rintro e w2 ⟨rfl,hb2⟩
  have hB2:=bthen hB1 hb2
  have bS2:=bS1.bl hb2
  have bD2:=bD1.bl hb2
  have bZ2:=bZ1.bl hb2
  clear hb2 bS1 bD1 bZ1 hB1
  go_wp2_with(first | (refine uqc rfl _ _ _ rfl (w.heap.size+2) rfl _ _ zsv bZ2 rfl uqg rfl (ux8 _ _ _ _ _ _ _ _ _ _) ?_))
  refine bodyPost_ret (uqi rfl _ rfl (bZ2.setRow zsv) underlying26 rfl uqg) rfl ?_
  exact⟨none,none,none,0,0,0,rfl,⟨.nil_,.nil_,.nil_⟩,uqh hB2 (by omega) _,NewR.nil _⟩
theorem xjx (s:St) (d:uq0) (p1 p2 p3:Zoa) (c1 c2 c3:Nat) (r1 r2 r3 r4 r5 r6:Zoa) (e1 e2 e3 e4 e5 e6:Nat) (w:World) (hm:StM w w.heap.size p1 p2 p3 s) (hd:DelM w w.heap.size r1 r2 r3 r4 r5 r6 d) (hz:StSz s) (hk:DelOk d) (hT:Tabs w) (hc:uqp s=0) (hc2:uxn d=0) (hf:d.frm≠s.rev) :
    Calls prog 52 #[.agg (stv s p1 p2 p3 c1 c2 c3),.agg (dv d r1 r2 r3 r4 r5 r6 e1 e2 e3 e4 e5 e6)] w fun e w'=>∃q1 q2 q3 d1 d2 d3,e=.returned (.tuple #[.agg #[.int .i64 (⟨0,[],[],[]⟩:St).rev,.slice q1 (⟨0,[],[],[]⟩:St).jobs.length d1,.slice q2 (⟨0,[],[],[]⟩:St).nodes.length d2,.slice q3 (⟨0,[],[],[]⟩:St).leases.length d3],.int .i64 ((10:Nat):Int)])/\StM w' w'.heap.size q1 q2 q3 (⟨0,[],[],[]⟩:St)/\Below w.heap.size w w'/\NewR w.heap.size q1 q2 q3:=by
  have hzs:=uq3
  have hw1:=zsb w (.cells (stv s p1 p2 p3 c1 c2 c3) 26)
  have hw2:((w.alloc (.cells (stv s p1 p2 p3 c1 c2 c3) 26)).alloc (.cells (dv d r1 r2 r3 r4 r5 r6 e1 e2 e3 e4 e5 e6) 118)).heap.size=w.heap.size+2:=by simp
  have bS:=((Blk.new w 26 (stv s p1 p2 p3 c1 c2 c3)).alloc (.cells (dv d r1 r2 r3 r4 r5 r6 e1 e2 e3 e4 e5 e6) 118)).alloc (.cells zsv 26)
  have bD:=(uj3 hw1 118 (dv d r1 r2 r3 r4 r5 r6 e1 e2 e3 e4 e5 e6)).alloc (.cells zsv 26)
  have bZ:=uj3 hw2 26 zsv
  have hB0:Below w.heap.size w (((w.alloc (.cells (stv s p1 p2 p3 c1 c2 c3) 26)).alloc (.cells (dv d r1 r2 r3 r4 r5 r6 e1 e2 e3 e4 e5 e6) 118)).alloc (.cells zsv 26)):=(((zri _ _).alloc (zra _) _).alloc (by simp) _).alloc (by simp;omega) _
  have HC:=zrj (fun(W:World) (hW:Below w.heap.size w W)=>uxw s p1 p2 p3 c1 c2 c3 W ((hm.below hW).more hW.size) hz (hT.below hW))
  have HD:=zrj (fun(W:World) (hW:Below w.heap.size w W)=>uv3 d r1 r2 r3 r4 r5 r6 e1 e2 e3 e4 e5 e6 W ((hd.below hW).more hW.size) hk (hT.below hW))
  have z0:(((0:Nat):Int) != 0)=false:=rfl
  clear hw1 hw2
  rw[hc] at HC
  rw[hc2] at HD
  have hne:(d.frm != s.rev)=true:=by rw[bne_iff_ne];exact hf
  clear hm hd hz hk hT hc hc2 hf
  go_enter func52,ntmps52
  go_upto_region 1 with fail
  generalize((w.alloc (.cells (stv s p1 p2 p3 c1 c2 c3) 26)).alloc (.cells (dv d r1 r2 r3 r4 r5 r6 e1 e2 e3 e4 e5 e6) 118)).alloc _=w0 at *
  have bS0:=bS;have bD0:=bD;have bZ0:=bZ;clear bS bD bZ
  go_wp2_with(first | (refine uqa rfl _ _ rfl w.heap.size rfl _ _ bS0 _ underlying26 rfl uqg ?_))
  refine(HC.out _ hB0).mono ?_
  rintro e w1 ⟨rfl,hb1⟩
  have hB1:=bthen hB0 hb1
  have bS1:=bS0.bl hb1
  have bD1:=bD0.bl hb1
  have bZ1:=bZ0.bl hb1
  clear hb1 bS0 bD0 bZ0 hB0
  go_wp2_with(first | (refine uqa rfl _ _ rfl (w.heap.size+1) rfl _ _ bD1 _ underlying118 rfl uqv ?_))
  refine(HD.out _ hB1).mono ?_
  rintro e w2 ⟨rfl,hb2⟩
  have hB2:=bthen hB1 hb2
  have bS2:=bS1.bl hb2
  have bD2:=bD1.bl hb2
  have bZ2:=bZ1.bl hb2
  clear hb2 bS1 bD1 bZ1 hB1
  have x0:=bS2.c0
  have x1:=bD2.c0
  go_wp2_with(first | (refine uqc rfl _ _ _ rfl (w.heap.size+2) rfl _ _ zsv bZ2 rfl uqg rfl (ux8 _ _ _ _ _ _ _ _ _ _) ?_))
  refine bodyPost_ret (uqi rfl _ rfl (bZ2.setRow zsv) underlying26 rfl uqg) rfl ?_
  exact⟨none,none,none,0,0,0,rfl,⟨.nil_,.nil_,.nil_⟩,uqh hB2 (by omega) _,NewR.nil _⟩
theorem xxa (s:St) (d:uq0) (p1 p2 p3:Zoa) (c1 c2 c3:Nat) (r1 r2 r3 r4 r5 r6:Zoa) (e1 e2 e3 e4 e5 e6:Nat) (w:World) (hm:StM w w.heap.size p1 p2 p3 s) (hd:DelM w w.heap.size r1 r2 r3 r4 r5 r6 d) (hz:StSz s) (hk:DelOk d) (hT:Tabs w) (hc:uqp s=0) (hc2:uxn d=0) (hf:d.frm=s.rev) :
    Calls prog 52 #[.agg (stv s p1 p2 p3 c1 c2 c3),.agg (dv d r1 r2 r3 r4 r5 r6 e1 e2 e3 e4 e5 e6)] w fun e w'=>∃q1 q2 q3 d1 d2 d3,e=.returned (.tuple #[.agg #[.int .i64 (ujg s d).rev,.slice q1 (ujg s d).jobs.length d1,.slice q2 (ujg s d).nodes.length d2,.slice q3 (ujg s d).leases.length d3],.int .i64 ((ujb s d:Nat):Int)])/\StM w' w'.heap.size q1 q2 q3 (ujg s d)/\Below w.heap.size w w'/\NewR w.heap.size q1 q2 q3:=by
  have hzs:=uq3
  have hw1:=zsb w (.cells (stv s p1 p2 p3 c1 c2 c3) 26)
  have hw2:((w.alloc (.cells (stv s p1 p2 p3 c1 c2 c3) 26)).alloc (.cells (dv d r1 r2 r3 r4 r5 r6 e1 e2 e3 e4 e5 e6) 118)).heap.size=w.heap.size+2:=by simp
  have bS:=((Blk.new w 26 (stv s p1 p2 p3 c1 c2 c3)).alloc (.cells (dv d r1 r2 r3 r4 r5 r6 e1 e2 e3 e4 e5 e6) 118)).alloc (.cells zsv 26)
  have bD:=(uj3 hw1 118 (dv d r1 r2 r3 r4 r5 r6 e1 e2 e3 e4 e5 e6)).alloc (.cells zsv 26)
  have bZ:=uj3 hw2 26 zsv
  have hB0:Below w.heap.size w (((w.alloc (.cells (stv s p1 p2 p3 c1 c2 c3) 26)).alloc (.cells (dv d r1 r2 r3 r4 r5 r6 e1 e2 e3 e4 e5 e6) 118)).alloc (.cells zsv 26)):=(((zri _ _).alloc (zra _) _).alloc (by simp) _).alloc (by simp;omega) _
  have HC:=zrj (fun(W:World) (hW:Below w.heap.size w W)=>uxw s p1 p2 p3 c1 c2 c3 W ((hm.below hW).more hW.size) hz (hT.below hW))
  have HD:=zrj (fun(W:World) (hW:Below w.heap.size w W)=>uv3 d r1 r2 r3 r4 r5 r6 e1 e2 e3 e4 e5 e6 W ((hd.below hW).more hW.size) hk (hT.below hW))
  have z0:(((0:Nat):Int) != 0)=false:=rfl
  clear hw1 hw2
  rw[hc] at HC
  rw[hc2] at HD
  have hne:(d.frm != s.rev)=false:=by rw[hf];simp
  have F:=(uxp s).1 hc
  have G:=wk7 hc2
  have hA:ujb s d=if vxx s d=true then uqp (chgSt s d) else 6:=by unfold ujb;rw[if_neg (by simpa using hc),if_neg (by simpa using hc2),if_neg (by simpa using hf)]
  have hAS:ujg s d=if ujb s d=0 then chgSt s d else⟨0,[],[],[]⟩:=rfl
  have nroom:∀x∈d.nodes,-9223372036854775808<=x.room/\x.room<=9223372036854775807:=fun x hx=>by have:=(uki.1 (G.n.1 x hx)).2;omega
  have hsz:=chgT_sz hz hk nroom (by have:=F.nj;omega) (by have:=F.nn;omega) (by have:=F.nl;omega) (by have:=G.lj;omega) (by have:=G.ln;omega) (by have:=G.ll;omega)
  have HJ:=zrj (show ∀(W:World) (hW:Below w.heap.size w W),Calls prog 90 #[.slice p1 s.jobs.length c1,.slice r1 d.jobs.length e1,.slice r4 d.gj.length e4,.func (.func 91) #[] #[]] W (fun e w'=>∃p c,e=.returned (.tuple #[.slice p (chgT s d).jobs.length c,.bool (chgB JobD.name s.jobs d.gj)])/\OwnR w' W.heap.size 38 5 p c ((chgT s d).jobs.map rowJ)/\Below W.heap.size W w') from fun W hW=>wza s.jobs d.jobs d.gj p1 r1 r4 c1 e1 e4 W ((hm.j.below hW).more hW.size) ((hd.j.below hW).more hW.size) ((hd.gj.below hW).more hW.size) (by have:=F.nj;omega) (by have:=G.lj;omega) (by have:=G.gj;omega) F.sj G.j.2 G.hj.2 (fun x hx=>uxb (vqp (F.j x hx))) (fun x hx=>uxb (vqp (G.j.1 x hx))) (fun x hx=>uxb (G.hj.1 x hx).1))
  have HN:=zrj (show ∀(W:World) (hW:Below w.heap.size w W),Calls prog 92 #[.slice p2 s.nodes.length c2,.slice r2 d.nodes.length e2,.slice r5 d.gn.length e5,.func (.func 93) #[] #[]] W (fun e w'=>∃p c,e=.returned (.tuple #[.slice p (chgT s d).nodes.length c,.bool (chgB NodeD.name s.nodes d.gn)])/\OwnR w' W.heap.size 40 3 p c ((chgT s d).nodes.map rowN)/\Below W.heap.size W w') from fun W hW=>wzc s.nodes d.nodes d.gn p2 r2 r5 c2 e2 e5 W ((hm.n.below hW).more hW.size) ((hd.n.below hW).more hW.size) ((hd.gn.below hW).more hW.size) (by have:=F.nn;omega) (by have:=G.ln;omega) (by have:=G.gn;omega) F.sn G.n.2 G.hn.2 (fun x hx=>uxb (vxl (F.n x hx))) (fun x hx=>uxb (vxl (G.n.1 x hx))) (fun x hx=>uxb (G.hn.1 x hx).1))
  have HL:=zrj (show ∀(W:World) (hW:Below w.heap.size w W),Calls prog 94 #[.slice p3 s.leases.length c3,.slice r3 d.leases.length e3,.slice r6 d.gl.length e6,.func (.func 95) #[] #[]] W (fun e w'=>∃p c,e=.returned (.tuple #[.slice p (chgT s d).leases.length c,.bool (chgB uqb.job s.leases d.gl)])/\OwnR w' W.heap.size 42 3 p c ((chgT s d).leases.map rowL)/\Below W.heap.size W w') from fun W hW=>wzb s.leases d.leases d.gl p3 r3 r6 c3 e3 e6 W ((hm.l.below hW).more hW.size) ((hd.l.below hW).more hW.size) ((hd.gl.below hW).more hW.size) (by have:=F.nl;omega) (by have:=G.ll;omega) (by have:=G.gl;omega) F.sl G.l.2 G.hl.2 (fun x hx=>uxb (vqq (wq9 F hx)).1) (fun x hx=>uxb (vqq (G.l.1 x hx)).1) (fun x hx=>uxb (G.hl.1 x hx).1))
  have hall:chgB JobD.name s.jobs d.gj=true->chgB NodeD.name s.nodes d.gn=true->chgB uqb.job s.leases d.gl=true->chgT s d=chgSt s d/\vxx s d=true:=chgT_all
  have hnot:(chgB JobD.name s.jobs d.gj&&chgB NodeD.name s.nodes d.gn&&chgB uqb.job s.leases d.gl)=vxx s d:=rfl
  have hup:(chgT s d).rev=d.upto:=rfl
  generalize chgT s d=t at *
  generalize chgB JobD.name s.jobs d.gj=B1 at *
  generalize chgB NodeD.name s.nodes d.gn=B2 at *
  generalize chgB uqb.job s.leases d.gl=B3 at *
  have HSZ:=zrj hsz
  have HA:=zrj hA
  have HAS:=zrj hAS
  have HALL:=zrj hall
  have HNOT:=zrj hnot
  have HT:=zrj hT
  clear hm hd hz hk hT hc hc2 hf F G nroom hsz hA hAS hall hnot
  go_enter func52,ntmps52
  go_upto_region 1 with fail
  generalize((w.alloc (.cells (stv s p1 p2 p3 c1 c2 c3) 26)).alloc (.cells (dv d r1 r2 r3 r4 r5 r6 e1 e2 e3 e4 e5 e6) 118)).alloc _=w0 at *
  have bS0:=bS;have bD0:=bD;have bZ0:=bZ;clear bS bD bZ
  go_wp2_with(first | (refine uqa rfl _ _ rfl w.heap.size rfl _ _ bS0 _ underlying26 rfl uqg ?_))
  refine(HC.out _ hB0).mono ?_
  rintro e w1 ⟨rfl,hb1⟩
  have hB1:=bthen hB0 hb1
  have bS1:=bS0.bl hb1
  have bD1:=bD0.bl hb1
  have bZ1:=bZ0.bl hb1
  clear hb1 bS0 bD0 bZ0 hB0
  go_wp2_with(first | (refine uqa rfl _ _ rfl (w.heap.size+1) rfl _ _ bD1 _ underlying118 rfl uqv ?_))
  refine(HD.out _ hB1).mono ?_
  rintro e w2 ⟨rfl,hb2⟩
  have hB2:=bthen hB1 hb2
  have bS2:=bS1.bl hb2
  have bD2:=bD1.bl hb2
  have bZ2:=bZ1.bl hb2
  clear hb2 bS1 bD1 bZ1 hB1
  have x0:=bS2.c0
  have x1:=bD2.c0
  have x2:=bD2.c1
  go_upto_region 11 with(first | (refine uqf rfl _ _ _ rfl rfl 26 _ #[.int .i64 d.upto,.slice none 0 0,.slice none 0 0,.slice none 0 0] rfl uqg rfl (ux8 _ _ _ _ _ _ _ _ _ _) ?_))
  clear x0 x1 x2 HC HD
  have bO4:=Blk.new w2 26 #[.int .i64 d.upto,.slice none 0 0,.slice none 0 0,.slice none 0 0]
  have bS4:=bS2.alloc (.cells #[.int .i64 d.upto,.slice none 0 0,.slice none 0 0,.slice none 0 0] 26)
  have bD4:=bD2.alloc (.cells #[.int .i64 d.upto,.slice none 0 0,.slice none 0 0,.slice none 0 0] 26)
  have bZ4:=bZ2.alloc (.cells #[.int .i64 d.upto,.slice none 0 0,.slice none 0 0,.slice none 0 0] 26)
  have hB4:=hB2.alloc hB2.size (.cells #[.int .i64 d.upto,.slice none 0 0,.slice none 0 0,.slice none 0 0] 26)
  have hg:=bZ2.lt
  clear bS2 bD2 bZ2 hB2
  generalize w2.alloc _=w4 at *
  generalize w2.heap.size=g at *
  have y1:=bS4.c1
  have y2:=bD4.c2
  have y3:=bD4.c5
  go_wp2_with fail
  clear y1 y2 y3
  refine(HJ.out _ hB4).mono ?_
  rintro e w5 ⟨q1,d1,rfl,hO1,hb5⟩
  have hB5:=bthen hB4 hb5
  have bS5:=bS4.bl hb5
  have bD5:=bD4.bl hb5
  have bZ5:=bZ4.bl hb5
  have bO5:=bO4.bl hb5
  have hgl0:g<w4.heap.size:=bO4.lt
  have y1:=bO5.c1
  have y2:w5.frozen? ⟨g,1,none⟩=false:=bO5.frozen 1
  go_upto_region 12 with fail
  have bS6:=bS5.far (p:=⟨g,1,none⟩) (by show w.heap.size≠g;omega) (.slice q1 t.jobs.length d1)
  have bD6:=bD5.far (p:=⟨g,1,none⟩) (by show w.heap.size+1≠g;omega) (.slice q1 t.jobs.length d1)
  have bZ6:=bZ5.far (p:=⟨g,1,none⟩) (by show w.heap.size+2≠g;omega) (.slice q1 t.jobs.length d1)
  have bO6:Blk (w5.setCell ⟨g,1,none⟩ (.slice q1 t.jobs.length d1)) g 26 #[.int .i64 d.upto,.slice q1 t.jobs.length d1,.slice none 0 0,.slice none 0 0]:=bO5.set_ 1 _
  have hB6:=hB5.setCell (p:=⟨g,1,none⟩) (by show w.heap.size<=g;omega) (.slice q1 t.jobs.length d1)
  have hO1:=OwnR.cell_ hO1 (a:=⟨g,1,none⟩) (by show g<_;omega) (.slice q1 t.jobs.length d1)
  clear y1 y2 bS4 bD4 bZ4 bO4 hB4 hb5 bS5 bD5 bZ5 bO5 hB5 HJ
  generalize w5.setCell ⟨g,1,none⟩ _=w6 at *
  have y1:=bS6.c2
  have y2:=bD6.c3
  have y3:=bD6.c6
  go_wp2_with fail
  clear y1 y2 y3
  refine(HN.out _ hB6).mono ?_
  rintro e w7 ⟨q2,d2,rfl,hO2,hb7⟩
  have hB7:=bthen hB6 hb7
  have bS7:=bS6.bl hb7
  have bD7:=bD6.bl hb7
  have bZ7:=bZ6.bl hb7
  have bO7:=bO6.bl hb7
  have hgl1:g<w6.heap.size:=bO6.lt
  have hO1:=hO1.below hb7
  have y1:=bO7.c2
  have y2:w7.frozen? ⟨g,2,none⟩=false:=bO7.frozen 2
  go_upto_region 13 with fail
  have bS8:=bS7.far (p:=⟨g,2,none⟩) (by show w.heap.size≠g;omega) (.slice q2 t.nodes.length d2)
  have bD8:=bD7.far (p:=⟨g,2,none⟩) (by show w.heap.size+1≠g;omega) (.slice q2 t.nodes.length d2)
  have bZ8:=bZ7.far (p:=⟨g,2,none⟩) (by show w.heap.size+2≠g;omega) (.slice q2 t.nodes.length d2)
  have bO8:Blk (w7.setCell ⟨g,2,none⟩ (.slice q2 t.nodes.length d2)) g 26 #[.int .i64 d.upto,.slice q1 t.jobs.length d1,.slice q2 t.nodes.length d2,.slice none 0 0]:=bO7.set_ 2 _
  have hB8:=hB7.setCell (p:=⟨g,2,none⟩) (by show w.heap.size<=g;omega) (.slice q2 t.nodes.length d2)
  have hO1:=OwnR.cell_ hO1 (a:=⟨g,2,none⟩) (by show g<_;omega) (.slice q2 t.nodes.length d2)
  have hO2:=OwnR.cell_ hO2 (a:=⟨g,2,none⟩) (by show g<_;omega) (.slice q2 t.nodes.length d2)
  clear y1 y2 bS6 bD6 bZ6 bO6 hB6 hb7 bS7 bD7 bZ7 bO7 hB7 HN
  generalize w7.setCell ⟨g,2,none⟩ _=w8 at *
  have y1:=bS8.c3
  have y2:=bD8.c4
  have y3:=bD8.c7
  go_wp2_with fail
  clear y1 y2 y3
  refine(HL.out _ hB8).mono ?_
  rintro e w9 ⟨q3,d3,rfl,hO3,hb9⟩
  have hB9:=bthen hB8 hb9
  have bS9:=bS8.bl hb9
  have bD9:=bD8.bl hb9
  have bZ9:=bZ8.bl hb9
  have bO9:=bO8.bl hb9
  have hgl2:g<w8.heap.size:=bO8.lt
  have hO1:=hO1.below hb9
  have hO2:=hO2.below hb9
  have y1:=bO9.c3
  have y2:w9.frozen? ⟨g,3,none⟩=false:=bO9.frozen 3
  go_upto_region 14 with fail
  have bS10:=bS9.far (p:=⟨g,3,none⟩) (by show w.heap.size≠g;omega) (.slice q3 t.leases.length d3)
  have bD10:=bD9.far (p:=⟨g,3,none⟩) (by show w.heap.size+1≠g;omega) (.slice q3 t.leases.length d3)
  have bZ10:=bZ9.far (p:=⟨g,3,none⟩) (by show w.heap.size+2≠g;omega) (.slice q3 t.leases.length d3)
  have bO10:Blk (w9.setCell ⟨g,3,none⟩ (.slice q3 t.leases.length d3)) g 26 #[.int .i64 d.upto,.slice q1 t.jobs.length d1,.slice q2 t.nodes.length d2,.slice q3 t.leases.length d3]:=bO9.set_ 3 _
  have hB10:=hB9.setCell (p:=⟨g,3,none⟩) (by show w.heap.size<=g;omega) (.slice q3 t.leases.length d3)
  have hO1:=OwnR.cell_ hO1 (a:=⟨g,3,none⟩) (by show g<_;omega) (.slice q3 t.leases.length d3)
  have hO2:=OwnR.cell_ hO2 (a:=⟨g,3,none⟩) (by show g<_;omega) (.slice q3 t.leases.length d3)
  have hO3:=OwnR.cell_ hO3 (a:=⟨g,3,none⟩) (by show g<_;omega) (.slice q3 t.leases.length d3)
  clear y1 y2 bS8 bD8 bZ8 bO8 hB8 hb9 bS9 bD9 bZ9 bO9 hB9 HL
  generalize w9.setCell ⟨g,3,none⟩ _=w10 at *
  have hM:StM w10 w10.heap.size q1 q2 q3 t:=⟨hO1.elts,hO2.elts,hO3.elts⟩
  have hout:#[Value.int .i64 d.upto,Value.slice q1 t.jobs.length d1,Value.slice q2 t.nodes.length d2,Value.slice q3 t.leases.length d3]=(stv t q1 q2 q3 d1 d2 d3):=by rw[<- hup]
  have hgl:g<w10.heap.size:=bO10.lt
  rw[hout] at bO10
  have HC:=zrj (uxw t q1 q2 q3 d1 d2 d3 w10 hM HSZ.out (HT.out.below hB10))
  clear hM bS10 bD10 HSZ HT
  by_cases hAll:B1=true/\B2=true/\B3=true
  · obtain⟨rfl,rfl,rfl⟩:=hAll
    obtain⟨ht,hca⟩:=HALL.out rfl rfl rfl
    have hA:=HA.out
    rw[hca,if_pos rfl,<- ht] at hA
    have hAS:=HAS.out
    rw[hA,<- ht] at hAS
    clear ht hca HALL HNOT HA HAS
    by_cases hce:uqp t=0
    · rw[hce] at hA HC
      rw[if_pos hce] at hAS
      have HE:=zrj hA
      have HS:=zrj hAS
      clear hA hAS hce
      go_wp2_with(first | (refine uqa rfl _ _ rfl g rfl _ _ bO10 _ underlying26 rfl uqg ?_))
      refine HC.out.mono ?_
      rintro e w11 ⟨rfl,hb11⟩
      have hB11:=bthen hB10 hb11
      have bO11:=bO10.bl hb11
      have bZ11:=bZ10.bl hb11
      have hP1:=hO1.below hb11
      have hP2:=hO2.below hb11
      have hP3:=hO3.below hb11
      clear hb11 bO10 bZ10 hB10 HC hO1 hO2 hO3
      go_wp2_with(first | (refine uqa rfl _ _ rfl g rfl _ _ bO11 _ underlying26 rfl uqg ?_) | (refine uqc rfl _ _ _ rfl (w.heap.size+2) rfl _ _ (stv t q1 q2 q3 d1 d2 d3) bZ11 rfl uqg rfl (ux8 _ _ _ _ _ _ _ _ _ _) ?_))
      refine bodyPost_ret (uqi rfl _ rfl (bZ11.setRow (stv t q1 q2 q3 d1 d2 d3)) underlying26 rfl uqg) rfl ?_
      rw[HE.out,HS.out]
      exact⟨q1,q2,q3,d1,d2,d3,rfl,⟨(OwnR.row_ hP1 (by omega) _).elts,(OwnR.row_ hP2 (by omega) _).elts,(OwnR.row_ hP3 (by omega) _).elts⟩,uqh hB11 (by omega) _,⟨OwnR.new hP1 (by omega),OwnR.new hP2 (by omega),OwnR.new hP3 (by omega)⟩⟩
    · have hne2:((uqp t:Int) != 0)=true:=by rw[bne_iff_ne];omega
      rw[if_neg hce] at hAS
      have HE:=zrj hA
      have HS:=zrj hAS
      clear hA hAS hce hO1 hO2 hO3
      generalize uqp t=ce at *
      go_wp2_with(first | (refine uqa rfl _ _ rfl g rfl _ _ bO10 _ underlying26 rfl uqg ?_))
      refine HC.out.mono ?_
      rintro e w11 ⟨rfl,hb11⟩
      have hB11:=bthen hB10 hb11
      have bZ11:=bZ10.bl hb11
      clear hb11 bO10 bZ10 hB10 HC
      go_wp2_with(first | (refine uqc rfl _ _ _ rfl (w.heap.size+2) rfl _ _ zsv bZ11 rfl uqg rfl (ux8 _ _ _ _ _ _ _ _ _ _) ?_))
      refine bodyPost_ret (uqi rfl _ rfl (bZ11.setRow zsv) underlying26 rfl uqg) rfl ?_
      rw[HE.out,HS.out]
      exact⟨none,none,none,0,0,0,rfl,⟨.nil_,.nil_,.nil_⟩,uqh hB11 (by omega) _,NewR.nil _⟩
  · have hca:vxx s d=false:=by
      rw[<- HNOT.out]
      cases B1 <;> cases B2 <;> cases B3 <;> first | rfl | exact absurd ⟨rfl,rfl,rfl⟩ hAll
    have hA:=HA.out
    rw[hca,if_neg (by simp)] at hA
    have hAS:=HAS.out
    rw[hA,if_neg (by decide)] at hAS
    have HE:=zrj hA
    have HS:=zrj hAS
    clear hca hA hAS HA HAS HALL HNOT HC bO10 hO1 hO2 hO3
    cases B1 <;> cases B2 <;> cases B3
    all_goals first
      | exact absurd ⟨rfl,rfl,rfl⟩ hAll
      | (clear hAll
         go_wp2_with(first | (refine uqc rfl _ _ _ rfl (w.heap.size+2) rfl _ _ zsv bZ10 rfl uqg rfl (ux8 _ _ _ _ _ _ _ _ _ _) ?_))
         refine bodyPost_ret (uqi rfl _ rfl (bZ10.setRow zsv) underlying26 rfl uqg) rfl ?_
         rw[HE.out,HS.out]
         exact⟨none,none,none,0,0,0,rfl,⟨.nil_,.nil_,.nil_⟩,uqh hB10 (by omega) _,NewR.nil _⟩)
theorem xjw (s:St) (d:uq0) (p1 p2 p3:Zoa) (c1 c2 c3:Nat) (r1 r2 r3 r4 r5 r6:Zoa) (e1 e2 e3 e4 e5 e6:Nat) (w:World) (hm:StM w w.heap.size p1 p2 p3 s) (hd:DelM w w.heap.size r1 r2 r3 r4 r5 r6 d) (hz:StSz s) (hk:DelOk d) (hT:Tabs w) :
    Calls prog 52 #[.agg (stv s p1 p2 p3 c1 c2 c3),.agg (dv d r1 r2 r3 r4 r5 r6 e1 e2 e3 e4 e5 e6)] w fun e w'=>∃q1 q2 q3 d1 d2 d3,e=.returned (.tuple #[.agg #[.int .i64 (ujg s d).rev,.slice q1 (ujg s d).jobs.length d1,.slice q2 (ujg s d).nodes.length d2,.slice q3 (ujg s d).leases.length d3],.int .i64 ((ujb s d:Nat):Int)])/\StM w' w'.heap.size q1 q2 q3 (ujg s d)/\Below w.heap.size w w'/\NewR w.heap.size q1 q2 q3:=by
  by_cases hc:uqp s=0
  · by_cases hc2:uxn d=0
    · by_cases hf:d.frm=s.rev
      · exact xxa s d p1 p2 p3 c1 c2 c3 r1 r2 r3 r4 r5 r6 e1 e2 e3 e4 e5 e6 w hm hd hz hk hT hc hc2 hf
      · have h:=xjx s d p1 p2 p3 c1 c2 c3 r1 r2 r3 r4 r5 r6 e1 e2 e3 e4 e5 e6 w hm hd hz hk hT hc hc2 hf
        have hE:ujb s d=10:=by unfold ujb;rw[if_neg (by simpa using hc),if_neg (by simpa using hc2),if_pos hf]
        have hS:ujg s d=⟨0,[],[],[]⟩:=by unfold ujg;rw[hE,if_neg (by decide)]
        rw[hE,hS];exact h
    · have h:=xq9 s d p1 p2 p3 c1 c2 c3 r1 r2 r3 r4 r5 r6 e1 e2 e3 e4 e5 e6 w hm hd hz hk hT hc hc2
      have hE:ujb s d=uxn d:=by unfold ujb;rw[if_neg (by simpa using hc),if_pos hc2]
      have hS:ujg s d=⟨0,[],[],[]⟩:=by unfold ujg;rw[hE,if_neg hc2]
      rw[hE,hS];exact h
  · have h:=xq8 s d p1 p2 p3 c1 c2 c3 r1 r2 r3 r4 r5 r6 e1 e2 e3 e4 e5 e6 w hm hd hz hk hT hc
    have hE:ujb s d=uqp s:=by unfold ujb;rw[if_pos hc]
    have hS:ujg s d=⟨0,[],[],[]⟩:=by unfold ujg;rw[hE,if_neg hc]
    rw[hE,hS];exact h
end Go.Proofs.YtknmnhleicakhaaGreatDoor
