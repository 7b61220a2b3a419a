/- Lemmas.
-/
import Derived.Test.YtknmnhleicakhaaGreatDoorPtDelA
set_option linter.all false
set_option maxHeartbeats 16000000
set_option maxRecDepth 100000
namespace Go.Proofs.YtknmnhleicakhaaGreatDoor
open Go.Proofs.Tryz
open Go.RowKit
theorem uy9 {w:World} {a:Addr} {v:Value} {k:Nat} (h:At w (a.add (k*1)) [v]):w.cell? (a.add k)=some v:=by
 have:=h 0 v rfl
 rw[Nat.mul_one] at this
 rwa [show(a.add k).add 0=a.add k from by unfold Addr.add;simp] at this
structure DelM (w:World) (B:Nat) (p1 p2 p3 p4 p5 p6:Zoa) (d:uq0):Prop where
 j:Elts w B 5 p1 (d.jobs.map rowJ)
 n:Elts w B 3 p2 (d.nodes.map rowN)
 l:Elts w B 3 p3 (d.leases.map rowL)
 gj:Elts w B 1 p4 (d.gj.map rowS)
 gn:Elts w B 1 p5 (d.gn.map rowS)
 gl:Elts w B 1 p6 (d.gl.map rowS)
structure DelOwn (w:World) (base:Nat) (p1 p2 p3 p4 p5 p6:Zoa) (c1 c2 c3 c4 c5 c6:Nat) (d:uq0):Prop where
 j:OwnR w base 38 5 p1 c1 (d.jobs.map rowJ)
 n:OwnR w base 40 3 p2 c2 (d.nodes.map rowN)
 l:OwnR w base 42 3 p3 c3 (d.leases.map rowL)
 gj:OwnR w base 9 1 p4 c4 (d.gj.map rowS)
 gn:OwnR w base 9 1 p5 c5 (d.gn.map rowS)
 gl:OwnR w base 9 1 p6 c6 (d.gl.map rowS)
structure DelSz (d:uq0):Prop where
 j:d.jobs.length<=8796093022208
 n:d.nodes.length<=8796093022208
 l:d.leases.length<=8796093022208
 gj:d.gj.length<=8796093022208
 gn:d.gn.length<=8796093022208
 gl:d.gl.length<=8796093022208
section
variable {w w':World} {B base:Nat} {p1 p2 p3 p4 p5 p6:Zoa} {c1 c2 c3 c4 c5 c6:Nat} {d:uq0}
theorem DelOwn.m (h:DelOwn w base p1 p2 p3 p4 p5 p6 c1 c2 c3 c4 c5 c6 d):DelM w w.heap.size p1 p2 p3 p4 p5 p6 d:=⟨h.j.elts,h.n.elts,h.l.elts,h.gj.elts,h.gn.elts,h.gl.elts⟩
theorem DelOwn.below (h:DelOwn w base p1 p2 p3 p4 p5 p6 c1 c2 c3 c4 c5 c6 d) (hb:Below w.heap.size w w'):DelOwn w' base p1 p2 p3 p4 p5 p6 c1 c2 c3 c4 c5 c6 d:=⟨h.j.below hb,h.n.below hb,h.l.below hb,h.gj.below hb,h.gn.below hb,h.gl.below hb⟩
theorem DelOwn.lower {b:Nat} (h:DelOwn w base p1 p2 p3 p4 p5 p6 c1 c2 c3 c4 c5 c6 d) (hb:b<=base):DelOwn w b p1 p2 p3 p4 p5 p6 c1 c2 c3 c4 c5 c6 d:=⟨h.j.lower hb,h.n.lower hb,h.l.lower hb,h.gj.lower hb,h.gn.lower hb,h.gl.lower hb⟩
theorem DelM.below (h:DelM w B p1 p2 p3 p4 p5 p6 d) (hb:Below B w w'):DelM w' B p1 p2 p3 p4 p5 p6 d:=⟨h.j.below hb,h.n.below hb,h.l.below hb,h.gj.below hb,h.gn.below hb,h.gl.below hb⟩
theorem DelM.more {b:Nat} (h:DelM w B p1 p2 p3 p4 p5 p6 d) (hb:B<=b):DelM w b p1 p2 p3 p4 p5 p6 d:=⟨h.j.more hb,h.n.more hb,h.l.more hb,h.gj.more hb,h.gn.more hb,h.gl.more hb⟩
theorem DelM.nil (w:World) (B:Nat):DelM w B none none none none none none noD:=⟨Elts.nil_,Elts.nil_,Elts.nil_,Elts.nil_,Elts.nil_,Elts.nil_⟩
end
theorem OwnR.cell_ {w:World} {base c size:Nat} {E:TypeId} {p:Zoa} {rows:List (List Value)} (h:OwnR w base E size p c rows) {a:Addr} (ha:a.block<base) (u:Value):OwnR (w.setCell a u) base E size p c rows:=⟨h.1,ownsRow_setCell_below h.2 ha u⟩
theorem OwnR.row_ {w:World} {base c size g:Nat} {E:TypeId} {p:Zoa} {rows:List (List Value)} (h:OwnR w base E size p c rows) (ha:g<base) (cs:Array Value):OwnR (w.setRow g cs) base E size p c rows :=
 ⟨h.1,World.ownsRow.kept (row:=some g) h.2 (growR w g cs) (.inr (fun h0=>by have:=(World.ownsRow.lt h.2 g h0).1;omega))⟩
theorem ux6 (W:World):(zeroValue 118).run prog W=.ok (.agg zdv) W:=by kernel_rfl
theorem uqv:(prog.info? 118).map (·.size)=some 8:=by kernel_rfl
theorem ukj (a b:Int) (r1 r2 r3 r4 r5 r6:Zoa) (n1 n2 n3 n4 n5 n6 e1 e2 e3 e4 e5 e6:Nat):(#[.int .i64 a,.int .i64 b,.slice r1 n1 e1,.slice r2 n2 e2,.slice r3 n3 e3,.slice r4 n4 e4,.slice r5 n5 e5,.slice r6 n6 e6]:Array Value).all (·.oneCell')=true:=by simp[Value.oneCell']
def BetwPost (w:World) (d:uq0) (e:Ending) (w':World):Prop :=
 ∃p1 p2 p3 p4 p5 p6 c1 c2 c3 c4 c5 c6,e=.returned (.agg (dv d p1 p2 p3 p4 p5 p6 c1 c2 c3 c4 c5 c6))/\DelOwn w' w.heap.size p1 p2 p3 p4 p5 p6 c1 c2 c3 c4 c5 c6 d/\Below w.heap.size w w'
theorem wyg (a b:St) (p1 p2 p3 q1 q2 q3:Zoa) (c1 c2 c3 d1 d2 d3:Nat) (w:World) (ha:StM w w.heap.size p1 p2 p3 a) (hb:StM w w.heap.size q1 q2 q3 b) (zj:a.jobs.length<=1000/\b.jobs.length<=1000) (zn:a.nodes.length<=1000/\b.nodes.length<=1000) (zl:a.leases.length<=1000/\b.leases.length<=1000) :
  Calls prog 73 #[.agg (stv a p1 p2 p3 c1 c2 c3),.agg (stv b q1 q2 q3 d1 d2 d3)] w fun e w'=>BetwPost w (betw a b) e w':=by
 have hzd:=ux6
 have HJ:=zrj (fun(W:World) (hW:Below w.heap.size w W)=>wvc p1 q1 c1 d1 a.jobs b.jobs W ((ha.j.below hW).more hW.size) ((hb.j.below hW).more hW.size) zj.1 zj.2)
 have HN:=zrj (fun(W:World) (hW:Below w.heap.size w W)=>wve p2 q2 c2 d2 a.nodes b.nodes W ((ha.n.below hW).more hW.size) ((hb.n.below hW).more hW.size) zn.1 zn.2)
 have HL:=zrj (fun(W:World) (hW:Below w.heap.size w W)=>wvd p3 q3 c3 d3 a.leases b.leases W ((ha.l.below hW).more hW.size) ((hb.l.below hW).more hW.size) zl.1 zl.2)
 have hB0:Below w.heap.size w (((w.alloc (.cells (stv a p1 p2 p3 c1 c2 c3) 26)).alloc (.cells (stv b q1 q2 q3 d1 d2 d3) 26)).alloc (.cells zdv 118)):=(((zri _ _).alloc (zra _) _).alloc (by simp) _).alloc (by simp;omega) _
 have bA:=((Blk.new w 26 (stv a p1 p2 p3 c1 c2 c3)).alloc (.cells (stv b q1 q2 q3 d1 d2 d3) 26)).alloc (.cells zdv 118)
 have bB:Blk (((w.alloc (.cells (stv a p1 p2 p3 c1 c2 c3) 26)).alloc (.cells (stv b q1 q2 q3 d1 d2 d3) 26)).alloc (.cells zdv 118)) (w.heap.size+1) 26 (stv b q1 q2 q3 d1 d2 d3):=by have:=(Blk.new (w.alloc (.cells (stv a p1 p2 p3 c1 c2 c3) 26)) 26 (stv b q1 q2 q3 d1 d2 d3)).alloc (.cells zdv 118);simpa using this
 have bR:Blk (((w.alloc (.cells (stv a p1 p2 p3 c1 c2 c3) 26)).alloc (.cells (stv b q1 q2 q3 d1 d2 d3) 26)).alloc (.cells zdv 118)) (w.heap.size+1+1) 118 zdv:=by have:=Blk.new ((w.alloc (.cells (stv a p1 p2 p3 c1 c2 c3) 26)).alloc (.cells (stv b q1 q2 q3 d1 d2 d3) 26)) 118 zdv;simpa using this
 have hsz:(((w.alloc (.cells (stv a p1 p2 p3 c1 c2 c3) 26)).alloc (.cells (stv b q1 q2 q3 d1 d2 d3) 26)).alloc (.cells zdv 118)).heap.size=w.heap.size+1+1+1:=by simp
 clear ha hb zj zn zl
 go_enter func73,ntmps73
 go_wp2_with(first | (refine uqf rfl _ _ _ rfl rfl 118 _ #[.int .i64 a.rev,.int .i64 b.rev,.slice none 0 0,.slice none 0 0,.slice none 0 0,.slice none 0 0,.slice none 0 0,.slice none 0 0] rfl uqv rfl (ukj _ _ _ _ _ _ _ _ _ _ _ _ _ _ _ _ _ _ _ _) ?_))
 generalize((w.alloc (.cells (stv a p1 p2 p3 c1 c2 c3) 26)).alloc (.cells (stv b q1 q2 q3 d1 d2 d3) 26)).alloc (.cells zdv 118)=W0 at *
 have hB1:=hB0.alloc hB0.size (.cells #[.int .i64 a.rev,.int .i64 b.rev,.slice none 0 0,.slice none 0 0,.slice none 0 0,.slice none 0 0,.slice none 0 0,.slice none 0 0] 118)
 have bA1:=bA.alloc (.cells #[.int .i64 a.rev,.int .i64 b.rev,.slice none 0 0,.slice none 0 0,.slice none 0 0,.slice none 0 0,.slice none 0 0,.slice none 0 0] 118)
 have bB1:=bB.alloc (.cells #[.int .i64 a.rev,.int .i64 b.rev,.slice none 0 0,.slice none 0 0,.slice none 0 0,.slice none 0 0,.slice none 0 0,.slice none 0 0] 118)
 have bR1:=bR.alloc (.cells #[.int .i64 a.rev,.int .i64 b.rev,.slice none 0 0,.slice none 0 0,.slice none 0 0,.slice none 0 0,.slice none 0 0,.slice none 0 0] 118)
 have bD1:=Blk.new W0 118 #[.int .i64 a.rev,.int .i64 b.rev,.slice none 0 0,.slice none 0 0,.slice none 0 0,.slice none 0 0,.slice none 0 0,.slice none 0 0]
 rw[hsz] at bD1
 have hlD:w.heap.size+1+1+1<(W0.alloc (.cells #[.int .i64 a.rev,.int .i64 b.rev,.slice none 0 0,.slice none 0 0,.slice none 0 0,.slice none 0 0,.slice none 0 0,.slice none 0 0] 118)).heap.size:=bD1.lt
 clear bA bB bR
 have hn1:¬((w.heap.size+1+1+1)=w.heap.size):=by omega
 have hn2:¬((w.heap.size+1+1+1)=w.heap.size+1):=by omega
 have hn3:¬((w.heap.size+1+1+1)=w.heap.size+1+1):=by omega
 generalize hWd:W0.alloc (.cells #[.int .i64 a.rev,.int .i64 b.rev,.slice none 0 0,.slice none 0 0,.slice none 0 0,.slice none 0 0,.slice none 0 0,.slice none 0 0] 118)=Wd at *
 refine(HJ.out _ hB1).mono ?_
 rintro e v1 ⟨r1,s1,g1,t1,rfl,OS1,OG1,hb1⟩
 have hBv1:=bthen hB1 hb1
 have Av1:=bA1.bl hb1
 have Bv1:=bB1.bl hb1
 have Rv1:=bR1.bl hb1
 have Dv1:=bD1.bl hb1
 have zv1:=hb1.size
 have lv1:(w.heap.size+1+1+1)<Wd.heap.size:=bD1.lt
 clear bA1 bB1 bR1 bD1
 have x1:=Dv1.c2
 have x2:=Dv1.c5
 have y1:v1.frozen? ⟨w.heap.size+1+1+1,2,none⟩=false:=Dv1.frozen 2
 have y2:v1.frozen? ⟨w.heap.size+1+1+1,5,none⟩=false:=Dv1.frozen 5
 have x3:=Av1.c2
 have x4:=Bv1.c2
 have nA1:=(Av1.far (p:=⟨w.heap.size+1+1+1,2,none⟩) (Ne.symm hn1) (Value.slice r1 (setOf a.jobs b.jobs).length s1)).far (p:=⟨w.heap.size+1+1+1,5,none⟩) (Ne.symm hn1) (Value.slice g1 (uqr JobD.name a.jobs b.jobs).length t1)
 have nB1:=(Bv1.far (p:=⟨w.heap.size+1+1+1,2,none⟩) (Ne.symm hn2) (Value.slice r1 (setOf a.jobs b.jobs).length s1)).far (p:=⟨w.heap.size+1+1+1,5,none⟩) (Ne.symm hn2) (Value.slice g1 (uqr JobD.name a.jobs b.jobs).length t1)
 have nR1:=(Rv1.far (p:=⟨w.heap.size+1+1+1,2,none⟩) (Ne.symm hn3) (Value.slice r1 (setOf a.jobs b.jobs).length s1)).far (p:=⟨w.heap.size+1+1+1,5,none⟩) (Ne.symm hn3) (Value.slice g1 (uqr JobD.name a.jobs b.jobs).length t1)
 have nD1:Blk ((v1.setCell ⟨w.heap.size+1+1+1,2,none⟩ (Value.slice r1 (setOf a.jobs b.jobs).length s1)).setCell ⟨w.heap.size+1+1+1,5,none⟩ (Value.slice g1 (uqr JobD.name a.jobs b.jobs).length t1)) (w.heap.size+1+1+1) 118 #[.int .i64 a.rev,.int .i64 b.rev,.slice r1 (setOf a.jobs b.jobs).length s1,.slice none 0 0,.slice none 0 0,.slice g1 (uqr JobD.name a.jobs b.jobs).length t1,.slice none 0 0,.slice none 0 0]:=(Dv1.set_ 2 (Value.slice r1 (setOf a.jobs b.jobs).length s1)).set_ 5 (Value.slice g1 (uqr JobD.name a.jobs b.jobs).length t1)
 have hBn1:=(hBv1.setCell (p:=⟨w.heap.size+1+1+1,2,none⟩) (by show w.heap.size<=(w.heap.size+1+1+1);omega) (Value.slice r1 (setOf a.jobs b.jobs).length s1)).setCell (p:=⟨w.heap.size+1+1+1,5,none⟩) (by show w.heap.size<=(w.heap.size+1+1+1);omega) (Value.slice g1 (uqr JobD.name a.jobs b.jobs).length t1)
 have nOS1:=(OS1.cell_ (a:=⟨w.heap.size+1+1+1,2,none⟩) (by show(w.heap.size+1+1+1)<_;omega) (Value.slice r1 (setOf a.jobs b.jobs).length s1)).cell_ (a:=⟨w.heap.size+1+1+1,5,none⟩) (by show(w.heap.size+1+1+1)<_;omega) (Value.slice g1 (uqr JobD.name a.jobs b.jobs).length t1)
 have nOG1:=(OG1.cell_ (a:=⟨w.heap.size+1+1+1,2,none⟩) (by show(w.heap.size+1+1+1)<_;omega) (Value.slice r1 (setOf a.jobs b.jobs).length s1)).cell_ (a:=⟨w.heap.size+1+1+1,5,none⟩) (by show(w.heap.size+1+1+1)<_;omega) (Value.slice g1 (uqr JobD.name a.jobs b.jobs).length t1)
 clear OS1 OG1
 go_wp2_with fail
 generalize(v1.setCell ⟨w.heap.size+1+1+1,2,none⟩ (Value.slice r1 (setOf a.jobs b.jobs).length s1)).setCell ⟨w.heap.size+1+1+1,5,none⟩ (Value.slice g1 (uqr JobD.name a.jobs b.jobs).length t1)=u1 at *
 clear x1 x2 y1 y2 x3 x4 Av1 Bv1 Rv1 Dv1
 refine(HN.out _ hBn1).mono ?_
 rintro e v2 ⟨r2,s2,g2,t2,rfl,OS2,OG2,hb2⟩
 have hBv2:=bthen hBn1 hb2
 have Av2:=nA1.bl hb2
 have Bv2:=nB1.bl hb2
 have Rv2:=nR1.bl hb2
 have Dv2:=nD1.bl hb2
 have zv2:=hb2.size
 have lv2:(w.heap.size+1+1+1)<u1.heap.size:=nD1.lt
 have nOS1':=nOS1.below hb2
 have nOG1':=nOG1.below hb2
 clear nOS1 nOG1
 clear nA1 nB1 nR1 nD1
 have x1:=Dv2.c3
 have x2:=Dv2.c6
 have y1:v2.frozen? ⟨w.heap.size+1+1+1,3,none⟩=false:=Dv2.frozen 3
 have y2:v2.frozen? ⟨w.heap.size+1+1+1,6,none⟩=false:=Dv2.frozen 6
 have x3:=Av2.c3
 have x4:=Bv2.c3
 have nA2:=(Av2.far (p:=⟨w.heap.size+1+1+1,3,none⟩) (Ne.symm hn1) (Value.slice r2 (setOf a.nodes b.nodes).length s2)).far (p:=⟨w.heap.size+1+1+1,6,none⟩) (Ne.symm hn1) (Value.slice g2 (uqr NodeD.name a.nodes b.nodes).length t2)
 have nB2:=(Bv2.far (p:=⟨w.heap.size+1+1+1,3,none⟩) (Ne.symm hn2) (Value.slice r2 (setOf a.nodes b.nodes).length s2)).far (p:=⟨w.heap.size+1+1+1,6,none⟩) (Ne.symm hn2) (Value.slice g2 (uqr NodeD.name a.nodes b.nodes).length t2)
 have nR2:=(Rv2.far (p:=⟨w.heap.size+1+1+1,3,none⟩) (Ne.symm hn3) (Value.slice r2 (setOf a.nodes b.nodes).length s2)).far (p:=⟨w.heap.size+1+1+1,6,none⟩) (Ne.symm hn3) (Value.slice g2 (uqr NodeD.name a.nodes b.nodes).length t2)
 have nD2:Blk ((v2.setCell ⟨w.heap.size+1+1+1,3,none⟩ (Value.slice r2 (setOf a.nodes b.nodes).length s2)).setCell ⟨w.heap.size+1+1+1,6,none⟩ (Value.slice g2 (uqr NodeD.name a.nodes b.nodes).length t2)) (w.heap.size+1+1+1) 118 #[.int .i64 a.rev,.int .i64 b.rev,.slice r1 (setOf a.jobs b.jobs).length s1,.slice r2 (setOf a.nodes b.nodes).length s2,.slice none 0 0,.slice g1 (uqr JobD.name a.jobs b.jobs).length t1,.slice g2 (uqr NodeD.name a.nodes b.nodes).length t2,.slice none 0 0]:=(Dv2.set_ 3 (Value.slice r2 (setOf a.nodes b.nodes).length s2)).set_ 6 (Value.slice g2 (uqr NodeD.name a.nodes b.nodes).length t2)
 have hBn2:=(hBv2.setCell (p:=⟨w.heap.size+1+1+1,3,none⟩) (by show w.heap.size<=(w.heap.size+1+1+1);omega) (Value.slice r2 (setOf a.nodes b.nodes).length s2)).setCell (p:=⟨w.heap.size+1+1+1,6,none⟩) (by show w.heap.size<=(w.heap.size+1+1+1);omega) (Value.slice g2 (uqr NodeD.name a.nodes b.nodes).length t2)
 have nnOS1:=(nOS1'.cell_ (a:=⟨w.heap.size+1+1+1,3,none⟩) (by show(w.heap.size+1+1+1)<_;omega) (Value.slice r2 (setOf a.nodes b.nodes).length s2)).cell_ (a:=⟨w.heap.size+1+1+1,6,none⟩) (by show(w.heap.size+1+1+1)<_;omega) (Value.slice g2 (uqr NodeD.name a.nodes b.nodes).length t2)
 have nnOG1:=(nOG1'.cell_ (a:=⟨w.heap.size+1+1+1,3,none⟩) (by show(w.heap.size+1+1+1)<_;omega) (Value.slice r2 (setOf a.nodes b.nodes).length s2)).cell_ (a:=⟨w.heap.size+1+1+1,6,none⟩) (by show(w.heap.size+1+1+1)<_;omega) (Value.slice g2 (uqr NodeD.name a.nodes b.nodes).length t2)
 have nOS2:=(OS2.cell_ (a:=⟨w.heap.size+1+1+1,3,none⟩) (by show(w.heap.size+1+1+1)<_;omega) (Value.slice r2 (setOf a.nodes b.nodes).length s2)).cell_ (a:=⟨w.heap.size+1+1+1,6,none⟩) (by show(w.heap.size+1+1+1)<_;omega) (Value.slice g2 (uqr NodeD.name a.nodes b.nodes).length t2)
 have nOG2:=(OG2.cell_ (a:=⟨w.heap.size+1+1+1,3,none⟩) (by show(w.heap.size+1+1+1)<_;omega) (Value.slice r2 (setOf a.nodes b.nodes).length s2)).cell_ (a:=⟨w.heap.size+1+1+1,6,none⟩) (by show(w.heap.size+1+1+1)<_;omega) (Value.slice g2 (uqr NodeD.name a.nodes b.nodes).length t2)
 clear nOS1' nOG1' OS2 OG2
 go_wp2_with fail
 generalize(v2.setCell ⟨w.heap.size+1+1+1,3,none⟩ (Value.slice r2 (setOf a.nodes b.nodes).length s2)).setCell ⟨w.heap.size+1+1+1,6,none⟩ (Value.slice g2 (uqr NodeD.name a.nodes b.nodes).length t2)=u2 at *
 clear x1 x2 y1 y2 x3 x4 Av2 Bv2 Rv2 Dv2
 refine(HL.out _ hBn2).mono ?_
 rintro e v3 ⟨r3,s3,g3,t3,rfl,OS3,OG3,hb3⟩
 have hBv3:=bthen hBn2 hb3
 have Av3:=nA2.bl hb3
 have Bv3:=nB2.bl hb3
 have Rv3:=nR2.bl hb3
 have Dv3:=nD2.bl hb3
 have zv3:=hb3.size
 have lv3:(w.heap.size+1+1+1)<u2.heap.size:=nD2.lt
 have nnOS1':=nnOS1.below hb3
 have nnOG1':=nnOG1.below hb3
 have nOS2':=nOS2.below hb3
 have nOG2':=nOG2.below hb3
 clear nnOS1 nnOG1 nOS2 nOG2
 clear nA2 nB2 nR2 nD2
 have x1:=Dv3.c4
 have x2:=Dv3.c7
 have y1:v3.frozen? ⟨w.heap.size+1+1+1,4,none⟩=false:=Dv3.frozen 4
 have y2:v3.frozen? ⟨w.heap.size+1+1+1,7,none⟩=false:=Dv3.frozen 7
 have nA3:=(Av3.far (p:=⟨w.heap.size+1+1+1,4,none⟩) (Ne.symm hn1) (Value.slice r3 (setOf a.leases b.leases).length s3)).far (p:=⟨w.heap.size+1+1+1,7,none⟩) (Ne.symm hn1) (Value.slice g3 (uqr uqb.job a.leases b.leases).length t3)
 have nB3:=(Bv3.far (p:=⟨w.heap.size+1+1+1,4,none⟩) (Ne.symm hn2) (Value.slice r3 (setOf a.leases b.leases).length s3)).far (p:=⟨w.heap.size+1+1+1,7,none⟩) (Ne.symm hn2) (Value.slice g3 (uqr uqb.job a.leases b.leases).length t3)
 have nR3:=(Rv3.far (p:=⟨w.heap.size+1+1+1,4,none⟩) (Ne.symm hn3) (Value.slice r3 (setOf a.leases b.leases).length s3)).far (p:=⟨w.heap.size+1+1+1,7,none⟩) (Ne.symm hn3) (Value.slice g3 (uqr uqb.job a.leases b.leases).length t3)
 have nD3:Blk ((v3.setCell ⟨w.heap.size+1+1+1,4,none⟩ (Value.slice r3 (setOf a.leases b.leases).length s3)).setCell ⟨w.heap.size+1+1+1,7,none⟩ (Value.slice g3 (uqr uqb.job a.leases b.leases).length t3)) (w.heap.size+1+1+1) 118 #[.int .i64 a.rev,.int .i64 b.rev,.slice r1 (setOf a.jobs b.jobs).length s1,.slice r2 (setOf a.nodes b.nodes).length s2,.slice r3 (setOf a.leases b.leases).length s3,.slice g1 (uqr JobD.name a.jobs b.jobs).length t1,.slice g2 (uqr NodeD.name a.nodes b.nodes).length t2,.slice g3 (uqr uqb.job a.leases b.leases).length t3]:=(Dv3.set_ 4 (Value.slice r3 (setOf a.leases b.leases).length s3)).set_ 7 (Value.slice g3 (uqr uqb.job a.leases b.leases).length t3)
 have hBn3:=(hBv3.setCell (p:=⟨w.heap.size+1+1+1,4,none⟩) (by show w.heap.size<=(w.heap.size+1+1+1);omega) (Value.slice r3 (setOf a.leases b.leases).length s3)).setCell (p:=⟨w.heap.size+1+1+1,7,none⟩) (by show w.heap.size<=(w.heap.size+1+1+1);omega) (Value.slice g3 (uqr uqb.job a.leases b.leases).length t3)
 have nnnOS1:=(nnOS1'.cell_ (a:=⟨w.heap.size+1+1+1,4,none⟩) (by show(w.heap.size+1+1+1)<_;omega) (Value.slice r3 (setOf a.leases b.leases).length s3)).cell_ (a:=⟨w.heap.size+1+1+1,7,none⟩) (by show(w.heap.size+1+1+1)<_;omega) (Value.slice g3 (uqr uqb.job a.leases b.leases).length t3)
 have nnnOG1:=(nnOG1'.cell_ (a:=⟨w.heap.size+1+1+1,4,none⟩) (by show(w.heap.size+1+1+1)<_;omega) (Value.slice r3 (setOf a.leases b.leases).length s3)).cell_ (a:=⟨w.heap.size+1+1+1,7,none⟩) (by show(w.heap.size+1+1+1)<_;omega) (Value.slice g3 (uqr uqb.job a.leases b.leases).length t3)
 have nnOS2:=(nOS2'.cell_ (a:=⟨w.heap.size+1+1+1,4,none⟩) (by show(w.heap.size+1+1+1)<_;omega) (Value.slice r3 (setOf a.leases b.leases).length s3)).cell_ (a:=⟨w.heap.size+1+1+1,7,none⟩) (by show(w.heap.size+1+1+1)<_;omega) (Value.slice g3 (uqr uqb.job a.leases b.leases).length t3)
 have nnOG2:=(nOG2'.cell_ (a:=⟨w.heap.size+1+1+1,4,none⟩) (by show(w.heap.size+1+1+1)<_;omega) (Value.slice r3 (setOf a.leases b.leases).length s3)).cell_ (a:=⟨w.heap.size+1+1+1,7,none⟩) (by show(w.heap.size+1+1+1)<_;omega) (Value.slice g3 (uqr uqb.job a.leases b.leases).length t3)
 have nOS3:=(OS3.cell_ (a:=⟨w.heap.size+1+1+1,4,none⟩) (by show(w.heap.size+1+1+1)<_;omega) (Value.slice r3 (setOf a.leases b.leases).length s3)).cell_ (a:=⟨w.heap.size+1+1+1,7,none⟩) (by show(w.heap.size+1+1+1)<_;omega) (Value.slice g3 (uqr uqb.job a.leases b.leases).length t3)
 have nOG3:=(OG3.cell_ (a:=⟨w.heap.size+1+1+1,4,none⟩) (by show(w.heap.size+1+1+1)<_;omega) (Value.slice r3 (setOf a.leases b.leases).length s3)).cell_ (a:=⟨w.heap.size+1+1+1,7,none⟩) (by show(w.heap.size+1+1+1)<_;omega) (Value.slice g3 (uqr uqb.job a.leases b.leases).length t3)
 clear nnOS1' nnOG1' nOS2' nOG2' OS3 OG3
 go_upto_region 5 with(fail)
 generalize(v3.setCell ⟨w.heap.size+1+1+1,4,none⟩ (Value.slice r3 (setOf a.leases b.leases).length s3)).setCell ⟨w.heap.size+1+1+1,7,none⟩ (Value.slice g3 (uqr uqb.job a.leases b.leases).length t3)=u3 at *
 clear x1 x2 y1 y2 Av3 Bv3 Rv3 Dv3
 have hR:=nR3.setRow #[.int .i64 a.rev,.int .i64 b.rev,.slice r1 (setOf a.jobs b.jobs).length s1,.slice r2 (setOf a.nodes b.nodes).length s2,.slice r3 (setOf a.leases b.leases).length s3,.slice g1 (uqr JobD.name a.jobs b.jobs).length t1,.slice g2 (uqr NodeD.name a.nodes b.nodes).length t2,.slice g3 (uqr uqb.job a.leases b.leases).length t3]
 have hBz:=uqh hBn3 (g:=w.heap.size+1+1) (by omega) #[.int .i64 a.rev,.int .i64 b.rev,.slice r1 (setOf a.jobs b.jobs).length s1,.slice r2 (setOf a.nodes b.nodes).length s2,.slice r3 (setOf a.leases b.leases).length s3,.slice g1 (uqr JobD.name a.jobs b.jobs).length t1,.slice g2 (uqr NodeD.name a.nodes b.nodes).length t2,.slice g3 (uqr uqb.job a.leases b.leases).length t3]
 have znnnOS1:=(nnnOS1.row_ (g:=w.heap.size+1+1) (by omega) #[.int .i64 a.rev,.int .i64 b.rev,.slice r1 (setOf a.jobs b.jobs).length s1,.slice r2 (setOf a.nodes b.nodes).length s2,.slice r3 (setOf a.leases b.leases).length s3,.slice g1 (uqr JobD.name a.jobs b.jobs).length t1,.slice g2 (uqr NodeD.name a.nodes b.nodes).length t2,.slice g3 (uqr uqb.job a.leases b.leases).length t3]).lower (b:=w.heap.size) (by omega)
 have znnnOG1:=(nnnOG1.row_ (g:=w.heap.size+1+1) (by omega) #[.int .i64 a.rev,.int .i64 b.rev,.slice r1 (setOf a.jobs b.jobs).length s1,.slice r2 (setOf a.nodes b.nodes).length s2,.slice r3 (setOf a.leases b.leases).length s3,.slice g1 (uqr JobD.name a.jobs b.jobs).length t1,.slice g2 (uqr NodeD.name a.nodes b.nodes).length t2,.slice g3 (uqr uqb.job a.leases b.leases).length t3]).lower (b:=w.heap.size) (by omega)
 have znnOS2:=(nnOS2.row_ (g:=w.heap.size+1+1) (by omega) #[.int .i64 a.rev,.int .i64 b.rev,.slice r1 (setOf a.jobs b.jobs).length s1,.slice r2 (setOf a.nodes b.nodes).length s2,.slice r3 (setOf a.leases b.leases).length s3,.slice g1 (uqr JobD.name a.jobs b.jobs).length t1,.slice g2 (uqr NodeD.name a.nodes b.nodes).length t2,.slice g3 (uqr uqb.job a.leases b.leases).length t3]).lower (b:=w.heap.size) (by omega)
 have znnOG2:=(nnOG2.row_ (g:=w.heap.size+1+1) (by omega) #[.int .i64 a.rev,.int .i64 b.rev,.slice r1 (setOf a.jobs b.jobs).length s1,.slice r2 (setOf a.nodes b.nodes).length s2,.slice r3 (setOf a.leases b.leases).length s3,.slice g1 (uqr JobD.name a.jobs b.jobs).length t1,.slice g2 (uqr NodeD.name a.nodes b.nodes).length t2,.slice g3 (uqr uqb.job a.leases b.leases).length t3]).lower (b:=w.heap.size) (by omega)
 have znOS3:=(nOS3.row_ (g:=w.heap.size+1+1) (by omega) #[.int .i64 a.rev,.int .i64 b.rev,.slice r1 (setOf a.jobs b.jobs).length s1,.slice r2 (setOf a.nodes b.nodes).length s2,.slice r3 (setOf a.leases b.leases).length s3,.slice g1 (uqr JobD.name a.jobs b.jobs).length t1,.slice g2 (uqr NodeD.name a.nodes b.nodes).length t2,.slice g3 (uqr uqb.job a.leases b.leases).length t3]).lower (b:=w.heap.size) (by omega)
 have znOG3:=(nOG3.row_ (g:=w.heap.size+1+1) (by omega) #[.int .i64 a.rev,.int .i64 b.rev,.slice r1 (setOf a.jobs b.jobs).length s1,.slice r2 (setOf a.nodes b.nodes).length s2,.slice r3 (setOf a.leases b.leases).length s3,.slice g1 (uqr JobD.name a.jobs b.jobs).length t1,.slice g2 (uqr NodeD.name a.nodes b.nodes).length t2,.slice g3 (uqr uqb.job a.leases b.leases).length t3]).lower (b:=w.heap.size) (by omega)
 clear nnnOS1 nnnOG1 nnOS2 nnOG2 nOS3 nOG3
 go_wp2_with(first
  | (refine uqa rfl _ _ rfl (w.heap.size+1+1+1) rfl _ _ nD3 _ underlying118 rfl uqv ?_)
  | (refine uqc rfl _ _ _ rfl (w.heap.size+1+1) rfl _ _ #[.int .i64 a.rev,.int .i64 b.rev,.slice r1 (setOf a.jobs b.jobs).length s1,.slice r2 (setOf a.nodes b.nodes).length s2,.slice r3 (setOf a.leases b.leases).length s3,.slice g1 (uqr JobD.name a.jobs b.jobs).length t1,.slice g2 (uqr NodeD.name a.nodes b.nodes).length t2,.slice g3 (uqr uqb.job a.leases b.leases).length t3] nR3 rfl uqv rfl (ukj _ _ _ _ _ _ _ _ _ _ _ _ _ _ _ _ _ _ _ _) ?_))
 refine bodyPost_ret (uq8 rfl _ rfl hR underlying118 rfl uqv) rfl ?_
 exact⟨r1,r2,r3,g1,g2,g3,s1,s2,s3,t1,t2,t3,rfl,⟨znnnOS1,znnOS2,znOS3,znnnOG1,znnOG2,znOG3⟩,hBz⟩
end Go.Proofs.YtknmnhleicakhaaGreatDoor
