/- Lemmas.
-/
import Derived.Test.YtknmnhleicakhaaGreatDoorPtHubA
set_option linter.all false
set_option maxHeartbeats 16000000
set_option maxRecDepth 100000
namespace Go.Proofs.YtknmnhleicakhaaGreatDoor
open Go.Proofs.Tryz
def folFr (s:Option St) (x:Fr):Option St×Nat :=
 if x.ver≠3 then(s,0) else
 if x.kind=1 then(if(decT 3 x.pl).2=0 then some (decT 3 x.pl).1 else none,(decT 3 x.pl).2) else
 if x.kind=2 then match s with
  | none=>(none,0)
  | some t=>if(decDR x.pl).2≠0 then(none,(decDR x.pl).2) else(if ujb t (decDR x.pl).1=0 then some (ujg t (decDR x.pl).1) else none,ujb t (decDR x.pl).1)
 else(s,0)
def folGo (a:Option St×Nat) (x:Fr):Option St×Nat:=((folFr a.1 x).1,if a.2=0 then(folFr a.1 x).2 else a.2)
def uxl (s:Option St) (fs:List Fr):Option St×Nat:=fs.foldl folGo (s,0)
structure FolD where
 L:Zlu
 st:Option St
def vx4:FolD:=⟨[],none⟩
def FolD.push (f:FolD) (s:Zlu):FolD:=⟨f.L++s,(uxl f.st (newF f.L s)).1⟩
def FolD.code (f:FolD) (s:Zlu):Nat:=if(uxl f.st (newF f.L s)).2=0 then errF (f.L++s) else(uxl f.st (newF f.L s)).2
def FolOk (s:Option St):Prop:=∀t,s=some t->uqp t=0
theorem xjv {s:St} {d:uq0} (h:ujb s d=0):uqp (ujg s d)=0:=by
 unfold ujg
 rw[if_pos h]
 unfold ujb at h
 by_cases h1:uqp s≠0
 ·rw[if_pos h1] at h;exact absurd h h1
 rw[if_neg h1] at h
 by_cases h2:uxn d≠0
 ·rw[if_pos h2] at h;exact absurd h h2
 rw[if_neg h2] at h
 by_cases h3:d.frm≠s.rev
 ·rw[if_pos h3] at h;cases h
 rw[if_neg h3] at h
 by_cases h4:vxx s d=true
 ·rw[if_pos h4] at h;exact h
 ·rw[if_neg h4] at h;cases h
theorem folFr_ok {s:Option St} (hs:FolOk s) (x:Fr):FolOk (folFr s x).1:=by
 intro t ht
 unfold folFr at ht
 by_cases h1:x.ver≠3
 ·rw[if_pos h1] at ht;exact hs t ht
 rw[if_neg h1] at ht
 by_cases h2:x.kind=1
 ·rw[if_pos h2] at ht
  simp only at ht
  by_cases h3:(decT 3 x.pl).2=0
  ·rw[if_pos h3] at ht;injection ht with ht;subst ht;exact(wk6 h3).2.1
  ·rw[if_neg h3] at ht;cases ht
 rw[if_neg h2] at ht
 by_cases h4:x.kind=2
 ·rw[if_pos h4] at ht
  cases s with
  | none=>cases ht
  | some u =>
   simp only at ht
   by_cases h5:(decDR x.pl).2≠0
   ·rw[if_pos h5] at ht;cases ht
   rw[if_neg h5] at ht
   simp only at ht
   by_cases h6:ujb u (decDR x.pl).1=0
   ·rw[if_pos h6] at ht;injection ht with ht;subst ht;exact xjv h6
   ·rw[if_neg h6] at ht;cases ht
 ·rw[if_neg h4] at ht;exact hs t ht
theorem vvt (s:Option St) (fs:List Fr) (x:Fr):uxl s (fs++[x])=folGo (uxl s fs) x:=by unfold uxl;rw[List.foldl_append];rfl
theorem wz5 {s:Option St} (hs:FolOk s):∀(fs:List Fr),FolOk (uxl s fs).1:=by
 have hg:∀(fs:List Fr) (a:Option St×Nat),FolOk a.1->FolOk (fs.foldl folGo a).1:=by
  intro fs
  induction fs with
  | nil=>intro a h;exact h
  | cons x r ih=>intro a h;exact ih _ (folFr_ok h x)
 intro fs
 exact hg fs _ hs
theorem folGo_st (fs:List Fr):∀(s:Option St) (e e':Nat),(fs.foldl folGo (s,e)).1=(fs.foldl folGo (s,e')).1:=by
 induction fs with
 | nil=>intro s e e';rfl
 | cons x r ih=>intro s e e';exact ih _ _ _
theorem uw7 (s:Option St) (a b:List Fr):(uxl s (a++b)).1=(uxl (uxl s a).1 b).1:=by
 unfold uxl
 rw[List.foldl_append]
 exact folGo_st b _ _ _
theorem uyt {s:Option St} {t:St} (ht:uqp t=0):folFr s ⟨3,1,encS 3 t⟩=(some t,0):=by
 unfold folFr
 rw[if_neg (by simp),if_pos rfl,xki ht]
 rfl
theorem vzc (s:Option St) (pl:Zlu):folFr s ⟨3,4,pl⟩=(s,0):=by
 unfold folFr
 rw[if_neg (by simp),if_neg (by dsimp only;decide),if_neg (by dsimp only;decide)]
theorem wvj {a b:St} (ha:uqp a=0) (hb:uqp b=0) (h:a.rev<b.rev) (hl:(encD (betw a b)).length<=6000):folFr (some a) ⟨3,2,encD (betw a b)⟩=(some b,0):=by
 unfold folFr
 rw[if_neg (by simp),if_neg (by dsimp only;decide),if_pos rfl]
 simp only[wzk (vqe ha hb h) hl,(vyc ha hb h).1,(vyc ha hb h).2]
 rfl
open Go.RowKit
def InR (R:Nat->Prop) (n:Nat) (p:Zoa):Prop:=0<n->∀a,p=some a->R a.block
theorem Elts.tchN {w w':World} {O:Nat->Prop} {B size:Nat} {p:Zoa} {rows:List (List Value)} (h:Elts w B size p rows) (hB:B<=w.heap.size) (T:HTch O w w') (hp:0<rows.length->∀a,p=some a->¬O a.block):Elts w' B size p rows :=
 ⟨h.1,fun hn=>by
  obtain⟨a,e,hb,hc⟩:=h.2 hn
  refine⟨a,e,hb,fun k r hr j v hv=>?_⟩
  refine(World.cell?_of_block ?_).trans (hc k r hr j v hv)
  rw[uql,uql]
  exact T.block a.block (by omega) (hp hn a e)⟩
theorem StM.tchN {w w':World} {O:Nat->Prop} {p1 p2 p3:Zoa} {s:St} (h:StM w w.heap.size p1 p2 p3 s) (T:HTch O w w') (h1:InR (fun k=>¬O k) s.jobs.length p1) (h2:InR (fun k=>¬O k) s.nodes.length p2) (h3:InR (fun k=>¬O k) s.leases.length p3):StM w' w'.heap.size p1 p2 p3 s :=
 ⟨(h.j.tchN (zra _) T (fun hn=>h1 (by rwa [zre] at hn))).more T.size,(h.n.tchN (zra _) T (fun hn=>h2 (by rwa [zre] at hn))).more T.size,(h.l.tchN (zra _) T (fun hn=>h3 (by rwa [zre] at hn))).more T.size⟩
theorem InR.mono {R R':Nat->Prop} {n:Nat} {p:Zoa} (h:InR R n p) (hR:∀k,R k->R' k):InR R' n p:=fun hn a ha=>hR _ (h hn a ha)
theorem StM.inR {w:World} {B:Nat} {p1 p2 p3:Zoa} {s:St} (h:StM w B p1 p2 p3 s):InR (· < B) s.jobs.length p1/\InR (· < B) s.nodes.length p2/\InR (· < B) s.leases.length p3 :=
 ⟨fun hn a ha=>by obtain⟨b,e,hb,_⟩:=h.j.2 (by rwa [zre]);rw[ha] at e;injection e with e;subst e;exact hb,
  fun hn a ha=>by obtain⟨b,e,hb,_⟩:=h.n.2 (by rwa [zre]);rw[ha] at e;injection e with e;subst e;exact hb,
  fun hn a ha=>by obtain⟨b,e,hb,_⟩:=h.l.2 (by rwa [zre]);rw[ha] at e;injection e with e;subst e;exact hb⟩
def StPtr (w:World) (R:Nat->Prop) (v:Value):Option St->Prop
 | none=>v=.pointer none
 | some t=>∃b p1 p2 p3 c1 c2 c3,v=zse b/\Blk w b 26 (stv t p1 p2 p3 c1 c2 c3)/\R b/\StM w w.heap.size p1 p2 p3 t/\InR R t.jobs.length p1/\InR R t.nodes.length p2/\InR R t.leases.length p3
def FolT (f fd:Nat) (k:Nat):Prop:=k=f\/k=fd
structure FolM (w:World) (f fd:Nat) (R:Nat->Prop) (x:FolD) (v:Value):Prop where
 b:Blk w f 71 #[zse fd,v]
 s:StPtr w (fun k=>R k/\¬FolT f fd k) v x.st
 e:FeedIs w fd x.L
 r:R f/\R fd
 u:∀k,R k->k<w.heap.size
section
variable {w w':World} {O R R':Nat->Prop} {f fd:Nat} {x:FolD} {v:Value}
theorem StPtr.tch {o:Option St} (h:StPtr w R v o) (T:HTch O w w') (hd:∀k,R k->¬O k):StPtr w' R v o:=by
 cases o with
 | none=>exact h
 | some t =>
  obtain⟨b,p1,p2,p3,c1,c2,c3,rfl,hb,hR,hm,h1,h2,h3⟩:=h
  exact⟨b,p1,p2,p3,c1,c2,c3,rfl,T.blk hb (hd b hR),hR,hm.tchN T (h1.mono hd) (h2.mono hd) (h3.mono hd),h1,h2,h3⟩
theorem FolM.tch (h:FolM w f fd R x v) (T:HTch O w w') (hd:∀k,R k->¬O k):FolM w' f fd R x v :=
 ⟨T.blk h.b (hd f h.r.1),h.s.tch T fun k hk=>hd k hk.1,h.e.tch T (hd fd h.r.2),h.r,fun k hk=>Nat.lt_of_lt_of_le (h.u k hk) T.size⟩
theorem FolM.below (h:FolM w f fd R x v) (hb:Below w.heap.size w w'):FolM w' f fd R x v :=
 h.tch (O:=fun _=>False) ⟨hb.os,hb.tape,hb.output,hb.size,fun k hk _=>hb.block k hk⟩ (fun _ _ h=>h)
theorem StPtr.mono {o:Option St} (h:StPtr w R v o) (hR:∀k,R k->R' k):StPtr w R' v o:=by
 cases o with
 | none=>exact h
 | some t =>
  obtain⟨b,p1,p2,p3,c1,c2,c3,rfl,hb,hb2,hm,h1,h2,h3⟩:=h
  exact⟨b,p1,p2,p3,c1,c2,c3,rfl,hb,hR b hb2,hm,h1.mono hR,h2.mono hR,h3.mono hR⟩
theorem FolM.ne (h:FolM w f fd R x v):f≠fd:=fun e=>by subst e;exact h.e.ne_ h.b (by decide) rfl
end
def xjo (w:World) (s:St) (e:Ending) (w':World):Prop:=∃q1 q2 q3 d1 d2 d3,e=.returned (.tuple #[.agg (stv s q1 q2 q3 d1 d2 d3),.bool true])/\StOwn w' w.heap.size q1 q2 q3 d1 d2 d3 s/\Below w.heap.size w w'
theorem vzw (f fd b:Nat) (s:St) (p1 p2 p3:Zoa) (c1 c2 c3:Nat) (w:World) (hf:Blk w f 71 #[zse fd,zse b]) (hbb:Blk w b 26 (stv s p1 p2 p3 c1 c2 c3)) (hm:StM w w.heap.size p1 p2 p3 s) (hj:s.jobs.length<=1099511627776) (hn:s.nodes.length<=1099511627776) (hl:s.leases.length<=1099511627776) :
  Calls prog 14 #[zse f] w fun e w'=>xjo w s e w':=by
 have hzs:=uq3
 have hb0:=zsa w (.cells zsv 26)
 have z0:=Blk.new w 26 zsv
 have f0:=hf.bl hb0
 have y0:=hbb.bl hb0
 have g1:=f0.cell 1
 have hs1:=zsb w (.cells zsv 26)
 have hB0:=hb0.alloc hb0.size (.cells (stv s p1 p2 p3 c1 c2 c3) 26)
 have bx:Blk ((w.alloc (.cells zsv 26)).alloc (.cells (stv s p1 p2 p3 c1 c2 c3) 26)) (w.heap.size+1) 26 (stv s p1 p2 p3 c1 c2 c3):=by
  have:=Blk.new (w.alloc (.cells zsv 26)) 26 (stv s p1 p2 p3 c1 c2 c3)
  rwa [hs1] at this
 have bz:=z0.alloc (.cells (stv s p1 p2 p3 c1 c2 c3) 26)
 have HJ:=zrj (fun(W:World) (hW:Below w.heap.size w W)=>vyd p1 c1 s.jobs W ((hm.j.below hW).more hW.size) hj)
 have HN:=zrj (fun(W:World) (hW:Below w.heap.size w W)=>vyf p2 c2 s.nodes W ((hm.n.below hW).more hW.size) hn)
 have HL:=zrj (fun(W:World) (hW:Below w.heap.size w W)=>vye p3 c3 s.leases W ((hm.l.below hW).more hW.size) hl)
 clear hm hj hn hl hb0 hf hbb z0 f0
 go_enter func14,ntmps14
 go_upto_region 4 with(first | (refine uqw (by rfl) _ _ rfl b rfl _ _ y0 _ underlying26 rfl uqg ?_) | (refine uqf rfl _ _ _ rfl rfl 26 _ (stv s p1 p2 p3 c1 c2 c3) rfl uqg rfl (ux8 _ _ _ _ _ _ _ _ _ _) ?_))
 clear g1 y0
 (try simp only[hs1])
 generalize(w.alloc (.cells zsv 26)).alloc _=w0 at *
 have hBd:Below w.heap.size w w0.drew:=hB0.drew
 have bx0:=bx.drew
 have bz0:=bz.drew
 generalize hw0:w0.drew=W0 at *
 have e1:=bx0.c1
 have e2:=bx0.c2
 have e3:=bx0.c3
 have hlt0:=bx0.lt
 have hltz:=bz0.lt
 subst hw0
 go_region_law (first
  | (go_simp;go_at_call 28;refine(HJ.out _ hBd).mono ?_;rintro e w1 ⟨q1,d1,rfl,O1,hb1⟩;have hB1:=bthen hBd hb1;have bx1:=bx0.below hb1 hlt0;have bz1:=bz0.below hb1 hltz;have hlt1:=bx1.lt;have hlz1:=bz1.lt;have a2:=bx1.cell 2;have a3:w1.cell? ⟨w.heap.size+1,3,none⟩=some (.slice p3 s.leases.length c3):=bx1.cell 3)
  | (go_simp;go_at_call 29;refine(HN.out _ hB1).mono ?_;rintro e w2 ⟨q2,d2,rfl,O2,hb2⟩;have hB2:=bthen hB1 hb2;have bx2:=bx1.below hb2 hlt1;have bz2:=bz1.below hb2 hlz1;have hlt2:=bx2.lt;have hlz2:=bz2.lt;have i3:w2.cell? ⟨w.heap.size+1,3,none⟩=some (.slice p3 s.leases.length c3):=bx2.cell 3)
  | (go_simp;go_at_call 30;refine(HL.out _ hB2).mono ?_;rintro e w3 ⟨q3,d3,rfl,O3,hb3⟩;have hB3:=bthen hB2 hb3;have bx3:=bx2.below hb3 hlt2;have bz3:=bz2.below hb3 hlz2;have u1:=bx3.cell 1;have u2:=bx3.cell 2;have u3:=bx3.cell 3;have f1:=bx3.frozen 1;have f2:=bx3.frozen 2;have f3:=bx3.frozen 3))
 all_goals(
  have X1:=((bx3.set_ 1 (.slice q1 s.jobs.length d1)).set_ 2 (.slice q2 s.nodes.length d2)).set_ 3 (.slice q3 s.leases.length d3)
  have X:Blk (((w3.setCell ⟨w.heap.size+1,1,none⟩ (.slice q1 s.jobs.length d1)).setCell ⟨w.heap.size+1,2,none⟩ (.slice q2 s.nodes.length d2)).setCell ⟨w.heap.size+1,3,none⟩ (.slice q3 s.leases.length d3)) (w.heap.size+1) 26 (stv s q1 q2 q3 d1 d2 d3):=X1
  have hne:w.heap.size≠w.heap.size+1:=by omega
  have Z:=((bz3.far (p:=⟨w.heap.size+1,1,none⟩) hne (.slice q1 s.jobs.length d1)).far (p:=⟨w.heap.size+1,2,none⟩) hne (.slice q2 s.nodes.length d2)).far (p:=⟨w.heap.size+1,3,none⟩) hne (.slice q3 s.leases.length d3)
  have G1:=ux4 w3 (w.heap.size+1) 1 (.slice q1 s.jobs.length d1)
  have G2:=ux4 (w3.setCell ⟨w.heap.size+1,1,none⟩ (.slice q1 s.jobs.length d1)) (w.heap.size+1) 2 (.slice q2 s.nodes.length d2)
  have G3:=ux4 ((w3.setCell ⟨w.heap.size+1,1,none⟩ (.slice q1 s.jobs.length d1)).setCell ⟨w.heap.size+1,2,none⟩ (.slice q2 s.nodes.length d2)) (w.heap.size+1) 3 (.slice q3 s.leases.length d3)
  have hS3:StOwn w3 w.heap.size q1 q2 q3 d1 d2 d3 s:=⟨((O1.below (B:=0) hb2).below (B:=0) hb3).less hBd.size,(O2.below (B:=0) hb3).less hB1.size,O3.less hB2.size⟩
  have b1:=bx3.set_ 1 (.slice q1 s.jobs.length d1)
  have b2:=b1.set_ 2 (.slice q2 s.nodes.length d2)
  have hS:=((hS3.other G1 bx3 (by decide) (by decide) (by decide)).other G2 b1 (by decide) (by decide) (by decide)).other G3 b2 (by decide) (by decide) (by decide)
  have hB:Below w.heap.size w (((w3.setCell ⟨w.heap.size+1,1,none⟩ (.slice q1 s.jobs.length d1)).setCell ⟨w.heap.size+1,2,none⟩ (.slice q2 s.nodes.length d2)).setCell ⟨w.heap.size+1,3,none⟩ (.slice q3 s.leases.length d3)) :=
   ((hB3.setCell (p:=⟨w.heap.size+1,1,none⟩) (Nat.le_succ _) _).setCell (p:=⟨w.heap.size+1,2,none⟩) (Nat.le_succ _) _).setCell (p:=⟨w.heap.size+1,3,none⟩) (Nat.le_succ _) _
  clear X1 G1 G2 G3 hS3 b1 b2 hB0 hB1 hB2 hB3 hBd hb1 hb2 hb3 O1 O2 O3 bx3 bz3 bx2 bz2 bx1 bz1 bx0 bz0 u1 u2 u3 f1 f2 f3 a2 a3 i3
  try go_simp
  generalize((w3.setCell ⟨w.heap.size+1,1,none⟩ (.slice q1 s.jobs.length d1)).setCell ⟨w.heap.size+1,2,none⟩ (.slice q2 s.nodes.length d2)).setCell ⟨w.heap.size+1,3,none⟩ (.slice q3 s.leases.length d3)=W3 at *
  have G4:=growR W3 w.heap.size (stv s q1 q2 q3 d1 d2 d3)
  have hS4:=zrj (hS.other G4 Z (by decide) (by decide) (by decide))
  have hB4:=zrj (uqh hB (zra _) (stv s q1 q2 q3 d1 d2 d3))
  clear hS hB G4
  go_wp2_with(first
   | (refine uqa rfl _ _ rfl (w.heap.size+1) rfl _ _ X _ underlying26 rfl uqg ?_)
   | (refine uqc rfl _ _ _ rfl w.heap.size rfl _ _ (stv s q1 q2 q3 d1 d2 d3) Z rfl uqg rfl (ux8 _ _ _ _ _ _ _ _ _ _) ?_))
  refine bodyPost_ret (uqi rfl _ rfl (Z.setRow (stv s q1 q2 q3 d1 d2 d3)) underlying26 rfl uqg) rfl ?_
  exact⟨q1,q2,q3,d1,d2,d3,rfl,hS4.out,hB4.out⟩)
theorem wq2 (f fd:Nat) (w:World) (hf:Blk w f 71 #[zse fd,.pointer none]) :
  Calls prog 14 #[zse f] w fun e w'=>e=.returned (.tuple #[.agg zsv,.bool false])/\Below w.heap.size w w':=by
 have hzs:=uq3
 have hb0:=zsa w (.cells zsv 26)
 have z0:=Blk.new w 26 zsv
 have g1:=(hf.bl hb0).cell 1
 clear hf
 go_enter func14,ntmps14
 go_wp2_with(first | (refine uqc rfl _ _ _ rfl w.heap.size rfl _ _ zsv z0 rfl uqg rfl (ux8 _ _ _ _ _ _ _ _ _ _) ?_))
 refine bodyPost_ret (uqi rfl _ rfl (z0.setRow zsv) underlying26 rfl uqg) rfl ?_
 exact⟨rfl,uqh hb0 (zra _) _⟩
theorem xxt (w:World):Calls prog 6 #[] w fun e w'=>∃f fd,e=.returned (zse f)/\w.heap.size<=f/\w.heap.size<=fd/\FolM w' f fd (fun k=>w.heap.size<=k/\k<w'.heap.size) vx4 (.pointer none)/\Below w.heap.size w w':=by
 have HN:=zrj (wv6 w)
 have s1:=zsb w (.cells #[.string .empty,.int .i64 0,.int .i64 0] 96)
 have hb1:=zsa w (.cells #[.string .empty,.int .i64 0,.int .i64 0] 96)
 have bf:=Blk.new w 96 #[.string .empty,.int .i64 0,.int .i64 0]
 go_enter func6,ntmps6
 go_wp2_with fail
 refine HN.out.mono ?_
 rintro e w1 ⟨rfl,rfl⟩
 go_wp2_with fail
 go_ret
 have b2:Blk ((w.alloc (.cells #[.string .empty,.int .i64 0,.int .i64 0] 96)).alloc (.cells #[zse w.heap.size,.pointer none] 71)) (w.heap.size+1) 71 #[zse w.heap.size,.pointer none]:=by
  have:=Blk.new (w.alloc (.cells #[.string .empty,.int .i64 0,.int .i64 0] 96)) 71 #[zse w.heap.size,.pointer none]
  rwa [s1] at this
 have hB:=hb1.alloc hb1.size (.cells #[zse w.heap.size,.pointer none] 71)
 refine⟨w.heap.size+1,w.heap.size,rfl,Nat.le_succ _,zra _,⟨b2,rfl,FeedIs.nil (bf.alloc _),⟨⟨Nat.le_succ _,b2.lt⟩,⟨zra _,?_⟩⟩,fun k hk=>hk.2⟩,hB⟩
 have:=b2.lt
 omega
end Go.Proofs.YtknmnhleicakhaaGreatDoor
