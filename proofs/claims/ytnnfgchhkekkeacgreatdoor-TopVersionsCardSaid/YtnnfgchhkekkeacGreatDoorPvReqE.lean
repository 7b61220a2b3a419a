/- Lemmas.
-/
import Derived.Test.YtnnfgchhkekkeacGreatDoorPvReqB
import Derived.Test.YtnnfgchhkekkeacGreatDoorPvReqP
set_option linter.all false
set_option maxHeartbeats 16000000
set_option maxRecDepth 100000
namespace Go.Proofs.YtnnfgchhkekkeacGreatDoor
open Go.Proofs.Tryz
open Go.RowKit
theorem part_J {q:ReqD} (hE:reqE q=0) (k1:q.kind=1):jobE q.job=0:=by
 have hp:=(uz6 hE).2.2
 unfold partE at hp;rwa [if_pos k1] at hp
theorem part_N {q:ReqD} (hE:reqE q=0) (k:q.kind=2):nodeE q.node=0:=by
 have hp:=(uz6 hE).2.2
 unfold partE at hp;rwa [if_neg (by omega),if_pos k] at hp
theorem part_L {q:ReqD} (hE:reqE q=0) (k:q.kind=5):ux0 q.lease=0:=by
 have hp:=(uz6 hE).2.2
 unfold partE at hp;rwa [if_neg (by omega),if_neg (by omega),if_pos k] at hp
theorem part_S {q:ReqD} (hE:reqE q=0) (k:q.kind=3\/q.kind=4\/q.kind=6):uq9 q.name=true:=by
 have hp:=(uz6 hE).2.2
 unfold partE at hp;rw[if_neg (by omega),if_neg (by omega),if_neg (by omega),if_pos k] at hp
 cases hn:uq9 q.name
 ·rw[hn] at hp;cases hp
 ·rfl
theorem part_C {q:ReqD} (hE:reqE q=0) (k:q.kind=7):0<=q.n/\q.n<=4611686018427387904:=by
 have hp:=(uz6 hE).2.2
 unfold partE at hp;rw[if_neg (by omega),if_neg (by omega),if_neg (by omega),if_neg (by omega),if_pos k] at hp
 have hj:uq5 q.n 0 1099511627776=true:=by
  cases hn:uq5 q.n 0 1099511627776
  ·rw[hn] at hp;cases hp
  ·rfl
 have hb:=uqs.1 hj
 omega
theorem partJ_B {q:ReqD} (k:q.kind=1):partB q=encJ 3 q.job:=by unfold partB;rw[if_pos k]
theorem partN_B {q:ReqD} (k:q.kind=2):partB q=encN 3 q.node:=by unfold partB;rw[if_neg (by omega),if_pos k]
theorem partL_B {q:ReqD} (k:q.kind=5):partB q=encL q.lease:=by unfold partB;rw[if_neg (by omega),if_neg (by omega),if_pos k]
theorem partS_B {q:ReqD} (k:q.kind=3\/q.kind=4\/q.kind=6):partB q=textB q.name.data.toList:=by unfold partB;rw[if_neg (by omega),if_neg (by omega),if_neg (by omega),if_pos k]
theorem partC_B {q:ReqD} (k:q.kind=7):partB q=putN q.n.toNat:=by unfold partB;rw[if_neg (by omega),if_neg (by omega),if_neg (by omega),if_neg (by omega),if_pos k]
theorem partZ_B {q:ReqD} (k:q.kind=8\/q.kind=9):partB q=[]:=by unfold partB;rw[if_neg (by omega),if_neg (by omega),if_neg (by omega),if_neg (by omega),if_neg (by omega)]
theorem xxa (q:ReqD) (hkind:q.kind=3\/q.kind=4\/q.kind=6) (w:World) :
  Calls prog 66 #[.agg (qv q)] w fun e w'=>∃g,e=.returned (.iface 192 (zse g))/\w.heap.size<=g/\Blk w' g 191 #[.string q.name]/\Below w.heap.size w w':=by
 rcases hkind with h | h | h
 ·exact wj4 q h w
 ·exact wj5 q h w
 ·exact wj6 q h w
theorem xxb (q:ReqD) (hkind:q.kind=8\/q.kind=9) (w:World) :
  Calls prog 66 #[.agg (qv q)] w fun e w'=>e=.returned (.iface 196 (.agg #[]))/\Below w.heap.size w w':=by
 rcases hkind with h | h
 ·exact wj7 q h w
 ·exact wj8 q h w
theorem rputJ (x:JobD) (g d:Nat) (l:Zlu) (w:World) (bg:Blk w g 184 (rwJ x)) (hW:Wr w d l) (hx:okJb 3 x) (hl:l.length<=1000) (hT:∀w',Below d w w'->Tabs w') :
  Calls prog 207 #[zse g,zse d] w fun e w'=>e=.returned (.tuple #[])/\Wr w' d (l++encJ 3 x)/\Below d w w':=by
 have c0:=bg.c0
 have c1:=bg.c1
 have c2:=bg.c2
 have c3:=bg.c3
 have c4:=bg.c4
 have HN:=zrj (vwl d l x 3 w hW hx (by omega) hT)
 clear hT hl hx
 go_enter func207,ntmps207
 go_wp2_with(first | (refine uqe rfl _ _ rfl ⟨g,0,none⟩ rfl (rlJ x) _ (At.blk bg) underlying40 rfl uqo ?_))
 refine HN.out.mono ?_
 rintro e w1 ⟨rfl,h1,B1,_⟩
 go_wp2_with fail
 go_end0
 exact⟨rfl,h1,B1⟩
theorem rputN (x:NodeD) (g d:Nat) (l:Zlu) (w:World) (bg:Blk w g 187 (rwN x)) (hW:Wr w d l) (hx:okNd 3 x) (hl:l.length<=1000) (hT:∀w',Below d w w'->Tabs w') :
  Calls prog 211 #[zse g,zse d] w fun e w'=>e=.returned (.tuple #[])/\Wr w' d (l++encN 3 x)/\Below d w w':=by
 have c0:=bg.c0
 have c1:=bg.c1
 have c2:=bg.c2
 have HN:=zrj (vj0 d l x 3 w hW hx (by omega) hT)
 clear hT hl hx
 go_enter func211,ntmps211
 go_wp2_with(first | (refine uqe rfl _ _ rfl ⟨g,0,none⟩ rfl (rlN x) _ (At.blk bg) underlying42 rfl uqm ?_))
 refine HN.out.mono ?_
 rintro e w1 ⟨rfl,h1,B1,_⟩
 go_wp2_with fail
 go_end0
 exact⟨rfl,h1,B1⟩
theorem rputL (x:uqc) (g d:Nat) (l:Zlu) (w:World) (bg:Blk w g 190 (rwL x)) (hW:Wr w d l) (hx:okLs x) (hl:l.length<=1000) (hT:∀w',Below d w w'->Tabs w') :
  Calls prog 215 #[zse g,zse d] w fun e w'=>e=.returned (.tuple #[])/\Wr w' d (l++encL x)/\Below d w w':=by
 have c0:=bg.c0
 have c1:=bg.c1
 have c2:=bg.c2
 have HN:=zrj (vva d l x w hW hx (by omega) hT)
 clear hT hl hx
 go_enter func215,ntmps215
 go_wp2_with(first | (refine uqe rfl _ _ rfl ⟨g,0,none⟩ rfl (rlL x) _ (At.blk bg) underlying44 rfl uqi ?_))
 refine HN.out.mono ?_
 rintro e w1 ⟨rfl,h1,B1,_⟩
 go_wp2_with fail
 go_end0
 exact⟨rfl,h1,B1⟩
theorem rputS (x:Zba) (g d:Nat) (l:Zlu) (w:World) (bg:Blk w g 191 #[.string x]) (hW:Wr w d l) (hx:okTx x.data.toList) (hl:l.length<=1000) (hT:∀w',Below d w w'->Tabs w') :
  Calls prog 219 #[zse g,zse d] w fun e w'=>e=.returned (.tuple #[])/\Wr w' d (l++textB x.data.toList)/\Below d w w':=by
 have c0:=bg.c0
 have HN:=zrj (uzp d l x w hW hx (by omega) (hT w (zri _ _)))
 clear hT hl hx
 go_enter func219,ntmps219
 go_wp2_with fail
 refine HN.out.mono ?_
 rintro e w1 ⟨rfl,h1,B1,_⟩
 go_wp2_with fail
 go_end0
 exact⟨rfl,h1,B1⟩
theorem rputC (x:Int) (g d:Nat) (l:Zlu) (w:World) (bg:Blk w g 193 #[.int .i64 x]) (hW:Wr w d l) (hx:0<=x/\x<=4611686018427387904) (hl:l.length<=1000) (hT:∀w',Below d w w'->Tabs w') :
  Calls prog 223 #[zse g,zse d] w fun e w'=>e=.returned (.tuple #[])/\Wr w' d (l++putN x.toNat)/\Below d w w':=by
 have c0:=bg.c0
 have HN:=zrj (uqy d l x w hW hx (by omega))
 clear hT hl hx
 go_enter func223,ntmps223
 go_wp2_with fail
 refine HN.out.mono ?_
 rintro e w1 ⟨rfl,h1,B1,_⟩
 go_wp2_with fail
 go_end0
 exact⟨rfl,h1,B1⟩
theorem rputZ (v:Value) (w:World):Calls prog 227 #[.agg #[],v] w fun e w'=>e=.returned (.tuple #[])/\Below w.heap.size w w':=by
 go_enter func227,ntmps227
 go_wp2_with fail
 go_end0
 exact⟨rfl,(zri _ _).alloc (zra _) _⟩
theorem reqEncJ (q:ReqD) (w:World) (HS:ReqSz q) (hT:Tabs w) (hkind:q.kind=1) (hE:reqE q=0) :
  Calls prog 43 #[.agg (qv q)] w fun e w'=>e=.returned (.tuple #[.string (bstr (encQ q)),.int .i64 0])/\Below w.heap.size w w':=by
 have hb0:=zsa w (.cells (qv q) 46)
 have bx0:=Blk.new w 46 (qv q)
 have hCk:=fun(W:World) (hW:Below w.heap.size w W)=>wqj q W HS (hT.below hW) hkind
 rw[hE] at hCk
 have HCk:=zrj hCk
 have hk19:=(uz6 hE).1
 have l1:=uqn q.kind.toNat (by omega)
 have HOK:=zrj (vqs (part_J hE hkind))
 have hQ:encQ q=putN q.kind.toNat++encJ 3 q.job:=by unfold encQ;rw[partJ_B hkind]
 have HQ:=zrj hQ
 have HPO:=zrj (fun(W:World)=>wzi q hkind W)
 have HT:=zrj hT
 have HK:=zrj hk19
 clear hCk hT hQ hkind hE
 go_enter func43,ntmps43
 go_wp2_with fail
 generalize w.alloc _=w0 at *
 go_wp2_with(first | (refine uqa rfl _ _ rfl (w.heap.size) rfl _ _ bx0 _ underlying46 rfl uqb ?_))
 refine(HCk.out w0 hb0).mono ?_
 rintro e w2 ⟨rfl,hb2⟩
 have hB2:=bthen hb0 hb2
 have bx2:=bx0.bl hb2
 clear hb2 hb0 bx0
 have bw:=Blk.new w2 66 #[.slice none 0 0]
 have hB3:=hB2.alloc hB2.size (.cells #[.slice none 0 0] 66)
 have bx3:=bx2.alloc (.cells #[.slice none 0 0] 66)
 have hW3:Wr (w2.alloc (.cells #[.slice none 0 0] 66)) w2.heap.size []:=⟨_,bw,Buf.nil _ _ _⟩
 have n1:w.heap.size≠w2.heap.size:=by have:=bx2.lt;omega
 have hsz2:=hB2.size
 have x0:(w2.alloc (.cells #[.slice none 0 0] 66)).cell? ⟨w.heap.size,0,none⟩=some (.int .i64 q.kind):=bx3.cell 0
 clear bw bx2 hB2
 go_wp2_with fail
 generalize w2.alloc _=w3 at *
 refine(uqy w2.heap.size [] q.kind w3 hW3 (by have:=HK.out;omega) (by simp)).mono ?_
 rintro e w4 ⟨rfl,h4,B4,K4⟩
 rw[List.nil_append] at h4
 have bx4:=K4 _ _ _ (by decide) n1 bx3
 have hB4:=hB3.trans (B4.mono hsz2)
 clear hB3 bx3 B4 K4 hW3 x0
 go_wp2_with(first | (refine uqa rfl _ _ rfl (w.heap.size) rfl _ _ bx4 _ underlying46 rfl uqb ?_))
 refine(HPO.out w4).mono ?_
 rintro e w5 ⟨g,rfl,hg,bg,hb5⟩
 have h5:=h4.below hb5
 have hB5:=bthen hB4 hb5
 have hl4:=h4.lt
 clear hb5 h4 hB4 bx4
 go_wp2_with fail
 refine(rputJ q.job g w2.heap.size _ w5 bg h5 HOK.out (by omega) (fun W hW=>HT.out.below (hB5.trans (hW.mono hsz2)))).mono ?_
 rintro e w6 ⟨rfl,h6,B6⟩
 have hB6:=hB5.trans (B6.mono hsz2)
 rw[<- HQ.out] at h6
 clear hB5 B6 h5 bg
 obtain⟨vv,bw7,hv7⟩:=h6
 obtain⟨pa,ca,rfl⟩:=hv7.form
 have ew:=bw7.c0
 have hcv:=uze (P:=prog) (U:=5) (src:=64) (dst:=9) underlying64 underlying5 underlying9 hv7
 generalize hout:encQ q=out at *
 have HU:=zrj hout
 clear hout
 have HB:=zrj hB6
 clear hB6 bw7 hv7
 go_wp2_with fail
 go_ret2
 exact⟨by rw[HU.out];rfl,HB.out⟩
theorem reqEncN (q:ReqD) (w:World) (HS:ReqSz q) (hT:Tabs w) (hkind:q.kind=2) (hE:reqE q=0) :
  Calls prog 43 #[.agg (qv q)] w fun e w'=>e=.returned (.tuple #[.string (bstr (encQ q)),.int .i64 0])/\Below w.heap.size w w':=by
 have hb0:=zsa w (.cells (qv q) 46)
 have bx0:=Blk.new w 46 (qv q)
 have hCk:=fun(W:World) (hW:Below w.heap.size w W)=>wql q W HS (hT.below hW) hkind
 rw[hE] at hCk
 have HCk:=zrj hCk
 have hk19:=(uz6 hE).1
 have l1:=uqn q.kind.toNat (by omega)
 have HOK:=zrj (uyf (part_N hE hkind))
 have hQ:encQ q=putN q.kind.toNat++encN 3 q.node:=by unfold encQ;rw[partN_B hkind]
 have HQ:=zrj hQ
 have HPO:=zrj (fun(W:World)=>wzk q hkind W)
 have HT:=zrj hT
 have HK:=zrj hk19
 clear hCk hT hQ hkind hE
 go_enter func43,ntmps43
 go_wp2_with fail
 generalize w.alloc _=w0 at *
 go_wp2_with(first | (refine uqa rfl _ _ rfl (w.heap.size) rfl _ _ bx0 _ underlying46 rfl uqb ?_))
 refine(HCk.out w0 hb0).mono ?_
 rintro e w2 ⟨rfl,hb2⟩
 have hB2:=bthen hb0 hb2
 have bx2:=bx0.bl hb2
 clear hb2 hb0 bx0
 have bw:=Blk.new w2 66 #[.slice none 0 0]
 have hB3:=hB2.alloc hB2.size (.cells #[.slice none 0 0] 66)
 have bx3:=bx2.alloc (.cells #[.slice none 0 0] 66)
 have hW3:Wr (w2.alloc (.cells #[.slice none 0 0] 66)) w2.heap.size []:=⟨_,bw,Buf.nil _ _ _⟩
 have n1:w.heap.size≠w2.heap.size:=by have:=bx2.lt;omega
 have hsz2:=hB2.size
 have x0:(w2.alloc (.cells #[.slice none 0 0] 66)).cell? ⟨w.heap.size,0,none⟩=some (.int .i64 q.kind):=bx3.cell 0
 clear bw bx2 hB2
 go_wp2_with fail
 generalize w2.alloc _=w3 at *
 refine(uqy w2.heap.size [] q.kind w3 hW3 (by have:=HK.out;omega) (by simp)).mono ?_
 rintro e w4 ⟨rfl,h4,B4,K4⟩
 rw[List.nil_append] at h4
 have bx4:=K4 _ _ _ (by decide) n1 bx3
 have hB4:=hB3.trans (B4.mono hsz2)
 clear hB3 bx3 B4 K4 hW3 x0
 go_wp2_with(first | (refine uqa rfl _ _ rfl (w.heap.size) rfl _ _ bx4 _ underlying46 rfl uqb ?_))
 refine(HPO.out w4).mono ?_
 rintro e w5 ⟨g,rfl,hg,bg,hb5⟩
 have h5:=h4.below hb5
 have hB5:=bthen hB4 hb5
 have hl4:=h4.lt
 clear hb5 h4 hB4 bx4
 go_wp2_with fail
 refine(rputN q.node g w2.heap.size _ w5 bg h5 HOK.out (by omega) (fun W hW=>HT.out.below (hB5.trans (hW.mono hsz2)))).mono ?_
 rintro e w6 ⟨rfl,h6,B6⟩
 have hB6:=hB5.trans (B6.mono hsz2)
 rw[<- HQ.out] at h6
 clear hB5 B6 h5 bg
 obtain⟨vv,bw7,hv7⟩:=h6
 obtain⟨pa,ca,rfl⟩:=hv7.form
 have ew:=bw7.c0
 have hcv:=uze (P:=prog) (U:=5) (src:=64) (dst:=9) underlying64 underlying5 underlying9 hv7
 generalize hout:encQ q=out at *
 have HU:=zrj hout
 clear hout
 have HB:=zrj hB6
 clear hB6 bw7 hv7
 go_wp2_with fail
 go_ret2
 exact⟨by rw[HU.out];rfl,HB.out⟩
theorem reqEncL (q:ReqD) (w:World) (HS:ReqSz q) (hT:Tabs w) (hkind:q.kind=5) (hE:reqE q=0) :
  Calls prog 43 #[.agg (qv q)] w fun e w'=>e=.returned (.tuple #[.string (bstr (encQ q)),.int .i64 0])/\Below w.heap.size w w':=by
 have hb0:=zsa w (.cells (qv q) 46)
 have bx0:=Blk.new w 46 (qv q)
 have hCk:=fun(W:World) (hW:Below w.heap.size w W)=>wqk q W HS (hT.below hW) hkind
 rw[hE] at hCk
 have HCk:=zrj hCk
 have hk19:=(uz6 hE).1
 have l1:=uqn q.kind.toNat (by omega)
 have HOK:=zrj (uwe (part_L hE hkind))
 have hQ:encQ q=putN q.kind.toNat++encL q.lease:=by unfold encQ;rw[partL_B hkind]
 have HQ:=zrj hQ
 have HPO:=zrj (fun(W:World)=>wzj q hkind W)
 have HT:=zrj hT
 have HK:=zrj hk19
 clear hCk hT hQ hkind hE
 go_enter func43,ntmps43
 go_wp2_with fail
 generalize w.alloc _=w0 at *
 go_wp2_with(first | (refine uqa rfl _ _ rfl (w.heap.size) rfl _ _ bx0 _ underlying46 rfl uqb ?_))
 refine(HCk.out w0 hb0).mono ?_
 rintro e w2 ⟨rfl,hb2⟩
 have hB2:=bthen hb0 hb2
 have bx2:=bx0.bl hb2
 clear hb2 hb0 bx0
 have bw:=Blk.new w2 66 #[.slice none 0 0]
 have hB3:=hB2.alloc hB2.size (.cells #[.slice none 0 0] 66)
 have bx3:=bx2.alloc (.cells #[.slice none 0 0] 66)
 have hW3:Wr (w2.alloc (.cells #[.slice none 0 0] 66)) w2.heap.size []:=⟨_,bw,Buf.nil _ _ _⟩
 have n1:w.heap.size≠w2.heap.size:=by have:=bx2.lt;omega
 have hsz2:=hB2.size
 have x0:(w2.alloc (.cells #[.slice none 0 0] 66)).cell? ⟨w.heap.size,0,none⟩=some (.int .i64 q.kind):=bx3.cell 0
 clear bw bx2 hB2
 go_wp2_with fail
 generalize w2.alloc _=w3 at *
 refine(uqy w2.heap.size [] q.kind w3 hW3 (by have:=HK.out;omega) (by simp)).mono ?_
 rintro e w4 ⟨rfl,h4,B4,K4⟩
 rw[List.nil_append] at h4
 have bx4:=K4 _ _ _ (by decide) n1 bx3
 have hB4:=hB3.trans (B4.mono hsz2)
 clear hB3 bx3 B4 K4 hW3 x0
 go_wp2_with(first | (refine uqa rfl _ _ rfl (w.heap.size) rfl _ _ bx4 _ underlying46 rfl uqb ?_))
 refine(HPO.out w4).mono ?_
 rintro e w5 ⟨g,rfl,hg,bg,hb5⟩
 have h5:=h4.below hb5
 have hB5:=bthen hB4 hb5
 have hl4:=h4.lt
 clear hb5 h4 hB4 bx4
 go_wp2_with fail
 refine(rputL q.lease g w2.heap.size _ w5 bg h5 HOK.out (by omega) (fun W hW=>HT.out.below (hB5.trans (hW.mono hsz2)))).mono ?_
 rintro e w6 ⟨rfl,h6,B6⟩
 have hB6:=hB5.trans (B6.mono hsz2)
 rw[<- HQ.out] at h6
 clear hB5 B6 h5 bg
 obtain⟨vv,bw7,hv7⟩:=h6
 obtain⟨pa,ca,rfl⟩:=hv7.form
 have ew:=bw7.c0
 have hcv:=uze (P:=prog) (U:=5) (src:=64) (dst:=9) underlying64 underlying5 underlying9 hv7
 generalize hout:encQ q=out at *
 have HU:=zrj hout
 clear hout
 have HB:=zrj hB6
 clear hB6 bw7 hv7
 go_wp2_with fail
 go_ret2
 exact⟨by rw[HU.out];rfl,HB.out⟩
theorem reqEncS (q:ReqD) (w:World) (HS:ReqSz q) (hT:Tabs w) (hkind:q.kind=3\/q.kind=4\/q.kind=6) (hE:reqE q=0) :
  Calls prog 43 #[.agg (qv q)] w fun e w'=>e=.returned (.tuple #[.string (bstr (encQ q)),.int .i64 0])/\Below w.heap.size w w':=by
 have hb0:=zsa w (.cells (qv q) 46)
 have bx0:=Blk.new w 46 (qv q)
 have hCk:=fun(W:World) (hW:Below w.heap.size w W)=>wqm q W HS (hT.below hW) hkind
 rw[hE] at hCk
 have HCk:=zrj hCk
 have hk19:=(uz6 hE).1
 have l1:=uqn q.kind.toNat (by omega)
 have HOK:=zrj (uzf (part_S hE hkind))
 have hQ:encQ q=putN q.kind.toNat++textB q.name.data.toList:=by unfold encQ;rw[partS_B hkind]
 have HQ:=zrj hQ
 have HPO:=zrj (fun(W:World)=>xxa q hkind W)
 have HT:=zrj hT
 have HK:=zrj hk19
 clear hCk hT hQ hkind hE
 go_enter func43,ntmps43
 go_wp2_with fail
 generalize w.alloc _=w0 at *
 go_wp2_with(first | (refine uqa rfl _ _ rfl (w.heap.size) rfl _ _ bx0 _ underlying46 rfl uqb ?_))
 refine(HCk.out w0 hb0).mono ?_
 rintro e w2 ⟨rfl,hb2⟩
 have hB2:=bthen hb0 hb2
 have bx2:=bx0.bl hb2
 clear hb2 hb0 bx0
 have bw:=Blk.new w2 66 #[.slice none 0 0]
 have hB3:=hB2.alloc hB2.size (.cells #[.slice none 0 0] 66)
 have bx3:=bx2.alloc (.cells #[.slice none 0 0] 66)
 have hW3:Wr (w2.alloc (.cells #[.slice none 0 0] 66)) w2.heap.size []:=⟨_,bw,Buf.nil _ _ _⟩
 have n1:w.heap.size≠w2.heap.size:=by have:=bx2.lt;omega
 have hsz2:=hB2.size
 have x0:(w2.alloc (.cells #[.slice none 0 0] 66)).cell? ⟨w.heap.size,0,none⟩=some (.int .i64 q.kind):=bx3.cell 0
 clear bw bx2 hB2
 go_wp2_with fail
 generalize w2.alloc _=w3 at *
 refine(uqy w2.heap.size [] q.kind w3 hW3 (by have:=HK.out;omega) (by simp)).mono ?_
 rintro e w4 ⟨rfl,h4,B4,K4⟩
 rw[List.nil_append] at h4
 have bx4:=K4 _ _ _ (by decide) n1 bx3
 have hB4:=hB3.trans (B4.mono hsz2)
 clear hB3 bx3 B4 K4 hW3 x0
 go_wp2_with(first | (refine uqa rfl _ _ rfl (w.heap.size) rfl _ _ bx4 _ underlying46 rfl uqb ?_))
 refine(HPO.out w4).mono ?_
 rintro e w5 ⟨g,rfl,hg,bg,hb5⟩
 have h5:=h4.below hb5
 have hB5:=bthen hB4 hb5
 have hl4:=h4.lt
 clear hb5 h4 hB4 bx4
 go_wp2_with fail
 refine(rputS q.name g w2.heap.size _ w5 bg h5 HOK.out (by omega) (fun W hW=>HT.out.below (hB5.trans (hW.mono hsz2)))).mono ?_
 rintro e w6 ⟨rfl,h6,B6⟩
 have hB6:=hB5.trans (B6.mono hsz2)
 rw[<- HQ.out] at h6
 clear hB5 B6 h5 bg
 obtain⟨vv,bw7,hv7⟩:=h6
 obtain⟨pa,ca,rfl⟩:=hv7.form
 have ew:=bw7.c0
 have hcv:=uze (P:=prog) (U:=5) (src:=64) (dst:=9) underlying64 underlying5 underlying9 hv7
 generalize hout:encQ q=out at *
 have HU:=zrj hout
 clear hout
 have HB:=zrj hB6
 clear hB6 bw7 hv7
 go_wp2_with fail
 go_ret2
 exact⟨by rw[HU.out];rfl,HB.out⟩
theorem reqEncC (q:ReqD) (w:World) (HS:ReqSz q) (hT:Tabs w) (hkind:q.kind=7) (hE:reqE q=0) :
  Calls prog 43 #[.agg (qv q)] w fun e w'=>e=.returned (.tuple #[.string (bstr (encQ q)),.int .i64 0])/\Below w.heap.size w w':=by
 have hb0:=zsa w (.cells (qv q) 46)
 have bx0:=Blk.new w 46 (qv q)
 have hCk:=fun(W:World) (hW:Below w.heap.size w W)=>wqi q W HS (hT.below hW) hkind
 rw[hE] at hCk
 have HCk:=zrj hCk
 have hk19:=(uz6 hE).1
 have l1:=uqn q.kind.toNat (by omega)
 have HOK:=zrj (part_C hE hkind)
 have hQ:encQ q=putN q.kind.toNat++putN q.n.toNat:=by unfold encQ;rw[partC_B hkind]
 have HQ:=zrj hQ
 have HPO:=zrj (fun(W:World)=>wzh q hkind W)
 have HT:=zrj hT
 have HK:=zrj hk19
 clear hCk hT hQ hkind hE
 go_enter func43,ntmps43
 go_wp2_with fail
 generalize w.alloc _=w0 at *
 go_wp2_with(first | (refine uqa rfl _ _ rfl (w.heap.size) rfl _ _ bx0 _ underlying46 rfl uqb ?_))
 refine(HCk.out w0 hb0).mono ?_
 rintro e w2 ⟨rfl,hb2⟩
 have hB2:=bthen hb0 hb2
 have bx2:=bx0.bl hb2
 clear hb2 hb0 bx0
 have bw:=Blk.new w2 66 #[.slice none 0 0]
 have hB3:=hB2.alloc hB2.size (.cells #[.slice none 0 0] 66)
 have bx3:=bx2.alloc (.cells #[.slice none 0 0] 66)
 have hW3:Wr (w2.alloc (.cells #[.slice none 0 0] 66)) w2.heap.size []:=⟨_,bw,Buf.nil _ _ _⟩
 have n1:w.heap.size≠w2.heap.size:=by have:=bx2.lt;omega
 have hsz2:=hB2.size
 have x0:(w2.alloc (.cells #[.slice none 0 0] 66)).cell? ⟨w.heap.size,0,none⟩=some (.int .i64 q.kind):=bx3.cell 0
 clear bw bx2 hB2
 go_wp2_with fail
 generalize w2.alloc _=w3 at *
 refine(uqy w2.heap.size [] q.kind w3 hW3 (by have:=HK.out;omega) (by simp)).mono ?_
 rintro e w4 ⟨rfl,h4,B4,K4⟩
 rw[List.nil_append] at h4
 have bx4:=K4 _ _ _ (by decide) n1 bx3
 have hB4:=hB3.trans (B4.mono hsz2)
 clear hB3 bx3 B4 K4 hW3 x0
 go_wp2_with(first | (refine uqa rfl _ _ rfl (w.heap.size) rfl _ _ bx4 _ underlying46 rfl uqb ?_))
 refine(HPO.out w4).mono ?_
 rintro e w5 ⟨g,rfl,hg,bg,hb5⟩
 have h5:=h4.below hb5
 have hB5:=bthen hB4 hb5
 have hl4:=h4.lt
 clear hb5 h4 hB4 bx4
 go_wp2_with fail
 refine(rputC q.n g w2.heap.size _ w5 bg h5 HOK.out (by omega) (fun W hW=>HT.out.below (hB5.trans (hW.mono hsz2)))).mono ?_
 rintro e w6 ⟨rfl,h6,B6⟩
 have hB6:=hB5.trans (B6.mono hsz2)
 rw[<- HQ.out] at h6
 clear hB5 B6 h5 bg
 obtain⟨vv,bw7,hv7⟩:=h6
 obtain⟨pa,ca,rfl⟩:=hv7.form
 have ew:=bw7.c0
 have hcv:=uze (P:=prog) (U:=5) (src:=64) (dst:=9) underlying64 underlying5 underlying9 hv7
 generalize hout:encQ q=out at *
 have HU:=zrj hout
 clear hout
 have HB:=zrj hB6
 clear hB6 bw7 hv7
 go_wp2_with fail
 go_ret2
 exact⟨by rw[HU.out];rfl,HB.out⟩
theorem reqEncZ (q:ReqD) (w:World) (HS:ReqSz q) (hT:Tabs w) (hkind:q.kind=8\/q.kind=9) (hE:reqE q=0) :
  Calls prog 43 #[.agg (qv q)] w fun e w'=>e=.returned (.tuple #[.string (bstr (encQ q)),.int .i64 0])/\Below w.heap.size w w':=by
 have hb0:=zsa w (.cells (qv q) 46)
 have bx0:=Blk.new w 46 (qv q)
 have hCk:=fun(W:World) (hW:Below w.heap.size w W)=>wqn q W HS (hT.below hW) hkind
 rw[hE] at hCk
 have HCk:=zrj hCk
 have hk19:=(uz6 hE).1
 have l1:=uqn q.kind.toNat (by omega)
 have hQ:encQ q=putN q.kind.toNat++[]:=by unfold encQ;rw[partZ_B hkind]
 have HQ:=zrj hQ
 have HPO:=zrj (fun(W:World)=>xxb q hkind W)
 have HT:=zrj hT
 have HK:=zrj hk19
 clear hCk hT hQ hkind hE
 go_enter func43,ntmps43
 go_wp2_with fail
 generalize w.alloc _=w0 at *
 go_wp2_with(first | (refine uqa rfl _ _ rfl (w.heap.size) rfl _ _ bx0 _ underlying46 rfl uqb ?_))
 refine(HCk.out w0 hb0).mono ?_
 rintro e w2 ⟨rfl,hb2⟩
 have hB2:=bthen hb0 hb2
 have bx2:=bx0.bl hb2
 clear hb2 hb0 bx0
 have bw:=Blk.new w2 66 #[.slice none 0 0]
 have hB3:=hB2.alloc hB2.size (.cells #[.slice none 0 0] 66)
 have bx3:=bx2.alloc (.cells #[.slice none 0 0] 66)
 have hW3:Wr (w2.alloc (.cells #[.slice none 0 0] 66)) w2.heap.size []:=⟨_,bw,Buf.nil _ _ _⟩
 have n1:w.heap.size≠w2.heap.size:=by have:=bx2.lt;omega
 have hsz2:=hB2.size
 have x0:(w2.alloc (.cells #[.slice none 0 0] 66)).cell? ⟨w.heap.size,0,none⟩=some (.int .i64 q.kind):=bx3.cell 0
 clear bw bx2 hB2
 go_wp2_with fail
 generalize w2.alloc _=w3 at *
 refine(uqy w2.heap.size [] q.kind w3 hW3 (by have:=HK.out;omega) (by simp)).mono ?_
 rintro e w4 ⟨rfl,h4,B4,K4⟩
 rw[List.nil_append] at h4
 have bx4:=K4 _ _ _ (by decide) n1 bx3
 have hB4:=hB3.trans (B4.mono hsz2)
 clear hB3 bx3 B4 K4 hW3 x0
 go_wp2_with(first | (refine uqa rfl _ _ rfl (w.heap.size) rfl _ _ bx4 _ underlying46 rfl uqb ?_))
 refine(HPO.out w4).mono ?_
 rintro e w5 ⟨rfl,hb5⟩
 have h5:=h4.below hb5
 have hB5:=bthen hB4 hb5
 have hl4:=h4.lt
 clear hb5 h4 hB4 bx4
 go_wp2_with fail
 refine(rputZ _ w5).mono ?_
 rintro e w6 ⟨rfl,hb6⟩
 have h6:=h5.below hb6
 have hq0:=HQ.out
 rw[List.append_nil] at hq0
 rw[<- hq0] at h6
 have hB6:=bthen hB5 hb6
 clear hB5 hb6 h5 hq0
 obtain⟨vv,bw7,hv7⟩:=h6
 obtain⟨pa,ca,rfl⟩:=hv7.form
 have ew:=bw7.c0
 have hcv:=uze (P:=prog) (U:=5) (src:=64) (dst:=9) underlying64 underlying5 underlying9 hv7
 generalize hout:encQ q=out at *
 have HU:=zrj hout
 clear hout
 have HB:=zrj hB6
 clear hB6 bw7 hv7
 go_wp2_with fail
 go_ret2
 exact⟨by rw[HU.out];rfl,HB.out⟩
theorem wv9 (q:ReqD) (w:World) (HS:ReqSz q) (hT:Tabs w) (hE:reqE q≠0) :
  Calls prog 43 #[.agg (qv q)] w fun e w'=>e=.returned (.tuple #[.string (bstr []),.int .i64 (reqE q:Int)])/\Below w.heap.size w w':=by
 have hb0:=zsa w (.cells (qv q) 46)
 have bx0:=Blk.new w 46 (qv q)
 have HCk:=zrj (fun(W:World) (hW:Below w.heap.size w W)=>uxw q W HS (hT.below hW))
 have hne:((reqE q:Int) != 0)=true:=by rw[bne_iff_ne];omega
 generalize reqE q=er at *
 clear hT hE
 go_enter func43,ntmps43
 go_wp2_with fail
 generalize w.alloc _=w0 at *
 go_wp2_with(first | (refine uqa rfl _ _ rfl (w.heap.size) rfl _ _ bx0 _ underlying46 rfl uqb ?_))
 refine(HCk.out w0 hb0).mono ?_
 rintro e w2 ⟨rfl,hb2⟩
 have hB2:=bthen hb0 hb2
 clear hb2 hb0 bx0
 go_wp2_with fail
 go_ret2
 exact⟨rfl,hB2⟩
theorem vk1 (q:ReqD) (w:World) (HS:ReqSz q) (hT:Tabs w) :
  Calls prog 43 #[.agg (qv q)] w fun e w'=>e=.returned (.tuple #[.string (bstr (encQR q).1),.int .i64 ((encQR q).2:Int)])/\Below w.heap.size w w':=by
 by_cases hE:reqE q=0
 ·have h0:encQR q=(encQ q,0):=by unfold encQR;rw[if_neg (by rw[hE];simp)]
  rw[h0]
  obtain⟨hk,_,_⟩:=uz6 hE
  by_cases h1:q.kind=1
  ·exact reqEncJ q w HS hT h1 hE
  by_cases h2:q.kind=2
  ·exact reqEncN q w HS hT h2 hE
  by_cases h5:q.kind=5
  ·exact reqEncL q w HS hT h5 hE
  by_cases h7:q.kind=7
  ·exact reqEncC q w HS hT h7 hE
  by_cases h8:q.kind=8\/q.kind=9
  ·exact reqEncZ q w HS hT h8 hE
  exact reqEncS q w HS hT (by omega) hE
 ·have h0:encQR q=([],reqE q):=by unfold encQR;rw[if_pos hE]
  rw[h0]
  exact wv9 q w HS hT hE
end Go.Proofs.YtnnfgchhkekkeacGreatDoor
