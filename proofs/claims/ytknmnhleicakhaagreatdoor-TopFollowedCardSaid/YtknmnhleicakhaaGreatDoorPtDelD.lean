/- Lemmas.
-/
import Derived.LoopN
import Derived.Test.YtknmnhleicakhaaGreatDoorPtWireB
import Derived.Test.YtknmnhleicakhaaGreatDoorPtDelC
set_option linter.all false
set_option maxHeartbeats 16000000
set_option maxRecDepth 100000
namespace Go.Proofs.YtknmnhleicakhaaGreatDoor
open Go.Proofs.Tryz
def encT (s:Zba):Zlu:=textB s.data.toList
def encD (d:uq0):Zlu :=
 putN d.frm.toNat++(putN (d.upto-d.frm).toNat++(rowsB (encJ 3) d.jobs++(rowsB (encN 3) d.nodes++(rowsB encL d.leases++(rowsB encT d.gj++(rowsB encT d.gn++rowsB encT d.gl))))))
def okSs (n:Nat) (l:List Zba):Prop:=l.length<=n/\∀s∈l,okTx s.data.toList
def okD (d:uq0):Prop :=
 okNb d.frm/\okNb (d.upto-d.frm)/\(d.jobs.length<=40/\∀x∈d.jobs,okJb 3 x)/\(d.nodes.length<=20/\∀x∈d.nodes,okNd 3 x)/\(d.leases.length<=40/\∀x∈d.leases,okLs x)/\okSs 40 d.gj/\okSs 20 d.gn/\okSs 40 d.gl
abbrev DT8:=Int×Int×List JobD×List NodeD×List uqb×List Zba×List Zba×List Zba
def toD (x:DT8):uq0:=⟨x.1,x.1+x.2.1,x.2.2.1,x.2.2.2.1,x.2.2.2.2.1,x.2.2.2.2.2.1,x.2.2.2.2.2.2.1,x.2.2.2.2.2.2.2⟩
def pD8:Zlu->Res DT8 :=
 pSeq pInt fun _=>pSeq pInt fun _=>pSeq (pRows 40 (pJob 3)) fun _=>pSeq (pRows 20 (pNode 3)) fun _=>pSeq (pRows 40 uj8) fun _=>pSeq (pRows 40 pStr) fun _=>pSeq (pRows 20 pStr) fun _=>pRows 40 pStr
def vx5 (l:Zlu):Res uq0:=pMap toD pD8 l
theorem uvf:PP vx5 encD okD :=
 PP.map (enc':=encD) (D':=okD) toD (fun d=>(d.frm,d.upto-d.frm,d.jobs,d.nodes,d.leases,d.gj,d.gn,d.gl))
  (uzg.seq fun _ _=>uzg.seq fun _ _=>((ukl 3).rows 40 (by decide)).seq fun _ _=>((uji 3).rows 20 (by decide)).seq fun _ _=>(uju.rows 40 (by decide)).seq fun _ _=>(uzl.rows 40 (by decide)).seq fun _ _=>(uzl.rows 20 (by decide)).seq fun _ _=>uzl.rows 40 (by decide))
  (fun x h=>by
   have e:x.1+x.2.1-x.1=x.2.1:=by omega
   refine⟨⟨h.1,?_,h.2.2.1,h.2.2.2.1,h.2.2.2.2.1,h.2.2.2.2.2.1,h.2.2.2.2.2.2.1,h.2.2.2.2.2.2.2⟩,?_⟩
   ·show okNb (x.1+x.2.1-x.1);rw[e];exact h.2.1
   ·show(x.1,x.1+x.2.1-x.1,_)=x;rw[e];rfl)
  (fun d h=>⟨⟨h.1,h.2.1,h.2.2.1,h.2.2.2.1,h.2.2.2.2.1,h.2.2.2.2.2.1,h.2.2.2.2.2.2.1,h.2.2.2.2.2.2.2⟩,by
   have e:d.frm+(d.upto-d.frm)=d.upto:=by omega
   cases d;simp only[toD] at e ⊢;rw[e]⟩)
  (fun _ _=>rfl)
theorem vzy {x:JobD} (hj:jobE x=0):okJb 3 x:=by
 unfold jobE at hj
 split at hj
 ·rename_i hn
  rw[Bool.and_eq_true] at hn
  split at hj
  ·rename_i hw
   simp only[Bool.and_eq_true,uq2] at hw
   obtain⟨⟨⟨w1,w2⟩,w3,w4⟩,w5,w6⟩:=hw
   refine⟨uzy hn.1,?_,⟨w3,by omega⟩,?_,?_⟩
   ·unfold zigI;split <;> omega
   ·rw[if_pos (by decide)];exact⟨w5,by omega⟩
   ·rw[if_pos (by decide)];exact vz6 hn.2
  ·cases hj
 ·cases hj
theorem vxm {x:NodeD} (hj:nodeE x=0):okNd 3 x:=by
 unfold nodeE at hj
 split at hj
 ·rename_i hn
  rw[Bool.and_eq_true] at hn
  split at hj
  ·rename_i hw
   have hw:=uq2.1 hw
   refine⟨uzy hn.1,⟨hw.1,by omega⟩,?_⟩
   rw[if_pos (by decide)];exact vz6 hn.2
  ·cases hj
 ·cases hj
theorem uyz {x:uqb} (hj:uzi x=0):okLs x:=by
 unfold uzi at hj
 split at hj
 ·rename_i hn
  rw[Bool.and_eq_true] at hn
  split at hj
  ·rename_i hw
   have hw:=uq2.1 hw
   exact⟨uzy hn.1,uzy hn.2,⟨hw.1,by omega⟩⟩
  ·cases hj
 ·cases hj
theorem uv4 {d:uq0} (h:uxn d=0):okD d:=by
 obtain⟨⟨h1,h2⟩,⟨⟨l1,l2,l3,l4⟩,l5,l6⟩,h3⟩:=vvj h
 have e1:=(uzs.1 (h3 _ (by simp[uz3]:rowsE JobD.name jobE none d.jobs∈uz3 d))).1
 have e2:=(uzs.1 (h3 _ (by simp[uz3]:rowsE NodeD.name nodeE none d.nodes∈uz3 d))).1
 have e3:=(uzs.1 (h3 _ (by simp[uz3]:rowsE uqb.job uzi none d.leases∈uz3 d))).1
 have e4:=uyv (h3 _ (by simp[uz3]:goneE (hasJn d.jobs) none d.gj∈uz3 d))
 have e5:=uyv (h3 _ (by simp[uz3]:goneE (hasNn d.nodes) none d.gn∈uz3 d))
 have e6:=uyv (h3 _ (by simp[uz3]:goneE (hasLn d.leases) none d.gl∈uz3 d))
 exact⟨⟨h1.1,by omega⟩,⟨by omega,by omega⟩,⟨l1,fun x hx=>vzy (e1 x hx)⟩,⟨l5,fun x hx=>vxm (e2 x hx)⟩,⟨l2,fun x hx=>uyz (e3 x hx)⟩,⟨l3,fun s hs=>uzy (e4 s hs)⟩,⟨l6,fun s hs=>uzy (e5 s hs)⟩,⟨l4,fun s hs=>uzy (e6 s hs)⟩⟩
def encDR (d:uq0):Zlu×Nat:=if uxn d≠0 then([],uxn d) else if 6000<(encD d).length then([],2) else(encD d,0)
def decDR (l:Zlu):uq0×Nat :=
 if 6000<l.length then(noD,2) else match vx5 l with
 | .bad e=>(noD,e)
 | .ok d r=>if r≠[] then(noD,4) else if uxn d≠0 then(noD,uxn d) else(d,0)
theorem wyr {d:uq0} (h:(encDR d).2=0):encDR d=(encD d,0)/\uxn d=0/\(encD d).length<=6000:=by
 unfold encDR at h ⊢
 by_cases h1:uxn d≠0
 ·rw[if_pos h1] at h;exact absurd h h1
 ·rw[if_neg h1] at h ⊢
  by_cases h2:6000<(encD d).length
  ·rw[if_pos h2] at h;cases h
  ·rw[if_neg h2];exact⟨rfl,by omega,by omega⟩
theorem xkq {d:uq0} (h:(encDR d).2≠0):(encDR d).1=[]:=by
 unfold encDR at h ⊢
 split
 ·rfl
 ·split
  ·rfl
  ·rename_i h1 h2;rw[if_neg h1,if_neg h2] at h;exact absurd rfl h
theorem wzk {d:uq0} (h:uxn d=0) (hl:(encD d).length<=6000):decDR (encD d)=(d,0):=by
 unfold decDR
 rw[if_neg (by omega)]
 have:=uvf.fwd d [] (uv4 h)
 rw[List.append_nil] at this
 rw[this]
 simp only[]
 rw[if_neg (by simp),if_neg (by simp[h])]
theorem decDR_ok {l:Zlu} (h:(decDR l).2=0):encDR (decDR l).1=(l,0):=by
 unfold decDR at h ⊢
 by_cases h0:6000<l.length
 ·rw[if_pos h0] at h;cases h
 ·rw[if_neg h0] at h ⊢
  cases hp:vx5 l with
  | bad e=>rw[hp] at h;exact absurd h (uvf.err _ _ hp)
  | ok d r =>
   rw[hp] at h
   simp only[] at h ⊢
   by_cases h1:r≠[]
   ·rw[if_pos h1] at h;cases h
   ·rw[if_neg h1] at h ⊢
    by_cases h2:uxn d≠0
    ·rw[if_pos h2] at h;exact absurd h h2
    ·rw[if_neg h2]
     have hb:=(uvf.bwd _ _ _ hp).2
     have hr:r=[]:=by simpa using h1
     rw[hr,List.append_nil] at hb
     unfold encDR
     rw[if_neg h2,<- hb,if_neg h0]
open Go.RowKit
theorem At.part {w:World} {g:Nat} {t:TypeId} {cs:Array Value} (h:Blk w g t cs) (o:Nat) (l:List Value) (hl:∀j v,l[j]?=some v->cs[o+j]?=some v):At w ⟨g,o,none⟩ l:=fun j v hv=>by
 rw[show(⟨g,o,none⟩:Addr).add j=⟨g,o+j,none⟩ from by unfold Addr.add;simp,h.cell]
 exact hl j v hv
theorem vk3 (w:World) (base:Nat):DelOwn w base none none none none none none 0 0 0 0 0 0 noD :=
 ⟨⟨by simp[noD],World.ownsRow_nil _ _ _ _⟩,⟨by simp[noD],World.ownsRow_nil _ _ _ _⟩,⟨by simp[noD],World.ownsRow_nil _ _ _ _⟩,⟨by simp[noD],World.ownsRow_nil _ _ _ _⟩,⟨by simp[noD],World.ownsRow_nil _ _ _ _⟩,⟨by simp[noD],World.ownsRow_nil _ _ _ _⟩⟩
def DiffPost (w:World) (n:Nat) (d:uq0) (e:Ending) (w':World):Prop :=
 ∃p1 p2 p3 p4 p5 p6 c1 c2 c3 c4 c5 c6,e=.returned (.tuple #[.agg (dv d p1 p2 p3 p4 p5 p6 c1 c2 c3 c4 c5 c6),.int .i64 (n:Int)])/\DelOwn w' w.heap.size p1 p2 p3 p4 p5 p6 c1 c2 c3 c4 c5 c6 d/\Below w.heap.size w w'
theorem xzh (x:JobD):((rwJ x):Array Value).all (·.oneCell')=true:=by simp[Value.oneCell']
theorem xkr (t8:TypeId) (g8 g:Nat) (l:Zlu) (x:JobD) (w:World) (h8:Blk w g8 t8 #[zse g]) (h:Wr w g l) (hj:okJb 3 x) (hl:l.length<=70368744177000) (hT:∀w',Below g w w'->Tabs w') :
  Calls prog 125 #[.agg (rwJ x),zse g8] w fun e w'=>e=.returned (.tuple #[])/\Wr w' g (l++encJ 3 x)/\Below g w w'/\WKeep g w w':=by
 have bX:=Blk.new w 38 (rwJ x)
 have hglt:=h.lt
 have B0:Below g w (w.alloc (.cells (rwJ x) 38)):=(zri _ _).alloc (by omega) _
 have K0:WKeep g w (w.alloc (.cells (rwJ x) 38)):=WKeep.of g (Keep.alloc _ _ _)
 have c8:(w.alloc (.cells (rwJ x) 38)).cell? ⟨g8,0,none⟩=some (zse g):=(h8.alloc _).cell 0
 have HC:=zrj (wxu g l x 3 (w.alloc (.cells (rwJ x) 38)) (h.below ((zri _ _).alloc (zra _) _)) hj hl (fun w' hb=>hT _ (B0.trans hb)))
 clear hT h
 go_enter func125,ntmps125
 go_wp2_with(refine uqa rfl _ _ rfl w.heap.size rfl _ _ bX _ underlying38 rfl uqo ?_)
 refine HC.out.mono ?_
 rintro e w1 ⟨rfl,h1,B1,K1⟩
 go_wp2_with fail
 go_end0
 exact⟨rfl,h1,B0.trans B1,K0.trans K1⟩
theorem xwb (t8:TypeId) (g8:Nat) (g:Nat) (l:Zlu) (p:Zoa) (c:Nat) (rows:List JobD) (w:World) (h8:Blk w g8 t8 #[zse g]) (n8:t8≠5 /\ g8≠g) (h:Wr w g l) (hel:Elts w g 5 p (rows.map rowJ)) (hok:∀x∈rows,okJb 3 x) (hn:rows.length<=40) (hl:l.length<=70368744170000) (hT:∀w',Below g w w'->Tabs w') :
  Calls prog 54 #[zse g,.slice p rows.length c,.func (.func 125) #[] #[zse g8]] w fun e w'=>e=.returned (.tuple #[])/\Wr w' g (l++rowsB (encJ 3) rows)/\Below g w w'/\WKeep g w w':=by
 have HT:=zrj hT
 have HO:=zrj hok
 clear hT hok
 go_enter func54,ntmps54
 go_wp2_with fail
 refine(uq5 g l (rows.length:Int) w h (by omega) (by omega)).mono ?_
 rintro e w1 ⟨rfl,h1,B1,K1⟩
 have hp10:(putN ((rows.length:Int)).toNat).length<=10:=uqm _ (by omega)
 go_wp2_with fail
 go_loopw [14] (fun i wr=>∃(k:Nat) (cur:Zlu),k<=rows.length/\i=.int .i64 k/\Wr wr g cur/\Below g w wr/\WKeep g w wr/\Hid (l++rowsB (encJ 3) rows=cur++(rows.drop k).flatMap (encJ 3))/\cur.length<=l.length+10+82*k) (fun i _=>rows.length-(intOf i).toNat)
 case atStart=>exact⟨0,_,Nat.zero_le _,rfl,h1,B1,K1,(show _=_ by unfold rowsB;simp),by rw[zrb];omega⟩
 case round =>
  obtain⟨k,cur,hk,rfl,hW,hB,hK,HH,hlen⟩:=hrel
  by_cases hlt:k<rows.length
  ·have hx:rows[k]?=some rows[k]:=zrd hlt
   have hdr:=vjk rows k _ hx
   have hxo:=HO.out rows[k] (List.getElem_mem hlt)
   generalize rows[k]=x at *
   obtain⟨a,ha,hab,_,hat⟩:=(hel.below hB).at_ (k:=k) (r:=rowJ x) (by rw[zrg,hx];rfl)
   subst ha
   have hxl:=vq8 hxo
   have hW2:Wr (wr.alloc (.cells (rwJ x) 38)) g cur:=hW.below ((zri _ _).alloc (zra _) _)
   have hB2:Below g w (wr.alloc (.cells (rwJ x) 38)):=hB.alloc (by have:=hW.lt;omega) _
   have hK2:WKeep g w (wr.alloc (.cells (rwJ x) 38)):=hK.trans (WKeep.of g (Keep.alloc _ _ _))
   have bX:=Blk.new wr 38 (rwJ x)
   have HC:=zrj (xkr t8 g8 g cur x _ (hK2 _ _ _ n8.1 n8.2 h8) hW2 hxo (by omega) (fun w' hb=>HT.out _ (hB2.trans hb)))
   have HH1:=HH.out
   rw[hdr,List.flatMap_cons,<- zrh] at HH1
   have HH2:=zrj HH1
   clear HH HH1 hdr hx hW hW2
   go_wp2_with(first
    | (refine uqe rfl _ _ rfl (a.add (k*5)) rfl (rlJ x) _ hat underlying38 rfl uqo ?_)
    | (refine uqf rfl _ _ _ rfl rfl _ _ (rwJ x) rfl uqo rfl (xzh _) ?_)
    | (refine uqa rfl _ _ rfl wr.heap.size rfl _ _ bX _ underlying38 rfl uqo ?_))
   refine HC.out.mono ?_
   rintro e w3 ⟨rfl,h3,B3,K3⟩
   go_wp2_with fail
   go_roundw
   case rel=>exact⟨k+1,_,by omega,by go_num,h3,hB2.trans B3,hK2.trans K3,HH2.out,by rw[zrb];omega⟩
   case measure=>simp[intOf];omega
  ·obtain rfl:k=rows.length:=by omega
   have HH1:=HH.out
   rw[List.drop_length,List.flatMap_nil,List.append_nil] at HH1
   have HH2:=zrj HH1
   clear HH HH1
   go_wp2_with fail
   go_end0
   exact⟨rfl,HH2.out ▸ hW,hB,hK⟩
theorem xzi (x:NodeD):((rwN x):Array Value).all (·.oneCell')=true:=by simp[Value.oneCell']
theorem xks (t8:TypeId) (g8 g:Nat) (l:Zlu) (x:NodeD) (w:World) (h8:Blk w g8 t8 #[zse g]) (h:Wr w g l) (hj:okNd 3 x) (hl:l.length<=70368744177000) (hT:∀w',Below g w w'->Tabs w') :
  Calls prog 126 #[.agg (rwN x),zse g8] w fun e w'=>e=.returned (.tuple #[])/\Wr w' g (l++encN 3 x)/\Below g w w'/\WKeep g w w':=by
 have bX:=Blk.new w 40 (rwN x)
 have hglt:=h.lt
 have B0:Below g w (w.alloc (.cells (rwN x) 40)):=(zri _ _).alloc (by omega) _
 have K0:WKeep g w (w.alloc (.cells (rwN x) 40)):=WKeep.of g (Keep.alloc _ _ _)
 have c8:(w.alloc (.cells (rwN x) 40)).cell? ⟨g8,0,none⟩=some (zse g):=(h8.alloc _).cell 0
 have HC:=zrj (vwy g l x 3 (w.alloc (.cells (rwN x) 40)) (h.below ((zri _ _).alloc (zra _) _)) hj hl (fun w' hb=>hT _ (B0.trans hb)))
 clear hT h
 go_enter func126,ntmps126
 go_wp2_with(refine uqa rfl _ _ rfl w.heap.size rfl _ _ bX _ underlying40 rfl uqk ?_)
 refine HC.out.mono ?_
 rintro e w1 ⟨rfl,h1,B1,K1⟩
 go_wp2_with fail
 go_end0
 exact⟨rfl,h1,B0.trans B1,K0.trans K1⟩
theorem xwf (t8:TypeId) (g8:Nat) (g:Nat) (l:Zlu) (p:Zoa) (c:Nat) (rows:List NodeD) (w:World) (h8:Blk w g8 t8 #[zse g]) (n8:t8≠5 /\ g8≠g) (h:Wr w g l) (hel:Elts w g 3 p (rows.map rowN)) (hok:∀x∈rows,okNd 3 x) (hn:rows.length<=40) (hl:l.length<=70368744170000) (hT:∀w',Below g w w'->Tabs w') :
  Calls prog 57 #[zse g,.slice p rows.length c,.func (.func 126) #[] #[zse g8]] w fun e w'=>e=.returned (.tuple #[])/\Wr w' g (l++rowsB (encN 3) rows)/\Below g w w'/\WKeep g w w':=by
 have HT:=zrj hT
 have HO:=zrj hok
 clear hT hok
 go_enter func57,ntmps57
 go_wp2_with fail
 refine(uq5 g l (rows.length:Int) w h (by omega) (by omega)).mono ?_
 rintro e w1 ⟨rfl,h1,B1,K1⟩
 have hp10:(putN ((rows.length:Int)).toNat).length<=10:=uqm _ (by omega)
 go_wp2_with fail
 go_loopw [14] (fun i wr=>∃(k:Nat) (cur:Zlu),k<=rows.length/\i=.int .i64 k/\Wr wr g cur/\Below g w wr/\WKeep g w wr/\Hid (l++rowsB (encN 3) rows=cur++(rows.drop k).flatMap (encN 3))/\cur.length<=l.length+10+62*k) (fun i _=>rows.length-(intOf i).toNat)
 case atStart=>exact⟨0,_,Nat.zero_le _,rfl,h1,B1,K1,(show _=_ by unfold rowsB;simp),by rw[zrb];omega⟩
 case round =>
  obtain⟨k,cur,hk,rfl,hW,hB,hK,HH,hlen⟩:=hrel
  by_cases hlt:k<rows.length
  ·have hx:rows[k]?=some rows[k]:=zrd hlt
   have hdr:=vjk rows k _ hx
   have hxo:=HO.out rows[k] (List.getElem_mem hlt)
   generalize rows[k]=x at *
   obtain⟨a,ha,hab,_,hat⟩:=(hel.below hB).at_ (k:=k) (r:=rowN x) (by rw[zrg,hx];rfl)
   subst ha
   have hxl:=vq9 hxo
   have hW2:Wr (wr.alloc (.cells (rwN x) 40)) g cur:=hW.below ((zri _ _).alloc (zra _) _)
   have hB2:Below g w (wr.alloc (.cells (rwN x) 40)):=hB.alloc (by have:=hW.lt;omega) _
   have hK2:WKeep g w (wr.alloc (.cells (rwN x) 40)):=hK.trans (WKeep.of g (Keep.alloc _ _ _))
   have bX:=Blk.new wr 40 (rwN x)
   have HC:=zrj (xks t8 g8 g cur x _ (hK2 _ _ _ n8.1 n8.2 h8) hW2 hxo (by omega) (fun w' hb=>HT.out _ (hB2.trans hb)))
   have HH1:=HH.out
   rw[hdr,List.flatMap_cons,<- zrh] at HH1
   have HH2:=zrj HH1
   clear HH HH1 hdr hx hW hW2
   go_wp2_with(first
    | (refine uqe rfl _ _ rfl (a.add (k*3)) rfl (rlN x) _ hat underlying40 rfl uqk ?_)
    | (refine uqf rfl _ _ _ rfl rfl _ _ (rwN x) rfl uqk rfl (xzi _) ?_)
    | (refine uqa rfl _ _ rfl wr.heap.size rfl _ _ bX _ underlying40 rfl uqk ?_))
   refine HC.out.mono ?_
   rintro e w3 ⟨rfl,h3,B3,K3⟩
   go_wp2_with fail
   go_roundw
   case rel=>exact⟨k+1,_,by omega,by go_num,h3,hB2.trans B3,hK2.trans K3,HH2.out,by rw[zrb];omega⟩
   case measure=>simp[intOf];omega
  ·obtain rfl:k=rows.length:=by omega
   have HH1:=HH.out
   rw[List.drop_length,List.flatMap_nil,List.append_nil] at HH1
   have HH2:=zrj HH1
   clear HH HH1
   go_wp2_with fail
   go_end0
   exact⟨rfl,HH2.out ▸ hW,hB,hK⟩
theorem vky {s:Zba} (h:okTx s.data.toList):(encT s).length<=26:=ux9 h
theorem wxj (g:Nat) (l:Zlu) (p:Zoa) (c:Nat) (rows:List Zba) (w:World) (h:Wr w g l) (hel:Elts w g 1 p (rows.map rowS)) (hok:∀x∈rows,okTx x.data.toList) (hn:rows.length<=40) (hl:l.length<=70368744170000) (hT:∀w',Below g w w'->Tabs w') :
  Calls prog 127 #[zse g,.slice p rows.length c,.func (.func 97) #[zse g] #[]] w fun e w'=>e=.returned (.tuple #[])/\Wr w' g (l++rowsB encT rows)/\Below g w w'/\WKeep g w w':=by
 have HT:=zrj hT
 have HO:=zrj hok
 clear hT hok
 go_enter func127,ntmps127
 go_wp2_with fail
 refine(uq5 g l (rows.length:Int) w h (by omega) (by omega)).mono ?_
 rintro e w1 ⟨rfl,h1,B1,K1⟩
 have hp10:(putN ((rows.length:Int)).toNat).length<=10:=uqm _ (by omega)
 go_wp2_with fail
 go_loopw [14] (fun i wr=>∃(k:Nat) (cur:Zlu),k<=rows.length/\i=.int .i64 k/\Wr wr g cur/\Below g w wr/\WKeep g w wr/\Hid (l++rowsB encT rows=cur++(rows.drop k).flatMap encT)/\cur.length<=l.length+10+62*k) (fun i _=>rows.length-(intOf i).toNat)
 case atStart=>exact⟨0,_,Nat.zero_le _,rfl,h1,B1,K1,(show _=_ by unfold rowsB;simp),by rw[zrb];omega⟩
 case round =>
  obtain⟨k,cur,hk,rfl,hW,hB,hK,HH,hlen⟩:=hrel
  by_cases hlt:k<rows.length
  ·have hx:rows[k]?=some rows[k]:=zrd hlt
   have hdr:=vjk rows k _ hx
   have hxo:=HO.out rows[k] (List.getElem_mem hlt)
   generalize rows[k]=x at *
   obtain⟨a,ha,hab,_,hat⟩:=(hel.below hB).at_ (k:=k) (r:=rowS x) (by rw[zrg,hx];rfl)
   subst ha
   have hxl:=vky hxo
   have hxl2:(textB x.data.toList).length<=26:=hxl
   have e0:wr.cell? (a.add k)=some (.string x):=uy9 hat
   have hk0:(0:Int)<=(k:Int):=by omega
   have hk1:(k:Int)<(rows.length:Int):=by omega
   have HC:=zrj (uz9 g cur x wr hW hxo (by omega) (HT.out _ hB))
   have HH1:=HH.out
   rw[hdr,List.flatMap_cons,<- zrh] at HH1
   have HH2:=zrj HH1
   clear HH HH1 hdr hx hW hat
   go_wp2_with fail
   refine HC.out.mono ?_
   rintro e w3 ⟨rfl,h3,B3,K3⟩
   go_wp2_with fail
   go_roundw
   case rel=>exact⟨k+1,_,by omega,by go_num,h3,hB.trans B3,hK.trans K3,HH2.out,by rw[zrb];omega⟩
   case measure=>simp[intOf];omega
  ·obtain rfl:k=rows.length:=by omega
   have HH1:=HH.out
   rw[List.drop_length,List.flatMap_nil,List.append_nil] at HH1
   have HH2:=zrj HH1
   clear HH HH1
   go_wp2_with fail
   go_end0
   exact⟨rfl,HH2.out ▸ hW,hB,hK⟩
theorem uv7 {α:Type} {enc:α->Zlu} {l:List α} {m:Nat} (h:∀x∈l,(enc x).length<=m) (hl:l.length<=40):(rowsB enc l).length<=10+m*40:=by
 have h1:=uqm l.length (by omega)
 have h2:(l.flatMap enc).length<=m*l.length:=by
  clear hl h1
  induction l with
  | nil=>simp
  | cons a r ih =>
   rw[List.flatMap_cons,zrb,List.length_cons,Nat.mul_succ]
   have:=h a List.mem_cons_self
   have:=ih fun x hx=>h x (List.mem_cons_of_mem _ hx)
   omega
 have h3:m*l.length<=m*40:=Nat.mul_le_mul_left m hl
 unfold rowsB
 rw[zrb]
 omega
def EncPost (w:World) (r:Zlu×Nat) (e:Ending) (w':World):Prop:=e=.returned (.tuple #[.string (bstr r.1),.int .i64 (r.2:Int)])/\Below w.heap.size w w'
theorem wzz (d:uq0) (p1 p2 p3 p4 p5 p6:Zoa) (c1 c2 c3 c4 c5 c6:Nat) (w:World) (hm:DelM w w.heap.size p1 p2 p3 p4 p5 p6 d) (hk:DelOk d) (hT:Tabs w) :
  Calls prog 76 #[.agg (dv d p1 p2 p3 p4 p5 p6 c1 c2 c3 c4 c5 c6)] w fun e w'=>EncPost w (encDR d) e w':=by
 have hb0:=zsa w (.cells (dv d p1 p2 p3 p4 p5 p6 c1 c2 c3 c4 c5 c6) 118)
 have bx:=Blk.new w 118 (dv d p1 p2 p3 p4 p5 p6 c1 c2 c3 c4 c5 c6)
 have HC:=zrj (fun(W:World) (hW:Below w.heap.size w W)=>uv3 d p1 p2 p3 p4 p5 p6 c1 c2 c3 c4 c5 c6 W ((hm.below hW).more hW.size) hk (hT.below hW))
 have HM:=zrj hm
 have HT:=zrj hT
 clear hm hk hT
 by_cases hE:uxn d=0
 ·have hok:=uv4 hE
  have hck:=HC.out
  rw[hE] at hck
  have HC:=zrj hck
  clear hck
  have hw1:IntKind.i64.wrap (d.upto-d.frm)=d.upto-d.frm:=IntWalk.i64_in _ (by have h1:=hok.2.1.1;have h2:=hok.2.1.2;omega)
  have HF:=zrj hok.1
  have HU:=zrj hok.2.1
  have HJ:=zrj hok.2.2.1
  have HN:=zrj hok.2.2.2.1
  have HL:=zrj hok.2.2.2.2.1
  have HG1:=zrj hok.2.2.2.2.2.1
  have HG2:=zrj hok.2.2.2.2.2.2.1
  have HG3:=zrj hok.2.2.2.2.2.2.2
  have l1:=uqm d.frm.toNat (by have:=hok.1.2;omega)
  have l2:=uqm (d.upto-d.frm).toNat (by have:=hok.2.1.2;omega)
  have l3:(rowsB (encJ 3) d.jobs).length<=10+82*40:=uv7 (fun x hx=>vq8 (HJ.out.2 x hx)) HJ.out.1
  have l4:(rowsB (encN 3) d.nodes).length<=10+62*40:=uv7 (fun x hx=>vq9 (HN.out.2 x hx)) (zrc HN.out.1 (by decide))
  have l5:(rowsB encL d.leases).length<=10+62*40:=uv7 (fun x hx=>vzs (HL.out.2 x hx)) HL.out.1
  have l6:(rowsB encT d.gj).length<=10+26*40:=uv7 (fun x hx=>vky (HG1.out.2 x hx)) HG1.out.1
  have l7:(rowsB encT d.gn).length<=10+26*40:=uv7 (fun x hx=>vky (HG2.out.2 x hx)) (zrc HG2.out.1 (by decide))
  have l8:(rowsB encT d.gl).length<=10+26*40:=uv7 (fun x hx=>vky (HG3.out.2 x hx)) HG3.out.1
  have HE0:=zrj hE
  clear hok hE
  have z0:(((0:Nat):Int) != 0)=false:=rfl
  go_enter func76,ntmps76
  go_wp2_with(first | (refine uqa rfl _ _ rfl w.heap.size rfl _ _ bx _ underlying118 rfl uqv ?_))
  generalize w.alloc (.cells (dv d p1 p2 p3 p4 p5 p6 c1 c2 c3 c4 c5 c6) 118)=W0 at *
  refine(HC.out W0 hb0).mono ?_
  rintro e w2 ⟨rfl,hb2⟩
  have hB2:=bthen hb0 hb2
  have bx2:=bx.bl hb2
  clear hb2 bx hb0 HC
  have bw:=Blk.new w2 100 #[.slice none 0 0]
  have hB2a:=hB2.alloc hB2.size (.cells #[.slice none 0 0] 100)
  have hsz2:=hB2.size
  have hs2:=zsb w2 (.cells #[.slice none 0 0] 100)
  have bx2a:=bx2.alloc (.cells #[.slice none 0 0] 100)
  have hlx:=bx2.lt
  have bp:=Blk.new (w2.alloc (.cells #[.slice none 0 0] 100)) 98 #[zse w2.heap.size]
  rw[hs2] at bp
  have hB3:=hB2a.alloc hB2a.size (.cells #[zse w2.heap.size] 98)
  have bx3:=bx2a.alloc (.cells #[zse w2.heap.size] 98)
  have bw3:=bw.alloc (.cells #[zse w2.heap.size] 98)
  have hW3:Wr ((w2.alloc (.cells #[.slice none 0 0] 100)).alloc (.cells #[zse w2.heap.size] 98)) w2.heap.size []:=⟨_,bw3,Buf.nil _ _ _⟩
  have n1:w.heap.size≠w2.heap.size:=by omega
  have n3:w2.heap.size+1≠w2.heap.size:=by omega
  clear bx2 bw bx2a hB2a hs2 hB2 bw3
  have ex:((w2.alloc (.cells #[.slice none 0 0] 100)).alloc (.cells #[zse w2.heap.size] 98)).cell? ⟨w.heap.size,0,none⟩=some (.int .i64 d.frm):=bx3.cell 0
  go_wp2_with fail
  generalize(w2.alloc (.cells #[.slice none 0 0] 100)).alloc (.cells #[zse w2.heap.size] 98)=w3 at *
  refine(uq5 w2.heap.size [] d.frm w3 hW3 HF.out (by simp)).mono ?_
  rintro e w4 ⟨rfl,h4,B4,K4⟩
  rw[List.nil_append] at h4
  have bx4:=K4 _ _ _ (by decide) n1 bx3
  have bp4:=K4 _ _ _ (by decide) n3 bp
  have hB4:=hB3.trans (B4.mono hsz2)
  clear hB3 bx3 bp B4 K4 hW3 ex
  generalize hu4:putN d.frm.toNat=u4 at *
  have x0:=bx4.c0
  have x1:=bx4.c1
  have ep:=bp4.c0
  have H4:=zrj hu4
  clear hu4
  go_wp2_with fail
  refine(uq5 w2.heap.size u4 (d.upto-d.frm) w4 h4 HU.out (by omega)).mono ?_
  rintro e w5 ⟨rfl,h5,B5,K5⟩
  clear x0 x1 ep h4
  have bx5:=K5 _ _ _ (by decide) n1 bx4
  have bp5:=K5 _ _ _ (by decide) n3 bp4
  have hB5:=hB4.trans (B5.mono hsz2)
  clear bx4 bp4 hB4
  obtain⟨u5,hu5⟩:∃u,u4++putN (d.upto-d.frm).toNat=u:=⟨_,rfl⟩
  rw[hu5] at h5
  have lu5:u5.length<=20:=by rw[<- hu5,zrb];omega
  have H5:=zrj hu5
  clear hu5 B5
  clear K5
  have xs:=bx5.c2
  have ep:=bp5.c0
  go_wp2_with fail
  refine(xwb _ (w2.heap.size+1) w2.heap.size u5 p1 c1 d.jobs w5 bp5 ⟨by decide,n3⟩ h5 ((HM.out.j.below hB5).more hsz2) HJ.out.2 (by have:=HJ.out.1;omega) (by omega) (fun w' hb=>HT.out.below (hB5.trans (hb.mono hsz2)))).mono ?_
  rintro e w6 ⟨rfl,h6,B6,K6⟩
  clear xs ep h5
  have bx6:=K6 _ _ _ (by decide) n1 bx5
  have bp6:=K6 _ _ _ (by decide) n3 bp5
  have hB6:=hB5.trans (B6.mono hsz2)
  clear bx5 bp5 hB5
  obtain⟨u6,hu6⟩:∃u,u5++rowsB (encJ 3) d.jobs=u:=⟨_,rfl⟩
  rw[hu6] at h6
  have lu6:u6.length<=3310:=by rw[<- hu6,zrb];omega
  have H6:=zrj hu6
  clear hu6 B6
  clear K6
  have xs:=bx6.c3
  have ep:=bp6.c0
  go_wp2_with fail
  refine(xwf _ (w2.heap.size+1) w2.heap.size u6 p2 c2 d.nodes w6 bp6 ⟨by decide,n3⟩ h6 ((HM.out.n.below hB6).more hsz2) HN.out.2 (by have:=HN.out.1;omega) (by omega) (fun w' hb=>HT.out.below (hB6.trans (hb.mono hsz2)))).mono ?_
  rintro e w7 ⟨rfl,h7,B7,K7⟩
  clear xs ep h6
  have bx7:=K7 _ _ _ (by decide) n1 bx6
  have bp7:=K7 _ _ _ (by decide) n3 bp6
  have hB7:=hB6.trans (B7.mono hsz2)
  clear bx6 bp6 hB6
  obtain⟨u7,hu7⟩:∃u,u6++rowsB (encN 3) d.nodes=u:=⟨_,rfl⟩
  rw[hu7] at h7
  have lu7:u7.length<=5800:=by rw[<- hu7,zrb];omega
  have H7:=zrj hu7
  clear hu7 B7
  clear K7
  have xs:=bx7.c4
  have ep:=bp7.c0
  go_wp2_with fail
  refine(wxh w2.heap.size u7 p3 c3 d.leases w7  h7 ((HM.out.l.below hB7).more hsz2) HL.out.2 (by have:=HL.out.1;omega) (by omega) (fun w' hb=>HT.out.below (hB7.trans (hb.mono hsz2)))).mono ?_
  rintro e w8 ⟨rfl,h8,B8,K8⟩
  clear xs ep h7
  have bx8:=K8 _ _ _ (by decide) n1 bx7
  have bp8:=K8 _ _ _ (by decide) n3 bp7
  have hB8:=hB7.trans (B8.mono hsz2)
  clear bx7 bp7 hB7
  obtain⟨u8,hu8⟩:∃u,u7++rowsB encL d.leases=u:=⟨_,rfl⟩
  rw[hu8] at h8
  have lu8:u8.length<=8290:=by rw[<- hu8,zrb];omega
  have H8:=zrj hu8
  clear hu8 B8
  clear K8
  have x5:=bx8.c5
  have x6:=bx8.c6
  have x7:=bx8.c7
  go_wp2_with fail
  have bG:=Blk.new w8 116 #[.slice p4 d.gj.length c4,.slice p5 d.gn.length c5,.slice p6 d.gl.length c6]
  have h9:=h8.below ((zri _ _).alloc (zra _) (.cells #[.slice p4 d.gj.length c4,.slice p5 d.gn.length c5,.slice p6 d.gl.length c6] 116))
  have hB9:=hB8.alloc hB8.size (.cells #[.slice p4 d.gj.length c4,.slice p5 d.gn.length c5,.slice p6 d.gl.length c6] 116)
  have bp9:=bp8.alloc (.cells #[.slice p4 d.gj.length c4,.slice p5 d.gn.length c5,.slice p6 d.gl.length c6] 116)
  have hgl:w2.heap.size<w8.heap.size:=h8.lt
  have n4:w8.heap.size≠w2.heap.size:=by omega
  clear x5 x6 x7 h8 hB8 bp8 bx8
  generalize w8.alloc (.cells #[.slice p4 d.gj.length c4,.slice p5 d.gn.length c5,.slice p6 d.gl.length c6] 116)=w9 at *
  generalize w8.heap.size=gg at *
  refine wp_loop_rounds 4 ?_
  rw[rounds_succ]
  have xs:=bG.c0
  have ep:=bp9.c0
  go_wp2_with fail
  refine(wxj w2.heap.size u8 p4 c4 d.gj w9 h9 ((HM.out.gj.below hB9).more hsz2) HG1.out.2 (by have:=HG1.out.1;omega) (by omega) (fun w' hb=>HT.out.below (hB9.trans (hb.mono hsz2)))).mono ?_
  rintro e w10 ⟨rfl,h10,B10,K10⟩
  clear xs ep h9
  have bG:=K10 _ _ _ (by decide) n4 bG
  have bp10:=K10 _ _ _ (by decide) n3 bp9
  have hB10:=hB9.trans (B10.mono hsz2)
  clear bp9 hB9
  obtain⟨u10,hu10⟩:∃u,u8++rowsB encT d.gj=u:=⟨_,rfl⟩
  rw[hu10] at h10
  have lu10:u10.length<=9340:=by rw[<- hu10,zrb];omega
  have H10:=zrj hu10
  clear hu10 B10 K10
  go_wp2_with fail
  rw[rounds_succ]
  have xs:=bG.c1
  have ep:=bp10.c0
  go_wp2_with fail
  refine(wxj w2.heap.size u10 p5 c5 d.gn w10 h10 ((HM.out.gn.below hB10).more hsz2) HG2.out.2 (by have:=HG2.out.1;omega) (by omega) (fun w' hb=>HT.out.below (hB10.trans (hb.mono hsz2)))).mono ?_
  rintro e w11 ⟨rfl,h11,B11,K11⟩
  clear xs ep h10
  have bG:=K11 _ _ _ (by decide) n4 bG
  have bp11:=K11 _ _ _ (by decide) n3 bp10
  have hB11:=hB10.trans (B11.mono hsz2)
  clear bp10 hB10
  obtain⟨u11,hu11⟩:∃u,u10++rowsB encT d.gn=u:=⟨_,rfl⟩
  rw[hu11] at h11
  have lu11:u11.length<=10390:=by rw[<- hu11,zrb];omega
  have H11:=zrj hu11
  clear hu11 B11 K11
  go_wp2_with fail
  rw[rounds_succ]
  have xs:=bG.c2
  have ep:=bp11.c0
  go_wp2_with fail
  refine(wxj w2.heap.size u11 p6 c6 d.gl w11 h11 ((HM.out.gl.below hB11).more hsz2) HG3.out.2 (by have:=HG3.out.1;omega) (by omega) (fun w' hb=>HT.out.below (hB11.trans (hb.mono hsz2)))).mono ?_
  rintro e w12 ⟨rfl,h12,B12,K12⟩
  clear xs ep h11
  have bG:=K12 _ _ _ (by decide) n4 bG
  have bp12:=K12 _ _ _ (by decide) n3 bp11
  have hB12:=hB11.trans (B12.mono hsz2)
  clear bp11 hB11
  obtain⟨u12,hu12⟩:∃u,u11++rowsB encT d.gl=u:=⟨_,rfl⟩
  rw[hu12] at h12
  have lu12:u12.length<=11440:=by rw[<- hu12,zrb];omega
  have H12:=zrj hu12
  clear hu12 B12 K12
  go_wp2_with fail
  rw[rounds_succ]
  have hu:u12=encD d:=by rw[<- H12.out,<- H11.out,<- H10.out,<- H8.out,<- H7.out,<- H6.out,<- H5.out,<- H4.out];unfold encD;simp only[zrh]
  rw[hu] at h12
  clear hu
  have HO:=zrj (show encDR d=if 6000<(encD d).length then([],2) else(encD d,0) from by unfold encDR;rw[if_neg (by rw[HE0.out];simp)])
  generalize encD d=out at *
  have ep:=bp12.c0
  obtain⟨vv,bw7,hv7⟩:=h12
  obtain⟨pa,ca,rfl⟩:=hv7.form
  have ew:=bw7.c0
  have hcv:=uzu (P:=prog) (U:=5) (src:=62) (dst:=9) underlying62 underlying5 underlying9 hv7
  have HBz:=zrj hB12
  clear hB12 bw7 hv7 bG bp12 H4 H5 H6 H7 H8 H10 H11 H12
  by_cases hbig:6000<out.length
  ·have hbi:(6000:Int)<(out.length:Int):=by omega
   rw[if_pos hbig] at HO
   clear hbig
   go_wp2_with fail
   go_ret2
   exact⟨by rw[HO.out];rfl,HBz.out⟩
  ·have hbi:¬(6000:Int)<(out.length:Int):=by omega
   have hbd:decide ((6000:Int)<(out.length:Int))=false:=decide_eq_false hbi
   rw[if_neg hbig] at HO
   clear hbig
   go_wp2_with fail
   go_ret2
   exact⟨by rw[HO.out];rfl,HBz.out⟩
 ·have HO:=zrj (show encDR d=([],uxn d) from by unfold encDR;rw[if_pos hE])
  have hne:((uxn d:Int) != 0)=true:=by rw[bne_iff_ne];omega
  generalize uxn d=er at *
  clear hE
  go_enter func76,ntmps76
  go_wp2_with(first | (refine uqa rfl _ _ rfl w.heap.size rfl _ _ bx _ underlying118 rfl uqv ?_))
  refine(HC.out _ hb0).mono ?_
  rintro e w2 ⟨rfl,hb2⟩
  have hB2:=bthen hb0 hb2
  go_wp2_with fail
  go_ret2
  exact⟨by rw[HO.out];rfl,hB2⟩
end Go.Proofs.YtknmnhleicakhaaGreatDoor
