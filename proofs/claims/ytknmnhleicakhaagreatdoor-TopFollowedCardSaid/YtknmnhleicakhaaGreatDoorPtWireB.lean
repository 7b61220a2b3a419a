/- Lemmas.
-/
import Derived.Test.YtknmnhleicakhaaGreatDoorPtWireA
set_option linter.all false
set_option maxHeartbeats 16000000
set_option maxRecDepth 100000
namespace Go.Proofs.YtknmnhleicakhaaGreatDoor
open Go.Proofs.Tryz
theorem vjk {α:Type} (l:List α) (k:Nat) (x:α) (h:l[k]?=some x):l.drop k=x::l.drop (k+1):=by
 obtain⟨hk,rfl⟩:=List.getElem?_eq_some_iff.1 h
 exact List.drop_eq_getElem_cons hk
theorem sPutJ3 {p:Prop} (h:p:=by
 have bX:=Blk.new w Z1 (Z2 x)
 have hglt:=h.lt
 have B0:Below g w (w.alloc (.cells (Z2 x) Z1)):=(zri _ _).alloc (by(first | omega | (simp only[Z1] at *;omega))) _
 have K0:WKeep g w (w.alloc (.cells (Z2 x) Z1)):=WKeep.of g (Keep.alloc _ _ _)
 have c8:(w.alloc (.cells (Z2 x) Z1)).cell? ⟨g8,0,none⟩=some (zse g):=(h8.alloc _).cell 0
 have c3:(w.alloc (.cells (Z2 x) Z1)).cell? ⟨g3,0,none⟩=some (.int .i64 v):=(h3.alloc _).cell 0
 have HC:=zrj (Z3 g l x v (w.alloc (.cells (Z2 x) Z1)) (h.below ((zri _ _).alloc (zra _) _)) hj hl (fun w' hb=>hT _ (B0.trans hb)))
 clear hT h
 go_enter Z4,Z5
 go_wp2_with(refine uqa rfl _ _ rfl w.heap.size rfl _ _ bX _ Z6 rfl Z7 ?_)
 refine HC.out.mono ?_
 rintro e w1 ⟨rfl,h1,B1,K1⟩
 go_wp2_with fail
 go_end0
 exact⟨rfl,h1,B0.trans B1,K0.trans K1⟩):p:=h
theorem oPutJ4 {p:Prop} (h:p:=by first | omega | (simp only[Z1,Z11,Z15] at *;omega)):p:=h
theorem sPutJ4 {p:Prop} (h:p:=by
 have HT:=zrj hT
 have HO:=zrj hok
 clear hT hok
 go_enter Z8,Z9
 go_wp2_with fail
 refine(uq5 g l (rows.length:Int) w h (by exact oPutJ4) (by exact oPutJ4)).mono ?_
 rintro e w1 ⟨rfl,h1,B1,K1⟩
 have hp10:(putN ((rows.length:Int)).toNat).length<=10:=uqm _ (by exact oPutJ4)
 go_wp2_with fail
 go_loopw [14] (fun i wr=>∃(k:Nat) (cur:Zlu),k<=rows.length/\i=.int .i64 k/\Wr wr g cur/\Below g w wr/\WKeep g w wr/\Hid (l++rowsB (Z10 v) rows=cur++(rows.drop k).flatMap (Z10 v))/\cur.length<=l.length+10+Z11*k) (fun i _=>rows.length-(intOf i).toNat)
 case atStart=>exact⟨0,_,Nat.zero_le _,rfl,h1,B1,K1,(show _=_ by unfold rowsB;simp),by rw[zrb];exact oPutJ4⟩
 case round =>
  obtain⟨k,cur,hk,rfl,hW,hB,hK,HH,hlen⟩:=hrel
  by_cases hlt:k<rows.length
  ·have hx:rows[k]?=some rows[k]:=zrd hlt
   have hdr:=vjk rows k _ hx
   have hxo:=HO.out rows[k] (List.getElem_mem hlt)
   generalize rows[k]=x at *
   obtain⟨a,ha,hab,_,hat⟩:=(hel.below hB).at_ (k:=k) (r:=Z12 x) (by rw[zrg,hx];rfl)
   subst ha
   have hxl:=Z13 hxo
   have hW2:Wr (wr.alloc (.cells (Z2 x) Z1)) g cur:=hW.below ((zri _ _).alloc (zra _) _)
   have hB2:Below g w (wr.alloc (.cells (Z2 x) Z1)):=hB.alloc (by have:=hW.lt;exact oPutJ4) _
   have hK2:WKeep g w (wr.alloc (.cells (Z2 x) Z1)):=hK.trans (WKeep.of g (Keep.alloc _ _ _))
   have bX:=Blk.new wr Z1 (Z2 x)
   have HC:=zrj (Z14 t8 t3 g8 g3 g cur x v _ (hK2 _ _ _ n8.1 n8.2 h8) (hK2 _ _ _ n3.1 n3.2 h3) hW2 hxo (by exact oPutJ4) (fun w' hb=>HT.out _ (hB2.trans hb)))
   have HH1:=HH.out
   rw[hdr,List.flatMap_cons,<- zrh] at HH1
   have HH2:=zrj HH1
   clear HH HH1 hdr hx hW hW2
   go_wp2_with(first
    | (refine uqe rfl _ _ rfl (a.add (k*Z15)) rfl (Z16 x) _ hat Z6 rfl Z7 ?_)
    | (refine uqf rfl _ _ _ rfl rfl _ _ (Z2 x) rfl Z7 rfl (Z17 _) ?_)
    | (refine uqa rfl _ _ rfl wr.heap.size rfl _ _ bX _ Z6 rfl Z7 ?_))
   refine HC.out.mono ?_
   rintro e w3 ⟨rfl,h3,B3,K3⟩
   go_wp2_with fail
   go_roundw
   case rel=>exact⟨k+1,_,by exact oPutJ4,by go_num,h3,hB2.trans B3,hK2.trans K3,HH2.out,by rw[zrb];exact oPutJ4⟩
   case measure=>simp[intOf];exact oPutJ4
  ·obtain rfl:k=rows.length:=by exact oPutJ4
   have HH1:=HH.out
   rw[List.drop_length,List.flatMap_nil,List.append_nil] at HH1
   have HH2:=zrj HH1
   clear HH HH1
   go_wp2_with fail
   go_end0
   exact⟨rfl,HH2.out ▸ hW,hB,hK⟩):p:=h
@[simp] abbrev cPutJ0J:Nat:=38
@[simp] abbrev cPutJ0N:Nat:=40
@[simp] abbrev cPutJ1J:Nat:=82
@[simp] abbrev cPutJ1N:Nat:=62
@[simp] abbrev cPutJ2J:Nat:=5
@[simp] abbrev cPutJ2N:Nat:=3
section
open Go.RowKit
theorem vq8 {v:Int} {j:JobD} (h:okJb v j):(encJ v j).length<=82:=by
 have h1:=ux9 h.1
 have h2:(putN (zigI j.prio).toNat).length<=10:=uqm _ (by have:=h.2.1;omega)
 have h3:(putN j.need.toNat).length<=10:=uqm _ (by have:=h.2.2.1.2;omega)
 have h4:(if decide (1<v)=true then putN j.tries.toNat else[]).length<=10:=by
  have h9:=h.2.2.2.1
  split
  ·rename_i hv;rw[if_pos hv] at h9;exact uqm _ (by have:=h9.2;omega)
  ·simp
 have h5:(if decide (2<v)=true then textB j.tag.data.toList else[]).length<=26:=by
  have h9:=h.2.2.2.2
  split
  ·rename_i hv;rw[if_pos hv] at h9;exact ux9 h9
  ·simp
 unfold encJ
 rw[zrb,zrb,zrb,zrb];omega
theorem xvu (x:JobD):((rwJ x):Array Value).all (·.oneCell')=true:=by simp[Value.oneCell']
open YtknmnhleicakhaaGreatDoor renaming cPutJ0J -> Z1, rwJ -> Z2, wxu -> Z3, uqo -> Z7
open Go.Proofs.Tryz renaming func55 -> Z4, ntmps55 -> Z5, underlying38 -> Z6
theorem encJ_any (t8 t3:TypeId) (g8 g3 g:Nat) (l:Zlu) (x:JobD) (v:Int) (w:World) (h8:Blk w g8 t8 #[zse g]) (h3:Blk w g3 t3 #[.int .i64 v]) (h:Wr w g l) (hj:okJb v x) (hl:l.length<=70368744177000) (hT:∀w',Below g w w'->Tabs w') :
  Calls prog 55 #[.agg (rwJ x),zse g8,zse g3] w fun e w'=>e=.returned (.tuple #[])/\Wr w' g (l++encJ v x)/\Below g w w'/\WKeep g w w':=sPutJ3
open YtknmnhleicakhaaGreatDoor renaming encJ -> Z10, cPutJ1J -> Z11, rowJ -> Z12, vq8 -> Z13, encJ_any -> Z14, cPutJ2J -> Z15, rlJ -> Z16, xvu -> Z17
open Go.Proofs.Tryz renaming func54 -> Z8, ntmps54 -> Z9
theorem xql (t8 t3:TypeId) (g8 g3:Nat) (v:Int) (g:Nat) (l:Zlu) (p:Zoa) (c:Nat) (rows:List JobD) (w:World) (h8:Blk w g8 t8 #[zse g]) (h3:Blk w g3 t3 #[.int .i64 v]) (n8:t8≠5 /\ g8≠g) (n3:t3≠5 /\ g3≠g) (h:Wr w g l) (hel:Elts w g 5 p (rows.map rowJ)) (hok:∀x∈rows,okJb v x) (hn:rows.length<=40) (hl:l.length<=70368744170000) (hT:∀w',Below g w w'->Tabs w') :
  Calls prog 54 #[zse g,.slice p rows.length c,.func (.func 55) #[] #[zse g8,zse g3]] w fun e w'=>e=.returned (.tuple #[])/\Wr w' g (l++rowsB (encJ v) rows)/\Below g w w'/\WKeep g w w':=sPutJ4
end
section
open Go.RowKit
theorem vq9 {v:Int} {j:NodeD} (h:okNd v j):(encN v j).length<=62:=by
 have h1:=ux9 h.1
 have h2:(putN j.room.toNat).length<=10:=uqm _ (by have:=h.2.1.2;omega)
 have h3:(if decide (1<v)=true then textB j.zone.data.toList else[]).length<=26:=by
  have h9:=h.2.2
  split
  ·rename_i hv;rw[if_pos hv] at h9;exact ux9 h9
  ·simp
 unfold encN
 rw[zrb,zrb];omega
theorem xvw (x:NodeD):((rwN x):Array Value).all (·.oneCell')=true:=by simp[Value.oneCell']
open YtknmnhleicakhaaGreatDoor renaming cPutJ0N -> Z1, rwN -> Z2, vwy -> Z3, uqk -> Z7
open Go.Proofs.Tryz renaming func58 -> Z4, ntmps58 -> Z5, underlying40 -> Z6
theorem encN_any (t8 t3:TypeId) (g8 g3 g:Nat) (l:Zlu) (x:NodeD) (v:Int) (w:World) (h8:Blk w g8 t8 #[zse g]) (h3:Blk w g3 t3 #[.int .i64 v]) (h:Wr w g l) (hj:okNd v x) (hl:l.length<=70368744177000) (hT:∀w',Below g w w'->Tabs w') :
  Calls prog 58 #[.agg (rwN x),zse g8,zse g3] w fun e w'=>e=.returned (.tuple #[])/\Wr w' g (l++encN v x)/\Below g w w'/\WKeep g w w':=sPutJ3
open YtknmnhleicakhaaGreatDoor renaming encN -> Z10, cPutJ1N -> Z11, rowN -> Z12, vq9 -> Z13, encN_any -> Z14, cPutJ2N -> Z15, rlN -> Z16, xvw -> Z17
open Go.Proofs.Tryz renaming func57 -> Z8, ntmps57 -> Z9
theorem xqm (t8 t3:TypeId) (g8 g3:Nat) (v:Int) (g:Nat) (l:Zlu) (p:Zoa) (c:Nat) (rows:List NodeD) (w:World) (h8:Blk w g8 t8 #[zse g]) (h3:Blk w g3 t3 #[.int .i64 v]) (n8:t8≠5 /\ g8≠g) (n3:t3≠5 /\ g3≠g) (h:Wr w g l) (hel:Elts w g 3 p (rows.map rowN)) (hok:∀x∈rows,okNd v x) (hn:rows.length<=40) (hl:l.length<=70368744170000) (hT:∀w',Below g w w'->Tabs w') :
  Calls prog 57 #[zse g,.slice p rows.length c,.func (.func 58) #[] #[zse g8,zse g3]] w fun e w'=>e=.returned (.tuple #[])/\Wr w' g (l++rowsB (encN v) rows)/\Below g w w'/\WKeep g w w':=sPutJ4
end
open Go.RowKit
theorem vzs {j:uqb} (h:okLs j):(encL j).length<=62:=by
 have h1:=ux9 h.1
 have h2:=ux9 h.2.1
 have h3:(putN j.till.toNat).length<=10:=uqm _ (by have:=h.2.2.2;omega)
 unfold encL
 rw[zrb,zrb];omega
theorem xvv (x:uqb):((rwL x):Array Value).all (·.oneCell')=true:=by simp[Value.oneCell']
theorem wxh (g:Nat) (l:Zlu) (p:Zoa) (c:Nat) (rows:List uqb) (w:World) (h:Wr w g l) (hel:Elts w g 3 p (rows.map rowL)) (hok:∀x∈rows,okLs x) (hn:rows.length<=40) (hl:l.length<=70368744170000) (hT:∀w',Below g w w'->Tabs w') :
  Calls prog 60 #[zse g,.slice p rows.length c,.func (.func 61) #[zse g] #[]] w fun e w'=>e=.returned (.tuple #[])/\Wr w' g (l++rowsB encL rows)/\Below g w w'/\WKeep g w w':=by
 have HT:=zrj hT
 have HO:=zrj hok
 clear hT hok
 go_enter func60,ntmps60
 go_wp2_with fail
 refine(uq5 g l (rows.length:Int) w h (by omega) (by omega)).mono ?_
 rintro e w1 ⟨rfl,h1,B1,K1⟩
 have hp10:(putN ((rows.length:Int)).toNat).length<=10:=uqm _ (by omega)
 go_wp2_with fail
 go_loopw [14] (fun i wr=>∃(k:Nat) (cur:Zlu),k<=rows.length/\i=.int .i64 k/\Wr wr g cur/\Below g w wr/\WKeep g w wr/\Hid (l++rowsB encL rows=cur++(rows.drop k).flatMap encL)/\cur.length<=l.length+10+62*k) (fun i _=>rows.length-(intOf i).toNat)
 case atStart=>exact⟨0,_,Nat.zero_le _,rfl,h1,B1,K1,(show _=_ by unfold rowsB;simp),by rw[zrb];omega⟩
 case round =>
  obtain⟨k,cur,hk,rfl,hW,hB,hK,HH,hlen⟩:=hrel
  by_cases hlt:k<rows.length
  ·have hx:rows[k]?=some rows[k]:=zrd hlt
   have hdr:=vjk rows k _ hx
   have hxo:=HO.out rows[k] (List.getElem_mem hlt)
   generalize rows[k]=x at *
   obtain⟨a,ha,hab,_,hat⟩:=(hel.below hB).at_ (k:=k) (r:=rowL x) (by rw[zrg,hx];rfl)
   subst ha
   have hxl:=vzs hxo
   have hW2:Wr (wr.alloc (.cells (rwL x) 42)) g cur:=hW.below ((zri _ _).alloc (zra _) _)
   have hB2:Below g w (wr.alloc (.cells (rwL x) 42)):=hB.alloc (by have:=hW.lt;omega) _
   have hK2:WKeep g w (wr.alloc (.cells (rwL x) 42)):=hK.trans (WKeep.of g (Keep.alloc _ _ _))
   have bX:=Blk.new wr 42 (rwL x)
   have HC:=zrj (vy7 g cur x _ hW2 hxo (by omega) (fun w' hb=>HT.out _ (hB2.trans hb)))
   have HH1:=HH.out
   rw[hdr,List.flatMap_cons,<- zrh] at HH1
   have HH2:=zrj HH1
   clear HH HH1 hdr hx hW hW2
   go_wp2_with(first
    | (refine uqe rfl _ _ rfl (a.add (k*3)) rfl (rlL x) _ hat underlying42 rfl uqj ?_)
    | (refine uqf rfl _ _ _ rfl rfl _ _ (rwL x) rfl uqj rfl (xvv _) ?_)
    | (refine uqa rfl _ _ rfl wr.heap.size rfl _ _ bX _ underlying42 rfl uqj ?_))
   refine HC.out.mono ?_
   rintro e w3 ⟨rfl,h3,B3,K3⟩
   go_wp2_with fail
   go_roundw
   case rel=>exact⟨k+1,_,by omega,by go_num,h3,hB2.trans B3,hK2.trans K3,HH2.out,by rw[zrb];omega⟩
   case measure=>simp[intOf];omega
  ·obtain rfl:k=rows.length:=by omega
   have HH1:=HH.out
   rw[List.drop_length,List.flatMap_nil,List.append_nil] at HH1
   have HH2:=zrj HH1
   clear HH HH1
   go_wp2_with fail
   go_end0
   exact⟨rfl,HH2.out ▸ hW,hB,hK⟩
def encR (v:Int) (s:St):Zlu×Nat:=if(fitsR s v).2≠0 then([],(fitsR s v).2) else if(fitsR s v).1=true then(encS v s,0) else([],4)
theorem uyj {α:Type} {enc:α->Zlu} {l:List α} {m:Nat} (h:∀x∈l,(enc x).length<=m) (hl:l.length<=40):(rowsB enc l).length<=10+m*40:=by
 have h1:=uqm l.length (by omega)
 have h2:(l.flatMap enc).length<=m*l.length:=by
  clear hl h1
  induction l with
  | nil=>simp
  | cons a r ih =>
   rw[List.flatMap_cons,zrb,List.length_cons,Nat.mul_succ]
   have:=h a List.mem_cons_self
   have:=ih fun x hx=>h x (List.mem_cons_of_mem _ hx)
   omega
 have h3:m*l.length<=m*40:=Nat.mul_le_mul_left m hl
 unfold rowsB
 rw[zrb]
 omega
theorem vym {s:St} {v:Int} (h0:(fitsR s v).2=0):uqp s=0/\1<=v/\v<=3/\fitsR s v=(fitsB s v,0):=by
 unfold fitsR at h0 ⊢
 split at h0
 ·rename_i h;exact absurd h0 h
 ·rename_i h
  split at h0
  ·rename_i h2
   have:=uq2.1 h2
   rw[if_neg h,if_pos h2]
   exact⟨Classical.not_not.1 h,this.1,this.2,rfl⟩
  ·cases h0
theorem xkv (s:St) (v:Int) (p1 p2 p3:Zoa) (c1 c2 c3:Nat) (w:World) (hm:StM w w.heap.size p1 p2 p3 s) (hz:StSz s) (hT:Tabs w) (hF:Fine s) (hb:fitsB s v=true) (hv:1<=v/\v<=3) (hr:fitsR s v=(true,0)) :
  Calls prog 27 #[.agg (stv s p1 p2 p3 c1 c2 c3),.int .i64 v] w fun e w'=>e=.returned (.tuple #[.string (bstr (encS v s)),.int .i64 0])/\Below w.heap.size w w':=by
 have hok:=wwb v s hF hb hv
 have hk1:=hok.2.1
 have hk2:=hok.2.2.1
 have hk3:=hok.2.2.2
 have hrev:=hok.1
 have hlj:(rowsB (encJ v) s.jobs).length<=10+82*40:=uyj (fun x hx=>vq8 (hk1.2 x hx)) hk1.1
 have hln:(rowsB (encN v) s.nodes).length<=10+62*40:=uyj (fun x hx=>vq9 (hk2.2 x hx)) (zrc hk2.1 (by decide))
 have hll:(rowsB encL s.leases).length<=10+62*40:=uyj (fun x hx=>vzs (hk3.2 x hx)) hk3.1
 have hb0:=zsa w (.cells (stv s p1 p2 p3 c1 c2 c3) 26)
 have bx0:=Blk.new w 26 (stv s p1 p2 p3 c1 c2 c3)
 have hs0:=zsb w (.cells (stv s p1 p2 p3 c1 c2 c3) 26)
 have hFt:=fun(W:World) (hW:Below w.heap.size w W)=>vj9 s v p1 p2 p3 c1 c2 c3 W ((hm.below hW).more hW.size) hz (hT.below hW)
 rw[hr] at hFt
 have HF:=zrj hFt
 have HK1:=zrj hk1
 have HK2:=zrj hk2
 have HK3:=zrj hk3
 have HREV:=zrj hrev
 have HM:=zrj hm
 have HT:=zrj hT
 have HLJ:=zrj hlj
 have HLN:=zrj hln
 have HLL:=zrj hll
 clear hFt hk1 hk2 hk3 hrev hok hm hT hF hb hr hz hlj hln hll
 go_enter func27,ntmps27
 go_wp2_with fail
 generalize w.alloc (.cells (stv s p1 p2 p3 c1 c2 c3) 26)=W0 at *
 have bv0:=Blk.new W0 3 #[.int .i64 v]
 have hb1:=hb0.alloc hb0.size (.cells #[.int .i64 v] 3)
 have bx1:=bx0.alloc (.cells #[.int .i64 v] 3)
 rw[hs0] at bv0
 generalize W0.alloc (.cells #[.int .i64 v] 3)=W1 at *
 refine(HF.out W1 hb1).mono ?_
 rintro e w2 ⟨rfl,hb2⟩
 have hB2:=bthen hb1 hb2
 have bx2:=bx1.bl hb2
 have bv2:=bv0.bl hb2
 clear hb2 bx0 bx1 bv0 hb0 hb1 hs0 HF
 have ev:=bv2.c0
 have bw:=Blk.new w2 100 #[.slice none 0 0]
 have hB2a:=hB2.alloc hB2.size (.cells #[.slice none 0 0] 100)
 have hsz2:=hB2.size
 have hs2:=zsb w2 (.cells #[.slice none 0 0] 100)
 have bx2a:=bx2.alloc (.cells #[.slice none 0 0] 100)
 have bv2a:=bv2.alloc (.cells #[.slice none 0 0] 100)
 have hlx:=bx2.lt
 have hlv:=bv2.lt
 have bp:=Blk.new (w2.alloc (.cells #[.slice none 0 0] 100)) 98 #[zse w2.heap.size]
 rw[hs2] at bp
 have hB3:=hB2a.alloc hB2a.size (.cells #[zse w2.heap.size] 98)
 have bx3:=bx2a.alloc (.cells #[zse w2.heap.size] 98)
 have bv3:=bv2a.alloc (.cells #[zse w2.heap.size] 98)
 have bw3:=bw.alloc (.cells #[zse w2.heap.size] 98)
 have hW3:Wr ((w2.alloc (.cells #[.slice none 0 0] 100)).alloc (.cells #[zse w2.heap.size] 98)) w2.heap.size []:=⟨_,bw3,Buf.nil _ _ _⟩
 have n1:w.heap.size≠w2.heap.size:=by omega
 have n2:w.heap.size+1≠w2.heap.size:=by omega
 have n3:w2.heap.size+1≠w2.heap.size:=by omega
 have HW2:Hid (Below w.heap.size w w2):=zrj hB2
 clear bx2 bv2 bw bx2a bv2a hB2a hs2 hB2 bw3
 have hpre:(decide (2<v)=true->okNb s.rev):=fun h=>by have:=HREV.out;rw[if_pos h] at this;exact this
 have HP:=zrj hpre
 clear hpre
 by_cases h2:2<v
 ·have h2d:decide (2<v)=true:=decide_eq_true h2
  have hrv:=HP.out h2d
  have HE:Hid (encS v s=(putN s.rev.toNat)++(rowsB (encJ v) s.jobs++(rowsB (encN v) s.nodes++rowsB encL s.leases))):=zrj (by unfold encS;rw[if_pos h2d])
  have hl0:=uqm s.rev.toNat (by have:=hrv.2;omega)
  have HRV:=zrj hrv
  clear h2d hrv
  have ex:((w2.alloc (.cells #[.slice none 0 0] 100)).alloc (.cells #[zse w2.heap.size] 98)).cell? ⟨w.heap.size,0,none⟩=some (.int .i64 s.rev):=bx3.cell 0
  have ev3:((w2.alloc (.cells #[.slice none 0 0] 100)).alloc (.cells #[zse w2.heap.size] 98)).cell? ⟨w.heap.size+1,0,none⟩=some (.int .i64 v):=bv3.cell 0
  go_wp2_with fail
  generalize(w2.alloc (.cells #[.slice none 0 0] 100)).alloc (.cells #[zse w2.heap.size] 98)=w3 at *
  refine(uq5 w2.heap.size [] s.rev w3 hW3 HRV.out (by simp)).mono ?_
  rintro e w4 ⟨rfl,h4,B4,K4⟩
  clear hW3 ex ev3
  rw[List.nil_append] at h4
  generalize putN s.rev.toNat=cur at *
  have bx4:=K4 _ _ _ (by decide) n1 bx3
  have bv4:=K4 _ _ _ (by decide) n2 bv3
  have bp4:=K4 _ _ _ (by decide) n3 bp
  have hB4:=hB3.trans (B4.mono hsz2)
  clear hB3 bx3 bv3 bp B4 K4
  have e1:=bx4.c1
  have ep:=bp4.c0
  go_wp2_with fail
  refine(xql _ _ (w2.heap.size+1) (w.heap.size+1) v w2.heap.size cur p1 c1 s.jobs w4 bp4 bv4 ⟨by decide,n3⟩ ⟨by decide,n2⟩ h4 ((HM.out.j.below hB4).more hsz2) HK1.out.2 HK1.out.1 (by omega) (fun w' hb=>HT.out.below (hB4.trans (hb.mono hsz2)))).mono ?_
  rintro e w5 ⟨rfl,h5,B5,K5⟩
  have bx5:=K5 _ _ _ (by decide) n1 bx4
  have bv5:=K5 _ _ _ (by decide) n2 bv4
  have bp5:=K5 _ _ _ (by decide) n3 bp4
  have hB5:=hB4.trans (B5.mono hsz2)
  have hl5:=HLJ.out
  clear hB4 bx4 bv4 bp4 B5 K5 e1 ep h4
  have e2:=bx5.c2
  have ep:=bp5.c0
  go_wp2_with fail
  refine(xqm _ _ (w2.heap.size+1) (w.heap.size+1) v w2.heap.size _ p2 c2 s.nodes w5 bp5 bv5 ⟨by decide,n3⟩ ⟨by decide,n2⟩ h5 ((HM.out.n.below hB5).more hsz2) HK2.out.2 (zrc HK2.out.1 (by decide)) (by rw[zrb];omega) (fun w' hb=>HT.out.below (hB5.trans (hb.mono hsz2)))).mono ?_
  rintro e w6 ⟨rfl,h6,B6,K6⟩
  have bx6:=K6 _ _ _ (by decide) n1 bx5
  have bp6:=K6 _ _ _ (by decide) n3 bp5
  have hB6:=hB5.trans (B6.mono hsz2)
  have hl6:=HLN.out
  clear hB5 bx5 bv5 bp5 B6 K6 e2 ep h5
  have e3:=bx6.c3
  have ep:=bp6.c0
  go_wp2_with fail
  refine(wxh w2.heap.size _ p3 c3 s.leases w6 h6 ((HM.out.l.below hB6).more hsz2) HK3.out.2 HK3.out.1 (by rw[zrb,zrb];omega) (fun w' hb=>HT.out.below (hB6.trans (hb.mono hsz2)))).mono ?_
  rintro e w7 ⟨rfl,h7,B7,K7⟩
  have bp7:=K7 _ _ _ (by decide) n3 bp6
  have hB7:=hB6.trans (B7.mono hsz2)
  clear hB6 bx6 bp6 B7 K7 e3 ep h6
  have ep:=bp7.c0
  rw[zrh,zrh,<- HE.out] at h7
  obtain⟨vv,bw7,hv7⟩:=h7
  obtain⟨pa,ca,rfl⟩:=hv7.form
  have ew:=bw7.c0
  have hcv:=uzu (P:=prog) (U:=5) (src:=62) (dst:=9) underlying62 underlying5 underlying9 hv7
  generalize hout:encS v s=out at *
  have HO:=zrj hout
  have HB:=zrj hB7
  clear hB7 bw7 hv7 HE hout
  go_wp2_with fail
  go_ret2
  exact⟨by rw[HO.out];rfl,HB.out⟩
 ·have h2d:decide (2<v)=false:=decide_eq_false h2
  have HE:Hid (encS v s=[]++(rowsB (encJ v) s.jobs++(rowsB (encN v) s.nodes++rowsB encL s.leases))):=zrj (by unfold encS;rw[if_neg (by rw[h2d];simp)])
  have hl0:([]:Zlu).length<=10:=by decide
  have ev3:((w2.alloc (.cells #[.slice none 0 0] 100)).alloc (.cells #[zse w2.heap.size] 98)).cell? ⟨w.heap.size+1,0,none⟩=some (.int .i64 v):=bv3.cell 0
  have e1:((w2.alloc (.cells #[.slice none 0 0] 100)).alloc (.cells #[zse w2.heap.size] 98)).cell? ⟨w.heap.size,1,none⟩=some (.slice p1 s.jobs.length c1):=bx3.cell 1
  generalize([]:Zlu)=cur at *
  go_wp2_with fail
  generalize((w2.alloc (.cells #[.slice none 0 0] 100)).alloc (.cells #[zse w2.heap.size] 98))=w4 at *
  have h4:=hW3
  have bx4:=bx3
  have bv4:=bv3
  have bp4:=bp
  have hB4:=hB3
  clear hW3 bx3 bv3 bp hB3 ev3
  have ep:=bp4.c0
  refine(xql _ _ (w2.heap.size+1) (w.heap.size+1) v w2.heap.size cur p1 c1 s.jobs w4 bp4 bv4 ⟨by decide,n3⟩ ⟨by decide,n2⟩ h4 ((HM.out.j.below hB4).more hsz2) HK1.out.2 HK1.out.1 (by omega) (fun w' hb=>HT.out.below (hB4.trans (hb.mono hsz2)))).mono ?_
  rintro e w5 ⟨rfl,h5,B5,K5⟩
  have bx5:=K5 _ _ _ (by decide) n1 bx4
  have bv5:=K5 _ _ _ (by decide) n2 bv4
  have bp5:=K5 _ _ _ (by decide) n3 bp4
  have hB5:=hB4.trans (B5.mono hsz2)
  have hl5:=HLJ.out
  clear hB4 bx4 bv4 bp4 B5 K5 e1 ep h4
  have e2:=bx5.c2
  have ep:=bp5.c0
  go_wp2_with fail
  refine(xqm _ _ (w2.heap.size+1) (w.heap.size+1) v w2.heap.size _ p2 c2 s.nodes w5 bp5 bv5 ⟨by decide,n3⟩ ⟨by decide,n2⟩ h5 ((HM.out.n.below hB5).more hsz2) HK2.out.2 (zrc HK2.out.1 (by decide)) (by rw[zrb];omega) (fun w' hb=>HT.out.below (hB5.trans (hb.mono hsz2)))).mono ?_
  rintro e w6 ⟨rfl,h6,B6,K6⟩
  have bx6:=K6 _ _ _ (by decide) n1 bx5
  have bp6:=K6 _ _ _ (by decide) n3 bp5
  have hB6:=hB5.trans (B6.mono hsz2)
  have hl6:=HLN.out
  clear hB5 bx5 bv5 bp5 B6 K6 e2 ep h5
  have e3:=bx6.c3
  have ep:=bp6.c0
  go_wp2_with fail
  refine(wxh w2.heap.size _ p3 c3 s.leases w6 h6 ((HM.out.l.below hB6).more hsz2) HK3.out.2 HK3.out.1 (by rw[zrb,zrb];omega) (fun w' hb=>HT.out.below (hB6.trans (hb.mono hsz2)))).mono ?_
  rintro e w7 ⟨rfl,h7,B7,K7⟩
  have bp7:=K7 _ _ _ (by decide) n3 bp6
  have hB7:=hB6.trans (B7.mono hsz2)
  clear hB6 bx6 bp6 B7 K7 e3 ep h6
  have ep:=bp7.c0
  rw[zrh,zrh,<- HE.out] at h7
  obtain⟨vv,bw7,hv7⟩:=h7
  obtain⟨pa,ca,rfl⟩:=hv7.form
  have ew:=bw7.c0
  have hcv:=uzu (P:=prog) (U:=5) (src:=62) (dst:=9) underlying62 underlying5 underlying9 hv7
  generalize hout:encS v s=out at *
  have HO:=zrj hout
  have HB:=zrj hB7
  clear hB7 bw7 hv7 HE hout
  go_wp2_with fail
  go_ret2
  exact⟨by rw[HO.out];rfl,HB.out⟩
theorem wz1 (s:St) (v:Int) (p1 p2 p3:Zoa) (c1 c2 c3:Nat) (w:World) (hm:StM w w.heap.size p1 p2 p3 s) (hz:StSz s) (hT:Tabs w) :
  Calls prog 27 #[.agg (stv s p1 p2 p3 c1 c2 c3),.int .i64 v] w fun e w'=>e=.returned (.tuple #[.string (bstr (encR v s).1),.int .i64 ((encR v s).2:Int)])/\Below w.heap.size w w':=by
 by_cases h0:(fitsR s v).2=0
 ·obtain⟨h1,h2,h3,h4⟩:=vym h0
  cases hb:fitsB s v
  ·have hR:encR v s=([],4):=by unfold encR;rw[if_neg (by rw[h0];simp),h4,hb];rfl
   have hb0:=zsa w (.cells (stv s p1 p2 p3 c1 c2 c3) 26)
   have bx0:=Blk.new w 26 (stv s p1 p2 p3 c1 c2 c3)
   have hFt:=fun(W:World) (hW:Below w.heap.size w W)=>vj9 s v p1 p2 p3 c1 c2 c3 W ((hm.below hW).more hW.size) hz (hT.below hW)
   rw[h4,hb] at hFt
   have HF:=zrj hFt
   have HR:=zrj hR
   clear hFt hR h0 h4 hb h1 hm hT hz
   go_enter func27,ntmps27
   go_wp2_with fail
   have hb1:=hb0.alloc hb0.size (.cells #[.int .i64 v] 3)
   generalize(w.alloc (.cells (stv s p1 p2 p3 c1 c2 c3) 26)).alloc (.cells #[.int .i64 v] 3)=W1 at *
   refine(HF.out W1 hb1).mono ?_
   rintro e w2 ⟨rfl,hb2⟩
   go_wp2_with fail
   go_ret2
   exact⟨by rw[HR.out];rfl,bthen hb1 hb2⟩
  ·have hr:fitsR s v=(true,0):=by rw[h4,hb]
   have hR:encR v s=(encS v s,0):=by unfold encR;rw[if_neg (by rw[h0];simp),hr,if_pos rfl]
   rw[hR]
   exact xkv s v p1 p2 p3 c1 c2 c3 w hm hz hT ((uxp s).1 h1) hb ⟨h2,h3⟩ hr
 ·have hR:encR v s=([],(fitsR s v).2):=by unfold encR;rw[if_pos h0]
  have hb0:=zsa w (.cells (stv s p1 p2 p3 c1 c2 c3) 26)
  have bx0:=Blk.new w 26 (stv s p1 p2 p3 c1 c2 c3)
  have hFt:=fun(W:World) (hW:Below w.heap.size w W)=>vj9 s v p1 p2 p3 c1 c2 c3 W ((hm.below hW).more hW.size) hz (hT.below hW)
  have hne:(((fitsR s v).2:Int) != 0)=true:=by rw[bne_iff_ne];omega
  have HF:=zrj hFt
  have HR:=zrj hR
  generalize(fitsR s v).2=er at *
  clear hFt hR h0 hm hT hz
  go_enter func27,ntmps27
  go_wp2_with fail
  have hb1:=hb0.alloc hb0.size (.cells #[.int .i64 v] 3)
  generalize(w.alloc (.cells (stv s p1 p2 p3 c1 c2 c3) 26)).alloc (.cells #[.int .i64 v] 3)=W1 at *
  refine(HF.out W1 hb1).mono ?_
  rintro e w2 ⟨rfl,hb2⟩
  go_wp2_with fail
  go_ret2
  exact⟨by rw[HR.out];rfl,bthen hb1 hb2⟩
def uvr:St:=⟨0,[],[],[]⟩
def decT (v:Int) (l:Zlu):St×Nat :=
 if v<1\/3<v then(uvr,1) else match decS v l with
 | .ok s=>(s,0)
 | .bad e=>(uvr,e)
theorem wxd {s:Zba} (h:okTx s.data.toList):s.size<=16:=by have:=h.1;simpa using this
theorem wwc {v:Int} {s:St} (h:okSt v s):StSz s:=by
 obtain⟨_,⟨h1,h2⟩,⟨h3,h4⟩,h5,_⟩:=h
 refine⟨fun x hx=>?_,fun x hx=>?_,fun x hx=>?_,by omega,by omega,by omega⟩
 ·obtain⟨a,_,_,_,b⟩:=h2 x hx
  refine⟨zrc (wxd a) (by decide),?_⟩
  split at b
  ·exact zrc (wxd b) (by decide)
  ·rw[b];decide
 ·obtain⟨a,_,b⟩:=h4 x hx
  refine⟨zrc (wxd a) (by decide),?_⟩
  split at b
  ·exact zrc (wxd b) (by decide)
  ·rw[b];decide
 ·obtain⟨_,b,_⟩:=h4 x hx
  have:=b.1;have:=b.2
  omega
theorem xkt {v:Int} {s:St} (h:okSt v s) (hc:uqp s=0) (hv:1<=v/\v<=3):encR v s=(encS v s,0):=by
 have hf:=fits_of v s h hv
 have hr:fitsR s v=(true,0):=by unfold fitsR;rw[if_neg (by rw[hc];simp),if_pos (uq2.2 hv),hf]
 unfold encR
 rw[hr,if_neg (by simp),if_pos rfl]
theorem encR_ok {v:Int} {s:St} (h:(encR v s).2=0):encR v s=(encS v s,0)/\okSt v s/\uqp s=0/\1<=v/\v<=3:=by
 unfold encR at h ⊢
 by_cases h0:(fitsR s v).2=0
 ·obtain⟨h1,h2,h3,h4⟩:=vym h0
  rw[if_neg (by rw[h0];simp)] at h ⊢
  by_cases hb:(fitsR s v).1=true
  ·rw[if_pos hb]
   have hfb:fitsB s v=true:=by rw[h4] at hb;exact hb
   exact⟨rfl,wwb v s ((uxp s).1 h1) hfb ⟨h2,h3⟩,h1,h2,h3⟩
  ·rw[if_neg hb] at h;cases h
 ·rw[if_pos h0] at h;exact absurd h h0
theorem encR_bad {v:Int} {s:St} (h:(encR v s).2≠0):(encR v s).1=[]:=by
 unfold encR at h ⊢
 split
 ·rfl
 ·split
  ·rename_i h1 h2;rw[if_neg h1,if_pos h2] at h;exact absurd rfl h
  ·rfl
theorem decT_enc {v:Int} {s:St} (h:okSt v s) (hc:uqp s=0) (hv:1<=v/\v<=3):decT v (encS v s)=(s,0):=by
 unfold decT
 rw[if_neg (by omega),decS_enc v s h hc]
theorem decS_err {v:Int} {l:Zlu} {e:Nat} (h:decS v l=.bad e):e≠0:=by
 unfold decS at h
 cases hp:vx7 v l with
 | bad z=>rw[hp] at h;injection h with h;subst h;exact(ujv v).err _ _ hp
 | ok t r =>
  rw[hp] at h
  change (if _ then _ else if _ then _ else _)=_ at h
  split at h
  ·injection h with h;omega
  ·split at h
   ·rename_i h1;injection h with h;subst h;exact h1
   ·cases h
theorem wk6 {v:Int} {l:Zlu} (h:(decT v l).2=0):okSt v (decT v l).1/\uqp (decT v l).1=0/\l=encS v (decT v l).1/\1<=v/\v<=3:=by
 unfold decT at h ⊢
 by_cases hv:v<1\/3<v
 ·rw[if_pos hv] at h;cases h
 ·rw[if_neg hv] at h ⊢
  cases hd:decS v l with
  | bad e=>rw[hd] at h;exact absurd h (decS_err hd)
  | ok s =>
   simp only[]
   obtain⟨h1,h2,h3⟩:=decS_inv v l s hd
   exact⟨h1,h2,h3,by omega,by omega⟩
theorem encS_len {v:Int} {s:St} (h:okSt v s):(encS v s).length<=10000:=by
 have h0:(if decide (2<v)=true then putN s.rev.toNat else[]).length<=10:=by
  have:=h.1
  split
  ·rename_i h2;rw[if_pos h2] at this;exact uqm _ (by have:=this.2;omega)
  ·simp
 have h1:(rowsB (encJ v) s.jobs).length<=10+82*40:=uyj (fun x hx=>vq8 (h.2.1.2 x hx)) h.2.1.1
 have h2:(rowsB (encN v) s.nodes).length<=10+62*40:=uyj (fun x hx=>vq9 (h.2.2.1.2 x hx)) (zrc h.2.2.1.1 (by decide))
 have h3:(rowsB encL s.leases).length<=10+62*40:=uyj (fun x hx=>vzs (h.2.2.2.2 x hx)) h.2.2.2.1
 unfold encS
 rw[zrb,zrb,zrb]
 omega
theorem fits_3 (s:St):fitsB s 3=true:=by
 unfold fitsB
 simp[fitR,fitJ,fitN]
theorem okSt3 {s:St} (h:uqp s=0):okSt 3 s:=wwb 3 s ((uxp s).1 h) (fits_3 s) ⟨by decide,by decide⟩
theorem vyh {s:St} (h:uqp s=0):encR 3 s=(encS 3 s,0):=xkt (okSt3 h) h ⟨by decide,by decide⟩
theorem xki {s:St} (h:uqp s=0):decT 3 (encS 3 s)=(s,0):=decT_enc (okSt3 h) h ⟨by decide,by decide⟩
theorem xku {s:St} (h:uqp s=0):(encS 3 s).length<=10000:=encS_len (okSt3 h)
theorem xxi {s:St} (h:uqp s≠0):(encR 3 s).2=uqp s:=by
 have hr:fitsR s 3=(false,uqp s):=by unfold fitsR;rw[if_pos h]
 unfold encR
 rw[hr,if_pos h]
end Go.Proofs.YtknmnhleicakhaaGreatDoor
