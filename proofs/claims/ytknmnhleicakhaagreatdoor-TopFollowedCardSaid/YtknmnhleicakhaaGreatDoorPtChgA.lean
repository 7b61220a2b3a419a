/- Lemmas.
-/
import Derived.Test.YtknmnhleicakhaaGreatDoorPtMapB
set_option linter.all false
set_option maxHeartbeats 16000000
set_option maxRecDepth 100000
namespace Go.Proofs.YtknmnhleicakhaaGreatDoor
open Go.Proofs.Tryz
section
variable {α:Type} {key:α->Zba} {f:Zlu->Option α} {M M':α->Prop}
def IsM (key:α->Zba) (f:Zlu->Option α) (M:α->Prop):Prop:=∀k x,f k=some x↔M x/\(key x).data.toList=k
def putX (f:Zlu->Option α) (s:Zlu) (x:α):Zlu->Option α:=fun k=>if k=s then some x else f k
def delX (f:Zlu->Option α) (s:Zlu):Zlu->Option α:=fun k=>if k=s then none else f k
theorem wxa {a b:Zba} (h:a.data.toList=b.data.toList):a=b:=ByteArray.ext (Array.toList_inj.1 h)
theorem isM_none:IsM key (fun _=>(none:Option α)) (fun _=>False):=fun k x=>⟨fun h=>(by cases h),fun h=>h.1.elim⟩
theorem IsM.congr (h:IsM key f M) (hm:∀z,M z↔M' z):IsM key f M':=fun k x=>(h k x).trans (by rw[hm x])
theorem IsM.put (h:IsM key f M) (x:α):IsM key (putX f (key x).data.toList x) (fun z=>z=x\/(M z/\key z≠key x)):=fun k z=>by
 unfold putX
 by_cases hk:k=(key x).data.toList
 ·subst hk
  rw[if_pos rfl]
  constructor
  ·intro h';injection h' with h';subst h';exact⟨.inl rfl,rfl⟩
  ·rintro⟨rfl | ⟨_,h1⟩,h2⟩
   ·rfl
   ·exact absurd (wxa h2) h1
 ·rw[if_neg hk,h k z]
  constructor
  ·rintro⟨h1,h2⟩
   exact⟨.inr ⟨h1,fun e=>hk (by rw[<- h2,e])⟩,h2⟩
  ·rintro⟨rfl | ⟨h1,_⟩,h2⟩
   ·exact absurd h2.symm hk
   ·exact⟨h1,h2⟩
theorem IsM.del (h:IsM key f M) (s:Zba):IsM key (delX f s.data.toList) (fun z=>M z/\key z≠s):=fun k z=>by
 unfold delX
 by_cases hk:k=s.data.toList
 ·subst hk
  rw[if_pos rfl]
  constructor
  ·intro h';cases h'
  ·rintro⟨⟨_,h1⟩,h2⟩
   exact absurd (wxa h2) h1
 ·rw[if_neg hk,h k z]
  constructor
  ·rintro⟨h1,h2⟩
   exact⟨⟨h1,fun e=>hk (by rw[<- h2,e])⟩,h2⟩
  ·rintro⟨⟨h1,_⟩,h2⟩
   exact⟨h1,h2⟩
theorem IsM.at_none (h:IsM key f M) {s:Zba} (hs:f s.data.toList=none):∀x,M x->key x≠s:=fun x hx he=>by
 have:=(h s.data.toList x).2 ⟨hx,by rw[he]⟩
 rw[hs] at this;cases this
theorem IsM.at_some (h:IsM key f M) {s:Zba} {x:α} (hs:f s.data.toList=some x):M x/\key x=s:=by
 obtain⟨h1,h2⟩:=(h _ x).1 hs
 exact⟨h1,wxa h2⟩
theorem put_map {β:Type} (g:α->β) (f:Zlu->Option α) (s:Zlu) (x:α) (k:Zlu):(if k=s then some (g x) else(f k).map g)=(putX f s x k).map g:=by
 unfold putX;split <;> rfl
theorem del_map {β:Type} (g:α->β) (f:Zlu->Option α) (s:Zlu) (k:Zlu):(if k=s then none else(f k).map g)=(delX f s k).map g:=by
 unfold delX;split <;> rfl
theorem wwy (h:IsM key f M) {ss ts:List α} (ha:AllV f ss) (hp:ts.Perm ss) (hs:ts.Pairwise fun x y=>ltS (key y) (key x)=false):uqy key ts/\∀x,x∈ts↔M x:=by
 obtain⟨ps,rfl,h1,h2,h3⟩:=ha
 constructor
 ·refine xvm hs ?_
  refine(hp.pairwise_iff (fun h=>Ne.symm h)).2 ?_
  rw[List.pairwise_map]
  rw[List.Nodup,List.pairwise_map] at h1
  refine List.Pairwise.imp_of_mem ?_ h1
  intro a b ha hb hne he
  have e1:=((h _ _).1 (h2 a ha)).2
  have e2:=((h _ _).1 (h2 b hb)).2
  exact hne (by rw[<- e1,<- e2,he])
 ·intro x
  rw[hp.mem_iff,List.mem_map]
  constructor
  ·rintro⟨p,hp,rfl⟩
   exact((h _ _).1 (h2 p hp)).1
  ·intro hx
   have hf:=(h (key x).data.toList x).2 ⟨hx,rfl⟩
   obtain⟨p,hp,he⟩:=List.mem_map.1 (h3 _ _ hf)
   refine⟨p,hp,?_⟩
   have:=h2 p hp
   rw[he,hf] at this
   injection this with this
   exact this.symm
end
section
variable {α:Type} {key:α->Zba} {f:Zlu->Option α} {rows set:List α} {gone:List Zba}
def M1 (rows:List α) (j:Nat) (x:α):Prop:=x∈rows.take j
def M2 (key:α->Zba) (rows:List α) (gone:List Zba) (j:Nat) (x:α):Prop:=x∈rows/\key x∉gone.take j
def M3 (key:α->Zba) (rows set:List α) (gone:List Zba) (j:Nat) (x:α):Prop:=x∈set.take j\/(x∈rows/\key x∉gone/\∀y∈set.take j,key y≠key x)
theorem uvt {l:List α} {j:Nat} {x z:α} (h:l[j]?=some x):z∈l.take (j+1)↔z∈l.take j\/z=x:=by
 rw[List.take_add_one,h,Option.toList_some,List.mem_append,List.mem_singleton]
theorem IsM.start:IsM key (fun _=>(none:Option α)) (M1 rows 0):=isM_none.congr fun z=>by simp[M1]
theorem IsM.one (hs:uqy key rows) {j:Nat} {x:α} (hx:rows[j]?=some x) (h:IsM key f (M1 rows j)):IsM key (putX f (key x).data.toList x) (M1 rows (j+1)):=(h.put x).congr fun z=>by
 unfold M1
 rw[uvt hx]
 constructor
 ·rintro(h | h)
  ·exact .inr h
  ·exact .inl h.1
 ·rintro(h | h)
  ·exact .inr ⟨h,ukq hs hx z h⟩
  ·exact .inl h
theorem IsM.all (h:IsM key f (M1 rows rows.length)):IsM key f (M2 key rows gone 0):=h.congr fun z=>by simp[M1,M2]
theorem IsM.two {j:Nat} {s:Zba} (hx:gone[j]?=some s) (h:IsM key f (M2 key rows gone j)):IsM key (delX f s.data.toList) (M2 key rows gone (j+1)):=(h.del s).congr fun z=>by
 unfold M2
 rw[uvt hx,not_or,and_assoc]
theorem IsM.left (h:IsM key f (M2 key rows gone gone.length)):IsM key f (M3 key rows set gone 0):=h.congr fun z=>by simp[M2,M3]
theorem IsM.three {j:Nat} {x:α} (hs:uqy key set) (hx:set[j]?=some x) (h:IsM key f (M3 key rows set gone j)):IsM key (putX f (key x).data.toList x) (M3 key rows set gone (j+1)):=(h.put x).congr fun z=>by
 unfold M3
 have hm:∀y,y∈set.take (j+1)↔y∈set.take j\/y=x:=fun y=>uvt hx
 rw[hm]
 constructor
 ·rintro(rfl | ⟨h1 | ⟨h1,h2,h3⟩,h4⟩)
  ·exact .inl (.inr rfl)
  ·exact .inl (.inl h1)
  ·refine .inr ⟨h1,h2,fun y hy=>?_⟩
   rcases(hm y).1 hy with hy | rfl
   ·exact h3 y hy
   ·exact Ne.symm h4
 ·rintro((h1 | rfl) | ⟨h1,h2,h3⟩)
  ·exact .inr ⟨.inl h1,ukq hs hx z h1⟩
  ·exact .inl rfl
  ·exact .inr ⟨.inr ⟨h1,h2,fun y hy=>h3 y ((hm y).2 (.inl hy))⟩,Ne.symm (h3 x ((hm x).2 (.inr rfl)))⟩
theorem vqn (hs:uqy (fun s:Zba=>s) gone) {j:Nat} {s:Zba} (hx:gone[j]?=some s) (h:∀x,M2 key rows gone j x->key x≠s):chgB key rows gone=false:=by
 cases hc:chgB key rows gone
 ·rfl
 ·obtain⟨x,h1,h2⟩:=vzr.1 hc s (List.mem_of_getElem? hx)
  exact absurd h2 (h x ⟨h1,fun hm=>ukq (key:=fun s:Zba=>s) hs hx (key x) hm h2⟩)
theorem vjq (h:∀s∈gone.take gone.length,∃x∈rows,key x=s):chgB key rows gone=true:=vzr.2 (by rw[List.take_length] at h;exact h)
theorem vv0 {j:Nat} {s:Zba} {x:α} (hx:gone[j]?=some s) (h:∀s∈gone.take j,∃x∈rows,key x=s) (hm:M2 key rows gone j x/\key x=s):∀s∈gone.take (j+1),∃x∈rows,key x=s:=by
 intro t ht
 rcases(uvt hx).1 ht with h1 | rfl
 ·exact h t h1
 ·exact⟨x,hm.1.1,hm.2⟩
theorem wqm (hr:uqy key rows) (hs:uqy key set) (h:IsM key f (M3 key rows set gone set.length)) {ss ts:List α} (ha:AllV f ss) (hp:ts.Perm ss) (hw:ts.Pairwise fun x y=>ltS (key y) (key x)=false):ts=chgL key rows set gone:=by
 obtain⟨h1,h2⟩:=wwy h ha hp hw
 refine(wqj hr hs ⟨h1,fun x=>?_⟩).symm
 rw[h2 x]
 unfold M3
 rw[List.take_length]
end
open Go.RowKit
section
variable {P:Program} {ops:Array Oper} {o:Oper} {a:Act} {w:World} {K:Act->World->Prop} {Q:Exit->Act->World->Prop} {E:Prop}
theorem ukb (hw:Region.wanted o (yielded ops a.tmps)=true) (t:TypeId) (x y z:Operand) (ho:o.op=.mapUpdate t x y z) {m k v:Value} (hx:a.eval x=m) (hy:a.eval y=k) (hz:a.eval z=v) {w':World}
  (hr:(Instr.mapUpdate t m k v).run P w=.ok () w') (h:K (a.put o.dst undef) w'):if Region.wanted o (yielded ops a.tmps)=true then Oper.wp P o a w K Q else E:=by
 rw[if_pos hw]
 unfold Oper.wp execOp
 simp only[ho,hx,hy,hz,Sem.run_bind,Sem.run_pure,Result.andThen_ok,hr]
 exact h
end
theorem GrB.then_ {w W W':World} {g:Nat} (h:GrB w g W) (hg:W.grownBy W' (some g)):GrB w g W' :=
 ⟨hg.os.trans h.os,hg.tape.trans h.tape,hg.output.trans h.output,zrc h.size hg.size,fun k hk hne=>(hg.block k (Nat.lt_of_lt_of_le hk h.size) hne).trans (h.block k hk hne)⟩
theorem OM.put_ {α:Type} {P:Program} {kt:TypeId} {w:World} {b n:Nat} {g:α->Value} {f:Zlu->Option α} {k:Zlu} {x:α} (h:OM P kt w b n (putF (fun s=>(f s).map g) k (g x))):OM P kt w b n (fun s=>(putX f k x s).map g):=by
 have e:putF (fun s=>(f s).map g) k (g x)=fun s=>(putX f k x s).map g:=funext fun s=>put_map g f k x s
 rw[<- e];exact h
theorem OM.del_ {α:Type} {P:Program} {kt:TypeId} {w:World} {b n:Nat} {g:α->Value} {f:Zlu->Option α} {k:Zlu} (h:OM P kt w b n (delF (fun s=>(f s).map g) k)):OM P kt w b n (fun s=>(delX f k s).map g):=by
 have e:delF (fun s=>(f s).map g) k=fun s=>(delX f k s).map g:=funext fun s=>del_map g f k s
 rw[<- e];exact h
theorem OM.drew {P:Program} {kt:TypeId} {w:World} {b n:Nat} {f:Zlu->Option Value} (h:OM P kt w b n f):OM P kt w.drew b n f:=h.below (zri _ w).drew
def chgR {α:Type} (key:α->Zba) (rows set:List α) (gone:List Zba):List α:=if chgB key rows gone=true then chgL key rows set gone else[]
theorem vwc {α:Type} {w:World} {base size:Nat} {E:TypeId} {v:Value} {l:List α} {row:α->List Value} (hs:∀x,(row x).length=size) (h:w.ownsRow base E size v l.length (l.map row).flatten):∃p c,v=.slice p l.length c/\OwnR w base E size p c (l.map row):=by
 obtain⟨p,c,rfl⟩:=uzz h
 refine⟨p,c,rfl,fun r hr=>by obtain⟨x,_,rfl⟩:=List.mem_map.1 hr;exact hs x,?_⟩
 rw[zre];exact h
theorem oChgJ1 {p:Prop} (h:p:=by first | omega | (simp only[Z1,Z2,Z11,Z12,Z16] at *;omega)):p:=h
theorem sChgJ1 {p:Prop} (h:p:=by
 have e1:=zsb w (.cells #[Value.func (.func Z1) #[] #[]] Z2)
 have om0:=OM.made (w.alloc (.cells #[Value.func (.func Z1) #[] #[]] Z2)) prog 9
 rw[e1] at om0
 have bk0:=(Blk.new w Z2 #[Value.func (.func Z1) #[] #[]]).alloc (.map #[] 0)
 have b0:Below w.heap.size w ((w.alloc (.cells #[Value.func (.func Z1) #[] #[]] Z2)).alloc (.map #[] 0)):=((zri _ _).alloc (zra _) _).alloc (by simp) _
 clear e1
 have S1:=zrj s1
 have S2:=zrj s2
 have S3:=zrj s3
 have K1:=zrj k1
 have K2:=zrj k2
 have K3:=zrj k3
 have HX:=zrj (fun(x:Z3) (W:World)=>Z4 x W)
 have HZ:=zrj (fun W=>Z5 W)
 clear s1 s2 s3 k1 k2 k3
 have hmm:=@run_makeMap prog
 go_enter Z6,Z7
 go_wp2_with fail
 generalize(w.alloc _).alloc _=W0 at *
 go_loopw [22] (fun i wr=>∃(k:Nat) (f:Zlu->Option Z3),k<=rows.length/\i=.int .i64 k/\Below w.heap.size w wr/\Blk wr w.heap.size Z2 #[Value.func (.func Z1) #[] #[]]/\OM prog 9 wr (w.heap.size+1) k (fun s=>(f s).map (fun x:Z3=>Value.agg (Z8 x)))/\Hid (IsM Z9 f (M1 rows k))) (fun i _=>rows.length-(intOf i).toNat)
 case atStart=>exact⟨0,fun _=>none,Nat.zero_le _,rfl,b0,bk0,om0,(show IsM Z9 _ (M1 rows 0) from IsM.start)⟩
 case round =>
  clear b0 bk0 om0
  obtain⟨k,f,hk,rfl,hbr,bk,om,HI⟩:=hrel
  by_cases hlt:k<rows.length
  ·have hx:rows[k]?=some rows[k]:=zrd hlt
   have hsz:=K1.out rows[k] (List.getElem_mem hlt)
   generalize rows[k]=x at *
   obtain⟨a,rfl,hab,_,hat⟩:=(h1.below hbr).at_ (k:=k) (r:=Z10 x) (by rw[zrg,hx];rfl)
   have I2:=zrj (HI.out.one S1.out hx)
   have bx:=Blk.new wr Z11 (Z8 x)
   have bk5:=bk.alloc (.cells (Z8 x) Z11)
   have c5:=hbr.alloc hbr.size (.cells (Z8 x) Z11)
   have om5:=om.below ((zri _ wr).alloc (zra _) (.cells (Z8 x) Z11))
   have hgx:wr.heap.size≠w.heap.size+1:=by have:=om.lt;exact oChgJ1
   have hsm:(Z9 x).size<=maxLen:=by unfold maxLen;exact oChgJ1
   have hgk:w.heap.size≠w.heap.size+1:=by exact oChgJ1
   clear hx HI hbr bk om hsz
   go_upto_region 5 with(first | (refine uqe rfl _ _ rfl (a.add (k*Z12)) rfl (Z13 x) _ hat Z14 rfl Z15 ?_) | (refine uqf rfl _ _ _ rfl rfl Z11 _ (Z8 x) rfl Z15 rfl rfl ?_))
   clear hat
   generalize wr.alloc _=W5 at *
   generalize wr.heap.size=gx at *
   have G0:GrB W5 (w.heap.size+1) W5.drew:=GrB.start _ _
   refine wp_region_held_drew (S:=GrB W5 (w.heap.size+1)) (by kernel_rfl) G0 (fun hHeld=>?_)
   refine tq 0 ?_ (hv:=by intro w5 hw5;have q11:=(GrB.blk hw5 bk5 hgk).cell;have q12:=(GrB.blk hw5 bx hgx).cell;go_simp;(try with_reducible rfl))
   refine tq 1 ?_ (hv:=by intro w5 hw5;have q11:=(GrB.blk hw5 bk5 hgk).cell;have q12:=(GrB.blk hw5 bx hgx).cell;go_simp;(try with_reducible rfl))
   refine tq 2 ?_ (hv:=by intro w5 hw5;have q11:=(GrB.blk hw5 bk5 hgk).cell;have q12:=(GrB.blk hw5 bx hgx).cell;go_simp;(try with_reducible rfl))
   refine tq 4 ?_ (hv:=by intro w5 hw5;have q11:=(GrB.blk hw5 bk5 hgk).cell;have q12:=(GrB.blk hw5 bx hgx).cell;go_simp;(try with_reducible rfl))
   refine tr 3 rfl (fun K hK=>?_)
   go_simp
   refine(HX.out x _).mono ?_
   rintro e u1 ⟨rfl,rfl⟩
   have G1:=GrB.more G0 ((zri _ _).alloc (zra _) (.cells (Z8 x) Z11))
   have om6:=om5.drew.below ((zri _ _).alloc (zra _) (.cells (Z8 x) Z11))
   generalize W5.drew.alloc _=u1 at *
   refine hK.out _ _ G1 (fun hHeld=>?_)
   clear hK K
   (try simp only[Act.put,ma,mb,mc,md,me,mf])
   obtain⟨u2,hr2,om7,hg2⟩:=om6.store (t:=Z16) Z17 underlying9 (by unfold maxLen;exact oChgJ1) hsm (Value.agg (Z8 x))
   have G2:=G1.then_ hg2
   refine tr 5 rfl (fun K hK=>?_)
   refine ukb rfl Z16 _ _ _ rfl rfl rfl rfl hr2 ?_
   refine hK.out _ _ G2 (fun hHeld=>?_)
   clear hK K
   (try simp only[Act.put,ma,mb,mc,md,me,mf])
   refine wpAnyH_done (by kernel_rfl) ?_ _
   have bk7:=GrB.blk G2 bk5 hgk
   have c7:Below w.heap.size w u2:=c5.grown G2 c5.size (fun k e=>by cases e;exact oChgJ1)
   have om8:=OM.put_ (g:=(fun x:Z3=>Value.agg (Z8 x))) om7
   clear G0 G1 G2 om5 om6 om7 bk5 c5 bx hr2 hg2
   go_wp2_with fail
   go_roundw
   case rel=>exact⟨k+1,putX f (Z9 x).data.toList x,by exact oChgJ1,by go_num,c7,bk7,om8,I2.out⟩
   case measure=>simp[intOf];exact oChgJ1
  ·obtain rfl:k=rows.length:=by exact oChgJ1
   have I0:=zrj (HI.out.all (gone:=gone))
   clear HI
   go_wp2_with fail
   clear hlt
   obtain⟨wo,rfl⟩:∃wo:World,wo=wr:=⟨_,rfl⟩
   go_loopw [34] (fun i wr=>∃(k:Nat) (f:Zlu->Option Z3),k<=gone.length/\i=.int .i64 k/\Below w.heap.size w wr/\Blk wr w.heap.size Z2 #[Value.func (.func Z1) #[] #[]]/\OM prog 9 wr (w.heap.size+1) rows.length (fun s=>(f s).map (fun x:Z3=>Value.agg (Z8 x)))/\Hid (IsM Z9 f (M2 Z9 rows gone k)/\∀s∈gone.take k,∃x∈rows,(Z9 x)=s)) (fun i _=>gone.length-(intOf i).toNat)
   case atStart=>exact⟨0,f,Nat.zero_le _,rfl,hbr,bk,om,(show IsM Z9 f (M2 Z9 rows gone 0)/\_ from⟨I0.out,fun s hs=>by simp at hs⟩)⟩
   case round =>
    clear I0 om bk hbr
    obtain⟨k,f,hk,rfl,hbr,bk,om,HI⟩:=hrel
    by_cases hlt:k<gone.length
    ·have hx:gone[k]?=some gone[k]:=zrd hlt
     have hsz:=K3.out gone[k] (List.getElem_mem hlt)
     generalize gone[k]=s at *
     obtain⟨a,rfl,hab,_,hat⟩:=(h3.below hbr).at_ (k:=k) (r:=rowS s) (by rw[zrg,hx];rfl)
     have e1:=uy9 hat
     have hsm:s.size<=maxLen:=by unfold maxLen;exact oChgJ1
     have hlk:=om.look (t:=Z16) Z17 underlying9 (HZ.out _) hsm
     clear hat hsz
     cases hf:f s.data.toList with
     | none =>
      have hB:=zrj (vqn S3.out hx (HI.out.1.at_none hf))
      simp only[hf,Option.map_none,Option.getD_none,Option.isSome_none] at hlk
      have c5:=hbr.alloc hbr.size (.cells Z18 Z11)
      clear hf hx HI
      go_wp2_with(first | (refine uqf rfl _ _ _ rfl rfl Z11 _ Z18 rfl Z15 rfl rfl ?_))
      go_ret2
      have hR:chgR Z9 rows set gone=[]:=by unfold chgR;rw[hB.out];rfl
      exact⟨none,0,by rw[hR,hB.out];rfl,by rw[hR];exact⟨fun r hr=>by simp at hr,World.ownsRow_nil _ _ _ _⟩,c5⟩
     | some x =>
      have I2:=zrj (And.intro (HI.out.1.two hx) (vv0 hx HI.out.2 (HI.out.1.at_some hf)))
      simp only[hf,Option.map_some,Option.getD_some,Option.isSome_some] at hlk
      have c5:=hbr.alloc hbr.size (.cells (Z8 x) Z11)
      have bk5:=bk.alloc (.cells (Z8 x) Z11)
      obtain⟨u2,hr2,om7,hg2⟩:=(om.below ((zri _ _).alloc (zra _) (.cells (Z8 x) Z11))).drop (t:=Z16) Z17 underlying9 hsm 0
      have om8:=OM.del_ (g:=(fun x:Z3=>Value.agg (Z8 x))) om7
      have c7:Below w.heap.size w u2:=c5.grown hg2 c5.size (fun k e=>by cases e;exact oChgJ1)
      have bk7:Blk u2 w.heap.size Z2 #[Value.func (.func Z1) #[] #[]]:=(hg2.block _ bk5.lt (fun e=>by injection e with e;exact oChgJ1)).trans bk5
      clear hf hx HI om7 hg2 c5 bk5
      go_wp2_with(first | (refine uqf rfl _ _ _ rfl rfl Z11 _ (Z8 x) rfl Z15 rfl rfl ?_))
      go_roundw
      case rel=>exact⟨k+1,delX f s.data.toList,by exact oChgJ1,by go_num,c7,bk7,om8,I2.out⟩
      case measure=>simp[intOf];exact oChgJ1
    ·obtain rfl:k=gone.length:=by exact oChgJ1
     have hB:=zrj (vjq HI.out.2)
     have I0:=zrj (HI.out.1.left (set:=set))
     clear HI
     go_wp2_with fail
     clear hlt
     obtain⟨wp,rfl⟩:∃wp:World,wp=wr:=⟨_,rfl⟩
     go_loopw [51] (fun i wr=>∃(k:Nat) (f:Zlu->Option Z3),k<=set.length/\i=.int .i64 k/\Below w.heap.size w wr/\Blk wr w.heap.size Z2 #[Value.func (.func Z1) #[] #[]]/\OM prog 9 wr (w.heap.size+1) (rows.length+k) (fun s=>(f s).map (fun x:Z3=>Value.agg (Z8 x)))/\Hid (IsM Z9 f (M3 Z9 rows set gone k))) (fun i _=>set.length-(intOf i).toNat)
     case atStart=>exact⟨0,f,Nat.zero_le _,rfl,hbr,bk,om,I0.out⟩
     case round =>
      clear I0 om bk hbr
      obtain⟨k,f,hk,rfl,hbr,bk,om,HI⟩:=hrel
      by_cases hlt:k<set.length
      ·have hx:set[k]?=some set[k]:=zrd hlt
       have hsz:=K2.out set[k] (List.getElem_mem hlt)
       generalize set[k]=x at *
       obtain⟨a,rfl,hab,_,hat⟩:=(h2.below hbr).at_ (k:=k) (r:=Z10 x) (by rw[zrg,hx];rfl)
       have I2:=zrj (HI.out.three S2.out hx)
       have bx:=Blk.new wr Z11 (Z8 x)
       have bk5:=bk.alloc (.cells (Z8 x) Z11)
       have c5:=hbr.alloc hbr.size (.cells (Z8 x) Z11)
       have om5:=om.below ((zri _ wr).alloc (zra _) (.cells (Z8 x) Z11))
       have hgx:wr.heap.size≠w.heap.size+1:=by have:=om.lt;exact oChgJ1
       have hsm:(Z9 x).size<=maxLen:=by unfold maxLen;exact oChgJ1
       have hgk:w.heap.size≠w.heap.size+1:=by exact oChgJ1
       clear hx HI hbr bk om hsz
       go_upto_region 18 with(first | (refine uqe rfl _ _ rfl (a.add (k*Z12)) rfl (Z13 x) _ hat Z14 rfl Z15 ?_) | (refine uqf rfl _ _ _ rfl rfl Z11 _ (Z8 x) rfl Z15 rfl rfl ?_))
       clear hat
       generalize wr.alloc _=W5 at *
       generalize wr.heap.size=gx at *
       have G0:GrB W5 (w.heap.size+1) W5.drew:=GrB.start _ _
       refine wp_region_held_drew (S:=GrB W5 (w.heap.size+1)) (by kernel_rfl) G0 (fun hHeld=>?_)
       refine tq 0 ?_ (hv:=by intro w5 hw5;have q11:=(GrB.blk hw5 bk5 hgk).cell;have q12:=(GrB.blk hw5 bx hgx).cell;go_simp;(try with_reducible rfl))
       refine tq 1 ?_ (hv:=by intro w5 hw5;have q11:=(GrB.blk hw5 bk5 hgk).cell;have q12:=(GrB.blk hw5 bx hgx).cell;go_simp;(try with_reducible rfl))
       refine tq 2 ?_ (hv:=by intro w5 hw5;have q11:=(GrB.blk hw5 bk5 hgk).cell;have q12:=(GrB.blk hw5 bx hgx).cell;go_simp;(try with_reducible rfl))
       refine tq 4 ?_ (hv:=by intro w5 hw5;have q11:=(GrB.blk hw5 bk5 hgk).cell;have q12:=(GrB.blk hw5 bx hgx).cell;go_simp;(try with_reducible rfl))
       refine tr 3 rfl (fun K hK=>?_)
       go_simp
       refine(HX.out x _).mono ?_
       rintro e u1 ⟨rfl,rfl⟩
       have G1:=GrB.more G0 ((zri _ _).alloc (zra _) (.cells (Z8 x) Z11))
       have om6:=om5.drew.below ((zri _ _).alloc (zra _) (.cells (Z8 x) Z11))
       generalize W5.drew.alloc _=u1 at *
       refine hK.out _ _ G1 (fun hHeld=>?_)
       clear hK K
       (try simp only[Act.put,ma,mb,mc,md,me,mf])
       obtain⟨u2,hr2,om7,hg2⟩:=om6.store (t:=Z16) Z17 underlying9 (by unfold maxLen;exact oChgJ1) hsm (Value.agg (Z8 x))
       have G2:=G1.then_ hg2
       refine tr 5 rfl (fun K hK=>?_)
       refine ukb rfl Z16 _ _ _ rfl rfl rfl rfl hr2 ?_
       refine hK.out _ _ G2 (fun hHeld=>?_)
       clear hK K
       (try simp only[Act.put,ma,mb,mc,md,me,mf])
       refine wpAnyH_done (by kernel_rfl) ?_ _
       have bk7:=GrB.blk G2 bk5 hgk
       have c7:Below w.heap.size w u2:=c5.grown G2 c5.size (fun k e=>by cases e;exact oChgJ1)
       have om8:=OM.put_ (g:=(fun x:Z3=>Value.agg (Z8 x))) om7
       clear G0 G1 G2 om5 om6 om7 bk5 c5 bx hr2 hg2
       go_wp2_with fail
       go_roundw
       case rel=>exact⟨k+1,putX f (Z9 x).data.toList x,by exact oChgJ1,by go_num,c7,bk7,om8,I2.out⟩
       case measure=>simp[intOf];exact oChgJ1
      ·obtain rfl:k=set.length:=by exact oChgJ1
       have HD:=zrj (fun ss ts ha hp hw=>wqm (ss:=ss) (ts:=ts) S1.out S2.out HI.out ha hp hw)
       clear HI
       go_upto_region 20 with fail
       have hml:w.heap.size+1<wr.heap.size:=om.lt
       have hbx:(wr.alloc (.cells #[.map (some (w.heap.size+1))] Z16)).cell? ⟨wr.heap.size,0,none⟩=some (.map (some (w.heap.size+1))):=(Blk.new wr Z16 #[.map (some (w.heap.size+1))]).cell 0
       have hb6:=zsa wr (.cells #[.map (some (w.heap.size+1))] Z16)
       have om6:=om.below hb6
       have bk6:=bk.bl hb6
       have c6:=bthen hbr hb6
       have hs6:=zsb wr (.cells #[.map (some (w.heap.size+1))] Z16)
       have HV:=zrj (Z19 (some (w.heap.size+1)) wr)
       have HS:=zrj (Z20 w.heap.size wr.heap.size (w.heap.size+1) (rows.length+set.length) f _ (bk6.cell 0) (by rw[hs6];exact oChgJ1) (by rw[hs6];exact oChgJ1) hbx om6 (by exact oChgJ1))
       clear hbx om6 bk6 hb6 om bk hbr
       go_wp2_with fail
       refine HV.out.mono ?_
       rintro e w6 ⟨rfl,rfl⟩
       go_wp2_with fail
       refine HS.out.mono ?_
       rintro e w7 ⟨v,ss,ts,rfl,hA,hp,hw,hrow,hb7⟩
       obtain rfl:=HD.out ss ts hA hp hw
       have c7:=bthen c6 hb7
       obtain⟨p,c,rfl,hO⟩:=vwc Z21 hrow
       have hR:chgR Z9 rows set gone=chgL Z9 rows set gone:=by unfold chgR;rw[hB.out];rfl
       have hO2:=OwnR.lower hO c6.size
       clear hA hp hw hrow hO hb7 HS HD
       go_wp2_with fail
       go_ret2
       exact⟨p,c,by rw[hR,hB.out];rfl,by rw[hR];exact hO2,c7⟩):p:=h
@[simp] abbrev cChgJ0J:Nat:=91
@[simp] abbrev cChgJ0N:Nat:=93
@[simp] abbrev cChgJ0L:Nat:=95
@[simp] abbrev cChgJ1J:Nat:=191
@[simp] abbrev cChgJ1N:Nat:=194
@[simp] abbrev cChgJ1L:Nat:=197
@[simp] abbrev cChgJ2J:Nat:=38
@[simp] abbrev cChgJ2N:Nat:=40
@[simp] abbrev cChgJ2L:Nat:=42
@[simp] abbrev cChgJ3J:Nat:=5
@[simp] abbrev cChgJ3N:Nat:=3
@[simp] abbrev cChgJ3L:Nat:=3
@[simp] abbrev cChgJ4J:Nat:=203
@[simp] abbrev cChgJ4N:Nat:=204
@[simp] abbrev cChgJ4L:Nat:=252
section
open Go.RowKit
open YtknmnhleicakhaaGreatDoor renaming cChgJ0J -> Z1, cChgJ1J -> Z2, JobD -> Z3, uyb -> Z4, vjd -> Z5, rwJ -> Z8, JobD.name -> Z9, rowJ -> Z10, cChgJ2J -> Z11, cChgJ3J -> Z12, rlJ -> Z13, uqo -> Z15, cChgJ4J -> Z16, zwJ -> Z18, ww7 -> Z19, wwu -> Z20, vk7 -> Z21
open Go.Proofs.Tryz renaming func90 -> Z6, ntmps90 -> Z7, underlying38 -> Z14, underlying203 -> Z17
theorem wza (rows set:List JobD) (gone:List Zba) (p1 p2 p3:Zoa) (c1 c2 c3:Nat) (w:World) (h1:Elts w w.heap.size 5 p1 (rows.map rowJ)) (h2:Elts w w.heap.size 5 p2 (set.map rowJ)) (h3:Elts w w.heap.size 1 p3 (gone.map rowS))
  (l1:rows.length<=1000) (l2:set.length<=1000) (l3:gone.length<=1000) (s1:uqy JobD.name rows) (s2:uqy JobD.name set) (s3:uqy (fun s:Zba=>s) gone)
  (k1:∀x∈rows,x.name.size<=16) (k2:∀x∈set,x.name.size<=16) (k3:∀s∈gone,s.size<=16) :
  Calls prog 90 #[.slice p1 rows.length c1,.slice p2 set.length c2,.slice p3 gone.length c3,.func (.func 91) #[] #[]] w fun e w' =>
   ∃p c,e=.returned (.tuple #[.slice p (chgR JobD.name rows set gone).length c,.bool (chgB JobD.name rows gone)])/\OwnR w' w.heap.size 38 5 p c ((chgR JobD.name rows set gone).map rowJ)/\Below w.heap.size w w':=sChgJ1
end
section
open Go.RowKit
open YtknmnhleicakhaaGreatDoor renaming cChgJ0N -> Z1, cChgJ1N -> Z2, NodeD -> Z3, uyd -> Z4, vje -> Z5, rwN -> Z8, NodeD.name -> Z9, rowN -> Z10, cChgJ2N -> Z11, cChgJ3N -> Z12, rlN -> Z13, uqk -> Z15, cChgJ4N -> Z16, zwN -> Z18, ww9 -> Z19, www -> Z20, vk9 -> Z21
open Go.Proofs.Tryz renaming func92 -> Z6, ntmps92 -> Z7, underlying40 -> Z14, underlying204 -> Z17
theorem wzc (rows set:List NodeD) (gone:List Zba) (p1 p2 p3:Zoa) (c1 c2 c3:Nat) (w:World) (h1:Elts w w.heap.size 3 p1 (rows.map rowN)) (h2:Elts w w.heap.size 3 p2 (set.map rowN)) (h3:Elts w w.heap.size 1 p3 (gone.map rowS))
  (l1:rows.length<=1000) (l2:set.length<=1000) (l3:gone.length<=1000) (s1:uqy NodeD.name rows) (s2:uqy NodeD.name set) (s3:uqy (fun s:Zba=>s) gone)
  (k1:∀x∈rows,x.name.size<=16) (k2:∀x∈set,x.name.size<=16) (k3:∀s∈gone,s.size<=16) :
  Calls prog 92 #[.slice p1 rows.length c1,.slice p2 set.length c2,.slice p3 gone.length c3,.func (.func 93) #[] #[]] w fun e w' =>
   ∃p c,e=.returned (.tuple #[.slice p (chgR NodeD.name rows set gone).length c,.bool (chgB NodeD.name rows gone)])/\OwnR w' w.heap.size 40 3 p c ((chgR NodeD.name rows set gone).map rowN)/\Below w.heap.size w w':=sChgJ1
end
section
open Go.RowKit
open YtknmnhleicakhaaGreatDoor renaming cChgJ0L -> Z1, cChgJ1L -> Z2, uqb -> Z3, uyc -> Z4, uyp -> Z5, rwL -> Z8, uqb.job -> Z9, rowL -> Z10, cChgJ2L -> Z11, cChgJ3L -> Z12, rlL -> Z13, uqj -> Z15, cChgJ4L -> Z16, zwL -> Z18, ww8 -> Z19, wwv -> Z20, vk8 -> Z21
open Go.Proofs.Tryz renaming func94 -> Z6, ntmps94 -> Z7, underlying42 -> Z14, underlying252 -> Z17
theorem wzb (rows set:List uqb) (gone:List Zba) (p1 p2 p3:Zoa) (c1 c2 c3:Nat) (w:World) (h1:Elts w w.heap.size 3 p1 (rows.map rowL)) (h2:Elts w w.heap.size 3 p2 (set.map rowL)) (h3:Elts w w.heap.size 1 p3 (gone.map rowS))
  (l1:rows.length<=1000) (l2:set.length<=1000) (l3:gone.length<=1000) (s1:uqy uqb.job rows) (s2:uqy uqb.job set) (s3:uqy (fun s:Zba=>s) gone)
  (k1:∀x∈rows,x.job.size<=16) (k2:∀x∈set,x.job.size<=16) (k3:∀s∈gone,s.size<=16) :
  Calls prog 94 #[.slice p1 rows.length c1,.slice p2 set.length c2,.slice p3 gone.length c3,.func (.func 95) #[] #[]] w fun e w' =>
   ∃p c,e=.returned (.tuple #[.slice p (chgR uqb.job rows set gone).length c,.bool (chgB uqb.job rows gone)])/\OwnR w' w.heap.size 42 3 p c ((chgR uqb.job rows set gone).map rowL)/\Below w.heap.size w w':=sChgJ1
end
end Go.Proofs.YtknmnhleicakhaaGreatDoor
