/- Lemmas.
-/
import Derived.Test.YtknmnhleicakhaaGreatDoorPtWireA
set_option linter.all false
set_option maxHeartbeats 16000000
set_option maxRecDepth 100000
namespace Go.Proofs.YtknmnhleicakhaaGreatDoor
open Go.Proofs.Tryz
open Go.RowKit
def Step {α:Type} (p:Zlu->Res α) (l:Zlu) (x:Nat) (a:α) (l':Zlu) (y:Nat):Prop :=
 l'.length<=l.length/\(x≠0->y=x)/\(x=0->(∀b r,p l=.ok b r->a=b/\l'=r/\y=0)/\∀z,p l=.bad z->y=z)
theorem Step.stay {α:Type} {p:Zlu->Res α} {l:Zlu} {x:Nat} {a:α} (hx:x≠0):Step p l x a l x:=⟨zra _,fun _=>rfl,fun h=>absurd h hx⟩
theorem Step.unit {α:Type} (a:α) (l:Zlu) (x:Nat):Step (pUnit a) l x a l x :=
 ⟨zra _,fun _=>rfl,fun hx=>⟨fun b r hb=>by unfold pUnit at hb;injection hb with h1 h2;exact⟨h1,h2,hx⟩,fun z hz=>by cases hz⟩⟩
theorem Step.map {α β:Type} {p:Zlu->Res α} {l l':Zlu} {x y:Nat} {a:α} (f:α->β) (h:Step p l x a l' y):Step (pMap f p) l x (f a) l' y:=by
 refine⟨h.1,h.2.1,fun hx=>⟨fun b r hb=>?_,fun z hz=>?_⟩⟩
 ·unfold pMap at hb
  cases h1:p l with
  | bad e=>rw[h1] at hb;cases hb
  | ok a' r' =>
   rw[h1] at hb
   obtain⟨rfl,rfl,h4⟩:=(h.2.2 hx).1 _ _ h1
   change Res.ok (f a) l'=_ at hb
   injection hb with h5 h6
   exact⟨h5,h6,h4⟩
 ·unfold pMap at hz
  cases h1:p l with
  | bad e=>rw[h1] at hz;injection hz with hz;subst hz;exact(h.2.2 hx).2 _ h1
  | ok a' r'=>rw[h1] at hz;cases hz
theorem Step.seq {α β:Type} {p:Zlu->Res α} {q:α->Zlu->Res β} {l l1 l2:Zlu} {x y1 y2:Nat} {a:α} {b:β}
  (h:Step p l x a l1 y1) (h':Step (q a) l1 y1 b l2 y2) (hp:∀l e,p l=.bad e->e≠0):Step (pSeq p q) l x (a,b) l2 y2:=by
 refine⟨zrc h'.1 h.1,fun hx=>?_,fun hx=>⟨fun c r hc=>?_,fun z hz=>?_⟩⟩
 ·have h1:=h.2.1 hx
  rw[h'.2.1 (by omega),h1]
 ·unfold pSeq at hc
  cases h1:p l with
  | bad e=>rw[h1] at hc;cases hc
  | ok a' r' =>
   rw[h1] at hc
   obtain⟨rfl,rfl,h4⟩:=(h.2.2 hx).1 _ _ h1
   change ((q a l1).bind _)=_ at hc
   cases h2:q a l1 with
   | bad e=>rw[h2] at hc;cases hc
   | ok b' r'' =>
    rw[h2] at hc
    obtain⟨rfl,rfl,h5⟩:=(h'.2.2 h4).1 _ _ h2
    change Res.ok (a,b) l2=_ at hc
    injection hc with h6 h7
    exact⟨h6,h7,h5⟩
 ·unfold pSeq at hz
  cases h1:p l with
  | bad e =>
   rw[h1] at hz
   injection hz with hz
   subst hz
   have h2:=(h.2.2 hx).2 _ h1
   have h3:=hp _ _ h1
   rw[h'.2.1 (by omega),h2]
  | ok a' r' =>
   rw[h1] at hz
   obtain⟨rfl,rfl,h4⟩:=(h.2.2 hx).1 _ _ h1
   change ((q a l1).bind _)=_ at hz
   cases h2:q a l1 with
   | bad e=>rw[h2] at hz;injection hz with hz;subst hz;exact(h'.2.2 h4).2 _ h2
   | ok b' r''=>rw[h2] at hz;cases hz
theorem Step.opt {α:Type} {p:Zlu->Res α} {l l':Zlu} {x y:Nat} {a d:α} {c:Bool} (h1:c=true->Step p l x a l' y) (h2:c=false->a=d/\l'=l/\y=x):Step (pOpt c p d) l x a l' y:=by
 unfold pOpt
 cases c with
 | true=>simpa using h1 rfl
 | false =>
  obtain⟨rfl,rfl,rfl⟩:=h2 rfl
  simpa using Step.unit a l' y
theorem vwe {α:Type} (p:Zlu->Res α):∀(n:Nat) (l:Zlu),pRep p (n+1) l=(pRep p n l).bind fun xs r=>(p r).bind fun a r'=>.ok (xs++[a]) r'
 | 0,l=>by
  show((p l).bind fun a r=>(Res.ok [] r).bind fun xs r'=>.ok (a::xs) r')=((p l).bind fun a r'=>.ok ([]++[a]) r')
  cases p l <;> rfl
 | n+1,l=>by
  have ih:=vwe p n
  show((p l).bind fun a r=>(pRep p (n+1) r).bind fun xs r'=>.ok (a::xs) r')=(((p l).bind fun a r=>(pRep p n r).bind fun xs r'=>.ok (a::xs) r').bind _)
  cases p l with
  | bad e=>rfl
  | ok a r =>
   show((pRep p (n+1) r).bind _)=(((pRep p n r).bind fun xs r'=>.ok (a::xs) r').bind _)
   rw[ih r]
   cases pRep p n r with
   | bad e=>rfl
   | ok xs r' =>
    show(((p r').bind fun a r'=>.ok (xs++[a]) r').bind _)=((p r').bind _)
    cases p r' <;> rfl
theorem Step.snoc {α:Type} {p:Zlu->Res α} {n:Nat} {l l1 l2:Zlu} {x y1 y2:Nat} {xs:List α} {b:α}
  (h:Step (pRep p n) l x xs l1 y1) (h':Step p l1 y1 b l2 y2) (hp:∀l e,pRep p n l=.bad e->e≠0):Step (pRep p (n+1)) l x (xs++[b]) l2 y2:=by
 have h1:=Step.map (fun z:List α×α=>z.1++[z.2]) (Step.seq (q:=fun _=>p) h h' hp)
 have h2:pMap (fun z:List α×α=>z.1++[z.2]) (pSeq (pRep p n) fun _=>p)=pRep p (n+1):=by
  funext l
  rw[vwe]
  unfold pMap pSeq
  cases pRep p n l with
  | bad e=>rfl
  | ok xs r =>
   show(((p r).bind _).bind _)=((p r).bind _)
   cases p r <;> rfl
 rwa [h2] at h1
def Rd (w:World) (g:Nat) (l:Zlu) (e:Nat):Prop:=Blk w g 169 #[.string (bstr l),.int .i64 (e:Int)]
def RdP {α:Type} (val:α->Value) (p:Zlu->Res α) (w:World) (g:Nat) (l:Zlu) (x:Nat) (e:Ending) (w':World):Prop :=
 w.grownBy w' (some g)/\∃a l' y,e=.returned (val a)/\Rd w' g l' y/\Step p l x a l' y
theorem uzh (w:World) (g i:Nat) (u:Value):w.grownBy (w.setCell ⟨g,i,none⟩ u) (some g) :=
 ⟨rfl,rfl,rfl,by simp,fun k hk hk2=>Below.heap_setCell w ⟨g,i,none⟩ u k (by intro h0;exact hk2 (by rw[h0]))⟩
theorem ujj (w:World) (r:Option Nat):w.grownBy w r:=⟨rfl,rfl,rfl,zra _,fun k hk _=>rfl⟩
theorem vxh {a b:World} (h:Below a.heap.size a b) (r:Option Nat):a.grownBy b r:=⟨h.os,h.tape,h.output,h.size,fun k hk _=>h.block k hk⟩
theorem uq9 {a b c:World} {r:Option Nat} (h1:a.grownBy b r) (h2:b.grownBy c r):a.grownBy c r :=
 ⟨h2.os.trans h1.os,h2.tape.trans h1.tape,h2.output.trans h1.output,zrc h1.size h2.size,fun k hk hne=>(h2.block k (Nat.lt_of_lt_of_le hk h1.size) hne).trans (h1.block k hk hne)⟩
theorem ukn (g x z:Nat) (l:Zlu) (w:World) (hR:Rd w g l x) :
  Calls prog 107 #[zse g,.int .i64 (z:Int)] w fun e w'=>e=.returned (.tuple #[])/\w.grownBy w' (some g)/\Rd w' g l (if x=0 then z else x):=by
 have c1:=hR.c1
 have f1:=hR.frozen 1
 by_cases hx:x=0
 ·subst hx
  have hb:(((0:Nat):Int) == 0)=true:=rfl
  go_enter func107,ntmps107
  go_wp2
  go_end0
  exact⟨rfl,uzh _ _ _ _,hR.set_ 1 _⟩
 ·have hb:((x:Int) == 0)=false:=by rw[zrf];omega
  go_enter func107,ntmps107
  go_wp2
  go_end0
  exact⟨rfl,ujj _ _,hR⟩
theorem wx7 {l:Zlu} {s:Zba} (h:bstr l=s) (k:Nat):s.extract k s.size=bstr (l.drop k):=by
 subst h
 rw[<- ux3 ((bstr l).extract k (bstr l).size),vki,uqu,uqz,List.take_of_length_le (by rw[List.length_drop];omega)]
theorem vwl (g x:Nat) (l:Zlu) (w:World) (hR:Rd w g l x) :
  Calls prog 106 #[zse g] w fun e w'=>w.grownBy w' (some g)/\∃(n:Nat) (l':Zlu) (y:Nat),e=.returned (.int .u64 (n:Int))/\Rd w' g l' y/\Step pNum l x n l' y/\(y≠0->n=0)/\n<=4611686018427387904:=by
 have c0:=hR.c0
 have c1:=hR.c1
 have f0:=hR.frozen 0
 have HR:=zrj hR
 by_cases hx:x=0
 ·subst hx
  have hb:(((0:Nat):Int) != 0)=false:=rfl
  have HN:=zrj (fun w=>uww (bstr l) w)
  rw[uqu] at HN
  have hF:=fun z=>ukn g 0 z l w hR
  have HF:=zrj hF
  clear hF hR
  by_cases h0:(rd l).2.2=0
  ·obtain⟨n,k,hr,_,hk1,hk10,hkl,hn,_⟩:=rd_ok _ h0
   rw[hr] at HN
   by_cases hm:4611686018427387904<n
   ·have hP:pNum l=.bad 2:=by unfold pNum;rw[hr];simp only[];rw[if_pos trivial,if_pos hm]
    have HP:=zrj hP
    clear hP
    go_enter func106,ntmps106
    go_wp2_with fail
    refine(HN.out _).mono ?_
    rintro e w1 ⟨rfl,rfl⟩
    go_wp2_with fail
    refine(HF.out 2).mono ?_
    rintro e w1 ⟨rfl,hg,h1⟩
    go_wp2_with fail
    go_ret
    refine⟨hg,0,l,2,rfl,h1,⟨zra _,fun h=>absurd rfl h,fun _=>⟨fun b r hbr=>?_,fun z hz=>?_⟩⟩,fun _=>rfl,by omega⟩
    ·rw[HP.out] at hbr;cases hbr
    ·rw[HP.out] at hz;injection hz
   ·have hP:pNum l=.ok n (l.drop k):=by unfold pNum;rw[hr];simp only[];rw[if_pos trivial,if_neg hm]
    have HP:=zrj hP
    have hsz:(bstr l).size=l.length:=uqz l
    generalize hs:bstr l=s at *
    have HS:=zrj hs
    have hks:k<=s.size:=by omega
    clear hP hs
    go_enter func106,ntmps106
    go_wp2_with fail
    refine(HN.out _).mono ?_
    rintro e w1 ⟨rfl,rfl⟩
    go_wp2_with fail
    go_ret
    refine⟨uzh _ _ _ _,n,l.drop k,0,rfl,?_,⟨by simp,fun h=>absurd rfl h,fun _=>⟨fun b r hbr=>?_,fun z hz=>?_⟩⟩,fun h=>absurd rfl h,by omega⟩
    ·unfold Rd
     rw[<- wx7 HS.out k,show s.size=l.length from by rw[<- HS.out,uqz]]
     exact HR.out.set_ 0 _
    ·rw[HP.out] at hbr;injection hbr with h1 h2;exact⟨h1,h2,rfl⟩
    ·rw[HP.out] at hz;cases hz
  ·rcases rd_err l h0 with hr | hr
   all_goals(
    have hP:pNum l=.bad (rd l).2.2:=by unfold pNum;rw[if_neg h0]
    rw[hr] at hP HN
    have HP:=zrj hP
    clear hP h0
    go_enter func106,ntmps106
    go_wp2_with fail
    refine(HN.out _).mono ?_
    rintro e w1 ⟨rfl,rfl⟩
    go_wp2_with fail
    refine(HF.out _).mono ?_
    rintro e w1 ⟨rfl,hg,h1⟩
    go_wp2_with fail
    go_ret
    refine⟨hg,0,l,_,rfl,h1,⟨zra _,fun h=>absurd rfl h,fun _=>⟨fun b r hbr=>?_,fun z hz=>?_⟩⟩,fun _=>rfl,by omega⟩
    ·rw[HP.out] at hbr;cases hbr
    ·rw[HP.out] at hz;injection hz)
 ·have hb:((x:Int) != 0)=true:=by rw[bne_iff_ne];omega
  go_enter func106,ntmps106
  go_wp2_with fail
  go_ret
  exact⟨ujj _ _,0,l,x,rfl,HR.out,.stay hx,fun _=>rfl,by omega⟩
theorem uxc (g x:Nat) (l:Zlu) (w:World) (hR:Rd w g l x) :
  Calls prog 69 #[zse g] w fun e w'=>w.grownBy w' (some g)/\∃(n:Nat) (l':Zlu) (y:Nat),e=.returned (.int .i64 (n:Int))/\Rd w' g l' y/\Step pInt l x (n:Int) l' y/\Step pNum l x n l' y/\(y≠0->n=0)/\n<=4611686018427387904:=by
 have H:=zrj (vwl g x l w hR)
 go_enter func69,ntmps69
 go_wp2_with fail
 refine H.out.mono ?_
 rintro e w1 ⟨hg,n,l',y,rfl,hR1,hS,hy,hn⟩
 have hw:IntKind.i64.wrap (n:Int)=(n:Int):=IntWalk.i64_in _ (by omega)
 have HH:=zrj (show Rd w1 g l' y/\Step pInt l x (n:Int) l' y/\Step pNum l x n l' y/\(y≠0->n=0)/\n<=4611686018427387904 from⟨hR1,hS.map _,hS,hy,hn⟩)
 clear hR1 hS hy hn
 go_wp2_with fail
 go_ret
 exact⟨hg,n,l',y,rfl,HH.out⟩
theorem wwm (g x:Nat) (l:Zlu) (w:World) (hR:Rd w g l x) :
  Calls prog 128 #[zse g] w fun e w'=>RdP (fun n:Int=>.int .i64 n) pSig w g l x e w':=by
 have H:=zrj (vwl g x l w hR)
 go_enter func128,ntmps128
 go_wp2_with fail
 refine H.out.mono ?_
 rintro e w1 ⟨hg,n,l',y,rfl,hR1,hS,hy,hn⟩
 have HZ:=zrj (zag_any (n:Int) w1 (by omega) (by omega))
 have HH:=zrj (show Rd w1 g l' y/\Step pSig l x (zagI n) l' y from⟨hR1,hS.map (fun n:Nat=>zagI n)⟩)
 clear hR1 hS hy hn
 go_wp2_with fail
 refine HZ.out.mono ?_
 rintro e w2 ⟨rfl,rfl⟩
 go_wp2_with fail
 go_ret
 exact⟨hg,zagI n,l',y,rfl,HH.out⟩
theorem uvg (g x:Nat) (l:Zlu) (w:World) (hR:Rd w g l x) (hl:l.length<=4611686018427387904) (hT:Tabs w) :
  Calls prog 88 #[zse g] w fun e w'=>RdP (fun s:Zba=>.string s) pStr w g l x e w':=by
 have c0:=hR.c0
 have c1:=hR.c1
 have HR:=zrj hR
 have hglt:=hR.lt
 have e0:bstr []=ByteArray.empty:=rfl
 by_cases hx:x=0
 ·subst hx
  have hb:(((0:Nat):Int) != 0)=false:=rfl
  have hN:=wj4 (bstr l) w (by rw[uqz];exact hl) hT
  rw[uqu] at hN
  have HN:=zrj hN
  have HF:=zrj (fun(w1:World) z (hb:Below w.heap.size w w1)=>ukn g 0 z l w1 (show Rd w1 g l 0 from Blk.below hR hb hglt))
  have hRd:=zrj (fun(w1:World) (hb:Below w.heap.size w w1)=>(show Rd w1 g l 0 from Blk.below hR hb hglt))
  clear hR hN
  by_cases h0:(rdT l).2.2=0
  ·have hP:pStr l=.ok (bstr (rdT l).1) (l.drop (rdT l).2.1):=by unfold pStr pMap pText;rw[if_pos h0];rfl
   have hkl:=(xwo l h0).2.2.2.1
   have HP:=zrj hP
   generalize rdT l=R at *
   obtain⟨t,k,z⟩:=R
   change z=0 at h0
   subst h0
   change k<=l.length at hkl
   have hsz:(bstr l).size=l.length:=uqz l
   generalize hs:bstr l=s at *
   have HS:=zrj hs
   have hks:k<=s.size:=by omega
   clear hP hs
   go_enter func88,ntmps88
   go_wp2_with fail
   refine HN.out.mono ?_
   rintro e w1 ⟨rfl,hb1⟩
   have b1:=hRd.out w1 hb1
   have d0:w1.cell? ⟨g,0,none⟩=some (.string s):=by rw[<- HS.out];exact b1.cell 0
   have f0:=b1.frozen 0
   have B1:=zrj b1
   clear b1
   go_wp2_with fail
   go_ret
   refine⟨uq9 (vxh hb1 _) (uzh _ _ _ _),bstr t,l.drop k,0,rfl,?_,⟨by simp,fun h=>absurd rfl h,fun _=>⟨fun b r hbr=>?_,fun z hz=>?_⟩⟩⟩
   ·unfold Rd
    rw[<- wx7 HS.out k,show s.size=l.length from by rw[<- HS.out,uqz]]
    exact B1.out.set_ 0 _
   ·rw[HP.out] at hbr;injection hbr with h1 h2;exact⟨h1,h2,rfl⟩
   ·rw[HP.out] at hz;cases hz
  ·have hP:pStr l=.bad (rdT l).2.2:=by unfold pStr pMap pText;rw[if_neg h0];rfl
   have HP:=zrj hP
   generalize rdT l=R at *
   obtain⟨t,k,z⟩:=R
   change ¬z=0 at h0
   have hz:((z:Int) != 0)=true:=by rw[bne_iff_ne];omega
   clear hP
   go_enter func88,ntmps88
   go_wp2_with fail
   refine HN.out.mono ?_
   rintro e w1 ⟨rfl,hb1⟩
   go_wp2_with fail
   refine(HF.out w1 z hb1).mono ?_
   rintro e w2 ⟨rfl,hg,h1⟩
   go_wp2_with fail
   go_ret
   refine⟨uq9 (vxh hb1 _) hg,ByteArray.empty,l,z,rfl,h1,⟨zra _,fun h=>absurd rfl h,fun _=>⟨fun b r hbr=>?_,fun z hz=>?_⟩⟩⟩
   ·rw[HP.out] at hbr;cases hbr
   ·rw[HP.out] at hz;injection hz
 ·have hb:((x:Int) != 0)=true:=by rw[bne_iff_ne];omega
  go_enter func88,ntmps88
  go_wp2_with fail
  go_ret
  exact⟨ujj _ _,ByteArray.empty,l,x,rfl,HR.out,.stay hx⟩
theorem wx9 {w w':World} {a:Addr} (h:w'.heap[a.block]?=w.heap[a.block]?):w'.cell? a=w.cell? a:=by
 unfold World.cell?
 rw[h]
theorem Tabs.gw {w w':World} {g x:Nat} {l:Zlu} (h:Tabs w) (hR:Rd w g l x) (hg:w.grownBy w' (some g)):Tabs w':=by
 have c0:=hR.c0
 have lt:∀{a:Addr} {v:Value},w.cell? a=some v->a.block<w.heap.size:=fun {a v} hc=>by
  rcases Nat.lt_or_ge a.block w.heap.size with h' | h'
  ·exact h'
  ·simp[World.cell?,Array.getElem?_eq_none h'] at hc
 have key:∀(b:Nat),b≠g->∀(i:Nat) (v:Value),w.cell? ⟨b,i,none⟩=some v->w'.cell? ⟨b,i,none⟩=some v:=fun b hb i v hc=>by
  rw[wx9 (w:=w) (hg.block b (lt hc) (by intro h0;injection h0 with h0;exact hb h0))];exact hc
 have n3:Tryz.laysValid_ren.g 3≠g:=by
  intro h0
  have h1:=h.1 0 (by omega)
  rw[h0,c0] at h1
  injection h1 with h1;cases h1
 have n4:Tryz.laysValid_ren.g 4≠g:=by
  intro h0
  have h1:=(h.2 0 (by omega)).1
  rw[h0,c0] at h1
  injection h1 with h1;cases h1
 exact⟨fun c hc=>key _ n3 _ _ (h.1 c hc),fun i hi=>⟨key _ n4 _ _ (h.2 i hi).1,key _ n4 _ _ (h.2 i hi).2⟩⟩
theorem vk2 {a b:World} {r:Option Nat} (h:a.grownBy b r) (k i:Nat) (u:Value) (hk:a.heap.size<=k):a.grownBy (b.setCell ⟨k,i,none⟩ u) r :=
 ⟨h.os,h.tape,h.output,by rw[show(b.setCell ⟨k,i,none⟩ u).heap.size=b.heap.size from by simp];exact h.size,fun j hj hne=>(Below.heap_setCell b ⟨k,i,none⟩ u j (by show j≠k;omega)).trans (h.block j hj hne)⟩
theorem ux1 {a b:World} {r:Option Nat} (h:a.grownBy b r) (o:Obj):a.grownBy (b.alloc o) r:=uq9 h (vxh ((zri _ _).alloc (zra _) o) r)
theorem Blk.gw {a b:World} {g:Nat} {t:TypeId} {cs:Array Value} {r:Nat} (h:Blk a g t cs) (hb:a.grownBy b (some r)) (hr:g≠r):Blk b g t cs:=(hb.block g h.lt (by intro h0;injection h0 with h0;exact hr h0)).trans h
theorem Tabs.setN {w:World} {g x k i:Nat} {l:Zlu} (h:Tabs w) (hk:k<w.heap.size) (hne:k≠g) (hR:Rd w g l x) (hv:∃n,w.cell? ⟨k,i,none⟩=some (.int .i64 n)) (u:Value):Tabs (w.setCell ⟨k,i,none⟩ u):=by
 obtain⟨n,hc⟩:=hv
 have h0:∀{b j:Nat} {v:Value},w.cell? ⟨b,j,none⟩=some v->v≠.int .i64 n->(w.setCell ⟨k,i,none⟩ u).cell? ⟨b,j,none⟩=some v:=fun {b j v} hb hv=>by
  rw[World.cell?_setCell_other w _ _ u (by intro h1;injection h1 with h2 h3;subst h2 h3;rw[hc] at hb;injection hb with hb;exact hv hb.symm)]
  exact hb
 exact⟨fun c hc=>h0 (h.1 c hc) (by intro h;cases h),fun i hi=>⟨h0 (h.2 i hi).1 (by intro h;cases h),h0 (h.2 i hi).2 (by intro h;cases h)⟩⟩
theorem uk4 {a b:World} {r:Option Nat} (h:a.grownBy b r) (k:Nat) (cs:Array Value) (hk:a.heap.size<=k):a.grownBy (b.setRow k cs) r:=by
 have hb:Below k b (b.setRow k cs):=uqh (zri k b) (zra _) _
 exact⟨hb.os.trans h.os,hb.tape.trans h.tape,hb.output.trans h.output,zrc h.size hb.size,fun j hj hne=>(hb.block j (by omega)).trans (h.block j hj hne)⟩
theorem wy7 (j:uqb):(rowL j).toArray.all (·.oneCell')=true:=by simp[rowL,Value.oneCell']
def endE (x:Nat) (l:Zlu):Nat:=if x≠0 then x else if l=[] then 0 else 4
theorem uk8 (g x:Nat) (l:Zlu) (w:World) (hR:Rd w g l x) :
  Calls prog 70 #[zse g] w fun e w'=>w.grownBy w' (some g)/\e=.returned (.int .i64 (endE x l:Int)):=by
 have c0:=hR.c0
 have c1:=hR.c1
 have f0:=hR.frozen 0
 by_cases hl:l=[]
 ·subst hl
  have e0:(bstr []).toList.isEmpty=true:=by rw[ByteArray.toList_eq,uqu];rfl
  have HX:=zrj (show x=endE x [] from by unfold endE;split <;> simp_all)
  go_enter func70,ntmps70
  go_wp2_with fail
  go_ret
  exact⟨ujj _ _,by rw[<- HX.out];rfl⟩
 ·have e0:(bstr l).toList.isEmpty=false:=by
   rw[ByteArray.toList_eq,uqu]
   cases l with
   | nil=>exact absurd rfl hl
   | cons a r=>rfl
  have HX:=zrj (show(if x=0 then 4 else x)=endE x l from by unfold endE;split <;> simp_all)
  have HF:=zrj (ukn g x 4 l w hR)
  clear hR
  go_enter func70,ntmps70
  go_wp2_with fail
  refine HF.out.mono ?_
  rintro e w1 ⟨rfl,hg,h1⟩
  rw[HX.out] at h1
  have d1:=h1.c1
  clear HX
  generalize hE:endE x l=y at *
  have HE:=zrj hE
  clear hE
  go_wp2_with fail
  go_ret
  exact⟨hg,by rw[HE.out];rfl⟩
theorem vyw (g x:Nat) (l:Zlu) (w:World) (hR:Rd w g l x) (hl:l.length<=4611686018427387904) (hT:Tabs w) :
  Calls prog 84 #[zse g] w fun e w'=>RdP (fun j:uqb=>.agg (rowL j).toArray) uj8 w g l x e w':=by
 have hglt:=hR.lt
 go_enter func84,ntmps84
 go_wp2_with fail
 have bC:=Blk.new w 42 #[.string (ByteArray.mk #[]),.string (ByteArray.mk #[]),.int .i64 0]
 have R0:Rd (w.alloc (.cells #[.string (ByteArray.mk #[]),.string (ByteArray.mk #[]),.int .i64 0] 42)) g l x:=Blk.alloc hR _
 have T0:Tabs (w.alloc (.cells #[.string (ByteArray.mk #[]),.string (ByteArray.mk #[]),.int .i64 0] 42)):=hT.below ((zri _ _).alloc (zra _) _)
 have G0:w.grownBy (w.alloc (.cells #[.string (ByteArray.mk #[]),.string (ByteArray.mk #[]),.int .i64 0] 42)) (some g):=ux1 (ujj _ _) _
 generalize w.alloc (.cells #[.string (ByteArray.mk #[]),.string (ByteArray.mk #[]),.int .i64 0] 42)=W0 at *
 refine(uvg g x l W0 R0 hl T0).mono ?_
 rintro e w1 ⟨g1,a1,l1,y1,rfl,R1,S1⟩
 have T1:=T0.gw R0 g1
 have b1:=bC.gw g1 (by omega)
 have G1:=uq9 G0 g1
 have hl1:=zrc S1.1 hl
 clear hR hT bC R0 T0 G0 g1
 go_wp2_with fail
 refine(uvg g y1 l1 w1 R1 hl1 T1).mono ?_
 rintro e w2 ⟨g2,a2,l2,y2,rfl,R2,S2⟩
 have T2:=T1.gw R1 g2
 have b2:=b1.gw g2 (by omega)
 have G2:=uq9 G1 g2
 clear T1 b1 R1 G1 g2
 go_wp2_with fail
 refine(uxc g y2 l2 w2 R2).mono ?_
 rintro e w3 ⟨g3,a3,l3,y3,rfl,R3,S3,_,_,_⟩
 have b3:=b2.gw g3 (by omega)
 have G3:=uq9 G2 g3
 clear T2 b2 R2 G2 g3
 go_wp2_with(refine uqc rfl _ _ _ rfl w.heap.size rfl _ _ (rowL ⟨a1,a2,(a3:Int)⟩).toArray b3 rfl uqj rfl (wy7 _) ?_)
 (try simp only[Exit.inBlock,Exit.then])
 refine bodyPost_ret (uq8 rfl _ rfl (b3.setRow _) underlying42 rfl uqj) rfl ?_
 refine⟨uk4 G3 _ _ (zra _),⟨a1,a2,(a3:Int)⟩,l3,y3,rfl,Blk.setRow_far R3 (by omega) _,?_⟩
 exact Step.map (fun x:Zba×Zba×Int=>(⟨x.1,x.2.1,x.2.2⟩:uqb)) (Step.seq (q:=fun _=>pSeq pStr fun _=>pInt) S1 (Step.seq (q:=fun _=>pInt) S2 S3 uzl.err) uzl.err)
theorem uy4 (j:NodeD):(rowN j).toArray.all (·.oneCell')=true:=by simp[rowN,Value.oneCell']
theorem uvw (j:JobD):(rowJ j).toArray.all (·.oneCell')=true:=by simp[rowJ,Value.oneCell']
theorem vwi (g x:Nat) (l:Zlu) (v:Int) (w:World) (hR:Rd w g l x) (hl:l.length<=4611686018427387904) (hT:Tabs w) :
  Calls prog 82 #[zse g,.int .i64 v] w fun e w'=>RdP (fun j:NodeD=>.agg (rowN j).toArray) (pNode v) w g l x e w':=by
 have hglt:=hR.lt
 go_enter func82,ntmps82
 go_wp2_with fail
 have bC:=Blk.new w 40 #[.string (ByteArray.mk #[]),.int .i64 0,.string (ByteArray.mk #[])]
 have R0:Rd (w.alloc (.cells #[.string (ByteArray.mk #[]),.int .i64 0,.string (ByteArray.mk #[])] 40)) g l x:=Blk.alloc hR _
 have T0:Tabs (w.alloc (.cells #[.string (ByteArray.mk #[]),.int .i64 0,.string (ByteArray.mk #[])] 40)):=hT.below ((zri _ _).alloc (zra _) _)
 have G0:w.grownBy (w.alloc (.cells #[.string (ByteArray.mk #[]),.int .i64 0,.string (ByteArray.mk #[])] 40)) (some g):=ux1 (ujj _ _) _
 generalize w.alloc (.cells #[.string (ByteArray.mk #[]),.int .i64 0,.string (ByteArray.mk #[])] 40)=W0 at *
 refine(uvg g x l W0 R0 hl T0).mono ?_
 rintro e w1 ⟨g1,a1,l1,y1,rfl,R1,S1⟩
 have T1:=T0.gw R0 g1
 have b1:=bC.gw g1 (by omega)
 have G1:=uq9 G0 g1
 have hl1:=zrc S1.1 hl
 clear hR hT bC R0 T0 G0 g1
 go_wp2_with fail
 refine(uxc g y1 l1 w1 R1).mono ?_
 rintro e w2 ⟨g2,a2,l2,y2,rfl,R2,S2,_,_,_⟩
 have T2:=T1.gw R1 g2
 have b2:=b1.gw g2 (by omega)
 have G2:=uq9 G1 g2
 have hl2:=zrc S2.1 hl1
 clear T1 b1 R1 G1 g2
 by_cases hv:1<v
 ·have hdv:decide (1<v)=true:=decide_eq_true hv
  have HV:=zrj hdv
  clear hdv
  go_wp2_with(refine uqf rfl _ _ _ rfl rfl _ _ (rowN ⟨a1,(a2:Int),ByteArray.mk #[]⟩).toArray rfl uqk rfl (uy4 _) ?_)
  have bN:=Blk.new w2 40 (rowN ⟨a1,(a2:Int),ByteArray.mk #[]⟩).toArray
  have R3:Rd (w2.alloc (.cells (rowN ⟨a1,(a2:Int),ByteArray.mk #[]⟩).toArray 40)) g l2 y2:=Blk.alloc R2 _
  have T3:Tabs (w2.alloc (.cells (rowN ⟨a1,(a2:Int),ByteArray.mk #[]⟩).toArray 40)):=T2.below ((zri _ _).alloc (zra _) _)
  have G3:=ux1 G2 (.cells (rowN ⟨a1,(a2:Int),ByteArray.mk #[]⟩).toArray 40)
  have b3:=b2.alloc (.cells (rowN ⟨a1,(a2:Int),ByteArray.mk #[]⟩).toArray 40)
  have hs2:=G2.size
  have hg2:=R2.lt
  have hb2:=b2.lt
  clear T2 R2 b2 G2
  generalize w2.alloc (.cells (rowN ⟨a1,(a2:Int),ByteArray.mk #[]⟩).toArray 40)=W3 at *
  refine(uvg g y2 l2 W3 R3 hl2 T3).mono ?_
  rintro e w4 ⟨g4,a4,l4,y4,rfl,R4,S4⟩
  have bN4:=bN.gw g4 (by omega)
  have b4:=b3.gw g4 (by omega)
  have G4:=uq9 G3 g4
  clear T3 R3 b3 G3 g4 bN
  have d2:=bN4.c2
  have f2:=bN4.frozen 2
  have bN5:=bN4.set_ 2 (.string a4)
  have b5:=b4.far (p:=⟨w2.heap.size,2,none⟩) (by show w.heap.size≠w2.heap.size;omega) (.string a4)
  clear bN4 b4
  go_wp2_with(first
   | (refine uqa rfl _ _ rfl w2.heap.size rfl _ (rowN ⟨a1,(a2:Int),a4⟩).toArray bN5 _ underlying40 rfl uqk ?_)
   | (refine uqc rfl _ _ _ rfl w.heap.size rfl _ _ (rowN ⟨a1,(a2:Int),a4⟩).toArray b5 rfl uqk rfl (uy4 _) ?_))
  (try simp only[Exit.inBlock,Exit.then])
  refine bodyPost_ret (uq8 rfl _ rfl (b5.setRow _) underlying40 rfl uqk) rfl ?_
  refine⟨uk4 (vk2 G4 _ _ _ (by omega)) _ _ (zra _),⟨a1,(a2:Int),a4⟩,l4,y4,rfl,Blk.setRow_far (Blk.far R4 (by show g≠w2.heap.size;omega) _) (by omega) _,?_⟩
  exact Step.map (fun x:Zba×Int×Zba=>(⟨x.1,x.2.1,x.2.2⟩:NodeD)) (Step.seq (q:=fun _=>pSeq pInt fun _=>pOpt (decide (1<v)) pStr ByteArray.empty) S1 (Step.seq (q:=fun _=>pOpt (decide (1<v)) pStr ByteArray.empty) S2 (Step.opt (fun _=>S4) (fun h=>by rw[HV.out] at h;cases h)) uzg.err) uzl.err)
 ·have hdv:decide (1<v)=false:=decide_eq_false hv
  have HV:=zrj hdv
  clear hdv
  have bN:=Blk.new w2 40 (rowN ⟨a1,(a2:Int),ByteArray.mk #[]⟩).toArray
  have b3:=b2.alloc (.cells (rowN ⟨a1,(a2:Int),ByteArray.mk #[]⟩).toArray 40)
  go_wp2_with(first
   | (refine uqf rfl _ _ _ rfl rfl _ _ (rowN ⟨a1,(a2:Int),ByteArray.mk #[]⟩).toArray rfl uqk rfl (uy4 _) ?_)
   | (refine uqa rfl _ _ rfl w2.heap.size rfl _ (rowN ⟨a1,(a2:Int),ByteArray.mk #[]⟩).toArray bN _ underlying40 rfl uqk ?_)
   | (refine uqc rfl _ _ _ rfl w.heap.size rfl _ _ (rowN ⟨a1,(a2:Int),ByteArray.mk #[]⟩).toArray b3 rfl uqk rfl (uy4 _) ?_))
  (try simp only[Exit.inBlock,Exit.then])
  refine bodyPost_ret (uq8 rfl _ rfl (b3.setRow _) underlying40 rfl uqk) rfl ?_
  refine⟨uk4 (ux1 G2 _) _ _ (zra _),⟨a1,(a2:Int),ByteArray.mk #[]⟩,l2,y2,rfl,Blk.setRow_far (Blk.alloc R2 _) (by omega) _,?_⟩
  exact Step.map (fun x:Zba×Int×Zba=>(⟨x.1,x.2.1,x.2.2⟩:NodeD)) (Step.seq (q:=fun _=>pSeq pInt fun _=>pOpt (decide (1<v)) pStr ByteArray.empty) S1 (Step.seq (q:=fun _=>pOpt (decide (1<v)) pStr ByteArray.empty) S2 (Step.opt (fun h=>by rw[HV.out] at h;cases h) (fun _=>⟨rfl,rfl,rfl⟩)) uzg.err) uzl.err)
theorem wxl (g x:Nat) (l:Zlu) (v:Int) (w:World) (hR:Rd w g l x) (hl:l.length<=4611686018427387904) (hT:Tabs w) :
  Calls prog 79 #[zse g,.int .i64 v] w fun e w'=>RdP (fun j:JobD=>.agg (rowJ j).toArray) (pJob v) w g l x e w':=by
 have hglt:=hR.lt
 go_enter func79,ntmps79
 go_wp2_with fail
 have bC:=Blk.new w 38 #[.string (ByteArray.mk #[]),.int .i64 0,.int .i64 0,.int .i64 0,.string (ByteArray.mk #[])]
 have R0:Rd (w.alloc (.cells #[.string (ByteArray.mk #[]),.int .i64 0,.int .i64 0,.int .i64 0,.string (ByteArray.mk #[])] 38)) g l x:=Blk.alloc hR _
 have T0:Tabs (w.alloc (.cells #[.string (ByteArray.mk #[]),.int .i64 0,.int .i64 0,.int .i64 0,.string (ByteArray.mk #[])] 38)):=hT.below ((zri _ _).alloc (zra _) _)
 have G0:w.grownBy (w.alloc (.cells #[.string (ByteArray.mk #[]),.int .i64 0,.int .i64 0,.int .i64 0,.string (ByteArray.mk #[])] 38)) (some g):=ux1 (ujj _ _) _
 generalize w.alloc (.cells #[.string (ByteArray.mk #[]),.int .i64 0,.int .i64 0,.int .i64 0,.string (ByteArray.mk #[])] 38)=W0 at *
 refine(uvg g x l W0 R0 hl T0).mono ?_
 rintro e w0 ⟨g1,a1,l1,y1,rfl,R1,S1⟩
 have T1:=T0.gw R0 g1
 have b1:=bC.gw g1 (by omega)
 have G1:=uq9 G0 g1
 have hl1:=zrc S1.1 hl
 clear hR hT bC R0 T0 G0 g1
 go_wp2_with fail
 refine(wwm g y1 l1 w0 R1).mono ?_
 rintro e w1 ⟨g2,a2,l2,y2,rfl,R2,S2⟩
 have T2:=T1.gw R1 g2
 have b2:=b1.gw g2 (by omega)
 have G2:=uq9 G1 g2
 have hl2:=zrc S2.1 hl1
 clear T1 b1 R1 G1 g2
 go_wp2_with fail
 refine(uxc g y2 l2 w1 R2).mono ?_
 rintro e w2 ⟨g3,a3,l3,y3,rfl,R3,S3,_,_,_⟩
 have T3:=T2.gw R2 g3
 have b3:=b2.gw g3 (by omega)
 have G3:=uq9 G2 g3
 have hl3:=zrc S3.1 hl2
 clear T2 b2 R2 G2 g3
 have hs2:=G3.size
 have hg2:=R3.lt
 have hb2:=b3.lt
 by_cases hv1:1<v
 ·have HV1:=zrj (show decide (1<v)=true from decide_eq_true hv1)
  by_cases hv2:2<v
  ·have HV2:=zrj (show decide (2<v)=true from decide_eq_true hv2)
   go_wp2_with(refine uqf rfl _ _ _ rfl rfl _ _ (rowJ ⟨a1,a2,(a3:Int),0,ByteArray.mk #[]⟩).toArray rfl uqo rfl (uvw _) ?_)
   have bN:=Blk.new w2 38 (rowJ ⟨a1,a2,(a3:Int),0,ByteArray.mk #[]⟩).toArray
   have R4:Rd (w2.alloc (.cells (rowJ ⟨a1,a2,(a3:Int),0,ByteArray.mk #[]⟩).toArray 38)) g l3 y3:=Blk.alloc R3 _
   have T4:Tabs (w2.alloc (.cells (rowJ ⟨a1,a2,(a3:Int),0,ByteArray.mk #[]⟩).toArray 38)):=T3.below ((zri _ _).alloc (zra _) _)
   have G4:=ux1 G3 (.cells (rowJ ⟨a1,a2,(a3:Int),0,ByteArray.mk #[]⟩).toArray 38)
   have b4:=b3.alloc (.cells (rowJ ⟨a1,a2,(a3:Int),0,ByteArray.mk #[]⟩).toArray 38)
   clear T3 R3 b3 G3
   generalize w2.alloc (.cells (rowJ ⟨a1,a2,(a3:Int),0,ByteArray.mk #[]⟩).toArray 38)=W3 at *
   refine(uxc g y3 l3 W3 R4).mono ?_
   rintro e w4 ⟨g4,a4,l4,y4,rfl,R5,S4,_,_,_⟩
   have bN4:=bN.gw g4 (by omega)
   have b5:=b4.gw g4 (by omega)
   have T5:=T4.gw R4 g4
   have G5:=uq9 G4 g4
   have hl4:=zrc S4.1 hl3
   clear T4 R4 b4 G4 g4 bN
   have d3:=bN4.c3
   have f3:=bN4.frozen 3
   have bN5:Blk _ w2.heap.size 38 (rowJ ⟨a1,a2,(a3:Int),(a4:Int),ByteArray.mk #[]⟩).toArray:=bN4.set_ 3 (.int .i64 (a4:Int))
   have b6:=b5.far (p:=⟨w2.heap.size,3,none⟩) (by show w.heap.size≠w2.heap.size;omega) (.int .i64 (a4:Int))
   have R6:Rd _ g l4 y4:=Blk.far R5 (p:=⟨w2.heap.size,3,none⟩) (by show g≠w2.heap.size;omega) (.int .i64 (a4:Int))
   have hlt4:=bN4.lt
   have G6:=vk2 G5 w2.heap.size 3 (.int .i64 (a4:Int)) (by omega)
   clear bN4 b5 G5
   have T6:Tabs (w4.setCell ⟨w2.heap.size,3,none⟩ (.int .i64 (a4:Int))):=T5.setN hlt4 (by omega) R5 ⟨_,d3⟩ (.int .i64 (a4:Int))
   clear R5 T5
   go_wp2_with fail
   generalize w4.setCell ⟨w2.heap.size,3,none⟩ (.int .i64 (a4:Int))=W4 at *
   refine(uvg g y4 l4 W4 R6 hl4 T6).mono ?_
   rintro e w5 ⟨g5,a5,l5,y5,rfl,R7,S5⟩
   have bN6:=bN5.gw g5 (by omega)
   have b7:=b6.gw g5 (by omega)
   have G7:=uq9 G6 g5
   clear T6 R6 b6 G6 g5 bN5
   have d4:=bN6.c4
   have f4:=bN6.frozen 4
   have bN7:Blk _ w2.heap.size 38 (rowJ ⟨a1,a2,(a3:Int),(a4:Int),a5⟩).toArray:=bN6.set_ 4 (.string a5)
   have b8:=b7.far (p:=⟨w2.heap.size,4,none⟩) (by show w.heap.size≠w2.heap.size;omega) (.string a5)
   have R8:Rd _ g l5 y5:=Blk.far R7 (p:=⟨w2.heap.size,4,none⟩) (by show g≠w2.heap.size;omega) (.string a5)
   have G8:=vk2 G7 w2.heap.size 4 (.string a5) (by omega)
   clear bN6 b7 G7
   go_wp2_with(first
    | (refine uqa rfl _ _ rfl w2.heap.size rfl _ (rowJ ⟨a1,a2,(a3:Int),(a4:Int),a5⟩).toArray bN7 _ underlying38 rfl uqo ?_)
    | (refine uqc rfl _ _ _ rfl w.heap.size rfl _ _ (rowJ ⟨a1,a2,(a3:Int),(a4:Int),a5⟩).toArray b8 rfl uqo rfl (uvw _) ?_))
   (try simp only[Exit.inBlock,Exit.then])
   refine bodyPost_ret (uq8 rfl _ rfl (b8.setRow _) underlying38 rfl uqo) rfl ?_
   refine⟨uk4 (G8) _ _ (zra _),⟨a1,a2,(a3:Int),(a4:Int),a5⟩,l5,y5,rfl,Blk.setRow_far (R8) (by omega) _,?_⟩
   exact Step.map (fun x:Zba×Int×Int×Int×Zba=>(⟨x.1,x.2.1,x.2.2.1,x.2.2.2.1,x.2.2.2.2⟩:JobD)) (Step.seq (q:=fun _=>pSeq pSig fun _=>pSeq pInt fun _=>pSeq (pOpt (decide (1<v)) pInt 0) fun _=>pOpt (decide (2<v)) pStr ByteArray.empty) S1 (Step.seq (q:=fun _=>pSeq pInt fun _=>pSeq (pOpt (decide (1<v)) pInt 0) fun _=>pOpt (decide (2<v)) pStr ByteArray.empty) S2 (Step.seq (q:=fun _=>pSeq (pOpt (decide (1<v)) pInt 0) fun _=>pOpt (decide (2<v)) pStr ByteArray.empty) S3 (Step.seq (q:=fun _=>pOpt (decide (2<v)) pStr ByteArray.empty) (Step.opt (fun _=>S4) (fun h=>by rw[HV1.out] at h;cases h)) (Step.opt (fun _=>S5) (fun h=>by rw[HV2.out] at h;cases h)) (PP.opt (decide (1<v)) 0 uzg).err) uzg.err) wxe.err) uzl.err)
  ·have HV2:=zrj (show decide (2<v)=false from decide_eq_false hv2)
   go_wp2_with(refine uqf rfl _ _ _ rfl rfl _ _ (rowJ ⟨a1,a2,(a3:Int),0,ByteArray.mk #[]⟩).toArray rfl uqo rfl (uvw _) ?_)
   have bN:=Blk.new w2 38 (rowJ ⟨a1,a2,(a3:Int),0,ByteArray.mk #[]⟩).toArray
   have R4:Rd (w2.alloc (.cells (rowJ ⟨a1,a2,(a3:Int),0,ByteArray.mk #[]⟩).toArray 38)) g l3 y3:=Blk.alloc R3 _
   have T4:Tabs (w2.alloc (.cells (rowJ ⟨a1,a2,(a3:Int),0,ByteArray.mk #[]⟩).toArray 38)):=T3.below ((zri _ _).alloc (zra _) _)
   have G4:=ux1 G3 (.cells (rowJ ⟨a1,a2,(a3:Int),0,ByteArray.mk #[]⟩).toArray 38)
   have b4:=b3.alloc (.cells (rowJ ⟨a1,a2,(a3:Int),0,ByteArray.mk #[]⟩).toArray 38)
   clear T3 R3 b3 G3
   generalize w2.alloc (.cells (rowJ ⟨a1,a2,(a3:Int),0,ByteArray.mk #[]⟩).toArray 38)=W3 at *
   refine(uxc g y3 l3 W3 R4).mono ?_
   rintro e w4 ⟨g4,a4,l4,y4,rfl,R5,S4,_,_,_⟩
   have bN4:=bN.gw g4 (by omega)
   have b5:=b4.gw g4 (by omega)
   have T5:=T4.gw R4 g4
   have G5:=uq9 G4 g4
   have hl4:=zrc S4.1 hl3
   clear T4 R4 b4 G4 g4 bN
   have d3:=bN4.c3
   have f3:=bN4.frozen 3
   have bN5:Blk _ w2.heap.size 38 (rowJ ⟨a1,a2,(a3:Int),(a4:Int),ByteArray.mk #[]⟩).toArray:=bN4.set_ 3 (.int .i64 (a4:Int))
   have b6:=b5.far (p:=⟨w2.heap.size,3,none⟩) (by show w.heap.size≠w2.heap.size;omega) (.int .i64 (a4:Int))
   have R6:Rd _ g l4 y4:=Blk.far R5 (p:=⟨w2.heap.size,3,none⟩) (by show g≠w2.heap.size;omega) (.int .i64 (a4:Int))
   have hlt4:=bN4.lt
   have G6:=vk2 G5 w2.heap.size 3 (.int .i64 (a4:Int)) (by omega)
   clear bN4 b5 G5
   go_wp2_with(first
    | (refine uqa rfl _ _ rfl w2.heap.size rfl _ (rowJ ⟨a1,a2,(a3:Int),(a4:Int),ByteArray.mk #[]⟩).toArray bN5 _ underlying38 rfl uqo ?_)
    | (refine uqc rfl _ _ _ rfl w.heap.size rfl _ _ (rowJ ⟨a1,a2,(a3:Int),(a4:Int),ByteArray.mk #[]⟩).toArray b6 rfl uqo rfl (uvw _) ?_))
   (try simp only[Exit.inBlock,Exit.then])
   refine bodyPost_ret (uq8 rfl _ rfl (b6.setRow _) underlying38 rfl uqo) rfl ?_
   refine⟨uk4 (G6) _ _ (zra _),⟨a1,a2,(a3:Int),(a4:Int),ByteArray.mk #[]⟩,l4,y4,rfl,Blk.setRow_far (R6) (by omega) _,?_⟩
   exact Step.map (fun x:Zba×Int×Int×Int×Zba=>(⟨x.1,x.2.1,x.2.2.1,x.2.2.2.1,x.2.2.2.2⟩:JobD)) (Step.seq (q:=fun _=>pSeq pSig fun _=>pSeq pInt fun _=>pSeq (pOpt (decide (1<v)) pInt 0) fun _=>pOpt (decide (2<v)) pStr ByteArray.empty) S1 (Step.seq (q:=fun _=>pSeq pInt fun _=>pSeq (pOpt (decide (1<v)) pInt 0) fun _=>pOpt (decide (2<v)) pStr ByteArray.empty) S2 (Step.seq (q:=fun _=>pSeq (pOpt (decide (1<v)) pInt 0) fun _=>pOpt (decide (2<v)) pStr ByteArray.empty) S3 (Step.seq (q:=fun _=>pOpt (decide (2<v)) pStr ByteArray.empty) (Step.opt (fun _=>S4) (fun h=>by rw[HV1.out] at h;cases h)) (Step.opt (fun h=>by rw[HV2.out] at h;cases h) (fun _=>⟨rfl,rfl,rfl⟩)) (PP.opt (decide (1<v)) 0 uzg).err) uzg.err) wxe.err) uzl.err)
 ·have HV1:=zrj (show decide (1<v)=false from decide_eq_false hv1)
  have hv2:¬2<v:=by omega
  have HV2:=zrj (show decide (2<v)=false from decide_eq_false hv2)
  have bN:=Blk.new w2 38 (rowJ ⟨a1,a2,(a3:Int),0,ByteArray.mk #[]⟩).toArray
  have b4:=b3.alloc (.cells (rowJ ⟨a1,a2,(a3:Int),0,ByteArray.mk #[]⟩).toArray 38)
  go_wp2_with(first
   | (refine uqf rfl _ _ _ rfl rfl _ _ (rowJ ⟨a1,a2,(a3:Int),0,ByteArray.mk #[]⟩).toArray rfl uqo rfl (uvw _) ?_)
   | (refine uqa rfl _ _ rfl w2.heap.size rfl _ (rowJ ⟨a1,a2,(a3:Int),0,ByteArray.mk #[]⟩).toArray bN _ underlying38 rfl uqo ?_)
   | (refine uqc rfl _ _ _ rfl w.heap.size rfl _ _ (rowJ ⟨a1,a2,(a3:Int),0,ByteArray.mk #[]⟩).toArray b4 rfl uqo rfl (uvw _) ?_))
  (try simp only[Exit.inBlock,Exit.then])
  refine bodyPost_ret (uq8 rfl _ rfl (b4.setRow _) underlying38 rfl uqo) rfl ?_
  refine⟨uk4 (ux1 G3 _) _ _ (zra _),⟨a1,a2,(a3:Int),0,ByteArray.mk #[]⟩,l3,y3,rfl,Blk.setRow_far (Blk.alloc R3 _) (by omega) _,?_⟩
  exact Step.map (fun x:Zba×Int×Int×Int×Zba=>(⟨x.1,x.2.1,x.2.2.1,x.2.2.2.1,x.2.2.2.2⟩:JobD)) (Step.seq (q:=fun _=>pSeq pSig fun _=>pSeq pInt fun _=>pSeq (pOpt (decide (1<v)) pInt 0) fun _=>pOpt (decide (2<v)) pStr ByteArray.empty) S1 (Step.seq (q:=fun _=>pSeq pInt fun _=>pSeq (pOpt (decide (1<v)) pInt 0) fun _=>pOpt (decide (2<v)) pStr ByteArray.empty) S2 (Step.seq (q:=fun _=>pSeq (pOpt (decide (1<v)) pInt 0) fun _=>pOpt (decide (2<v)) pStr ByteArray.empty) S3 (Step.seq (q:=fun _=>pOpt (decide (2<v)) pStr ByteArray.empty) (Step.opt (fun h=>by rw[HV1.out] at h;cases h) (fun _=>⟨rfl,rfl,rfl⟩)) (Step.opt (fun h=>by rw[HV2.out] at h;cases h) (fun _=>⟨rfl,rfl,rfl⟩)) (PP.opt (decide (1<v)) 0 uzg).err) uzg.err) wxe.err) uzl.err)
theorem Step.rows {α:Type} {p:Zlu->Res α} {many n:Nat} {l l1 l2:Zlu} {x y1 y2:Nat} {xs:List α}
  (h:Step pNum l x n l1 y1) (hy:y1≠0->n=0) (hn:n<=many) (h':Step (pRep p n) l1 y1 xs l2 y2):Step (pRows many p) l x xs l2 y2:=by
 refine⟨zrc h'.1 h.1,fun hx=>?_,fun hx=>⟨fun c r hc=>?_,fun z hz=>?_⟩⟩
 ·have h1:=h.2.1 hx
  rw[h'.2.1 (by omega),h1]
 ·unfold pRows at hc
  cases h1:pNum l with
  | bad e=>rw[h1] at hc;cases hc
  | ok n' r' =>
   rw[h1] at hc
   obtain⟨rfl,rfl,h4⟩:=(h.2.2 hx).1 _ _ h1
   change (if many<n then Res.bad 2 else pRep p n l1)=_ at hc
   rw[if_neg (by omega)] at hc
   exact(h'.2.2 h4).1 _ _ hc
 ·unfold pRows at hz
  cases h1:pNum l with
  | bad e =>
   rw[h1] at hz
   injection hz with hz
   subst hz
   have h2:=(h.2.2 hx).2 _ h1
   have h3:=uy5.err _ _ h1
   rw[h'.2.1 (by omega),h2]
  | ok n' r' =>
   rw[h1] at hz
   obtain⟨rfl,rfl,h4⟩:=(h.2.2 hx).1 _ _ h1
   change (if many<n then Res.bad 2 else pRep p n l1)=_ at hz
   rw[if_neg (by omega)] at hz
   exact(h'.2.2 h4).2 _ hz
theorem Step.many {α:Type} {p:Zlu->Res α} {many n:Nat} {l l1:Zlu} {x y1:Nat} {xs:List α}
  (h:Step pNum l x n l1 y1) (hy:y1≠0->n=0) (hn:many<n) (hp:∀l e,p l=.bad e->e≠0):Step (pRows many p) l x xs l1 2:=by
 have hy0:y1=0:=by
  rcases Nat.eq_zero_or_pos y1 with h | h
  ·exact h
  ·exact absurd (hy (by omega)) (by omega)
 have hx0:x=0:=by
  rcases Nat.eq_zero_or_pos x with h' | h'
  ·exact h'
  ·have:=h.2.1 (by omega);omega
 have key:pRows many p l=.bad 2:=by
  unfold pRows
  cases h1:pNum l with
  | bad e =>
   have h2:=(h.2.2 hx0).2 _ h1
   have h3:=uy5.err _ _ h1
   omega
  | ok n' r' =>
   obtain⟨rfl,rfl,h4⟩:=(h.2.2 hx0).1 _ _ h1
   show(if many<n then Res.bad 2 else pRep p n l1)=_
   rw[if_pos hn]
 exact⟨h.1,fun hx=>absurd hx0 hx,fun _=>⟨fun b r hb=>(by rw[key] at hb;cases hb),fun z hz=>(by rw[key] at hz;injection hz)⟩⟩
theorem xqc {α:Type} {p:Zlu->Res α} {l:Zlu} {z:Nat}:∀(d k:Nat),pRep p k l=.bad z->pRep p (k+d) l=.bad z
 | 0,k,h=>h
 | d+1,k,h=>by
  rw[show k+(d+1)=(k+d)+1 from rfl,vwe,xqc d k h];rfl
theorem Step.early {α:Type} {p:Zlu->Res α} {enc:α->Zlu} {D:α->Prop} {k n:Nat} {l l2:Zlu} {x y:Nat} {xs:List α} (hk:k<=n)
  (h:Step (pRep p k) l x xs l2 y) (hy:y≠0) (hp:PP p enc D):Step (pRep p n) l x [] l2 y:=by
 refine⟨h.1,h.2.1,fun hx=>?_⟩
 obtain⟨d,rfl⟩:=Nat.exists_eq_add_of_le hk
 cases h1:pRep p k l with
 | ok a r=>exact absurd ((h.2.2 hx).1 _ _ h1).2.2 hy
 | bad z =>
  have h2:=(h.2.2 hx).2 _ h1
  have h3:=xqc d k h1
  exact⟨fun b r hb=>(by rw[h3] at hb;cases hb),fun z' hz=>(by rw[h3] at hz;injection hz with hz;rw[h2,hz])⟩
theorem uya {a b c:World} {r:Option Nat} (h:a.grownBy b r) (hb:Below a.heap.size b c):a.grownBy c r :=
 ⟨hb.os.trans h.os,hb.tape.trans h.tape,hb.output.trans h.output,zrc h.size hb.size,fun k hk hne=>(hb.block k hk).trans (h.block k hk hne)⟩
def uzt (c v:Int):Bool:=decide (0<=c)&&decide (c<=10)&&(decide (0<=v)&&decide (v<=1099511627776))
theorem uwj {c v:Int}:uzt c v=true↔(0<=c/\c<=10)/\0<=v/\v<=1099511627776:=by
 unfold uzt;simp only[Bool.and_eq_true,decide_eq_true_eq]
def encP (c v:Int):Zlu:=putN c.toNat++putN v.toNat
def vx6 (l:Zlu):Res (Int×Int):=pSeq pInt (fun _=>pInt) l
def encPR (c v:Int):Zlu×Nat:=if uzt c v=true then(encP c v,0) else([],1)
def decPR (l:Zlu):Int×Int×Nat:=match vx6 l with
 | .bad e=>(0,0,e)
 | .ok x r=>if r≠[] then(0,0,4) else if uzt x.1 x.2=true then(x.1,x.2,0) else(0,0,1)
theorem vyz {c v:Int} (h:uzt c v=true):okNb c/\okNb v:=by
 obtain⟨⟨h1,h2⟩,h3,h4⟩:=uwj.1 h
 exact⟨⟨h1,by omega⟩,h3,by omega⟩
theorem xx8 (x:Int) (w:World) :
  Calls prog 168 #[.int .i64 x] w fun e w'=>e=.returned (.bool (decide (0<=x)&&decide (x<=1099511627776)))/\w=w':=by
 by_cases h1:0<=x
 ·go_enter func168,ntmps168
  go_wp2_with fail
  go_ret
  exact⟨congrArg (fun b=>Ending.returned (.bool b)) (by simp[h1]),rfl⟩
 ·have h1':x<0:=by omega
  go_enter func168,ntmps168
  go_wp2_with fail
  all_goals go_ret
  all_goals exact⟨congrArg (fun b=>Ending.returned (.bool b)) (by simp;omega),rfl⟩
theorem vv4 (c v:Int) (w:World) :
  Calls prog 124 #[.agg #[.int .i64 c,.int .i64 v]] w fun e w'=>e=.returned (.bool (uzt c v))/\Below w.heap.size w w':=by
 have hb0:=zsa w (.cells #[.int .i64 c,.int .i64 v] 115)
 have HI:=zrj (fun(W:World)=>xx8 v W)
 have HV:=zrj (show uzt c v=(decide (0<=c)&&decide (c<=10)&&(decide (0<=v)&&decide (v<=1099511627776))) from rfl)
 generalize(decide (0<=v)&&decide (v<=1099511627776))=bt at *
 by_cases h1:0<=c
 ·have d1:decide (0<=c)=true:=decide_eq_true h1
  by_cases h2:c<=10
  ·have d2:decide (c<=10)=true:=decide_eq_true h2
   have HR:=zrj (show uzt c v=bt from by rw[HV.out,d1,d2];rfl)
   go_enter func124,ntmps124
   go_wp2_with fail
   refine(HI.out _).mono ?_
   rintro e w' ⟨rfl,rfl⟩
   go_wp2_with fail
   go_ret
   exact⟨by rw[HR.out];rfl,hb0⟩
  ·have d2:decide (c<=10)=false:=decide_eq_false h2
   have HR:=zrj (show uzt c v=false from by rw[HV.out,d1,d2];rfl)
   go_enter func124,ntmps124
   go_wp2_with fail
   go_ret
   exact⟨by rw[HR.out];rfl,hb0⟩
 ·have d1:decide (0<=c)=false:=decide_eq_false h1
  have HR:=zrj (show uzt c v=false from by rw[HV.out,d1];rfl)
  go_enter func124,ntmps124
  go_wp2_with fail
  go_ret
  exact⟨by rw[HR.out];rfl,hb0⟩
theorem xwu (c v:Int) (w:World) :
  Calls prog 74 #[.agg #[.int .i64 c,.int .i64 v]] w fun e w'=>e=.returned (.tuple #[.string (bstr (encPR c v).1),.int .i64 ((encPR c v).2:Int)])/\Below w.heap.size w w':=by
 have hb0:=zsa w (.cells #[.int .i64 c,.int .i64 v] 115)
 have bx:=Blk.new w 115 #[.int .i64 c,.int .i64 v]
 have hi:=vv4 c v (w.alloc (.cells #[.int .i64 c,.int .i64 v] 115))
 have HE:=zrj (show encPR c v=if uzt c v=true then(encP c v,0) else([],1) from rfl)
 cases hr:uzt c v
 ·rw[hr] at hi HE
  rw[if_neg (by simp)] at HE
  have HI:=zrj hi
  clear hi hr
  go_enter func74,ntmps74
  go_wp2_with fail
  refine HI.out.mono ?_
  rintro e w1 ⟨rfl,hb1⟩
  have hB1:=bthen hb0 hb1
  go_wp2_with fail
  go_ret2
  exact⟨by rw[HE.out];rfl,hB1⟩
 ·rw[hr] at hi HE
  rw[if_pos rfl] at HE
  obtain⟨hn1,hn2⟩:=vyz hr
  have l1:=uqm c.toNat (by have:=hn1.2;omega)
  have l2:=uqm v.toNat (by have:=hn2.2;omega)
  have HN1:=zrj hn1
  have HN2:=zrj hn2
  have HI:=zrj hi
  clear hi hr hn1 hn2
  go_enter func74,ntmps74
  go_wp2_with fail
  refine HI.out.mono ?_
  rintro e w2 ⟨rfl,hb2⟩
  have hB2:=bthen hb0 hb2
  have bx2:=bx.bl hb2
  clear hb2 hb0 bx HI
  have bw:=Blk.new w2 100 #[.slice none 0 0]
  have hB3:=hB2.alloc hB2.size (.cells #[.slice none 0 0] 100)
  have bx3:=bx2.alloc (.cells #[.slice none 0 0] 100)
  have hW3:Wr (w2.alloc (.cells #[.slice none 0 0] 100)) w2.heap.size []:=⟨_,bw,Buf.nil _ _ _⟩
  have n1:w.heap.size≠w2.heap.size:=by have:=bx2.lt;omega
  have hsz2:=hB2.size
  have x0:(w2.alloc (.cells #[.slice none 0 0] 100)).cell? ⟨w.heap.size,0,none⟩=some (.int .i64 c):=bx3.cell 0
  clear bw bx2 hB2
  go_wp2_with fail
  generalize w2.alloc _=w3 at *
  refine(uq5 w2.heap.size [] c w3 hW3 HN1.out (by simp)).mono ?_
  rintro e w4 ⟨rfl,h4,B4,K4⟩
  rw[List.nil_append] at h4
  have bx4:=K4 _ _ _ (by decide) n1 bx3
  have hB4:=hB3.trans (B4.mono hsz2)
  have x1:=bx4.c1
  clear hB3 bx3 B4 K4 hW3 x0
  go_wp2_with fail
  refine(uq5 w2.heap.size _ v w4 h4 HN2.out (by omega)).mono ?_
  rintro e w5 ⟨rfl,h5,B5,K5⟩
  have hB5:=hB4.trans (B5.mono hsz2)
  have HO:=zrj (show putN c.toNat++putN v.toNat=encP c v from rfl)
  rw[HO.out] at h5
  clear hB4 bx4 B5 K5 h4 x1 HO
  obtain⟨vv,bw7,hv7⟩:=h5
  obtain⟨pa,ca,rfl⟩:=hv7.form
  have ew:=bw7.c0
  have hcv:=uzu (P:=prog) (U:=5) (src:=62) (dst:=9) underlying62 underlying5 underlying9 hv7
  generalize encP c v=out at *
  have HB:=zrj hB5
  clear hB5 bw7 hv7
  go_wp2_with fail
  go_ret2
  exact⟨by rw[HE.out];rfl,HB.out⟩
theorem Blk.gr_ {w w':World} {g b:Nat} {t:TypeId} {cs:Array Value} (h:Blk w g t cs) (hg:w.grownBy w' (some b)) (hne:g≠b):Blk w' g t cs:=(hg.block g h.lt (by intro h0;injection h0 with h0;exact hne h0)).trans h
theorem uz7:(prog.info? 115).map (·.size)=some 2:=by kernel_rfl
def RepPost (w:World) (r:Int×Int×Nat) (e:Ending) (w':World):Prop:=e=.returned (.tuple #[.agg #[.int .i64 r.1,.int .i64 r.2.1],.int .i64 (r.2.2:Int)])/\Below w.heap.size w w'
end Go.Proofs.YtknmnhleicakhaaGreatDoor
