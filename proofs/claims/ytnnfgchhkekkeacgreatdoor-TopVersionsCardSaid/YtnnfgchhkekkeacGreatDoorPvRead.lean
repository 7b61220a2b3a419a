/- Lemmas.
-/
import Derived.Test.YtnnfgchhkekkeacGreatDoorPvWireA
set_option linter.all false
set_option maxHeartbeats 16000000
set_option maxRecDepth 100000
namespace Go.Proofs.YtnnfgchhkekkeacGreatDoor
open Go.Proofs.Tryz
open Go.RowKit
def Step {α:Type} (p:Zlu->Res α) (l:Zlu) (x:Nat) (a:α) (l':Zlu) (y:Nat):Prop :=
 l'.length<=l.length/\(x≠0->y=x)/\(x=0->(∀b r,p l=.ok b r->a=b/\l'=r/\y=0)/\∀z,p l=.bad z->y=z)
theorem Step.stay {α:Type} {p:Zlu->Res α} {l:Zlu} {x:Nat} {a:α} (hx:x≠0):Step p l x a l x:=⟨zra _,fun _=>rfl,fun h=>absurd h hx⟩
theorem Step.unit {α:Type} (a:α) (l:Zlu) (x:Nat):Step (pUnit a) l x a l x :=
 ⟨zra _,fun _=>rfl,fun hx=>⟨fun b r hb=>by unfold pUnit at hb;injection hb with h1 h2;exact⟨h1,h2,hx⟩,fun z hz=>by cases hz⟩⟩
theorem Step.map {α β:Type} {p:Zlu->Res α} {l l':Zlu} {x y:Nat} {a:α} (f:α->β) (h:Step p l x a l' y):Step (pMap f p) l x (f a) l' y:=by
 refine⟨h.1,h.2.1,fun hx=>⟨fun b r hb=>?_,fun z hz=>?_⟩⟩
 ·unfold pMap at hb
  cases h1:p l with
  | bad e=>rw[h1] at hb;cases hb
  | ok a' r' =>
   rw[h1] at hb
   obtain⟨rfl,rfl,h4⟩:=(h.2.2 hx).1 _ _ h1
   change Res.ok (f a) l'=_ at hb
   injection hb with h5 h6
   exact⟨h5,h6,h4⟩
 ·unfold pMap at hz
  cases h1:p l with
  | bad e=>rw[h1] at hz;injection hz with hz;subst hz;exact(h.2.2 hx).2 _ h1
  | ok a' r'=>rw[h1] at hz;cases hz
theorem Step.seq {α β:Type} {p:Zlu->Res α} {q:α->Zlu->Res β} {l l1 l2:Zlu} {x y1 y2:Nat} {a:α} {b:β}
  (h:Step p l x a l1 y1) (h':Step (q a) l1 y1 b l2 y2) (hp:∀l e,p l=.bad e->e≠0):Step (pSeq p q) l x (a,b) l2 y2:=by
 refine⟨zrc h'.1 h.1,fun hx=>?_,fun hx=>⟨fun c r hc=>?_,fun z hz=>?_⟩⟩
 ·have h1:=h.2.1 hx
  rw[h'.2.1 (by omega),h1]
 ·unfold pSeq at hc
  cases h1:p l with
  | bad e=>rw[h1] at hc;cases hc
  | ok a' r' =>
   rw[h1] at hc
   obtain⟨rfl,rfl,h4⟩:=(h.2.2 hx).1 _ _ h1
   change ((q a l1).bind _)=_ at hc
   cases h2:q a l1 with
   | bad e=>rw[h2] at hc;cases hc
   | ok b' r'' =>
    rw[h2] at hc
    obtain⟨rfl,rfl,h5⟩:=(h'.2.2 h4).1 _ _ h2
    change Res.ok (a,b) l2=_ at hc
    injection hc with h6 h7
    exact⟨h6,h7,h5⟩
 ·unfold pSeq at hz
  cases h1:p l with
  | bad e =>
   rw[h1] at hz
   injection hz with hz
   subst hz
   have h2:=(h.2.2 hx).2 _ h1
   have h3:=hp _ _ h1
   rw[h'.2.1 (by omega),h2]
  | ok a' r' =>
   rw[h1] at hz
   obtain⟨rfl,rfl,h4⟩:=(h.2.2 hx).1 _ _ h1
   change ((q a l1).bind _)=_ at hz
   cases h2:q a l1 with
   | bad e=>rw[h2] at hz;injection hz with hz;subst hz;exact(h'.2.2 h4).2 _ h2
   | ok b' r''=>rw[h2] at hz;cases hz
theorem Step.opt {α:Type} {p:Zlu->Res α} {l l':Zlu} {x y:Nat} {a d:α} {c:Bool} (h1:c=true->Step p l x a l' y) (h2:c=false->a=d/\l'=l/\y=x):Step (pOpt c p d) l x a l' y:=by
 unfold pOpt
 cases c with
 | true=>simpa using h1 rfl
 | false =>
  obtain⟨rfl,rfl,rfl⟩:=h2 rfl
  simpa using Step.unit a l' y
theorem vjf {α:Type} (p:Zlu->Res α):∀(n:Nat) (l:Zlu),pRep p (n+1) l=(pRep p n l).bind fun xs r=>(p r).bind fun a r'=>.ok (xs++[a]) r'
 | 0,l=>by
  show((p l).bind fun a r=>(Res.ok [] r).bind fun xs r'=>.ok (a::xs) r')=((p l).bind fun a r'=>.ok ([]++[a]) r')
  cases p l <;> rfl
 | n+1,l=>by
  have ih:=vjf p n
  show((p l).bind fun a r=>(pRep p (n+1) r).bind fun xs r'=>.ok (a::xs) r')=(((p l).bind fun a r=>(pRep p n r).bind fun xs r'=>.ok (a::xs) r').bind _)
  cases p l with
  | bad e=>rfl
  | ok a r =>
   show((pRep p (n+1) r).bind _)=(((pRep p n r).bind fun xs r'=>.ok (a::xs) r').bind _)
   rw[ih r]
   cases pRep p n r with
   | bad e=>rfl
   | ok xs r' =>
    show(((p r').bind fun a r'=>.ok (xs++[a]) r').bind _)=((p r').bind _)
    cases p r' <;> rfl
theorem Step.snoc {α:Type} {p:Zlu->Res α} {n:Nat} {l l1 l2:Zlu} {x y1 y2:Nat} {xs:List α} {b:α}
  (h:Step (pRep p n) l x xs l1 y1) (h':Step p l1 y1 b l2 y2) (hp:∀l e,pRep p n l=.bad e->e≠0):Step (pRep p (n+1)) l x (xs++[b]) l2 y2:=by
 have h1:=Step.map (fun z:List α×α=>z.1++[z.2]) (Step.seq (q:=fun _=>p) h h' hp)
 have h2:pMap (fun z:List α×α=>z.1++[z.2]) (pSeq (pRep p n) fun _=>p)=pRep p (n+1):=by
  funext l
  rw[vjf]
  unfold pMap pSeq
  cases pRep p n l with
  | bad e=>rfl
  | ok xs r =>
   show(((p r).bind _).bind _)=((p r).bind _)
   cases p r <;> rfl
 rwa [h2] at h1
def Rd (w:World) (g:Nat) (l:Zlu) (e:Nat):Prop:=Blk w g 80 #[.string (bstr l),.int .i64 (e:Int)]
def RdP {α:Type} (val:α->Value) (p:Zlu->Res α) (w:World) (g:Nat) (l:Zlu) (x:Nat) (e:Ending) (w':World):Prop :=
 w.grownBy w' (some g)/\∃a l' y,e=.returned (val a)/\Rd w' g l' y/\Step p l x a l' y
theorem uxz (w:World) (g i:Nat) (u:Value):w.grownBy (w.setCell ⟨g,i,none⟩ u) (some g) :=
 ⟨rfl,rfl,rfl,by simp,fun k hk hk2=>Below.heap_setCell w ⟨g,i,none⟩ u k (by intro h0;exact hk2 (by rw[h0]))⟩
theorem ujr (w:World) (r:Option Nat):w.grownBy w r:=⟨rfl,rfl,rfl,zra _,fun k hk _=>rfl⟩
theorem uyc {a b:World} (h:Below a.heap.size a b) (r:Option Nat):a.grownBy b r:=⟨h.os,h.tape,h.output,h.size,fun k hk _=>h.block k hk⟩
theorem uxc {a b c:World} {r:Option Nat} (h1:a.grownBy b r) (h2:b.grownBy c r):a.grownBy c r :=
 ⟨h2.os.trans h1.os,h2.tape.trans h1.tape,h2.output.trans h1.output,zrc h1.size h2.size,fun k hk hne=>(h2.block k (Nat.lt_of_lt_of_le hk h1.size) hne).trans (h1.block k hk hne)⟩
theorem uv3 (g x z:Nat) (l:Zlu) (w:World) (hR:Rd w g l x) :
  Calls prog 61 #[zse g,.int .i64 (z:Int)] w fun e w'=>e=.returned (.tuple #[])/\w.grownBy w' (some g)/\Rd w' g l (if x=0 then z else x):=by
 have c1:=hR.c1
 have f1:=hR.frozen 1
 by_cases hx:x=0
 ·subst hx
  have hb:(((0:Nat):Int) == 0)=true:=rfl
  go_enter func61,ntmps61
  go_wp2
  go_end0
  exact⟨rfl,uxz _ _ _ _,hR.set_ 1 _⟩
 ·have hb:((x:Int) == 0)=false:=by rw[zrf];omega
  go_enter func61,ntmps61
  go_wp2
  go_end0
  exact⟨rfl,ujr _ _,hR⟩
theorem vwv {l:Zlu} {s:Zba} (h:bstr l=s) (k:Nat):s.extract k s.size=bstr (l.drop k):=by
 subst h
 rw[<- uxt ((bstr l).extract k (bstr l).size),vxw,uqx,uq2,List.take_of_length_le (by rw[List.length_drop];omega)]
theorem vjl (g x:Nat) (l:Zlu) (w:World) (hR:Rd w g l x) :
  Calls prog 60 #[zse g] w fun e w'=>w.grownBy w' (some g)/\∃(n:Nat) (l':Zlu) (y:Nat),e=.returned (.int .u64 (n:Int))/\Rd w' g l' y/\Step pNum l x n l' y/\(y≠0->n=0)/\n<=4611686018427387904:=by
 have c0:=hR.c0
 have c1:=hR.c1
 have f0:=hR.frozen 0
 have HR:=zrj hR
 by_cases hx:x=0
 ·subst hx
  have hb:(((0:Nat):Int) != 0)=false:=rfl
  have HN:=zrj (fun w=>uvl (bstr l) w)
  rw[uqx] at HN
  have hF:=fun z=>uv3 g 0 z l w hR
  have HF:=zrj hF
  clear hF hR
  by_cases h0:(rd l).2.2=0
  ·obtain⟨n,k,hr,_,hk1,hk10,hkl,hn,_⟩:=rd_ok _ h0
   rw[hr] at HN
   by_cases hm:4611686018427387904<n
   ·have hP:pNum l=.bad 2:=by unfold pNum;rw[hr];simp only[];rw[if_pos trivial,if_pos hm]
    have HP:=zrj hP
    clear hP
    go_enter func60,ntmps60
    go_wp2_with fail
    refine(HN.out _).mono ?_
    rintro e w1 ⟨rfl,rfl⟩
    go_wp2_with fail
    refine(HF.out 2).mono ?_
    rintro e w1 ⟨rfl,hg,h1⟩
    go_wp2_with fail
    go_ret
    refine⟨hg,0,l,2,rfl,h1,⟨zra _,fun h=>absurd rfl h,fun _=>⟨fun b r hbr=>?_,fun z hz=>?_⟩⟩,fun _=>rfl,by omega⟩
    ·rw[HP.out] at hbr;cases hbr
    ·rw[HP.out] at hz;injection hz
   ·have hP:pNum l=.ok n (l.drop k):=by unfold pNum;rw[hr];simp only[];rw[if_pos trivial,if_neg hm]
    have HP:=zrj hP
    have hsz:(bstr l).size=l.length:=uq2 l
    generalize hs:bstr l=s at *
    have HS:=zrj hs
    have hks:k<=s.size:=by omega
    clear hP hs
    go_enter func60,ntmps60
    go_wp2_with fail
    refine(HN.out _).mono ?_
    rintro e w1 ⟨rfl,rfl⟩
    go_wp2_with fail
    go_ret
    refine⟨uxz _ _ _ _,n,l.drop k,0,rfl,?_,⟨by simp,fun h=>absurd rfl h,fun _=>⟨fun b r hbr=>?_,fun z hz=>?_⟩⟩,fun h=>absurd rfl h,by omega⟩
    ·unfold Rd
     rw[<- vwv HS.out k,show s.size=l.length from by rw[<- HS.out,uq2]]
     exact HR.out.set_ 0 _
    ·rw[HP.out] at hbr;injection hbr with h1 h2;exact⟨h1,h2,rfl⟩
    ·rw[HP.out] at hz;cases hz
  ·rcases rd_err l h0 with hr | hr
   all_goals(
    have hP:pNum l=.bad (rd l).2.2:=by unfold pNum;rw[if_neg h0]
    rw[hr] at hP HN
    have HP:=zrj hP
    clear hP h0
    go_enter func60,ntmps60
    go_wp2_with fail
    refine(HN.out _).mono ?_
    rintro e w1 ⟨rfl,rfl⟩
    go_wp2_with fail
    refine(HF.out _).mono ?_
    rintro e w1 ⟨rfl,hg,h1⟩
    go_wp2_with fail
    go_ret
    refine⟨hg,0,l,_,rfl,h1,⟨zra _,fun h=>absurd rfl h,fun _=>⟨fun b r hbr=>?_,fun z hz=>?_⟩⟩,fun _=>rfl,by omega⟩
    ·rw[HP.out] at hbr;cases hbr
    ·rw[HP.out] at hz;injection hz)
 ·have hb:((x:Int) != 0)=true:=by rw[bne_iff_ne];omega
  go_enter func60,ntmps60
  go_wp2_with fail
  go_ret
  exact⟨ujr _ _,0,l,x,rfl,HR.out,.stay hx,fun _=>rfl,by omega⟩
theorem uxd (g x:Nat) (l:Zlu) (w:World) (hR:Rd w g l x) :
  Calls prog 29 #[zse g] w fun e w'=>w.grownBy w' (some g)/\∃(n:Nat) (l':Zlu) (y:Nat),e=.returned (.int .i64 (n:Int))/\Rd w' g l' y/\Step pInt l x (n:Int) l' y/\Step pNum l x n l' y/\(y≠0->n=0)/\n<=4611686018427387904:=by
 have H:=zrj (vjl g x l w hR)
 go_enter func29,ntmps29
 go_wp2_with fail
 refine H.out.mono ?_
 rintro e w1 ⟨hg,n,l',y,rfl,hR1,hS,hy,hn⟩
 have hw:IntKind.i64.wrap (n:Int)=(n:Int):=IntWalk.i64_in _ (by omega)
 have HH:=zrj (show Rd w1 g l' y/\Step pInt l x (n:Int) l' y/\Step pNum l x n l' y/\(y≠0->n=0)/\n<=4611686018427387904 from⟨hR1,hS.map _,hS,hy,hn⟩)
 clear hR1 hS hy hn
 go_wp2_with fail
 go_ret
 exact⟨hg,n,l',y,rfl,HH.out⟩
theorem wzn (g x:Nat) (l:Zlu) (w:World) (hR:Rd w g l x) :
  Calls prog 63 #[zse g] w fun e w'=>RdP (fun n:Int=>.int .i64 n) pSig w g l x e w':=by
 have H:=zrj (vjl g x l w hR)
 go_enter func63,ntmps63
 go_wp2_with fail
 refine H.out.mono ?_
 rintro e w1 ⟨hg,n,l',y,rfl,hR1,hS,hy,hn⟩
 have HZ:=zrj (zag_any (n:Int) w1 (by omega) (by omega))
 have HH:=zrj (show Rd w1 g l' y/\Step pSig l x (zagI n) l' y from⟨hR1,hS.map (fun n:Nat=>zagI n)⟩)
 clear hR1 hS hy hn
 go_wp2_with fail
 refine HZ.out.mono ?_
 rintro e w2 ⟨rfl,rfl⟩
 go_wp2_with fail
 go_ret
 exact⟨hg,zagI n,l',y,rfl,HH.out⟩
theorem uk5 (g x:Nat) (l:Zlu) (w:World) (hR:Rd w g l x) (hl:l.length<=4611686018427387904) (hT:Tabs w) :
  Calls prog 62 #[zse g] w fun e w'=>RdP (fun s:Zba=>.string s) pStr w g l x e w':=by
 have c0:=hR.c0
 have c1:=hR.c1
 have HR:=zrj hR
 have hglt:=hR.lt
 have e0:bstr []=ByteArray.empty:=rfl
 by_cases hx:x=0
 ·subst hx
  have hb:(((0:Nat):Int) != 0)=false:=rfl
  have hN:=wqg (bstr l) w (by rw[uq2];exact hl) hT
  rw[uqx] at hN
  have HN:=zrj hN
  have HF:=zrj (fun(w1:World) z (hb:Below w.heap.size w w1)=>uv3 g 0 z l w1 (show Rd w1 g l 0 from Blk.below hR hb hglt))
  have hRd:=zrj (fun(w1:World) (hb:Below w.heap.size w w1)=>(show Rd w1 g l 0 from Blk.below hR hb hglt))
  clear hR hN
  by_cases h0:(rdT l).2.2=0
  ·have hP:pStr l=.ok (bstr (rdT l).1) (l.drop (rdT l).2.1):=by unfold pStr pMap pText;rw[if_pos h0];rfl
   have hkl:=(xxt l h0).2.2.2.1
   have HP:=zrj hP
   generalize rdT l=R at *
   obtain⟨t,k,z⟩:=R
   change z=0 at h0
   subst h0
   change k<=l.length at hkl
   have hsz:(bstr l).size=l.length:=uq2 l
   generalize hs:bstr l=s at *
   have HS:=zrj hs
   have hks:k<=s.size:=by omega
   clear hP hs
   go_enter func62,ntmps62
   go_wp2_with fail
   refine HN.out.mono ?_
   rintro e w1 ⟨rfl,hb1⟩
   have b1:=hRd.out w1 hb1
   have d0:w1.cell? ⟨g,0,none⟩=some (.string s):=by rw[<- HS.out];exact b1.cell 0
   have f0:=b1.frozen 0
   have B1:=zrj b1
   clear b1
   go_wp2_with fail
   go_ret
   refine⟨uxc (uyc hb1 _) (uxz _ _ _ _),bstr t,l.drop k,0,rfl,?_,⟨by simp,fun h=>absurd rfl h,fun _=>⟨fun b r hbr=>?_,fun z hz=>?_⟩⟩⟩
   ·unfold Rd
    rw[<- vwv HS.out k,show s.size=l.length from by rw[<- HS.out,uq2]]
    exact B1.out.set_ 0 _
   ·rw[HP.out] at hbr;injection hbr with h1 h2;exact⟨h1,h2,rfl⟩
   ·rw[HP.out] at hz;cases hz
  ·have hP:pStr l=.bad (rdT l).2.2:=by unfold pStr pMap pText;rw[if_neg h0];rfl
   have HP:=zrj hP
   generalize rdT l=R at *
   obtain⟨t,k,z⟩:=R
   change ¬z=0 at h0
   have hz:((z:Int) != 0)=true:=by rw[bne_iff_ne];omega
   clear hP
   go_enter func62,ntmps62
   go_wp2_with fail
   refine HN.out.mono ?_
   rintro e w1 ⟨rfl,hb1⟩
   go_wp2_with fail
   refine(HF.out w1 z hb1).mono ?_
   rintro e w2 ⟨rfl,hg,h1⟩
   go_wp2_with fail
   go_ret
   refine⟨uxc (uyc hb1 _) hg,ByteArray.empty,l,z,rfl,h1,⟨zra _,fun h=>absurd rfl h,fun _=>⟨fun b r hbr=>?_,fun z hz=>?_⟩⟩⟩
   ·rw[HP.out] at hbr;cases hbr
   ·rw[HP.out] at hz;injection hz
 ·have hb:((x:Int) != 0)=true:=by rw[bne_iff_ne];omega
  go_enter func62,ntmps62
  go_wp2_with fail
  go_ret
  exact⟨ujr _ _,ByteArray.empty,l,x,rfl,HR.out,.stay hx⟩
theorem vwx {w w':World} {a:Addr} (h:w'.heap[a.block]?=w.heap[a.block]?):w'.cell? a=w.cell? a:=by
 unfold World.cell?
 rw[h]
theorem Tabs.gw {w w':World} {g x:Nat} {l:Zlu} (h:Tabs w) (hR:Rd w g l x) (hg:w.grownBy w' (some g)):Tabs w':=by
 have c0:=hR.c0
 have lt:∀{a:Addr} {v:Value},w.cell? a=some v->a.block<w.heap.size:=fun {a v} hc=>by
  rcases Nat.lt_or_ge a.block w.heap.size with h' | h'
  ·exact h'
  ·simp[World.cell?,Array.getElem?_eq_none h'] at hc
 have key:∀(b:Nat),b≠g->∀(i:Nat) (v:Value),w.cell? ⟨b,i,none⟩=some v->w'.cell? ⟨b,i,none⟩=some v:=fun b hb i v hc=>by
  rw[vwx (w:=w) (hg.block b (lt hc) (by intro h0;injection h0 with h0;exact hb h0))];exact hc
 have n3:Tryz.laysValid_ren.g 3≠g:=by
  intro h0
  have h1:=h.1 0 (by omega)
  rw[h0,c0] at h1
  injection h1 with h1;cases h1
 have n4:Tryz.laysValid_ren.g 4≠g:=by
  intro h0
  have h1:=(h.2 0 (by omega)).1
  rw[h0,c0] at h1
  injection h1 with h1;cases h1
 exact⟨fun c hc=>key _ n3 _ _ (h.1 c hc),fun i hi=>⟨key _ n4 _ _ (h.2 i hi).1,key _ n4 _ _ (h.2 i hi).2⟩⟩
theorem vzb {a b:World} {r:Option Nat} (h:a.grownBy b r) (k i:Nat) (u:Value) (hk:a.heap.size<=k):a.grownBy (b.setCell ⟨k,i,none⟩ u) r :=
 ⟨h.os,h.tape,h.output,by rw[show(b.setCell ⟨k,i,none⟩ u).heap.size=b.heap.size from by simp];exact h.size,fun j hj hne=>(Below.heap_setCell b ⟨k,i,none⟩ u j (by show j≠k;omega)).trans (h.block j hj hne)⟩
theorem uza {a b:World} {r:Option Nat} (h:a.grownBy b r) (o:Obj):a.grownBy (b.alloc o) r:=uxc h (uyc ((zri _ _).alloc (zra _) o) r)
theorem Blk.gw {a b:World} {g:Nat} {t:TypeId} {cs:Array Value} {r:Nat} (h:Blk a g t cs) (hb:a.grownBy b (some r)) (hr:g≠r):Blk b g t cs:=(hb.block g h.lt (by intro h0;injection h0 with h0;exact hr h0)).trans h
theorem Tabs.setN {w:World} {g x k i:Nat} {l:Zlu} (h:Tabs w) (hk:k<w.heap.size) (hne:k≠g) (hR:Rd w g l x) (hv:∃n,w.cell? ⟨k,i,none⟩=some (.int .i64 n)) (u:Value):Tabs (w.setCell ⟨k,i,none⟩ u):=by
 obtain⟨n,hc⟩:=hv
 have h0:∀{b j:Nat} {v:Value},w.cell? ⟨b,j,none⟩=some v->v≠.int .i64 n->(w.setCell ⟨k,i,none⟩ u).cell? ⟨b,j,none⟩=some v:=fun {b j v} hb hv=>by
  rw[World.cell?_setCell_other w _ _ u (by intro h1;injection h1 with h2 h3;subst h2 h3;rw[hc] at hb;injection hb with hb;exact hv hb.symm)]
  exact hb
 exact⟨fun c hc=>h0 (h.1 c hc) (by intro h;cases h),fun i hi=>⟨h0 (h.2 i hi).1 (by intro h;cases h),h0 (h.2 i hi).2 (by intro h;cases h)⟩⟩
theorem uvf {a b:World} {r:Option Nat} (h:a.grownBy b r) (k:Nat) (cs:Array Value) (hk:a.heap.size<=k):a.grownBy (b.setRow k cs) r:=by
 have hb:Below k b (b.setRow k cs):=uqf (zri k b) (zra _) _
 exact⟨hb.os.trans h.os,hb.tape.trans h.tape,hb.output.trans h.output,zrc h.size hb.size,fun j hj hne=>(hb.block j (by omega)).trans (h.block j hj hne)⟩
theorem wjy (j:uqc):(rowL j).toArray.all (·.oneCell')=true:=by simp[rowL,Value.oneCell']
def endE (x:Nat) (l:Zlu):Nat:=if x≠0 then x else if l=[] then 0 else 4
theorem ukn (g x:Nat) (l:Zlu) (w:World) (hR:Rd w g l x) :
  Calls prog 38 #[zse g] w fun e w'=>w.grownBy w' (some g)/\e=.returned (.int .i64 (endE x l:Int)):=by
 have c0:=hR.c0
 have c1:=hR.c1
 have f0:=hR.frozen 0
 by_cases hl:l=[]
 ·subst hl
  have e0:(bstr []).toList.isEmpty=true:=by rw[ByteArray.toList_eq,uqx];rfl
  have HX:=zrj (show x=endE x [] from by unfold endE;split <;> simp_all)
  go_enter func38,ntmps38
  go_wp2_with fail
  go_ret
  exact⟨ujr _ _,by rw[<- HX.out];rfl⟩
 ·have e0:(bstr l).toList.isEmpty=false:=by
   rw[ByteArray.toList_eq,uqx]
   cases l with
   | nil=>exact absurd rfl hl
   | cons a r=>rfl
  have HX:=zrj (show(if x=0 then 4 else x)=endE x l from by unfold endE;split <;> simp_all)
  have HF:=zrj (uv3 g x 4 l w hR)
  clear hR
  go_enter func38,ntmps38
  go_wp2_with fail
  refine HF.out.mono ?_
  rintro e w1 ⟨rfl,hg,h1⟩
  rw[HX.out] at h1
  have d1:=h1.c1
  clear HX
  generalize hE:endE x l=y at *
  have HE:=zrj hE
  clear hE
  go_wp2_with fail
  go_ret
  exact⟨hg,by rw[HE.out];rfl⟩
theorem vkw (g x:Nat) (l:Zlu) (w:World) (hR:Rd w g l x) (hl:l.length<=4611686018427387904) (hT:Tabs w) :
  Calls prog 37 #[zse g] w fun e w'=>RdP (fun j:uqc=>.agg (rowL j).toArray) uk3 w g l x e w':=by
 have hglt:=hR.lt
 go_enter func37,ntmps37
 go_wp2_with fail
 have bC:=Blk.new w 44 #[.string (ByteArray.mk #[]),.string (ByteArray.mk #[]),.int .i64 0]
 have R0:Rd (w.alloc (.cells #[.string (ByteArray.mk #[]),.string (ByteArray.mk #[]),.int .i64 0] 44)) g l x:=Blk.alloc hR _
 have T0:Tabs (w.alloc (.cells #[.string (ByteArray.mk #[]),.string (ByteArray.mk #[]),.int .i64 0] 44)):=hT.below ((zri _ _).alloc (zra _) _)
 have G0:w.grownBy (w.alloc (.cells #[.string (ByteArray.mk #[]),.string (ByteArray.mk #[]),.int .i64 0] 44)) (some g):=uza (ujr _ _) _
 generalize w.alloc (.cells #[.string (ByteArray.mk #[]),.string (ByteArray.mk #[]),.int .i64 0] 44)=W0 at *
 refine(uk5 g x l W0 R0 hl T0).mono ?_
 rintro e w1 ⟨g1,a1,l1,y1,rfl,R1,S1⟩
 have T1:=T0.gw R0 g1
 have b1:=bC.gw g1 (by omega)
 have G1:=uxc G0 g1
 have hl1:=zrc S1.1 hl
 clear hR hT bC R0 T0 G0 g1
 go_wp2_with fail
 refine(uk5 g y1 l1 w1 R1 hl1 T1).mono ?_
 rintro e w2 ⟨g2,a2,l2,y2,rfl,R2,S2⟩
 have T2:=T1.gw R1 g2
 have b2:=b1.gw g2 (by omega)
 have G2:=uxc G1 g2
 clear T1 b1 R1 G1 g2
 go_wp2_with fail
 refine(uxd g y2 l2 w2 R2).mono ?_
 rintro e w3 ⟨g3,a3,l3,y3,rfl,R3,S3,_,_,_⟩
 have b3:=b2.gw g3 (by omega)
 have G3:=uxc G2 g3
 clear T2 b2 R2 G2 g3
 go_wp2_with(refine uqd rfl _ _ _ rfl w.heap.size rfl _ _ (rowL ⟨a1,a2,(a3:Int)⟩).toArray b3 rfl uqi rfl (wjy _) ?_)
 (try simp only[Exit.inBlock,Exit.then])
 refine bodyPost_ret (uqw rfl _ rfl (b3.setRow _) underlying44 rfl uqi) rfl ?_
 refine⟨uvf G3 _ _ (zra _),⟨a1,a2,(a3:Int)⟩,l3,y3,rfl,Blk.setRow_far R3 (by omega) _,?_⟩
 exact Step.map (fun x:Zba×Zba×Int=>(⟨x.1,x.2.1,x.2.2⟩:uqc)) (Step.seq (q:=fun _=>pSeq pStr fun _=>pInt) S1 (Step.seq (q:=fun _=>pInt) S2 S3 uzn.err) uzn.err)
theorem uyh (j:NodeD):(rowN j).toArray.all (·.oneCell')=true:=by simp[rowN,Value.oneCell']
theorem uvg (j:JobD):(rowJ j).toArray.all (·.oneCell')=true:=by simp[rowJ,Value.oneCell']
theorem wqe (g x:Nat) (l:Zlu) (v:Int) (w:World) (hR:Rd w g l x) (hl:l.length<=4611686018427387904) (hT:Tabs w) :
  Calls prog 35 #[zse g,.int .i64 v] w fun e w'=>RdP (fun j:NodeD=>.agg (rowN j).toArray) (pNode v) w g l x e w':=by
 have hglt:=hR.lt
 go_enter func35,ntmps35
 go_wp2_with fail
 have bC:=Blk.new w 42 #[.string (ByteArray.mk #[]),.int .i64 0,.string (ByteArray.mk #[])]
 have R0:Rd (w.alloc (.cells #[.string (ByteArray.mk #[]),.int .i64 0,.string (ByteArray.mk #[])] 42)) g l x:=Blk.alloc hR _
 have T0:Tabs (w.alloc (.cells #[.string (ByteArray.mk #[]),.int .i64 0,.string (ByteArray.mk #[])] 42)):=hT.below ((zri _ _).alloc (zra _) _)
 have G0:w.grownBy (w.alloc (.cells #[.string (ByteArray.mk #[]),.int .i64 0,.string (ByteArray.mk #[])] 42)) (some g):=uza (ujr _ _) _
 generalize w.alloc (.cells #[.string (ByteArray.mk #[]),.int .i64 0,.string (ByteArray.mk #[])] 42)=W0 at *
 refine(uk5 g x l W0 R0 hl T0).mono ?_
 rintro e w1 ⟨g1,a1,l1,y1,rfl,R1,S1⟩
 have T1:=T0.gw R0 g1
 have b1:=bC.gw g1 (by omega)
 have G1:=uxc G0 g1
 have hl1:=zrc S1.1 hl
 clear hR hT bC R0 T0 G0 g1
 go_wp2_with fail
 refine(uxd g y1 l1 w1 R1).mono ?_
 rintro e w2 ⟨g2,a2,l2,y2,rfl,R2,S2,_,_,_⟩
 have T2:=T1.gw R1 g2
 have b2:=b1.gw g2 (by omega)
 have G2:=uxc G1 g2
 have hl2:=zrc S2.1 hl1
 clear T1 b1 R1 G1 g2
 by_cases hv:1<v
 ·have hdv:decide (1<v)=true:=decide_eq_true hv
  have HV:=zrj hdv
  clear hdv
  go_wp2_with(refine uqh rfl _ _ _ rfl rfl _ _ (rowN ⟨a1,(a2:Int),ByteArray.mk #[]⟩).toArray rfl uqm rfl (uyh _) ?_)
  have bN:=Blk.new w2 42 (rowN ⟨a1,(a2:Int),ByteArray.mk #[]⟩).toArray
  have R3:Rd (w2.alloc (.cells (rowN ⟨a1,(a2:Int),ByteArray.mk #[]⟩).toArray 42)) g l2 y2:=Blk.alloc R2 _
  have T3:Tabs (w2.alloc (.cells (rowN ⟨a1,(a2:Int),ByteArray.mk #[]⟩).toArray 42)):=T2.below ((zri _ _).alloc (zra _) _)
  have G3:=uza G2 (.cells (rowN ⟨a1,(a2:Int),ByteArray.mk #[]⟩).toArray 42)
  have b3:=b2.alloc (.cells (rowN ⟨a1,(a2:Int),ByteArray.mk #[]⟩).toArray 42)
  have hs2:=G2.size
  have hg2:=R2.lt
  have hb2:=b2.lt
  clear T2 R2 b2 G2
  generalize w2.alloc (.cells (rowN ⟨a1,(a2:Int),ByteArray.mk #[]⟩).toArray 42)=W3 at *
  refine(uk5 g y2 l2 W3 R3 hl2 T3).mono ?_
  rintro e w4 ⟨g4,a4,l4,y4,rfl,R4,S4⟩
  have bN4:=bN.gw g4 (by omega)
  have b4:=b3.gw g4 (by omega)
  have G4:=uxc G3 g4
  clear T3 R3 b3 G3 g4 bN
  have d2:=bN4.c2
  have f2:=bN4.frozen 2
  have bN5:=bN4.set_ 2 (.string a4)
  have b5:=b4.far (p:=⟨w2.heap.size,2,none⟩) (by show w.heap.size≠w2.heap.size;omega) (.string a4)
  clear bN4 b4
  go_wp2_with(first
   | (refine uqa rfl _ _ rfl w2.heap.size rfl _ (rowN ⟨a1,(a2:Int),a4⟩).toArray bN5 _ underlying42 rfl uqm ?_)
   | (refine uqd rfl _ _ _ rfl w.heap.size rfl _ _ (rowN ⟨a1,(a2:Int),a4⟩).toArray b5 rfl uqm rfl (uyh _) ?_))
  (try simp only[Exit.inBlock,Exit.then])
  refine bodyPost_ret (uqw rfl _ rfl (b5.setRow _) underlying42 rfl uqm) rfl ?_
  refine⟨uvf (vzb G4 _ _ _ (by omega)) _ _ (zra _),⟨a1,(a2:Int),a4⟩,l4,y4,rfl,Blk.setRow_far (Blk.far R4 (by show g≠w2.heap.size;omega) _) (by omega) _,?_⟩
  exact Step.map (fun x:Zba×Int×Zba=>(⟨x.1,x.2.1,x.2.2⟩:NodeD)) (Step.seq (q:=fun _=>pSeq pInt fun _=>pOpt (decide (1<v)) pStr ByteArray.empty) S1 (Step.seq (q:=fun _=>pOpt (decide (1<v)) pStr ByteArray.empty) S2 (Step.opt (fun _=>S4) (fun h=>by rw[HV.out] at h;cases h)) ux1.err) uzn.err)
 ·have hdv:decide (1<v)=false:=decide_eq_false hv
  have HV:=zrj hdv
  clear hdv
  have bN:=Blk.new w2 42 (rowN ⟨a1,(a2:Int),ByteArray.mk #[]⟩).toArray
  have b3:=b2.alloc (.cells (rowN ⟨a1,(a2:Int),ByteArray.mk #[]⟩).toArray 42)
  go_wp2_with(first
   | (refine uqh rfl _ _ _ rfl rfl _ _ (rowN ⟨a1,(a2:Int),ByteArray.mk #[]⟩).toArray rfl uqm rfl (uyh _) ?_)
   | (refine uqa rfl _ _ rfl w2.heap.size rfl _ (rowN ⟨a1,(a2:Int),ByteArray.mk #[]⟩).toArray bN _ underlying42 rfl uqm ?_)
   | (refine uqd rfl _ _ _ rfl w.heap.size rfl _ _ (rowN ⟨a1,(a2:Int),ByteArray.mk #[]⟩).toArray b3 rfl uqm rfl (uyh _) ?_))
  (try simp only[Exit.inBlock,Exit.then])
  refine bodyPost_ret (uqw rfl _ rfl (b3.setRow _) underlying42 rfl uqm) rfl ?_
  refine⟨uvf (uza G2 _) _ _ (zra _),⟨a1,(a2:Int),ByteArray.mk #[]⟩,l2,y2,rfl,Blk.setRow_far (Blk.alloc R2 _) (by omega) _,?_⟩
  exact Step.map (fun x:Zba×Int×Zba=>(⟨x.1,x.2.1,x.2.2⟩:NodeD)) (Step.seq (q:=fun _=>pSeq pInt fun _=>pOpt (decide (1<v)) pStr ByteArray.empty) S1 (Step.seq (q:=fun _=>pOpt (decide (1<v)) pStr ByteArray.empty) S2 (Step.opt (fun h=>by rw[HV.out] at h;cases h) (fun _=>⟨rfl,rfl,rfl⟩)) ux1.err) uzn.err)
theorem wkg (g x:Nat) (l:Zlu) (v:Int) (w:World) (hR:Rd w g l x) (hl:l.length<=4611686018427387904) (hT:Tabs w) :
  Calls prog 32 #[zse g,.int .i64 v] w fun e w'=>RdP (fun j:JobD=>.agg (rowJ j).toArray) (pJob v) w g l x e w':=by
 have hglt:=hR.lt
 go_enter func32,ntmps32
 go_wp2_with fail
 have bC:=Blk.new w 40 #[.string (ByteArray.mk #[]),.int .i64 0,.int .i64 0,.int .i64 0,.string (ByteArray.mk #[])]
 have R0:Rd (w.alloc (.cells #[.string (ByteArray.mk #[]),.int .i64 0,.int .i64 0,.int .i64 0,.string (ByteArray.mk #[])] 40)) g l x:=Blk.alloc hR _
 have T0:Tabs (w.alloc (.cells #[.string (ByteArray.mk #[]),.int .i64 0,.int .i64 0,.int .i64 0,.string (ByteArray.mk #[])] 40)):=hT.below ((zri _ _).alloc (zra _) _)
 have G0:w.grownBy (w.alloc (.cells #[.string (ByteArray.mk #[]),.int .i64 0,.int .i64 0,.int .i64 0,.string (ByteArray.mk #[])] 40)) (some g):=uza (ujr _ _) _
 generalize w.alloc (.cells #[.string (ByteArray.mk #[]),.int .i64 0,.int .i64 0,.int .i64 0,.string (ByteArray.mk #[])] 40)=W0 at *
 refine(uk5 g x l W0 R0 hl T0).mono ?_
 rintro e w0 ⟨g1,a1,l1,y1,rfl,R1,S1⟩
 have T1:=T0.gw R0 g1
 have b1:=bC.gw g1 (by omega)
 have G1:=uxc G0 g1
 have hl1:=zrc S1.1 hl
 clear hR hT bC R0 T0 G0 g1
 go_wp2_with fail
 refine(wzn g y1 l1 w0 R1).mono ?_
 rintro e w1 ⟨g2,a2,l2,y2,rfl,R2,S2⟩
 have T2:=T1.gw R1 g2
 have b2:=b1.gw g2 (by omega)
 have G2:=uxc G1 g2
 have hl2:=zrc S2.1 hl1
 clear T1 b1 R1 G1 g2
 go_wp2_with fail
 refine(uxd g y2 l2 w1 R2).mono ?_
 rintro e w2 ⟨g3,a3,l3,y3,rfl,R3,S3,_,_,_⟩
 have T3:=T2.gw R2 g3
 have b3:=b2.gw g3 (by omega)
 have G3:=uxc G2 g3
 have hl3:=zrc S3.1 hl2
 clear T2 b2 R2 G2 g3
 have hs2:=G3.size
 have hg2:=R3.lt
 have hb2:=b3.lt
 by_cases hv1:1<v
 ·have HV1:=zrj (show decide (1<v)=true from decide_eq_true hv1)
  by_cases hv2:2<v
  ·have HV2:=zrj (show decide (2<v)=true from decide_eq_true hv2)
   go_wp2_with(refine uqh rfl _ _ _ rfl rfl _ _ (rowJ ⟨a1,a2,(a3:Int),0,ByteArray.mk #[]⟩).toArray rfl uqo rfl (uvg _) ?_)
   have bN:=Blk.new w2 40 (rowJ ⟨a1,a2,(a3:Int),0,ByteArray.mk #[]⟩).toArray
   have R4:Rd (w2.alloc (.cells (rowJ ⟨a1,a2,(a3:Int),0,ByteArray.mk #[]⟩).toArray 40)) g l3 y3:=Blk.alloc R3 _
   have T4:Tabs (w2.alloc (.cells (rowJ ⟨a1,a2,(a3:Int),0,ByteArray.mk #[]⟩).toArray 40)):=T3.below ((zri _ _).alloc (zra _) _)
   have G4:=uza G3 (.cells (rowJ ⟨a1,a2,(a3:Int),0,ByteArray.mk #[]⟩).toArray 40)
   have b4:=b3.alloc (.cells (rowJ ⟨a1,a2,(a3:Int),0,ByteArray.mk #[]⟩).toArray 40)
   clear T3 R3 b3 G3
   generalize w2.alloc (.cells (rowJ ⟨a1,a2,(a3:Int),0,ByteArray.mk #[]⟩).toArray 40)=W3 at *
   refine(uxd g y3 l3 W3 R4).mono ?_
   rintro e w4 ⟨g4,a4,l4,y4,rfl,R5,S4,_,_,_⟩
   have bN4:=bN.gw g4 (by omega)
   have b5:=b4.gw g4 (by omega)
   have T5:=T4.gw R4 g4
   have G5:=uxc G4 g4
   have hl4:=zrc S4.1 hl3
   clear T4 R4 b4 G4 g4 bN
   have d3:=bN4.c3
   have f3:=bN4.frozen 3
   have bN5:Blk _ w2.heap.size 40 (rowJ ⟨a1,a2,(a3:Int),(a4:Int),ByteArray.mk #[]⟩).toArray:=bN4.set_ 3 (.int .i64 (a4:Int))
   have b6:=b5.far (p:=⟨w2.heap.size,3,none⟩) (by show w.heap.size≠w2.heap.size;omega) (.int .i64 (a4:Int))
   have R6:Rd _ g l4 y4:=Blk.far R5 (p:=⟨w2.heap.size,3,none⟩) (by show g≠w2.heap.size;omega) (.int .i64 (a4:Int))
   have hlt4:=bN4.lt
   have G6:=vzb G5 w2.heap.size 3 (.int .i64 (a4:Int)) (by omega)
   clear bN4 b5 G5
   have T6:Tabs (w4.setCell ⟨w2.heap.size,3,none⟩ (.int .i64 (a4:Int))):=T5.setN hlt4 (by omega) R5 ⟨_,d3⟩ (.int .i64 (a4:Int))
   clear R5 T5
   go_wp2_with fail
   generalize w4.setCell ⟨w2.heap.size,3,none⟩ (.int .i64 (a4:Int))=W4 at *
   refine(uk5 g y4 l4 W4 R6 hl4 T6).mono ?_
   rintro e w5 ⟨g5,a5,l5,y5,rfl,R7,S5⟩
   have bN6:=bN5.gw g5 (by omega)
   have b7:=b6.gw g5 (by omega)
   have G7:=uxc G6 g5
   clear T6 R6 b6 G6 g5 bN5
   have d4:=bN6.c4
   have f4:=bN6.frozen 4
   have bN7:Blk _ w2.heap.size 40 (rowJ ⟨a1,a2,(a3:Int),(a4:Int),a5⟩).toArray:=bN6.set_ 4 (.string a5)
   have b8:=b7.far (p:=⟨w2.heap.size,4,none⟩) (by show w.heap.size≠w2.heap.size;omega) (.string a5)
   have R8:Rd _ g l5 y5:=Blk.far R7 (p:=⟨w2.heap.size,4,none⟩) (by show g≠w2.heap.size;omega) (.string a5)
   have G8:=vzb G7 w2.heap.size 4 (.string a5) (by omega)
   clear bN6 b7 G7
   go_wp2_with(first
    | (refine uqa rfl _ _ rfl w2.heap.size rfl _ (rowJ ⟨a1,a2,(a3:Int),(a4:Int),a5⟩).toArray bN7 _ underlying40 rfl uqo ?_)
    | (refine uqd rfl _ _ _ rfl w.heap.size rfl _ _ (rowJ ⟨a1,a2,(a3:Int),(a4:Int),a5⟩).toArray b8 rfl uqo rfl (uvg _) ?_))
   (try simp only[Exit.inBlock,Exit.then])
   refine bodyPost_ret (uqw rfl _ rfl (b8.setRow _) underlying40 rfl uqo) rfl ?_
   refine⟨uvf (G8) _ _ (zra _),⟨a1,a2,(a3:Int),(a4:Int),a5⟩,l5,y5,rfl,Blk.setRow_far (R8) (by omega) _,?_⟩
   exact Step.map (fun x:Zba×Int×Int×Int×Zba=>(⟨x.1,x.2.1,x.2.2.1,x.2.2.2.1,x.2.2.2.2⟩:JobD)) (Step.seq (q:=fun _=>pSeq pSig fun _=>pSeq pInt fun _=>pSeq (pOpt (decide (1<v)) pInt 0) fun _=>pOpt (decide (2<v)) pStr ByteArray.empty) S1 (Step.seq (q:=fun _=>pSeq pInt fun _=>pSeq (pOpt (decide (1<v)) pInt 0) fun _=>pOpt (decide (2<v)) pStr ByteArray.empty) S2 (Step.seq (q:=fun _=>pSeq (pOpt (decide (1<v)) pInt 0) fun _=>pOpt (decide (2<v)) pStr ByteArray.empty) S3 (Step.seq (q:=fun _=>pOpt (decide (2<v)) pStr ByteArray.empty) (Step.opt (fun _=>S4) (fun h=>by rw[HV1.out] at h;cases h)) (Step.opt (fun _=>S5) (fun h=>by rw[HV2.out] at h;cases h)) (PP.opt (decide (1<v)) 0 ux1).err) ux1.err) vv9.err) uzn.err)
  ·have HV2:=zrj (show decide (2<v)=false from decide_eq_false hv2)
   go_wp2_with(refine uqh rfl _ _ _ rfl rfl _ _ (rowJ ⟨a1,a2,(a3:Int),0,ByteArray.mk #[]⟩).toArray rfl uqo rfl (uvg _) ?_)
   have bN:=Blk.new w2 40 (rowJ ⟨a1,a2,(a3:Int),0,ByteArray.mk #[]⟩).toArray
   have R4:Rd (w2.alloc (.cells (rowJ ⟨a1,a2,(a3:Int),0,ByteArray.mk #[]⟩).toArray 40)) g l3 y3:=Blk.alloc R3 _
   have T4:Tabs (w2.alloc (.cells (rowJ ⟨a1,a2,(a3:Int),0,ByteArray.mk #[]⟩).toArray 40)):=T3.below ((zri _ _).alloc (zra _) _)
   have G4:=uza G3 (.cells (rowJ ⟨a1,a2,(a3:Int),0,ByteArray.mk #[]⟩).toArray 40)
   have b4:=b3.alloc (.cells (rowJ ⟨a1,a2,(a3:Int),0,ByteArray.mk #[]⟩).toArray 40)
   clear T3 R3 b3 G3
   generalize w2.alloc (.cells (rowJ ⟨a1,a2,(a3:Int),0,ByteArray.mk #[]⟩).toArray 40)=W3 at *
   refine(uxd g y3 l3 W3 R4).mono ?_
   rintro e w4 ⟨g4,a4,l4,y4,rfl,R5,S4,_,_,_⟩
   have bN4:=bN.gw g4 (by omega)
   have b5:=b4.gw g4 (by omega)
   have T5:=T4.gw R4 g4
   have G5:=uxc G4 g4
   have hl4:=zrc S4.1 hl3
   clear T4 R4 b4 G4 g4 bN
   have d3:=bN4.c3
   have f3:=bN4.frozen 3
   have bN5:Blk _ w2.heap.size 40 (rowJ ⟨a1,a2,(a3:Int),(a4:Int),ByteArray.mk #[]⟩).toArray:=bN4.set_ 3 (.int .i64 (a4:Int))
   have b6:=b5.far (p:=⟨w2.heap.size,3,none⟩) (by show w.heap.size≠w2.heap.size;omega) (.int .i64 (a4:Int))
   have R6:Rd _ g l4 y4:=Blk.far R5 (p:=⟨w2.heap.size,3,none⟩) (by show g≠w2.heap.size;omega) (.int .i64 (a4:Int))
   have hlt4:=bN4.lt
   have G6:=vzb G5 w2.heap.size 3 (.int .i64 (a4:Int)) (by omega)
   clear bN4 b5 G5
   go_wp2_with(first
    | (refine uqa rfl _ _ rfl w2.heap.size rfl _ (rowJ ⟨a1,a2,(a3:Int),(a4:Int),ByteArray.mk #[]⟩).toArray bN5 _ underlying40 rfl uqo ?_)
    | (refine uqd rfl _ _ _ rfl w.heap.size rfl _ _ (rowJ ⟨a1,a2,(a3:Int),(a4:Int),ByteArray.mk #[]⟩).toArray b6 rfl uqo rfl (uvg _) ?_))
   (try simp only[Exit.inBlock,Exit.then])
   refine bodyPost_ret (uqw rfl _ rfl (b6.setRow _) underlying40 rfl uqo) rfl ?_
   refine⟨uvf (G6) _ _ (zra _),⟨a1,a2,(a3:Int),(a4:Int),ByteArray.mk #[]⟩,l4,y4,rfl,Blk.setRow_far (R6) (by omega) _,?_⟩
   exact Step.map (fun x:Zba×Int×Int×Int×Zba=>(⟨x.1,x.2.1,x.2.2.1,x.2.2.2.1,x.2.2.2.2⟩:JobD)) (Step.seq (q:=fun _=>pSeq pSig fun _=>pSeq pInt fun _=>pSeq (pOpt (decide (1<v)) pInt 0) fun _=>pOpt (decide (2<v)) pStr ByteArray.empty) S1 (Step.seq (q:=fun _=>pSeq pInt fun _=>pSeq (pOpt (decide (1<v)) pInt 0) fun _=>pOpt (decide (2<v)) pStr ByteArray.empty) S2 (Step.seq (q:=fun _=>pSeq (pOpt (decide (1<v)) pInt 0) fun _=>pOpt (decide (2<v)) pStr ByteArray.empty) S3 (Step.seq (q:=fun _=>pOpt (decide (2<v)) pStr ByteArray.empty) (Step.opt (fun _=>S4) (fun h=>by rw[HV1.out] at h;cases h)) (Step.opt (fun h=>by rw[HV2.out] at h;cases h) (fun _=>⟨rfl,rfl,rfl⟩)) (PP.opt (decide (1<v)) 0 ux1).err) ux1.err) vv9.err) uzn.err)
 ·have HV1:=zrj (show decide (1<v)=false from decide_eq_false hv1)
  have hv2:¬2<v:=by omega
  have HV2:=zrj (show decide (2<v)=false from decide_eq_false hv2)
  have bN:=Blk.new w2 40 (rowJ ⟨a1,a2,(a3:Int),0,ByteArray.mk #[]⟩).toArray
  have b4:=b3.alloc (.cells (rowJ ⟨a1,a2,(a3:Int),0,ByteArray.mk #[]⟩).toArray 40)
  go_wp2_with(first
   | (refine uqh rfl _ _ _ rfl rfl _ _ (rowJ ⟨a1,a2,(a3:Int),0,ByteArray.mk #[]⟩).toArray rfl uqo rfl (uvg _) ?_)
   | (refine uqa rfl _ _ rfl w2.heap.size rfl _ (rowJ ⟨a1,a2,(a3:Int),0,ByteArray.mk #[]⟩).toArray bN _ underlying40 rfl uqo ?_)
   | (refine uqd rfl _ _ _ rfl w.heap.size rfl _ _ (rowJ ⟨a1,a2,(a3:Int),0,ByteArray.mk #[]⟩).toArray b4 rfl uqo rfl (uvg _) ?_))
  (try simp only[Exit.inBlock,Exit.then])
  refine bodyPost_ret (uqw rfl _ rfl (b4.setRow _) underlying40 rfl uqo) rfl ?_
  refine⟨uvf (uza G3 _) _ _ (zra _),⟨a1,a2,(a3:Int),0,ByteArray.mk #[]⟩,l3,y3,rfl,Blk.setRow_far (Blk.alloc R3 _) (by omega) _,?_⟩
  exact Step.map (fun x:Zba×Int×Int×Int×Zba=>(⟨x.1,x.2.1,x.2.2.1,x.2.2.2.1,x.2.2.2.2⟩:JobD)) (Step.seq (q:=fun _=>pSeq pSig fun _=>pSeq pInt fun _=>pSeq (pOpt (decide (1<v)) pInt 0) fun _=>pOpt (decide (2<v)) pStr ByteArray.empty) S1 (Step.seq (q:=fun _=>pSeq pInt fun _=>pSeq (pOpt (decide (1<v)) pInt 0) fun _=>pOpt (decide (2<v)) pStr ByteArray.empty) S2 (Step.seq (q:=fun _=>pSeq (pOpt (decide (1<v)) pInt 0) fun _=>pOpt (decide (2<v)) pStr ByteArray.empty) S3 (Step.seq (q:=fun _=>pOpt (decide (2<v)) pStr ByteArray.empty) (Step.opt (fun h=>by rw[HV1.out] at h;cases h) (fun _=>⟨rfl,rfl,rfl⟩)) (Step.opt (fun h=>by rw[HV2.out] at h;cases h) (fun _=>⟨rfl,rfl,rfl⟩)) (PP.opt (decide (1<v)) 0 ux1).err) ux1.err) vv9.err) uzn.err)
theorem Step.rows {α:Type} {p:Zlu->Res α} {many n:Nat} {l l1 l2:Zlu} {x y1 y2:Nat} {xs:List α}
  (h:Step pNum l x n l1 y1) (hy:y1≠0->n=0) (hn:n<=many) (h':Step (pRep p n) l1 y1 xs l2 y2):Step (pRows many p) l x xs l2 y2:=by
 refine⟨zrc h'.1 h.1,fun hx=>?_,fun hx=>⟨fun c r hc=>?_,fun z hz=>?_⟩⟩
 ·have h1:=h.2.1 hx
  rw[h'.2.1 (by omega),h1]
 ·unfold pRows at hc
  cases h1:pNum l with
  | bad e=>rw[h1] at hc;cases hc
  | ok n' r' =>
   rw[h1] at hc
   obtain⟨rfl,rfl,h4⟩:=(h.2.2 hx).1 _ _ h1
   change (if many<n then Res.bad 2 else pRep p n l1)=_ at hc
   rw[if_neg (by omega)] at hc
   exact(h'.2.2 h4).1 _ _ hc
 ·unfold pRows at hz
  cases h1:pNum l with
  | bad e =>
   rw[h1] at hz
   injection hz with hz
   subst hz
   have h2:=(h.2.2 hx).2 _ h1
   have h3:=uwg.err _ _ h1
   rw[h'.2.1 (by omega),h2]
  | ok n' r' =>
   rw[h1] at hz
   obtain⟨rfl,rfl,h4⟩:=(h.2.2 hx).1 _ _ h1
   change (if many<n then Res.bad 2 else pRep p n l1)=_ at hz
   rw[if_neg (by omega)] at hz
   exact(h'.2.2 h4).2 _ hz
theorem Step.many {α:Type} {p:Zlu->Res α} {many n:Nat} {l l1:Zlu} {x y1:Nat} {xs:List α}
  (h:Step pNum l x n l1 y1) (hy:y1≠0->n=0) (hn:many<n) (hp:∀l e,p l=.bad e->e≠0):Step (pRows many p) l x xs l1 2:=by
 have hy0:y1=0:=by
  rcases Nat.eq_zero_or_pos y1 with h | h
  ·exact h
  ·exact absurd (hy (by omega)) (by omega)
 have hx0:x=0:=by
  rcases Nat.eq_zero_or_pos x with h' | h'
  ·exact h'
  ·have:=h.2.1 (by omega);omega
 have key:pRows many p l=.bad 2:=by
  unfold pRows
  cases h1:pNum l with
  | bad e =>
   have h2:=(h.2.2 hx0).2 _ h1
   have h3:=uwg.err _ _ h1
   omega
  | ok n' r' =>
   obtain⟨rfl,rfl,h4⟩:=(h.2.2 hx0).1 _ _ h1
   show(if many<n then Res.bad 2 else pRep p n l1)=_
   rw[if_pos hn]
 exact⟨h.1,fun hx=>absurd hx0 hx,fun _=>⟨fun b r hb=>(by rw[key] at hb;cases hb),fun z hz=>(by rw[key] at hz;injection hz)⟩⟩
theorem wj3 {α:Type} {p:Zlu->Res α} {l:Zlu} {z:Nat}:∀(d k:Nat),pRep p k l=.bad z->pRep p (k+d) l=.bad z
 | 0,k,h=>h
 | d+1,k,h=>by
  rw[show k+(d+1)=(k+d)+1 from rfl,vjf,wj3 d k h];rfl
theorem Step.early {α:Type} {p:Zlu->Res α} {enc:α->Zlu} {D:α->Prop} {k n:Nat} {l l2:Zlu} {x y:Nat} {xs:List α} (hk:k<=n)
  (h:Step (pRep p k) l x xs l2 y) (hy:y≠0) (hp:PP p enc D):Step (pRep p n) l x [] l2 y:=by
 refine⟨h.1,h.2.1,fun hx=>?_⟩
 obtain⟨d,rfl⟩:=Nat.exists_eq_add_of_le hk
 cases h1:pRep p k l with
 | ok a r=>exact absurd ((h.2.2 hx).1 _ _ h1).2.2 hy
 | bad z =>
  have h2:=(h.2.2 hx).2 _ h1
  have h3:=wj3 d k h1
  exact⟨fun b r hb=>(by rw[h3] at hb;cases hb),fun z' hz=>(by rw[h3] at hz;injection hz with hz;rw[h2,hz])⟩
theorem vzx {a b c:World} {r:Option Nat} (h:a.grownBy b r) (hb:Below a.heap.size b c):a.grownBy c r :=
 ⟨hb.os.trans h.os,hb.tape.trans h.tape,hb.output.trans h.output,zrc h.size hb.size,fun k hk hne=>(hb.block k hk).trans (h.block k hk hne)⟩
end Go.Proofs.YtnnfgchhkekkeacGreatDoor
