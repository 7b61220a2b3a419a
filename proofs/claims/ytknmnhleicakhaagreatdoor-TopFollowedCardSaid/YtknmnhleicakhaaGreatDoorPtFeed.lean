/- Lemmas.
-/
import Derived.Test.YtknmnhleicakhaaGreatDoorPtFrame
set_option linter.all false
set_option maxHeartbeats 16000000
set_option maxRecDepth 100000
namespace Go.Proofs.YtknmnhleicakhaaGreatDoor
open Go.Proofs.Tryz
structure Fr where
 ver:Nat
 kind:Nat
 pl:Zlu
structure FeedR where
 out:List Fr
 n:Nat
 e:Nat
def feedN:Nat->Zlu->FeedR
 | 0,_=>⟨[],0,3⟩
 | f+1,l=>if(decF l).e=0 then⟨⟨(decF l).ver,(decF l).kind,(decF l).pl⟩::(feedN f (l.drop (decF l).n)).out,(decF l).n+(feedN f (l.drop (decF l).n)).n,(feedN f (l.drop (decF l).n)).e⟩ else⟨[],0,(decF l).e⟩
def feedF (l:Zlu):FeedR:=feedN (l.length+1) l
theorem vq7 (l:Zlu) (h:(decF l).e=0):0<(decF l).n:=by
 obtain⟨_,_,_,h4,h5⟩:=uws l h
 have:=congrArg List.length h4
 rw[uze,List.length_take] at this
 omega
theorem xxn (f g:Nat) (l:Zlu) (hf:l.length<f) (hg:l.length<g):feedN f l=feedN g l:=by
 induction f generalizing g l with
 | zero=>omega
 | succ f ih =>
  obtain⟨g,rfl⟩:∃k,g=k+1:=⟨g-1,by omega⟩
  unfold feedN
  by_cases h:(decF l).e=0
  ·have hp:=vq7 l h
   have hi:=(uws l h).2.2.2.2
   rw[if_pos h,if_pos h,ih g (l.drop (decF l).n) (by rw[List.length_drop];omega) (by rw[List.length_drop];omega)]
  ·rw[if_neg h,if_neg h]
theorem vkz (l:Zlu) (h:(decF l).e=0) :
  feedF l=⟨⟨(decF l).ver,(decF l).kind,(decF l).pl⟩::(feedF (l.drop (decF l).n)).out,(decF l).n+(feedF (l.drop (decF l).n)).n,(feedF (l.drop (decF l).n)).e⟩:=by
 have hp:=vq7 l h
 have hi:=(uws l h).2.2.2.2
 have hm:feedF (l.drop (decF l).n)=feedN l.length (l.drop (decF l).n):=xxn _ _ _ (by omega) (by rw[List.length_drop];omega)
 rw[hm]
 show feedN (l.length+1) l=_
 rw[feedN,if_pos h]
theorem uwc (l:Zlu) (h:(decF l).e≠0):feedF l=⟨[],0,(decF l).e⟩:=by
 show feedN (l.length+1) l=_
 rw[feedN,if_neg h]
theorem wq0 (f:Nat) (l:Zlu):(feedN f l).out.length<=(feedN f l).n/\(feedN f l).n<=l.length:=by
 induction f generalizing l with
 | zero=>simp[feedN]
 | succ f ih =>
  unfold feedN
  by_cases h:(decF l).e=0
  ·have hp:=vq7 l h
   have hi:=(uws l h).2.2.2.2
   have:=ih (l.drop (decF l).n)
   rw[if_pos h]
   rw[List.length_drop] at this
   simp only[List.length_cons]
   omega
  ·rw[if_neg h];simp
theorem wyt (l:Zlu):(feedF l).out.length<=l.length:=zrc (wq0 _ l).1 (wq0 _ l).2
theorem wvg (l:Zlu):(feedF l).n<=l.length:=(wq0 _ l).2
open Go.RowKit
def uvj (l:List Fr):List Value:=l.flatMap fun x=>[Value.int .i64 (x.ver:Int),Value.int .i64 (x.kind:Int),Value.string (bstr x.pl)]
theorem uwv (l r:List Fr):uvj (l++r)=uvj l++uvj r:=by simp[uvj]
def OwnF (w:World) (base:Nat) (v:Value) (l:List Fr):Prop:=w.ownsRow base 75 3 v l.length (uvj l)
def Asd (w:World) (g:Nat) (w':World):Prop:=w.grownBy w' (some g)
theorem Asd.refl (w:World) (g:Nat):Asd w g w:=World.grownBy.refl w _
theorem Asd.below {w a b:World} {g B:Nat} (h:Asd w g a) (hb:Below B a b) (hB:w.heap.size<=B):Asd w g b :=
 ⟨hb.os.trans h.os,hb.tape.trans h.tape,hb.output.trans h.output,zrc h.size hb.size,fun k hk hne=>(hb.block k (Nat.lt_of_lt_of_le hk hB)).trans (h.block k hk hne)⟩
theorem Asd.alloc {w a:World} {g:Nat} (h:Asd w g a) (o:Obj):Asd w g (a.alloc o):=h.below ((zri a.heap.size a).alloc (zra _) o) h.size
theorem Asd.set_ {w a:World} {g:Nat} (h:Asd w g a) (i:Nat) (u:Value):Asd w g (a.setCell ⟨g,i,none⟩ u) :=
 ⟨h.os,h.tape,h.output,by have:=h.size;simpa using this,fun k hk hne=>by
  refine(Below.heap_setCell a ⟨g,i,none⟩ u k ?_).trans (h.block k hk hne)
  intro h0;exact hne (by rw[h0])⟩
theorem Asd.grown {w a b:World} {g:Nat} {row:Option Nat} (h:Asd w g a) (hb:a.grownBy b row) (hr:∀k,row=some k->w.heap.size<=k):Asd w g b :=
 ⟨hb.os.trans h.os,hb.tape.trans h.tape,hb.output.trans h.output,zrc h.size hb.size,fun k hk hne=>(hb.block k (Nat.lt_of_lt_of_le hk h.size) (fun h0=>by have:=hr k h0.symm;omega)).trans (h.block k hk hne)⟩
theorem OwnF.below {a b:World} {base:Nat} {v:Value} {l:List Fr} (h:OwnF a base v l) (hb:Below a.heap.size a b):OwnF b base v l :=
 World.ownsRow.kept (row:=none) h ⟨hb.os,hb.tape,hb.output,hb.size,fun k hk _=>hb.block k hk⟩ (Classical.em _)
theorem OwnF.alloc {a:World} {base:Nat} {v:Value} {l:List Fr} (h:OwnF a base v l) (o:Obj):OwnF (a.alloc o) base v l:=World.ownsRow.alloc h o
theorem OwnF.set_ {a:World} {base g:Nat} {v:Value} {l:List Fr} (h:OwnF a base v l) (hg:g<base) (i:Nat) (u:Value):OwnF (a.setCell ⟨g,i,none⟩ u) base v l :=
 World.ownsRow.kept (row:=some g) h ((Asd.refl a g).set_ i u) (.inr (fun h0=>by have:=(World.ownsRow.lt h g h0).1;omega))
theorem Blk.grown {a b:World} {g:Nat} {t:TypeId} {cs:Array Value} {row:Option Nat} (h:Blk a g t cs) (hb:a.grownBy b row) (hr:some g≠row):Blk b g t cs:=(hb.block g h.lt hr).trans h
def PushPost (w:World) (g at_:Nat) (L:Zlu) (r:FeedR) (e:Ending) (w':World):Prop :=
 ∃v,e=.returned (.tuple #[v,.int .i64 ((if r.e=3 then 0 else r.e:Nat):Int)])/\OwnF w' w.heap.size v r.out /\
  Blk w' g 96 #[.string (bstr (if r.e=3 then L.drop r.n else[])),.int .i64 ((at_+r.n:Nat):Int),.int .i64 ((if r.e=3 then 0 else r.e:Nat):Int)]/\Asd w g w'
theorem feedN_e (f:Nat) (l:Zlu):(feedN f l).e≠0:=by
 induction f generalizing l with
 | zero=>simp[feedN]
 | succ f ih =>
  unfold feedN
  by_cases h:(decF l).e=0
  ·rw[if_pos h];exact ih _
  ·rw[if_neg h];exact h
theorem xyz (W:World):(zeroValue 96).run prog W=.ok (.agg #[.string .empty,.int .i64 0,.int .i64 0]) W:=by kernel_rfl
theorem wv6 (w:World) :
    Calls prog 18 #[] w fun e w'=>e=.returned (zse w.heap.size)/\w'=w.alloc (.cells #[.string .empty,.int .i64 0,.int .i64 0] 96):=by
  have hz:=xyz
  go_enter func18,ntmps18
  go_wp2_with fail
  go_ret
  exact⟨rfl,rfl⟩
theorem OwnF.form {w:World} {base:Nat} {v:Value} {l:List Fr} (h:OwnF w base v l):∃a c,v=.slice a l.length c:=by
  rcases h.2 with⟨rfl,h0⟩ | ⟨g,cap,cur,rfl,_⟩
  · exact⟨none,0,by rw[h0]⟩
  · exact⟨_,cap,rfl⟩
theorem PushPost.ok {w:World} {g at_:Nat} {L:Zlu} {r:FeedR} {e:Ending} {w':World} (h:PushPost w g at_ L r e w') (he:r.e=3) :
    ∃a c,e=.returned (.tuple #[.slice a r.out.length c,.int .i64 0])/\OwnF w' w.heap.size (.slice a r.out.length c) r.out/\Blk w' g 96 #[.string (bstr (L.drop r.n)),.int .i64 ((at_+r.n:Nat):Int),.int .i64 0]/\Asd w g w':=by
  obtain⟨v,rfl,ho,hb,ha⟩:=h
  obtain⟨p,q,rfl⟩:=ho.form
  rw[if_pos he,if_pos he] at hb
  exact⟨p,q,by rw[if_pos he];rfl,ho,hb,ha⟩
theorem PushPost.bad {w:World} {g at_:Nat} {L:Zlu} {r:FeedR} {e:Ending} {w':World} (h:PushPost w g at_ L r e w') (he:r.e≠3) :
    ∃a c,e=.returned (.tuple #[.slice a r.out.length c,.int .i64 (r.e:Int)])/\OwnF w' w.heap.size (.slice a r.out.length c) r.out/\Blk w' g 96 #[.string .empty,.int .i64 ((at_+r.n:Nat):Int),.int .i64 (r.e:Int)]/\Asd w g w':=by
  obtain⟨v,rfl,ho,hb,ha⟩:=h
  obtain⟨p,q,rfl⟩:=ho.form
  rw[if_neg he,if_neg he] at hb
  exact⟨p,q,by rw[if_neg he],ho,hb,ha⟩
theorem xky (l:Zlu):(feedF l).e≠0:=feedN_e _ _
theorem xqo:∀(f i n:Nat) (l m:Zlu),(rdN f i n l).2.2≠3->rdN f i n (l++m)=rdN f i n l
 | 0,_,_,_,_,_=>rfl
 | f+1,i,n,[],m,h=>absurd rfl h
 | f+1,i,n,c::r,m,h=>by
  simp only[rdN,List.cons_append] at h ⊢
  by_cases hb:(i=9/\1<c.toNat)\/(0<i/\c.toNat=0)
  ·rw[if_pos hb,if_pos hb]
  ·rw[if_neg hb] at h ⊢
   rw[if_neg hb]
   by_cases h1:c.toNat<128
   ·rw[if_pos h1,if_pos h1]
   ·rw[if_neg h1] at h ⊢
    rw[if_neg h1]
    exact xqo f (i+1) _ r m h
theorem xwp (l m:Zlu) (h:(rd l).2.2≠3):rd (l++m)=rd l:=xqo _ _ _ _ _ h
theorem wj3:∀(f i n:Nat) (l:Zlu),(rdN f i n l).2.2=3->l.length<f
 | 0,_,_,_,h=>absurd h (by simp[rdN])
 | f+1,i,n,[],_=>by simp
 | f+1,i,n,c::r,h=>by
  simp only[rdN] at h
  by_cases hb:(i=9/\1<c.toNat)\/(0<i/\c.toNat=0)
  ·rw[if_pos hb] at h;exact absurd h (by simp)
  ·rw[if_neg hb] at h
   by_cases h1:c.toNat<128
   ·rw[if_pos h1] at h;exact absurd h (by simp)
   ·rw[if_neg h1] at h
    have:=wj3 f (i+1) _ r h
    simp only[List.length_cons];omega
theorem rd_short (l:Zlu) (h:(rd l).2.2=3):l.length<10:=wj3 _ _ _ _ h
theorem wy1:∀(f i:Nat) (l m:Zlu),hdE f i l≠0->hdE f i (l++m)=hdE f i l
 | 0,_,_,_,h=>absurd rfl h
 | f+1,_,[],_,h=>absurd rfl h
 | f+1,i,c::r,m,h=>by
  simp only[hdE,List.cons_append] at h ⊢
  by_cases hb:badAt i c=0
  ·rw[if_pos hb] at h ⊢;rw[if_pos hb];exact wy1 f (i+1) r m h
  ·rw[if_neg hb,if_neg hb]
theorem wyz:∀(f i:Nat) (l m:Zlu),f<=l.length->hdE f i (l++m)=hdE f i l
 | 0,_,_,_,_=>rfl
 | f+1,_,[],_,h=>absurd h (by simp)
 | f+1,i,c::r,m,h=>by
  simp only[hdE,List.cons_append]
  rw[wyz f (i+1) r m (by simp only[List.length_cons] at h;omega)]
theorem badAt_3 (i:Nat) (c:UInt8):badAt i c≠3:=by unfold badAt;(repeat' split) <;> decide
theorem hdE_3:∀(f i:Nat) (l:Zlu),hdE f i l≠3
 | 0,_,_=>by simp[hdE]
 | f+1,_,[]=>by simp[hdE]
 | f+1,i,c::r=>by
  simp only[hdE]
  by_cases hb:badAt i c=0
  ·rw[if_pos hb];exact hdE_3 f _ r
  ·rw[if_neg hb];exact badAt_3 i c
theorem decF_few (l:Zlu) (h:(decF l).e=3):l.length<=6020:=by
 by_cases h0:hdE 4 0 l=0
 ·by_cases h4:l.length<4
  ·omega
  ·by_cases hr0:(rd (l.drop 4)).2.2=0
   ·obtain⟨n,k,hr,hp,hk1,hk10,hkl,hn,_⟩:=rd_ok _ hr0
    rw[decF,if_neg (by rw[h0];simp),if_neg h4,hr] at h
    simp only[] at h
    rw[if_neg (by simp)] at h
    by_cases h6:6000<n
    ·rw[if_pos h6] at h;exact absurd h (by decide)
    ·rw[if_neg h6] at h
     by_cases h3:l.length<4+k+n+4
     ·omega
     ·rw[if_neg h3] at h
      by_cases hs:sum4 (crc (l.take (4+k+n)))≠(l.drop (4+k+n)).take 4
      ·rw[if_pos hs] at h;exact absurd h (by decide)
      ·rw[if_neg hs] at h;exact absurd h (by simp)
   ·rw[decF,if_neg (by rw[h0];simp),if_neg h4,if_pos hr0] at h
    have:=rd_short _ h
    rw[List.length_drop] at this
    omega
 ·rw[decF,if_pos h0] at h;exact absurd h (hdE_3 _ _ _)
theorem xkc (l:Zlu) (n k:Nat) (h0:hdE 4 0 l=0) (h4:¬l.length<4) (hr:rd (l.drop 4)=(n,k,0)) :
  decF l=if 6000<n then .err 2 else if l.length<4+k+n+4 then .err 3 else
   if sum4 (crc (l.take (4+k+n)))≠(l.drop (4+k+n)).take 4 then .err 5 else⟨0,(l.getD 2 0).toNat,(l.getD 3 0).toNat,(l.drop (4+k)).take n,4+k+n+4⟩:=by
 rw[decF,if_neg (by rw[h0];simp),if_neg h4,hr]
 simp only[]
 rw[if_neg (by simp)]
theorem xkd (l m:Zlu) (h:(decF l).e≠3):decF (l++m)=decF l:=by
 by_cases h0:hdE 4 0 l=0
 ·by_cases h4:l.length<4
  ·rw[decF,if_neg (by rw[h0];simp),if_pos h4] at h;exact absurd rfl h
  ·have hd:(l++m).drop 4=l.drop 4++m:=by rw[List.drop_append_of_le_length (by omega)]
   have hh:hdE 4 0 (l++m)=0:=by rw[wyz _ _ _ _ (by omega),h0]
   have h4':¬(l++m).length<4:=by rw[zrb];omega
   by_cases hr0:(rd (l.drop 4)).2.2=0
   ·obtain⟨n,k,hr,hp,hk1,hk10,hkl,hn,_⟩:=rd_ok _ hr0
    have hr':rd ((l++m).drop 4)=(n,k,0):=by rw[hd,xwp _ _ (by rw[hr];simp),hr]
    rw[List.length_drop] at hkl
    have e1:=xkc l n k h0 h4 hr
    have e2:=xkc (l++m) n k hh h4' hr'
    by_cases h6:6000<n
    ·rw[e1,e2,if_pos h6,if_pos h6]
    ·rw[if_neg h6] at e1 e2
     by_cases h3:l.length<4+k+n+4
     ·rw[if_pos h3] at e1;rw[e1] at h;exact absurd rfl h
     ·rw[if_neg h3] at e1
      rw[if_neg (by rw[zrb];omega)] at e2
      have f1:(l++m).take (4+k+n)=l.take (4+k+n):=List.take_append_of_le_length (by omega)
      have f2:((l++m).drop (4+k+n)).take 4=(l.drop (4+k+n)).take 4:=by
       rw[List.drop_append_of_le_length (by omega),List.take_append_of_le_length (by rw[List.length_drop];omega)]
      have f3:((l++m).drop (4+k)).take n=(l.drop (4+k)).take n:=by
       rw[List.drop_append_of_le_length (by omega),List.take_append_of_le_length (by rw[List.length_drop];omega)]
      have f4:(l++m).getD 2 0=l.getD 2 0:=by simp only[List.getD_eq_getElem?_getD];rw[List.getElem?_append_left (by omega)]
      have f5:(l++m).getD 3 0=l.getD 3 0:=by simp only[List.getD_eq_getElem?_getD];rw[List.getElem?_append_left (by omega)]
      rw[f1,f2,f3,f4,f5] at e2
      rw[e1,e2]
   ·have hr3:(rd (l.drop 4)).2.2≠3:=by
     intro h3
     rw[decF,if_neg (by rw[h0];simp),if_neg h4,if_pos hr0] at h
     exact h h3
    have hr':rd ((l++m).drop 4)=rd (l.drop 4):=by rw[hd,xwp _ _ hr3]
    rw[decF,if_neg (by rw[hh];simp),if_neg h4',hr',if_pos hr0,decF,if_neg (by rw[h0];simp),if_neg h4,if_pos hr0]
 ·have hm:=wy1 4 0 l m h0
  rw[decF,hm,if_pos h0,decF,if_pos h0]
def encs (l:List Fr):Zlu:=l.flatMap fun x=>wireF x.ver x.kind x.pl
theorem uxv (l r:List Fr):encs (l++r)=encs l++encs r:=by simp[encs]
theorem ujt (x:Fr) (r:List Fr):encs (x::r)=wireF x.ver x.kind x.pl++encs r:=by simp[encs]
theorem uxo:encs []=[]:=rfl
def uxu (x:Fr):Prop:=(1<=x.ver/\x.ver<=3)/\(1<=x.kind/\x.kind<=4)/\x.pl.length<=6000
theorem xxm (f:Nat) (l:Zlu):encs (feedN f l).out=l.take (feedN f l).n/\∀x∈(feedN f l).out,uxu x:=by
 induction f generalizing l with
 | zero=>simp[feedN,encs]
 | succ f ih =>
  unfold feedN
  by_cases h:(decF l).e=0
  ·obtain⟨h1,h2,h3,h4,h5⟩:=uws l h
   obtain⟨g1,g2⟩:=ih (l.drop (decF l).n)
   rw[if_pos h]
   refine⟨?_,?_⟩
   ·show encs (_::_)=_
    rw[ujt,g1,h4,<- List.take_add]
   ·intro x hx
    rcases List.mem_cons.1 hx with rfl | hx
    ·exact⟨h1,h2,h3⟩
    ·exact g2 x hx
  ·rw[if_neg h]
   simp[encs]
theorem vjl (l:Zlu):encs (feedF l).out=l.take (feedF l).n/\∀x∈(feedF l).out,uxu x:=xxm _ _
theorem vw5 (l:Zlu):(encs (feedF l).out).length=(feedF l).n:=by
 rw[(vjl l).1,List.length_take]
 have:=wvg l
 omega
theorem xxo (f:Nat) (l:Zlu) (hf:l.length<f):(decF (l.drop (feedN f l).n)).e=(feedN f l).e:=by
 induction f generalizing l with
 | zero=>omega
 | succ f ih =>
  unfold feedN
  by_cases h:(decF l).e=0
  ·have hp:=vq7 l h
   have hi:=(uws l h).2.2.2.2
   rw[if_pos h]
   show(decF (l.drop ((decF l).n+(feedN f (l.drop (decF l).n)).n))).e=_
   rw[<- List.drop_drop]
   exact ih _ (by rw[List.length_drop];omega)
  ·rw[if_neg h]
   simp
theorem vyk (l:Zlu):(decF (l.drop (feedF l).n)).e=(feedF l).e:=xxo _ _ (by omega)
theorem vyj (l:Zlu) (h:(feedF l).e=3):(l.drop (feedF l).n).length<=6020:=decF_few _ (by rw[vyk,h])
theorem feedN_e_ (l:Zlu):(feedF l).e≠0:=by
 have:∀(f:Nat) (l:Zlu),(feedN f l).e≠0:=by
  intro f
  induction f with
  | zero=>simp[feedN]
  | succ f ih =>
   intro l
   unfold feedN
   by_cases h:(decF l).e=0
   ·rw[if_pos h];exact ih _
   ·rw[if_neg h];exact h
 exact this _ _
theorem xxl (x:Fr) (hx:uxu x) (l:Zlu):feedF (wireF x.ver x.kind x.pl++l)=⟨x::(feedF l).out,(wireF x.ver x.kind x.pl).length+(feedF l).n,(feedF l).e⟩:=by
 have h:=vqj x.ver x.kind x.pl l hx.1 hx.2.1 hx.2.2
 rw[vkz _ (by rw[h]),h]
 simp
theorem uw4 (fs:List Fr) (hg:∀x∈fs,uxu x) (l:Zlu):feedF (encs fs++l)=⟨fs++(feedF l).out,(encs fs).length+(feedF l).n,(feedF l).e⟩:=by
 induction fs with
 | nil=>simp[encs]
 | cons x r ih =>
  rw[ujt,zrh,xxl x (hg x (by simp)),ih fun y hy=>hg y (by simp[hy])]
  simp[Nat.add_assoc]
theorem wym:decF []=.err 3:=rfl
theorem vxf:feedF []=⟨[],0,3⟩:=by rw[uwc _ (by rw[wym];decide),wym];rfl
theorem vqk (fs:List Fr) (hg:∀x∈fs,uxu x):feedF (encs fs)=⟨fs,(encs fs).length,3⟩:=by
 have h:=uw4 fs hg []
 rw[List.append_nil,vxf] at h
 simpa using h
theorem uw5 (l m:Zlu):feedF (l++m)=if(feedF l).e=3 then⟨(feedF l).out++(feedF (l.drop (feedF l).n++m)).out,(feedF l).n+(feedF (l.drop (feedF l).n++m)).n,(feedF (l.drop (feedF l).n++m)).e⟩ else feedF l:=by
 obtain⟨h1,h2⟩:=vjl l
 have hlen:=vw5 l
 have hl:l=encs (feedF l).out++l.drop (feedF l).n:=by rw[h1,List.take_append_drop]
 have hs:=vyk l
 have he:=feedN_e_ l
 have key:feedF (l++m)=⟨(feedF l).out++(feedF (l.drop (feedF l).n++m)).out,(feedF l).n+(feedF (l.drop (feedF l).n++m)).n,(feedF (l.drop (feedF l).n++m)).e⟩:=by
  have h3:=uw4 (feedF l).out h2 (l.drop (feedF l).n++m)
  rw[<- zrh,<- hl,hlen] at h3
  exact h3
 by_cases h3:(feedF l).e=3
 ·rw[if_pos h3];exact key
 ·rw[if_neg h3,key]
  have hd:decF (l.drop (feedF l).n++m)=decF (l.drop (feedF l).n):=xkd _ _ (by rw[hs];exact h3)
  rw[uwc (l.drop (feedF l).n++m) (by rw[hd,hs];exact he),hd,hs]
  simp
def rowFr (x:Fr):List Value:=[Value.int .i64 (x.ver:Int),Value.int .i64 (x.kind:Int),Value.string (bstr x.pl)]
theorem vwm (l:List Fr):(l.map rowFr).flatten=uvj l:=by simp only[uvj,List.flatMap];rfl
theorem wwr (l:List Fr):∀r∈l.map rowFr,r.length=3:=by
 intro r hr
 obtain⟨x,_,rfl⟩:=List.mem_map.1 hr
 rfl
theorem OwnF.elts {w:World} {base:Nat} {p:Zoa} {c:Nat} {l:List Fr} (h:OwnF w base (.slice p l.length c) l):Elts w w.heap.size 3 p (l.map rowFr) :=
 .of_own (c:=c) (wwr l) (by rw[zre,vwm];exact h)
theorem OwnF.asd {w w':World} {g base:Nat} {v:Value} {l:List Fr} (h:OwnF w base v l) (ha:Asd w g w') (hg:v.ownBlock≠some g):OwnF w' base v l :=
 World.ownsRow.kept (row:=some g) h ha (.inr hg)
theorem vzt (l:List Fr) (h:∀x∈l,uxu x):(encs l).length<=l.length*6018:=by
 induction l with
 | nil=>simp[encs]
 | cons x r ih =>
  have hx:=h x (by simp)
  have:=ih fun y hy=>h y (by simp[hy])
  have h10:=uqm x.pl.length (by have:=hx.2.2;omega)
  have:=hx.2.2
  rw[ujt,zrb,uze,List.length_cons]
  omega
def errF (L:Zlu):Nat:=if(feedF L).e=3 then 0 else(feedF L).e
def stF (L:Zlu):Array Value:=#[.string (bstr (if(feedF L).e=3 then L.drop (feedF L).n else[])),.int .i64 ((feedF L).n:Int),.int .i64 (errF L:Int)]
def NextPost (w:World) (g:Nat) (L:Zlu) (s:Zba) (e:Ending) (w':World):Prop :=
 ∃a c,∃outs:List Fr,e=.returned (.tuple #[.slice a outs.length c,.int .i64 (errF (L++s.data.toList):Int)])/\Elts w' w'.heap.size 3 a (outs.map rowFr)/\(∀ad,a=some ad->w.heap.size<=ad.block) /\
  (feedF L).out++outs=(feedF (L++s.data.toList)).out/\Blk w' g 96 (stF (L++s.data.toList))/\Asd w g w'
theorem Asd.trans {a b c:World} {g:Nat} (h1:Asd a g b) (h2:Asd b g c):Asd a g c :=
 ⟨h2.os.trans h1.os,h2.tape.trans h1.tape,h2.output.trans h1.output,zrc h1.size h2.size,fun k hk hne=>(h2.block k (Nat.lt_of_lt_of_le hk h1.size) hne).trans (h1.block k hk hne)⟩
theorem Elts.asd {w w':World} {B size g:Nat} {p:Zoa} {rows:List (List Value)} (h:Elts w B size p rows) (hB:B<=w.heap.size) (ha:Asd w g w') (hg:∀a,p=some a->a.block≠g):Elts w' B size p rows :=
 ⟨h.1,fun hn=>by
  obtain⟨a,e,hb,hc⟩:=h.2 hn
  refine⟨a,e,hb,fun k r hr j v hv=>?_⟩
  refine(World.cell?_of_block ?_).trans (hc k r hr j v hv)
  rw[uql,uql]
  exact ha.block a.block (by omega) (by intro h0;injection h0 with h0;exact hg a e h0)⟩
theorem Blk.asd {w w':World} {g f:Nat} {t:TypeId} {cs:Array Value} (h:Blk w f t cs) (ha:Asd w g w') (hne:f≠g):Blk w' f t cs :=
 (ha.block f h.lt (by intro h0;injection h0 with h0;exact hne h0)).trans h
section
variable {w:World} {ops:Array Oper} {rest:List Oper} {o:Oper} {a:Act} {Q:Exit->Act->World->Prop}
end
theorem errF_nil:errF []=0:=by unfold errF;rw[vxf];rfl
def leftF (L:Zlu):Nat:=(bstr (if(feedF L).e=3 then L.drop (feedF L).n else[])).size
def flatS (ps:List Zba):Zlu:=(ps.map (·.data.toList)).flatten
def PushFree (w:World) (g:Nat) (L:Zlu) (r:FeedR) (e:Ending) (w':World):Prop :=
 ∃v,∃q:Int,e=.returned (.tuple #[v,.int .i64 ((if r.e=3 then 0 else r.e:Nat):Int)])/\OwnF w' w.heap.size v r.out /\
  Blk w' g 96 #[.string (bstr (if r.e=3 then L.drop r.n else[])),.int .i64 q,.int .i64 ((if r.e=3 then 0 else r.e:Nat):Int)]/\Asd w g w'
theorem wwj (g:Nat) (p:Int) (r s:Zba) (st:Int) (hst:st≠0) (w:World) (hb:Blk w g 96 #[.string r,.int .i64 p,.int .i64 st]) :
  Calls prog 22 #[zse g,.string s] w fun e w'=>e=.returned (.tuple #[.slice none 0 0,.int .i64 st])/\Below w.heap.size w w':=by
 have c1:=hb.c2
 have h1:(st != 0)=true:=by rw[bne_iff_ne];exact hst
 have c2:w.drew.cell? ⟨g,2,none⟩=some (Value.int .i64 st):=hb.cell 2
 go_enter func22,ntmps22
 go_wp2_with fail
 go_big_region
 go_wp2_with fail
 go_ret2
 exact⟨rfl,(zri _ _).drew⟩
theorem xwa (g:Nat) (p:Int) (rest s:Zba) (w:World) (hb:Blk w g 96 #[.string rest,.int .i64 p,.int .i64 0]) (hL:rest.size+s.size<=2305843009213693952) (hC:(feedF (rest++s).data.toList).out.length<=4398046511104) :
  Calls prog 22 #[zse g,.string s] w fun e w'=>PushFree w g (rest++s).data.toList (feedF (rest++s).data.toList) e w':=by
 obtain⟨i0,hi,hz0,hz1,hz2⟩:=info_parts uv6
 have hz:=ujx
 have hglt:=hb.lt
 have c0:=hb.c0
 have c2:=hb.c2
 have f0:=hb.frozen 0
 have hadd:∀W,(Op.stringOp .add rest s).run prog W=.ok (.string (rest++s)) W:=fun W=>run_string_add_sum W _ _ (by omega)
 have hsz:(rest++s).size=rest.size+s.size:=ByteArray.size_append
 generalize rest++s=R at *
 have HC:=zrj hC
 clear hC
 have hRl:R.data.toList.length=R.size:=by simp
 go_enter func22,ntmps22
 go_wp2_with fail
 go_loopg [6] (R.size+1) (fun gk out wx=>∃(r:Zba) (acc:List Fr) (n:Nat) (q:Int),Blk wx g 96 #[.string r,.int .i64 q,.int .i64 0]/\OwnF wx w.heap.size out acc/\Asd w g wx/\Hid (feedF R.data.toList=⟨acc++(feedF r.data.toList).out,n+(feedF r.data.toList).n,(feedF r.data.toList).e⟩/\r.data.toList=R.data.toList.drop n)/\n+r.size=R.size/\r.size<gk)
 case atStart =>
  refine⟨R,[],0,p,?_,World.ownsRow_nil _ _ _ _,(Asd.refl w g).set_ 0 _,⟨by simp,by simp⟩,by omega,by omega⟩
  have:=hb.set_ 0 (Value.string R)
  simpa using this
 case round =>
  obtain⟨r,acc,n,q,hbl,ho,ha,H,hn,hgk⟩:=hrel
  obtain⟨gk',rfl⟩:∃k,gk=k+1:=⟨gk-1,by omega⟩
  have c0:=hbl.c0
  have c1:=hbl.c1
  by_cases he:(decF r.data.toList).e=0
  ·have hD:=vvi r (by omega) he
   have hI:=uws r.data.toList he
   have hpos:=vq7 r.data.toList he
   have hok:=vkz r.data.toList he
   have hacc:acc.length+1<=4398046511104:=by
    have h1:=HC.out
    rw[H.out.1,hok] at h1
    simp at h1
    omega
   generalize decF r.data.toList=d at *
   have HD:=zrj hD
   have HO:=zrj hok
   have hdn:d.n<=r.size:=by have:=hI.2.2.2.2;simpa using this
   clear hD hok hI hb c2 f0 hadd
   go_wp2_with fail
   refine(HD.out _).mono ?_
   rintro e w1 ⟨rfl,hb1⟩
   have b1:=hbl.bl hb1
   have a1:=ha.below hb1 ha.size
   have o1:=ho.below hb1
   have hlt1:=b1.lt
   have hs1:=a1.size
   have b2:=(b1.alloc (.cells #[.int .i64 (d.ver:Int),.int .i64 (d.kind:Int),.string (bstr d.pl)] 75)).alloc (.cells #[.int .i64 (d.ver:Int),.int .i64 (d.kind:Int),.string (bstr d.pl)] 75)
   have a2:=(a1.alloc (.cells #[.int .i64 (d.ver:Int),.int .i64 (d.kind:Int),.string (bstr d.pl)] 75)).alloc (.cells #[.int .i64 (d.ver:Int),.int .i64 (d.kind:Int),.string (bstr d.pl)] 75)
   have o2:=(o1.alloc (.cells #[.int .i64 (d.ver:Int),.int .i64 (d.kind:Int),.string (bstr d.pl)] 75)).alloc (.cells #[.int .i64 (d.ver:Int),.int .i64 (d.kind:Int),.string (bstr d.pl)] 75)
   have bx:=Blk.new w1 75 #[.int .i64 (d.ver:Int),.int .i64 (d.kind:Int),.string (bstr d.pl)]
   have g0:(w1.alloc (.cells #[.int .i64 (d.ver:Int),.int .i64 (d.kind:Int),.string (bstr d.pl)] 75)).cell? ⟨w1.heap.size,0,none⟩=some (Value.int .i64 (d.ver:Int)):=bx.cell 0
   have g1:(w1.alloc (.cells #[.int .i64 (d.ver:Int),.int .i64 (d.kind:Int),.string (bstr d.pl)] 75)).cell? ⟨w1.heap.size,1,none⟩=some (Value.int .i64 (d.kind:Int)):=bx.cell 1
   have g2:(w1.alloc (.cells #[.int .i64 (d.ver:Int),.int .i64 (d.kind:Int),.string (bstr d.pl)] 75)).cell? ⟨w1.heap.size,2,none⟩=some (Value.string (bstr d.pl)):=bx.cell 2
   have hdi:(d.n:Int)<=(r.size:Int):=by omega
   have bn:=Blk.new (w1.alloc (.cells #[.int .i64 (d.ver:Int),.int .i64 (d.kind:Int),.string (bstr d.pl)] 75)) 75 #[.int .i64 (d.ver:Int),.int .i64 (d.kind:Int),.string (bstr d.pl)]
   clear c0 c1 hbl ho ha hb1
   have bm:Blk ((w1.alloc (.cells #[.int .i64 (d.ver:Int),.int .i64 (d.kind:Int),.string (bstr d.pl)] 75)).alloc (.cells #[.int .i64 (d.ver:Int),.int .i64 (d.kind:Int),.string (bstr d.pl)] 75)) (w1.heap.size+1) 75 #[.int .i64 (d.ver:Int),.int .i64 (d.kind:Int),.string (bstr d.pl)]:=by
    rwa [show(w1.alloc (.cells #[.int .i64 (d.ver:Int),.int .i64 (d.kind:Int),.string (bstr d.pl)] 75)).heap.size=w1.heap.size+1 by simp] at bn
   obtain⟨news,hnews⟩:∃news,news=[Value.int .i64 (d.ver:Int),Value.int .i64 (d.kind:Int),Value.string (bstr d.pl)]:=⟨_,rfl⟩
   have hl3:news.length=1*3:=by rw[hnews];rfl
   have h13:∀u∈news,u.oneCell'=true:=by rw[hnews];simp[Value.oneCell']
   have hcl:∀j u,news[j]?=some u->((w1.alloc (.cells #[.int .i64 (d.ver:Int),.int .i64 (d.kind:Int),.string (bstr d.pl)] 75)).alloc (.cells #[.int .i64 (d.ver:Int),.int .i64 (d.kind:Int),.string (bstr d.pl)] 75)).cell? ((⟨w1.heap.size+1,0,none⟩:Addr).add j)=some u:=by rw[hnews];exact World.news_of_block bm
   have hml:acc.length+1<=maxLen:=by unfold maxLen;omega
   have hby:(acc.length+1)*32<=140737488355328:=by omega
   have hbs:w.heap.size<=((w1.alloc (.cells #[.int .i64 (d.ver:Int),.int .i64 (d.kind:Int),.string (bstr d.pl)] 75)).alloc (.cells #[.int .i64 (d.ver:Int),.int .i64 (d.kind:Int),.string (bstr d.pl)] 75)).heap.size:=by simp;omega
   go_wp2_with(first
    | (refine uqf rfl _ _ _ rfl rfl 75 _ _ rfl uqx rfl (vql _ _ _) ?_)
    | (at_builtin;go_loud (refine wpList_append_own _ rfl _ _ 78 rfl w.heap.size 75 i0 _ 3 32 underlying78 hi hz0 hz1 hz2 rfl (by decide) _ acc.length (uvj acc) rfl o2 ⟨w1.heap.size+1,0,none⟩ 1 1 news rfl hl3 hcl h13 hml hby hbs ?_)))
   intro v2 w2 hown hg hnil
   have hgne:some g≠Value.ownBlock _:=fun h0=>by have:=(World.ownsRow.lt o2 g h0.symm).1;omega
   have b3:=b2.grown hg hgne
   have a3:=a2.grown hg (fun k hk=>(World.ownsRow.lt o2 k hk).1)
   clear b2 a2 o2 bx bn bm hcl hl3 h13 hml hby hbs g0 g1 g2 hg hnil b1 a1 o1
   have c0:=b3.c0
   have c1:=b3.c1
   have f0:=b3.frozen 0
   have f1:=b3.frozen 1
   go_wp2_with fail
   have hi3:=HO.out
   have hRd:(r.extract d.n r.size).data.toList=r.data.toList.drop d.n:=by
    simp[ByteArray.data_extract,List.extract_eq_take_drop]
    exact List.take_of_length_le (by simp)
   have hsz3:(r.extract d.n r.size).size=r.size-d.n:=by rw[ByteArray.size_extract];omega
   go_roundg gk'
   case rel =>
    refine⟨r.extract d.n r.size,acc++[⟨d.ver,d.kind,d.pl⟩],n+d.n,?q1,?_,?_,(a3.set_ 0 _).set_ 1 _,⟨?_,?_⟩,by omega,by omega⟩
    rotate_left
    ·exact(b3.set_ 0 (Value.string (r.extract d.n r.size))).set_ 1 (Value.int .i64 _)
    ·have h0:OwnF w2 w.heap.size v2 (acc++[⟨d.ver,d.kind,d.pl⟩]):=by
      unfold OwnF
      rw[uwv,zrb]
      exact hown
     exact(h0.set_ hglt 0 _).set_ hglt 1 _
    ·rw[H.out.1,hi3,hRd]
     simp[Nat.add_assoc]
    ·rw[hRd,H.out.2,List.drop_drop]
   case measure=>omega
  ·have hD:=vyg r (by omega) he
   have hbad:=uwc r.data.toList he
   generalize(decF r.data.toList).e=z at *
   have HD:=zrj hD
   have HO:=zrj hbad
   clear hD hbad hb c2 f0 hadd
   have hz0:((z:Int) == 0)=false:=beq_eq_false_iff_ne.2 (by omega)
   by_cases h3:z=3
   ·subst h3
    go_wp2_with fail
    refine(HD.out _).mono ?_
    rintro e w1 ⟨rfl,hb1⟩
    have b2:=(hbl.bl hb1).alloc (.cells #[.int .i64 0,.int .i64 0,.string .empty] 75)
    have a2:=(ha.below hb1 ha.size).alloc (.cells #[.int .i64 0,.int .i64 0,.string .empty] 75)
    have o2:=(ho.below hb1).alloc (.cells #[.int .i64 0,.int .i64 0,.string .empty] 75)
    have f0:=b2.frozen 0
    have f2:=b2.frozen 2
    have e0:(w1.alloc (.cells #[.int .i64 0,.int .i64 0,.string .empty] 75)).cell? ⟨g,0,none⟩=some (Value.string r):=b2.cell 0
    have e2:(w1.alloc (.cells #[.int .i64 0,.int .i64 0,.string .empty] 75)).cell? ⟨g,2,none⟩=some (Value.int .i64 0):=b2.cell 2
    have hF:feedF R.data.toList=⟨acc,n,3⟩:=by rw[H.out.1,HO.out];simp
    go_wp2_with(refine uqf rfl _ _ _ rfl rfl 75 _ _ rfl uqx rfl (vql _ _ _) ?_)
    go_ret2
    have hr:bstr (R.data.toList.drop n)=r:=by rw[<- H.out.2,ux3]
    show PushFree _ _ _ _ _ _
    rw[hF]
    refine⟨_,q,rfl,o2,?_,a2⟩
    show Blk _ g _ #[.string (bstr (R.data.toList.drop n)),_,_]
    rw[hr]
    exact b2
   ·have h3b:((z:Int) == 3)=false:=beq_eq_false_iff_ne.2 (by omega)
    go_wp2_with fail
    refine(HD.out _).mono ?_
    rintro e w1 ⟨rfl,hb1⟩
    have b2:=(hbl.bl hb1).alloc (.cells #[.int .i64 0,.int .i64 0,.string .empty] 75)
    have a2:=(ha.below hb1 ha.size).alloc (.cells #[.int .i64 0,.int .i64 0,.string .empty] 75)
    have o2:=(ho.below hb1).alloc (.cells #[.int .i64 0,.int .i64 0,.string .empty] 75)
    have f0:=b2.frozen 0
    have f2:=b2.frozen 2
    have e0:(w1.alloc (.cells #[.int .i64 0,.int .i64 0,.string .empty] 75)).cell? ⟨g,0,none⟩=some (Value.string r):=b2.cell 0
    have e2:(w1.alloc (.cells #[.int .i64 0,.int .i64 0,.string .empty] 75)).cell? ⟨g,2,none⟩=some (Value.int .i64 0):=b2.cell 2
    have hF:feedF R.data.toList=⟨acc,n,z⟩:=by rw[H.out.1,HO.out];simp
    go_wp2_with(refine uqf rfl _ _ _ rfl rfl 75 _ _ rfl uqx rfl (vql _ _ _) ?_)
    go_ret2
    show PushFree _ _ _ _ _ _
    rw[hF]
    refine⟨_,q,?_,(o2.set_ hglt 0 _).set_ hglt 2 _,?_,(a2.set_ 0 _).set_ 2 _⟩
    ·rw[if_neg h3];rfl
    ·rw[if_neg h3,if_neg h3]
     exact(b2.set_ 0 _).set_ 2 _
theorem PushFree.ok {w:World} {g:Nat} {L:Zlu} {r:FeedR} {e:Ending} {w':World} (h:PushFree w g L r e w') (he:r.e=3) :
  ∃a c q,e=.returned (.tuple #[.slice a r.out.length c,.int .i64 0])/\OwnF w' w.heap.size (.slice a r.out.length c) r.out/\Blk w' g 96 #[.string (bstr (L.drop r.n)),.int .i64 q,.int .i64 0]/\Asd w g w':=by
 obtain⟨v,q,rfl,ho,hb,ha⟩:=h
 obtain⟨x,y,rfl⟩:=ho.form
 rw[if_pos he,if_pos he] at hb
 exact⟨x,y,q,by rw[if_pos he];rfl,ho,hb,ha⟩
theorem PushFree.bad {w:World} {g:Nat} {L:Zlu} {r:FeedR} {e:Ending} {w':World} (h:PushFree w g L r e w') (he:r.e≠3) :
  ∃a c q,e=.returned (.tuple #[.slice a r.out.length c,.int .i64 (r.e:Int)])/\OwnF w' w.heap.size (.slice a r.out.length c) r.out/\Blk w' g 96 #[.string .empty,.int .i64 q,.int .i64 (r.e:Int)]/\Asd w g w':=by
 obtain⟨v,q,rfl,ho,hb,ha⟩:=h
 obtain⟨x,y,rfl⟩:=ho.form
 rw[if_neg he,if_neg he] at hb
 exact⟨x,y,q,by rw[if_neg he],ho,hb,ha⟩
def FeedIs (w:World) (g:Nat) (L:Zlu):Prop:=∃q:Int,Blk w g 96 #[.string (bstr (if(feedF L).e=3 then L.drop (feedF L).n else[])),.int .i64 q,.int .i64 (errF L:Int)]
section
variable {w w':World} {g:Nat} {L:Zlu}
theorem FeedIs.own (h:FeedIs w g L):∃cs,Blk w g 96 cs:=by obtain⟨q,h⟩:=h;exact⟨_,h⟩
theorem FeedIs.lt (h:FeedIs w g L):g<w.heap.size:=by obtain⟨q,h⟩:=h;exact h.lt
theorem FeedIs.below (h:FeedIs w g L) {B:Nat} (hb:Below B w w') (hg:g<B):FeedIs w' g L:=by obtain⟨q,h⟩:=h;exact⟨q,h.below hb hg⟩
theorem FeedIs.ne_ (h:FeedIs w g L) {k:Nat} {t:TypeId} {cs:Array Value} (hk:Blk w k t cs) (hne:96 ≠ t):g≠k:=by obtain⟨q,h⟩:=h;exact h.ne_ hk hne
theorem FeedIs.asd (h:FeedIs w g L) {k:Nat} (ha:Asd w k w') (hne:g≠k):FeedIs w' g L:=by obtain⟨q,h⟩:=h;exact⟨q,h.asd ha hne⟩
theorem FeedIs.kept {r:Option Nat} (h:FeedIs w g L) (hg:w.grownBy w' r) (hr:r≠some g):FeedIs w' g L:=by obtain⟨q,hb⟩:=h;exact⟨q,(hg.block g hb.lt (fun e=>hr e.symm)).trans hb⟩
theorem FeedIs.nil (h:Blk w g 96 #[.string .empty,.int .i64 0,.int .i64 0]):FeedIs w g []:=⟨0,by rw[errF_nil,vxf];exact h⟩
end
def NextFree (w:World) (g:Nat) (L:Zlu) (s:Zba) (e:Ending) (w':World):Prop :=
 ∃a c,∃outs:List Fr,e=.returned (.tuple #[.slice a outs.length c,.int .i64 (errF (L++s.data.toList):Int)])/\Elts w' w'.heap.size 3 a (outs.map rowFr)/\(∀ad,a=some ad->w.heap.size<=ad.block) /\
  (feedF L).out++outs=(feedF (L++s.data.toList)).out/\FeedIs w' g (L++s.data.toList)/\Asd w g w'
theorem wxg (g:Nat) (L:Zlu) (s:Zba) (w:World) (hb:FeedIs w g L) (hs:s.size<=1152921504606846976) (hc:∀outs,(feedF L).out++outs=(feedF (L++s.data.toList)).out->outs.length<=4398046511104) :
  Calls prog 22 #[zse g,.string s] w fun e w'=>NextFree w g L s e w':=by
 have hm:=uw5 L s.data.toList
 have hn:=wvg L
 have he0:=xky L
 obtain⟨q0,hb⟩:=hb
 unfold errF at hb
 by_cases he:(feedF L).e=3
 ·rw[if_pos he,if_pos he] at hb
  rw[if_pos he] at hm
  have hl:(bstr (L.drop (feedF L).n)++s).data.toList=L.drop (feedF L).n++s.data.toList:=by rw[ByteArray.data_append,Array.toList_append,uqu]
  have h1:=vyj L he
  have h2:=hc _ (by rw[hm])
  have h:=xwa g q0 (bstr (L.drop (feedF L).n)) s w hb (by rw[uqz];omega) (by rw[hl];omega)
  rw[hl] at h
  have hee:=congrArg FeedR.e hm
  have hnn:=congrArg FeedR.n hm
  simp only[] at hee hnn
  by_cases h3:(feedF (L.drop (feedF L).n++s.data.toList)).e=3
  ·refine h.mono fun e w' hp=>?_
   obtain⟨a,c,q,rfl,ho,hbl,ha⟩:=hp.ok h3
   have h3':(feedF (L++s.data.toList)).e=3:=by rw[hee];exact h3
   refine⟨a,c,_,?_,ho.elts,own_ge ho,by rw[hm],⟨q,?_⟩,ha⟩
   ·unfold errF;rw[if_pos h3'];rfl
   ·unfold errF
    rw[if_pos h3',if_pos h3',hnn]
    have:(L++s.data.toList).drop ((feedF L).n+(feedF (L.drop (feedF L).n++s.data.toList)).n)=(L.drop (feedF L).n++s.data.toList).drop (feedF (L.drop (feedF L).n++s.data.toList)).n:=by
     rw[<- List.drop_drop,List.drop_append_of_le_length hn]
    rw[this]
    exact hbl
  ·refine h.mono fun e w' hp=>?_
   obtain⟨a,c,q,rfl,ho,hbl,ha⟩:=hp.bad h3
   have h3':(feedF (L++s.data.toList)).e≠3:=by rw[hee];exact h3
   refine⟨a,c,_,?_,ho.elts,own_ge ho,by rw[hm],⟨q,?_⟩,ha⟩
   ·unfold errF;rw[if_neg h3',hee]
   ·unfold errF
    rw[if_neg h3',if_neg h3',hee]
    exact hbl
 ·rw[if_neg he,if_neg he] at hb
  rw[if_neg he] at hm
  have h:=wwj g q0 _ s ((feedF L).e:Int) (by omega) w hb
  refine h.mono fun e w' hp=>?_
  obtain⟨rfl,hbl⟩:=hp
  have h3':(feedF (L++s.data.toList)).e≠3:=by rw[hm];exact he
  refine⟨none,0,[],?_,Elts.nil_,by simp,by rw[hm,List.append_nil],⟨q0,?_⟩,(Asd.refl w g).below hbl (zra _)⟩
  ·unfold errF;rw[if_neg h3',hm];rfl
  ·unfold errF
   rw[if_neg h3',if_neg h3',hm]
   exact hb.bl hbl
end Go.Proofs.YtknmnhleicakhaaGreatDoor
