/- Lemmas.
-/
import Derived.Maps.OwnSet
import Derived.Maps.OwnIn
import Derived.Sort.KeysCollected
import Derived.RangeFuncMany
import Derived.RangeFuncLeaves
import Derived.RangeFuncGives
import Derived.Sort.MapsRangeIn
import Derived.OwnWalkIn
import Derived.TacticsInMore
import Derived.RegionIn
import Derived.LoopNIn
import Derived.LoopIn
import Derived.Shelf.Abstract
import Derived.Test.YtknmnhleicakhaaGreatDoorPtPutA
import Derived.RangeFuncBound
set_option linter.all false
set_option maxHeartbeats 16000000
set_option maxRecDepth 100000
namespace Go.Proofs.YtknmnhleicakhaaGreatDoor
open Go.Proofs.Tryz
open Go.RowKit Go.Maps Go.ChangeMaps
def HR (v:Value):Option (DataW Value×List MemPlace):=some (.held v,[])
def OM (P:Program) (kt:TypeId) (w:World) (b n:Nat) (f:Zlu->Option Value):Prop :=
 ∃D:DataW Value,w.ownsMap P kt HR b n D/\∀k,Maps.has D (.string k)=(f k).isSome/\∀v,f k=some v->∀z,D.atKey (.string k) z=.held v
def putF (f:Zlu->Option Value) (s:Zlu) (v:Value):Zlu->Option Value:=fun k=>if k=s then some v else f k
def delF (f:Zlu->Option Value) (s:Zlu):Zlu->Option Value:=fun k=>if k=s then none else f k
section
variable {P:Program} {t kt e:TypeId} {w:World} {b n:Nat} {f:Zlu->Option Value}
theorem OM.made (w:World) (P:Program) (kt:TypeId):OM P kt (w.alloc (.map #[] 0)) w.heap.size 0 (fun _=>none) :=
 ⟨.map [],World.ownsMap_made w P kt HR,fun k=>⟨rfl,fun v h=>by cases h⟩⟩
theorem OM.lt (h:OM P kt w b n f):b<w.heap.size:=by obtain⟨D,h1,_⟩:=h;exact h1.lt
theorem OM.kept {w':World} {row:Option Nat} (h:OM P kt w b n f) (hg:w.grownBy w' row) (hne:some b≠row):OM P kt w' b n f:=by
 obtain⟨D,h1,h2⟩:=h
 exact⟨D,h1.kept hg hne,h2⟩
theorem OM.below {w':World} (h:OM P kt w b n f) (hb:Below w.heap.size w w'):OM P kt w' b n f :=
 h.kept (row:=none) ⟨hb.os,hb.tape,hb.output,hb.size,fun k hk _=>hb.block k hk⟩ (fun h=>by cases h)
theorem OM.mono (h:OM P kt w b n f) {m:Nat} (hm:n<=m):OM P kt w b m f:=by
 obtain⟨D,h1,h2⟩:=h
 exact⟨D,h1.mono hm,h2⟩
theorem wv3 (hk:P.underlying kt=some .string) {s:Zba} (hs:s.size<=maxLen):keyOf P kt (.string s)=some (.string s.data.toList):=by
 simp[keyOf,hk,mapKey,hs]
theorem OM.look (h:OM P kt w b n f) (ht:P.underlying t=some (.map kt e)) (hk:P.underlying kt=some .string) {z:Value} (hz:(zeroValue e).run P w=.ok z w) {s:Zba} (hs:s.size<=maxLen) :
  (Instr.lookup t (.map (some b)) (.string s) true).run P w=.ok (.tuple #[(f s.data.toList).getD z,.bool (f s.data.toList).isSome]) w:=by
 obtain⟨D,h1,h2⟩:=h
 obtain⟨v,ps,hr,hv⟩:=h1.look_ok (string_keyed hk) ht hz (zd:=.held z) (zp:=[]) rfl (wv3 hk hs)
 obtain⟨a1,a2⟩:=h2 s.data.toList
 rw[hr,a1]
 unfold HR at hv
 cases hf:f s.data.toList with
 | none =>
  rw[hf] at a1
  rw[atKey_of_not_has (by rw[a1];rfl)] at hv
  simp at hv
  rw[hv.1];rfl
 | some x =>
  rw[a2 x hf] at hv
  simp at hv
  rw[hv.1];rfl
theorem OM.store (h:OM P kt w b n f) (ht:P.underlying t=some (.map kt e)) (hk:P.underlying kt=some .string) (hn:n<maxLen) {s:Zba} (hs:s.size<=maxLen) (v:Value) :
  ∃w',(Instr.mapUpdate t (.map (some b)) (.string s) v).run P w=.ok () w'/\OM P kt w' b (n+1) (putF f s.data.toList v)/\w.grownBy w' (some b):=by
 obtain⟨D,h1,h2⟩:=h
 obtain⟨w',hr,h3,h4⟩:=h1.store (string_keyed hk) ht hn (wv3 hk hs) (val:=v) (d:=.held v) (ps:=[]) rfl
 refine⟨w',hr,⟨_,h3,fun k=>?_⟩,h4.grown⟩
 unfold putF
 by_cases he:k=s.data.toList
 ·subst he
  rw[if_pos rfl]
  refine⟨has_put_same h1.isMap (k:=.string s.data.toList) trivial _,fun v' hv z=>?_⟩
  injection hv with hv
  rw[<- hv]
  exact atKey_put_same h1.isMap (k:=.string s.data.toList) trivial _ z
 ·rw[if_neg he]
  have hne:(Lit.string k)≠.string s.data.toList:=fun hh=>he (by injection hh)
  rw[has_put_other hne]
  refine⟨(h2 k).1,fun v' hv z=>?_⟩
  rw[atKey_put_other hne]
  exact(h2 k).2 v' hv z
theorem OM.drop (h:OM P kt w b n f) (ht:P.underlying t=some (.map kt e)) (hk:P.underlying kt=some .string) {s:Zba} (hs:s.size<=maxLen) (ty:TypeId) :
  ∃w',(Builtin.delete_ #[t,kt] ty #[.map (some b),.string s]).run P w=.ok (.tuple #[]) w'/\OM P kt w' b n (delF f s.data.toList)/\w.grownBy w' (some b):=by
 obtain⟨D,h1,h2⟩:=h
 obtain⟨w',hr,h3,h4⟩:=h1.drop (string_keyed hk) ht (wv3 hk hs) ty
 refine⟨w',hr,⟨_,h3,fun k=>?_⟩,h4.grown⟩
 unfold delF
 by_cases he:k=s.data.toList
 ·subst he
  rw[if_pos rfl]
  exact⟨has_del_same,fun v' hv z=>by cases hv⟩
 ·rw[if_neg he]
  have hne:(Lit.string k)≠.string s.data.toList:=fun hh=>he (by injection hh)
  rw[has_del_other hne]
  refine⟨(h2 k).1,fun v' hv z=>?_⟩
  rw[atKey_del_other hne]
  exact(h2 k).2 v' hv z
end
section
variable {F:Fence} {nF:Nat} {P:Program} {ops:Array Oper} {rest:List Oper} {op:Oper} {a:Act} {Q:Exit->Act->World->Prop} {w:World}
theorem wpListIn_store_blk (hgd:op.guard=none) (ty:TypeId) (x y:Operand) (ho:op.op=.store ty x y) (g:Nat) (hx:a.eval x=zse g) (t:TypeId) (cs cs':Array Value) (hb:Blk w g t cs)
  (hy:a.eval y=.agg cs') (hi:(P.info? ty).map (·.size)=some cs'.size) (hs:cs.size=cs'.size) (h1:cs'.all (·.oneCell')=true)
  (h:wpListIn F nF P ops Q rest (a.put op.dst undef) (w.setRow g cs')):wpListIn F nF P ops Q (op::rest) a w:=by
 refine wpListIn_plain hgd fun _ hK=>?_
 unfold Oper.wpIn
 refine⟨by simp[Oper.about,ho],?_⟩
 rw[Oper.semAt_plain F _ _ (by rw[ho];intro c hc';cases hc')]
 simp only[execOp,ho,hx,hy,Instr.storeAt,Instr.sureAddr,Sem.run_bind,Sem.run_pure,Result.andThen_ok,run_storeVar_row w g t ty cs cs' hb hi hs h1]
 exact hK _ _ h
theorem wpListIn_store_new (hgd:op.guard=none) (ty:TypeId) (x y:Operand) (ho:op.op=.store ty x y) (hx:a.eval x=zse w.heap.size) (t:TypeId) (cs cs':Array Value)
  (hy:a.eval y=.agg cs') (hi:(P.info? ty).map (·.size)=some cs'.size) (hs:cs.size=cs'.size) (h1:cs'.all (·.oneCell')=true)
  (h:wpListIn F nF P ops Q rest (a.put op.dst undef) (w.alloc (.cells cs' t))):wpListIn F nF P ops Q (op::rest) a (w.alloc (.cells cs t)) :=
 wpListIn_store_blk hgd ty x y ho w.heap.size hx t cs cs' (Blk.new w t cs) hy hi hs h1 (by rw[World.setRow_alloc_new];exact h)
theorem wpListIn_load_blk (hgd:op.guard=none) (ty:TypeId) (x:Operand) (ho:op.op=.load ty x) (g:Nat) (hx:a.eval x=zse g) (t:TypeId) (cs:Array Value) (hb:Blk w g t cs)
  (d:TypeDesc) (hu:P.underlying ty=some d) (hd:TypeDesc.isRow d=true) (hi:(P.info? ty).map (·.size)=some cs.size)
  (h:wpListIn F nF P ops Q rest (a.put op.dst (.agg cs)) w):wpListIn F nF P ops Q (op::rest) a w:=by
 refine wpListIn_plain hgd fun _ hK=>?_
 unfold Oper.wpIn
 refine⟨by simp[Oper.about,ho],?_⟩
 rw[Oper.semAt_plain F _ _ (by rw[ho];intro c hc';cases hc')]
 simp only[execOp,ho,hx,Instr.loadAt,Instr.sureAddr,Sem.run_bind,Sem.run_pure,Result.andThen_ok,ujm hb hu hd hi]
 exact hK _ _ h
end
def AllV {α:Type} (f:Zlu->Option α) (xs:List α):Prop :=
 ∃ps:List (Zlu×α),xs=ps.map (·.2)/\(ps.map (·.1)).Nodup/\(∀p∈ps,f p.1=some p.2)/\∀k x,f k=some x->k∈ps.map (·.1)
def rfOf:Code->Option (Code×Code)
 | .seq a b=>(match rfOf a with | some x=>some x | none=>rfOf b)
 | .block _ a=>rfOf a
 | .rangeFunc _ _ a c=>some (a,c)
 | _=>none
theorem uvn {W W':World} {row:Option Nat} {base:Nat} {e:TypeId} {size:Nat} {v:Value} {k:Nat} {xs:List Value} (h:W.ownsRow base e size v k xs) (hg:W.grownBy W' row)
  (hrow:∀r,row=some r->∃o:Obj,W.heap[r]?=some o/\o.isWalk=true):W'.ownsRow base e size v k xs:=by
 refine h.kept hg ?_
 rcases h.2 with⟨rfl,_⟩ | ⟨g,cap,cur,rfl,_,hgb,_⟩
 ·exact .inl rfl
 ·refine .inr fun e'=>?_
  obtain⟨o,ho,hw⟩:=hrow g (by simpa[Value.ownBlock] using e'.symm)
  rw[hgb] at ho;cases ho;cases hw
theorem uq4 (W:World) (l:Nat) (o:Obj):W.grownBy (W.putObj l o) (some l) :=
 ⟨rfl,rfl,rfl,by simp,fun k _ hk=>World.putObj_heap_other (fun e=>hk (by rw[e]))⟩
theorem ukf (W:World) (b:Nat) (v:Value):W.grownBy (W.setCell ⟨b,0,none⟩ v) (some b) :=
 ⟨rfl,rfl,rfl,(KeepsWalks.setCell W _ v).size,fun k _ hk=>Below.heap_setCell _ _ _ k (fun e=>hk (by rw[e]))⟩
theorem uxj {W:World} {base:Nat} {e:TypeId} {size:Nat} {v:Value} {k:Nat} {xs:List Value} (h:W.ownsRow base e size v k xs) {j:Nat} {o:Obj} (hj:W.heap[j]?=some o) (hno:∀cur,o≠.cells cur e (0,0)) :
  v.ownBlock=none\/v.ownBlock≠some j:=by
 rcases h.2 with⟨rfl,_⟩ | ⟨g,cap,cur,rfl,_,hgb,_⟩
 ·exact .inl rfl
 ·refine .inr fun e'=>?_
  have:g=j:=by simpa[Value.ownBlock] using e'
  subst this;rw[hgb] at hj;cases hj;exact hno cur rfl
theorem uzn {W:World} {B:Nat} {v:Value} {t:TypeId} (h:W.heap[B]?=some (.cells #[v] t (0,0))):W.cell? ⟨B,0,none⟩=some v/\W.frozen? ⟨B,0,none⟩=false:=by
 constructor <;> simp[World.cell?,World.frozen?,h]
theorem ukg {W:World} {B:Nat} {v:Value} {t:TypeId} (v':Value) (h:W.heap[B]?=some (.cells #[v] t (0,0))):(W.setCell ⟨B,0,none⟩ v').heap[B]?=some (.cells #[v'] t (0,0)):=by
 obtain⟨hlt,hk⟩:=Array.getElem?_eq_some_iff.1 h
 show(W.heap.modify B _)[B]?=_
 rw[Array.getElem?_eq_getElem (by rw[Array.size_modify];exact hlt),Array.getElem_modify_self,hk]
 rfl
theorem ukk {W:World} {base:Nat} {e:TypeId} {size:Nat} {v:Value} {k:Nat} {xs:List Value} (h:W.ownsRow base e size v k xs):∀(j:Nat) (o:Obj),v.ownBlock=some j->W.heap[j]?=some o->o.isWalk=false:=by
 intro j o hj ho
 rcases h.2 with⟨rfl,_⟩ | ⟨g,cap,cur,rfl,_,hgb,_⟩
 ·simp[Value.ownBlock] at hj
 ·have:g=j:=by simpa[Value.ownBlock] using hj
  subst this;rw[hgb] at ho;cases ho;rfl
theorem uv8 {F:Fence} {n:Nat} {P:Program} {A A':Code} {Q:Exit->Act->World->Prop} {a:Act} {w:World} (h:A'=A) (hw:Code.wpIn F n P A' Q a w):Code.wpIn F n P A Q a w:=h ▸ hw
theorem vjh (w:World) (cs:List Value) (t:TypeId):∀(j:Nat) (u:Value),cs[j]?=some u->(w.alloc (.cells cs.toArray t)).cell? ((⟨w.heap.size,0,none⟩:Addr).add j)=some u:=by
 intro j u hj
 have:=(Blk.new w t cs.toArray).cell j
 rw[show((⟨w.heap.size,0,none⟩:Addr).add j)=⟨w.heap.size,j,none⟩ from by simp[Addr.add,eq_comm]]
 rw[this]
 simpa using hj
theorem sValJ1 {p:Prop} (h:p:=by
 obtain⟨D0,hown,hD⟩:=hown
 have hsz:=hown.size_le
 have law:Keyed prog 9 := string_keyed underlying9
 have hzd:=Z1
 refine callsIn_of_wp Z2 rfl hF ?_ hro
 simp only[Z3,List.size_toArray,List.length_cons,List.length_nil,Nat.reduceAdd,Nat.reduceSub,Array.replicate_succ,Array.replicate_zero,List.push_toArray,List.append_toArray,List.nil_append,List.cons_append]
 gi_wp2_with (first
  | (gi_at_range;refine wpListIn_range_own _ rfl _ Z4 rfl 9 Z5 law Z6 _ b nn _ rfl hown ?_;intro w0 hrg0 hg0 hs0)
  | gi_in)
 try go_frame
 gi_loopw [4] (fun _ wr=>∃(left:Lit->Bool) (cnt:Nat) (ps:List (Zlu×Z7)),wr.ranges prog 9 HR b W.heap.size nn D0 left cnt/\ps.length+cnt<=Maps.size D0/\Collected D0 left (ps.map (·.1))/\(∀p∈ps,f p.1=some p.2)/\J (ps.map (·.2)) wr)
  (fun _ wr=>wr.rangeLeft b W.heap.size)
 case atStart =>
  exact⟨_,_,[],hrg0,by simp,Collected.start D0,by simp,hJ [] W w0 none h0 hg0 (fun r e=>by cases e)⟩
 case round =>
  obtain⟨left,cnt,ps,hrg,hcs,hC,hV,hJs⟩:=hrel
  gi_wp2_with (first
   | (gi_at_next;refine wpListIn_next_ranges _ rfl _ rfl 9 law HR encStr id (fun key kl hk=>by obtain⟨x,hx,_⟩:=Maps.keyOf_str underlying9 hk;exact⟨x,hx⟩) (fun v _ _=>⟨v,rfl⟩) b W.heap.size nn _ _ _ rfl hrg ?_ ?_)
   | gi_in)
  ·
   intro hc0 hl0
   gi_wp2
   go_end0
   refine⟨⟨_,rfl⟩,_,⟨ps,rfl,hC.1,hV,fun k x hk=>?_⟩,hJs⟩
   refine(hC.2 k).2 ⟨?_,hl0 _⟩
   rw[(hD k).1,hk];rfl
  ·
   intro x c kl yd yp w2 cnt2 hkey hlk hv hat hrg2 hlt hg2 hs2 hen
   obtain⟨x',ex,rfl,_⟩:=Maps.keyOf_str underlying9 hkey
   obtain rfl:x=x':=encStr_inj ex
   obtain rfl:yd=.held c:=by unfold HR at hv;simp at hv;exact hv.1.symm
   have hh:=Maps.has_true_of_atKey hat
   rw[(hD x).1] at hh
   obtain⟨y,hy⟩:∃y,f x=some y:=by
    cases hf:f x with
    | none=>rw[hf] at hh;simp at hh
    | some y=>exact⟨y,rfl⟩
   obtain rfl:c=Value.agg (Z8 y):=by
    have h1:=(hD x).2 _ (by rw[hy];rfl) (.nil)
    have h2:=hat .nil
    rw[h1] at h2
    injection h2 with h2
    exact h2.symm
   try simp only[id] at hen ⊢
   have hJ2:J (ps.map (·.2)) w2:=hJ _ wr w2 (some W.heap.size) hJs hg2 (fun r e=>by cases e;exact⟨zra _,hrg.iter_walk⟩)
   obtain⟨w3,hw3⟩:∃w3,w2.alloc (.cells (Z8 y) Z5)=w3:=⟨_,rfl⟩
   have hg3:w2.grownBy w3 none:=by rw[<- hw3];exact⟨rfl,rfl,rfl,by simp,fun k hk _=>Below.heap_alloc _ _ k hk⟩
   have hJ3:J (ps.map (·.2)) w3:=hJ _ w2 w3 none hJ2 hg3 (fun r e=>by cases e)
   have hb3:Blk w3 w2.heap.size Z5 (Z8 y):=by rw[<- hw3];exact Blk.new w2 _ _
   have hk3:KeepsWalks w2 w3:=by rw[<- hw3];exact KeepsWalks.alloc _ _
   obtain⟨fn,tmps,assign,body,hy',hR⟩:=hY (ps.map (·.2)) y w3 hJ3 (by simp;(first | omega | (simp only[Z4,Z5] at *;omega)))
   clear hs2 hkey hv
   gi_wp2_with (first
    | (refine wpListIn_store_new rfl _ _ _ rfl rfl _ _ (Z8 y) rfl Z9 rfl rfl ?_;rw[hw3])
    | (refine wpListIn_load_blk rfl _ _ rfl w2.heap.size rfl _ (Z8 y) hb3 _ Z10 rfl Z9 ?_)
    | gi_in)
   refine hR.mono ?_
   have hC2:Collected D0 (fun z=>left z && !z.sameKey (.string x)) ((ps++[(x,y)]).map (·.1)):=by simpa using hC.step hlk hat
   have hV2:∀p∈ps++[(x,y)],f p.1=some p.2:=fun p hp=>(List.mem_append.1 hp).elim (hV p) (fun e=>by simp at e;subst e;exact hy)
   rintro e W3 ⟨rfl,hJ4,hk4⟩
   gi_wp2
   have hrg3:=hrg2.of_walks (hk3.trans hk4)
   go_roundw
   case rel=>exact⟨_,cnt2,ps++[(x,y)],hrg3,by simp;(first | omega | (simp only[Z4,Z5] at *;omega)),hC2,hV2,by simpa using hJ4⟩
   case measure=>rw[hrg3.left_eq,hrg.left_eq];exact hlt):p:=h
@[simp] abbrev cValJ0J:Nat:=203
@[simp] abbrev cValJ0N:Nat:=204
@[simp] abbrev cValJ0L:Nat:=252
@[simp] abbrev cValJ1J:Nat:=38
@[simp] abbrev cValJ1N:Nat:=40
@[simp] abbrev cValJ1L:Nat:=42
section
open Go.RowKit Go.Maps Go.Sort Go.Shelf
open YtknmnhleicakhaaGreatDoor renaming vjd -> Z1, cValJ0J -> Z4, cValJ1J -> Z5, JobD -> Z7, rwJ -> Z8, uqo -> Z9
open Go.Proofs.Tryz renaming func176 -> Z2, ntmps176 -> Z3, underlying203 -> Z6, underlying38 -> Z10
theorem valuesJ_in (F:Fence) (n:Nat) (hF:F.fn 176) (hro:F.round=none) (hn:1<=n) (l Bm b nn:Nat) (f:Zlu->Option JobD) (J:List JobD->World->Prop)
  (hY:∀pre x W,J pre W->pre.length<nn->YieldAt F (n-1) prog l #[Value.agg (rwJ x)] W fun e W'=>e=.returned (.bool true)/\J (pre++[x]) W'/\KeepsWalks W W')
  (W:World) (hJ:AbidesFrom W.heap.size J) (hm:W.cell? ⟨Bm,0,none⟩=some (.map (some b))) (hown:OM prog 9 W b nn (fun k=>(f k).map fun x=>Value.agg (rwJ x))) (h0:J [] W) :
  CallsIn F n prog 176 #[.func (.yield l) #[] #[],zse Bm] W fun e W'=>(∃v,e=.returned v)/\∃xs,AllV f xs/\J xs W':=sValJ1
end
section
open Go.RowKit Go.Maps Go.Sort Go.Shelf
open YtknmnhleicakhaaGreatDoor renaming vje -> Z1, cValJ0N -> Z4, cValJ1N -> Z5, NodeD -> Z7, rwN -> Z8, uqk -> Z9
open Go.Proofs.Tryz renaming func180 -> Z2, ntmps180 -> Z3, underlying204 -> Z6, underlying40 -> Z10
theorem valuesN_in (F:Fence) (n:Nat) (hF:F.fn 180) (hro:F.round=none) (hn:1<=n) (l Bm b nn:Nat) (f:Zlu->Option NodeD) (J:List NodeD->World->Prop)
  (hY:∀pre x W,J pre W->pre.length<nn->YieldAt F (n-1) prog l #[Value.agg (rwN x)] W fun e W'=>e=.returned (.bool true)/\J (pre++[x]) W'/\KeepsWalks W W')
  (W:World) (hJ:AbidesFrom W.heap.size J) (hm:W.cell? ⟨Bm,0,none⟩=some (.map (some b))) (hown:OM prog 9 W b nn (fun k=>(f k).map fun x=>Value.agg (rwN x))) (h0:J [] W) :
  CallsIn F n prog 180 #[.func (.yield l) #[] #[],zse Bm] W fun e W'=>(∃v,e=.returned v)/\∃xs,AllV f xs/\J xs W':=sValJ1
end
section
open Go.RowKit Go.Maps Go.Sort Go.Shelf
open YtknmnhleicakhaaGreatDoor renaming uyp -> Z1, cValJ0L -> Z4, cValJ1L -> Z5, uqb -> Z7, rwL -> Z8, uqj -> Z9
open Go.Proofs.Tryz renaming func183 -> Z2, ntmps183 -> Z3, underlying252 -> Z6, underlying42 -> Z10
theorem valuesL_in (F:Fence) (n:Nat) (hF:F.fn 183) (hro:F.round=none) (hn:1<=n) (l Bm b nn:Nat) (f:Zlu->Option uqb) (J:List uqb->World->Prop)
  (hY:∀pre x W,J pre W->pre.length<nn->YieldAt F (n-1) prog l #[Value.agg (rwL x)] W fun e W'=>e=.returned (.bool true)/\J (pre++[x]) W'/\KeepsWalks W W')
  (W:World) (hJ:AbidesFrom W.heap.size J) (hm:W.cell? ⟨Bm,0,none⟩=some (.map (some b))) (hown:OM prog 9 W b nn (fun k=>(f k).map fun x=>Value.agg (rwL x))) (h0:J [] W) :
  CallsIn F n prog 183 #[.func (.yield l) #[] #[],zse Bm] W fun e W'=>(∃v,e=.returned v)/\∃xs,AllV f xs/\J xs W':=sValJ1
end
theorem oColJ4 {p:Prop} (h:p:=by first | omega | (simp only[Z1,Z2,Z7,Z12] at *;omega)):p:=h
theorem sColJ4 {p:Prop} (h:p:=by
  have hne:Z1≠Z2:=by decide
  have hzd:=Z3
  obtain⟨i0,hi,hz0,hz1,hz2⟩:=info_parts Z4
  obtain⟨v,hv,hrow,_⟩:=h.box
  refine⟨fn,#[.slice none 0 0,sv,zse Bs,undef,.slice none 0 0,undef,sv,Value.agg (Z5 x),undef,undef,undef,undef,undef],A,B,by simpa[Z6] using run_yield (P:=prog) (args:=#[Value.agg (Z5 x)]) h.L rfl,roundIn_of_wpIn hfn ?_⟩
  have hl:l<W.heap.size:=(Array.getElem?_eq_some_iff.1 h.L).1
  obtain⟨Wa,hWa⟩:∃Wa,W.alloc (.cells (Z5 x) Z2)=Wa:=⟨_,rfl⟩
  have hga:W.grownBy Wa none:=by rw[<- hWa];exact⟨rfl,rfl,rfl,by simp,fun k hk _=>Below.heap_alloc _ _ k hk⟩
  have hka:KeepsWalks W Wa:=by rw[<- hWa];exact KeepsWalks.alloc _ _
  have hva:Wa.heap[Bs]?=some (.cells #[v] Z1 (0,0)):=(hga.block Bs (Array.getElem?_eq_some_iff.1 hv).1 (by simp)).trans hv
  have hKa:Wa.heap[D]?=some (.deferred (some [])):=(hga.block D (Array.getElem?_eq_some_iff.1 h.K).1 (by simp)).trans h.K
  have hLa:Wa.heap[l]?=some (.loop (Z6 A B fn sv Bs D .ready none)):=(hga.block l hl (by simp)).trans h.L
  have hrowa:Wa.ownsRow w0.heap.size Z2 Z7 v ss.length (ss.map Z8).flatten:=by rw[<- hWa];exact hrow.alloc _
  have hba:Below w0.heap.size w0 Wa:=by rw[<- hWa];exact h.below.alloc h.below.size _
  have bxa:Blk Wa W.heap.size Z2 (Z5 x):=by rw[<- hWa];exact Blk.new W _ _
  have hbr:=run_beginRound (P:=prog) hLa rfl
  obtain⟨W2,hW2⟩:∃W2,Wa.putObj l (.loop { Z6 A B fn sv Bs D .ready none with state:=.busy })=W2:=⟨_,rfl⟩
  rw[hW2] at hbr
  have hg2:Wa.grownBy W2 (some l):=by rw[<- hW2];exact uq4 _ _ _
  have hk2:KeepsWalks W W2:=hka.trans (by rw[<- hW2];exact KeepsWalks.putObj _ hLa rfl)
  have hv2:W2.heap[Bs]?=some (.cells #[v] Z1 (0,0)):=by rw[<- hW2];exact(World.putObj_heap_other hBl).trans hva
  have hK2:W2.heap[D]?=some (.deferred (some [])):=by rw[<- hW2];exact(World.putObj_heap_other hDl).trans hKa
  have hL2:W2.heap[l]?=some (.loop { Z6 A B fn sv Bs D .ready none with state:=.busy }):=by rw[<- hW2];exact World.putObj_heap_same (Array.getElem?_eq_some_iff.1 hLa).1
  have hrow2:W2.ownsRow w0.heap.size Z2 Z7 v ss.length (ss.map Z8).flatten:=hrowa.kept hg2 (uxj hrowa hLa (fun cur e=>by first | cases e | exact hne (Obj.cells.inj e).2.1))
  have hb2:Below w0.heap.size w0 W2:=hba.grown hg2 hba.size (fun k e=>by cases e;exact h0l)
  have bx2:Blk W2 W.heap.size Z2 (Z5 x):=(hg2.block W.heap.size bxa.lt (by intro e;injection e with e;exact oColJ4)).trans bxa
  obtain⟨hc2,hf2⟩:=uzn hv2
  have hBlt:Bs<W2.heap.size:=(Array.getElem?_eq_some_iff.1 hv2).1
  have hl2:l<W2.heap.size:=(Array.getElem?_eq_some_iff.1 hL2).1
  have hDlt:D<W2.heap.size:=(Array.getElem?_eq_some_iff.1 hK2).1
  have ne_of:∀{j:Nat} {o:Obj},W2.heap[j]?=some o->(∀cur,o≠.cells cur Z2 (0,0))->some j≠v.ownBlock:=fun hj hno=>by
    rcases uxj hrow2 hj hno with e | e
    · rw[e];simp
    · exact fun e'=>e e'.symm
  clear hW2 hv
  have hAB':=hAB
  simp only[rfOf,Z9,Option.getD] at hAB'
  have hA1:=congrArg (fun x=>(x.getD (.ret,.ret)).1) hAB'
  have hB1:=congrArg (fun x=>(x.getD (.ret,.ret)).2) hAB'
  simp only[Option.getD_some] at hA1 hB1
  have HB:=zrj hB1
  clear hAB'
  refine uv8 hA1 ?_
  clear hA1 hB1
  gi_wp2_with (first
    | (refine wpListIn_store_new rfl _ _ _ rfl rfl _ _ (Z5 x) rfl Z10 rfl rfl ?_;rw[hWa])
    | (rw[Oper.semAt_eq _ _ _ (fun c h=>by cases h)];go_simp;try go_bits))
  refine uv8 HB.out ?_
  clear HB
  gi_wp2_with (first
    | (refine wpListIn_load_blk rfl _ _ rfl W.heap.size rfl _ (Z5 x) bx2 _ Z11 rfl Z10 ?_)
    | (gi_at_builtin;refine wpListIn_append_own _ rfl _ _ Z1 rfl w0.heap.size Z2 i0 _ Z7 Z12 Z13 hi hz0 hz1 hz2 rfl (by decide) _ _ _ rfl (hrow2.alloc _) ⟨W2.heap.size,0,none⟩ 1 1 (Z8 x) rfl rfl (vjh _ (Z8 x) _) (by intro u hu;simp[Z8] at hu;rcases hu with rfl | rfl | rfl | rfl | rfl <;> rfl) (by exact oColJ4) (by exact oColJ4) (by have:=hb2.size;simp;exact oColJ4) ?_;intro v' w3 hown' hg3 hnil3
       have hv3:w3.heap[Bs]?=some (.cells #[v] Z1 (0,0)):=(hg3.block Bs (by simp;exact oColJ4) (ne_of hv2 (fun cur e=>by first | cases e | exact hne (Obj.cells.inj e).2.1))).trans ((Below.heap_alloc _ _ Bs hBlt).trans hv2)
       obtain⟨hc3,hf3⟩:=uzn hv3
       obtain⟨g',cap',cur',rfl,hbase',hgb',hr1,hr2,hr3,hr4⟩:∃g' cap' cur',v'=.slice (some ⟨g',0,none⟩) (ss.length+1) cap'/\w0.heap.size<=g'/\w3.heap[g']?=some (.cells cur' Z2 (0,0))/\ss.length+1<=cap'/\cap'<=maxLen/\cur'.size=cap'*Z7/\cur'.toList.take ((ss.length+1)*Z7)=(ss.map Z8).flatten++Z8 x:=by
         rcases hown'.2 with⟨_,h0⟩ | h'
         · exact absurd h0 (by exact oColJ4)
         · exact h'
       go_frame)
    | (rw[Oper.semAt_eq _ _ _ (fun c h=>by cases h)];go_simp;try go_bits))
  have hg3':(W2.alloc (.cells (Z8 x).toArray Z2)).grownBy w3 v.ownBlock:=hg3
  have hL3:w3.heap[l]?=some (.loop { Z6 A B fn sv Bs D .ready none with state:=.busy }):=(hg3'.block l (by simp;exact oColJ4) (ne_of hL2 (fun cur e=>by first | cases e | exact hne (Obj.cells.inj e).2.1))).trans ((Below.heap_alloc _ _ l hl2).trans hL2)
  have hK3:w3.heap[D]?=some (.deferred (some [])):=(hg3'.block D (by simp;exact oColJ4) (ne_of hK2 (fun cur e=>by first | cases e | exact hne (Obj.cells.inj e).2.1))).trans ((Below.heap_alloc _ _ D hDlt).trans hK2)
  obtain⟨w4,hw4⟩:∃w4,w3.setCell ⟨Bs,0,none⟩ (.slice (some ⟨g',0,none⟩) (ss.length+1) cap')=w4:=⟨_,rfl⟩
  rw[hw4]
  have hg4:w3.grownBy w4 (some Bs):=by rw[<- hw4];exact ukf _ _ _
  have hv4:w4.heap[Bs]?=some (.cells #[.slice (some ⟨g',0,none⟩) (ss.length+1) cap'] Z1 (0,0)):=by rw[<- hw4];exact ukg _ hv3
  have hL4:w4.heap[l]?=some (.loop { Z6 A B fn sv Bs D .ready none with state:=.busy }):=(hg4.block l (Array.getElem?_eq_some_iff.1 hL3).1 (fun e=>hBl (by cases e;rfl))).trans hL3
  have hK4:w4.heap[D]?=some (.deferred (some [])):=(hg4.block D (Array.getElem?_eq_some_iff.1 hK3).1 (fun e=>hDB (by cases e;rfl))).trans hK3
  have hrow4:=hown'.kept hg4 (uxj hown' hv3 (fun cur e=>by first | cases e | exact hne (Obj.cells.inj e).2.1))
  have hl4:l<w4.heap.size:=(Array.getElem?_eq_some_iff.1 hL4).1
  have hb3:Below w0.heap.size w0 w3:=(hb2.alloc hb2.size _).grown hg3' (by have:=hb2.size;simp;exact oColJ4) (fun k e=>(hrow2.lt k e).1)
  have hb4:Below w0.heap.size w0 w4:=hb3.grown hg4 hb3.size (fun k e=>by cases e;exact h0B)
  have hk4:KeepsWalks W w4:=((hk2.trans (KeepsWalks.alloc _ _)).trans (KeepsWalks.of_grownBy hg3' (ukk (hrow2.alloc _)))).trans (by rw[<- hw4];exact KeepsWalks.setCell _ _ _)
  clear hw4
  refine⟨_,_,run_endRound none hL4,rfl,⟨⟨_,(World.putObj_heap_other hBl).trans hv4,?_,by simp⟩,World.putObj_heap_same hl4,(World.putObj_heap_other hDl).trans hK4,hb4.grown (uq4 _ _ _) hb4.size (fun k e=>by cases e;exact h0l)⟩,hk4.trans (KeepsWalks.putObj _ hL4 rfl)⟩
  have:=hrow4.kept (uq4 w4 l (.loop { { Z6 A B fn sv Bs D .ready none with state:=.busy } with state:=if(none:Option Code).isNone then .ready else .done,pending:=none })) (uxj hrow4 hL4 (fun cur e=>by first | cases e | exact hne (Obj.cells.inj e).2.1))
  simpa using this):p:=h
@[simp] abbrev cColJ0J:Nat:=22
@[simp] abbrev cColJ0N:Nat:=23
@[simp] abbrev cColJ0L:Nat:=24
@[simp] abbrev cColJ1J:Nat:=38
@[simp] abbrev cColJ1N:Nat:=40
@[simp] abbrev cColJ1L:Nat:=42
@[simp] abbrev cColJ2J:Nat:=5
@[simp] abbrev cColJ2N:Nat:=3
@[simp] abbrev cColJ2L:Nat:=3
@[simp] abbrev cColJ3J:Nat:=56
@[simp] abbrev cColJ3N:Nat:=40
@[simp] abbrev cColJ3L:Nat:=40
section
open Go.RowKit Go.Maps Go.Sort Go.Shelf
def uvk (A B:Code) (fn:FuncId) (sv:Value) (Bs D:Nat) (st:LoopState) (pend:Option Code):Loop :=
  { state:=st,pending:=pend,fn,tmps:=#[.slice none 0 0,sv,zse Bs,undef,.slice none 0 0,undef,sv,undef,undef,undef,undef,undef,undef],params:=#[7],assign:=A,body:=B,defers:=D }
structure wxv (A B:Code) (w0:World) (fn:FuncId) (sv:Value) (Bs l D:Nat) (ss:List JobD) (W:World):Prop where
  box:∃v,W.heap[Bs]?=some (.cells #[v] 22 (0,0))/\W.ownsRow w0.heap.size 38 5 v ss.length (ss.map rowJ).flatten/\(v=.slice none 0 0↔ss=[])
  L:W.heap[l]?=some (.loop (uvk A B fn sv Bs D .ready none))
  K:W.heap[D]?=some (.deferred (some []))
  below:Below w0.heap.size w0 W
theorem wk0 (A B:Code) (w0:World) (fn:FuncId) (sv:Value) (Bs l D Bb:Nat) (hB:w0.heap.size<=Bb):AbidesFrom Bb (wxv A B w0 fn sv Bs l D):=fun s W W' row h hg hrow=>by
  have hrow':∀r,row=some r->∃o:Obj,W.heap[r]?=some o/\o.isWalk=true:=fun r e=>(hrow r e).2
  obtain⟨v,hv,hr,hn⟩:=h.box
  exact⟨⟨v,(grownBy_keeps hg hrow' hv rfl).trans hv,uvn hr hg hrow',hn⟩,(grownBy_keeps hg hrow' h.L rfl).trans h.L,(grownBy_keeps hg hrow' h.K rfl).trans h.K,
    h.below.grown hg h.below.size (fun k e=>zrc hB (hrow k e).1)⟩
open YtknmnhleicakhaaGreatDoor renaming cColJ0J -> Z1, cColJ1J -> Z2, vjd -> Z3, uve -> Z4, rwJ -> Z5, uvk -> Z6, cColJ2J -> Z7, rowJ -> Z8, uqo -> Z10, cColJ3J -> Z12
open Go.Proofs.Tryz renaming f202 -> Z9, underlying38 -> Z11, underlying22 -> Z13
theorem xj6 (A B:Code) (hAB:rfOf (Tryz.f202.body.getD .ret)=some (A,B)) (F:Fence) (m:Nat) (w0:World) (fn:FuncId) (hfn:F.fn fn) (sv:Value) (Bs l D:Nat) (hBl:Bs≠l) (hDl:D≠l) (hDB:D≠Bs) (h0B:w0.heap.size<=Bs) (h0l:w0.heap.size<=l)
    (N:Nat) (hN:N<=maxLen) (hNb:N*56<=140737488355328) (ss:List JobD) (x:JobD) (W:World) (h:wxv A B w0 fn sv Bs l D ss W) (hlen:ss.length<N) :
    YieldAt F m prog l #[Value.agg (rwJ x)] W fun e W'=>e=.returned (.bool true)/\wxv A B w0 fn sv Bs l D (ss++[x]) W'/\KeepsWalks W W':=sColJ4
end
section
open Go.RowKit Go.Maps Go.Sort Go.Shelf
def uvm (A B:Code) (fn:FuncId) (sv:Value) (Bs D:Nat) (st:LoopState) (pend:Option Code):Loop :=
  { state:=st,pending:=pend,fn,tmps:=#[.slice none 0 0,sv,zse Bs,undef,.slice none 0 0,undef,sv,undef,undef,undef,undef,undef,undef],params:=#[7],assign:=A,body:=B,defers:=D }
structure wxx (A B:Code) (w0:World) (fn:FuncId) (sv:Value) (Bs l D:Nat) (ss:List NodeD) (W:World):Prop where
  box:∃v,W.heap[Bs]?=some (.cells #[v] 23 (0,0))/\W.ownsRow w0.heap.size 40 3 v ss.length (ss.map rowN).flatten/\(v=.slice none 0 0↔ss=[])
  L:W.heap[l]?=some (.loop (uvm A B fn sv Bs D .ready none))
  K:W.heap[D]?=some (.deferred (some []))
  below:Below w0.heap.size w0 W
theorem wk2 (A B:Code) (w0:World) (fn:FuncId) (sv:Value) (Bs l D Bb:Nat) (hB:w0.heap.size<=Bb):AbidesFrom Bb (wxx A B w0 fn sv Bs l D):=fun s W W' row h hg hrow=>by
  have hrow':∀r,row=some r->∃o:Obj,W.heap[r]?=some o/\o.isWalk=true:=fun r e=>(hrow r e).2
  obtain⟨v,hv,hr,hn⟩:=h.box
  exact⟨⟨v,(grownBy_keeps hg hrow' hv rfl).trans hv,uvn hr hg hrow',hn⟩,(grownBy_keeps hg hrow' h.L rfl).trans h.L,(grownBy_keeps hg hrow' h.K rfl).trans h.K,
    h.below.grown hg h.below.size (fun k e=>zrc hB (hrow k e).1)⟩
open YtknmnhleicakhaaGreatDoor renaming cColJ0N -> Z1, cColJ1N -> Z2, vje -> Z3, uj7 -> Z4, rwN -> Z5, uvm -> Z6, cColJ2N -> Z7, rowN -> Z8, uqk -> Z10, cColJ3N -> Z12
open Go.Proofs.Tryz renaming f205 -> Z9, underlying40 -> Z11, underlying23 -> Z13
theorem xj8 (A B:Code) (hAB:rfOf (Tryz.f205.body.getD .ret)=some (A,B)) (F:Fence) (m:Nat) (w0:World) (fn:FuncId) (hfn:F.fn fn) (sv:Value) (Bs l D:Nat) (hBl:Bs≠l) (hDl:D≠l) (hDB:D≠Bs) (h0B:w0.heap.size<=Bs) (h0l:w0.heap.size<=l)
    (N:Nat) (hN:N<=maxLen) (hNb:N*40<=140737488355328) (ss:List NodeD) (x:NodeD) (W:World) (h:wxx A B w0 fn sv Bs l D ss W) (hlen:ss.length<N) :
    YieldAt F m prog l #[Value.agg (rwN x)] W fun e W'=>e=.returned (.bool true)/\wxx A B w0 fn sv Bs l D (ss++[x]) W'/\KeepsWalks W W':=sColJ4
end
section
open Go.RowKit Go.Maps Go.Sort Go.Shelf
def uvl (A B:Code) (fn:FuncId) (sv:Value) (Bs D:Nat) (st:LoopState) (pend:Option Code):Loop :=
  { state:=st,pending:=pend,fn,tmps:=#[.slice none 0 0,sv,zse Bs,undef,.slice none 0 0,undef,sv,undef,undef,undef,undef,undef,undef],params:=#[7],assign:=A,body:=B,defers:=D }
structure wxw (A B:Code) (w0:World) (fn:FuncId) (sv:Value) (Bs l D:Nat) (ss:List uqb) (W:World):Prop where
  box:∃v,W.heap[Bs]?=some (.cells #[v] 24 (0,0))/\W.ownsRow w0.heap.size 42 3 v ss.length (ss.map rowL).flatten/\(v=.slice none 0 0↔ss=[])
  L:W.heap[l]?=some (.loop (uvl A B fn sv Bs D .ready none))
  K:W.heap[D]?=some (.deferred (some []))
  below:Below w0.heap.size w0 W
theorem wk1 (A B:Code) (w0:World) (fn:FuncId) (sv:Value) (Bs l D Bb:Nat) (hB:w0.heap.size<=Bb):AbidesFrom Bb (wxw A B w0 fn sv Bs l D):=fun s W W' row h hg hrow=>by
  have hrow':∀r,row=some r->∃o:Obj,W.heap[r]?=some o/\o.isWalk=true:=fun r e=>(hrow r e).2
  obtain⟨v,hv,hr,hn⟩:=h.box
  exact⟨⟨v,(grownBy_keeps hg hrow' hv rfl).trans hv,uvn hr hg hrow',hn⟩,(grownBy_keeps hg hrow' h.L rfl).trans h.L,(grownBy_keeps hg hrow' h.K rfl).trans h.K,
    h.below.grown hg h.below.size (fun k e=>zrc hB (hrow k e).1)⟩
open YtknmnhleicakhaaGreatDoor renaming cColJ0L -> Z1, cColJ1L -> Z2, uyp -> Z3, ujl -> Z4, rwL -> Z5, uvl -> Z6, cColJ2L -> Z7, rowL -> Z8, uqj -> Z10, cColJ3L -> Z12
open Go.Proofs.Tryz renaming f207 -> Z9, underlying42 -> Z11, underlying24 -> Z13
theorem xj7 (A B:Code) (hAB:rfOf (Tryz.f207.body.getD .ret)=some (A,B)) (F:Fence) (m:Nat) (w0:World) (fn:FuncId) (hfn:F.fn fn) (sv:Value) (Bs l D:Nat) (hBl:Bs≠l) (hDl:D≠l) (hDB:D≠Bs) (h0B:w0.heap.size<=Bs) (h0l:w0.heap.size<=l)
    (N:Nat) (hN:N<=maxLen) (hNb:N*40<=140737488355328) (ss:List uqb) (x:uqb) (W:World) (h:wxw A B w0 fn sv Bs l D ss W) (hlen:ss.length<N) :
    YieldAt F m prog l #[Value.agg (rwL x)] W fun e W'=>e=.returned (.bool true)/\wxw A B w0 fn sv Bs l D (ss++[x]) W'/\KeepsWalks W W':=sColJ4
end
theorem oClcJ1 {p:Prop} (h:p:=by first | omega | (simp only[Z1,Z2] at *;omega)):p:=h
theorem sClcJ1 {p:Prop} (h:p:=by
 have h1:1<=n:=by exact oClcJ1
 have hne:Z1≠Z2:=by decide
 obtain⟨A,B,hAB⟩:∃A B,rfOf (Z3.body.getD .ret)=some (A,B):=⟨_,_,rfl⟩
 have hAB':=hAB
 simp only[rfOf,Z3,Option.getD] at hAB'
 have hA1:=congrArg (fun x=>(x.getD (.ret,.ret)).1) hAB'
 have hB1:=congrArg (fun x=>(x.getD (.ret,.ret)).2) hAB'
 simp only[Option.getD_some] at hA1 hB1
 clear hAB'
 have HA1:=zrj hA1
 have HB1:=zrj hB1
 have HAB:=zrj hAB
 clear hAB hA1 hB1
 refine callsIn_of_wp_marks Z4 rfl h11 ?_ hro
 simp only[Z5,List.size_toArray,List.length_cons,List.length_nil,Nat.reduceAdd,Nat.reduceSub,Array.replicate_succ,Array.replicate_zero,List.push_toArray,List.append_toArray,List.nil_append,List.cons_append]
 gi_wp2
 refine wpIn_rangeFunc ?_
 rw[HA1.out,HB1.out]
 intro fn hfn
 rw[hro]
 obtain⟨W0,hW0⟩:∃W0,w.alloc (.cells #[.slice none 0 0] Z1)=W0:=⟨_,rfl⟩
 have hs0:W0.heap.size=w.heap.size+1:=by rw[<- hW0];simp
 have hv0:W0.heap[w.heap.size]?=some (.cells #[.slice none 0 0] Z1 (0,0)):=by rw[<- hW0];exact World.alloc_heap_new w _
 have hb0:Below w.heap.size w W0:=by rw[<- hW0];exact(zri _ w).alloc (zra _) _
 rw[hW0]
 obtain⟨W1,hW1⟩:∃W1,(W0.alloc (.deferred (some []))).alloc (.loop (Z6 A B fn (.func (.func g) #[] lb) w.heap.size W0.heap.size .ready none))=W1:=⟨_,rfl⟩
 have hold:∀k,k<W0.heap.size->W1.heap[k]?=W0.heap[k]?:=fun k hk=>by
  rw[<- hW1];exact(Below.heap_alloc _ _ k (by simp;exact oClcJ1)).trans (Below.heap_alloc _ _ k hk)
 have hb1:Below w.heap.size w W1:=by rw[<- hW1];exact(hb0.alloc hb0.size _).alloc (by have:=hb0.size;simp;exact oClcJ1) _
 have hs1:W1.heap.size=W0.heap.size+2:=by rw[<- hW1];simp
 have hM:Z7 A B w fn (.func (.func g) #[] lb) w.heap.size (W0.heap.size+1) W0.heap.size [] W1 :=
  ⟨⟨_,(hold w.heap.size (by exact oClcJ1)).trans hv0,⟨rfl,.inl ⟨rfl,rfl⟩⟩,by simp⟩,
   by rw[<- hW1];have:=World.alloc_heap_new (W0.alloc (.deferred (some []))) (.loop (Z6 A B fn (.func (.func g) #[] lb) w.heap.size W0.heap.size .ready none));rwa [World.size_alloc] at this,
   by rw[<- hW1];exact(Below.heap_alloc _ _ _ (by simp)).trans (World.alloc_heap_new W0 _),hb1⟩
 refine⟨W0.heap.size+1,[{ target:=.collected W0.heap.size,args:=#[] }],W1,{ target:=.fn (.func g) lb,args:=#[.func (.yield (W0.heap.size+1)) #[] #[]] },W1,g,
  #[.func (.yield (W0.heap.size+1)) #[] #[]]++lb,W1,?_,?_,?_,?_,fun _=>h1,?_⟩
 ·rw[<- hW1];exact run_enterLoop_outer _ _ _ _ _
 ·simp[resolve,go_sem]
 ·intro f' hf';simp[Target.leads] at hf';subst hf';exact hFg
 ·simp[invoke,go_sem,eg]
 ·refine(hseq (W0.heap.size+1) (Z7 A B w fn (.func (.func g) #[] lb) w.heap.size (W0.heap.size+1) W0.heap.size) W1 hb1 (Z8 A B _ _ _ _ _ _ _ hb1.size)
   (fun pre x W hJ hl=>Z9 A B HAB.out F (n-1-1) w fn hfn _ w.heap.size (W0.heap.size+1) W0.heap.size (by exact oClcJ1) (by exact oClcJ1) (by exact oClcJ1) (zra _) (by exact oClcJ1) N hN hNb pre x W hJ hl) hM).mono ?_
  rintro e W2 ⟨⟨v0,rfl⟩,ss,hS,h2⟩
  obtain⟨v,hv,hrow,hnil⟩:=h2.box
  have hend:=run_endLoop (P:=prog) h2.L (by simp[Z6])
  obtain⟨W3,hW3⟩:∃W3,W2.putObj (W0.heap.size+1) (.loop { Z6 A B fn (.func (.func g) #[] lb) w.heap.size W0.heap.size .ready none with state:=.exhausted })=W3:=⟨_,rfl⟩
  rw[hW3] at hend
  have hg3:W2.grownBy W3 (some (W0.heap.size+1)):=by rw[<- hW3];exact uq4 _ _ _
  have hv3:W3.heap[w.heap.size]?=some (.cells #[v] Z1 (0,0)):=by rw[<- hW3];exact(World.putObj_heap_other (by exact oClcJ1)).trans hv
  have hK3:W3.heap[W0.heap.size]?=some (.deferred (some [])):=by rw[<- hW3];exact(World.putObj_heap_other (by exact oClcJ1)).trans h2.K
  have hrow3:=hrow.kept hg3 (uxj hrow h2.L (fun cur e=>by first | cases e | exact hne (Obj.cells.inj e).2.1))
  have hb3:Below w.heap.size w W3:=h2.below.grown hg3 h2.below.size (fun k e=>by cases e;exact oClcJ1)
  obtain⟨hc3,hf3⟩:=uzn hv3
  clear hW3
  refine⟨none,W3,hend,?_⟩
  gi_wp2
  rw[<- hs0]
  refine⟨by simp,.inl ⟨_,_,rfl,run_takeDeferred hK3,?_⟩⟩
  exact⟨_,results_tmp rfl _ _ _,v,ss,rfl,hS,hrow3.kept (uq4 _ _ _) (uxj hrow3 hK3 (fun cur e=>by first | cases e | exact hne (Obj.cells.inj e).2.1)),hnil,hb3.grown (uq4 _ _ _) hb3.size (fun k e=>by cases e;exact oClcJ1)⟩):p:=h
theorem sClcJ2 {p:Prop} (h:p:=by
 have h1:1<=n:=by omega
 refine callsIn_of_wp Z10 rfl h8 ?_ hro
 simp only[Z11,List.size_toArray,List.length_cons,List.length_nil,Nat.reduceAdd,Nat.reduceSub,Array.replicate_succ,Array.replicate_zero,List.push_toArray,List.append_toArray,List.nil_append,List.cons_append]
 gi_wp2_with fail
 refine(Z12 F (n-1) h11 hro (by omega) g lb hFg eg S N hN hNb _ hseq).mono ?_
 rintro e w' ⟨v,ss,rfl,hS,hrow,hnil,hb⟩
 gi_wp2_with fail
 go_ret
 exact⟨v,ss,rfl,hS,hrow,hnil,hb⟩):p:=h
theorem sClcJ3 {p:Prop} (h:p:=by
 go_enter Z13,Z14
 go_wp2_with fail
 go_ret
 exact⟨rfl,rfl⟩):p:=h
@[simp] abbrev cClcJ0J:Nat:=22
@[simp] abbrev cClcJ0N:Nat:=23
@[simp] abbrev cClcJ0L:Nat:=24
@[simp] abbrev cClcJ1J:Nat:=38
@[simp] abbrev cClcJ1N:Nat:=40
@[simp] abbrev cClcJ1L:Nat:=42
section
open Go.RowKit Go.Maps Go.Sort Go.Shelf
open YtknmnhleicakhaaGreatDoor renaming cClcJ0J -> Z1, cClcJ1J -> Z2, uvk -> Z6, wxv -> Z7, wk0 -> Z8, xj6 -> Z9
open Go.Proofs.Tryz renaming f202 -> Z3, func202 -> Z4, ntmps202 -> Z5
theorem appJ_in (F:Fence) (n:Nat) (h11:F.fn 202) (hro:F.round=none) (hn:2<=n) (g:Nat) (lb:Array Value) (hFg:F.fn g) (eg:∀args w,(callFunc g args).run prog w=.ok (.enter g args) w)
  (S:List JobD->Prop) (N:Nat) (hN:N<=maxLen) (hNb:N*56<=140737488355328) (w:World) (hseq:SeqGives F (n-1) prog g lb (fun x:JobD=>Value.agg (rwJ x)) S N w) :
  CallsIn F n prog 202 #[.slice none 0 0,.func (.func g) #[] lb] w fun e w'=>∃(v:Value) (ss:List JobD),e=.returned v/\S ss/\w'.ownsRow w.heap.size 38 5 v ss.length (ss.map rowJ).flatten/\(v=.slice none 0 0↔ss=[])/\Below w.heap.size w w':=sClcJ1
open YtknmnhleicakhaaGreatDoor renaming appJ_in -> Z12
open Go.Proofs.Tryz renaming func174 -> Z10, ntmps174 -> Z11
theorem wk3 (F:Fence) (n:Nat) (h8:F.fn 174) (h11:F.fn 202) (hro:F.round=none) (hn:3<=n) (g:Nat) (lb:Array Value) (hFg:F.fn g) (eg:∀args w,(callFunc g args).run prog w=.ok (.enter g args) w)
  (S:List JobD->Prop) (N:Nat) (hN:N<=maxLen) (hNb:N*56<=140737488355328) (w:World) (hseq:SeqGives F (n-1-1) prog g lb (fun x:JobD=>Value.agg (rwJ x)) S N w) :
  CallsIn F n prog 174 #[.func (.func g) #[] lb] w fun e w'=>∃(v:Value) (ss:List JobD),e=.returned v/\S ss/\w'.ownsRow w.heap.size 38 5 v ss.length (ss.map rowJ).flatten/\(v=.slice none 0 0↔ss=[])/\Below w.heap.size w w':=sClcJ2
open Go.Proofs.Tryz renaming func136 -> Z13, ntmps136 -> Z14
theorem ww7 (mb:Option Nat) (w:World) :
  Calls prog 136 #[.map mb] w fun e w'=>e=.returned (.func (.func 176) #[] #[zse w.heap.size])/\w'=w.alloc (.cells #[.map mb] 203):=sClcJ3
theorem wxr (F:Fence) (n:Nat) (hF:F.fn 176) (hro:F.round=none) (hn:1<=n) (Bm b nn:Nat) (f:Zlu->Option JobD) (w:World) (hBm:Bm<w.heap.size) (hm:w.cell? ⟨Bm,0,none⟩=some (.map (some b))) (hown:OM prog 9 w b nn (fun k=>(f k).map fun x=>Value.agg (rwJ x))) :
  SeqGives F n prog 176 #[zse Bm] (fun x:JobD=>Value.agg (rwJ x)) (AllV f) nn w:=fun l J W hW hJ hY h0 =>
 valuesJ_in F n hF hro hn l Bm b nn f J hY W hJ ((hW.cell (p:=⟨Bm,0,none⟩) hBm).trans hm) (hown.below hW) h0
theorem wzg (Bm b nn:Nat) (f:Zlu->Option JobD) (w:World) (hBm:Bm<w.heap.size) (hm:w.cell? ⟨Bm,0,none⟩=some (.map (some b))) (hown:OM prog 9 w b nn (fun k=>(f k).map fun x=>Value.agg (rwJ x))) (hnn:nn<=1000000000) :
  Calls prog 174 #[.func (.func 176) #[] #[zse Bm]] w fun e w'=>∃(v:Value) (ss:List JobD),e=.returned v/\(AllV f ss/\ss.length<=nn)/\w'.ownsRow w.heap.size 38 5 v ss.length (ss.map rowJ).flatten/\(v=.slice none 0 0↔ss=[])/\Below w.heap.size w w' :=
 (wk3 Fence.wide 4 trivial trivial rfl (by decide) 176 _ trivial (fun args w=>by kernel_rfl) _ nn (by unfold maxLen;omega) (by omega) w
  (wxr Fence.wide 2 trivial rfl (by decide) Bm b nn f w hBm hm hown).bounded).calls room_wide
end
section
open Go.RowKit Go.Maps Go.Sort Go.Shelf
open YtknmnhleicakhaaGreatDoor renaming cClcJ0N -> Z1, cClcJ1N -> Z2, uvm -> Z6, wxx -> Z7, wk2 -> Z8, xj8 -> Z9
open Go.Proofs.Tryz renaming f205 -> Z3, func205 -> Z4, ntmps205 -> Z5
theorem appN_in (F:Fence) (n:Nat) (h11:F.fn 205) (hro:F.round=none) (hn:2<=n) (g:Nat) (lb:Array Value) (hFg:F.fn g) (eg:∀args w,(callFunc g args).run prog w=.ok (.enter g args) w)
  (S:List NodeD->Prop) (N:Nat) (hN:N<=maxLen) (hNb:N*40<=140737488355328) (w:World) (hseq:SeqGives F (n-1) prog g lb (fun x:NodeD=>Value.agg (rwN x)) S N w) :
  CallsIn F n prog 205 #[.slice none 0 0,.func (.func g) #[] lb] w fun e w'=>∃(v:Value) (ss:List NodeD),e=.returned v/\S ss/\w'.ownsRow w.heap.size 40 3 v ss.length (ss.map rowN).flatten/\(v=.slice none 0 0↔ss=[])/\Below w.heap.size w w':=sClcJ1
open YtknmnhleicakhaaGreatDoor renaming appN_in -> Z12
open Go.Proofs.Tryz renaming func178 -> Z10, ntmps178 -> Z11
theorem wk5 (F:Fence) (n:Nat) (h8:F.fn 178) (h11:F.fn 205) (hro:F.round=none) (hn:3<=n) (g:Nat) (lb:Array Value) (hFg:F.fn g) (eg:∀args w,(callFunc g args).run prog w=.ok (.enter g args) w)
  (S:List NodeD->Prop) (N:Nat) (hN:N<=maxLen) (hNb:N*40<=140737488355328) (w:World) (hseq:SeqGives F (n-1-1) prog g lb (fun x:NodeD=>Value.agg (rwN x)) S N w) :
  CallsIn F n prog 178 #[.func (.func g) #[] lb] w fun e w'=>∃(v:Value) (ss:List NodeD),e=.returned v/\S ss/\w'.ownsRow w.heap.size 40 3 v ss.length (ss.map rowN).flatten/\(v=.slice none 0 0↔ss=[])/\Below w.heap.size w w':=sClcJ2
open Go.Proofs.Tryz renaming func140 -> Z13, ntmps140 -> Z14
theorem ww9 (mb:Option Nat) (w:World) :
  Calls prog 140 #[.map mb] w fun e w'=>e=.returned (.func (.func 180) #[] #[zse w.heap.size])/\w'=w.alloc (.cells #[.map mb] 204):=sClcJ3
theorem wxt (F:Fence) (n:Nat) (hF:F.fn 180) (hro:F.round=none) (hn:1<=n) (Bm b nn:Nat) (f:Zlu->Option NodeD) (w:World) (hBm:Bm<w.heap.size) (hm:w.cell? ⟨Bm,0,none⟩=some (.map (some b))) (hown:OM prog 9 w b nn (fun k=>(f k).map fun x=>Value.agg (rwN x))) :
  SeqGives F n prog 180 #[zse Bm] (fun x:NodeD=>Value.agg (rwN x)) (AllV f) nn w:=fun l J W hW hJ hY h0 =>
 valuesN_in F n hF hro hn l Bm b nn f J hY W hJ ((hW.cell (p:=⟨Bm,0,none⟩) hBm).trans hm) (hown.below hW) h0
theorem wzi (Bm b nn:Nat) (f:Zlu->Option NodeD) (w:World) (hBm:Bm<w.heap.size) (hm:w.cell? ⟨Bm,0,none⟩=some (.map (some b))) (hown:OM prog 9 w b nn (fun k=>(f k).map fun x=>Value.agg (rwN x))) (hnn:nn<=1000000000) :
  Calls prog 178 #[.func (.func 180) #[] #[zse Bm]] w fun e w'=>∃(v:Value) (ss:List NodeD),e=.returned v/\(AllV f ss/\ss.length<=nn)/\w'.ownsRow w.heap.size 40 3 v ss.length (ss.map rowN).flatten/\(v=.slice none 0 0↔ss=[])/\Below w.heap.size w w' :=
 (wk5 Fence.wide 4 trivial trivial rfl (by decide) 180 _ trivial (fun args w=>by kernel_rfl) _ nn (by unfold maxLen;omega) (by omega) w
  (wxt Fence.wide 2 trivial rfl (by decide) Bm b nn f w hBm hm hown).bounded).calls room_wide
end
section
open Go.RowKit Go.Maps Go.Sort Go.Shelf
open YtknmnhleicakhaaGreatDoor renaming cClcJ0L -> Z1, cClcJ1L -> Z2, uvl -> Z6, wxw -> Z7, wk1 -> Z8, xj7 -> Z9
open Go.Proofs.Tryz renaming f207 -> Z3, func207 -> Z4, ntmps207 -> Z5
theorem appL_in (F:Fence) (n:Nat) (h11:F.fn 207) (hro:F.round=none) (hn:2<=n) (g:Nat) (lb:Array Value) (hFg:F.fn g) (eg:∀args w,(callFunc g args).run prog w=.ok (.enter g args) w)
  (S:List uqb->Prop) (N:Nat) (hN:N<=maxLen) (hNb:N*40<=140737488355328) (w:World) (hseq:SeqGives F (n-1) prog g lb (fun x:uqb=>Value.agg (rwL x)) S N w) :
  CallsIn F n prog 207 #[.slice none 0 0,.func (.func g) #[] lb] w fun e w'=>∃(v:Value) (ss:List uqb),e=.returned v/\S ss/\w'.ownsRow w.heap.size 42 3 v ss.length (ss.map rowL).flatten/\(v=.slice none 0 0↔ss=[])/\Below w.heap.size w w':=sClcJ1
open YtknmnhleicakhaaGreatDoor renaming appL_in -> Z12
open Go.Proofs.Tryz renaming func181 -> Z10, ntmps181 -> Z11
theorem wk4 (F:Fence) (n:Nat) (h8:F.fn 181) (h11:F.fn 207) (hro:F.round=none) (hn:3<=n) (g:Nat) (lb:Array Value) (hFg:F.fn g) (eg:∀args w,(callFunc g args).run prog w=.ok (.enter g args) w)
  (S:List uqb->Prop) (N:Nat) (hN:N<=maxLen) (hNb:N*40<=140737488355328) (w:World) (hseq:SeqGives F (n-1-1) prog g lb (fun x:uqb=>Value.agg (rwL x)) S N w) :
  CallsIn F n prog 181 #[.func (.func g) #[] lb] w fun e w'=>∃(v:Value) (ss:List uqb),e=.returned v/\S ss/\w'.ownsRow w.heap.size 42 3 v ss.length (ss.map rowL).flatten/\(v=.slice none 0 0↔ss=[])/\Below w.heap.size w w':=sClcJ2
open Go.Proofs.Tryz renaming func143 -> Z13, ntmps143 -> Z14
theorem ww8 (mb:Option Nat) (w:World) :
  Calls prog 143 #[.map mb] w fun e w'=>e=.returned (.func (.func 183) #[] #[zse w.heap.size])/\w'=w.alloc (.cells #[.map mb] 252):=sClcJ3
theorem wxs (F:Fence) (n:Nat) (hF:F.fn 183) (hro:F.round=none) (hn:1<=n) (Bm b nn:Nat) (f:Zlu->Option uqb) (w:World) (hBm:Bm<w.heap.size) (hm:w.cell? ⟨Bm,0,none⟩=some (.map (some b))) (hown:OM prog 9 w b nn (fun k=>(f k).map fun x=>Value.agg (rwL x))) :
  SeqGives F n prog 183 #[zse Bm] (fun x:uqb=>Value.agg (rwL x)) (AllV f) nn w:=fun l J W hW hJ hY h0 =>
 valuesL_in F n hF hro hn l Bm b nn f J hY W hJ ((hW.cell (p:=⟨Bm,0,none⟩) hBm).trans hm) (hown.below hW) h0
theorem wzh (Bm b nn:Nat) (f:Zlu->Option uqb) (w:World) (hBm:Bm<w.heap.size) (hm:w.cell? ⟨Bm,0,none⟩=some (.map (some b))) (hown:OM prog 9 w b nn (fun k=>(f k).map fun x=>Value.agg (rwL x))) (hnn:nn<=1000000000) :
  Calls prog 181 #[.func (.func 183) #[] #[zse Bm]] w fun e w'=>∃(v:Value) (ss:List uqb),e=.returned v/\(AllV f ss/\ss.length<=nn)/\w'.ownsRow w.heap.size 42 3 v ss.length (ss.map rowL).flatten/\(v=.slice none 0 0↔ss=[])/\Below w.heap.size w w' :=
 (wk4 Fence.wide 4 trivial trivial rfl (by decide) 183 _ trivial (fun args w=>by kernel_rfl) _ nn (by unfold maxLen;omega) (by omega) w
  (wxs Fence.wide 2 trivial rfl (by decide) Bm b nn f w hBm hm hown).bounded).calls room_wide
end
end Go.Proofs.YtknmnhleicakhaaGreatDoor
