/- Lemmas.
-/
import Derived.Test.YtknmnhleicakhaaGreatDoorPtMapA
import Derived.Shelf.SlSortCmp.NoneTotal
import Derived.Sort.OwnSorted
import Derived.Test.YtknmnhleicakhaaGreatDoorSort
set_option linter.all false
set_option maxHeartbeats 16000000
set_option maxRecDepth 100000
namespace Go.Proofs.YtknmnhleicakhaaGreatDoor
open Go.Proofs.Tryz
theorem sCmpJ1 {p:Prop} (h:p:=by
 have hs1:=zsb w (.cells (Z1 x) Z2)
 have hb0:Grw w ((w.alloc (.cells (Z1 x) Z2)).alloc (.cells (Z1 y) Z2)):=⟨((zri _ _).alloc (zra _) _).alloc (by(first | omega | (simp only[Z2,Z3] at *;omega))) _,zra _⟩
 have bx0:=(Blk.new w Z2 (Z1 x)).alloc (.cells (Z1 y) Z2)
 have by0:=Blk.new (w.alloc (.cells (Z1 x) Z2)) Z2 (Z1 y)
 rw[hs1] at by0
 clear hs1
 have hk0:∀W,Grw ((w.alloc (.cells (Z1 x) Z2)).alloc (.cells (Z1 y) Z2)) W->W.cell? ⟨gk,0,none⟩=some (.func (.func Z3) #[] #[]):=fun W hW=>by
  have h2:Below w.heap.size w W:=hb0.1.trans (hW.1.mono hb0.1.size)
  exact(h2.cell (p:=⟨gk,0,none⟩) hlt).trans hk
 have HK:=zrj hk0
 clear hk0 hk
 go_enter Z4,Z5
 go_wp2_with fail
 generalize(w.alloc _).alloc _=w0 at *
 refine uy8 (by kernel_rfl) (by kernel_rfl) ?_
 repeat(first
  | (refine uqt (by first | rfl | kernel_rfl) _ _ rfl ⟨w.heap.size,0,none⟩ rfl (Z6 x) _ (fun w5 hw5=>At.blk (bx0.below hw5.1 bx0.lt)) Z7 rfl Z8 ?_;simp only[Act.put,ma,mb,mc])
  | (refine uqt (by first | rfl | kernel_rfl) _ _ rfl ⟨w.heap.size+1,0,none⟩ rfl (Z6 y) _ (fun w5 hw5=>At.blk (by0.below hw5.1 by0.lt)) Z7 rfl Z8 ?_;simp only[Act.put,ma,mb,mc])
  | (apply uxs;(focus (first | rfl | kernel_rfl));(focus (intro w5 hw5;have hk5:=HK.out w5 hw5;unfold Oper.quietAt;go_simp;first | rfl | exact⟨rfl,rfl⟩ | (with_reducible refine(Z9 x w5).mono ?_;rintro e w8 ⟨rfl,rfl⟩;exact⟨rfl,Grw.step hw5 ((zri _ _).alloc (zra _) _) (zra _)⟩) | (with_reducible refine(Z9 y w5).mono ?_;rintro e w8 ⟨rfl,rfl⟩;exact⟨rfl,Grw.step hw5 ((zri _ _).alloc (zra _) _) (zra _)⟩) | (with_reducible refine(ukv (Z10 x) (Z10 y) w5).mono ?_;rintro e w8 ⟨rfl,rfl⟩;exact⟨rfl,hw5⟩)));simp only[Act.put,ma,mb,mc]))
 refine wpQuiet_nil ?_
 intro w7 hw7
 have hb7:Grw w w7:=⟨hb0.1.trans (hw7.1.mono hb0.1.size),zrc hb0.2 hw7.2⟩
 go_wp2_with fail
 go_ret
 exact⟨rfl,hb7⟩):p:=h
@[simp] abbrev cCmpJ0J:Nat:=38
@[simp] abbrev cCmpJ0N:Nat:=40
@[simp] abbrev cCmpJ0L:Nat:=42
@[simp] abbrev cCmpJ1J:Nat:=91
@[simp] abbrev cCmpJ1N:Nat:=93
@[simp] abbrev cCmpJ1L:Nat:=95
section
open Go.RowKit
open YtknmnhleicakhaaGreatDoor renaming rwJ -> Z1, cCmpJ0J -> Z2, cCmpJ1J -> Z3, rlJ -> Z6, uqo -> Z8, uyb -> Z9, JobD.name -> Z10
open Go.Proofs.Tryz renaming func137 -> Z4, ntmps137 -> Z5, underlying38 -> Z7
theorem cmpJ_any (gk:Nat) (x y:JobD) (w:World) (hk:w.cell? ⟨gk,0,none⟩=some (.func (.func 91) #[] #[])) (hlt:gk<w.heap.size) :
  Calls prog 137 #[.agg (rwJ x),.agg (rwJ y),zse gk] w fun e w'=>e=.returned (.int .i64 (cmpB x.name y.name))/\Grw w w':=sCmpJ1
end
section
open Go.RowKit
open YtknmnhleicakhaaGreatDoor renaming rwN -> Z1, cCmpJ0N -> Z2, cCmpJ1N -> Z3, rlN -> Z6, uqk -> Z8, uyd -> Z9, NodeD.name -> Z10
open Go.Proofs.Tryz renaming func141 -> Z4, ntmps141 -> Z5, underlying40 -> Z7
theorem cmpN_any (gk:Nat) (x y:NodeD) (w:World) (hk:w.cell? ⟨gk,0,none⟩=some (.func (.func 93) #[] #[])) (hlt:gk<w.heap.size) :
  Calls prog 141 #[.agg (rwN x),.agg (rwN y),zse gk] w fun e w'=>e=.returned (.int .i64 (cmpB x.name y.name))/\Grw w w':=sCmpJ1
end
section
open Go.RowKit
open YtknmnhleicakhaaGreatDoor renaming rwL -> Z1, cCmpJ0L -> Z2, cCmpJ1L -> Z3, rlL -> Z6, uqj -> Z8, uyc -> Z9, uqb.job -> Z10
open Go.Proofs.Tryz renaming func144 -> Z4, ntmps144 -> Z5, underlying42 -> Z7
theorem cmpL_any (gk:Nat) (x y:uqb) (w:World) (hk:w.cell? ⟨gk,0,none⟩=some (.func (.func 95) #[] #[])) (hlt:gk<w.heap.size) :
  Calls prog 144 #[.agg (rwL x),.agg (rwL y),zse gk] w fun e w'=>e=.returned (.int .i64 (cmpB x.job y.job))/\Grw w w':=sCmpJ1
end
open Go.RowKit Go.Maps Go.Sort Go.Shelf
section
variable {α:Type} [Inhabited α]
theorem wq1 (enc:α->List Value) (k:Nat) (hk:∀x,(enc x).length=k):∀(l:List α) (t:Nat),t<l.length*k->(l.map enc).flatten[t]?=some ((enc l[t / k]!)[t % k]!)
 | [],t,h=>by simp at h
 | x::r,t,h=>by
  have k0:0<k:=Nat.pos_of_ne_zero (fun e=>by subst e;simp at h)
  rw[List.map_cons,List.flatten_cons]
  by_cases ht:t<k
  ·rw[List.getElem?_append_left (by rw[hk];exact ht),Nat.div_eq_of_lt ht,Nat.mod_eq_of_lt ht]
   have:t<(enc x).length:=by rw[hk];exact ht
   simp[this]
  ·rw[List.getElem?_append_right (by rw[hk];omega),hk,wq1 enc k hk r (t-k) (by simp only[List.length_cons,Nat.succ_mul] at h;omega)]
   have h1:t / k=(t-k) / k+1:=by rw[Nat.div_eq_sub_div k0 (by omega)]
   have h2:t % k=(t-k) % k:=Nat.mod_eq_sub_mod (by omega)
   rw[h1,h2]
   rfl
omit [Inhabited α] in
theorem vvs (enc:α->List Value) (k:Nat) (hk:∀x,(enc x).length=k) (l:List α):(l.map enc).flatten.length=l.length*k:=by
 induction l with
 | nil=>simp
 | cons x r ih=>rw[List.map_cons,List.flatten_cons,zrb,ih,hk,List.length_cons,Nat.succ_mul];omega
theorem xxq (enc:α->List Value) (k:Nat) (hk:∀x,(enc x).length=k) (l:List α):(flatK enc k l.toArray).toList=(l.map enc).flatten:=by
 apply List.ext_getElem?
 intro t
 by_cases h:t<l.length*k
 ·rw[wq1 enc k hk l t h,Array.getElem?_toList,Array.getElem?_eq_getElem (by simpa using h)]
  have:=get_flatK enc k l.toArray t (by simpa using h)
  rw[getElem!_pos _ t (by simpa using h)] at this
  rw[this]
  simp
 ·rw[List.getElem?_eq_none (by simp;omega),List.getElem?_eq_none (by rw[vvs enc k hk];omega)]
theorem uwf {w:World} {g k:Nat} {cur:Array Value} {e:TypeId} {fr:Nat×Nat} (hfr:fr=(0,0)) (enc:α->List Value) (hk:∀x,(enc x).length=k) {l:List α} (hb:w.heap[g]?=some (.cells cur e fr)) (ht:cur.toList.take (l.length*k)=(l.map enc).flatten) :
  HoldsK enc k w g 0 l.toArray:=by
 subst hfr
 intro j hj
 have hj':j<l.length*k:=by simpa using hj
 refine⟨?_,by simp[World.frozen?,hb]⟩
 have h1:(cur.toList.take (l.length*k))[j]?=(l.map enc).flatten[j]?:=by rw[ht]
 rw[List.getElem?_take_of_lt hj'] at h1
 simp only[World.cell?,hb,Nat.zero_add]
 simp only[Option.isSome_none,Bool.false_eq_true,if_false]
 rw[<- Array.getElem?_toList,h1,wq1 enc k hk l j hj']
 have:=get_flatK enc k l.toArray j (by simpa using hj')
 rw[this]
 simp
theorem wjd {w:World} {g n k:Nat} {os:Array Obj} {cur:Array Value} {e:TypeId} {fr:Nat×Nat} (enc:α->List Value) (d:Array α) (hb:w.heap[g]?=some (.cells cur e fr)) :
  (sortWorldK enc k w g 0 n d os).heap[g]?=some (.cells (putCells id 0 (flatK enc k d) cur) e fr):=by
 have hg:g<w.heap.size:=(Array.getElem?_eq_some_iff.1 hb).1
 unfold sortWorldK putRowK
 rw[heap_grow_old _ _ (by simpa using hg)]
 simp[putRow,mapBlock,Sort.ahead,Array.getElem?_modify,hb,onCells]
theorem uz6 {w:World} {g n k:Nat} {os:Array Obj} (enc:α->List Value) (d:Array α):w.grownBy (sortWorldK enc k w g 0 n d os) (some g):=by
 refine⟨rfl,rfl,rfl,by simp[sortWorldK,putRowK],fun j hk hne=>?_⟩
 unfold sortWorldK putRowK
 rw[heap_grow_old _ _ (by simpa using hk)]
 have:g≠j:=fun e=>hne (by rw[e])
 simp[putRow,mapBlock,Sort.ahead,Array.getElem?_modify,this]
theorem vw9 (cur:Array Value) (F:Array Value) (h:F.size<=cur.size):(putCells id 0 F cur).toList.take F.size=F.toList:=by
 apply List.ext_getElem?
 intro j
 by_cases hj:j<F.size
 ·rw[List.getElem?_take_of_lt hj,Array.getElem?_toList]
  simp[putCells,hj,show j<cur.size by omega]
 ·rw[List.getElem?_take_eq_none (by omega),List.getElem?_eq_none (by simp;omega)]
theorem uwh {w:World} {base g cap n k:Nat} {e:TypeId} {os:Array Obj} {cur:Array Value} (enc:α->List Value) (hk:∀x,(enc x).length=k) {ss ts:List α} (hl:ts.length=ss.length) (hbase:base<=g) (hb:w.heap[g]?=some (.cells cur e (0,0)))
  (h1:ss.length<=cap) (h2:cap<=maxLen) (h3:cur.size=cap*k) :
  (sortWorldK enc k w g 0 n ts.toArray os).ownsRow base e k (.slice (some ⟨g,0,none⟩) ss.length cap) ss.length (ts.map enc).flatten:=by
 have hle:ss.length*k<=cap*k:=Nat.mul_le_mul_right k h1
 refine⟨?_,.inr ⟨g,cap,_,rfl,hbase,wjd enc _ hb,h1,h2,by simp[putCells,h3],?_⟩⟩
 ·rw[vvs enc k hk,hl]
 ·have:=vw9 cur (flatK enc k ts.toArray) (by simp[hl];omega)
  rw[size_flatK,xxq enc k hk] at this
  simpa[hl] using this
end
theorem vj0 {α:Type} [Inhabited α] {d d':Array α} (h:PermIn 0 d.size d d'):d'.toList.Perm d.toList:=by
 obtain⟨h1,_,h3⟩:=h
 have e1:d.extract 0 d.size=d:=by simp
 have e2:d'.extract 0 d.size=d':=by rw[<- h1];simp
 rwa [e1,e2] at h3
theorem vqy {α:Type} [Inhabited α] {lt:α->α->Bool} {d':Array α} (h:SortedIn lt 0 d'.size d'):d'.toList.Pairwise fun x y=>lt y x=false:=by
 rw[List.pairwise_iff_getElem]
 intro i j hi hj hij
 have:=h i j (Nat.zero_le _) hij (by simpa using hj)
 rw[getElem!_pos d' i (by simpa using hi),getElem!_pos d' j (by simpa using hj)] at this
 simpa using this
theorem sSrtJ3 {p:Prop} (h:p:=by
  rw[Z1] at *
  rcases ujc (Z2 x) (Z2 y) with h | h | h
  ·rw[h] at h1;cases h1
  ·rw[h];exact h2
  ·rcases ujc (Z2 y) (Z2 z) with h' | h' | h'
   ·rw[h'] at h2;cases h2
   ·rw[<- h'];exact h1
   ·cases hc:ltS (Z2 x) (Z2 z)
    ·rfl
    ·have:=uzx hc h'
     rw[this] at h1;cases h1):p:=h
theorem sSrtJ7 {p:Prop} (h:p:=by
 have hglt:g<w.heap.size:=(Array.getElem?_eq_some_iff.1 hb).1
 have hc:CmpLays prog Z3 #[zse gk] Z4 Z5 Z6 g 0 ss.toArray.size w:=fun m os dk hs x y=>by
  have hk':(sortWorldK Z4 Z5 w g 0 m dk os).cell? ⟨gk,0,none⟩=some (.func (.func Z7) #[] #[]):=by
   rw[cell?_sortWorldK_other Z4 Z5 w g 0 m dk os ⟨gk,0,none⟩ hne hlt];exact hk
  have hlt':gk<(sortWorldK Z4 Z5 w g 0 m dk os).heap.size:=by
   have:=(uz6 (w:=w) (g:=g) (n:=m) (k:=Z5) (os:=os) Z4 dk).size
   (first | omega | (simp only[Z3,Z5,Z7] at *;omega))
  exact(Z8 gk x y _ hk' hlt').mono fun e w' h=>⟨h.1,Grw.is h.2⟩
 have hH:=uwf rfl Z4 Z9 hb ht
 have h:=AnyQ.slices_SortFunc Z10 Z5 (fun w=>by kernel_rfl) (fun w=>by kernel_rfl) Z4 Z9 Z11 Z6 Z12 Z3 #[zse gk] g 0 cap ss.toArray w (fun args w=>by kernel_rfl) hc hH hglt (by simp;(first | omega | (simp only[Z3,Z5,Z7] at *;omega)))
 refine Calls.mono h ?_
 rintro e w' ⟨rfl,d',n,os,hp,hs,rfl⟩
 have hsz:d'.size=ss.toArray.size:=hp.1
 rw[<- hsz] at hs
 refine⟨rfl,d'.toList,n,os,by simpa using vj0 hp,?_,rfl⟩
 exact(vqy hs).imp (fun h=>by rwa [Z1] at h)):p:=h
theorem sSrtJ9 {p:Prop} (h:p:=by
 have HC:=zrj (Z13 Bm b nn f w hBm hm hown hnn)
 clear hm hown
 go_enter Z14,Z15
 go_wp2_with fail
 refine HC.out.mono ?_
 rintro e w1 ⟨v,ss,rfl,⟨hA,hlen⟩,hrow,hnil,hb1⟩
 have hk1:=(hb1.cell (p:=⟨gk,0,none⟩) hlt).trans hk
 have hlt1:gk<w1.heap.size:=Nat.lt_of_lt_of_le hlt hb1.size
 rcases hrow.2 with⟨rfl,hz⟩ | ⟨g,cap,cur,rfl,hbase,hgb,r1,r2,r3,r4⟩
 ·have hss:ss=[]:=List.eq_nil_of_length_eq_zero hz
  subst hss
  go_wp2_with(fail)
  refine(Z16 gk 0 none w1).mono ?_
  rintro e w2 ⟨rfl,rfl⟩
  go_wp2_with(fail)
  go_ret
  exact⟨_,[],[],rfl,hA,.refl _,.nil,hrow,hb1⟩
 ·have HS:=zrj (Z17 gk g cap ss cur w1 hk1 hlt1 (by(first | omega | (simp only[Z5,Z18] at *;omega))) hgb r4 (by(first | omega | (simp only[Z5,Z18] at *;omega))))
  go_wp2_with(fail)
  refine HS.out.mono ?_
  rintro e w2 ⟨rfl,ts,n,os,hp,hs,hw2⟩
  have ho2:w2.ownsRow w.heap.size Z18 Z5 (.slice (some ⟨g,0,none⟩) ss.length cap) ss.length (ts.map Z4).flatten:=by rw[hw2];exact uwh Z4 Z9 hp.length_eq hbase hgb r1 r2 r3
  have hg2:w1.grownBy w2 (some g):=by rw[hw2];exact uz6 _ _
  clear hw2
  go_wp2_with(fail)
  go_ret
  exact⟨_,ss,ts,rfl,hA,hp,hs,by rw[hp.length_eq];exact ho2,hb1.grown hg2 hb1.size (fun j hj=>by cases hj;exact hbase)⟩):p:=h
@[simp] abbrev cSrtJ0J:Nat:=137
@[simp] abbrev cSrtJ0N:Nat:=141
@[simp] abbrev cSrtJ0L:Nat:=144
@[simp] abbrev cSrtJ1J:Nat:=5
@[simp] abbrev cSrtJ1N:Nat:=3
@[simp] abbrev cSrtJ1L:Nat:=3
@[simp] abbrev cSrtJ2J:Nat:=91
@[simp] abbrev cSrtJ2N:Nat:=93
@[simp] abbrev cSrtJ2L:Nat:=95
@[simp] abbrev cSrtJ3J:Nat:=38
@[simp] abbrev cSrtJ3N:Nat:=40
@[simp] abbrev cSrtJ3L:Nat:=42
section
open Go.RowKit Go.Maps Go.Sort Go.Shelf
def cfJ (x y:JobD):Int:=cmpB x.name y.name
theorem wyi (x y:JobD):ltOf cfJ x y=ltS x.name y.name:=wqo _ _
open YtknmnhleicakhaaGreatDoor renaming wyi -> Z1, JobD.name -> Z2
theorem swoJ:SWO (ltOf cfJ) where
 irrefl x:=by rw[wyi];exact uxr _
 trans x y z h1 h2:=by rw[wyi] at *;exact uzx h1 h2
 ntrans x y z h1 h2:=sSrtJ3
theorem vk7 (x:JobD):(rowJ x).length=5:=rfl
theorem rowJ_one (x:JobD):∀v∈rowJ x,v.oneCell'=true:=by
 intro v hv
 simp[rowJ] at hv
 rcases hv with rfl | rfl | rfl | rfl | rfl <;> rfl
instance:Inhabited JobD:=⟨⟨ByteArray.empty,0,0,0,ByteArray.empty⟩⟩
open YtknmnhleicakhaaGreatDoor renaming cSrtJ0J -> Z3, rowJ -> Z4, cSrtJ1J -> Z5, cfJ -> Z6, cSrtJ2J -> Z7, cmpJ_any -> Z8, vk7 -> Z9, rowJ_one -> Z11, swoJ -> Z12
open Go.Proofs.Tryz renaming laysJsort -> Z10
theorem xw7 (gk g cap:Nat) (ss:List JobD) (cur:Array Value) (w:World) (hk:w.cell? ⟨gk,0,none⟩=some (.func (.func 91) #[] #[])) (hlt:gk<w.heap.size) (hne:gk≠g)
  (hb:w.heap[g]?=some (.cells cur 38 (0,0))) (ht:cur.toList.take (ss.length*5)=(ss.map rowJ).flatten) (hl:ss.length<=1000000000) :
  Calls prog 175 #[.slice (some ⟨g,0,none⟩) ss.length cap,.func (.func 137) #[] #[zse gk]] w fun e w' =>
   e=.returned (.tuple #[])/\∃(ts:List JobD) (n:Nat) (os:Array Obj),ts.Perm ss/\ts.Pairwise (fun x y=>ltS y.name x.name=false)/\w'=sortWorldK rowJ 5 w g 0 n ts.toArray os:=sSrtJ7
theorem xz3 (gk cap:Nat) (p:Zoa) (w:World) :
  Calls prog 175 #[.slice p 0 cap,.func (.func 137) #[] #[zse gk]] w fun e w'=>e=.returned (.tuple #[])/\w'=w :=
 AnyF.slices_SortFunc_none Tryz.laysJsort p cap _ w
open YtknmnhleicakhaaGreatDoor renaming wzg -> Z13, xz3 -> Z16, xw7 -> Z17, cSrtJ3J -> Z18
open Go.Proofs.Tryz renaming func135 -> Z14, ntmps135 -> Z15
theorem wwu (gk Bm b nn:Nat) (f:Zlu->Option JobD) (w:World) (hk:w.cell? ⟨gk,0,none⟩=some (.func (.func 91) #[] #[])) (hlt:gk<w.heap.size) (hBm:Bm<w.heap.size) (hm:w.cell? ⟨Bm,0,none⟩=some (.map (some b))) (hown:OM prog 9 w b nn (fun k=>(f k).map fun x=>Value.agg (rwJ x))) (hnn:nn<=1000000000) :
  Calls prog 135 #[.func (.func 176) #[] #[zse Bm],.func (.func 137) #[] #[zse gk]] w fun e w' =>
   ∃(v:Value) (ss ts:List JobD),e=.returned v/\AllV f ss/\ts.Perm ss/\ts.Pairwise (fun x y=>ltS y.name x.name=false)/\w'.ownsRow w.heap.size 38 5 v ts.length (ts.map rowJ).flatten/\Below w.heap.size w w':=sSrtJ9
end
section
open Go.RowKit Go.Maps Go.Sort Go.Shelf
def cfN (x y:NodeD):Int:=cmpB x.name y.name
theorem wyk (x y:NodeD):ltOf cfN x y=ltS x.name y.name:=wqo _ _
open YtknmnhleicakhaaGreatDoor renaming wyk -> Z1, NodeD.name -> Z2
theorem swoN:SWO (ltOf cfN) where
 irrefl x:=by rw[wyk];exact uxr _
 trans x y z h1 h2:=by rw[wyk] at *;exact uzx h1 h2
 ntrans x y z h1 h2:=sSrtJ3
theorem vk9 (x:NodeD):(rowN x).length=3:=rfl
theorem rowN_one (x:NodeD):∀v∈rowN x,v.oneCell'=true:=by
 intro v hv
 simp[rowN] at hv
 rcases hv with rfl | rfl | rfl | rfl | rfl <;> rfl
instance:Inhabited NodeD:=⟨⟨ByteArray.empty,0,ByteArray.empty⟩⟩
open YtknmnhleicakhaaGreatDoor renaming cSrtJ0N -> Z3, rowN -> Z4, cSrtJ1N -> Z5, cfN -> Z6, cSrtJ2N -> Z7, cmpN_any -> Z8, vk9 -> Z9, rowN_one -> Z11, swoN -> Z12
open Go.Proofs.Tryz renaming laysNsort -> Z10
theorem xw9 (gk g cap:Nat) (ss:List NodeD) (cur:Array Value) (w:World) (hk:w.cell? ⟨gk,0,none⟩=some (.func (.func 93) #[] #[])) (hlt:gk<w.heap.size) (hne:gk≠g)
  (hb:w.heap[g]?=some (.cells cur 40 (0,0))) (ht:cur.toList.take (ss.length*3)=(ss.map rowN).flatten) (hl:ss.length<=1000000000) :
  Calls prog 179 #[.slice (some ⟨g,0,none⟩) ss.length cap,.func (.func 141) #[] #[zse gk]] w fun e w' =>
   e=.returned (.tuple #[])/\∃(ts:List NodeD) (n:Nat) (os:Array Obj),ts.Perm ss/\ts.Pairwise (fun x y=>ltS y.name x.name=false)/\w'=sortWorldK rowN 3 w g 0 n ts.toArray os:=sSrtJ7
theorem xz5 (gk cap:Nat) (p:Zoa) (w:World) :
  Calls prog 179 #[.slice p 0 cap,.func (.func 141) #[] #[zse gk]] w fun e w'=>e=.returned (.tuple #[])/\w'=w :=
 AnyF.slices_SortFunc_none Tryz.laysNsort p cap _ w
open YtknmnhleicakhaaGreatDoor renaming wzi -> Z13, xz5 -> Z16, xw9 -> Z17, cSrtJ3N -> Z18
open Go.Proofs.Tryz renaming func139 -> Z14, ntmps139 -> Z15
theorem www (gk Bm b nn:Nat) (f:Zlu->Option NodeD) (w:World) (hk:w.cell? ⟨gk,0,none⟩=some (.func (.func 93) #[] #[])) (hlt:gk<w.heap.size) (hBm:Bm<w.heap.size) (hm:w.cell? ⟨Bm,0,none⟩=some (.map (some b))) (hown:OM prog 9 w b nn (fun k=>(f k).map fun x=>Value.agg (rwN x))) (hnn:nn<=1000000000) :
  Calls prog 139 #[.func (.func 180) #[] #[zse Bm],.func (.func 141) #[] #[zse gk]] w fun e w' =>
   ∃(v:Value) (ss ts:List NodeD),e=.returned v/\AllV f ss/\ts.Perm ss/\ts.Pairwise (fun x y=>ltS y.name x.name=false)/\w'.ownsRow w.heap.size 40 3 v ts.length (ts.map rowN).flatten/\Below w.heap.size w w':=sSrtJ9
end
section
open Go.RowKit Go.Maps Go.Sort Go.Shelf
def cfL (x y:uqb):Int:=cmpB x.job y.job
theorem wyj (x y:uqb):ltOf cfL x y=ltS x.job y.job:=wqo _ _
open YtknmnhleicakhaaGreatDoor renaming wyj -> Z1, uqb.job -> Z2
theorem swoL:SWO (ltOf cfL) where
 irrefl x:=by rw[wyj];exact uxr _
 trans x y z h1 h2:=by rw[wyj] at *;exact uzx h1 h2
 ntrans x y z h1 h2:=sSrtJ3
theorem vk8 (x:uqb):(rowL x).length=3:=rfl
theorem rowL_one (x:uqb):∀v∈rowL x,v.oneCell'=true:=by
 intro v hv
 simp[rowL] at hv
 rcases hv with rfl | rfl | rfl | rfl | rfl <;> rfl
instance:Inhabited uqb:=⟨⟨ByteArray.empty,ByteArray.empty,0⟩⟩
open YtknmnhleicakhaaGreatDoor renaming cSrtJ0L -> Z3, rowL -> Z4, cSrtJ1L -> Z5, cfL -> Z6, cSrtJ2L -> Z7, cmpL_any -> Z8, vk8 -> Z9, rowL_one -> Z11, swoL -> Z12
open Go.Proofs.Tryz renaming laysLsort -> Z10
theorem xw8 (gk g cap:Nat) (ss:List uqb) (cur:Array Value) (w:World) (hk:w.cell? ⟨gk,0,none⟩=some (.func (.func 95) #[] #[])) (hlt:gk<w.heap.size) (hne:gk≠g)
  (hb:w.heap[g]?=some (.cells cur 42 (0,0))) (ht:cur.toList.take (ss.length*3)=(ss.map rowL).flatten) (hl:ss.length<=1000000000) :
  Calls prog 182 #[.slice (some ⟨g,0,none⟩) ss.length cap,.func (.func 144) #[] #[zse gk]] w fun e w' =>
   e=.returned (.tuple #[])/\∃(ts:List uqb) (n:Nat) (os:Array Obj),ts.Perm ss/\ts.Pairwise (fun x y=>ltS y.job x.job=false)/\w'=sortWorldK rowL 3 w g 0 n ts.toArray os:=sSrtJ7
theorem xz4 (gk cap:Nat) (p:Zoa) (w:World) :
  Calls prog 182 #[.slice p 0 cap,.func (.func 144) #[] #[zse gk]] w fun e w'=>e=.returned (.tuple #[])/\w'=w :=
 AnyF.slices_SortFunc_none Tryz.laysLsort p cap _ w
open YtknmnhleicakhaaGreatDoor renaming wzh -> Z13, xz4 -> Z16, xw8 -> Z17, cSrtJ3L -> Z18
open Go.Proofs.Tryz renaming func142 -> Z14, ntmps142 -> Z15
theorem wwv (gk Bm b nn:Nat) (f:Zlu->Option uqb) (w:World) (hk:w.cell? ⟨gk,0,none⟩=some (.func (.func 95) #[] #[])) (hlt:gk<w.heap.size) (hBm:Bm<w.heap.size) (hm:w.cell? ⟨Bm,0,none⟩=some (.map (some b))) (hown:OM prog 9 w b nn (fun k=>(f k).map fun x=>Value.agg (rwL x))) (hnn:nn<=1000000000) :
  Calls prog 142 #[.func (.func 183) #[] #[zse Bm],.func (.func 144) #[] #[zse gk]] w fun e w' =>
   ∃(v:Value) (ss ts:List uqb),e=.returned v/\AllV f ss/\ts.Perm ss/\ts.Pairwise (fun x y=>ltS y.job x.job=false)/\w'.ownsRow w.heap.size 42 3 v ts.length (ts.map rowL).flatten/\Below w.heap.size w w':=sSrtJ9
end
end Go.Proofs.YtknmnhleicakhaaGreatDoor
