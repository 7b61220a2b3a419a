/- Lemmas.
-/
import Derived.Laws.IdiomCopy
import Derived.Test.YtknmnhleicakhaaGreatDoorPtEq
set_option linter.all false
set_option maxHeartbeats 16000000
set_option maxRecDepth 100000
namespace Go.Proofs.YtknmnhleicakhaaGreatDoor
open Go.Proofs.Tryz
open Go.RowKit
def OwnR (w:World) (base:Nat) (E:TypeId) (size:Nat) (p:Zoa) (c:Nat) (rows:List (List Value)):Prop :=
 (∀r∈rows,r.length=size)/\w.ownsRow base E size (.slice p rows.length c) rows.length rows.flatten
theorem OwnR.elts {w:World} {base c size:Nat} {E:TypeId} {p:Zoa} {rows:List (List Value)} (h:OwnR w base E size p c rows):Elts w w.heap.size size p rows:=.of_own h.1 h.2
theorem OwnR.below {a b:World} {base c size:Nat} {E:TypeId} {p:Zoa} {rows:List (List Value)} (h:OwnR a base E size p c rows) (hb:Below a.heap.size a b):OwnR b base E size p c rows :=
 ⟨h.1,World.ownsRow.kept (row:=none) h.2 ⟨hb.os,hb.tape,hb.output,hb.size,fun k hk _=>hb.block k hk⟩ (Classical.em _)⟩
def CopyPost (w:World) (E:TypeId) (size:Nat) (rows:List (List Value)) (e:Ending) (w':World):Prop :=
 ∃q c,e=.returned (.slice q rows.length c)/\OwnR w' w.heap.size E size q c rows/\Below w.heap.size w w'
theorem xwy (l:List JobD):∀u∈(l.map rowJ).flatten,u.oneCell'=true:=by
 intro u hu
 simp only[List.mem_flatten,List.mem_map] at hu
 obtain⟨r,⟨x,_,rfl⟩,hu⟩:=hu
 simp[rowJ] at hu
 rcases hu with rfl | rfl | rfl | rfl | rfl <;> rfl
theorem xw1 (l:List NodeD):∀u∈(l.map rowN).flatten,u.oneCell'=true:=by
 intro u hu
 simp only[List.mem_flatten,List.mem_map] at hu
 obtain⟨r,⟨x,_,rfl⟩,hu⟩:=hu
 simp[rowN] at hu
 rcases hu with rfl | rfl | rfl | rfl | rfl <;> rfl
theorem xw0 (l:List uqb):∀u∈(l.map rowL).flatten,u.oneCell'=true:=by
 intro u hu
 simp only[List.mem_flatten,List.mem_map] at hu
 obtain⟨r,⟨x,_,rfl⟩,hu⟩:=hu
 simp[rowL] at hu
 rcases hu with rfl | rfl | rfl | rfl | rfl <;> rfl
theorem uve:(prog.info? 38).map (fun i=>(i.zero,i.size,i.bytes))=some (some (.agg zwJ),5,56):=by kernel_rfl
theorem uj7:(prog.info? 40).map (fun i=>(i.zero,i.size,i.bytes))=some (some (.agg zwN),3,40):=by kernel_rfl
theorem ujl:(prog.info? 42).map (fun i=>(i.zero,i.size,i.bytes))=some (some (.agg zwL),3,40):=by kernel_rfl
def lay {α:Type} (cs:List α) (o:Nat) (vs:List α):List α:=cs.take o++vs++cs.drop (o+vs.length)
theorem lay_nil {α:Type} (cs:List α) (o:Nat):lay cs o []=cs:=by simp[lay]
theorem lay_cons {α:Type} (cs:List α) (o:Nat) (v:α) (vs:List α) (h:o+(vs.length+1)<=cs.length):lay (cs.set o v) (o+1) vs=lay cs o (v::vs):=by
 unfold lay
 rw[List.take_set,List.drop_set,if_pos (by omega),List.length_cons,show o+1+vs.length=o+(vs.length+1) by omega]
 have:(cs.take (o+1)).set o v=cs.take o++[v]:=by
  rw[List.take_succ_eq_append_getElem (by omega),List.set_append_right _ _ (by simp;omega)]
  simp[List.length_take,Nat.min_eq_left (show o<=cs.length by omega)]
 rw[this]
 simp
theorem vyq {α:Type} (cs:List α) (o:Nat) (vs:List α) (h:o+vs.length<=cs.length):(lay cs o vs).length=cs.length:=by
 simp[lay];omega
theorem vqf {g:Nat} {t:TypeId}:∀(vs:List Value) (o:Nat) (cs:Array Value) (w:World),Blk w g t cs->o+vs.length<=cs.size->Blk (w.setCells g o vs) g t (lay cs.toList o vs).toArray
 | [],o,cs,w,h,_=>by rw[lay_nil];simpa[World.setCells] using h
 | v::r,o,cs,w,h,hl=>by
  rw[List.length_cons] at hl
  have h1:=h.set_ o v
  have h2:=vqf r (o+1) (cs.setIfInBounds o v) _ h1 (by rw[Array.size_setIfInBounds];omega)
  rw[Array.toList_setIfInBounds,lay_cons _ _ _ _ (by simpa using hl)] at h2
  exact h2
def Own (w:World) (base:Nat) (E:TypeId) (size:Nat) (p:Zoa) (c:Nat) (rows:List (List Value)):Prop :=
 (∀r∈rows,r.length=size)/\((rows=[]/\c=0)\/∃g cur,p=some ⟨g,0,none⟩/\base<=g/\Blk w g E cur/\rows.length<=c/\c<=maxLen/\cur.size=c*size/\cur.toList.take (rows.length*size)=rows.flatten)
section
variable {w w':World} {base size c:Nat} {E:TypeId} {p:Zoa} {rows:List (List Value)}
theorem Own.of (h:OwnR w base E size p c rows):Own w base E size p c rows:=by
 refine⟨h.1,?_⟩
 rcases h.2.2 with⟨h1,h0⟩ | ⟨g,cap,cur,h1,hb,hc,hn,hm,hs,ht⟩
 ·injection h1 with _ _ h2
  exact .inl ⟨List.eq_nil_of_length_eq_zero h0,h2⟩
 ·injection h1 with h3 _ h2
  subst h2 h3
  exact .inr ⟨g,cur,rfl,hb,hc,hn,hm,hs,ht⟩
theorem Own.nil_ (w:World) (base:Nat) (E:TypeId) (size:Nat) (p:Zoa):Own w base E size p 0 []:=⟨by simp,.inl ⟨rfl,rfl⟩⟩
theorem Own.grown {b:Option Nat} (h:Own w base E size p c rows) (hg:w.grownBy w' b) (hne:∀a,p=some a->some a.block≠b):Own w' base E size p c rows:=by
 refine⟨h.1,?_⟩
 rcases h.2 with h0 | ⟨g,cur,rfl,hb,hc,hr⟩
 ·exact .inl h0
 ·exact .inr ⟨g,cur,rfl,hb,(hg.block g hc.lt (hne _ rfl)).trans hc,hr⟩
theorem Own.below {B:Nat} (h:Own w base E size p c rows) (hb:Below w.heap.size w w'):Own w' base E size p c rows:=by
 refine⟨h.1,?_⟩
 rcases h.2 with h0 | ⟨g,cur,rfl,hB,hc,hr⟩
 ·exact .inl h0
 ·exact .inr ⟨g,cur,rfl,hB,hc.bl hb,hr⟩
theorem Own.less {b:Nat} (h:Own w base E size p c rows) (hb:b<=base):Own w b E size p c rows:=by
 refine⟨h.1,?_⟩
 rcases h.2 with h0 | ⟨g,cur,rfl,hB,hc,hr⟩
 ·exact .inl h0
 ·exact .inr ⟨g,cur,rfl,zrc hb hB,hc,hr⟩
theorem Own.cap (h:Own w base E size p c rows):rows.length<=c:=by
 rcases h.2 with⟨rfl,rfl⟩ | ⟨g,cur,_,_,_,hr,_⟩
 ·exact zra _
 ·exact hr
theorem vwv {α:Type} {size:Nat}:∀(l:List (List α)) (k:Nat),(∀r∈l,r.length=size)->(l.take k).flatten=l.flatten.take (k*size)
 | [],k,_=>by simp
 | a::r,0,_=>by simp
 | a::r,k+1,h=>by
  have ha:=h a List.mem_cons_self
  rw[List.take_succ_cons,List.flatten_cons,List.flatten_cons,vwv r k (fun x hx=>h x (List.mem_cons_of_mem _ hx)),List.take_append,ha,List.take_of_length_le (l:=a) (by rw[ha,Nat.add_mul];omega)]
  congr 2
  rw[Nat.add_mul];omega
theorem wzw {α:Type} {size:Nat}:∀(l:List (List α)) (k:Nat),(∀r∈l,r.length=size)->(l.drop k).flatten=l.flatten.drop (k*size)
 | [],k,_=>by simp
 | a::r,0,_=>by simp
 | a::r,k+1,h=>by
  have ha:=h a List.mem_cons_self
  rw[List.drop_succ_cons,List.flatten_cons,wzw r k (fun x hx=>h x (List.mem_cons_of_mem _ hx)),List.drop_append,ha,List.drop_of_length_le (l:=a) (by rw[ha,Nat.add_mul];omega),List.nil_append]
  congr 1
  rw[Nat.add_mul];omega
theorem Own.elts (h:Own w base E size p c rows):Elts w w.heap.size size p rows:=by
 refine⟨h.1,fun hn=>?_⟩
 rcases h.2 with⟨rfl,_⟩ | ⟨g,cur,rfl,hB,hc,hr,hm,hs,ht⟩
 ·simp at hn
 ·refine⟨⟨g,0,none⟩,rfl,hc.lt,fun k r hk j v hv=>?_⟩
  obtain⟨hk1,rfl⟩:=List.getElem?_eq_some_iff.1 hk
  have hrl:=h.1 _ (List.getElem_mem hk1)
  have hj:j<size:=by rw[<- hrl];exact(List.getElem?_eq_some_iff.1 hv).1
  rw[uks]
  have ha:(⟨g,0,none⟩:Addr).add (k*size+j)=⟨g,k*size+j,none⟩:=by unfold Addr.add;split <;> simp_all
  rw[ha,hc.cell]
  have hflat:=wvi rows size k j _ v h.1 hk hv
  rw[<- ht] at hflat
  have hlt:k*size+j<rows.length*size:=by
   have:(k+1)*size<=rows.length*size:=Nat.mul_le_mul_right size hk1
   rw[Nat.add_mul] at this;omega
  rw[List.getElem?_take_of_lt hlt] at hflat
  simpa using hflat
theorem Own.at_ (h:Own w base E size p c rows) (hc:0<c):∃g cur,p=some ⟨g,0,none⟩/\base<=g/\g<w.heap.size/\Blk w g E cur/\cur.size=c*size:=by
 rcases h.2 with⟨_,rfl⟩ | ⟨g,cur,rfl,hB,hb,hr,hm,hs,ht⟩
 ·omega
 ·exact⟨g,cur,rfl,hB,hb.lt,hb,hs⟩
theorem Own.set_ {g:Nat} (h:Own w base E size (some ⟨g,0,none⟩) c rows) (k:Nat) (r:List Value) (hk:k<rows.length) (hr:r.length=size) :
  Own (w.setCells g (k*size) r) base E size (some ⟨g,0,none⟩) c (rows.set k r):=by
 have hrl:∀x∈rows.set k r,x.length=size:=fun x hx=>by
  rcases List.mem_or_eq_of_mem_set hx with hx | rfl
  ·exact h.1 x hx
  ·exact hr
 refine⟨hrl,?_⟩
 rcases h.2 with⟨rfl,_⟩ | ⟨g',cur,hp,hB,hb,hn,hm,hsz,ht⟩
 ·simp at hk
 ·injection hp with hp
  injection hp with hp
  subst hp
  have hmul:(k+1)*size<=rows.length*size:=Nat.mul_le_mul_right size hk
  have hmul2:rows.length*size<=c*size:=Nat.mul_le_mul_right size hn
  rw[Nat.add_mul,Nat.one_mul] at hmul
  have hfit:k*size+r.length<=cur.size:=by rw[hr,hsz];omega
  have h2:=vqf r (k*size) cur w hb hfit
  refine .inr ⟨g,_,rfl,hB,h2,?_,hm,?_,?_⟩
  ·rw[List.length_set];exact hn
  ·rw[List.size_toArray,vyq _ _ _ (by simpa using hfit)];simpa using hsz
  ·have hset:rows.set k r=rows.take k++r::rows.drop (k+1):=List.set_eq_take_append_cons_drop.trans (if_pos hk)
   rw[List.length_set,hset,List.flatten_append,List.flatten_cons,vwv rows k h.1,wzw rows (k+1) h.1,<- ht,List.take_take,Nat.min_eq_left (by omega),Nat.add_mul,Nat.one_mul]
   unfold lay
   have hlt:(cur.toList.take (k*size)).length=k*size:=by rw[List.length_take];simp;omega
   rw[zrh,List.take_append,hlt,List.take_of_length_le (by omega)]
   congr 1
   rw[List.take_append,List.take_of_length_le (by omega),hr]
   congr 1
   rw[List.drop_take]
   congr 1
   omega
end
theorem Own.other {w w':World} {base size c g:Nat} {E E':TypeId} {p:Zoa} {rows:List (List Value)} {cur:Array Value} (h:Own w base E size p c rows) (hg:w.grownBy w' (some g)) (hb:Blk w g E' cur) (hne:E≠E'):Own w' base E size p c rows:=by
 refine⟨h.1,?_⟩
 rcases h.2 with h0 | ⟨k,cur',rfl,hB,hc,hr⟩
 ·exact .inl h0
 ·exact .inr ⟨k,cur',rfl,hB,hc.gr hg (hc.ne_ hb hne),hr⟩
structure StOwn (w:World) (base:Nat) (q1 q2 q3:Zoa) (d1 d2 d3:Nat) (s:St):Prop where
 j:Own w base 38 5 q1 d1 (s.jobs.map rowJ)
 n:Own w base 40 3 q2 d2 (s.nodes.map rowN)
 l:Own w base 42 3 q3 d3 (s.leases.map rowL)
section
variable {w w':World} {base:Nat} {q1 q2 q3:Zoa} {d1 d2 d3:Nat} {s:St}
theorem StOwn.m (h:StOwn w base q1 q2 q3 d1 d2 d3 s):StM w w.heap.size q1 q2 q3 s:=⟨h.j.elts,h.n.elts,h.l.elts⟩
theorem StOwn.below (h:StOwn w base q1 q2 q3 d1 d2 d3 s) (hb:Below w.heap.size w w'):StOwn w' base q1 q2 q3 d1 d2 d3 s:=⟨h.j.below (B:=0) hb,h.n.below (B:=0) hb,h.l.below (B:=0) hb⟩
theorem StOwn.less {b:Nat} (h:StOwn w base q1 q2 q3 d1 d2 d3 s) (hb:b<=base):StOwn w b q1 q2 q3 d1 d2 d3 s:=⟨h.j.less hb,h.n.less hb,h.l.less hb⟩
theorem StOwn.other {g:Nat} {E:TypeId} {cur:Array Value} (h:StOwn w base q1 q2 q3 d1 d2 d3 s) (hg:w.grownBy w' (some g)) (hb:Blk w g E cur) (h1:38 ≠ E) (h2:40 ≠ E) (h3:42 ≠ E):StOwn w' base q1 q2 q3 d1 d2 d3 s :=
 ⟨h.j.other hg hb h1,h.n.other hg hb h2,h.l.other hg hb h3⟩
end
theorem ux8 (a:Int) (p1 p2 p3:Zoa) (n1 n2 n3 c1 c2 c3:Nat):(#[.int .i64 a,.slice p1 n1 c1,.slice p2 n2 c2,.slice p3 n3 c3]:Array Value).all (·.oneCell')=true:=by simp[Value.oneCell']
theorem growR (w:World) (g:Nat) (cs:Array Value):w.grownBy (w.setRow g cs) (some g) :=
 ⟨rfl,rfl,rfl,by simp,fun k hk hk2=>setRow_other w g k cs (by intro h0;exact hk2 (by rw[h0]))⟩
theorem ux4 (w:World) (g o:Nat) (v:Value):w.grownBy (w.setCell ⟨g,o,none⟩ v) (some g) :=
 ⟨rfl,rfl,rfl,by simp,fun k hk hk2=>Below.heap_setCell w ⟨g,o,none⟩ v k (by intro h0;exact hk2 (by rw[h0]))⟩
theorem wyw {α:Type} {size:Nat}:∀(rows:List (List α)) (k j:Nat) (r:List α) (v:α),(∀x∈rows,x.length=size)->rows[k]?=some r->j<size->(rows.set k (r.set j v)).flatten=rows.flatten.set (k*size+j) v
 | [],_,_,_,_,_,h,_=>by simp at h
 | a::t,0,j,r,v,hs,h,hj=>by
  simp at h;subst h
  have ha:=hs a List.mem_cons_self
  rw[List.set_cons_zero,List.flatten_cons,List.flatten_cons,List.set_append_left _ _ (by omega),Nat.zero_mul,Nat.zero_add]
 | a::t,k+1,j,r,v,hs,h,hj=>by
  have ha:=hs a List.mem_cons_self
  rw[List.set_cons_succ,List.flatten_cons,List.flatten_cons,wyw t k j r v (fun x hx=>hs x (List.mem_cons_of_mem _ hx)) (by simpa using h) hj,List.set_append_right _ _ (by rw[ha,Nat.add_mul];omega),ha]
  congr 2
  rw[Nat.add_mul];omega
theorem Own.cell_ {w:World} {base size c:Nat} {E:TypeId} {rows:List (List Value)} {g:Nat} (h:Own w base E size (some ⟨g,0,none⟩) c rows) (k j:Nat) (r:List Value) (v:Value) (hk:rows[k]?=some r) (hj:j<size) :
  Own (w.setCell ⟨g,k*size+j,none⟩ v) base E size (some ⟨g,0,none⟩) c (rows.set k (r.set j v)):=by
 have hkl:k<rows.length:=(List.getElem?_eq_some_iff.1 hk).1
 have hrl:∀x∈rows.set k (r.set j v),x.length=size:=fun x hx=>by
  rcases List.mem_or_eq_of_mem_set hx with hx | rfl
  ·exact h.1 x hx
  ·rw[List.length_set];exact h.1 r (List.mem_of_getElem? hk)
 refine⟨hrl,?_⟩
 rcases h.2 with⟨rfl,_⟩ | ⟨g',cur,hp,hB,hb,hn,hm,hsz,ht⟩
 ·simp at hkl
 ·injection hp with hp
  injection hp with hp
  subst hp
  refine .inr ⟨g,_,rfl,hB,hb.set_ (k*size+j) v,by rw[List.length_set];exact hn,hm,by rw[Array.size_setIfInBounds];exact hsz,?_⟩
  rw[List.length_set,Array.toList_setIfInBounds,List.take_set,ht,wyw rows k j r v h.1 hk hj]
theorem Own.where_ {w:World} {base size c:Nat} {E:TypeId} {p:Zoa} {rows:List (List Value)} (h:Own w base E size p c rows) (hn:0<rows.length):∃g cur,p=some ⟨g,0,none⟩/\base<=g/\Blk w g E cur/\cur.size=c*size/\rows.length<=c:=by
 rcases h.2 with⟨rfl,_⟩ | ⟨g,cur,hp,hB,hb,hc,hm,hsz,ht⟩
 ·simp at hn
 ·exact⟨g,cur,hp,hB,hb,hsz,hc⟩
def mixL {α:Type} (f:α->α) (l:List α) (k:Nat):List α:=(l.take k).map f++l.drop k
theorem Own.cellAt {w:World} {base size c g:Nat} {E:TypeId} {rows:List (List Value)} (h:Own w base E size (some ⟨g,0,none⟩) c rows) {k j:Nat} {r:List Value} {v:Value} (hk:rows[k]?=some r) (hj:r[j]?=some v) :
  w.cell? ⟨g,k*size+j,none⟩=some v/\w.frozen? ⟨g,k*size+j,none⟩=false:=by
 have hkl:k<rows.length:=(List.getElem?_eq_some_iff.1 hk).1
 obtain⟨g',cur,hp,_,hb,_,_⟩:=h.where_ (by omega)
 injection hp with hp
 injection hp with hp
 subst hp
 refine⟨?_,hb.frozen _⟩
 obtain⟨a,ha,_,_,hat⟩:=h.elts.at_ hk
 injection ha with ha
 subst ha
 have:=hat j v hj
 rw[uks] at this
 have hadd:(⟨g,0,none⟩:Addr).add (k*size+j)=⟨g,k*size+j,none⟩:=by unfold Addr.add;split <;> simp_all
 rwa [hadd] at this
section
variable {w:World} {base g:Nat} {q1 q2 q3:Zoa} {d1 d2 d3:Nat} {s:St}
theorem StOwn.setJ (h:StOwn w base (some ⟨g,0,none⟩) q2 q3 d1 d2 d3 s) {k:Nat} {x:JobD} (hx:s.jobs[k]?=some x) (j:Nat) (y:JobD) (v:Value) (hj:j<5) (hy:(rowJ x).set j v=rowJ y) :
  StOwn (w.setCell ⟨g,k*5+j,none⟩ v) base (some ⟨g,0,none⟩) q2 q3 d1 d2 d3 ⟨s.rev,s.jobs.set k y,s.nodes,s.leases⟩:=by
 have hk:(s.jobs.map rowJ)[k]?=some (rowJ x):=by rw[zrg,hx];rfl
 have hkl:=(List.getElem?_eq_some_iff.1 hk).1
 obtain⟨g',cur,hp,_,hb,_,_⟩:=h.j.where_ (by omega)
 injection hp with hp
 injection hp with hp
 subst hp
 have hg:=ux4 w g (k*5+j) v
 refine⟨?_,h.n.other hg hb (by decide),h.l.other hg hb (by decide)⟩
 have:=h.j.cell_ k j (rowJ x) v hk hj
 rw[hy,<- List.map_set] at this
 exact this
theorem StOwn.setN (h:StOwn w base q1 (some ⟨g,0,none⟩) q3 d1 d2 d3 s) {k:Nat} {x:NodeD} (hx:s.nodes[k]?=some x) (j:Nat) (y:NodeD) (v:Value) (hj:j<3) (hy:(rowN x).set j v=rowN y) :
  StOwn (w.setCell ⟨g,k*3+j,none⟩ v) base q1 (some ⟨g,0,none⟩) q3 d1 d2 d3 ⟨s.rev,s.jobs,s.nodes.set k y,s.leases⟩:=by
 have hk:(s.nodes.map rowN)[k]?=some (rowN x):=by rw[zrg,hx];rfl
 have hkl:=(List.getElem?_eq_some_iff.1 hk).1
 obtain⟨g',cur,hp,_,hb,_,_⟩:=h.n.where_ (by omega)
 injection hp with hp
 injection hp with hp
 subst hp
 have hg:=ux4 w g (k*3+j) v
 refine⟨h.j.other hg hb (by decide),?_,h.l.other hg hb (by decide)⟩
 have:=h.n.cell_ k j (rowN x) v hk hj
 rw[hy,<- List.map_set] at this
 exact this
theorem StOwn.keepJ (h:StOwn w base (some ⟨g,0,none⟩) q2 q3 d1 d2 d3 s) (hn:0<s.jobs.length) {b:Nat} {t:TypeId} {cs:Array Value} (hb:Blk w b t cs) (ht:38 ≠ t) (o:Nat) (v:Value):Blk (w.setCell ⟨g,o,none⟩ v) b t cs/\base<=g:=by
 obtain⟨g',cur,hp,hB,hg,_,_⟩:=h.j.where_ (by rw[zre];exact hn)
 injection hp with hp
 injection hp with hp
 subst hp
 exact⟨hb.far (p:=⟨g,o,none⟩) (fun e=>(hg.ne_ hb ht) e.symm) v,hB⟩
theorem StOwn.keepN (h:StOwn w base q1 (some ⟨g,0,none⟩) q3 d1 d2 d3 s) (hn:0<s.nodes.length) {b:Nat} {t:TypeId} {cs:Array Value} (hb:Blk w b t cs) (ht:40 ≠ t) (o:Nat) (v:Value):Blk (w.setCell ⟨g,o,none⟩ v) b t cs/\base<=g:=by
 obtain⟨g',cur,hp,hB,hg,_,_⟩:=h.n.where_ (by rw[zre];exact hn)
 injection hp with hp
 injection hp with hp
 subst hp
 exact⟨hb.far (p:=⟨g,o,none⟩) (fun e=>(hg.ne_ hb ht) e.symm) v,hB⟩
end
def RKeep (w w':World):Prop:=∀g t cs,Blk w g t cs->t≠38 -> t≠40 -> Blk w' g t cs
theorem RKeep.refl (w:World):RKeep w w:=fun _ _ _ h _ _=>h
theorem RKeep.trans {a b c:World} (h1:RKeep a b) (h2:RKeep b c):RKeep a c:=fun g t cs h hj hn=>h2 g t cs (h1 g t cs h hj hn) hj hn
theorem RKeep.below {w w':World} (hb:Below w.heap.size w w'):RKeep w w':=fun g t cs h _ _=>h.bl hb
theorem RKeep.setJ {w:World} {base g:Nat} {q2 q3:Zoa} {d1 d2 d3:Nat} {s:St} (h:StOwn w base (some ⟨g,0,none⟩) q2 q3 d1 d2 d3 s) (hn:0<s.jobs.length) (o:Nat) (v:Value):RKeep w (w.setCell ⟨g,o,none⟩ v) :=
 fun _ _ _ hb hj _=>(h.keepJ hn hb hj.symm o v).1
theorem RKeep.setN {w:World} {base g:Nat} {q1 q3:Zoa} {d1 d2 d3:Nat} {s:St} (h:StOwn w base q1 (some ⟨g,0,none⟩) q3 d1 d2 d3 s) (hn:0<s.nodes.length) (o:Nat) (v:Value):RKeep w (w.setCell ⟨g,o,none⟩ v) :=
 fun _ _ _ hb _ hj=>(h.keepN hn hb hj.symm o v).1
def pIx {α:Type} (f:α->Bool):List α->Nat->Int
 | [],_ => -1
 | x::r,i=>if f x=true then(i:Int) else pIx f r (i+1)
theorem uk7 {α:Type} (f:α->Bool) (x:α) (r:List α) (i:Nat):pIx f (x::r) i=if f x=true then(i:Int) else pIx f r (i+1):=rfl
theorem vzf {α:Type} (f:α->Bool):∀(l:List α) (i:Nat),decide (0<=pIx f l i)=l.any f
 | [],_=>rfl
 | x::r,i=>by
  rw[uk7,List.any_cons]
  cases h:f x
  ·rw[if_neg (by simp),vzf f r (i+1)];simp
  ·rw[if_pos rfl];simp
theorem vwd {α:Type} (f:α->Bool):∀(l:List α) (i:Nat),-1<=pIx f l i/\pIx f l i<i+l.length+1
 | [],i=>by simp[pIx];omega
 | x::r,i=>by
  have:=vwd f r (i+1)
  rw[uk7,List.length_cons]
  split <;> omega
structure FnOk {α:Type} (P:Program) (w:World) (K:FuncId) (caps:Array Value) (row:α->List Value) (f:α->Bool) (l:List α):Prop where
 enter:∀(args:Array Value) (W:World),(callFunc K args).run P W=.ok (.enter K args) W
 calls:∀x∈l,∀W,Below w.heap.size w W->Calls P K (#[.agg (row x).toArray]++caps) W fun e W'=>e=.returned (.bool (f x))/\Below W.heap.size W W'
theorem same_any (a b:St) (p1 p2 p3 q1 q2 q3:Zoa) (c1 c2 c3 d1 d2 d3:Nat) (w:World) (ha:StM w w.heap.size p1 p2 p3 a) (hb:StM w w.heap.size q1 q2 q3 b) (hza:StSz a) (hzb:StSz b) :
  Calls prog 16 #[.agg (stv a p1 p2 p3 c1 c2 c3),.agg (stv b q1 q2 q3 d1 d2 d3)] w fun e w'=>e=.returned (.bool (decide (a=b)))/\Below w.heap.size w w':=by
 have hJ:=fun(W:World) (hW:Below w.heap.size w W)=>eqJ_any p1 q1 c1 d1 a.jobs b.jobs W ((ha.j.below hW).more hW.size) ((hb.j.below hW).more hW.size) hza.lj hzb.lj
 have hN:=fun(W:World) (hW:Below w.heap.size w W)=>eqN_any p2 q2 c2 d2 a.nodes b.nodes W ((ha.n.below hW).more hW.size) ((hb.n.below hW).more hW.size) hza.ln hzb.ln
 have hL:=fun(W:World) (hW:Below w.heap.size w W)=>eqL_any p3 q3 c3 d3 a.leases b.leases W ((ha.l.below hW).more hW.size) ((hb.l.below hW).more hW.size) hza.ll hzb.ll
 have bA:=Blk.new w 26 (stv a p1 p2 p3 c1 c2 c3)
 have hs1:=zsb w (.cells (stv a p1 p2 p3 c1 c2 c3) 26)
 have bB:=Blk.new (w.alloc (.cells (stv a p1 p2 p3 c1 c2 c3) 26)) 26 (stv b q1 q2 q3 d1 d2 d3)
 have bA:=bA.alloc (.cells (stv b q1 q2 q3 d1 d2 d3) 26)
 have hB0:Below w.heap.size w ((w.alloc (.cells (stv a p1 p2 p3 c1 c2 c3) 26)).alloc (.cells (stv b q1 q2 q3 d1 d2 d3) 26)):=((zri _ _).alloc (zra _) _).alloc (by omega) _
 rw[hs1] at bB
 have HV:=zrj (show decide (a=b)=(decide (a.rev=b.rev)&&decide (a.jobs=b.jobs)&&decide (a.nodes=b.nodes)&&decide (a.leases=b.leases)) from by
  cases a;cases b;simp only[St.mk.injEq,Bool.decide_and,Bool.and_assoc])
 have HJ:=zrj hJ
 have HN:=zrj hN
 have HL:=zrj hL
 have HR:=zrj (show((a.rev:Int) == b.rev)=decide (a.rev=b.rev) from by rw[Bool.eq_iff_iff];simp)
 clear hJ hN hL ha hb hza hzb
 generalize hr:decide (a.rev=b.rev)=xr at *
 generalize hj:decide (a.jobs=b.jobs)=xj at *
 generalize hn:decide (a.nodes=b.nodes)=xn at *
 generalize hl:decide (a.leases=b.leases)=xl at *
 clear hr hj hn hl
 cases xr
 ·have hr:=HR.out
  go_enter func16,ntmps16
  go_wp2_with fail
  go_ret
  exact⟨by rw[HV.out];rfl,hB0⟩
 ·have hr:=HR.out
  cases xj
  ·go_enter func16,ntmps16
   go_wp2_with fail
   refine(HJ.out _ hB0).mono ?_
   rintro e w1 ⟨rfl,hb1⟩
   have hB1:=bthen hB0 hb1
   go_wp2_with fail
   go_ret
   exact⟨by rw[HV.out];rfl,hB1⟩
  ·cases xn
   ·go_enter func16,ntmps16
    go_wp2_with fail
    generalize(w.alloc _).alloc _=W at *
    refine(HJ.out _ hB0).mono ?_
    rintro e w1 ⟨rfl,hb1⟩
    have hB1:=bthen hB0 hb1
    have bA1:=bA.bl hb1
    have bB1:=bB.bl hb1
    have e1:=bA1.c2
    have e2:=bB1.c2
    go_wp2_with fail
    refine(HN.out _ hB1).mono ?_
    rintro e w2 ⟨rfl,hb2⟩
    have hB2:=bthen hB1 hb2
    go_wp2_with fail
    go_ret
    exact⟨by rw[HV.out];rfl,hB2⟩
   ·go_enter func16,ntmps16
    go_wp2_with fail
    generalize(w.alloc _).alloc _=W at *
    refine(HJ.out _ hB0).mono ?_
    rintro e w1 ⟨rfl,hb1⟩
    have hB1:=bthen hB0 hb1
    have bA1:=bA.bl hb1
    have bB1:=bB.bl hb1
    have e1:=bA1.c2
    have e2:=bB1.c2
    clear bA bB
    go_wp2_with fail
    refine(HN.out _ hB1).mono ?_
    rintro e w2 ⟨rfl,hb2⟩
    have hB2:=bthen hB1 hb2
    have bA2:=bA1.bl hb2
    have bB2:=bB1.bl hb2
    clear e1 e2
    have e1:=bA2.c3
    have e2:=bB2.c3
    go_wp2_with fail
    refine(HL.out _ hB2).mono ?_
    rintro e w3 ⟨rfl,hb3⟩
    have hB3:=bthen hB2 hb3
    go_wp2_with fail
    go_ret
    exact⟨by rw[HV.out];rfl,hB3⟩
end Go.Proofs.YtknmnhleicakhaaGreatDoor
