/- Lemmas.
-/
import Derived.WalkKit
import Derived.ProofKit
import Derived.Handy
import Derived.Lib.Hide
import Derived.Deep.QuietTactic
import Derived.BigQuiet
import Derived.Deep.RegionWith
import Derived.WalkSpells
import Derived.StillTailTactics
import Derived.Deep.RegionHeld3
import Derived.Deep.DeepCutAuto
import Derived.Deep.LoopGhost
import Derived.SizedLaws
import Derived.Deep.WholeRow
import Derived.Deep.MidRow
import Derived.Deep.CondSized
import Derived.Carry
import Derived.ShutString
import Derived.Lib.SmallJoins
import Derived.Below
import Derived.Laws.OwnMore
import Derived.Deep.AppendLies
import Derived.Deep.Draws
import Derived.Maps.AppendAt
import Derived.RegionTactic
import Derived.OwnWalk
import Derived.Test.YtknmnhleicakhaaGreatDoorRows
import Derived.Test.YtknmnhleicakhaaGreatDoorShelf
import Derived.Shelf.Unicode.ValidAny
import Derived.Lib.LaidIn
import Derived.Lib.LaidU8T
import Derived.Deep.DeepHandedRow
import Derived.Deep.DeepWitnessRowRef
import Derived.Test.YtknmnhleicakhaaGreatDoorCards
import Derived.Test.YtknmnhleicakhaaGreatDoorTie
import Derived.ChangeMaps4
import Derived.MapViews
import Derived.Deep.Slices
import Derived.Deep.Fields
import Derived.ChangeSame
import Derived.OrdersHeld
set_option linter.all false
set_option maxHeartbeats 16000000
set_option maxRecDepth 100000
namespace Go.Proofs.YtknmnhleicakhaaGreatDoor
open Go.Proofs.Tryz
open Go.RowKit
abbrev kqv (k:Int):Array Value:=#[.int .i64 k,.string ByteArray.empty,.int .i64 0,.int .i64 0,.int .i64 0,.string ByteArray.empty,.string ByteArray.empty,.int .i64 0,.string ByteArray.empty,.string ByteArray.empty,.string ByteArray.empty,.int .i64 0,.string ByteArray.empty,.int .i64 0]
abbrev zdv:Array Value:=#[.int .i64 0,.int .i64 0,.slice none 0 0,.slice none 0 0,.slice none 0 0,.slice none 0 0,.slice none 0 0,.slice none 0 0]
abbrev zsv:Array Value:=#[.int .i64 0,.slice none 0 0,.slice none 0 0,.slice none 0 0]
theorem vvn (s:ByteArray) (k:Nat) (h:k<s.size):s.data.toList.drop k=s[k]::s.data.toList.drop (k+1):=by
  rw[List.drop_eq_getElem_cons (by simpa using h)];rfl
def uzk (l:List UInt8):List Value:=l.map fun c=>Value.int .u8 (c.toNat:Int)
theorem uke (l r:List UInt8):uzk (l++r)=uzk l++uzk r:=by simp[uzk]
def Buf (U:TypeId) (w:World) (base:Nat) (v:Value) (l:List UInt8):Prop:=w.ownsRow base U 1 v l.length (uzk l)
theorem Buf.nil (U:TypeId) (w:World) (base:Nat):Buf U w base (.slice none 0 0) []:=World.ownsRow_nil w base U 1
theorem Buf.alloc {U:TypeId} {w:World} {base:Nat} {v:Value} {l:List UInt8} (h:Buf U w base v l) (o:Obj):Buf U (w.alloc o) base v l:=World.ownsRow.alloc h o
theorem Buf.drew {U:TypeId} {w:World} {base:Nat} {v:Value} {l:List UInt8} (h:Buf U w base v l):Buf U w.drew base v l:=h
theorem bthen {a b c:World} (h1:Below a.heap.size a b) (h2:Below b.heap.size b c):Below a.heap.size a c:=h1.trans (h2.mono h1.size)
theorem uqn {B:Nat} {a w:World} (h:Below B a w) (n:Nat):Below B a (w.drewN n):=⟨h.os,h.tape,h.output,h.size,h.block⟩
theorem vqh (w:World) (xs:Array Value) (T:TypeId) (l:List UInt8) (h:xs.toList=uzk l) :
    ∀j u,l[j]?=some u->(w.alloc (.cells xs T)).cell? ((⟨w.heap.size,0,none⟩:Addr).add j)=some (.int .u8 (u.toNat:Int)):=by
  intro j u hj
  have hx:xs[j]?=some (.int .u8 (u.toNat:Int)):=by
    rw[<- Array.getElem?_toList,h];simp[uzk,hj]
  have ha:(⟨w.heap.size,0,none⟩:Addr).add j=⟨w.heap.size,j,none⟩:=by unfold Addr.add;split <;> simp_all
  rw[ha,cell_of_row (w.alloc (.cells xs T)) w.heap.size j xs T (0,0) (heap_alloc_new w _),hx]
theorem uzu {P:Program} {w:World} {U src dst:TypeId} {base:Nat} {v:Value} {l:List UInt8} (hs:P.underlying src=some (.slice U)) (hU:P.underlying U=some (.int .u8)) (hd:P.underlying dst=some .string)
    (h:Buf U w base v l):(convert src dst v).run P w=.ok (.string ⟨l.toArray⟩) w:=by
  rcases h.2 with⟨rfl,h0⟩ | ⟨g,cap,cur,rfl,_,hh,hnc,_,hsz,htk⟩
  · have:l=[]:=List.eq_nil_of_length_eq_zero h0
    subst this
    exact run_convert_bytes_nil w src U hs hU 0 0 dst hd
  · have:=run_convert_bytes_arg (P:=P) w src U hs hU g 0 l.length cap (l.map fun c=>(c.toNat:Int)) (by simp) (fun i hi=>?_) dst hd
    · rw[this]
      congr 2
      unfold strOfNums
      simp[List.map_map,Function.comp_def]
    · have h1:(uzk l)[i]?=some (.int .u8 (l[i].toNat:Int)):=by simp[uzk,hi]
      have h2:=World.ownsRow.cells h (g:=g) rfl i _ h1
      have ha:(⟨g,0,none⟩:Addr).add i=⟨g,0+i,none⟩:=by unfold Addr.add;split <;> simp_all
      rw[ha] at h2
      rw[h2]
      simp[List.getD,hi]
theorem wyl {P:Program} {U src dst:TypeId} (hs:P.underlying src=some (.slice U)) (hU:P.underlying U=some (.int .u8)) (hd:P.underlying dst=some .string) (xs:Array Value) (l:List UInt8) (h:xs.toList=uzk l) (n c:Nat) (hn:n=l.length) (W:World) (T:TypeId) :
    (convert src dst (.slice (some ⟨W.heap.size,0,none⟩) n c)).run P (W.alloc (.cells xs T))=.ok (.string ⟨l.toArray⟩) (W.alloc (.cells xs T)):=by
  subst hn
  have:=run_convert_bytes_arg (P:=P) (W.alloc (.cells xs T)) src U hs hU W.heap.size 0 l.length c (l.map fun c=>(c.toNat:Int)) (by simp) (fun i hi=>?_) dst hd
  · rw[this]
    congr 2
    unfold strOfNums
    simp[List.map_map,Function.comp_def]
  · have h1:=vqh W xs T l h i l[i] (by simp[hi])
    have ha:(⟨W.heap.size,0,none⟩:Addr).add i=⟨W.heap.size,0+i,none⟩:=by unfold Addr.add;split <;> simp_all
    rw[ha] at h1
    rw[h1]
    simp[List.getD,hi]
section
variable {P:Program} (w:World)
theorem uyo {ops:Array Oper} {rest:List Oper} {o:Oper} {a:Act} {Q:Exit->Act->World->Prop} (hgd:o.guard=none) (s x:Operand) (t:TypeId)
    (ho:o.op=.call { callee:=.builtin .append,args:=#[s,x],argTypes:=#[t,t] })
    (U:TypeId) (ht:P.underlying t=some (.slice U)) (hinfo:(P.info? U).map (fun i=>(i.zero,i.size,i.bytes))=some (some (.int .u8 0),1,1))
    (base:Nat) (v:Value) (l:List UInt8) (hs:a.eval s=v) (hbuf:Buf U w base v l)
    (ad:Addr) (m c:Nat) (news:List UInt8) (hx:a.eval x=.slice (some ad) m c) (hm:m=news.length)
    (hcells:∀j u,news[j]?=some u->w.cell? (ad.add j)=some (.int .u8 (u.toNat:Int))) (hlen:l.length+news.length<=140737488355328) (hbase:base<=w.heap.size)
    (h:∀v' w',Buf U w' base v' (l++news)->Below base w w'->wpList P ops Q rest (a.put o.dst v') w'):wpList P ops Q (o::rest) a w:=by
  obtain⟨i0,hi,hz,hz1,hz2⟩:=info_parts hinfo
  subst hm
  refine wpList_append_own w hgd s x t ho base U i0 (.int .u8 0) 1 1 ht hi hz hz1 hz2 rfl (by decide) v l.length (uzk l) hs hbuf ad news.length c (uzk news) hx (by simp[uzk]) ?_ ?_ ?_ ?_ hbase ?_
  · intro j u hj
    simp only[uzk,List.getElem?_map,Option.map_eq_some_iff] at hj
    obtain⟨u',hu,rfl⟩:=hj
    exact hcells j u' hu
  · intro u hu
    simp only[uzk,List.mem_map] at hu
    obtain⟨u',_,rfl⟩:=hu
    rfl
  · simp only[maxLen];omega
  · omega
  · intro v' w' hown hg hat
    refine h v' w' ?_ ?_
    · unfold Buf
      rw[uke,List.length_append]
      exact hown
    · refine(Below.refl base w).grown hg hbase (fun k hk=>?_)
      exact(World.ownsRow.lt hbuf k hk).1
end
def Blk (w:World) (g:Nat) (t:TypeId) (cs:Array Value):Prop:=w.heap[g]?=some (.cells cs t (0,0))
section
variable {w w':World} {g:Nat} {t:TypeId} {cs:Array Value}
theorem Blk.lt (h:Blk w g t cs):g<w.heap.size:=by
  rcases Nat.lt_or_ge g w.heap.size with hlt | hge
  · exact hlt
  · unfold Blk at h;rw[Array.getElem?_eq_none hge] at h;cases h
theorem Blk.cell (h:Blk w g t cs) (i:Nat):w.cell? ⟨g,i,none⟩=cs[i]?:=cell_of_row w g i cs t (0,0) h
theorem Blk.frozen (h:Blk w g t cs) (i:Nat):w.frozen? ⟨g,i,none⟩=false:=by
  unfold Blk at h
  simp[World.frozen?,h]
theorem Blk.new (w:World) (t:TypeId) (cs:Array Value):Blk (w.alloc (.cells cs t)) w.heap.size t cs:=heap_alloc_new w _
theorem Blk.drew (h:Blk w g t cs):Blk w.drew g t cs:=h
theorem Blk.alloc (h:Blk w g t cs) (o:Obj):Blk (w.alloc o) g t cs:=(Below.heap_alloc w o g h.lt).trans h
theorem Blk.set_ (h:Blk w g t cs) (i:Nat) (u:Value):Blk (w.setCell ⟨g,i,none⟩ u) g t (cs.setIfInBounds i u):=by
  unfold Blk at h ⊢
  simp[World.setCell,Array.getElem?_modify,h]
theorem Blk.far (h:Blk w g t cs) {p:Addr} (hp:g≠p.block) (u:Value):Blk (w.setCell p u) g t cs:=(Below.heap_setCell w p u g hp).trans h
theorem Blk.below {B:Nat} (h:Blk w g t cs) (hb:Below B w w') (hg:g<B):Blk w' g t cs:=(hb.block g hg).trans h
theorem Blk.ne_ {g':Nat} {t':TypeId} {cs':Array Value} (h:Blk w g t cs) (h':Blk w g' t' cs') (hne:t≠t'):g≠g':=by
  rintro rfl
  unfold Blk at h h'
  rw[h] at h'
  injection h' with h'
  injection h' with _ ht
  exact hne ht
theorem Blk.setRow (h:Blk w g t cs) (cs':Array Value):Blk (w.setRow g cs') g t cs':=setRow_heap w g cs cs' t (0,0) h
theorem Blk.setRow_far (h:Blk w g t cs) {g':Nat} (hg:g≠g') (cs':Array Value):Blk (w.setRow g' cs') g t cs:=(setRow_other w g' g cs' hg).trans h
theorem uqh {B:Nat} {a w:World} (h:Below B a w) (hg:B<=g) (cs':Array Value):Below B a (w.setRow g cs') :=
  h.trans ⟨rfl,rfl,rfl,by simp,fun k hk=>setRow_other w g k cs' (by omega)⟩
end
section
variable {P:Program} {w:World} {ops:Array Oper} {rest:List Oper} {op:Oper} {a:Act} {Q:Exit->Act->World->Prop}
theorem ujm {g:Nat} {t ty:TypeId} {cs:Array Value} {d:TypeDesc} (hb:Blk w g t cs) (hu:P.underlying ty=some d) (hd:TypeDesc.isRow d=true) (hi:(P.info? ty).map (·.size)=some cs.size) :
    (loadVar ty ⟨g,0,none⟩).run P w=.ok (.agg cs) w:=run_loadVar_row w g t ty cs (0,0) d hb hu (by cases d <;> simp_all) hi
theorem wqs {U src dst:TypeId} (hs:P.underlying src=some (.slice U)) (hU:P.underlying U=some (.int .u8)) (hd:P.underlying dst=some .string) {g:Nat} {T:TypeId} {xs:Array Value} (hb:Blk w g T xs) (l:List UInt8) (h:xs.toList=uzk l) (n c:Nat) (hn:n=l.length) :
    (convert src dst (.slice (some ⟨g,0,none⟩) n c)).run P w=.ok (.string ⟨l.toArray⟩) w:=by
  subst hn
  have:=run_convert_bytes_arg (P:=P) w src U hs hU g 0 l.length c (l.map fun c=>(c.toNat:Int)) (by simp) (fun i hi=>?_) dst hd
  · rw[this]
    congr 2
    unfold strOfNums
    simp[List.map_map,Function.comp_def]
  · rw[Nat.zero_add,hb.cell,<- Array.getElem?_toList,h]
    simp[uzk,hi,List.getD]
theorem uqa (hgd:op.guard=none) (ty:TypeId) (x:Operand) (ho:op.op=.load ty x) (g:Nat) (hx:a.eval x=.pointer (some ⟨g,0,none⟩)) (t:TypeId) (cs:Array Value) (hb:Blk w g t cs)
    (d:TypeDesc) (hu:P.underlying ty=some d) (hd:TypeDesc.isRow d=true) (hi:(P.info? ty).map (·.size)=some cs.size)
    (h:wpList P ops Q rest (a.put op.dst (.agg cs)) w):wpList P ops Q (op::rest) a w :=
  wpList_plain hgd fun _ hK=>by
    unfold Oper.wp execOp
    simp only[ho,hx,Instr.loadAt,Instr.sureAddr,Sem.run_bind,Sem.run_pure,Result.andThen_ok,ujm hb hu hd hi]
    exact hK _ _ h
theorem uq8 {fn:Func} {p:Tmp} {ty t:TypeId} {g:Nat} {cs:Array Value} {d:TypeDesc} (h:fn.results=#[.cell p ty]) (tmps:Array Value) (hp:tmps.getD p undef=.pointer (some ⟨g,0,none⟩)) (hb:Blk w g t cs)
    (hu:P.underlying ty=some d) (hd:TypeDesc.isRow d=true) (hi:(P.info? ty).map (·.size)=some cs.size):(results fn tmps).run P w=.ok (.agg cs) w:=by
  have hp':tmps[p]?.getD undef=.pointer (some ⟨g,0,none⟩):=by simpa using hp
  simp only[results,h]
  simp[Sem.run_bind,Result.andThen,hp',asAddr,ujm hb hu hd hi]
theorem uxe {fn:Func} {p u v:Tmp} {ty t:TypeId} {g:Nat} {cs:Array Value} {d:TypeDesc} (h:fn.results=#[.cell p ty,.tmp u,.tmp v]) (tmps:Array Value) (hp:tmps.getD p undef=.pointer (some ⟨g,0,none⟩)) (hb:Blk w g t cs)
    (hu:P.underlying ty=some d) (hd:TypeDesc.isRow d=true) (hi:(P.info? ty).map (·.size)=some cs.size):(results fn tmps).run P w=.ok (.tuple #[.agg cs,tmps.getD u undef,tmps.getD v undef]) w:=by
  have hp':tmps[p]?.getD undef=.pointer (some ⟨g,0,none⟩):=by simpa using hp
  simp only[results,h]
  simp[Sem.run_bind,Result.andThen,hp',asAddr,ujm hb hu hd hi]
theorem uqi {fn:Func} {p u:Tmp} {ty t:TypeId} {g:Nat} {cs:Array Value} {d:TypeDesc} (h:fn.results=#[.cell p ty,.tmp u]) (tmps:Array Value) (hp:tmps.getD p undef=.pointer (some ⟨g,0,none⟩)) (hb:Blk w g t cs)
    (hu:P.underlying ty=some d) (hd:TypeDesc.isRow d=true) (hi:(P.info? ty).map (·.size)=some cs.size):(results fn tmps).run P w=.ok (.tuple #[.agg cs,tmps.getD u undef]) w:=by
  have hp':tmps[p]?.getD undef=.pointer (some ⟨g,0,none⟩):=by simpa using hp
  simp only[results,h]
  simp[Sem.run_bind,Result.andThen,hp',asAddr,ujm hb hu hd hi]
theorem uqc (hgd:op.guard=none) (ty:TypeId) (x y:Operand) (ho:op.op=.store ty x y) (g:Nat) (hx:a.eval x=.pointer (some ⟨g,0,none⟩)) (t:TypeId) (cs cs':Array Value) (hb:Blk w g t cs)
    (hy:a.eval y=.agg cs') (hi:(P.info? ty).map (·.size)=some cs'.size) (hs:cs.size=cs'.size) (h1:cs'.all (·.oneCell')=true)
    (h:wpList P ops Q rest (a.put op.dst undef) (w.setRow g cs')):wpList P ops Q (op::rest) a w :=
  wpList_plain hgd fun _ hK=>by
    unfold Oper.wp execOp
    simp only[ho,hx,hy,Instr.storeAt,Instr.sureAddr,Sem.run_bind,Sem.run_pure,Result.andThen_ok,run_storeVar_row w g t ty cs cs' hb hi hs h1]
    exact hK _ _ h
end
section
variable {P:Program} {w:World} {ops:Array Oper} {rest:List Oper} {op:Oper} {a:Act} {Q:Exit->Act->World->Prop}
theorem uqf (hgd:op.guard=none) (ty:TypeId) (x y:Operand) (ho:op.op=.store ty x y) (hx:a.eval x=.pointer (some ⟨w.heap.size,0,none⟩)) (t:TypeId) (cs cs':Array Value)
    (hy:a.eval y=.agg cs') (hi:(P.info? ty).map (·.size)=some cs'.size) (hs:cs.size=cs'.size) (h1:cs'.all (·.oneCell')=true)
    (h:wpList P ops Q rest (a.put op.dst undef) (w.alloc (.cells cs' t))):wpList P ops Q (op::rest) a (w.alloc (.cells cs t)) :=
  uqc hgd ty x y ho w.heap.size hx t cs cs' (Blk.new w t cs) hy hi hs h1 (by rw[World.setRow_alloc_new];exact h)
end
section
variable {P:Program} {ops:Array Oper} {Q:Exit->Act->World->Prop} {md:Region.Mode} {S S':World->Prop}
theorem vzn (h:∀w,S' w->S w):∀(fuel:Nat) (listed:Array Bool) (a:Act) (w:World),wpAnyH P md ops Q S' fuel listed a w->wpAnyH P md ops Q S fuel listed a w
  | 0,_,_,_,hh=>hh
  | fuel+1,_,_,_,hh=>⟨hh.1,fun i hi=>wpOp_mono (fun a' w' h'=>⟨h _ h'.1,vzn h fuel _ a' w' h'.2⟩) (hh.2 i hi)⟩
end
section
open Go.ChangeShapes Go.WideShapes Go.ChangeAt
variable {H:Type} {enc:TypeId×Value->H} {P:Program} {W W':World}
theorem vz9 (hl:laidOutB P=true) (hb:Below W.heap.size W W'):∀{ts:List TypeId} {vs:List Value} {ds:List (DataW H)} {ps:List MemPlace},
    (ts.all fun t=>P.readableRec t&&decide (t<P.types.size))=true->DataW.TrodAll enc P W 0 (fun _=>true) true ts vs ds ps->(∀x∈ps,x.block<W.heap.size) ->
    DataW.TrodAll enc P W' 0 (fun b=>decide (b<W.heap.size)) true ts vs ds ps
  | [],_,_,_,_,h,_=>by
    obtain⟨rfl,rfl,rfl⟩:=trodAll_nil h
    exact trodAll_mk0
  | t::ts,_,_,_,hr,h,hlt=>by
    obtain⟨v,vs1,d,ds1,a,b,rfl,rfl,rfl,h1,h2⟩:=trodAll_cons h
    simp only[List.all_cons,Bool.and_eq_true,decide_eq_true_eq] at hr
    exact trodAll_cons_mk (Below.trod hl hr.1.1 hr.1.2 h1 hb (fun x hx=>hlt x (by simp[hx]))) (vz9 hl hb hr.2 h2 (fun x hx=>hlt x (by simp[hx])))
theorem law_post {f:Func} {s:ChangeSpec} {T:TypeId} {args:Array Value} {ds:List (DataW H)} {before:List MemPlace} (hl:laidOutB P=true)
    (hr:(f.params.toList.all fun t=>P.readableRec t&&decide (t<P.types.size))=true) (hT:P.underlying T=some .bool) (hf:f.resultTypes.toList=[T]) (hfs:f.resultTypes.size=1)
    (hW:DataW.Whole enc P f.params.toList s.vars false W args.toList ds [] before) (hv:s.vars=[])
    (hres:(s.fn H (ds++[])).results=[.lit (.bool true)]) (hargs:(s.fn H (ds++[])).args=ds) (hvs:(s.fn H (ds++[])).vars=[])
    (hb:Below W.heap.size W W'):s.post enc P f false true false false W args (.bool true) W':=by
  have hlt:∀p∈before,p.block<W.heap.size:=fun p hp=>hW.lt p hp
  have hW0:=hW
  obtain⟨p,q,hA,hV,rfl,hfz,hnd⟩:=hW
  refine⟨ds,[],p++q,[],p,[],hW0,?_,?_,?_,?_,fun h=>by cases h⟩
  · rw[hres,hf,hfs]
    exact trodAll_cons_mk (shut_bool hT _) trodAll_mk0
  · rw[hargs]
    exact vz9 hl hb hr hA (fun x hx=>hlt x (by simp[hx]))
  · rw[hvs,hv];rfl
  · exact World.keptBut_mono (fun _ h=>h.elim) (hb.frame (fun _=>False))
end
def bstr (l:List UInt8):ByteArray:=⟨l.toArray⟩
theorem uqu (l:List UInt8):(bstr l).data.toList=l:=by simp[bstr]
theorem uqz (l:List UInt8):(bstr l).size=l.length:=by simp[bstr,ByteArray.size]
theorem ux3 (s:ByteArray):bstr s.data.toList=s:=by cases s;simp[bstr]
theorem vve (l:List UInt8):(bstr l).toList=l:=by rw[ByteArray.toList_eq,uqu]
theorem vza (a b:List UInt8):bstr a++bstr b=bstr (a++b):=by
  apply ByteArray.ext
  simp[bstr,ByteArray.data_append]
theorem uwa (s:ByteArray):s.data.toList.length=s.size:=by simp
theorem bext {a b:ByteArray} (h:a.data.toList=b.data.toList):a=b:=ByteArray.ext (Array.toList_inj.1 h)
theorem vki (s:ByteArray) (i j:Nat):(s.extract i j).data.toList=(s.data.toList.drop i).take (j-i):=by
  rw[ByteArray.data_extract,Array.toList_extract,List.extract_eq_take_drop]
theorem uql (a:Addr) (n:Nat):(a.add n).block=a.block:=by unfold Addr.add;split <;> rfl
theorem uks (a:Addr) (i j:Nat):(a.add i).add j=a.add (i+j):=by
 unfold Addr.add
 by_cases hi:i=0 <;> by_cases hj:j=0 <;> simp[hi,hj,Nat.add_assoc]
def Reads (w:World) (B size:Nat) (A:Option Addr) (n:Nat) (xs:List Value):Prop :=
 xs.length=n*size/\(0<n->∃ad,A=some ad/\ad.block<B/\∀j u,xs[j]?=some u->w.cell? (ad.add j)=some u)
section
variable {w w':World} {B B' size n:Nat} {A:Option Addr} {xs:List Value}
theorem Reads.none_:Reads w B size A 0 []:=⟨by simp,fun h=>absurd h (by omega)⟩
theorem Reads.at_ {k:Nat} (h:Reads w B 1 A n xs) (hk:k<n):∃ad u,A=some ad/\ad.block<B/\xs[k]?=some u/\w.cell? (ad.add k)=some u:=by
 obtain⟨ad,e,hb,hc⟩:=h.2 (by omega)
 have hl:k<xs.length:=by have:=h.1;omega
 exact⟨ad,xs[k],e,hb,List.getElem?_eq_getElem hl,hc k _ (List.getElem?_eq_getElem hl)⟩
theorem Reads.keep (h:Reads w B size A n xs) (hk:∀p:Addr,p.block<B->w'.cell? p=w.cell? p):Reads w' B size A n xs :=
 ⟨h.1,fun hn=>by
  obtain⟨ad,e,hb,hc⟩:=h.2 hn
  exact⟨ad,e,hb,fun j u hu=>(hk _ (by rw[uql];exact hb)).trans (hc j u hu)⟩⟩
theorem Reads.more (h:Reads w B size A n xs) (hB:B<=B'):Reads w B' size A n xs :=
 ⟨h.1,fun hn=>by
  obtain⟨ad,e,hb,hc⟩:=h.2 hn
  exact⟨ad,e,by omega,hc⟩⟩
theorem Reads.below (h:Reads w B size A n xs) (hb:Below B w w'):Reads w' B size A n xs:=h.keep fun _ hp=>hb.cell hp
theorem Reads.drew (h:Reads w B size A n xs):Reads w.drew B size A n xs:=h
theorem Reads.drewN (h:Reads w B size A n xs) (k:Nat):Reads (w.drewN k) B size A n xs:=h
theorem Reads.alloc (h:Reads w B size A n xs) (hB:B<=w.heap.size) (o:Obj):Reads (w.alloc o) B size A n xs:=h.keep fun p hp=>World.cell?_alloc_lt w o p (by omega)
theorem Reads.setCell (h:Reads w B size A n xs) {p:Addr} (hB:B<=p.block) (u:Value):Reads (w.setCell p u) B size A n xs :=
 h.keep fun q hq=>World.cell?_setCell_other w p q u (fun e=>by subst e;omega)
theorem Reads.grown (h:Reads w B size A n xs) {row:Option Nat} (hg:w.grownBy w' row) (hB:B<=w.heap.size) (hr:∀g,row=some g->B<=g):Reads w' B size A n xs :=
 h.keep fun p hp=>World.cell?_of_block (hg.block p.block (by omega) (fun e=>by have:=hr _ e.symm;omega))
theorem Reads.cut (h:Reads w B size A n xs) {k cap:Nat} (hk:k<=n) (hc:n<=cap) :
  Reads w B size (if cap=k then A else A.map (·.add (k*size))) (n-k) (xs.drop (k*size)):=by
 refine⟨by rw[List.length_drop,h.1,Nat.sub_mul],fun hn=>?_⟩
 obtain⟨ad,rfl,hb,hcell⟩:=h.2 (by omega)
 rw[if_neg (by omega)]
 refine⟨ad.add (k*size),rfl,by rw[uql];exact hb,fun j u hu=>?_⟩
 rw[uks]
 exact hcell _ u (by rw[<- hu,List.getElem?_drop])
theorem Reads.of_own {base:Nat} {e:TypeId} {c:Nat} (h:w.ownsRow base e size (.slice A n c) n xs):Reads w w.heap.size size A n xs:=by
 refine⟨h.1,fun hn=>?_⟩
 obtain⟨g,cap,hv,_,hlt⟩:=h.form hn
 have hA:A=some ⟨g,0,none⟩:=by injection hv
 subst hA
 exact⟨_,rfl,hlt,h.cells (g:=g) rfl⟩
end
section
variable {P:Program} (w:World)
theorem vj2 (base:Nat) (t ty e:TypeId) (i:TypeInfo) (size:Nat) (ht:P.underlying t=some (.slice e)) (hi:P.info? e=some i)
  (v:Value) (n:Nat) (xs:List Value) (hown:w.ownsRow base e size v n xs) (c:Nat):(Builtin.append_ #[t,t] ty #[v,.slice none 0 c]).run P w=.ok v w:=by
 rcases hown.2 with⟨rfl,rfl⟩ | ⟨g,cap,cur,rfl,_,_,hnc,_⟩
 ·simp[Builtin.append_,run_underlying ht,sizeOf,typeInfo,hi,Builtin.lenOf,Builtin.firstCells]
 ·simp[Builtin.append_,run_underlying ht,sizeOf,typeInfo,hi,Builtin.lenOf,Builtin.firstCells,hnc,storeCells]
theorem vw8 (base:Nat) (t ty e:TypeId) (i:TypeInfo) (z:Value) (size bytes:Nat) (ht:P.underlying t=some (.slice e)) (hi:P.info? e=some i) (hz:i.zero=some z)
  (hsize:i.size=size) (hby:i.bytes=bytes) (hzs:z.cells.size=size) (hsz:0<size)
  (v:Value) (n:Nat) (xs:List Value) (hown:w.ownsRow base e size v n xs)
  (B:Nat) (A:Option Addr) (m c:Nat) (news:List Value) (hr:Reads w B size A m news) (h1:∀u∈news,u.oneCell'=true)
  (h63:n+m<=maxLen) (hbytes:(n+m)*bytes<=140737488355328) (hbase:base<=w.heap.size) :
  ∃v' w',(Builtin.append_ #[t,t] ty #[v,.slice A m c]).run P w=.ok v' w'/\w'.ownsRow base e size v' (n+m) (xs++news)/\w.grownBy w' v.ownBlock /\
   (v'.ownBlock=v.ownBlock\/v'.ownBlock=some w.heap.size):=by
 rcases A with _ | ad
 ·have hm:m=0:=by
   rcases Nat.eq_zero_or_pos m with h0 | h0
   ·exact h0
   ·obtain⟨ad,h,_⟩:=hr.2 h0
    cases h
  subst hm
  have hn:news=[]:=List.eq_nil_of_length_eq_zero (by simpa using hr.1)
  subst hn
  exact⟨v,w,vj2 w base t ty e i size ht hi v n xs hown c,by simpa using hown,World.grownBy.refl w _,.inl rfl⟩
 ·have hcells:∀j u,news[j]?=some u->w.cell? (ad.add j)=some u:=by
   intro j u hu
   rcases Nat.eq_zero_or_pos m with h0 | h0
   ·subst h0
    have hn:news=[]:=List.eq_nil_of_length_eq_zero (by simpa using hr.1)
    subst hn
    simp at hu
   ·obtain⟨ad',h,_,hc⟩:=hr.2 h0
    injection h with h
    subst h
    exact hc j u hu
  obtain⟨v',w',hrun,h2,h3,_,h5⟩:=run_append_own_at (P:=P) w base t ty e i z size bytes ht hi hz hsize hby hzs hsz v n xs hown ad m c news hr.1 hcells h1 h63 hbytes hbase
  exact⟨v',w',hrun,h2,h3,h5⟩
theorem vjb {o:Oper} {a:Act} {K:Act->World->Prop} {Q:Exit->Act->World->Prop} (s x:Operand) (t:TypeId)
  (ho:o.op=.call { callee:=.builtin .append,args:=#[s,x],argTypes:=#[t,t] })
  (base:Nat) (e:TypeId) (i:TypeInfo) (z:Value) (size bytes:Nat) (ht:P.underlying t=some (.slice e)) (hi:P.info? e=some i) (hz:i.zero=some z)
  (hsize:i.size=size) (hby:i.bytes=bytes) (hzs:z.cells.size=size) (hsz:0<size)
  (v:Value) (n:Nat) (xs:List Value) (hs:a.eval s=v) (hown:w.ownsRow base e size v n xs)
  (B:Nat) (A:Option Addr) (m c:Nat) (news:List Value) (hx:a.eval x=.slice A m c) (hr:Reads w B size A m news) (h1:∀u∈news,u.oneCell'=true)
  (h63:n+m<=maxLen) (hbytes:(n+m)*bytes<=140737488355328) (hbase:base<=w.heap.size)
  (h:∀v' w',w'.ownsRow base e size v' (n+m) (xs++news)->w.grownBy w' v.ownBlock->(v'.ownBlock=v.ownBlock\/v'.ownBlock=some w.heap.size)->K (a.put o.dst v') w'):o.wp P a w K Q:=by
 obtain⟨v',w',hrun,h2,h3,h4⟩:=vw8 (P:=P) w base t o.type e i z size bytes ht hi hz hsize hby hzs hsz v n xs hown B A m c news hr h1 h63 hbytes hbase
 unfold Oper.wp execOp
 simp only[ho,resolve,invoke,builtin,Sem.run_bind,Sem.run_pure,Result.andThen_ok,List.map_toArray,List.map_cons,List.map_nil,hs,hx,hrun]
 exact h v' w' h2 h3 h4
theorem uq6 {ops:Array Oper} {rest:List Oper} {o:Oper} {a:Act} {Q:Exit->Act->World->Prop} (hgd:o.guard=none) (s x:Operand) (t:TypeId)
  (ho:o.op=.call { callee:=.builtin .append,args:=#[s,x],argTypes:=#[t,t] })
  (base:Nat) (e:TypeId) (i:TypeInfo) (z:Value) (size bytes:Nat) (ht:P.underlying t=some (.slice e)) (hi:P.info? e=some i) (hz:i.zero=some z)
  (hsize:i.size=size) (hby:i.bytes=bytes) (hzs:z.cells.size=size) (hsz:0<size)
  (v:Value) (n:Nat) (xs:List Value) (hs:a.eval s=v) (hown:w.ownsRow base e size v n xs)
  (B:Nat) (A:Option Addr) (m c:Nat) (news:List Value) (hx:a.eval x=.slice A m c) (hr:Reads w B size A m news) (h1:∀u∈news,u.oneCell'=true)
  (h63:n+m<=maxLen) (hbytes:(n+m)*bytes<=140737488355328) (hbase:base<=w.heap.size)
  (h:∀v' w',w'.ownsRow base e size v' (n+m) (xs++news)->w.grownBy w' v.ownBlock->(v'.ownBlock=v.ownBlock\/v'.ownBlock=some w.heap.size)->wpList P ops Q rest (a.put o.dst v') w'):wpList P ops Q (o::rest) a w :=
 wpList_plain hgd fun _ hK=>vjb w s x t ho base e i z size bytes ht hi hz hsize hby hzs hsz v n xs hs hown B A m c news hx hr h1 h63 hbytes hbase fun v' w' h2 h3 h4=>hK _ _ (h v' w' h2 h3 h4)
end
def At (w:World) (a:Addr) (cs:List Value):Prop:=∀j v,cs[j]?=some v->w.cell? (a.add j)=some v
theorem At.below {w w':World} {a:Addr} {cs:List Value} {B:Nat} (h:At w a cs) (hb:Below B w w') (ha:a.block<B):At w' a cs :=
 fun j v hv=>(hb.cell (p:=a.add j) (by rw[uql];exact ha)).trans (h j v hv)
theorem At.lt {w:World} {a:Addr} {cs:List Value} {v:Value} (h:At w a (v::cs)):a.block<w.heap.size:=by
 have:=World.block_lt_of_cell? w _ (h 0 v rfl)
 rwa [uql] at this
theorem At.blk {w:World} {g:Nat} {t:TypeId} {cs:Array Value} (h:Blk w g t cs):At w ⟨g,0,none⟩ cs.toList:=by
 intro j v hv
 have ha:(⟨g,0,none⟩:Addr).add j=⟨g,j,none⟩:=by unfold Addr.add;split <;> simp_all
 rw[ha,h.cell]
 simpa using hv
section
variable {P:Program}
theorem ujw (w:World) (a:Addr) (ty:TypeId) (cs:List Value) (d:TypeDesc) (hc:At w a cs)
  (hu:P.underlying ty=some d) (hd:d.isRow=true) (hi:(P.info? ty).map (·.size)=some cs.length) :
  (loadVar ty a).run P w=.ok (.agg cs.toArray) w:=by
 have hl:(loadCells a cs.length).run P w=.ok cs.toArray w :=
  run_loadCells_list (P:=P) w a cs hc
 cases hq:P.info? ty with
 | none=>simp[hq] at hi
 | some i =>
  have hs:i.size=cs.length:=by simpa[hq] using hi
  have hagg:(isAgg ty).run P w=.ok true w:=by
   unfold isAgg
   rw[Sem.run_bind,run_underlying hu w]
   cases d <;> simp_all
  simp[loadVar,Sem.run_bind,hagg,sizeOf,typeInfo,hq,hs,hl]
theorem uqe {ops:Array Oper} {rest:List Oper} {op:Oper} {act:Act} {w:World} {Q:Exit->Act->World->Prop} (hgd:op.guard=none) (ty:TypeId) (x:Operand) (ho:op.op=.load ty x)
  (a:Addr) (hx:act.eval x=.pointer (some a)) (cs:List Value) (d:TypeDesc) (hc:At w a cs)
  (hu:P.underlying ty=some d) (hd:d.isRow=true) (hi:(P.info? ty).map (·.size)=some cs.length)
  (h:wpList P ops Q rest (act.put op.dst (.agg cs.toArray)) w):wpList P ops Q (op::rest) act w :=
 wpList_plain hgd fun _ hK=>by
  unfold Oper.wp execOp
  simp only[ho,hx,Instr.loadAt,Instr.sureAddr,Sem.run_bind,Sem.run_pure,Result.andThen_ok,ujw w a ty cs d hc hu hd hi]
  exact hK _ _ h
end
theorem uqq {P:Program} {ops:Array Oper} {C:World->Prop} {Q:Act->Prop} {op:Oper} {rest:List Oper} {act:Act} (hgd:op.guard=none) (ty:TypeId) (x:Operand) (ho:op.op=.load ty x)
  (a:Addr) (hx:act.eval x=.pointer (some a)) (cs:List Value) (d:TypeDesc) (hc:∀w,C w->At w a cs)
  (hu:P.underlying ty=some d) (hd:d.isRow=true) (hi:(P.info? ty).map (·.size)=some cs.length)
  (h:wpQuiet P ops C Q rest (act.put op.dst (.agg cs.toArray))):wpQuiet P ops C Q (op::rest) act:=by
 have hw:Region.wanted op (yielded ops act.tmps)=true:=by simp[Region.wanted,hgd]
 unfold wpQuiet
 rw[if_pos hw]
 refine⟨_,fun w hC=>?_,h⟩
 unfold Oper.quietAt execOp
 simp only[ho,hx,Instr.loadAt,Instr.sureAddr,Sem.run_bind,Sem.run_pure,Result.andThen_ok,ujw w a ty cs d (hc w hC) hu hd hi]
 exact⟨rfl,rfl⟩
theorem At.drewN {w:World} {a:Addr} {cs:List Value} (h:At w a cs) (n:Nat):At (w.drewN n) a cs:=h
def Elts (w:World) (B size:Nat) (p:Option Addr) (rows:List (List Value)):Prop :=
 (∀r∈rows,r.length=size)/\(0<rows.length->∃a,p=some a/\a.block<B/\∀k r,rows[k]?=some r->At w (a.add (k*size)) r)
section
variable {w w':World} {B B' size:Nat} {p:Option Addr} {rows:List (List Value)}
theorem Elts.nil_:Elts w B size p []:=⟨by simp,fun h=>absurd h (by simp)⟩
theorem Elts.at_ (h:Elts w B size p rows) {k:Nat} {r:List Value} (hk:rows[k]?=some r):∃a,p=some a/\a.block<B/\r.length=size/\At w (a.add (k*size)) r:=by
 have hl:k<rows.length:=by
  rcases Nat.lt_or_ge k rows.length with h1 | h1
  ·exact h1
  ·rw[List.getElem?_eq_none h1] at hk;cases hk
 obtain⟨a,e,hb,hc⟩:=h.2 (by omega)
 exact⟨a,e,hb,h.1 r (List.mem_of_getElem? hk),hc k r hk⟩
theorem Elts.below (h:Elts w B size p rows) (hb:Below B w w'):Elts w' B size p rows :=
 ⟨h.1,fun hn=>by
  obtain⟨a,e,hB,hc⟩:=h.2 hn
  exact⟨a,e,hB,fun k r hr=>(hc k r hr).below hb (by rw[uql];exact hB)⟩⟩
theorem Elts.more (h:Elts w B size p rows) (hB:B<=B'):Elts w B' size p rows :=
 ⟨h.1,fun hn=>by
  obtain⟨a,e,hb,hc⟩:=h.2 hn
  exact⟨a,e,by omega,hc⟩⟩
theorem uxf (h:∀r∈rows,r.length=size):rows.flatten.length=rows.length*size:=by
 induction rows with
 | nil=>simp
 | cons r t ih=>rw[List.flatten_cons,List.length_append,ih (fun x hx=>h x (by simp[hx])),h r (by simp),List.length_cons,Nat.add_mul];omega
theorem wvi:∀(rows:List (List Value)) (size k j:Nat) (r:List Value) (v:Value),(∀r∈rows,r.length=size)->rows[k]?=some r->r[j]?=some v->rows.flatten[k*size+j]?=some v
 | [],_,k,_,_,_,_,hr,_=>by simp at hr
 | x::t,size,0,j,r,v,h,hr,hv=>by
  simp at hr;subst hr
  rw[List.flatten_cons,Nat.zero_mul,Nat.zero_add,List.getElem?_append_left (by exact(List.getElem?_eq_some_iff.1 hv).1)];exact hv
 | x::t,size,k+1,j,r,v,h,hr,hv=>by
  have hx:=h x (by simp)
  rw[List.flatten_cons,List.getElem?_append_right (by rw[hx,Nat.add_mul];omega),hx,show(k+1)*size+j-size=k*size+j by rw[Nat.add_mul];omega]
  exact wvi t size k j r v (fun y hy=>h y (by simp[hy])) (by simpa using hr) hv
theorem Elts.of_reads {n:Nat} (hs:∀r∈rows,r.length=size) (h:Reads w B size p n rows.flatten) (hn:n=rows.length):Elts w B size p rows:=by
 subst hn
 refine⟨hs,fun h0=>?_⟩
 obtain⟨a,e,hb,hc⟩:=h.2 h0
 refine⟨a,e,hb,fun k r hr j v hv=>?_⟩
 rw[uks]
 exact hc _ v (wvi rows size k j r v hs hr hv)
theorem wyv:∀(rows:List (List Value)) (size i:Nat) (v:Value),(∀r∈rows,r.length=size)->rows.flatten[i]?=some v->∃k j r,i=k*size+j/\rows[k]?=some r/\r[j]?=some v
 | [],_,i,v,_,hv=>by simp at hv
 | x::t,size,i,v,h,hv=>by
  have hx:=h x (by simp)
  rw[List.flatten_cons] at hv
  rcases Nat.lt_or_ge i size with hi | hi
  ·rw[List.getElem?_append_left (by omega)] at hv
   exact⟨0,i,x,by omega,rfl,hv⟩
  ·rw[List.getElem?_append_right (by omega),hx] at hv
   obtain⟨k,j,r,e,hr,hj⟩:=wyv t size (i-size) v (fun y hy=>h y (by simp[hy])) hv
   exact⟨k+1,j,r,by rw[Nat.add_mul];omega,by simpa using hr,hj⟩
theorem Elts.reads (h:Elts w B size p rows):Reads w B size p rows.length rows.flatten:=by
 refine⟨uxf h.1,fun h0=>?_⟩
 obtain⟨a,e,hb,hc⟩:=h.2 h0
 refine⟨a,e,hb,fun i v hv=>?_⟩
 obtain⟨k,j,r,rfl,hr,hj⟩:=wyv rows size i v h.1 hv
 rw[<- uks]
 exact hc k r hr j v hj
theorem Elts.of_own {base c:Nat} {e:TypeId} (hs:∀r∈rows,r.length=size) (h:w.ownsRow base e size (.slice p rows.length c) rows.length rows.flatten):Elts w w.heap.size size p rows :=
 .of_reads hs (Reads.of_own h) rfl
end
open Go.Shelf Go.Lib
def Tabs (w:World):Prop:=Lib.Utf8Tabs (Tryz.laysValid_ren.g 3) (Tryz.laysValid_ren.g 4) w
theorem Tabs.below {w w':World} (h:Tabs w) (hb:Below w.heap.size w w'):Tabs w':=Utf8Tabs_below h hb
theorem xzc:Go.Pinned.utf8First=Lib.firstData:=by kernel_rfl
theorem wv4:Rows.laid_unicode_utf8_acceptRanges=Lib.acceptData:=by kernel_rfl
theorem wxo {w:World} (h3:VarReads prog w "unicode/utf8.first" Lib.firstData) (h4:VarReads prog w "unicode/utf8.acceptRanges" Lib.acceptData):Tabs w :=
 utf8Tabs_of_readsT (U8Types.of196 Tryz.laysValid) ⟨by kernel_rfl,by kernel_rfl,by kernel_rfl,by kernel_rfl,by kernel_rfl,by kernel_rfl,by kernel_rfl⟩ h3 h4
def vT (s:ByteArray):Bool:=Lib.validD s.data.toList
theorem vja (s:ByteArray) (w:World) (hs:s.size<=9223372036854775807) (hT:Tabs w) :
  Calls prog 170 #[.string s] w fun e w'=>e=.returned (.bool (vT s))/\Below w.heap.size w w' :=
 Any.utf8_ValidString Tryz.laysValid s w hs hT
def laidL:List (String×DataW Unit):=[("unicode/utf8.acceptRanges",Rows.laid_unicode_utf8_acceptRanges),("unicode/utf8.first",Rows.laid_unicode_utf8_first)]
theorem tabs_of_laid {W:World} (hL:laidMetH prog laidL W):Tabs W :=
 wxo (by rw[<- xzc];exact Lib.laidMet.reads hL (.tail _ (.head _))) (by rw[<- wv4];exact Lib.laidMet.reads hL (.head _))
noncomputable def laidWorld (os:Os):World :=
 let w0:=World.holding prog os ⟨#[],#[],[]⟩
 let put (h:Array Obj) (g:Nat) (cs:Array Value):Array Obj:=h.modify g fun
  | .cells _ t frozen=>.cells cs t frozen
  | o=>o
 let h1:=put w0.heap (Tryz.laysValid_ren.g 3) (Lib.firstTab.map fun z=>Value.int .u8 z).toArray
 let h2:=put h1 (Tryz.laysValid_ren.g 4) ((List.range 16).flatMap fun i=>[Value.int .u8 (Lib.accLo i),Value.int .u8 (Lib.accHi i)]).toArray
 { w0 with heap:=h2 }
theorem laid_met (os:Os) (args:Array Value):laidMet prog laidL ((laidWorld os).forCall (fun _ _=>0) ⟨#[],args,[]⟩).memory :=
 (LaidIn.of_run (l:=laidL) [Tryz.laysValid_ren.g 4,Tryz.laysValid_ren.g 3] 8 (by kernel_rfl) (by kernel_rfl) (by kernel_rfl) (by kernel_rfl)).met
def Abv (W w':World):Prop:=Below W.heap.size W w'
theorem Abv.refl (W:World):Abv W W:=Below.refl _ _
theorem Abv.step {W a b:World} (h:Abv W a) (hb:Below a.heap.size a b):Abv W b:=bthen h hb
section
variable {P:Program} {ops:Array Oper} {C:World->Prop} {Q:Act->Prop} {o:Oper} {rest:List Oper} {a:Act} {v:Value}
theorem uxs (hw:Region.wanted o (yielded ops a.tmps)=true) (h:∀w,C w->o.quietAt P a C w v) (hn:wpQuiet P ops C Q rest (a.put o.dst v)):wpQuiet P ops C Q (o::rest) a:=by
 unfold wpQuiet
 rw[if_pos hw]
 exact⟨v,h,hn⟩
theorem uqt (hw:Region.wanted o (yielded ops a.tmps)=true) (ty:TypeId) (x:Operand) (ho:o.op=.load ty x)
  (ad:Addr) (hx:a.eval x=.pointer (some ad)) (cs:List Value) (d:TypeDesc) (hc:∀w,C w->At w ad cs)
  (hu:P.underlying ty=some d) (hd:d.isRow=true) (hi:(P.info? ty).map (·.size)=some cs.length)
  (h:wpQuiet P ops C Q rest (a.put o.dst (.agg cs.toArray))):wpQuiet P ops C Q (o::rest) a:=by
 refine uxs (v:=.agg cs.toArray) hw (fun w hC=>?_) h
 unfold Oper.quietAt execOp
 simp only[ho,hx,Instr.loadAt,Instr.sureAddr,Sem.run_bind,Sem.run_pure,Result.andThen_ok,ujw w ad ty cs d (hc w hC) hu hd hi]
 exact⟨rfl,rfl⟩
theorem uxq {id:Nat} {Q:Exit->Act->World->Prop} {a:Act} {w:World} {l:List Oper} (hm:P.follows .mixedOrders=true) (hB:Region.lexB .any l.toArray=true)
  (h:wpQuiet P l.toArray (Abv w) (fun a'=>∀w',Abv w w'->Q .normal a' w') l a):(Code.region id l.toArray true).wp P Q a w :=
 wp_region_quiet (C:=Abv w) hm hB (Below.refl _ w).drew (by simpa using h)
end
open Go.ChangeMaps
def Ents (es:List MapEntry) (m:List (ByteArray×Value)):Prop:=es.map (fun e=>(e.key,e.val))=m.map (fun p=>(Value.string p.1,p.2))
def MapIs (w:World) (b:Nat) (m:List (ByteArray×Value)):Prop:=∃es clock,w.heap[b]?=some (.map es clock)/\Ents es.toList m/\(m.map (·.1)).Nodup
theorem bqT (a b:ByteArray):(a == b)=decide (a=b):=by
 rw[Bool.eq_iff_iff,MapKept.bytes_beq,decide_eq_true_iff]
def getM:List (ByteArray×Value)->ByteArray->Option Value
 | [],_=>none
 | p::m,k=>if p.1=k then some p.2 else getM m k
def putM:List (ByteArray×Value)->ByteArray->Value->List (ByteArray×Value)
 | [],k,v=>[(k,v)]
 | p::m,k,v=>if p.1=k then(k,v)::m else p::putM m k v
theorem wq5 (m:List (ByteArray×Value)) (k k':ByteArray) (v:Value):getM (putM m k v) k'=if k=k' then some v else getM m k':=by
 induction m with
 | nil=>rfl
 | cons p m ih =>
  unfold putM
  by_cases hp:p.1=k
  ·rw[if_pos hp]
   show(if k=k' then some v else getM m k')=if k=k' then some v else(if p.1=k' then some p.2 else getM m k')
   by_cases hk:k=k'
   ·rw[if_pos hk,if_pos hk]
   ·rw[if_neg hk,if_neg hk,if_neg (by rw[hp];exact hk)]
  ·rw[if_neg hp]
   show(if p.1=k' then some p.2 else getM (putM m k v) k')=if k=k' then some v else(if p.1=k' then some p.2 else getM m k')
   rw[ih]
   by_cases hk:k=k'
   ·rw[if_pos hk,if_pos hk,if_neg (by rw[<- hk];exact hp)]
   ·rw[if_neg hk,if_neg hk]
theorem putM_mem (m:List (ByteArray×Value)) (k:ByteArray) (v:Value) (x:ByteArray) (h:x∈(putM m k v).map (·.1)):x=k\/x∈m.map (·.1):=by
 induction m with
 | nil=>simp[putM] at h;exact .inl h
 | cons p m ih =>
  unfold putM at h
  by_cases hp:p.1=k
  ·rw[if_pos hp] at h
   rcases List.mem_cons.1 h with h | h
   ·exact .inl h
   ·exact .inr (List.mem_cons_of_mem _ h)
  ·rw[if_neg hp] at h
   rcases List.mem_cons.1 h with h | h
   ·exact .inr (by rw[h];exact List.mem_cons_self)
   ·rcases ih h with h | h
    ·exact .inl h
    ·exact .inr (List.mem_cons_of_mem _ h)
theorem wj0 (m:List (ByteArray×Value)) (k:ByteArray) (v:Value) (h:(m.map (·.1)).Nodup):((putM m k v).map (·.1)).Nodup:=by
 induction m with
 | nil=>simp[putM]
 | cons p m ih =>
  rw[List.map_cons,List.nodup_cons] at h
  unfold putM
  by_cases hp:p.1=k
  ·rw[if_pos hp,List.map_cons,List.nodup_cons]
   exact⟨by rw[<- hp];exact h.1,h.2⟩
  ·rw[if_neg hp,List.map_cons,List.nodup_cons]
   refine⟨fun hm=>?_,ih h.2⟩
   rcases putM_mem m k v _ hm with h2 | h2
   ·exact hp h2
   ·exact h.1 h2
theorem putM_new (m:List (ByteArray×Value)) (k:ByteArray) (v:Value) (h:getM m k=none):putM m k v=m++[(k,v)]:=by
 induction m with
 | nil=>rfl
 | cons p m ih =>
  unfold getM at h
  by_cases hp:p.1=k
  ·rw[if_pos hp] at h;cases h
  ·rw[if_neg hp] at h
   unfold putM
   rw[if_neg hp,ih h];rfl
theorem xwe:∀(m:List (ByteArray×Value)) (k:ByteArray) (v v0:Value) (j:Nat),m[j]?=some (k,v0)->(m.map (·.1)).Nodup->putM m k v=m.set j (k,v)
 | [],k,v,v0,j,h,_=>by simp at h
 | p::m,k,v,v0,0,h,_=>by
  simp at h;subst h
  simp[putM]
 | p::m,k,v,v0,j+1,h,hn=>by
  rw[List.map_cons,List.nodup_cons] at hn
  have hj:m[j]?=some (k,v0):=by simpa using h
  have hp:p.1≠k:=fun e=>hn.1 (by rw[e];exact List.mem_map.2 ⟨(k,v0),List.mem_of_getElem? hj,rfl⟩)
  unfold putM
  rw[if_neg hp,xwe m k v v0 j hj hn.2,List.set_cons_succ]
theorem vzb (k:ByteArray):∀(es:List MapEntry) (m:List (ByteArray×Value)) (i:Nat),Ents es m ->
  (getM m k=none/\Instr.findNow .string (.string k) es i=some none)\/∃j v e,getM m k=some v/\es[j]?=some e/\e.key=.string k/\e.val=v/\m[j]?=some (k,v)/\Instr.findNow .string (.string k) es i=some (some (i+j,v))
 | [],m,i,h=>by
  cases m with
  | nil=>exact .inl ⟨rfl,rfl⟩
  | cons p m=>simp[Ents] at h
 | e::es,[],i,h=>by simp[Ents] at h
 | e::es,p::m,i,h=>by
  simp only[Ents,List.map_cons,List.cons.injEq,Prod.mk.injEq] at h
  obtain⟨⟨h1,h2⟩,h3⟩:=h
  unfold getM
  by_cases hk:p.1=k
  ·rw[if_pos hk]
   refine .inr ⟨0,p.2,e,rfl,rfl,by rw[h1,hk],h2,by rw[<- hk];rfl,?_⟩
   simp[Instr.findNow,Instr.sameNow,h1,hk,h2,bqT]
  ·rw[if_neg hk]
   have hf:Instr.findNow .string (.string k) (e::es) i=Instr.findNow .string (.string k) es (i+1):=by
    have:(k == p.1)=false:=by rw[bqT,decide_eq_false_iff_not];exact fun h=>hk h.symm
    simp[Instr.findNow,Instr.sameNow,h1,this]
   rw[hf]
   rcases vzb k es m (i+1) h3 with⟨a,b⟩ | ⟨j,v,e',a1,a2,a3,a4,a5,a6⟩
   ·exact .inl ⟨a,b⟩
   ·exact .inr ⟨j+1,v,e',a1,by simpa using a2,a3,a4,by simpa using a5,by rw[a6];congr 3;omega⟩
section
variable {P:Program} {w:World} {b:Nat} {m:List (ByteArray×Value)} {t k e:TypeId}
theorem ujz (hk:P.underlying k=some .string) (c:Bool) (s:ByteArray):(Instr.checkKey c 10000 k (.string s)).run P w=.ok () w:=by
 unfold Instr.checkKey
 simp[run_underlying hk]
theorem uwy (h:MapIs w b m) (ht:P.underlying t=some (.map k e)) (hk:P.underlying k=some .string) (s:ByteArray) (z:Value) (hz:(zeroValue e).run P w=.ok z w) (c:Bool) :
  (Instr.lookup t (.map (some b)) (.string s) c).run P w=.ok (if c then .tuple #[(getM m s).getD z,.bool (getM m s).isSome] else(getM m s).getD z) w:=by
 obtain⟨es,clock,hb,he,hn⟩:=h
 rcases vzb s es.toList m 0 he with⟨a1,a2⟩ | ⟨j,v,e',a1,_,_,_,_,a2⟩
 ·cases c <;> simp[Instr.lookup,run_underlying ht,MapKept.run_getObj_map hb,ujz hk,Instr.findKey,run_underlying hk,a1,a2,hz,Result.andThen]
 ·cases c <;> simp[Instr.lookup,run_underlying ht,MapKept.run_getObj_map hb,ujz hk,Instr.findKey,run_underlying hk,a1,a2,Result.andThen]
theorem Ents.push {es:List MapEntry} (h:Ents es m) (s:ByteArray) (v:Value) (c:Nat):Ents (es++[⟨.string s,v,c⟩]) (m++[(s,v)]):=by
 unfold Ents at h ⊢
 simp[h]
theorem uwz (h:MapIs w b m) (ht:P.underlying t=some (.map k e)) (hk:P.underlying k=some .string) (s:ByteArray) (v:Value) :
  ∃w',(Instr.mapUpdate t (.map (some b)) (.string s) v).run P w=.ok () w'/\MapIs w' b (putM m s v)/\w.grownBy w' (some b)/\w'.heap.size=w.heap.size:=by
 obtain⟨es,clock,hb,he,hn⟩:=h
 have hg:∀o:Obj,w.grownBy (setBlock w b o) (some b):=fun o=>⟨rfl,rfl,rfl,by simp[setBlock],fun i _ hi=>heap_setBlock_other hb _ (fun e=>hi (by rw[e]))⟩
 rcases vzb s es.toList m 0 he with⟨a1,a2⟩ | ⟨j,v0,e',a1,a3,a4,a5,a6,a2⟩
 ·refine⟨setBlock w b (.map (es.push ⟨.string s,v,clock⟩) (clock+1)),?_,⟨_,_,heap_setBlock_same hb _,?_,wj0 m s v hn⟩,hg _,by simp[setBlock]⟩
  ·simp[Instr.mapUpdate,run_underlying ht,MapKept.run_getObj_map hb,ujz hk,Instr.findKey,run_underlying hk,a2,MapKept.run_setObj_map _ hb,Result.andThen,setBlock]
  ·rw[putM_new m s v a1,Array.toList_push]
   exact he.push s v clock
 ·have hj:es[j]?=some e':=by simpa using a3
  have hjl:j<es.size:=(Array.getElem?_eq_some_iff.1 hj).1
  have hsb:(Instr.keyThatStays (.string s) (.string s)).run P w=.ok (.string s) w:=by
   unfold Instr.keyThatStays
   rw[if_pos (by simp[Instr.sameBits,bqT])]
   rfl
  have hm:es.modify j (fun e=>{ e with key:=.string s,val:=v })=es.setIfInBounds j { e' with key:=.string s,val:=v }:=by
   apply Array.ext
   ·simp
   ·intro i h1 h2
    simp at h1
    rw[Array.getElem_modify,Array.getElem_setIfInBounds]
    by_cases hji:j=i
    ·subst hji
     rw[if_pos rfl,if_pos rfl]
     have:es[j]=e':=by rw[Array.getElem?_eq_getElem hjl] at hj;injection hj
     rw[this]
    ·rw[if_neg hji,if_neg hji]
  refine⟨setBlock w b (.map (es.modify j fun e=>{ e with key:=.string s,val:=v }) clock),?_,⟨_,_,heap_setBlock_same hb _,?_,wj0 m s v hn⟩,hg _,by simp[setBlock]⟩
  ·simp[Instr.mapUpdate,run_underlying ht,MapKept.run_getObj_map hb,ujz hk,Instr.findKey,run_underlying hk,a2,hj,a4,hsb,MapKept.run_setObj_map _ hb,Result.andThen,setBlock]
  ·rw[xwe m s v v0 j a6 hn,hm,Array.toList_setIfInBounds]
   unfold Ents at he ⊢
   rw[List.map_set,List.map_set,he]
end
open Go.ChangeShapes Go.WideShapes Go.Deep
theorem xvr {α:Type} (R:Nat->α->Prop):∀n:Nat,(∀i,i<n->∃x,R i x)->∃l:List α,l.length=n/\∀i x,l[i]?=some x->R i x
 | 0,_=>⟨[],rfl,fun i x h=>by simp at h⟩
 | n+1,h=>by
  obtain⟨l,hl,hr⟩:=xvr R n (fun i hi=>h i (by omega))
  obtain⟨x,hx⟩:=h n (by omega)
  refine⟨l++[x],by simp[hl],fun i y hy=>?_⟩
  rcases Nat.lt_or_ge i l.length with hi | hi
  ·rw[List.getElem?_append_left hi] at hy;exact hr i y hy
  ·rw[List.getElem?_append_right hi] at hy
   have:i-l.length=0:=by
    rcases Nat.eq_zero_or_pos (i-l.length) with h0 | h0
    ·exact h0
    ·rw[List.getElem?_eq_none (by simp;omega)] at hy;cases hy
   rw[this] at hy
   simp at hy;subst hy
   have:i=n:=by omega
   subst this
   exact hx
section
variable {H:Type} {enc:TypeId×Value->H} {P:Program} {w:World} {base:Nat} {spare:Nat->Bool} {held:Bool}
theorem uv1 {e:TypeId} {fs:Array Field} {fuel:Nat} {cs:List Value} {d:DataW H} {pl:List MemPlace} (he:P.underlying e=some (.struct fs)) (hone:oneCellFields P fs=true) (hl:cs.length=fs.size)
  (h:DataW.trod enc P w base spare held fuel e cs=some (d,pl)) :
  ∃(ys:List (DataW H×List MemPlace)) (n:Nat),d=.agg (ys.map (·.1))/\ys.length=fs.size /\
   ∀(j:Nat) (f:Field),fs[j]?=some f->∃(v:Value) (y:DataW H×List MemPlace),cs[j]?=some v/\ys[j]?=some y/\DataW.trod enc P w base spare held n f.type [v]=some y:=by
 obtain⟨ys,n',hn',hy,hlen,hyl,hf⟩:=DataW.trod_struct he h
 simp only[Prod.mk.injEq] at hy
 refine⟨ys,n',hy.1,hyl,fun j f hj=>?_⟩
 obtain⟨ho,hk⟩:=hone_of hone j f hj
 have hjl:j<fs.size:=(Array.getElem?_eq_some_iff.1 hj).1
 have hv:cs[j]?=some (cs[j]'(by omega)):=List.getElem?_eq_getElem (by omega)
 have h1:=hf j f hj
 rw[ho,hk] at h1
 have hone':(cs.drop j).take 1=[cs[j]'(by omega)]:=by
  rw[List.drop_eq_getElem_cons (by omega)]
  rfl
 rw[hone'] at h1
 have hys:ys[j]?=some (ys[j]'(by omega)):=List.getElem?_eq_getElem (by omega)
 exact⟨_,_,hv,hys,h1.trans hys⟩
theorem vxo {α:Type} (rowOf:α->List Value) (datOf:α->DataW H) (ok:α->Prop) (C:Nat) {t e:TypeId} {v:Value} {d:DataW H} {ps:List MemPlace} {fuel:Nat}
  (ht:P.underlying t=some (.slice e)) (hC:P.cellsOf e=C) (hpos:0<C) (hf:DataW.trod enc P w base spare held fuel t [v]=some (d,ps))
  (hel:∀n cs' d' pl,cs'.length=C->DataW.trod enc P w base spare held n e cs'=some (d',pl)->∃x,cs'=rowOf x/\d'=datOf x/\ok x) :
  ∃p c,∃l:List α,v=.slice p l.length c/\l.length<=c/\c<=maxLen/\Elts w w.heap.size C p (l.map rowOf)/\(∀x∈l,ok x) /\
   ((l=[]/\p=none/\c=0/\d=.nil)\/∃rest:List α,d=.slice (l.map datOf) (rest.map datOf)):=by
 rcases open_slice ht hf with⟨h0,hx⟩ | ⟨a,len,cap,m,n,D,Pl,hcs,hb,hl,hm,hmm,hx,hi⟩
 ·simp at h0
  subst h0
  simp only[Prod.mk.injEq] at hx
  exact⟨none,0,[],rfl,by simp,by simp,Elts.nil_,by simp,.inl ⟨rfl,rfl,rfl,hx.1⟩⟩
 ·simp at hcs
  subst hcs
  rw[hC] at hi
  have hlm:len<=m:=by rw[hmm];split <;> omega
  obtain⟨all,hall,hR⟩:=xvr (fun i (x:α)=>ok x/\D i=datOf x/\(rowOf x).length=C/\At w (a.add (i*C)) (rowOf x)) m (fun i him=>by
   obtain⟨cs',hc,ht'⟩:=hi i him
   obtain⟨_,hcl,hat⟩:=World.cells?_some hc
   obtain⟨x,hrow,hd,hok⟩:=hel n cs' _ _ hcl ht'
   refine⟨x,hok,hd,hrow ▸ hcl,fun j u hj=>?_⟩
   rw[<- hrow] at hj
   have hjl:j<C:=by rw[<- hcl];exact(List.getElem?_eq_some_iff.1 hj).1
   rw[hat j hjl,hj])
  have hat:∀i x,(all.take len)[i]?=some x->ok x/\D i=datOf x/\(rowOf x).length=C/\At w (a.add (i*C)) (rowOf x):=by
   intro i x hx
   refine hR i x ?_
   rw[List.getElem?_take] at hx
   split at hx
   ·exact hx
   ·cases hx
  have hlen:(all.take len).length=len:=by rw[List.length_take];omega
  refine⟨some a,cap,all.take len,by rw[hlen],by omega,hm,⟨?_,fun hp=>⟨a,rfl,?_,?_⟩⟩,?_,.inr ⟨all.drop len,?_⟩⟩
  ·intro r hr
   obtain⟨x,hx,rfl⟩:=List.mem_map.1 hr
   obtain⟨i,hi2⟩:=List.mem_iff_getElem?.1 hx
   exact(hat i x hi2).2.2.1
  ·rw[List.length_map] at hp
   have hx:(all.take len)[0]?=some (all.take len)[0]:=List.getElem?_eq_getElem hp
   obtain⟨_,_,h3,h4⟩:=hat 0 _ hx
   have:0<(rowOf (all.take len)[0]).length:=by omega
   have hc:=h4 0 _ (List.getElem?_eq_getElem this)
   have:=World.block_lt_of_cell? w _ hc
   rwa [uql,uql] at this
  ·intro k r hr
   rw[List.getElem?_map] at hr
   cases hx:(all.take len)[k]? with
   | none=>rw[hx] at hr;cases hr
   | some x =>
    rw[hx] at hr
    injection hr with hr
    subst hr
    exact(hat k x hx).2.2.2
  ·intro x hx
   obtain⟨i,hi2⟩:=List.mem_iff_getElem?.1 hx
   exact(hat i x hi2).1
  ·simp only[Prod.mk.injEq] at hx
   rw[hx.1]
   have eD:∀i (h:i<m),D i=datOf (all[i]'(by omega)):=fun i h=>(hR i _ (List.getElem?_eq_getElem (by omega))).2.1
   congr 1
   ·apply List.ext_getElem
    ·simp;omega
    ·intro i h1 h2
     simp at h1 h2 ⊢
     exact eD i (by omega)
   ·apply List.ext_getElem
    ·simp;omega
    ·intro i h1 h2
     simp at h1 h2 ⊢
     exact eD (len+i) (by omega)
theorem vqv {α:Type} (rowOf:α->List Value) (datOf:α->DataW H) (ok:α->Prop) (C:Nat) {r:Reach} {b0:Nat} {t e:TypeId} {v:Value} {d:DataW H} {ps:List MemPlace}
  (ht:P.underlying t=some (.slice e)) (hC:P.cellsOf e=C) (hpos:0<C) (hv:Value.okWide P w r b0 t v) (h:DataW.Trod enc P w base spare held t v d ps)
  (hel:∀n cs' d' pl,cs'.length=C->DataW.trod enc P w base spare held n e cs'=some (d',pl)->∃x,cs'=rowOf x/\d'=datOf x/\ok x) :
  ∃p c,∃l:List α,v=.slice p l.length c/\l.length<=c/\c<=maxLen/\Elts w w.heap.size C p (l.map rowOf)/\(∀x∈l,ok x) /\
   ((l=[]/\p=none/\c=0/\d=.nil)\/∃rest:List α,d=.slice (l.map datOf) (rest.map datOf)):=by
 obtain⟨a0,n0,c0,rfl⟩:=okWide_slice ht hv
 obtain⟨fuel,hf⟩:=h
 exact vxo rowOf datOf ok C ht hC hpos hf hel
end
def OwnS (w:World) (base:Nat) (v:Value) (l:List ByteArray):Prop:=w.ownsRow base 9 1 v l.length (l.map Value.string)
theorem OwnS.below {a b:World} {base:Nat} {v:Value} {l:List ByteArray} (h:OwnS a base v l) (hb:Below a.heap.size a b):OwnS b base v l :=
 World.ownsRow.kept (row:=none) h ⟨hb.os,hb.tape,hb.output,hb.size,fun k hk _=>hb.block k hk⟩ (Classical.em _)
theorem OwnS.alloc {a:World} {base:Nat} {v:Value} {l:List ByteArray} (h:OwnS a base v l) (o:Obj):OwnS (a.alloc o) base v l:=World.ownsRow.alloc h o
theorem OwnS.form {w:World} {base:Nat} {v:Value} {l:List ByteArray} (h:OwnS w base v l):∃a c,v=.slice a l.length c:=by
 rcases h.2 with⟨rfl,h0⟩ | ⟨g,cap,cur,rfl,_⟩
 ·exact⟨none,0,by rw[h0]⟩
 ·exact⟨_,cap,rfl⟩
def rowS (s:ByteArray):List Value:=[.string s]
theorem xzx (l:List ByteArray):(l.map rowS).flatten=l.map Value.string:=by
 induction l with
 | nil=>rfl
 | cons x r ih=>simp only[List.map_cons,List.flatten_cons,ih,rowS,List.cons_append,List.nil_append]
theorem xzy (l:List ByteArray):∀r∈l.map rowS,r.length=1:=by
 intro r hr
 obtain⟨x,_,rfl⟩:=List.mem_map.1 hr
 rfl
theorem OwnS.elts {w:World} {base:Nat} {p:Option Addr} {c:Nat} {l:List ByteArray} (h:OwnS w base (.slice p l.length c) l):Elts w w.heap.size 1 p (l.map rowS) :=
 .of_own (c:=c) (xzy l) (by rw[List.length_map,xzx];exact h)
theorem own_ge {w:World} {base:Nat} {e:TypeId} {size n m c:Nat} {xs:List Value} {p:Option Addr} (h:w.ownsRow base e size (.slice p n c) m xs):∀a,p=some a->base<=a.block:=by
 rintro a rfl
 rcases h.2 with⟨h0,_⟩ | ⟨g',cap,cur,h0,hb,_⟩
 ·simp at h0
 ·simp at h0
  obtain⟨rfl,_⟩:=h0
  exact hb
theorem uwm:(prog.info? 9).map (fun i=>(i.zero,i.size,i.bytes))=some (some (.string ByteArray.empty),1,16):=by kernel_rfl
section
variable {w:World} {ops:Array Oper} {rest:List Oper} {o:Oper} {a:Act} {Q:Exit->Act->World->Prop}
end
def rowI (z:Int):List Value:=[.int .i64 z]
def datI {H:Type} (z:Int):DataW H:=.lit (.int .i64 z)
def okI (z:Int):Prop := -9223372036854775808<=z/\z<=9223372036854775807
section
variable {w:World} {B size:Nat} {p:Option Addr} {rows:List (List Value)}
theorem Blk.reads1 {g:Nat} {t:TypeId} {cs:Array Value} (h:Blk w g t cs) (hs:cs.size=size):Reads w w.heap.size size (some ⟨g,0,none⟩) 1 cs.toList:=by
 refine⟨by simp[hs],fun _=>⟨_,rfl,h.lt,fun j u hu=>?_⟩⟩
 have hadd:(⟨g,0,none⟩:Addr).add j=⟨g,j,none⟩:=by unfold Addr.add;split <;> simp_all
 rw[hadd,h.cell j]
 simpa using hu
end
section
variable {P:Program} {ops:Array Oper} {o:Oper} {a:Act} {w:World} {K:Act->World->Prop} {Q:Exit->Act->World->Prop} {E:Prop}
theorem uxi (hw:Region.wanted o (yielded ops a.tmps)=true) (ty:TypeId) (x y:Operand) (ho:o.op=.store ty x y) (g:Nat) (hx:a.eval x=.pointer (some ⟨g,0,none⟩)) (t:TypeId) (cs cs':Array Value) (hb:Blk w g t cs)
    (hy:a.eval y=.agg cs') (hi:(P.info? ty).map (·.size)=some cs'.size) (hs:cs.size=cs'.size) (h1:cs'.all (·.oneCell')=true)
    (h:K (a.put o.dst undef) (w.setRow g cs')):if Region.wanted o (yielded ops a.tmps)=true then Oper.wp P o a w K Q else E:=by
  rw[if_pos hw]
  unfold Oper.wp execOp
  simp only[ho,hx,hy,Instr.storeAt,Instr.sureAddr,Sem.run_bind,Sem.run_pure,Result.andThen_ok,run_storeVar_row w g t ty cs cs' hb hi hs h1]
  exact h
end
def GrB (w:World) (g:Nat) (W:World):Prop:=w.grownBy W (some g)
section
variable {w W W':World} {g:Nat}
theorem GrB.start (w:World) (g:Nat):GrB w g w.drew:=⟨rfl,rfl,rfl,Nat.le_refl _,fun _ _ _=>rfl⟩
theorem GrB.more (h:GrB w g W) (hb:Below W.heap.size W W'):GrB w g W' :=
  ⟨hb.os.trans h.os,hb.tape.trans h.tape,hb.output.trans h.output,Nat.le_trans h.size hb.size,fun k hk hne=>(hb.block k (Nat.lt_of_lt_of_le hk h.size)).trans (h.block k hk hne)⟩
theorem GrB.row (h:GrB w g W) (cs:Array Value):GrB w g (W.setRow g cs) :=
  ⟨h.os,h.tape,h.output,by simpa using h.size,fun k hk hne=>(setRow_other W g k cs (fun e=>hne (by rw[e]))).trans (h.block k hk hne)⟩
theorem GrB.blk {k:Nat} {t:TypeId} {cs:Array Value} (h:GrB w g W) (hb:Blk w k t cs) (hne:k≠g):Blk W k t cs:=(h.block k hb.lt (fun e=>hne (by injection e))).trans hb
end
section
variable {P:Program} {w:World} {ops:Array Oper} {rest:List Oper} {op:Oper} {a:Act} {Q:Exit->Act->World->Prop}
theorem uqw (hw:Region.wanted op (yielded ops a.tmps)=true) (ty:TypeId) (x:Operand) (ho:op.op=.load ty x) (g:Nat) (hx:a.eval x=.pointer (some ⟨g,0,none⟩)) (t:TypeId) (cs:Array Value) (hb:Blk w g t cs)
    (d:TypeDesc) (hu:P.underlying ty=some d) (hd:TypeDesc.isRow d=true) (hi:(P.info? ty).map (·.size)=some cs.size)
    (h:wpList P ops Q rest (a.put op.dst (.agg cs)) w):wpList P ops Q (op::rest) a w :=
  wpList_step fun K hK=>by
    rw[if_pos hw]
    unfold Oper.wp execOp
    simp only[ho,hx,Instr.loadAt,Instr.sureAddr,Sem.run_bind,Sem.run_pure,Result.andThen_ok,ujm hb hu hd hi]
    exact hK _ _ h
end
section
variable {α:Type}
theorem ma {l:List α} {i:Nat} {v:α}:l.toArray.setIfInBounds i v=(l.set i v).toArray:=List.setIfInBounds_toArray ..
theorem mb {a b:α} {l:List α}:(a::l).set 0 b=b::l:=rfl
theorem mc {a b:α} {l:List α} {n:Nat}:(a::l).set (n+1) b=a::l.set n b:=rfl
theorem md {l:List α} {i:Nat} (h:i<l.toArray.size):l.toArray[i]=l[i]'(by simpa using h):=rfl
theorem me {a:α} {l:List α} {h:0<(a::l).length}:(a::l)[0]=a:=rfl
theorem mf {a:α} {l:List α} {i:Nat} {h:i+1<(a::l).length}:(a::l)[i+1]=l[i]'(by simpa using h):=rfl
end
section
variable {P:Program} {ops:Array Oper} {Q:Exit->Act->World->Prop} {md:Region.Mode} {S:World->Prop}
end
section
variable {P:Program} {ops:Array Oper} {Q:Exit->Act->World->Prop} {md:Region.Mode} {S:World->Prop}
theorem tr (i:Nat) {o:Oper} {fuel:Nat} {listed:Array Bool} {a:Act} {w:World} (ho:ops[i]?=some o)
    (h:∀K':Act->World->Prop,Shut (∀a w,S w->(S w->wpAnyH P md ops Q S fuel (listed.setIfInBounds i true) a w)->K' a w)->if Region.wanted o (yielded ops a.tmps)=true then Oper.wp P o a w K' Q else K' (a.put o.dst undef) w)
    (hr:Region.ready md ops listed=[i]:=by kernel_rfl):wpAnyH P md ops Q S (fuel+1) listed a w:=wpAnyH_ready hr (by simp) (.cons ho h .nil)
end
theorem cl {p:Prop} (h:p:=by intro w5 hw5;(try(have b1_:=hw5.1.cell;replace hw5:=hw5.2));(try(have b2_:=hw5.1.cell;replace hw5:=hw5.2));(try(have b3_:=hw5.1.cell;replace hw5:=hw5.2));(try(have b4_:=hw5.1.cell;replace hw5:=hw5.2));(try(have b5_:=hw5.cell;clear hw5));go_simp;(try with_reducible rfl)):p:=h
section
variable {P:Program} {ops:Array Oper} {Q:Exit->Act->World->Prop} {md:Region.Mode} {S:World->Prop}
theorem tq (i:Nat) {oi:Oper} {v:Value} {fuel:Nat} {listed:Array Bool} {a a':Act} {w:World} (h:wpAnyH P md ops Q S fuel (listed.setIfInBounds i true) a' w)
    (hi:ops[i]?=some oi:=by rfl) (hw:Region.wanted oi (yielded ops a.tmps)=true:=by rfl)
    (hv:∀w,S w->(execOp a.eval oi).run P w=.ok (.value v) w:=by exact cl)
    (ha:a.put oi.dst v=a':=by(try simp only[Act.put,ma,mb,mc,md,me,mf]);rfl)
    (hs:Region.noSelect ops=true:=by kernel_rfl) (hf:Region.free md ops listed i=true:=by kernel_rfl) (hr:(Region.ready md ops listed).contains i=true:=by kernel_rfl)
    (hQ:∀c a w,Q (.panic c) (a.put oi.dst v) w->Q (.panic c) a w:=by exact fun _ _ _ h=>h) (hS:S w:=by assumption):wpAnyH P md ops Q S (fuel+1) listed a w :=
  wpAnyH_take hi hs hf hr hQ (.inl ⟨hw,hv⟩) hS (by rw[ha];exact h)
end
theorem zra (n:Nat):n<=n:=Nat.le_refl n
theorem zrb {α:Type} {a b:List α}:(a++b).length=a.length+b.length:=List.length_append
theorem zrc {a b c:Nat} (h:a<=b) (g:b<=c):a<=c:=Nat.le_trans h g
theorem zrd {α:Type} {l:List α} {i:Nat} (h:i<l.length):l[i]?=some l[i]:=List.getElem?_eq_getElem h
theorem zre {α β:Type} {l:List α} (f:α->β):(l.map f).length=l.length:=List.length_map f
theorem zrf {α:Type} [BEq α] [LawfulBEq α] {a b:α}:(a == b)=false↔a≠b:=beq_eq_false_iff_ne
theorem zrg {α β:Type} {f:α->β} {l:List α} {i:Nat}:(l.map f)[i]?=l[i]?.map f:=List.getElem?_map
theorem zrh {α:Type} (a b c:List α):a++b++c=a++(b++c):=List.append_assoc a b c
theorem zri (b:Nat) (w:World):Below b w w:=Below.refl b w
theorem zrj {p:Prop} (h:p):Hid p:=Lib.hid h
section
variable {P:Program} {ops:Array Oper} {Q:Exit->Act->World->Prop} {md:Region.Mode} {S:World->Prop}
theorem tz (i:Nat) {oi:Oper} {v:Value} {fuel:Nat} {listed:Array Bool} {a a':Act} {w:World} (h:wpAnyH P md ops Q S fuel (listed.setIfInBounds i true) a' w)
  (hs:Region.noSelect ops=true:=by kernel_rfl) (hf:Region.free md ops listed i=true:=by decide +kernel) (hr:(Region.ready md ops listed).contains i=true:=by decide +kernel)
  (hi:ops[i]?=some oi:=by rfl) (hw:Region.wanted oi (yielded ops a.tmps)=true:=by rfl)
  (hv:∀w,S w->(execOp a.eval oi).run P w=.ok (.value v) w:=by intro w hSw;(try dsimp only at hSw);go_simp;(try with_reducible rfl))
  (ha:a.put oi.dst v=a':=by(try simp only[Act.put,ma,mb,mc,md,me,mf]);rfl)
  (hQ:∀c a w,Q (.panic c) (a.put oi.dst v) w->Q (.panic c) a w:=by exact fun _ _ _ h=>h) (hS:S w:=by assumption):wpAnyH P md ops Q S (fuel+1) listed a w :=
 wpAnyH_take hi hs hf hr hQ (.inl ⟨hw,hv⟩) hS (by rw[ha];exact h)
end
theorem zsa (w:World) (o:Obj):Below w.heap.size w (w.alloc o):=(Below.refl _ _).alloc (Nat.le_refl _) _
theorem zsb (w:World) (o:Obj):(w.alloc o).heap.size=w.heap.size+1:=by simp
theorem zsc {k n:Int} (h:k=n) (i:Int) (hi:(n == i)=false:=by rfl):(k == i)=false:=by rw[h];exact hi
theorem zsd {k n:Int} (h:k=n) (i:Int) (hi:(n == i)=true:=by rfl):(k == i)=true:=by rw[h];exact hi
abbrev Zlu:=List UInt8
abbrev Zoa:=Option Addr
abbrev Zba:=ByteArray
abbrev zse (n:Nat):Value:=.pointer (some ⟨n,0,none⟩)
abbrev zsf (w:World) (v:Value):Ending->World->Prop:=fun e w'=>e=.returned v/\Below w.heap.size w w'
section
variable {w w':World} {g:Nat} {t:TypeId}
theorem Blk.bl {cs:Array Value} (h:Blk w g t cs) (hb:Below w.heap.size w w'):Blk w' g t cs:=h.below hb h.lt
theorem Blk.c0 {x0:Value} {l:List Value} (h:Blk w g t (List.toArray (x0::l))):w.cell? ⟨g,0,none⟩=some x0:=h.cell 0
theorem Blk.c1 {x0 x1:Value} {l:List Value} (h:Blk w g t (List.toArray (x0::x1::l))):w.cell? ⟨g,1,none⟩=some x1:=h.cell 1
theorem Blk.c2 {x0 x1 x2:Value} {l:List Value} (h:Blk w g t (List.toArray (x0::x1::x2::l))):w.cell? ⟨g,2,none⟩=some x2:=h.cell 2
theorem Blk.c3 {x0 x1 x2 x3:Value} {l:List Value} (h:Blk w g t (List.toArray (x0::x1::x2::x3::l))):w.cell? ⟨g,3,none⟩=some x3:=h.cell 3
theorem Blk.c4 {x0 x1 x2 x3 x4:Value} {l:List Value} (h:Blk w g t (List.toArray (x0::x1::x2::x3::x4::l))):w.cell? ⟨g,4,none⟩=some x4:=h.cell 4
theorem Blk.c5 {x0 x1 x2 x3 x4 x5:Value} {l:List Value} (h:Blk w g t (List.toArray (x0::x1::x2::x3::x4::x5::l))):w.cell? ⟨g,5,none⟩=some x5:=h.cell 5
theorem Blk.c6 {x0 x1 x2 x3 x4 x5 x6:Value} {l:List Value} (h:Blk w g t (List.toArray (x0::x1::x2::x3::x4::x5::x6::l))):w.cell? ⟨g,6,none⟩=some x6:=h.cell 6
theorem Blk.c7 {x0 x1 x2 x3 x4 x5 x6 x7:Value} {l:List Value} (h:Blk w g t (List.toArray (x0::x1::x2::x3::x4::x5::x6::x7::l))):w.cell? ⟨g,7,none⟩=some x7:=h.cell 7
theorem Blk.c8 {x0 x1 x2 x3 x4 x5 x6 x7 x8:Value} {l:List Value} (h:Blk w g t (List.toArray (x0::x1::x2::x3::x4::x5::x6::x7::x8::l))):w.cell? ⟨g,8,none⟩=some x8:=h.cell 8
theorem Blk.c9 {x0 x1 x2 x3 x4 x5 x6 x7 x8 x9:Value} {l:List Value} (h:Blk w g t (List.toArray (x0::x1::x2::x3::x4::x5::x6::x7::x8::x9::l))):w.cell? ⟨g,9,none⟩=some x9:=h.cell 9
theorem Blk.c10 {x0 x1 x2 x3 x4 x5 x6 x7 x8 x9 x10:Value} {l:List Value} (h:Blk w g t (List.toArray (x0::x1::x2::x3::x4::x5::x6::x7::x8::x9::x10::l))):w.cell? ⟨g,10,none⟩=some x10:=h.cell 10
theorem Blk.c11 {x0 x1 x2 x3 x4 x5 x6 x7 x8 x9 x10 x11:Value} {l:List Value} (h:Blk w g t (List.toArray (x0::x1::x2::x3::x4::x5::x6::x7::x8::x9::x10::x11::l))):w.cell? ⟨g,11,none⟩=some x11:=h.cell 11
theorem Blk.c12 {x0 x1 x2 x3 x4 x5 x6 x7 x8 x9 x10 x11 x12:Value} {l:List Value} (h:Blk w g t (List.toArray (x0::x1::x2::x3::x4::x5::x6::x7::x8::x9::x10::x11::x12::l))):w.cell? ⟨g,12,none⟩=some x12:=h.cell 12
theorem Blk.c13 {x0 x1 x2 x3 x4 x5 x6 x7 x8 x9 x10 x11 x12 x13:Value} {l:List Value} (h:Blk w g t (List.toArray (x0::x1::x2::x3::x4::x5::x6::x7::x8::x9::x10::x11::x12::x13::l))):w.cell? ⟨g,13,none⟩=some x13:=h.cell 13
end
end Go.Proofs.YtknmnhleicakhaaGreatDoor
