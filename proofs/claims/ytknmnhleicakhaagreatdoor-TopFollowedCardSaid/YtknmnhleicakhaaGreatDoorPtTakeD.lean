/- Lemmas.
-/
import Derived.Test.YtknmnhleicakhaaGreatDoorPtDec
import Derived.Test.YtknmnhleicakhaaGreatDoorPtDelD
import Derived.Deep.RegionLaw
set_option linter.all false
set_option maxHeartbeats 16000000
set_option maxRecDepth 100000
namespace Go.Proofs.YtknmnhleicakhaaGreatDoor
open Go.Proofs.Tryz
open Go.RowKit
theorem xzb:(prog.info? 38).map (fun i=>(i.zero,i.size,i.bytes))=some (some (.agg zwJ),5,56):=by kernel_rfl
def OwnJd (w:World) (base:Nat) (v:Value) (l:List JobD):Prop:=w.ownsRow base 38 5 v l.length (l.flatMap rowJ)
theorem OwnJd.gw {a b:World} {base g:Nat} {v:Value} {l:List JobD} (h:OwnJd a base v l) (hg:a.grownBy b (some g)) (hlt:g<base):OwnJd b base v l :=
 World.ownsRow.kept (row:=some g) h ⟨hg.os,hg.tape,hg.output,hg.size,hg.block⟩ (.inr (fun h0=>by have:=(World.ownsRow.lt h g h0).1;omega))
section
variable {w:World} {ops:Array Oper} {rest:List Oper} {o:Oper} {a:Act} {Q:Exit->Act->World->Prop}
theorem vkt (hgd:o.guard=none) (s x:Operand)
  (ho:o.op=.call { callee:=.builtin .append,args:=#[s,x],argTypes:=#[22,22] })
  (base:Nat) (v:Value) (acc:List JobD) (hs:a.eval s=v) (hown:OwnJd w base v acc) (g:Nat) (j:JobD) (hx:a.eval x=.slice (some ⟨g,0,none⟩) 1 1)
  (hb:Blk w g 38 (rowJ j).toArray) (hlen:acc.length+1<=1099511627776) (hbase:base<=w.heap.size)
  (h:∀v' w',OwnJd w' base v' (acc++[j])->Below base w w'->wpList prog ops Q rest (a.put o.dst v') w'):wpList prog ops Q (o::rest) a w:=by
 obtain⟨i0,hi,hz0,hz1,hz2⟩:=info_parts xzb
 refine wpList_append_own w hgd s x 22 ho base 38 i0 _ 5 56 underlying22 hi hz0 hz1 hz2 rfl (by decide) v acc.length (acc.flatMap rowJ) hs hown ⟨g,0,none⟩ 1 1 (rowJ j) hx rfl ?_ ?_ ?_ ?_ hbase ?_
 ·exact World.news_of_block hb
 ·simp[rowJ,Value.oneCell']
 ·simp only[maxLen];omega
 ·omega
 ·intro v' w' hown' hg _
  refine h v' w' ?_ ?_
  ·unfold OwnJd
   rw[List.flatMap_append,zrb]
   simpa using hown'
  ·exact(zri base w).grown hg hbase (fun k hk=>(World.ownsRow.lt hown k hk).1)
end
theorem xj4 (t6:TypeId) (g6 g x:Nat) (l:Zlu) (w:World) (h6:Blk w g6 t6 #[zse g]) (hR:Rd w g l x) (hl:l.length<=4611686018427387904) (hT:Tabs w) :
  Calls prog 85 #[zse g6] w fun e w'=>RdP (fun j:JobD=>.agg (rowJ j).toArray) (pJob 3) w g l x e w':=by
 have hglt:=hR.lt
 go_enter func85,ntmps85
 have bC:=Blk.new w 38 #[.string (ByteArray.mk #[]),.int .i64 0,.int .i64 0,.int .i64 0,.string (ByteArray.mk #[])]
 have R0:Rd (w.alloc (.cells #[.string (ByteArray.mk #[]),.int .i64 0,.int .i64 0,.int .i64 0,.string (ByteArray.mk #[])] 38)) g l x:=Blk.alloc hR _
 have T0:Tabs (w.alloc (.cells #[.string (ByteArray.mk #[]),.int .i64 0,.int .i64 0,.int .i64 0,.string (ByteArray.mk #[])] 38)):=hT.below ((zri _ _).alloc (zra _) _)
 have G0:w.grownBy (w.alloc (.cells #[.string (ByteArray.mk #[]),.int .i64 0,.int .i64 0,.int .i64 0,.string (ByteArray.mk #[])] 38)) (some g):=ux1 (ujj _ _) _
 have c6:(w.alloc (.cells #[.string (ByteArray.mk #[]),.int .i64 0,.int .i64 0,.int .i64 0,.string (ByteArray.mk #[])] 38)).cell? ⟨g6,0,none⟩=some (zse g):=(h6.alloc _).cell 0
 clear hR hT
 go_wp2_with fail
 generalize w.alloc (.cells #[.string (ByteArray.mk #[]),.int .i64 0,.int .i64 0,.int .i64 0,.string (ByteArray.mk #[])] 38)=W0 at *
 refine(wxl g x l 3 W0 R0 hl T0).mono ?_
 rintro e w1 ⟨g1,a1,l1,y1,rfl,R1,S1⟩
 have b1:=bC.gw g1 (by omega)
 have G1:=uq9 G0 g1
 clear bC R0 T0 G0 g1 c6
 go_wp2_with(refine uqc rfl _ _ _ rfl w.heap.size rfl _ _ (rowJ a1).toArray b1 rfl uqo rfl (uvw _) ?_)
 (try simp only[Exit.inBlock,Exit.then])
 refine bodyPost_ret (uq8 rfl _ rfl (b1.setRow _) underlying38 rfl uqo) rfl ?_
 exact⟨uk4 G1 _ _ (zra _),a1,l1,y1,rfl,Blk.setRow_far R1 (by omega) _,S1⟩
def xq6 (p:Zlu->Res JobD) (w:World) (g:Nat) (l:Zlu) (x many:Nat) (e:Ending) (w':World):Prop :=
 w.grownBy w' (some g)/\∃val xs l' y,e=.returned val/\OwnJd w' w.heap.size val xs/\Rd w' g l' y/\Step (pRows many p) l x xs l' y
theorem xja (t6:TypeId) (g6 g x:Nat) (l:Zlu) (many:Nat) (w:World) (h6:Blk w g6 t6 #[zse g]) (h6g:g6≠g) (hR:Rd w g l x) (hl:l.length<=4611686018427387904) (hT:Tabs w) (hmany:many<=1000) :
  Calls prog 77 #[zse g,.int .i64 (many:Int),.func (.func 85) #[] #[zse g6]] w fun e w'=>xq6 (pJob 3) w g l x many e w':=by
 have hglt:=hR.lt
 go_enter func77,ntmps77
 go_wp2_with fail
 refine(uxc g x l w hR).mono ?_
 rintro e w1 ⟨G1,n,l1,y1,rfl,R1,_,S1,hy1,hn⟩
 have T1:=hT.gw hR G1
 have hl1:=zrc S1.1 hl
 have HS1:=zrj S1
 have HT:=zrj (fun(w':World) (h:w.grownBy w' (some g))=>hT.gw hR h)
 clear hT hR S1
 by_cases hm:many<n
 ·have hmi:(many:Int)<(n:Int):=by omega
  have hy0:y1=0:=by
   rcases Nat.eq_zero_or_pos y1 with h | h
   ·exact h
   ·exact absurd (hy1 (by omega)) (by omega)
  have h0n:(0:Int)<(n:Int):=by omega
  have HN:Hid (many<n):=zrj hm
  clear hy1 hn hm
  go_wp2_with fail
  refine(ukn g y1 2 l1 w1 R1).mono ?_
  rintro e w2 ⟨rfl,g2,R2⟩
  rw[if_pos hy0] at R2
  have c1:=R2.c1
  clear R1 T1
  go_wp2_with fail
  refine wp_loop_rounds 1 ?_
  rw[rounds_succ]
  go_wp2_with fail
  go_ret
  exact⟨uq9 G1 g2,_,[],l1,2,rfl,World.ownsRow_nil _ _ _ _,R2,Step.many HS1.out (fun h=>absurd hy0 h) HN.out (ukl 3).err⟩
 ·have hmi:¬(many:Int)<(n:Int):=by omega
  have HN:Hid (n<=many):=zrj (by omega)
  have HY:=zrj hy1
  clear hy1
  have hnm:n<=1000:=by omega
  have hmd:decide (many<n)=false:=decide_eq_false hm
  go_wp2_with fail
  go_loopw [8,17] (fun out i wr=>∃(k:Nat) (xs:List JobD) (l2:Zlu) (y:Nat),k<=n/\xs.length<=k/\i=.int .i64 k/\w.grownBy wr (some g)/\OwnJd wr w.heap.size out xs/\Rd wr g l2 y/\Tabs wr/\Hid (Step (pRep (pJob 3) k) l1 y1 xs l2 y)) (fun _ i _=>n-(intOf i).toNat)
  case atStart=>exact⟨0,[],l1,y1,Nat.zero_le _,zra _,rfl,G1,World.ownsRow_nil _ _ _ _,R1,T1,Step.unit [] l1 y1⟩
  case round =>
   obtain⟨k,xs,l2,y,hk,hxs,rfl,G2,O2,R2,T2,H2⟩:=hrel
   have c1:=R2.c1
   by_cases hlt:k<n
   ·have hki:(k:Int)<(n:Int):=by omega
    by_cases hy:y=0
    ·have hyb:((y:Int) != 0)=false:=by rw[hy];rfl
     have hl2:l2.length<=4611686018427387904:=zrc H2.out.1 hl1
     have HC:=zrj (show Calls prog 85 #[zse g6] wr (fun e w'=>RdP (fun j:JobD=>.agg (rwJ j)) (pJob 3) wr g l2 y e w') from(xj4 t6 g6 g y l2 wr (h6.gw G2 h6g) R2 hl2 T2))
     go_wp2_with fail
     refine HC.out.mono ?_
     rintro e w3 ⟨g3',a3,l3,y3,rfl,R3,S3⟩
     have G3:=ux1 (uq9 G2 g3') (.cells (rwJ a3) 38)
     have O4:OwnJd (w3.alloc (.cells (rwJ a3) 38)) w.heap.size _ xs:=World.ownsRow.alloc (O2.gw g3' hglt) _
     have bE:=Blk.new w3 38 (rwJ a3)
     have R4:Rd (w3.alloc (.cells (rwJ a3) 38)) g l3 y3:=Blk.alloc R3 _
     have HS3:=zrj S3
     have hsz3:w.heap.size<=(w3.alloc (.cells (rwJ a3) 38)).heap.size:=G3.size
     clear R3 g3' O2 G2 R2 T2 S3 c1 HC
     go_wp2_with(first
      | (at_builtin;go_loud (refine vkt rfl _ _ rfl w.heap.size _ xs rfl O4 w3.heap.size a3 rfl bE (by omega) hsz3 ?_)))
     intro v4 w4 O5 hb4
     have G5:=uya G3 hb4
     have R5:Rd w4 g l3 y3:=Blk.below R4 hb4 hglt
     have T5:=HT.out w4 G5
     clear O4 bE R4 G3 hb4
     go_wp2_with fail
     go_roundw
     case rel=>exact⟨k+1,xs++[a3],l3,y3,by omega,by simp;omega,by go_num,G5,O5,R5,T5,Step.snoc H2.out HS3.out (PP.rep (ukl 3) k).err⟩
     case measure=>simp[intOf];omega
    ·have hyb:((y:Int) != 0)=true:=by rw[bne_iff_ne];omega
     go_wp2_with fail
     go_ret
     exact⟨G2,_,[],l2,y,rfl,World.ownsRow_nil _ _ _ _,R2,Step.rows HS1.out HY.out HN.out (Step.early (Nat.le_of_lt hlt) H2.out hy (ukl 3))⟩
   ·obtain rfl:k=n:=by omega
    have hki:¬(k:Int)<(k:Int):=by omega
    go_wp2_with fail
    go_ret
    exact⟨G2,_,xs,l2,y,rfl,O2,R2,Step.rows HS1.out HY.out HN.out H2.out⟩
theorem wwa:(prog.info? 40).map (fun i=>(i.zero,i.size,i.bytes))=some (some (.agg zwN),3,40):=by kernel_rfl
def OwnNd (w:World) (base:Nat) (v:Value) (l:List NodeD):Prop:=w.ownsRow base 40 3 v l.length (l.flatMap rowN)
theorem OwnNd.gw {a b:World} {base g:Nat} {v:Value} {l:List NodeD} (h:OwnNd a base v l) (hg:a.grownBy b (some g)) (hlt:g<base):OwnNd b base v l :=
 World.ownsRow.kept (row:=some g) h ⟨hg.os,hg.tape,hg.output,hg.size,hg.block⟩ (.inr (fun h0=>by have:=(World.ownsRow.lt h g h0).1;omega))
section
variable {w:World} {ops:Array Oper} {rest:List Oper} {o:Oper} {a:Act} {Q:Exit->Act->World->Prop}
theorem vku (hgd:o.guard=none) (s x:Operand)
  (ho:o.op=.call { callee:=.builtin .append,args:=#[s,x],argTypes:=#[23,23] })
  (base:Nat) (v:Value) (acc:List NodeD) (hs:a.eval s=v) (hown:OwnNd w base v acc) (g:Nat) (j:NodeD) (hx:a.eval x=.slice (some ⟨g,0,none⟩) 1 1)
  (hb:Blk w g 40 (rowN j).toArray) (hlen:acc.length+1<=1099511627776) (hbase:base<=w.heap.size)
  (h:∀v' w',OwnNd w' base v' (acc++[j])->Below base w w'->wpList prog ops Q rest (a.put o.dst v') w'):wpList prog ops Q (o::rest) a w:=by
 obtain⟨i0,hi,hz0,hz1,hz2⟩:=info_parts wwa
 refine wpList_append_own w hgd s x 23 ho base 40 i0 _ 3 40 underlying23 hi hz0 hz1 hz2 rfl (by decide) v acc.length (acc.flatMap rowN) hs hown ⟨g,0,none⟩ 1 1 (rowN j) hx rfl ?_ ?_ ?_ ?_ hbase ?_
 ·exact World.news_of_block hb
 ·simp[rowN,Value.oneCell']
 ·simp only[maxLen];omega
 ·omega
 ·intro v' w' hown' hg _
  refine h v' w' ?_ ?_
  ·unfold OwnNd
   rw[List.flatMap_append,zrb]
   simpa using hown'
  ·exact(zri base w).grown hg hbase (fun k hk=>(World.ownsRow.lt hown k hk).1)
end
theorem xj5 (t6:TypeId) (g6 g x:Nat) (l:Zlu) (w:World) (h6:Blk w g6 t6 #[zse g]) (hR:Rd w g l x) (hl:l.length<=4611686018427387904) (hT:Tabs w) :
  Calls prog 86 #[zse g6] w fun e w'=>RdP (fun j:NodeD=>.agg (rowN j).toArray) (pNode 3) w g l x e w':=by
 have hglt:=hR.lt
 go_enter func86,ntmps86
 have bC:=Blk.new w 40 #[.string (ByteArray.mk #[]),.int .i64 0,.string (ByteArray.mk #[])]
 have R0:Rd (w.alloc (.cells #[.string (ByteArray.mk #[]),.int .i64 0,.string (ByteArray.mk #[])] 40)) g l x:=Blk.alloc hR _
 have T0:Tabs (w.alloc (.cells #[.string (ByteArray.mk #[]),.int .i64 0,.string (ByteArray.mk #[])] 40)):=hT.below ((zri _ _).alloc (zra _) _)
 have G0:w.grownBy (w.alloc (.cells #[.string (ByteArray.mk #[]),.int .i64 0,.string (ByteArray.mk #[])] 40)) (some g):=ux1 (ujj _ _) _
 have c6:(w.alloc (.cells #[.string (ByteArray.mk #[]),.int .i64 0,.string (ByteArray.mk #[])] 40)).cell? ⟨g6,0,none⟩=some (zse g):=(h6.alloc _).cell 0
 clear hR hT
 go_wp2_with fail
 generalize w.alloc (.cells #[.string (ByteArray.mk #[]),.int .i64 0,.string (ByteArray.mk #[])] 40)=W0 at *
 refine(vwi g x l 3 W0 R0 hl T0).mono ?_
 rintro e w1 ⟨g1,a1,l1,y1,rfl,R1,S1⟩
 have b1:=bC.gw g1 (by omega)
 have G1:=uq9 G0 g1
 clear bC R0 T0 G0 g1 c6
 go_wp2_with(refine uqc rfl _ _ _ rfl w.heap.size rfl _ _ (rowN a1).toArray b1 rfl uqk rfl (uy4 _) ?_)
 (try simp only[Exit.inBlock,Exit.then])
 refine bodyPost_ret (uq8 rfl _ rfl (b1.setRow _) underlying40 rfl uqk) rfl ?_
 exact⟨uk4 G1 _ _ (zra _),a1,l1,y1,rfl,Blk.setRow_far R1 (by omega) _,S1⟩
def xq7 (p:Zlu->Res NodeD) (w:World) (g:Nat) (l:Zlu) (x many:Nat) (e:Ending) (w':World):Prop :=
 w.grownBy w' (some g)/\∃val xs l' y,e=.returned val/\OwnNd w' w.heap.size val xs/\Rd w' g l' y/\Step (pRows many p) l x xs l' y
theorem xjb (t6:TypeId) (g6 g x:Nat) (l:Zlu) (many:Nat) (w:World) (h6:Blk w g6 t6 #[zse g]) (h6g:g6≠g) (hR:Rd w g l x) (hl:l.length<=4611686018427387904) (hT:Tabs w) (hmany:many<=1000) :
  Calls prog 80 #[zse g,.int .i64 (many:Int),.func (.func 86) #[] #[zse g6]] w fun e w'=>xq7 (pNode 3) w g l x many e w':=by
 have hglt:=hR.lt
 go_enter func80,ntmps80
 go_wp2_with fail
 refine(uxc g x l w hR).mono ?_
 rintro e w1 ⟨G1,n,l1,y1,rfl,R1,_,S1,hy1,hn⟩
 have T1:=hT.gw hR G1
 have hl1:=zrc S1.1 hl
 have HS1:=zrj S1
 have HT:=zrj (fun(w':World) (h:w.grownBy w' (some g))=>hT.gw hR h)
 clear hT hR S1
 by_cases hm:many<n
 ·have hmi:(many:Int)<(n:Int):=by omega
  have hy0:y1=0:=by
   rcases Nat.eq_zero_or_pos y1 with h | h
   ·exact h
   ·exact absurd (hy1 (by omega)) (by omega)
  have h0n:(0:Int)<(n:Int):=by omega
  have HN:Hid (many<n):=zrj hm
  clear hy1 hn hm
  go_wp2_with fail
  refine(ukn g y1 2 l1 w1 R1).mono ?_
  rintro e w2 ⟨rfl,g2,R2⟩
  rw[if_pos hy0] at R2
  have c1:=R2.c1
  clear R1 T1
  go_wp2_with fail
  refine wp_loop_rounds 1 ?_
  rw[rounds_succ]
  go_wp2_with fail
  go_ret
  exact⟨uq9 G1 g2,_,[],l1,2,rfl,World.ownsRow_nil _ _ _ _,R2,Step.many HS1.out (fun h=>absurd hy0 h) HN.out (uji 3).err⟩
 ·have hmi:¬(many:Int)<(n:Int):=by omega
  have HN:Hid (n<=many):=zrj (by omega)
  have HY:=zrj hy1
  clear hy1
  have hnm:n<=1000:=by omega
  have hmd:decide (many<n)=false:=decide_eq_false hm
  go_wp2_with fail
  go_loopw [8,17] (fun out i wr=>∃(k:Nat) (xs:List NodeD) (l2:Zlu) (y:Nat),k<=n/\xs.length<=k/\i=.int .i64 k/\w.grownBy wr (some g)/\OwnNd wr w.heap.size out xs/\Rd wr g l2 y/\Tabs wr/\Hid (Step (pRep (pNode 3) k) l1 y1 xs l2 y)) (fun _ i _=>n-(intOf i).toNat)
  case atStart=>exact⟨0,[],l1,y1,Nat.zero_le _,zra _,rfl,G1,World.ownsRow_nil _ _ _ _,R1,T1,Step.unit [] l1 y1⟩
  case round =>
   obtain⟨k,xs,l2,y,hk,hxs,rfl,G2,O2,R2,T2,H2⟩:=hrel
   have c1:=R2.c1
   by_cases hlt:k<n
   ·have hki:(k:Int)<(n:Int):=by omega
    by_cases hy:y=0
    ·have hyb:((y:Int) != 0)=false:=by rw[hy];rfl
     have hl2:l2.length<=4611686018427387904:=zrc H2.out.1 hl1
     have HC:=zrj (show Calls prog 86 #[zse g6] wr (fun e w'=>RdP (fun j:NodeD=>.agg (rwN j)) (pNode 3) wr g l2 y e w') from(xj5 t6 g6 g y l2 wr (h6.gw G2 h6g) R2 hl2 T2))
     go_wp2_with fail
     refine HC.out.mono ?_
     rintro e w3 ⟨g3',a3,l3,y3,rfl,R3,S3⟩
     have G3:=ux1 (uq9 G2 g3') (.cells (rwN a3) 40)
     have O4:OwnNd (w3.alloc (.cells (rwN a3) 40)) w.heap.size _ xs:=World.ownsRow.alloc (O2.gw g3' hglt) _
     have bE:=Blk.new w3 40 (rwN a3)
     have R4:Rd (w3.alloc (.cells (rwN a3) 40)) g l3 y3:=Blk.alloc R3 _
     have HS3:=zrj S3
     have hsz3:w.heap.size<=(w3.alloc (.cells (rwN a3) 40)).heap.size:=G3.size
     clear R3 g3' O2 G2 R2 T2 S3 c1 HC
     go_wp2_with(first
      | (at_builtin;go_loud (refine vku rfl _ _ rfl w.heap.size _ xs rfl O4 w3.heap.size a3 rfl bE (by omega) hsz3 ?_)))
     intro v4 w4 O5 hb4
     have G5:=uya G3 hb4
     have R5:Rd w4 g l3 y3:=Blk.below R4 hb4 hglt
     have T5:=HT.out w4 G5
     clear O4 bE R4 G3 hb4
     go_wp2_with fail
     go_roundw
     case rel=>exact⟨k+1,xs++[a3],l3,y3,by omega,by simp;omega,by go_num,G5,O5,R5,T5,Step.snoc H2.out HS3.out (PP.rep (uji 3) k).err⟩
     case measure=>simp[intOf];omega
    ·have hyb:((y:Int) != 0)=true:=by rw[bne_iff_ne];omega
     go_wp2_with fail
     go_ret
     exact⟨G2,_,[],l2,y,rfl,World.ownsRow_nil _ _ _ _,R2,Step.rows HS1.out HY.out HN.out (Step.early (Nat.le_of_lt hlt) H2.out hy (uji 3))⟩
   ·obtain rfl:k=n:=by omega
    have hki:¬(k:Int)<(k:Int):=by omega
    go_wp2_with fail
    go_ret
    exact⟨G2,_,xs,l2,y,rfl,O2,R2,Step.rows HS1.out HY.out HN.out H2.out⟩
def OwnSs (w:World) (base:Nat) (v:Value) (l:List Zba):Prop:=w.ownsRow base 9 1 v l.length (l.flatMap rowS)
theorem OwnSs.gw {a b:World} {base g:Nat} {v:Value} {l:List Zba} (h:OwnSs a base v l) (hg:a.grownBy b (some g)) (hlt:g<base):OwnSs b base v l :=
 World.ownsRow.kept (row:=some g) h ⟨hg.os,hg.tape,hg.output,hg.size,hg.block⟩ (.inr (fun h0=>by have:=(World.ownsRow.lt h g h0).1;omega))
section
variable {w:World} {ops:Array Oper} {rest:List Oper} {o:Oper} {a:Act} {Q:Exit->Act->World->Prop}
theorem vkv (hgd:o.guard=none) (s x:Operand)
  (ho:o.op=.call { callee:=.builtin .append,args:=#[s,x],argTypes:=#[116,116] })
  (base:Nat) (v:Value) (acc:List Zba) (hs:a.eval s=v) (hown:OwnSs w base v acc) (g:Nat) (j:Zba) (hx:a.eval x=.slice (some ⟨g,0,none⟩) 1 1)
  (hb:Blk w g 9 (rowS j).toArray) (hlen:acc.length+1<=1099511627776) (hbase:base<=w.heap.size)
  (h:∀v' w',OwnSs w' base v' (acc++[j])->Below base w w'->wpList prog ops Q rest (a.put o.dst v') w'):wpList prog ops Q (o::rest) a w:=by
 obtain⟨i0,hi,hz0,hz1,hz2⟩:=info_parts uwm
 refine wpList_append_own w hgd s x 116 ho base 9 i0 _ 1 16 underlying116 hi hz0 hz1 hz2 rfl (by decide) v acc.length (acc.flatMap rowS) hs hown ⟨g,0,none⟩ 1 1 (rowS j) hx rfl ?_ ?_ ?_ ?_ hbase ?_
 ·exact World.news_of_block hb
 ·simp[rowS,Value.oneCell']
 ·simp only[maxLen];omega
 ·omega
 ·intro v' w' hown' hg _
  refine h v' w' ?_ ?_
  ·unfold OwnSs
   rw[List.flatMap_append,zrb]
   simpa using hown'
  ·exact(zri base w).grown hg hbase (fun k hk=>(World.ownsRow.lt hown k hk).1)
end
def xjt (p:Zlu->Res Zba) (w:World) (g:Nat) (l:Zlu) (x many:Nat) (e:Ending) (w':World):Prop :=
 w.grownBy w' (some g)/\∃val xs l' y,e=.returned val/\OwnSs w' w.heap.size val xs/\Rd w' g l' y/\Step (pRows many p) l x xs l' y
theorem vwu (g x:Nat) (l:Zlu) (many:Nat) (w:World) (hR:Rd w g l x) (hl:l.length<=4611686018427387904) (hT:Tabs w) (hmany:many<=1000) :
  Calls prog 87 #[zse g,.int .i64 (many:Int),.func (.func 88) #[zse g] #[]] w fun e w'=>xjt pStr w g l x many e w':=by
 have hglt:=hR.lt
 go_enter func87,ntmps87
 go_wp2_with fail
 refine(uxc g x l w hR).mono ?_
 rintro e w1 ⟨G1,n,l1,y1,rfl,R1,_,S1,hy1,hn⟩
 have T1:=hT.gw hR G1
 have hl1:=zrc S1.1 hl
 have HS1:=zrj S1
 have HT:=zrj (fun(w':World) (h:w.grownBy w' (some g))=>hT.gw hR h)
 clear hT hR S1
 by_cases hm:many<n
 ·have hmi:(many:Int)<(n:Int):=by omega
  have hy0:y1=0:=by
   rcases Nat.eq_zero_or_pos y1 with h | h
   ·exact h
   ·exact absurd (hy1 (by omega)) (by omega)
  have h0n:(0:Int)<(n:Int):=by omega
  have HN:Hid (many<n):=zrj hm
  clear hy1 hn hm
  go_wp2_with fail
  refine(ukn g y1 2 l1 w1 R1).mono ?_
  rintro e w2 ⟨rfl,g2,R2⟩
  rw[if_pos hy0] at R2
  have c1:=R2.c1
  clear R1 T1
  go_wp2_with fail
  refine wp_loop_rounds 1 ?_
  rw[rounds_succ]
  go_wp2_with fail
  go_ret
  exact⟨uq9 G1 g2,_,[],l1,2,rfl,World.ownsRow_nil _ _ _ _,R2,Step.many HS1.out (fun h=>absurd hy0 h) HN.out uzl.err⟩
 ·have hmi:¬(many:Int)<(n:Int):=by omega
  have HN:Hid (n<=many):=zrj (by omega)
  have HY:=zrj hy1
  clear hy1
  have hnm:n<=1000:=by omega
  have hmd:decide (many<n)=false:=decide_eq_false hm
  go_wp2_with fail
  go_loopw [8,17] (fun out i wr=>∃(k:Nat) (xs:List Zba) (l2:Zlu) (y:Nat),k<=n/\xs.length<=k/\i=.int .i64 k/\w.grownBy wr (some g)/\OwnSs wr w.heap.size out xs/\Rd wr g l2 y/\Tabs wr/\Hid (Step (pRep pStr k) l1 y1 xs l2 y)) (fun _ i _=>n-(intOf i).toNat)
  case atStart=>exact⟨0,[],l1,y1,Nat.zero_le _,zra _,rfl,G1,World.ownsRow_nil _ _ _ _,R1,T1,Step.unit [] l1 y1⟩
  case round =>
   obtain⟨k,xs,l2,y,hk,hxs,rfl,G2,O2,R2,T2,H2⟩:=hrel
   have c1:=R2.c1
   by_cases hlt:k<n
   ·have hki:(k:Int)<(n:Int):=by omega
    by_cases hy:y=0
    ·have hyb:((y:Int) != 0)=false:=by rw[hy];rfl
     have hl2:l2.length<=4611686018427387904:=zrc H2.out.1 hl1
     have HC:=zrj (show Calls prog 88 #[zse g] wr (fun e w'=>RdP (fun j:Zba=>.string j) pStr wr g l2 y e w') from(uvg g y l2 wr R2 hl2 T2))
     go_wp2_with fail
     refine HC.out.mono ?_
     rintro e w3 ⟨g3',a3,l3,y3,rfl,R3,S3⟩
     have G3:=ux1 (uq9 G2 g3') (.cells #[.string a3] 9)
     have O4:OwnSs (w3.alloc (.cells #[.string a3] 9)) w.heap.size _ xs:=World.ownsRow.alloc (O2.gw g3' hglt) _
     have bE:=Blk.new w3 9 #[.string a3]
     have R4:Rd (w3.alloc (.cells #[.string a3] 9)) g l3 y3:=Blk.alloc R3 _
     have HS3:=zrj S3
     have hsz3:w.heap.size<=(w3.alloc (.cells #[.string a3] 9)).heap.size:=G3.size
     clear R3 g3' O2 G2 R2 T2 S3 c1 HC
     go_wp2_with(first
      | (at_builtin;go_loud (refine vkv rfl _ _ rfl w.heap.size _ xs rfl O4 w3.heap.size a3 rfl bE (by omega) hsz3 ?_)))
     intro v4 w4 O5 hb4
     have G5:=uya G3 hb4
     have R5:Rd w4 g l3 y3:=Blk.below R4 hb4 hglt
     have T5:=HT.out w4 G5
     clear O4 bE R4 G3 hb4
     go_wp2_with fail
     go_roundw
     case rel=>exact⟨k+1,xs++[a3],l3,y3,by omega,by simp;omega,by go_num,G5,O5,R5,T5,Step.snoc H2.out HS3.out (PP.rep uzl k).err⟩
     case measure=>simp[intOf];omega
    ·have hyb:((y:Int) != 0)=true:=by rw[bne_iff_ne];omega
     go_wp2_with fail
     go_ret
     exact⟨G2,_,[],l2,y,rfl,World.ownsRow_nil _ _ _ _,R2,Step.rows HS1.out HY.out HN.out (Step.early (Nat.le_of_lt hlt) H2.out hy uzl)⟩
   ·obtain rfl:k=n:=by omega
    have hki:¬(k:Int)<(k:Int):=by omega
    go_wp2_with fail
    go_ret
    exact⟨G2,_,xs,l2,y,rfl,O2,R2,Step.rows HS1.out HY.out HN.out H2.out⟩
theorem xkx {x:Nat} {l:Zlu} (h:endE x l=0):x=0/\l=[]:=by
 unfold endE at h
 by_cases h1:x=0
 ·rw[if_neg (by simp[h1])] at h
  by_cases h2:l=[]
  ·exact⟨h1,h2⟩
  ·rw[if_neg h2] at h;cases h
 ·rw[if_pos h1] at h;exact absurd h h1
theorem Step.delta {l l1 l2 l3 l4 l5 l6 l7 l8:Zlu} {x y1 y2 y3 y4 y5 y6 y7 y8:Nat} {n m:Int} {jobs:List JobD} {nodes:List NodeD} {leases:List uqb} {gj gn gl:List Zba}
  (h1:Step pInt l x n l1 y1) (h2:Step pInt l1 y1 m l2 y2) (h3:Step (pRows 40 (pJob 3)) l2 y2 jobs l3 y3) (h4:Step (pRows 20 (pNode 3)) l3 y3 nodes l4 y4) (h5:Step (pRows 40 uj8) l4 y4 leases l5 y5)
  (h6:Step (pRows 40 pStr) l5 y5 gj l6 y6) (h7:Step (pRows 20 pStr) l6 y6 gn l7 y7) (h8:Step (pRows 40 pStr) l7 y7 gl l8 y8):Step vx5 l x ⟨n,n+m,jobs,nodes,leases,gj,gn,gl⟩ l8 y8 :=
 Step.map toD
  (Step.seq (q:=fun _=>pSeq pInt fun _=>pSeq (pRows 40 (pJob 3)) fun _=>pSeq (pRows 20 (pNode 3)) fun _=>pSeq (pRows 40 uj8) fun _=>pSeq (pRows 40 pStr) fun _=>pSeq (pRows 20 pStr) fun _=>pRows 40 pStr) h1
   (Step.seq (q:=fun _=>pSeq (pRows 40 (pJob 3)) fun _=>pSeq (pRows 20 (pNode 3)) fun _=>pSeq (pRows 40 uj8) fun _=>pSeq (pRows 40 pStr) fun _=>pSeq (pRows 20 pStr) fun _=>pRows 40 pStr) h2
    (Step.seq (q:=fun _=>pSeq (pRows 20 (pNode 3)) fun _=>pSeq (pRows 40 uj8) fun _=>pSeq (pRows 40 pStr) fun _=>pSeq (pRows 20 pStr) fun _=>pRows 40 pStr) h3
     (Step.seq (q:=fun _=>pSeq (pRows 40 uj8) fun _=>pSeq (pRows 40 pStr) fun _=>pSeq (pRows 20 pStr) fun _=>pRows 40 pStr) h4
      (Step.seq (q:=fun _=>pSeq (pRows 40 pStr) fun _=>pSeq (pRows 20 pStr) fun _=>pRows 40 pStr) h5
       (Step.seq (q:=fun _=>pSeq (pRows 20 pStr) fun _=>pRows 40 pStr) h6 (Step.seq (q:=fun _=>pRows 40 pStr) h7 h8 (uzl.rows 20 (by decide)).err) (uzl.rows 40 (by decide)).err)
       (uju.rows 40 (by decide)).err) ((uji 3).rows 20 (by decide)).err) ((ukl 3).rows 40 (by decide)).err) uzg.err) uzg.err)
theorem xkb {l l':Zlu} {d:uq0} {y:Nat} (hl:¬6000<l.length) (h:Step vx5 l 0 d l' y) (he:endE y l'≠0):decDR l=(noD,endE y l'):=by
 unfold decDR
 rw[if_neg hl]
 cases hp:vx5 l with
 | bad z =>
  obtain rfl:=(h.2.2 rfl).2 _ hp
  have:=uvf.err _ _ hp
  simp only[]
  unfold endE;rw[if_pos this]
 | ok t r =>
  obtain⟨rfl,rfl,rfl⟩:=(h.2.2 rfl).1 _ _ hp
  unfold endE at he ⊢
  by_cases hr:l'=[]
  ·rw[if_neg (by simp),if_pos hr] at he;exact absurd rfl he
  ·simp only[]
   rw[if_pos hr,if_neg (by simp),if_neg hr]
theorem xxf {l l':Zlu} {d:uq0} {y:Nat} (hl:¬6000<l.length) (h:Step vx5 l 0 d l' y) (he:endE y l'=0):okD d/\decDR l=if uxn d≠0 then(noD,uxn d) else(d,0):=by
 obtain⟨rfl,rfl⟩:=xkx he
 have hp:vx5 l=.ok d []:=by
  cases hp:vx5 l with
  | bad z =>
   have h1:=(h.2.2 rfl).2 _ hp
   exact absurd h1.symm (uvf.err _ _ hp)
  | ok t r =>
   obtain⟨rfl,rfl,_⟩:=(h.2.2 rfl).1 _ _ hp
   rfl
 refine⟨(uvf.bwd _ _ _ hp).1,?_⟩
 unfold decDR
 rw[if_neg hl,hp]
 simp only[]
 rw[if_neg (by simp)]
theorem uvv {s:Zba} (h:okTx s.data.toList):s.size<=9223372036854775807:=by
 have h1:s.size<=16:=by simpa using h.1
 omega
theorem okD_ok {d:uq0} (h:okD d) (u:Int):DelOk { d with upto:=u }:=by
 obtain⟨_,_,⟨a1,a2⟩,⟨b1,b2⟩,⟨c1,c2⟩,⟨d1,d2⟩,⟨e1,e2⟩,⟨f1,f2⟩⟩:=h
 refine⟨⟨by show d.jobs.length<=_;omega,by show d.nodes.length<=_;omega,by show d.leases.length<=_;omega,by show d.gj.length<=_;omega,by show d.gn.length<=_;omega,by show d.gl.length<=_;omega⟩,fun x hx=>?_,fun x hx=>?_,fun x hx=>?_,fun s hs=>uvv (d2 s hs),fun s hs=>uvv (e2 s hs),fun s hs=>uvv (f2 s hs)⟩
 ·obtain⟨a,_,_,_,b⟩:=a2 x hx
  rw[if_pos (by decide)] at b
  exact⟨uvv a,uvv b⟩
 ·obtain⟨a,_,b⟩:=b2 x hx
  rw[if_pos (by decide)] at b
  exact⟨uvv a,uvv b⟩
 ·obtain⟨a,b,_⟩:=c2 x hx
  exact⟨uvv a,uvv b⟩
theorem wvb {d:uq0} (h:okD d):uxn { d with upto:=IntKind.i64.wrap d.upto }=uxn d/\(uxn d=0->{ d with upto:=IntKind.i64.wrap d.upto }=d):=by
 have h1:=h.1.1;have h2:=h.1.2;have h3:=h.2.1.1;have h4:=h.2.1.2
 by_cases hf:d.frm<=1099511627776
 ·have hw:IntKind.i64.wrap d.upto=d.upto:=IntWalk.i64_in _ (by omega)
  rw[hw];exact⟨rfl,fun _=>rfl⟩
 ·have n1:¬revOk d:=fun h=>hf h.1.2
  have n2:¬revOk { d with upto:=IntKind.i64.wrap d.upto }:=fun h=>hf h.1.2
  have e1:uxn d=1:=by unfold uxn;rw[if_pos n1]
  have e2:uxn { d with upto:=IntKind.i64.wrap d.upto }=1:=by unfold uxn;rw[if_pos n2]
  exact⟨by rw[e1,e2],fun h0=>by rw[e1] at h0;cases h0⟩
theorem OwnR.gw_ {w w':World} {base c size g:Nat} {E:TypeId} {p:Zoa} {rows:List (List Value)} (h:OwnR w base E size p c rows) (hg:w.grownBy w' (some g)) (hlt:g<base):OwnR w' base E size p c rows :=
 ⟨h.1,World.ownsRow.kept (row:=some g) h.2 hg (.inr (fun h0=>by have:=(World.ownsRow.lt h.2 g h0).1;omega))⟩
theorem vjz {α:Type} {w:World} {base size:Nat} {E:TypeId} {v:Value} {l:List α} {row:α->List Value} (hs:∀x,(row x).length=size) (h:w.ownsRow base E size v l.length (l.flatMap row)):∃p c,v=.slice p l.length c/\OwnR w base E size p c (l.map row):=by
 obtain⟨p,c,rfl⟩:=uzz h
 refine⟨p,c,rfl,fun r hr=>by obtain⟨x,_,rfl⟩:=List.mem_map.1 hr;exact hs x,?_⟩
 rw[zre,<- List.flatMap_def]
 exact h
structure DJ (w0 W:World) (H G:Nat) (l:Zlu) (y:Nat) (cs:Array Value):Prop where
 br:Blk W H 118 zdv
 rd:Rd W (H+1) l y
 bp:Blk W (H+1+1) 167 #[zse (H+1)]
 bs:Blk W G 118 cs
 gg:H+1+1<G
 tb:Tabs W
 bl:Below H w0 W
section
variable {w0 W W':World} {H G:Nat} {l l':Zlu} {y y':Nat} {cs:Array Value}
theorem DJ.read (h:DJ w0 W H G l y cs) (hg:W.grownBy W' (some (H+1))) (hr:Rd W' (H+1) l' y'):DJ w0 W' H G l' y' cs :=
 ⟨h.br.gr hg (by omega),hr,h.bp.gr hg (by omega),h.bs.gr hg (by have:=h.gg;omega),h.gg,h.tb.gw h.rd hg,h.bl.grown hg (by have:=h.br.lt;omega) (fun k hk=>by injection hk with hk;omega)⟩
theorem DJ.drew (h:DJ w0 W H G l y cs):DJ w0 W.drew H G l y cs:=⟨h.br,h.rd,h.bp,h.bs,h.gg,h.tb.below (zri _ _).drew,h.bl.drew⟩
theorem DJ.set_ (h:DJ w0 W H G l y cs) (hw0:w0.heap.size=H) (hT:Tabs w0) (i:Nat) (u:Value):DJ w0 (W.setCell ⟨G,i,none⟩ u) H G l y (cs.setIfInBounds i u) :=
 have hg:=h.gg
 have hb:Below H w0 (W.setCell ⟨G,i,none⟩ u):=h.bl.setCell (by show H<=G;omega) _
 ⟨h.br.far (p:=⟨G,i,none⟩) (by show H≠G;omega) _,Blk.far (p:=⟨G,i,none⟩) h.rd (by show H+1≠G;omega) _,h.bp.far (p:=⟨G,i,none⟩) (by show H+1+1≠G;omega) _,h.bs.set_ i u,hg,hT.below (hw0 ▸ hb),hb⟩
end
def wyb (w:World) (l:Zlu) (e:Ending) (w':World):Prop :=
 ∃(d:uq0) (er:Nat) (p1 p2 p3 p4 p5 p6:Zoa) (c1 c2 c3 c4 c5 c6:Nat),e=.returned (.tuple #[.agg (dv d p1 p2 p3 p4 p5 p6 c1 c2 c3 c4 c5 c6),.int .i64 (er:Int)])/\DelOwn w' w.heap.size p1 p2 p3 p4 p5 p6 c1 c2 c3 c4 c5 c6 d/\Below w.heap.size w w'/\decDR l=(d,er)
theorem vqi {w w':World} {l:Zlu} {er:Nat} (hb:Below w.heap.size w w') (hd:decDR l=(noD,er)):wyb w l (.returned (.tuple #[.agg zdv,.int .i64 (er:Int)])) w' :=
 ⟨noD,er,none,none,none,none,none,none,0,0,0,0,0,0,rfl,vk3 _ _,hb,hd⟩
theorem wzl (b:Zba) (w:World) (hb:b.size<=4611686018427387904) (hT:Tabs w) :
  Calls prog 51 #[.string b] w fun e w'=>wyb w b.data.toList e w':=by
 have hzd:=ux6
 obtain⟨l,rfl⟩:∃l,b=bstr l:=⟨b.data.toList,(ux3 b).symm⟩
 rw[uqu]
 rw[uqz] at hb
 have hsz:(bstr l).size=l.length:=uqz l
 by_cases hbig:6000<l.length
 ·have hbi:(6000:Int)<(l.length:Int):=by omega
  have HP:=zrj (vqi (w:=w) (w':=w.alloc (.cells zdv 118)) ((zri _ _).alloc (zra _) _) (show decDR l=(noD,2) from by unfold decDR;rw[if_pos hbig]))
  go_enter func51,ntmps51
  go_wp2_with(first | (refine uqf rfl _ _ _ rfl rfl _ _ zdv rfl uqv rfl (ukj _ _ _ _ _ _ _ _ _ _ _ _ _ _ _ _ _ _ _ _) ?_))
  refine bodyPost_ret (uqi rfl _ rfl (Blk.new w _ _) underlying118 rfl uqv) rfl ?_
  exact HP.out
 have hbi:¬(6000:Int)<(l.length:Int):=by omega
 have HBG:=zrj hbig
 have s1:=zsb w (.cells zdv 118)
 have s2:((w.alloc (.cells zdv 118)).alloc (.cells #[.string (bstr l),.int .i64 0] 169)).heap.size=w.heap.size+1+1:=by simp
 have s3:(((w.alloc (.cells zdv 118)).alloc (.cells #[.string (bstr l),.int .i64 0] 169)).alloc (.cells #[zse (w.heap.size+1)] 167)).heap.size=w.heap.size+1+1+1:=by simp
 have br3:Blk (((w.alloc (.cells zdv 118)).alloc (.cells #[.string (bstr l),.int .i64 0] 169)).alloc (.cells #[zse (w.heap.size+1)] 167)) w.heap.size 118 zdv:=((Blk.new w _ _).alloc _).alloc _
 have rd3:Rd (((w.alloc (.cells zdv 118)).alloc (.cells #[.string (bstr l),.int .i64 0] 169)).alloc (.cells #[zse (w.heap.size+1)] 167)) (w.heap.size+1) l 0:=by have:=(Blk.new (w.alloc (.cells zdv 118)) 169 #[.string (bstr l),.int .i64 0]).alloc (.cells #[zse (w.heap.size+1)] 167);rw[s1] at this;exact this
 have bp3:Blk (((w.alloc (.cells zdv 118)).alloc (.cells #[.string (bstr l),.int .i64 0] 169)).alloc (.cells #[zse (w.heap.size+1)] 167)) (w.heap.size+1+1) 167 #[zse (w.heap.size+1)]:=by have:=Blk.new ((w.alloc (.cells zdv 118)).alloc (.cells #[.string (bstr l),.int .i64 0] 169)) 167 #[zse (w.heap.size+1)];rw[s2] at this;exact this
 have hB3:Below w.heap.size w (((w.alloc (.cells zdv 118)).alloc (.cells #[.string (bstr l),.int .i64 0] 169)).alloc (.cells #[zse (w.heap.size+1)] 167)):=(((zri _ _).alloc (zra _) _).alloc (by omega) _).alloc (by omega) _
 have HT:=zrj hT
 have tb3:=hT.below hB3
 clear hT s1 s2 hbig
 go_enter func51,ntmps51
 go_wp2_with fail
 generalize((w.alloc (.cells zdv 118)).alloc (.cells #[.string (bstr l),.int .i64 0] 169)).alloc (.cells #[zse (w.heap.size+1)] 167)=W3 at *
 refine(uxc (w.heap.size+1) 0 l W3 rd3).mono ?_
 rintro e w4 ⟨G4,n,l1,y1,rfl,R4,S4,_,_,hn⟩
 have HS1:=zrj S4
 have hl1:=zrc S4.1 hb
 have hB4:Below w.heap.size w w4:=hB3.grown G4 (by omega) (fun k hk=>by injection hk with hk;omega)
 have hg4:w.heap.size+1+1<w4.heap.size:=by have:=G4.size;omega
 have hb45:=zsa w4 (.cells #[.int .i64 (n:Int),.int .i64 0,.slice none 0 0,.slice none 0 0,.slice none 0 0,.slice none 0 0,.slice none 0 0,.slice none 0 0] 118)
 have D5:DJ w (w4.alloc (.cells #[.int .i64 (n:Int),.int .i64 0,.slice none 0 0,.slice none 0 0,.slice none 0 0,.slice none 0 0,.slice none 0 0,.slice none 0 0] 118)) w.heap.size w4.heap.size l1 y1 #[.int .i64 (n:Int),.int .i64 0,.slice none 0 0,.slice none 0 0,.slice none 0 0,.slice none 0 0,.slice none 0 0,.slice none 0 0] :=
  ⟨(br3.gr G4 (by omega)).alloc _,Blk.alloc R4 _,(bp3.gr G4 (by omega)).alloc _,Blk.new w4 _ _,hg4,(tb3.gw rd3 G4).below hb45,hB4.alloc hB4.size _⟩
 clear S4 R4 G4 br3 rd3 bp3 tb3 hB3 hB4 hb45 s3
 go_upto_region 5 with(first | (refine uqf rfl _ _ _ rfl rfl _ _ #[.int .i64 (n:Int),.int .i64 0,.slice none 0 0,.slice none 0 0,.slice none 0 0,.slice none 0 0,.slice none 0 0,.slice none 0 0] rfl uqv rfl (ukj _ _ _ _ _ _ _ _ _ _ _ _ _ _ _ _ _ _ _ _) ?_))
 generalize w4.alloc (.cells #[.int .i64 (n:Int),.int .i64 0,.slice none 0 0,.slice none 0 0,.slice none 0 0,.slice none 0 0,.slice none 0 0,.slice none 0 0] 118)=W5 at *
 generalize w4.heap.size=gd at *
 simp only[Act.put]
 go_cut [22] (fun v wx=>∃(m:Nat) (l2:Zlu) (y2:Nat),DJ w wx w.heap.size gd l2 y2 #[.int .i64 (n:Int),.int .i64 (IntKind.i64.wrap ((n:Int)+(m:Int))),.slice none 0 0,.slice none 0 0,.slice none 0 0,.slice none 0 0,.slice none 0 0,.slice none 0 0]/\Hid (Step pInt l1 y1 (m:Int) l2 y2)/\m<=4611686018427387904)
 case first =>
  have D5d:=D5.drew
  have x0:W5.drew.cell? ⟨gd,0,none⟩=some (.int .i64 (n:Int)):=D5d.bs.cell 0
  have xp:W5.drew.cell? ⟨w.heap.size+1+1,0,none⟩=some (zse (w.heap.size+1)):=D5d.bp.cell 0
  go_region_law (first | (go_simp;go_at_call 69;refine(uxc (w.heap.size+1) y1 l1 W5.drew D5d.rd).mono ?_;rintro e w6 ⟨G6,m,l2,y2,rfl,R6,S6,_,_,hm⟩;have D6:=D5d.read G6 R6;have k0:=D6.bs.cell 0;have k1:=D6.bs.cell 1;have f1:w6.frozen? ⟨gd,1,none⟩=false:=D6.bs.frozen 1;have HS6:=zrj S6;clear S6 G6 R6))
  all_goals
   have D7:=D6.set_ rfl HT.out 1 (.int .i64 (IntKind.i64.wrap ((n:Int)+(m:Int))))
   go_wp2_with fail
   go_meet
   exact⟨m,l2,y2,(by simpa using D7),HS6,hm⟩
 case rest =>
  obtain⟨m,l2,y2,D7,HS2,hm⟩:=hcut
  have hl2:=zrc HS2.out.1 hl1
  clear D5
  obtain⟨uu,huu⟩:∃uu,IntKind.i64.wrap ((n:Int)+(m:Int))=uu:=⟨_,rfl⟩
  rw[huu] at D7
  have HUU:=zrj huu
  clear huu
  obtain⟨w7,rfl⟩:∃w7:World,w7=wc:=⟨_,rfl⟩
  have hgs:gd<w7.heap.size:=D7.bs.lt
  have xp:=D7.bp.c0
  go_wp2_with fail
  refine(xja _ (w.heap.size+1+1) (w.heap.size+1) y2 l2 40 w7 D7.bp (by omega) D7.rd hl2 D7.tb (by decide)).mono ?_
  rintro e v7 ⟨V7,val,jobs,l3,y3,rfl,OO,RR,SS⟩
  obtain⟨p1,c1,rfl,O1⟩:=vjz (size:=5) (row:=rowJ) (fun x=>rfl) OO
  have E7:=D7.read V7 RR
  have hs7:gd<w7.heap.size:=D7.bs.lt
  have hh7:=D7.bl.size
  have ec:=E7.bs.c2
  have fc:v7.frozen? ⟨gd,2,none⟩=false:=E7.bs.frozen 2
  have ep:=E7.bp.c0
  have D8:DJ w (v7.setCell ⟨gd,2,none⟩ (Value.slice p1 jobs.length c1)) w.heap.size gd l3 y3 #[.int .i64 (n:Int),.int .i64 uu,.slice p1 jobs.length c1,.slice none 0 0,.slice none 0 0,.slice none 0 0,.slice none 0 0,.slice none 0 0]:=by have:=E7.set_ rfl HT.out 2 (Value.slice p1 jobs.length c1);simpa using this
  have O1:=O1.cell_ (a:=⟨gd,2,none⟩) (by show gd<_;omega) (Value.slice p1 jobs.length c1)
  have HS3:=zrj SS
  have hl3:=zrc SS.1 hl2
  clear SS RR OO V7 E7 D7 xp
  have hneg:¬(gd=w.heap.size+1+1):=by have:=D8.gg;omega
  have xp:(v7.setCell ⟨gd,2,none⟩ (Value.slice p1 jobs.length c1)).cell? ⟨w.heap.size+1+1,0,none⟩=some (zse (w.heap.size+1)):=D8.bp.cell 0
  go_upto_region 7 with(fail)
  generalize v7.setCell ⟨gd,2,none⟩ (Value.slice p1 jobs.length c1)=w8 at *
  clear ec fc ep hneg
  go_wp2_with fail
  refine(xjb _ (w.heap.size+1+1) (w.heap.size+1) y3 l3 20 w8 D8.bp (by omega) D8.rd hl3 D8.tb (by decide)).mono ?_
  rintro e v8 ⟨V8,val,nodes,l4,y4,rfl,OO,RR,SS⟩
  obtain⟨p2,c2,rfl,O2⟩:=vjz (size:=3) (row:=rowN) (fun x=>rfl) OO
  have E8:=D8.read V8 RR
  have hs8:gd<w8.heap.size:=D8.bs.lt
  have hh8:=D8.bl.size
  have ec:=E8.bs.c3
  have fc:v8.frozen? ⟨gd,3,none⟩=false:=E8.bs.frozen 3
  have ep:=E8.bp.c0
  have D9:DJ w (v8.setCell ⟨gd,3,none⟩ (Value.slice p2 nodes.length c2)) w.heap.size gd l4 y4 #[.int .i64 (n:Int),.int .i64 uu,.slice p1 jobs.length c1,.slice p2 nodes.length c2,.slice none 0 0,.slice none 0 0,.slice none 0 0,.slice none 0 0]:=by have:=E8.set_ rfl HT.out 3 (Value.slice p2 nodes.length c2);simpa using this
  have O1:=(OwnR.gw_ O1 V8 (by omega)).cell_ (a:=⟨gd,3,none⟩) (by show gd<_;omega) (Value.slice p2 nodes.length c2)
  have O2:=O2.cell_ (a:=⟨gd,3,none⟩) (by show gd<_;omega) (Value.slice p2 nodes.length c2)
  have HS4:=zrj SS
  have hl4:=zrc SS.1 hl3
  clear SS RR OO V8 E8 D8 xp
  have hneg:¬(gd=w.heap.size+1+1):=by have:=D9.gg;omega
  have xp:(v8.setCell ⟨gd,3,none⟩ (Value.slice p2 nodes.length c2)).cell? ⟨w.heap.size+1+1,0,none⟩=some (zse (w.heap.size+1)):=D9.bp.cell 0
  go_upto_region 8 with(fail)
  generalize v8.setCell ⟨gd,3,none⟩ (Value.slice p2 nodes.length c2)=w9 at *
  clear ec fc ep hneg
  go_wp2_with fail
  refine(vke (w.heap.size+1) y4 l4 40 w9 D9.rd hl4 D9.tb (by decide)).mono ?_
  rintro e v9 ⟨V9,val,leases,l5,y5,rfl,OO,RR,SS⟩
  obtain⟨p3,c3,rfl,O3⟩:=vjz (size:=3) (row:=rowL) (fun x=>rfl) OO
  have E9:=D9.read V9 RR
  have hs9:gd<w9.heap.size:=D9.bs.lt
  have hh9:=D9.bl.size
  have ec:=E9.bs.c4
  have fc:v9.frozen? ⟨gd,4,none⟩=false:=E9.bs.frozen 4
  have ep:=E9.bp.c0
  have D10:DJ w (v9.setCell ⟨gd,4,none⟩ (Value.slice p3 leases.length c3)) w.heap.size gd l5 y5 #[.int .i64 (n:Int),.int .i64 uu,.slice p1 jobs.length c1,.slice p2 nodes.length c2,.slice p3 leases.length c3,.slice none 0 0,.slice none 0 0,.slice none 0 0]:=by have:=E9.set_ rfl HT.out 4 (Value.slice p3 leases.length c3);simpa using this
  have O1:=(OwnR.gw_ O1 V9 (by omega)).cell_ (a:=⟨gd,4,none⟩) (by show gd<_;omega) (Value.slice p3 leases.length c3)
  have O2:=(OwnR.gw_ O2 V9 (by omega)).cell_ (a:=⟨gd,4,none⟩) (by show gd<_;omega) (Value.slice p3 leases.length c3)
  have O3:=O3.cell_ (a:=⟨gd,4,none⟩) (by show gd<_;omega) (Value.slice p3 leases.length c3)
  have HS5:=zrj SS
  have hl5:=zrc SS.1 hl4
  clear SS RR OO V9 E9 D9 xp
  have hneg:¬(gd=w.heap.size+1+1):=by have:=D10.gg;omega
  have xp:(v9.setCell ⟨gd,4,none⟩ (Value.slice p3 leases.length c3)).cell? ⟨w.heap.size+1+1,0,none⟩=some (zse (w.heap.size+1)):=D10.bp.cell 0
  go_upto_region 9 with(fail)
  generalize v9.setCell ⟨gd,4,none⟩ (Value.slice p3 leases.length c3)=w10 at *
  clear ec fc ep hneg
  go_wp2_with fail
  refine(vwu (w.heap.size+1) y5 l5 40 w10 D10.rd hl5 D10.tb (by decide)).mono ?_
  rintro e v10 ⟨V10,val,gj,l6,y6,rfl,OO,RR,SS⟩
  obtain⟨p4,c4,rfl,O4⟩:=vjz (size:=1) (row:=rowS) (fun x=>rfl) OO
  have E10:=D10.read V10 RR
  have hs10:gd<w10.heap.size:=D10.bs.lt
  have hh10:=D10.bl.size
  have ec:=E10.bs.c5
  have fc:v10.frozen? ⟨gd,5,none⟩=false:=E10.bs.frozen 5
  have ep:=E10.bp.c0
  have D11:DJ w (v10.setCell ⟨gd,5,none⟩ (Value.slice p4 gj.length c4)) w.heap.size gd l6 y6 #[.int .i64 (n:Int),.int .i64 uu,.slice p1 jobs.length c1,.slice p2 nodes.length c2,.slice p3 leases.length c3,.slice p4 gj.length c4,.slice none 0 0,.slice none 0 0]:=by have:=E10.set_ rfl HT.out 5 (Value.slice p4 gj.length c4);simpa using this
  have O1:=(OwnR.gw_ O1 V10 (by omega)).cell_ (a:=⟨gd,5,none⟩) (by show gd<_;omega) (Value.slice p4 gj.length c4)
  have O2:=(OwnR.gw_ O2 V10 (by omega)).cell_ (a:=⟨gd,5,none⟩) (by show gd<_;omega) (Value.slice p4 gj.length c4)
  have O3:=(OwnR.gw_ O3 V10 (by omega)).cell_ (a:=⟨gd,5,none⟩) (by show gd<_;omega) (Value.slice p4 gj.length c4)
  have O4:=O4.cell_ (a:=⟨gd,5,none⟩) (by show gd<_;omega) (Value.slice p4 gj.length c4)
  have HS6:=zrj SS
  have hl6:=zrc SS.1 hl5
  clear SS RR OO V10 E10 D10 xp
  have hneg:¬(gd=w.heap.size+1+1):=by have:=D11.gg;omega
  have xp:(v10.setCell ⟨gd,5,none⟩ (Value.slice p4 gj.length c4)).cell? ⟨w.heap.size+1+1,0,none⟩=some (zse (w.heap.size+1)):=D11.bp.cell 0
  go_upto_region 10 with(fail)
  generalize v10.setCell ⟨gd,5,none⟩ (Value.slice p4 gj.length c4)=w11 at *
  clear ec fc ep hneg
  go_wp2_with fail
  refine(vwu (w.heap.size+1) y6 l6 20 w11 D11.rd hl6 D11.tb (by decide)).mono ?_
  rintro e v11 ⟨V11,val,gn,l7,y7,rfl,OO,RR,SS⟩
  obtain⟨p5,c5,rfl,O5⟩:=vjz (size:=1) (row:=rowS) (fun x=>rfl) OO
  have E11:=D11.read V11 RR
  have hs11:gd<w11.heap.size:=D11.bs.lt
  have hh11:=D11.bl.size
  have ec:=E11.bs.c6
  have fc:v11.frozen? ⟨gd,6,none⟩=false:=E11.bs.frozen 6
  have ep:=E11.bp.c0
  have D12:DJ w (v11.setCell ⟨gd,6,none⟩ (Value.slice p5 gn.length c5)) w.heap.size gd l7 y7 #[.int .i64 (n:Int),.int .i64 uu,.slice p1 jobs.length c1,.slice p2 nodes.length c2,.slice p3 leases.length c3,.slice p4 gj.length c4,.slice p5 gn.length c5,.slice none 0 0]:=by have:=E11.set_ rfl HT.out 6 (Value.slice p5 gn.length c5);simpa using this
  have O1:=(OwnR.gw_ O1 V11 (by omega)).cell_ (a:=⟨gd,6,none⟩) (by show gd<_;omega) (Value.slice p5 gn.length c5)
  have O2:=(OwnR.gw_ O2 V11 (by omega)).cell_ (a:=⟨gd,6,none⟩) (by show gd<_;omega) (Value.slice p5 gn.length c5)
  have O3:=(OwnR.gw_ O3 V11 (by omega)).cell_ (a:=⟨gd,6,none⟩) (by show gd<_;omega) (Value.slice p5 gn.length c5)
  have O4:=(OwnR.gw_ O4 V11 (by omega)).cell_ (a:=⟨gd,6,none⟩) (by show gd<_;omega) (Value.slice p5 gn.length c5)
  have O5:=O5.cell_ (a:=⟨gd,6,none⟩) (by show gd<_;omega) (Value.slice p5 gn.length c5)
  have HS7:=zrj SS
  have hl7:=zrc SS.1 hl6
  clear SS RR OO V11 E11 D11 xp
  have hneg:¬(gd=w.heap.size+1+1):=by have:=D12.gg;omega
  have xp:(v11.setCell ⟨gd,6,none⟩ (Value.slice p5 gn.length c5)).cell? ⟨w.heap.size+1+1,0,none⟩=some (zse (w.heap.size+1)):=D12.bp.cell 0
  go_upto_region 11 with(fail)
  generalize v11.setCell ⟨gd,6,none⟩ (Value.slice p5 gn.length c5)=w12 at *
  clear ec fc ep hneg
  go_wp2_with fail
  refine(vwu (w.heap.size+1) y7 l7 40 w12 D12.rd hl7 D12.tb (by decide)).mono ?_
  rintro e v12 ⟨V12,val,gl,l8,y8,rfl,OO,RR,SS⟩
  obtain⟨p6,c6,rfl,O6⟩:=vjz (size:=1) (row:=rowS) (fun x=>rfl) OO
  have E12:=D12.read V12 RR
  have hs12:gd<w12.heap.size:=D12.bs.lt
  have hh12:=D12.bl.size
  have ec:=E12.bs.c7
  have fc:v12.frozen? ⟨gd,7,none⟩=false:=E12.bs.frozen 7
  have ep:=E12.bp.c0
  have D13:DJ w (v12.setCell ⟨gd,7,none⟩ (Value.slice p6 gl.length c6)) w.heap.size gd l8 y8 #[.int .i64 (n:Int),.int .i64 uu,.slice p1 jobs.length c1,.slice p2 nodes.length c2,.slice p3 leases.length c3,.slice p4 gj.length c4,.slice p5 gn.length c5,.slice p6 gl.length c6]:=by have:=E12.set_ rfl HT.out 7 (Value.slice p6 gl.length c6);simpa using this
  have O1:=(OwnR.gw_ O1 V12 (by omega)).cell_ (a:=⟨gd,7,none⟩) (by show gd<_;omega) (Value.slice p6 gl.length c6)
  have O2:=(OwnR.gw_ O2 V12 (by omega)).cell_ (a:=⟨gd,7,none⟩) (by show gd<_;omega) (Value.slice p6 gl.length c6)
  have O3:=(OwnR.gw_ O3 V12 (by omega)).cell_ (a:=⟨gd,7,none⟩) (by show gd<_;omega) (Value.slice p6 gl.length c6)
  have O4:=(OwnR.gw_ O4 V12 (by omega)).cell_ (a:=⟨gd,7,none⟩) (by show gd<_;omega) (Value.slice p6 gl.length c6)
  have O5:=(OwnR.gw_ O5 V12 (by omega)).cell_ (a:=⟨gd,7,none⟩) (by show gd<_;omega) (Value.slice p6 gl.length c6)
  have O6:=O6.cell_ (a:=⟨gd,7,none⟩) (by show gd<_;omega) (Value.slice p6 gl.length c6)
  have HS8:=zrj SS
  have hl8:=zrc SS.1 hl7
  clear SS RR OO V12 E12 D12 xp
  have hneg:¬(gd=w.heap.size+1+1):=by have:=D13.gg;omega
  have xp:(v12.setCell ⟨gd,7,none⟩ (Value.slice p6 gl.length c6)).cell? ⟨w.heap.size+1+1,0,none⟩=some (zse (w.heap.size+1)):=D13.bp.cell 0
  go_upto_region 12 with(fail)
  generalize v12.setCell ⟨gd,7,none⟩ (Value.slice p6 gl.length c6)=w13 at *
  clear ec fc ep hneg
  have HST:=zrj (Step.delta HS1.out HS2.out HS3.out HS4.out HS5.out HS6.out HS7.out HS8.out)
  clear HS1 HS2 HS3 HS4 HS5 HS6 HS7 HS8
  go_wp2_with fail
  refine(uk8 (w.heap.size+1) y8 l8 w13 D13.rd).mono ?_
  rintro e w14 ⟨G14,rfl⟩
  have br:=D13.br.gr G14 (by omega)
  have bs:=D13.bs.gr G14 (by have:=D13.gg;omega)
  have hB14:Below w.heap.size w w14:=D13.bl.grown G14 (by have:=D13.br.lt;omega) (fun k hk=>by injection hk with hk;omega)
  have hgg:=D13.gg
  have O1:=OwnR.gw_ O1 G14 (by omega)
  have O2:=OwnR.gw_ O2 G14 (by omega)
  have O3:=OwnR.gw_ O3 G14 (by omega)
  have O4:=OwnR.gw_ O4 G14 (by omega)
  have O5:=OwnR.gw_ O5 G14 (by omega)
  have O6:=OwnR.gw_ O6 G14 (by omega)
  clear D13 G14 xp
  by_cases he:endE y8 l8=0
  ·obtain⟨hok,hd⟩:=xxf HBG.out HST.out he
   obtain⟨hwr1,hwr2⟩:=wvb hok
   rw[HUU.out] at hwr1 hwr2
   have hdk:=okD_ok hok uu
   rw[<- hwr1] at hd hwr2
   have hez:((endE y8 l8:Int) != 0)=false:=by rw[he];rfl
   have hO:DelOwn w14 w.heap.size p1 p2 p3 p4 p5 p6 c1 c2 c3 c4 c5 c6 ({ frm:=(n:Int),upto:=uu,jobs:=jobs,nodes:=nodes,leases:=leases,gj:=gj,gn:=gn,gl:=gl }:uq0):=⟨O1.lower (by omega),O2.lower (by omega),O3.lower (by omega),O4.lower (by omega),O5.lower (by omega),O6.lower (by omega)⟩
   have HC:=zrj (uv3 ({ frm:=(n:Int),upto:=uu,jobs:=jobs,nodes:=nodes,leases:=leases,gj:=gj,gn:=gn,gl:=gl }:uq0) p1 p2 p3 p4 p5 p6 c1 c2 c3 c4 c5 c6 w14 hO.m hdk (HT.out.below hB14))
   have hd2:decDR l=if uxn ({ frm:=(n:Int),upto:=uu,jobs:=jobs,nodes:=nodes,leases:=leases,gj:=gj,gn:=gn,gl:=gl }:uq0)≠0 then(noD,uxn ({ frm:=(n:Int),upto:=uu,jobs:=jobs,nodes:=nodes,leases:=leases,gj:=gj,gn:=gn,gl:=gl }:uq0)) else(({ frm:=(n:Int),upto:=uu,jobs:=jobs,nodes:=nodes,leases:=leases,gj:=gj,gn:=gn,gl:=gl }:uq0),0):=by
    rw[hd]
    by_cases h0:uxn ({ frm:=(n:Int),upto:=uu,jobs:=jobs,nodes:=nodes,leases:=leases,gj:=gj,gn:=gn,gl:=gl }:uq0)=0
    ·rw[if_neg (by simpa using h0),if_neg (by simpa using h0)];exact congrArg (fun x=>(x,0)) (hwr2 h0).symm
    ·rw[if_pos h0,if_pos h0]
   have HD:=zrj hd2
   have HOO:=zrj hO
   generalize uxn ({ frm:=(n:Int),upto:=uu,jobs:=jobs,nodes:=nodes,leases:=leases,gj:=gj,gn:=gn,gl:=gl }:uq0)=ce at *
   generalize hee:endE y8 l8=ee at *
   clear hd hd2 hok hdk hwr1 hwr2 he hee HST hO
   have ho1:=O1;have ho2:=O2;have ho3:=O3;have ho4:=O4;have ho5:=O5;have ho6:=O6
   go_wp2_with(first | (refine uqa rfl _ _ rfl gd rfl _ _ bs _ underlying118 rfl uqv ?_))
   refine HC.out.mono ?_
   rintro e w15 ⟨rfl,hb15⟩
   have hB15:=bthen hB14 hb15
   have br:=br.bl hb15
   have bs:=bs.bl hb15
   have o1:=OwnR.below O1 hb15
   have o2:=OwnR.below O2 hb15
   have o3:=OwnR.below O3 hb15
   have o4:=OwnR.below O4 hb15
   have o5:=OwnR.below O5 hb15
   have o6:=OwnR.below O6 hb15
   have hsz15:=hb15.size
   clear hb15 HC HOO ho1 ho2 ho3 ho4 ho5 ho6 O1 O2 O3 O4 O5 O6
   by_cases hce:ce=0
   ·subst hce
    have hcz:(((0:Nat):Int) != 0)=false:=rfl
    have hd:=HD.out
    rw[if_neg (by simp)] at hd
    have HD2:=zrj hd
    clear hd HD
    go_wp2_with(first | (refine uqa rfl _ _ rfl gd rfl _ _ bs _ underlying118 rfl uqv ?_) | (refine uqc rfl _ _ _ rfl (w.heap.size) rfl _ _ #[.int .i64 (n:Int),.int .i64 uu,.slice p1 jobs.length c1,.slice p2 nodes.length c2,.slice p3 leases.length c3,.slice p4 gj.length c4,.slice p5 gn.length c5,.slice p6 gl.length c6] br rfl uqv rfl (ukj _ _ _ _ _ _ _ _ _ _ _ _ _ _ _ _ _ _ _ _) ?_))
    refine bodyPost_ret (uqi rfl _ rfl (br.setRow #[.int .i64 (n:Int),.int .i64 uu,.slice p1 jobs.length c1,.slice p2 nodes.length c2,.slice p3 leases.length c3,.slice p4 gj.length c4,.slice p5 gn.length c5,.slice p6 gl.length c6]) underlying118 rfl uqv) rfl ?_
    exact⟨({ frm:=(n:Int),upto:=uu,jobs:=jobs,nodes:=nodes,leases:=leases,gj:=gj,gn:=gn,gl:=gl }:uq0),0,p1,p2,p3,p4,p5,p6,c1,c2,c3,c4,c5,c6,rfl,⟨(o1.row_ (by omega) _).lower (by omega),(o2.row_ (by omega) _).lower (by omega),(o3.row_ (by omega) _).lower (by omega),(o4.row_ (by omega) _).lower (by omega),(o5.row_ (by omega) _).lower (by omega),(o6.row_ (by omega) _).lower (by omega)⟩,uqh hB15 (zra _) _,HD2.out⟩
   ·have hcz:((ce:Int) != 0)=true:=by rw[bne_iff_ne];omega
    have hd:=HD.out
    rw[if_pos hce] at hd
    have HP:=zrj (vqi (uqh hB15 (zra _) zdv) hd)
    clear hd HD hce
    go_wp2_with(first | (refine uqc rfl _ _ _ rfl (w.heap.size) rfl _ _ zdv br rfl uqv rfl (ukj _ _ _ _ _ _ _ _ _ _ _ _ _ _ _ _ _ _ _ _) ?_))
    refine bodyPost_ret (uqi rfl _ rfl (br.setRow zdv) underlying118 rfl uqv) rfl ?_
    exact HP.out
  ·have hez:((endE y8 l8:Int) != 0)=true:=by rw[bne_iff_ne];omega
   have HP:=zrj (vqi (uqh hB14 (zra _) zdv) (xkb HBG.out HST.out he))
   generalize endE y8 l8=ee at *
   clear he HST
   go_wp2_with(first | (refine uqc rfl _ _ _ rfl (w.heap.size) rfl _ _ zdv br rfl uqv rfl (ukj _ _ _ _ _ _ _ _ _ _ _ _ _ _ _ _ _ _ _ _) ?_))
   refine bodyPost_ret (uqi rfl _ rfl (br.setRow zdv) underlying118 rfl uqv) rfl ?_
   exact HP.out
end Go.Proofs.YtknmnhleicakhaaGreatDoor
