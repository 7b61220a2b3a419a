/- Lemmas.
-/
import Derived.Test.YtknmnhleicakhaaGreatDoorPtRead
import Derived.Test.YtknmnhleicakhaaGreatDoorPtWireB
set_option linter.all false
set_option maxHeartbeats 16000000
set_option maxRecDepth 100000
namespace Go.Proofs.YtknmnhleicakhaaGreatDoor
open Go.Proofs.Tryz
open Go.RowKit
theorem xvk:(prog.info? 38).map (fun i=>(i.zero,i.size,i.bytes))=some (some (.agg zwJ),5,56):=by kernel_rfl
def OwnJ (w:World) (base:Nat) (v:Value) (l:List JobD):Prop:=w.ownsRow base 38 5 v l.length (l.flatMap rowJ)
theorem OwnJ.gw {a b:World} {base g:Nat} {v:Value} {l:List JobD} (h:OwnJ a base v l) (hg:a.grownBy b (some g)) (hlt:g<base):OwnJ b base v l :=
 World.ownsRow.kept (row:=some g) h ⟨hg.os,hg.tape,hg.output,hg.size,hg.block⟩ (.inr (fun h0=>by have:=(World.ownsRow.lt h g h0).1;omega))
section
variable {w:World} {ops:Array Oper} {rest:List Oper} {o:Oper} {a:Act} {Q:Exit->Act->World->Prop}
theorem vw1 (hgd:o.guard=none) (s x:Operand)
  (ho:o.op=.call { callee:=.builtin .append,args:=#[s,x],argTypes:=#[22,22] })
  (base:Nat) (v:Value) (acc:List JobD) (hs:a.eval s=v) (hown:OwnJ w base v acc) (g:Nat) (j:JobD) (hx:a.eval x=.slice (some ⟨g,0,none⟩) 1 1)
  (hb:Blk w g 38 (rowJ j).toArray) (hlen:acc.length+1<=1099511627776) (hbase:base<=w.heap.size)
  (h:∀v' w',OwnJ w' base v' (acc++[j])->Below base w w'->wpList prog ops Q rest (a.put o.dst v') w'):wpList prog ops Q (o::rest) a w:=by
 obtain⟨i0,hi,hz0,hz1,hz2⟩:=info_parts xvk
 refine wpList_append_own w hgd s x 22 ho base 38 i0 _ 5 56 underlying22 hi hz0 hz1 hz2 rfl (by decide) v acc.length (acc.flatMap rowJ) hs hown ⟨g,0,none⟩ 1 1 (rowJ j) hx rfl ?_ ?_ ?_ ?_ hbase ?_
 ·exact World.news_of_block hb
 ·simp[rowJ,Value.oneCell']
 ·simp only[maxLen];omega
 ·omega
 ·intro v' w' hown' hg _
  refine h v' w' ?_ ?_
  ·unfold OwnJ
   rw[List.flatMap_append,zrb]
   simpa using hown'
  ·exact(zri base w).grown hg hbase (fun k hk=>(World.ownsRow.lt hown k hk).1)
end
theorem cloJ_any (t6 t3:TypeId) (g6 g3 g x:Nat) (l:Zlu) (v:Int) (w:World) (h6:Blk w g6 t6 #[zse g]) (h3:Blk w g3 t3 #[.int .i64 v]) (hR:Rd w g l x) (hl:l.length<=4611686018427387904) (hT:Tabs w) :
  Calls prog 78 #[zse g6,zse g3] w fun e w'=>RdP (fun j:JobD=>.agg (rowJ j).toArray) (pJob v) w g l x e w':=by
 have hglt:=hR.lt
 go_enter func78,ntmps78
 have bC:=Blk.new w 38 #[.string (ByteArray.mk #[]),.int .i64 0,.int .i64 0,.int .i64 0,.string (ByteArray.mk #[])]
 have R0:Rd (w.alloc (.cells #[.string (ByteArray.mk #[]),.int .i64 0,.int .i64 0,.int .i64 0,.string (ByteArray.mk #[])] 38)) g l x:=Blk.alloc hR _
 have T0:Tabs (w.alloc (.cells #[.string (ByteArray.mk #[]),.int .i64 0,.int .i64 0,.int .i64 0,.string (ByteArray.mk #[])] 38)):=hT.below ((zri _ _).alloc (zra _) _)
 have G0:w.grownBy (w.alloc (.cells #[.string (ByteArray.mk #[]),.int .i64 0,.int .i64 0,.int .i64 0,.string (ByteArray.mk #[])] 38)) (some g):=ux1 (ujj _ _) _
 have c6:(w.alloc (.cells #[.string (ByteArray.mk #[]),.int .i64 0,.int .i64 0,.int .i64 0,.string (ByteArray.mk #[])] 38)).cell? ⟨g6,0,none⟩=some (zse g):=(h6.alloc _).cell 0
 have c3:(w.alloc (.cells #[.string (ByteArray.mk #[]),.int .i64 0,.int .i64 0,.int .i64 0,.string (ByteArray.mk #[])] 38)).cell? ⟨g3,0,none⟩=some (.int .i64 v):=(h3.alloc _).cell 0
 clear hR hT
 go_wp2_with fail
 generalize w.alloc (.cells #[.string (ByteArray.mk #[]),.int .i64 0,.int .i64 0,.int .i64 0,.string (ByteArray.mk #[])] 38)=W0 at *
 refine(wxl g x l v W0 R0 hl T0).mono ?_
 rintro e w1 ⟨g1,a1,l1,y1,rfl,R1,S1⟩
 have b1:=bC.gw g1 (by omega)
 have G1:=uq9 G0 g1
 clear bC R0 T0 G0 g1 c6 c3
 go_wp2_with(refine uqc rfl _ _ _ rfl w.heap.size rfl _ _ (rowJ a1).toArray b1 rfl uqo rfl (uvw _) ?_)
 (try simp only[Exit.inBlock,Exit.then])
 refine bodyPost_ret (uq8 rfl _ rfl (b1.setRow _) underlying38 rfl uqo) rfl ?_
 exact⟨uk4 G1 _ _ (zra _),a1,l1,y1,rfl,Blk.setRow_far R1 (by omega) _,S1⟩
def xjq (p:Zlu->Res JobD) (w:World) (g:Nat) (l:Zlu) (x many:Nat) (e:Ending) (w':World):Prop :=
 w.grownBy w' (some g)/\∃val xs l' y,e=.returned val/\OwnJ w' w.heap.size val xs/\Rd w' g l' y/\Step (pRows many p) l x xs l' y
theorem wqa (t6 t3:TypeId) (g6 g3 g x:Nat) (l:Zlu) (v:Int) (many:Nat) (w:World) (h6:Blk w g6 t6 #[zse g]) (h3:Blk w g3 t3 #[.int .i64 v]) (h6g:g6≠g) (h3g:g3≠g) (hR:Rd w g l x) (hl:l.length<=4611686018427387904) (hT:Tabs w) (hmany:many<=1000) :
  Calls prog 77 #[zse g,.int .i64 (many:Int),.func (.func 78) #[] #[zse g6,zse g3]] w fun e w'=>xjq (pJob v) w g l x many e w':=by
 have hglt:=hR.lt
 go_enter func77,ntmps77
 go_wp2_with fail
 refine(uxc g x l w hR).mono ?_
 rintro e w1 ⟨G1,n,l1,y1,rfl,R1,_,S1,hy1,hn⟩
 have T1:=hT.gw hR G1
 have hl1:=zrc S1.1 hl
 have HS1:=zrj S1
 have HT:=zrj (fun(w':World) (h:w.grownBy w' (some g))=>hT.gw hR h)
 clear hT hR S1
 by_cases hm:many<n
 ·have hmi:(many:Int)<(n:Int):=by omega
  have hy0:y1=0:=by
   rcases Nat.eq_zero_or_pos y1 with h | h
   ·exact h
   ·exact absurd (hy1 (by omega)) (by omega)
  have h0n:(0:Int)<(n:Int):=by omega
  have HN:Hid (many<n):=zrj hm
  clear hy1 hn hm
  go_wp2_with fail
  refine(ukn g y1 2 l1 w1 R1).mono ?_
  rintro e w2 ⟨rfl,g2,R2⟩
  rw[if_pos hy0] at R2
  have c1:=R2.c1
  clear R1 T1
  go_wp2_with fail
  refine wp_loop_rounds 1 ?_
  rw[rounds_succ]
  go_wp2_with fail
  go_ret
  exact⟨uq9 G1 g2,_,[],l1,2,rfl,World.ownsRow_nil _ _ _ _,R2,Step.many HS1.out (fun h=>absurd hy0 h) HN.out (ukl v).err⟩
 ·have hmi:¬(many:Int)<(n:Int):=by omega
  have HN:Hid (n<=many):=zrj (by omega)
  have HY:=zrj hy1
  clear hy1
  have hnm:n<=1000:=by omega
  have hmd:decide (many<n)=false:=decide_eq_false hm
  go_wp2_with fail
  go_loopw [8,17] (fun out i wr=>∃(k:Nat) (xs:List JobD) (l2:Zlu) (y:Nat),k<=n/\xs.length<=k/\i=.int .i64 k/\w.grownBy wr (some g)/\OwnJ wr w.heap.size out xs/\Rd wr g l2 y/\Tabs wr/\Hid (Step (pRep (pJob v) k) l1 y1 xs l2 y)) (fun _ i _=>n-(intOf i).toNat)
  case atStart=>exact⟨0,[],l1,y1,Nat.zero_le _,zra _,rfl,G1,World.ownsRow_nil _ _ _ _,R1,T1,Step.unit [] l1 y1⟩
  case round =>
   obtain⟨k,xs,l2,y,hk,hxs,rfl,G2,O2,R2,T2,H2⟩:=hrel
   have c1:=R2.c1
   by_cases hlt:k<n
   ·have hki:(k:Int)<(n:Int):=by omega
    by_cases hy:y=0
    ·have hyb:((y:Int) != 0)=false:=by rw[hy];rfl
     have hl2:l2.length<=4611686018427387904:=zrc H2.out.1 hl1
     have HC:=zrj (show Calls prog 78 #[zse g6,zse g3] wr (fun e w'=>RdP (fun j:JobD=>.agg (rwJ j)) (pJob v) wr g l2 y e w') from(cloJ_any t6 t3 g6 g3 g y l2 v wr (h6.gw G2 h6g) (h3.gw G2 h3g) R2 hl2 T2))
     go_wp2_with fail
     refine HC.out.mono ?_
     rintro e w3 ⟨g3',a3,l3,y3,rfl,R3,S3⟩
     have G3:=ux1 (uq9 G2 g3') (.cells (rwJ a3) 38)
     have O4:OwnJ (w3.alloc (.cells (rwJ a3) 38)) w.heap.size _ xs:=World.ownsRow.alloc (O2.gw g3' hglt) _
     have bE:=Blk.new w3 38 (rwJ a3)
     have R4:Rd (w3.alloc (.cells (rwJ a3) 38)) g l3 y3:=Blk.alloc R3 _
     have HS3:=zrj S3
     have hsz3:w.heap.size<=(w3.alloc (.cells (rwJ a3) 38)).heap.size:=G3.size
     clear R3 g3' O2 G2 R2 T2 S3 c1 HC
     go_wp2_with(first
      | (at_builtin;go_loud (refine vw1 rfl _ _ rfl w.heap.size _ xs rfl O4 w3.heap.size a3 rfl bE (by omega) hsz3 ?_)))
     intro v4 w4 O5 hb4
     have G5:=uya G3 hb4
     have R5:Rd w4 g l3 y3:=Blk.below R4 hb4 hglt
     have T5:=HT.out w4 G5
     clear O4 bE R4 G3 hb4
     go_wp2_with fail
     go_roundw
     case rel=>exact⟨k+1,xs++[a3],l3,y3,by omega,by simp;omega,by go_num,G5,O5,R5,T5,Step.snoc H2.out HS3.out (PP.rep (ukl v) k).err⟩
     case measure=>simp[intOf];omega
    ·have hyb:((y:Int) != 0)=true:=by rw[bne_iff_ne];omega
     go_wp2_with fail
     go_ret
     exact⟨G2,_,[],l2,y,rfl,World.ownsRow_nil _ _ _ _,R2,Step.rows HS1.out HY.out HN.out (Step.early (Nat.le_of_lt hlt) H2.out hy (ukl v))⟩
   ·obtain rfl:k=n:=by omega
    have hki:¬(k:Int)<(k:Int):=by omega
    go_wp2_with fail
    go_ret
    exact⟨G2,_,xs,l2,y,rfl,O2,R2,Step.rows HS1.out HY.out HN.out H2.out⟩
theorem xzg:(prog.info? 40).map (fun i=>(i.zero,i.size,i.bytes))=some (some (.agg zwN),3,40):=by kernel_rfl
def OwnN (w:World) (base:Nat) (v:Value) (l:List NodeD):Prop:=w.ownsRow base 40 3 v l.length (l.flatMap rowN)
theorem OwnN.gw {a b:World} {base g:Nat} {v:Value} {l:List NodeD} (h:OwnN a base v l) (hg:a.grownBy b (some g)) (hlt:g<base):OwnN b base v l :=
 World.ownsRow.kept (row:=some g) h ⟨hg.os,hg.tape,hg.output,hg.size,hg.block⟩ (.inr (fun h0=>by have:=(World.ownsRow.lt h g h0).1;omega))
section
variable {w:World} {ops:Array Oper} {rest:List Oper} {o:Oper} {a:Act} {Q:Exit->Act->World->Prop}
theorem vw3 (hgd:o.guard=none) (s x:Operand)
  (ho:o.op=.call { callee:=.builtin .append,args:=#[s,x],argTypes:=#[23,23] })
  (base:Nat) (v:Value) (acc:List NodeD) (hs:a.eval s=v) (hown:OwnN w base v acc) (g:Nat) (j:NodeD) (hx:a.eval x=.slice (some ⟨g,0,none⟩) 1 1)
  (hb:Blk w g 40 (rowN j).toArray) (hlen:acc.length+1<=1099511627776) (hbase:base<=w.heap.size)
  (h:∀v' w',OwnN w' base v' (acc++[j])->Below base w w'->wpList prog ops Q rest (a.put o.dst v') w'):wpList prog ops Q (o::rest) a w:=by
 obtain⟨i0,hi,hz0,hz1,hz2⟩:=info_parts xzg
 refine wpList_append_own w hgd s x 23 ho base 40 i0 _ 3 40 underlying23 hi hz0 hz1 hz2 rfl (by decide) v acc.length (acc.flatMap rowN) hs hown ⟨g,0,none⟩ 1 1 (rowN j) hx rfl ?_ ?_ ?_ ?_ hbase ?_
 ·exact World.news_of_block hb
 ·simp[rowN,Value.oneCell']
 ·simp only[maxLen];omega
 ·omega
 ·intro v' w' hown' hg _
  refine h v' w' ?_ ?_
  ·unfold OwnN
   rw[List.flatMap_append,zrb]
   simpa using hown'
  ·exact(zri base w).grown hg hbase (fun k hk=>(World.ownsRow.lt hown k hk).1)
end
theorem cloN_any (t6 t3:TypeId) (g6 g3 g x:Nat) (l:Zlu) (v:Int) (w:World) (h6:Blk w g6 t6 #[zse g]) (h3:Blk w g3 t3 #[.int .i64 v]) (hR:Rd w g l x) (hl:l.length<=4611686018427387904) (hT:Tabs w) :
  Calls prog 81 #[zse g6,zse g3] w fun e w'=>RdP (fun j:NodeD=>.agg (rowN j).toArray) (pNode v) w g l x e w':=by
 have hglt:=hR.lt
 go_enter func81,ntmps81
 have bC:=Blk.new w 40 #[.string (ByteArray.mk #[]),.int .i64 0,.string (ByteArray.mk #[])]
 have R0:Rd (w.alloc (.cells #[.string (ByteArray.mk #[]),.int .i64 0,.string (ByteArray.mk #[])] 40)) g l x:=Blk.alloc hR _
 have T0:Tabs (w.alloc (.cells #[.string (ByteArray.mk #[]),.int .i64 0,.string (ByteArray.mk #[])] 40)):=hT.below ((zri _ _).alloc (zra _) _)
 have G0:w.grownBy (w.alloc (.cells #[.string (ByteArray.mk #[]),.int .i64 0,.string (ByteArray.mk #[])] 40)) (some g):=ux1 (ujj _ _) _
 have c6:(w.alloc (.cells #[.string (ByteArray.mk #[]),.int .i64 0,.string (ByteArray.mk #[])] 40)).cell? ⟨g6,0,none⟩=some (zse g):=(h6.alloc _).cell 0
 have c3:(w.alloc (.cells #[.string (ByteArray.mk #[]),.int .i64 0,.string (ByteArray.mk #[])] 40)).cell? ⟨g3,0,none⟩=some (.int .i64 v):=(h3.alloc _).cell 0
 clear hR hT
 go_wp2_with fail
 generalize w.alloc (.cells #[.string (ByteArray.mk #[]),.int .i64 0,.string (ByteArray.mk #[])] 40)=W0 at *
 refine(vwi g x l v W0 R0 hl T0).mono ?_
 rintro e w1 ⟨g1,a1,l1,y1,rfl,R1,S1⟩
 have b1:=bC.gw g1 (by omega)
 have G1:=uq9 G0 g1
 clear bC R0 T0 G0 g1 c6 c3
 go_wp2_with(refine uqc rfl _ _ _ rfl w.heap.size rfl _ _ (rowN a1).toArray b1 rfl uqk rfl (uy4 _) ?_)
 (try simp only[Exit.inBlock,Exit.then])
 refine bodyPost_ret (uq8 rfl _ rfl (b1.setRow _) underlying40 rfl uqk) rfl ?_
 exact⟨uk4 G1 _ _ (zra _),a1,l1,y1,rfl,Blk.setRow_far R1 (by omega) _,S1⟩
def xjs (p:Zlu->Res NodeD) (w:World) (g:Nat) (l:Zlu) (x many:Nat) (e:Ending) (w':World):Prop :=
 w.grownBy w' (some g)/\∃val xs l' y,e=.returned val/\OwnN w' w.heap.size val xs/\Rd w' g l' y/\Step (pRows many p) l x xs l' y
theorem wqb (t6 t3:TypeId) (g6 g3 g x:Nat) (l:Zlu) (v:Int) (many:Nat) (w:World) (h6:Blk w g6 t6 #[zse g]) (h3:Blk w g3 t3 #[.int .i64 v]) (h6g:g6≠g) (h3g:g3≠g) (hR:Rd w g l x) (hl:l.length<=4611686018427387904) (hT:Tabs w) (hmany:many<=1000) :
  Calls prog 80 #[zse g,.int .i64 (many:Int),.func (.func 81) #[] #[zse g6,zse g3]] w fun e w'=>xjs (pNode v) w g l x many e w':=by
 have hglt:=hR.lt
 go_enter func80,ntmps80
 go_wp2_with fail
 refine(uxc g x l w hR).mono ?_
 rintro e w1 ⟨G1,n,l1,y1,rfl,R1,_,S1,hy1,hn⟩
 have T1:=hT.gw hR G1
 have hl1:=zrc S1.1 hl
 have HS1:=zrj S1
 have HT:=zrj (fun(w':World) (h:w.grownBy w' (some g))=>hT.gw hR h)
 clear hT hR S1
 by_cases hm:many<n
 ·have hmi:(many:Int)<(n:Int):=by omega
  have hy0:y1=0:=by
   rcases Nat.eq_zero_or_pos y1 with h | h
   ·exact h
   ·exact absurd (hy1 (by omega)) (by omega)
  have h0n:(0:Int)<(n:Int):=by omega
  have HN:Hid (many<n):=zrj hm
  clear hy1 hn hm
  go_wp2_with fail
  refine(ukn g y1 2 l1 w1 R1).mono ?_
  rintro e w2 ⟨rfl,g2,R2⟩
  rw[if_pos hy0] at R2
  have c1:=R2.c1
  clear R1 T1
  go_wp2_with fail
  refine wp_loop_rounds 1 ?_
  rw[rounds_succ]
  go_wp2_with fail
  go_ret
  exact⟨uq9 G1 g2,_,[],l1,2,rfl,World.ownsRow_nil _ _ _ _,R2,Step.many HS1.out (fun h=>absurd hy0 h) HN.out (uji v).err⟩
 ·have hmi:¬(many:Int)<(n:Int):=by omega
  have HN:Hid (n<=many):=zrj (by omega)
  have HY:=zrj hy1
  clear hy1
  have hnm:n<=1000:=by omega
  have hmd:decide (many<n)=false:=decide_eq_false hm
  go_wp2_with fail
  go_loopw [8,17] (fun out i wr=>∃(k:Nat) (xs:List NodeD) (l2:Zlu) (y:Nat),k<=n/\xs.length<=k/\i=.int .i64 k/\w.grownBy wr (some g)/\OwnN wr w.heap.size out xs/\Rd wr g l2 y/\Tabs wr/\Hid (Step (pRep (pNode v) k) l1 y1 xs l2 y)) (fun _ i _=>n-(intOf i).toNat)
  case atStart=>exact⟨0,[],l1,y1,Nat.zero_le _,zra _,rfl,G1,World.ownsRow_nil _ _ _ _,R1,T1,Step.unit [] l1 y1⟩
  case round =>
   obtain⟨k,xs,l2,y,hk,hxs,rfl,G2,O2,R2,T2,H2⟩:=hrel
   have c1:=R2.c1
   by_cases hlt:k<n
   ·have hki:(k:Int)<(n:Int):=by omega
    by_cases hy:y=0
    ·have hyb:((y:Int) != 0)=false:=by rw[hy];rfl
     have hl2:l2.length<=4611686018427387904:=zrc H2.out.1 hl1
     have HC:=zrj (show Calls prog 81 #[zse g6,zse g3] wr (fun e w'=>RdP (fun j:NodeD=>.agg (rwN j)) (pNode v) wr g l2 y e w') from(cloN_any t6 t3 g6 g3 g y l2 v wr (h6.gw G2 h6g) (h3.gw G2 h3g) R2 hl2 T2))
     go_wp2_with fail
     refine HC.out.mono ?_
     rintro e w3 ⟨g3',a3,l3,y3,rfl,R3,S3⟩
     have G3:=ux1 (uq9 G2 g3') (.cells (rwN a3) 40)
     have O4:OwnN (w3.alloc (.cells (rwN a3) 40)) w.heap.size _ xs:=World.ownsRow.alloc (O2.gw g3' hglt) _
     have bE:=Blk.new w3 40 (rwN a3)
     have R4:Rd (w3.alloc (.cells (rwN a3) 40)) g l3 y3:=Blk.alloc R3 _
     have HS3:=zrj S3
     have hsz3:w.heap.size<=(w3.alloc (.cells (rwN a3) 40)).heap.size:=G3.size
     clear R3 g3' O2 G2 R2 T2 S3 c1 HC
     go_wp2_with(first
      | (at_builtin;go_loud (refine vw3 rfl _ _ rfl w.heap.size _ xs rfl O4 w3.heap.size a3 rfl bE (by omega) hsz3 ?_)))
     intro v4 w4 O5 hb4
     have G5:=uya G3 hb4
     have R5:Rd w4 g l3 y3:=Blk.below R4 hb4 hglt
     have T5:=HT.out w4 G5
     clear O4 bE R4 G3 hb4
     go_wp2_with fail
     go_roundw
     case rel=>exact⟨k+1,xs++[a3],l3,y3,by omega,by simp;omega,by go_num,G5,O5,R5,T5,Step.snoc H2.out HS3.out (PP.rep (uji v) k).err⟩
     case measure=>simp[intOf];omega
    ·have hyb:((y:Int) != 0)=true:=by rw[bne_iff_ne];omega
     go_wp2_with fail
     go_ret
     exact⟨G2,_,[],l2,y,rfl,World.ownsRow_nil _ _ _ _,R2,Step.rows HS1.out HY.out HN.out (Step.early (Nat.le_of_lt hlt) H2.out hy (uji v))⟩
   ·obtain rfl:k=n:=by omega
    have hki:¬(k:Int)<(k:Int):=by omega
    go_wp2_with fail
    go_ret
    exact⟨G2,_,xs,l2,y,rfl,O2,R2,Step.rows HS1.out HY.out HN.out H2.out⟩
theorem wv5:(prog.info? 42).map (fun i=>(i.zero,i.size,i.bytes))=some (some (.agg zwL),3,40):=by kernel_rfl
def OwnL (w:World) (base:Nat) (v:Value) (l:List uqb):Prop:=w.ownsRow base 42 3 v l.length (l.flatMap rowL)
theorem OwnL.gw {a b:World} {base g:Nat} {v:Value} {l:List uqb} (h:OwnL a base v l) (hg:a.grownBy b (some g)) (hlt:g<base):OwnL b base v l :=
 World.ownsRow.kept (row:=some g) h ⟨hg.os,hg.tape,hg.output,hg.size,hg.block⟩ (.inr (fun h0=>by have:=(World.ownsRow.lt h g h0).1;omega))
section
variable {w:World} {ops:Array Oper} {rest:List Oper} {o:Oper} {a:Act} {Q:Exit->Act->World->Prop}
theorem vw2 (hgd:o.guard=none) (s x:Operand)
  (ho:o.op=.call { callee:=.builtin .append,args:=#[s,x],argTypes:=#[24,24] })
  (base:Nat) (v:Value) (acc:List uqb) (hs:a.eval s=v) (hown:OwnL w base v acc) (g:Nat) (j:uqb) (hx:a.eval x=.slice (some ⟨g,0,none⟩) 1 1)
  (hb:Blk w g 42 (rowL j).toArray) (hlen:acc.length+1<=1099511627776) (hbase:base<=w.heap.size)
  (h:∀v' w',OwnL w' base v' (acc++[j])->Below base w w'->wpList prog ops Q rest (a.put o.dst v') w'):wpList prog ops Q (o::rest) a w:=by
 obtain⟨i0,hi,hz0,hz1,hz2⟩:=info_parts wv5
 refine wpList_append_own w hgd s x 24 ho base 42 i0 _ 3 40 underlying24 hi hz0 hz1 hz2 rfl (by decide) v acc.length (acc.flatMap rowL) hs hown ⟨g,0,none⟩ 1 1 (rowL j) hx rfl ?_ ?_ ?_ ?_ hbase ?_
 ·exact World.news_of_block hb
 ·simp[rowL,Value.oneCell']
 ·simp only[maxLen];omega
 ·omega
 ·intro v' w' hown' hg _
  refine h v' w' ?_ ?_
  ·unfold OwnL
   rw[List.flatMap_append,zrb]
   simpa using hown'
  ·exact(zri base w).grown hg hbase (fun k hk=>(World.ownsRow.lt hown k hk).1)
end
def xjr (p:Zlu->Res uqb) (w:World) (g:Nat) (l:Zlu) (x many:Nat) (e:Ending) (w':World):Prop :=
 w.grownBy w' (some g)/\∃val xs l' y,e=.returned val/\OwnL w' w.heap.size val xs/\Rd w' g l' y/\Step (pRows many p) l x xs l' y
theorem vke (g x:Nat) (l:Zlu) (many:Nat) (w:World) (hR:Rd w g l x) (hl:l.length<=4611686018427387904) (hT:Tabs w) (hmany:many<=1000) :
  Calls prog 83 #[zse g,.int .i64 (many:Int),.func (.func 84) #[zse g] #[]] w fun e w'=>xjr uj8 w g l x many e w':=by
 have hglt:=hR.lt
 go_enter func83,ntmps83
 go_wp2_with fail
 refine(uxc g x l w hR).mono ?_
 rintro e w1 ⟨G1,n,l1,y1,rfl,R1,_,S1,hy1,hn⟩
 have T1:=hT.gw hR G1
 have hl1:=zrc S1.1 hl
 have HS1:=zrj S1
 have HT:=zrj (fun(w':World) (h:w.grownBy w' (some g))=>hT.gw hR h)
 clear hT hR S1
 by_cases hm:many<n
 ·have hmi:(many:Int)<(n:Int):=by omega
  have hy0:y1=0:=by
   rcases Nat.eq_zero_or_pos y1 with h | h
   ·exact h
   ·exact absurd (hy1 (by omega)) (by omega)
  have h0n:(0:Int)<(n:Int):=by omega
  have HN:Hid (many<n):=zrj hm
  clear hy1 hn hm
  go_wp2_with fail
  refine(ukn g y1 2 l1 w1 R1).mono ?_
  rintro e w2 ⟨rfl,g2,R2⟩
  rw[if_pos hy0] at R2
  have c1:=R2.c1
  clear R1 T1
  go_wp2_with fail
  refine wp_loop_rounds 1 ?_
  rw[rounds_succ]
  go_wp2_with fail
  go_ret
  exact⟨uq9 G1 g2,_,[],l1,2,rfl,World.ownsRow_nil _ _ _ _,R2,Step.many HS1.out (fun h=>absurd hy0 h) HN.out uju.err⟩
 ·have hmi:¬(many:Int)<(n:Int):=by omega
  have HN:Hid (n<=many):=zrj (by omega)
  have HY:=zrj hy1
  clear hy1
  have hnm:n<=1000:=by omega
  have hmd:decide (many<n)=false:=decide_eq_false hm
  go_wp2_with fail
  go_loopw [8,17] (fun out i wr=>∃(k:Nat) (xs:List uqb) (l2:Zlu) (y:Nat),k<=n/\xs.length<=k/\i=.int .i64 k/\w.grownBy wr (some g)/\OwnL wr w.heap.size out xs/\Rd wr g l2 y/\Tabs wr/\Hid (Step (pRep uj8 k) l1 y1 xs l2 y)) (fun _ i _=>n-(intOf i).toNat)
  case atStart=>exact⟨0,[],l1,y1,Nat.zero_le _,zra _,rfl,G1,World.ownsRow_nil _ _ _ _,R1,T1,Step.unit [] l1 y1⟩
  case round =>
   obtain⟨k,xs,l2,y,hk,hxs,rfl,G2,O2,R2,T2,H2⟩:=hrel
   have c1:=R2.c1
   by_cases hlt:k<n
   ·have hki:(k:Int)<(n:Int):=by omega
    by_cases hy:y=0
    ·have hyb:((y:Int) != 0)=false:=by rw[hy];rfl
     have hl2:l2.length<=4611686018427387904:=zrc H2.out.1 hl1
     have HC:=zrj (show Calls prog 84 #[zse g] wr (fun e w'=>RdP (fun j:uqb=>.agg (rwL j)) uj8 wr g l2 y e w') from(vyw g y l2 wr R2 hl2 T2))
     go_wp2_with fail
     refine HC.out.mono ?_
     rintro e w3 ⟨g3',a3,l3,y3,rfl,R3,S3⟩
     have G3:=ux1 (uq9 G2 g3') (.cells (rwL a3) 42)
     have O4:OwnL (w3.alloc (.cells (rwL a3) 42)) w.heap.size _ xs:=World.ownsRow.alloc (O2.gw g3' hglt) _
     have bE:=Blk.new w3 42 (rwL a3)
     have R4:Rd (w3.alloc (.cells (rwL a3) 42)) g l3 y3:=Blk.alloc R3 _
     have HS3:=zrj S3
     have hsz3:w.heap.size<=(w3.alloc (.cells (rwL a3) 42)).heap.size:=G3.size
     clear R3 g3' O2 G2 R2 T2 S3 c1 HC
     go_wp2_with(first
      | (at_builtin;go_loud (refine vw2 rfl _ _ rfl w.heap.size _ xs rfl O4 w3.heap.size a3 rfl bE (by omega) hsz3 ?_)))
     intro v4 w4 O5 hb4
     have G5:=uya G3 hb4
     have R5:Rd w4 g l3 y3:=Blk.below R4 hb4 hglt
     have T5:=HT.out w4 G5
     clear O4 bE R4 G3 hb4
     go_wp2_with fail
     go_roundw
     case rel=>exact⟨k+1,xs++[a3],l3,y3,by omega,by simp;omega,by go_num,G5,O5,R5,T5,Step.snoc H2.out HS3.out (PP.rep uju k).err⟩
     case measure=>simp[intOf];omega
    ·have hyb:((y:Int) != 0)=true:=by rw[bne_iff_ne];omega
     go_wp2_with fail
     go_ret
     exact⟨G2,_,[],l2,y,rfl,World.ownsRow_nil _ _ _ _,R2,Step.rows HS1.out HY.out HN.out (Step.early (Nat.le_of_lt hlt) H2.out hy uju)⟩
   ·obtain rfl:k=n:=by omega
    have hki:¬(k:Int)<(k:Int):=by omega
    go_wp2_with fail
    go_ret
    exact⟨G2,_,xs,l2,y,rfl,O2,R2,Step.rows HS1.out HY.out HN.out H2.out⟩
def AboveP (base:Nat) (p:Zoa):Prop:=∀a,p=some a->base<=a.block
theorem AboveP.none_ (base:Nat):AboveP base none:=fun _ h=>by cases h
theorem uz0 {w:World} {base:Nat} {e:TypeId} {size n:Nat} {v:Value} {xs:List Value} (h:w.ownsRow base e size v n xs):∃p c,v=.slice p n c/\AboveP base p:=by
 rcases h.2 with⟨rfl,h0⟩ | ⟨g,cap,cur,rfl,hb,_⟩
 ·exact⟨none,0,by rw[h0],.none_ _⟩
 ·exact⟨_,cap,rfl,fun a ha=>by injection ha with ha;subst ha;exact hb⟩
theorem OwnJ.form {w:World} {base:Nat} {v:Value} {l:List JobD} (h:OwnJ w base v l):∃p c,v=.slice p l.length c/\AboveP base p/\Elts w w.heap.size 5 p (l.map rowJ):=by
 obtain⟨p,c,rfl,ha⟩:=uz0 h
 refine⟨p,c,rfl,ha,?_⟩
 unfold OwnJ at h
 rw[List.flatMap_def] at h
 have hl:l.length=(l.map rowJ).length:=by simp
 rw[hl] at h
 exact .of_own (fun r hr=>by obtain⟨x,_,rfl⟩:=List.mem_map.1 hr;rfl) h
theorem OwnN.form {w:World} {base:Nat} {v:Value} {l:List NodeD} (h:OwnN w base v l):∃p c,v=.slice p l.length c/\AboveP base p/\Elts w w.heap.size 3 p (l.map rowN):=by
 obtain⟨p,c,rfl,ha⟩:=uz0 h
 refine⟨p,c,rfl,ha,?_⟩
 unfold OwnN at h
 rw[List.flatMap_def] at h
 have hl:l.length=(l.map rowN).length:=by simp
 rw[hl] at h
 exact .of_own (fun r hr=>by obtain⟨x,_,rfl⟩:=List.mem_map.1 hr;rfl) h
theorem OwnL.form {w:World} {base:Nat} {v:Value} {l:List uqb} (h:OwnL w base v l):∃p c,v=.slice p l.length c/\AboveP base p/\Elts w w.heap.size 3 p (l.map rowL):=by
 obtain⟨p,c,rfl,ha⟩:=uz0 h
 refine⟨p,c,rfl,ha,?_⟩
 unfold OwnL at h
 rw[List.flatMap_def] at h
 have hl:l.length=(l.map rowL).length:=by simp
 rw[hl] at h
 exact .of_own (fun r hr=>by obtain⟨x,_,rfl⟩:=List.mem_map.1 hr;rfl) h
theorem Elts.gra {w w':World} {B b base size:Nat} {p:Zoa} {rows:List (List Value)} (h:Elts w B size p rows) (hg:w.grownBy w' (some b)) (hB:B<=w.heap.size) (ha:AboveP base p) (hb:b<base):Elts w' B size p rows :=
 ⟨h.1,fun hn=>by
  obtain⟨a,e,hab,hc⟩:=h.2 hn
  have:=ha a e
  exact⟨a,e,hab,fun k r hr=>(hc k r hr).gr hg (by rw[uql];omega) (by rw[uql];omega)⟩⟩
theorem vv1 (w:World) (g:Nat) (cs:Array Value):w.grownBy (w.setRow g cs) (some g) :=
 ⟨rfl,rfl,rfl,by simp,fun k hk hne=>setRow_other w g k cs (fun h=>hne (by rw[h]))⟩
theorem Step.state {v:Int} {l l1 l2 l3 l4:Zlu} {x y1 y2 y3 y4:Nat} {rev:Int} {jobs:List JobD} {nodes:List NodeD} {leases:List uqb}
  (h0:Step (pOpt (decide (2<v)) pInt 0) l x rev l1 y1) (h1:Step (pRows 40 (pJob v)) l1 y1 jobs l2 y2) (h2:Step (pRows 20 (pNode v)) l2 y2 nodes l3 y3) (h3:Step (pRows 40 uj8) l3 y3 leases l4 y4) :
  Step (vx7 v) l x ⟨rev,jobs,nodes,leases⟩ l4 y4 :=
 Step.map (fun x:Int×List JobD×List NodeD×List uqb=>(⟨x.1,x.2.1,x.2.2.1,x.2.2.2⟩:St))
  (Step.seq (q:=fun _=>pSeq (pRows 40 (pJob v)) fun _=>pSeq (pRows 20 (pNode v)) fun _=>pRows 40 uj8) h0
   (Step.seq (q:=fun _=>pSeq (pRows 20 (pNode v)) fun _=>pRows 40 uj8) h1 (Step.seq (q:=fun _=>pRows 40 uj8) h2 h3 ((uji v).rows 20 (by decide)).err) ((ukl v).rows 40 (by decide)).err) (PP.opt _ _ uzg).err)
theorem wyn {v:Int} {l l':Zlu} {s:St} {y:Nat} (hv:1<=v/\v<=3) (h:Step (vx7 v) l 0 s l' y) (he:endE y l'≠0):decT v l=(uvr,endE y l'):=by
 unfold decT
 rw[if_neg (by omega)]
 unfold decS
 cases hp:vx7 v l with
 | bad z =>
  obtain rfl:=(h.2.2 rfl).2 _ hp
  have:=(ujv v).err _ _ hp
  simp only[]
  unfold endE;rw[if_pos this]
 | ok t r =>
  obtain⟨rfl,rfl,rfl⟩:=(h.2.2 rfl).1 _ _ hp
  unfold endE at he ⊢
  by_cases hl:l'=[]
  ·rw[if_neg (by simp),if_pos hl] at he;exact absurd rfl he
  ·simp only[]
   rw[if_pos hl,if_neg (by simp),if_neg hl]
theorem wzm {v:Int} {l l':Zlu} {s:St} {y:Nat} (hv:1<=v/\v<=3) (h:Step (vx7 v) l 0 s l' y) (he:endE y l'=0):okSt v s/\decT v l=(if uqp s=0 then s else uvr,uqp s):=by
 have hy:y=0/\l'=[]:=by
  unfold endE at he
  by_cases h1:y=0
  ·rw[if_neg (by simp[h1])] at he
   refine⟨h1,?_⟩
   by_cases h2:l'=[]
   ·exact h2
   ·rw[if_neg h2] at he;cases he
  ·rw[if_pos h1] at he;exact absurd he h1
 obtain⟨rfl,rfl⟩:=hy
 have hp:vx7 v l=.ok s []:=by
  cases hp:vx7 v l with
  | bad z =>
   have h1:=(h.2.2 rfl).2 _ hp
   exact absurd h1.symm ((ujv v).err _ _ hp)
  | ok t r =>
   obtain⟨rfl,rfl,_⟩:=(h.2.2 rfl).1 _ _ hp
   rfl
 refine⟨((ujv v).bwd _ _ _ hp).1,?_⟩
 unfold decT
 rw[if_neg (by omega)]
 unfold decS
 rw[hp]
 simp only[]
 rw[if_neg (by simp)]
 by_cases hc:uqp s=0
 ·rw[if_neg (by simp[hc]),if_pos hc,hc]
 ·rw[if_pos hc,if_neg hc]
def wqd (w:World) (v:Int) (l:Zlu) (e:Ending) (w':World):Prop :=
 ∃(s:St) (er:Nat) (p1 p2 p3:Zoa) (c1 c2 c3:Nat),e=.returned (.tuple #[.agg (stv s p1 p2 p3 c1 c2 c3),.int .i64 (er:Int)]) /\
  StM w' w'.heap.size p1 p2 p3 s/\(AboveP w.heap.size p1/\AboveP w.heap.size p2/\AboveP w.heap.size p3)/\Below w.heap.size w w'/\decT v l=(s,er)
theorem stM_zero (w:World):StM w w.heap.size none none none uvr:=⟨.nil_,.nil_,.nil_⟩
theorem uwb {w w':World} {v:Int} {l:Zlu} {er:Nat} (hb:Below w.heap.size w w') (hd:decT v l=(uvr,er)) :
  wqd w v l (.returned (.tuple #[.agg zsv,.int .i64 (er:Int)])) w' :=
 ⟨uvr,er,none,none,none,0,0,0,rfl,stM_zero w',⟨.none_ _,.none_ _,.none_ _⟩,hb,hd⟩
theorem uku {w:World} {n:Nat} (h:w.heap.size=n) (t:TypeId) (cs:Array Value):Blk (w.alloc (.cells cs t)) n t cs:=h ▸ Blk.new w t cs
theorem uv0 {w:World} {n:Nat} (h:w.heap.size=n) (o:Obj):(w.alloc o).heap.size=n+1:=by simp[h]
theorem vyt (a:Int) (p1 p2 p3:Zoa) (n1 n2 n3 c1 c2 c3:Nat):(#[.int .i64 a,.slice p1 n1 c1,.slice p2 n2 c2,.slice p3 n3 c3]:Array Value).all (·.oneCell')=true:=by simp[Value.oneCell']
def zeroCells:Array Value:=zsv
structure DI (w0 W:World) (H:Nat) (v:Int) (l:Zlu) (y:Nat) (cs:Array Value):Prop where
 b3:Blk W H 3 #[.int .i64 v]
 br:Blk W (H+1) 26 zsv
 rd:Rd W (H+1+1) l y
 b6:Blk W (H+1+1+1) 167 #[zse (H+1+1)]
 bs:Blk W (H+1+1+1+1) 26 cs
 tb:Tabs W
 bl:Below H w0 W
theorem DI.read {w0 W W':World} {H:Nat} {v:Int} {l l':Zlu} {y y':Nat} {cs:Array Value} (h:DI w0 W H v l y cs) (hg:W.grownBy W' (some (H+1+1))) (hr:Rd W' (H+1+1) l' y'):DI w0 W' H v l' y' cs :=
 ⟨h.b3.gr hg (by omega),h.br.gr hg (by omega),hr,h.b6.gr hg (by omega),h.bs.gr hg (by omega),h.tb.gw h.rd hg,h.bl.grown hg (by have:=h.br.lt;omega) (fun k hk=>by injection hk with hk;omega)⟩
theorem DI.set_ {w0 W:World} {H:Nat} {v:Int} {l:Zlu} {y:Nat} {cs:Array Value} (h:DI w0 W H v l y cs) (hw0:w0.heap.size=H) (hT:Tabs w0) (i:Nat) (u:Value):DI w0 (W.setCell ⟨H+1+1+1+1,i,none⟩ u) H v l y (cs.setIfInBounds i u) :=
 have hb:Below H w0 (W.setCell ⟨H+1+1+1+1,i,none⟩ u):=h.bl.setCell (by show H<=H+1+1+1+1;omega) _
 ⟨h.b3.far (p:=⟨H+1+1+1+1,i,none⟩) (by show H≠H+1+1+1+1;omega) _,h.br.far (p:=⟨H+1+1+1+1,i,none⟩) (by show H+1≠H+1+1+1+1;omega) _,Blk.far (p:=⟨H+1+1+1+1,i,none⟩) h.rd (by show H+1+1≠H+1+1+1+1;omega) _,
  h.b6.far (p:=⟨H+1+1+1+1,i,none⟩) (by show H+1+1+1≠H+1+1+1+1;omega) _,h.bs.set_ i u,hT.below (hw0 ▸ hb),hb⟩
theorem DI.start (w:World) (v:Int) (l:Zlu) (hT:Tabs w) :
  DI w (((((w.alloc (.cells #[.int .i64 v] 3)).alloc (.cells zsv 26)).alloc (.cells #[.string (bstr l),.int .i64 0] 169)).alloc
   (.cells #[zse (w.heap.size+1+1)] 167)).alloc (.cells zsv 26)) w.heap.size v l 0 zsv:=by
 have s0:w.heap.size=w.heap.size:=rfl
 have s1:=uv0 s0 (.cells #[.int .i64 v] 3)
 have s2:=uv0 s1 (.cells zsv 26)
 have s3:=uv0 s2 (.cells #[.string (bstr l),.int .i64 0] 169)
 have s4:=uv0 s3 (.cells #[zse (w.heap.size+1+1)] 167)
 have hb:=((((((zri w.heap.size w).alloc (zra _) (.cells #[.int .i64 v] 3)).alloc (by omega) (.cells zsv 26)).alloc (by omega) (.cells #[.string (bstr l),.int .i64 0] 169)).alloc (by omega)
   (.cells #[zse (w.heap.size+1+1)] 167)).alloc (by omega) (.cells zsv 26))
 exact⟨((((uku s0 _ _).alloc _).alloc _).alloc _).alloc _,(((uku s1 _ _).alloc _).alloc _).alloc _,(((uku s2 _ _).alloc _).alloc _),(uku s3 _ _).alloc _,uku s4 _ _,hT.below hb,hb⟩
theorem decode_v (b:Zba) (v:Int) (w:World) (hv:v<1\/3<v) :
  Calls prog 50 #[.string b,.int .i64 v] w fun e w'=>wqd w v b.data.toList e w':=by
 have hzs:=uq3
 have hs1:=zsb w (.cells #[.int .i64 v] 3)
 have hB:Below w.heap.size w ((w.alloc (.cells #[.int .i64 v] 3)).alloc (.cells zsv 26)):=((zri _ _).alloc (zra _) _).alloc (by omega) _
 have br:=uku hs1 26 zsv
 have hd:decT v b.data.toList=(uvr,1):=by unfold decT;rw[if_pos hv]
 have HD:=zrj (uwb hB hd)
 clear hd
 rcases hv with hv | hv
 ·go_enter func50,ntmps50
  go_wp2_with fail
  refine bodyPost_ret (uqi rfl _ rfl br underlying26 rfl uqg) rfl ?_
  exact HD.out
 ·have h1:¬v<1:=by omega
  go_enter func50,ntmps50
  go_wp2_with fail
  refine bodyPost_ret (uqi rfl _ rfl br underlying26 rfl uqg) rfl ?_
  exact HD.out
theorem xkj (b:Zba) (v:Int) (w:World) (hb:b.size<=4611686018427387904) (hT:Tabs w) (hv:1<=v/\v<=3) :
  Calls prog 50 #[.string b,.int .i64 v] w fun e w'=>wqd w v b.data.toList e w':=by
 have hzs:=uq3
 have h1:¬v<1:=by omega
 have h3:¬3<v:=by omega
 obtain⟨l,rfl⟩:∃l,b=bstr l:=⟨b.data.toList,(ux3 b).symm⟩
 rw[uqu]
 rw[uqz] at hb
 have D5:=DI.start w v l hT
 have HT:=zrj hT
 have HV:=zrj hv
 clear hT hv
 by_cases h2:2<v
 ·have HO:Hid (decide (2<v)=true):=zrj (decide_eq_true h2)
  go_enter func50,ntmps50
  go_wp2_with fail
  generalize((((w.alloc _).alloc _).alloc _).alloc _).alloc _=W5 at *
  refine(uxc (w.heap.size+1+1) 0 l W5 D5.rd).mono ?_
  rintro e w6 ⟨G6,n,l1,y1,rfl,R6,S6,_,_,hn⟩
  have D6:=D5.read G6 R6
  have e0:=D6.bs.c0
  have f0:=D6.bs.frozen 0
  have e6:=D6.b6.c0
  have D7:=D6.set_ rfl HT.out 0 (.int .i64 (n:Int))
  have S0:Step (pOpt (decide (2<v)) pInt 0) l 0 (n:Int) l1 y1:=Step.opt (fun _=>S6) (fun h=>by rw[HO.out] at h;cases h)
  have HS0:=zrj S0
  have hl1:=zrc S6.1 hb
  clear S6 R6 G6 D5 D6 S0 HO
  go_wp2_with fail
  generalize w6.setCell ⟨w.heap.size+1+1+1+1,0,none⟩ (.int .i64 (n:Int))=w7 at *
  simp only[List.setIfInBounds_toArray,List.set_cons_zero] at D7
  clear e0 f0 e6
  refine(wqa _ _ (w.heap.size+1+1+1) w.heap.size (w.heap.size+1+1) y1 l1 v 40 w7 D7.b6 D7.b3 (by omega) (by omega) D7.rd hl1 D7.tb (by decide)).mono ?_
  rintro e w8 ⟨G8,val,jobs,l2,y2,rfl,OJ,R8,S8⟩
  obtain⟨pJ,cJ,rfl,aJ⟩:=uz0 OJ
  have D8:=D7.read G8 R8
  have hltJ:w.heap.size+1+1+1+1<w7.heap.size:=D7.bs.lt
  have hszJ:w.heap.size<=w7.heap.size:=D7.bl.size
  have ec:=D8.bs.c1
  have fc:=D8.bs.frozen 1
  have e6:=D8.b6.c0
  have D9:=D8.set_ rfl HT.out 1 (.slice pJ jobs.length cJ)
  have OJ:=OwnJ.gw OJ (uzh w8 (w.heap.size+1+1+1+1) 1 (.slice pJ jobs.length cJ)) (by omega)
  have HS8:=zrj S8
  have hl2:=zrc S8.1 hl1
  clear S8 R8 G8 D7 D8
  go_wp2_with fail
  generalize w8.setCell ⟨w.heap.size+1+1+1+1,1,none⟩ (.slice pJ jobs.length cJ)=w9 at *
  simp only[ma,mb,mc] at D9
  clear ec fc e6
  refine(wqb _ _ (w.heap.size+1+1+1) w.heap.size (w.heap.size+1+1) y2 l2 v 20 w9 D9.b6 D9.b3 (by omega) (by omega) D9.rd hl2 D9.tb (by decide)).mono ?_
  rintro e w10 ⟨G10,val,nodes,l3,y3,rfl,ON,R10,S10⟩
  obtain⟨pN,cN,rfl,aN⟩:=uz0 ON
  have D10:=D9.read G10 R10
  have hltN:w.heap.size+1+1+1+1<w9.heap.size:=D9.bs.lt
  have hszN:w.heap.size<=w9.heap.size:=D9.bl.size
  have ec:=D10.bs.c2
  have fc:=D10.bs.frozen 2
  have e6:=D10.b6.c0
  have D11:=D10.set_ rfl HT.out 2 (.slice pN nodes.length cN)
  have ON:=OwnN.gw ON (uzh w10 (w.heap.size+1+1+1+1) 2 (.slice pN nodes.length cN)) (by omega)
  have OJ:=OwnJ.gw OJ G10 (by omega)
  have OJ:=OwnJ.gw OJ (uzh w10 (w.heap.size+1+1+1+1) 2 (.slice pN nodes.length cN)) (by omega)
  have HS10:=zrj S10
  have hl3:=zrc S10.1 hl2
  clear S10 R10 G10 D9 D10
  go_wp2_with fail
  generalize w10.setCell ⟨w.heap.size+1+1+1+1,2,none⟩ (.slice pN nodes.length cN)=w11 at *
  simp only[ma,mb,mc] at D11
  clear ec fc e6
  refine(vke (w.heap.size+1+1) y3 l3 40 w11 D11.rd hl3 D11.tb (by decide)).mono ?_
  rintro e w12 ⟨G12,val,leases,l4,y4,rfl,OL,R12,S12⟩
  obtain⟨pL,cL,rfl,aL⟩:=uz0 OL
  have D12:=D11.read G12 R12
  have hltL:w.heap.size+1+1+1+1<w11.heap.size:=D11.bs.lt
  have hszL:w.heap.size<=w11.heap.size:=D11.bl.size
  have ec:=D12.bs.c3
  have fc:=D12.bs.frozen 3
  have e6:=D12.b6.c0
  have D13:=D12.set_ rfl HT.out 3 (.slice pL leases.length cL)
  have OL:=OwnL.gw OL (uzh w12 (w.heap.size+1+1+1+1) 3 (.slice pL leases.length cL)) (by omega)
  have ON:=OwnN.gw ON G12 (by omega)
  have ON:=OwnN.gw ON (uzh w12 (w.heap.size+1+1+1+1) 3 (.slice pL leases.length cL)) (by omega)
  have OJ:=OwnJ.gw OJ G12 (by omega)
  have OJ:=OwnJ.gw OJ (uzh w12 (w.heap.size+1+1+1+1) 3 (.slice pL leases.length cL)) (by omega)
  have HS12:=zrj S12
  have hl4:=zrc S12.1 hl3
  clear S12 R12 G12 D11 D12
  go_wp2_with fail
  generalize w12.setCell ⟨w.heap.size+1+1+1+1,3,none⟩ (.slice pL leases.length cL)=w13 at *
  simp only[ma,mb,mc] at D13
  clear ec fc e6
  have HST:=zrj (Step.state HS0.out HS8.out HS10.out HS12.out)
  refine(uk8 (w.heap.size+1+1) y4 l4 w13 D13.rd).mono ?_
  rintro e w14 ⟨G14,rfl⟩
  have br:=D13.br.gr G14 (by omega)
  have bs:=D13.bs.gr G14 (by omega)
  have hB14:Below w.heap.size w w14:=D13.bl.grown G14 (by have:=D13.br.lt;omega) (fun k hk=>by injection hk with hk;omega)
  have OJ:=OwnJ.gw OJ G14 (by omega)
  have ON:=OwnN.gw ON G14 (by omega)
  have OL:=OwnL.gw OL G14 (by omega)
  clear D13 G14 HS0 HS8 HS10 HS12
  by_cases he:endE y4 l4=0
  ·obtain⟨hok,hd⟩:=wzm HV.out HST.out he
   have hez:((endE y4 l4:Int) != 0)=false:=by rw[he];rfl
   have hsz:=wwc hok
   obtain⟨qJ,dJ,eqJ,_,EJ⟩:=OwnJ.form OJ
   obtain⟨qN,dN,eqN,_,EN⟩:=OwnN.form ON
   obtain⟨qL,dL,eqL,_,EL⟩:=OwnL.form OL
   simp only[Value.slice.injEq,true_and] at eqJ eqN eqL
   obtain⟨rfl,rfl⟩:=eqJ
   obtain⟨rfl,rfl⟩:=eqN
   obtain⟨rfl,rfl⟩:=eqL
   have hm:StM w14 w14.heap.size pJ pN pL ((⟨(n:Int),jobs,nodes,leases⟩:St)):=⟨EJ,EN,EL⟩
   have hC:=uxw ((⟨(n:Int),jobs,nodes,leases⟩:St)) pJ pN pL cJ cN cL w14 hm hsz (HT.out.below hB14)
   have HC:=zrj hC
   have HM:=zrj hm
   have HD:=zrj hd
   generalize uqp ((⟨(n:Int),jobs,nodes,leases⟩:St))=ce at *
   generalize hee:endE y4 l4=ee at *
   clear hC hm hd hsz hok he OJ ON OL EJ EN EL hee HST
   go_wp2_with(first
    | (refine uqa rfl _ _ rfl (w.heap.size+1+1+1+1) rfl _ _ bs _ underlying26 rfl uqg ?_))
   refine HC.out.mono ?_
   rintro e w15 ⟨rfl,hb15⟩
   have hB15:=bthen hB14 hb15
   have br:=br.bl hb15
   have bs:=bs.bl hb15
   have HM5:=zrj (HM.out.below hb15)
   have hsz15:=hb15.size
   clear hb15 HM HC
   by_cases hce:ce=0
   ·subst hce
    have hcz:(((0:Nat):Int) != 0)=false:=rfl
    have hd:=HD.out
    rw[if_pos rfl] at hd
    have HD2:=zrj hd
    clear hd HD
    go_wp2_with(first
     | (refine uqa rfl _ _ rfl (w.heap.size+1+1+1+1) rfl _ _ bs _ underlying26 rfl uqg ?_)
     | (refine uqc rfl _ _ _ rfl (w.heap.size+1) rfl _ _ #[.int .i64 (n:Int),.slice pJ jobs.length cJ,.slice pN nodes.length cN,.slice pL leases.length cL] br rfl uqg rfl (vyt _ _ _ _ _ _ _ _ _ _) ?_))
    refine bodyPost_ret (uqi rfl _ rfl (br.setRow #[.int .i64 (n:Int),.slice pJ jobs.length cJ,.slice pN nodes.length cN,.slice pL leases.length cL]) underlying26 rfl uqg) rfl ?_
    have hb16:Below w15.heap.size w15 w15:=zri _ _
    have hlt:=br.lt
    refine⟨((⟨(n:Int),jobs,nodes,leases⟩:St)),0,pJ,pN,pL,cJ,cN,cL,rfl,?_,⟨fun a ha=>zrc hszJ (aJ a ha),fun a ha=>zrc hszN (aN a ha),fun a ha=>zrc hszL (aL a ha)⟩,uqh hB15 (by omega) _,HD2.out⟩
    have hm:=HM5.out
    have hle:w14.heap.size<=(w15.setRow (w.heap.size+1) #[.int .i64 (n:Int),.slice pJ jobs.length cJ,.slice pN nodes.length cN,.slice pL leases.length cL]).heap.size:=zrc hsz15 (by simp)
    have hG:=vv1 w15 (w.heap.size+1) #[.int .i64 (n:Int),.slice pJ jobs.length cJ,.slice pN nodes.length cN,.slice pL leases.length cL]
    exact⟨(hm.j.gra hG hsz15 aJ (by omega)).more hle,(hm.n.gra hG hsz15 aN (by omega)).more hle,(hm.l.gra hG hsz15 aL (by omega)).more hle⟩
   ·have hcz:((ce:Int) != 0)=true:=by rw[bne_iff_ne];omega
    have hd:=HD.out
    rw[if_neg hce] at hd
    have HD2:=zrj hd
    clear hd HD
    go_wp2_with(first
     | (refine uqc rfl _ _ _ rfl (w.heap.size+1) rfl _ _ zsv br rfl uqg rfl (vyt _ _ _ _ _ _ _ _ _ _) ?_))
    refine bodyPost_ret (uqi rfl _ rfl (br.setRow zsv) underlying26 rfl uqg) rfl ?_
    exact uwb (uqh hB15 (by omega) _) HD2.out
  ·have hd:=wyn HV.out HST.out he
   have hez:((endE y4 l4:Int) != 0)=true:=by rw[bne_iff_ne];omega
   have HD:=zrj hd
   generalize endE y4 l4=ee at *
   clear hd he OJ ON OL HST
   go_wp2_with(first
    | (refine uqc rfl _ _ _ rfl (w.heap.size+1) rfl _ _ zsv br rfl uqg rfl (vyt _ _ _ _ _ _ _ _ _ _) ?_))
   refine bodyPost_ret (uqi rfl _ rfl (br.setRow zsv) underlying26 rfl uqg) rfl ?_
   exact uwb (uqh hB14 (by omega) _) HD.out
 ·have HO:Hid (decide (2<v)=false):=zrj (decide_eq_false h2)
  go_enter func50,ntmps50
  go_wp2_with fail
  generalize((((w.alloc _).alloc _).alloc _).alloc _).alloc _=w7 at *
  have S0:Step (pOpt (decide (2<v)) pInt 0) l 0 (0:Int) l 0:=Step.opt (fun h=>by rw[HO.out] at h;cases h) (fun _=>⟨rfl,rfl,rfl⟩)
  have HS0:=zrj S0
  have hl1:=hb
  have D7:=D5
  clear D5 S0 HO
  refine(wqa _ _ (w.heap.size+1+1+1) w.heap.size (w.heap.size+1+1) 0 l v 40 w7 D7.b6 D7.b3 (by omega) (by omega) D7.rd hl1 D7.tb (by decide)).mono ?_
  rintro e w8 ⟨G8,val,jobs,l2,y2,rfl,OJ,R8,S8⟩
  obtain⟨pJ,cJ,rfl,aJ⟩:=uz0 OJ
  have D8:=D7.read G8 R8
  have hltJ:w.heap.size+1+1+1+1<w7.heap.size:=D7.bs.lt
  have hszJ:w.heap.size<=w7.heap.size:=D7.bl.size
  have ec:=D8.bs.c1
  have fc:=D8.bs.frozen 1
  have e6:=D8.b6.c0
  have D9:=D8.set_ rfl HT.out 1 (.slice pJ jobs.length cJ)
  have OJ:=OwnJ.gw OJ (uzh w8 (w.heap.size+1+1+1+1) 1 (.slice pJ jobs.length cJ)) (by omega)
  have HS8:=zrj S8
  have hl2:=zrc S8.1 hl1
  clear S8 R8 G8 D7 D8
  go_wp2_with fail
  generalize w8.setCell ⟨w.heap.size+1+1+1+1,1,none⟩ (.slice pJ jobs.length cJ)=w9 at *
  simp only[ma,mb,mc] at D9
  clear ec fc e6
  refine(wqb _ _ (w.heap.size+1+1+1) w.heap.size (w.heap.size+1+1) y2 l2 v 20 w9 D9.b6 D9.b3 (by omega) (by omega) D9.rd hl2 D9.tb (by decide)).mono ?_
  rintro e w10 ⟨G10,val,nodes,l3,y3,rfl,ON,R10,S10⟩
  obtain⟨pN,cN,rfl,aN⟩:=uz0 ON
  have D10:=D9.read G10 R10
  have hltN:w.heap.size+1+1+1+1<w9.heap.size:=D9.bs.lt
  have hszN:w.heap.size<=w9.heap.size:=D9.bl.size
  have ec:=D10.bs.c2
  have fc:=D10.bs.frozen 2
  have e6:=D10.b6.c0
  have D11:=D10.set_ rfl HT.out 2 (.slice pN nodes.length cN)
  have ON:=OwnN.gw ON (uzh w10 (w.heap.size+1+1+1+1) 2 (.slice pN nodes.length cN)) (by omega)
  have OJ:=OwnJ.gw OJ G10 (by omega)
  have OJ:=OwnJ.gw OJ (uzh w10 (w.heap.size+1+1+1+1) 2 (.slice pN nodes.length cN)) (by omega)
  have HS10:=zrj S10
  have hl3:=zrc S10.1 hl2
  clear S10 R10 G10 D9 D10
  go_wp2_with fail
  generalize w10.setCell ⟨w.heap.size+1+1+1+1,2,none⟩ (.slice pN nodes.length cN)=w11 at *
  simp only[ma,mb,mc] at D11
  clear ec fc e6
  refine(vke (w.heap.size+1+1) y3 l3 40 w11 D11.rd hl3 D11.tb (by decide)).mono ?_
  rintro e w12 ⟨G12,val,leases,l4,y4,rfl,OL,R12,S12⟩
  obtain⟨pL,cL,rfl,aL⟩:=uz0 OL
  have D12:=D11.read G12 R12
  have hltL:w.heap.size+1+1+1+1<w11.heap.size:=D11.bs.lt
  have hszL:w.heap.size<=w11.heap.size:=D11.bl.size
  have ec:=D12.bs.c3
  have fc:=D12.bs.frozen 3
  have e6:=D12.b6.c0
  have D13:=D12.set_ rfl HT.out 3 (.slice pL leases.length cL)
  have OL:=OwnL.gw OL (uzh w12 (w.heap.size+1+1+1+1) 3 (.slice pL leases.length cL)) (by omega)
  have ON:=OwnN.gw ON G12 (by omega)
  have ON:=OwnN.gw ON (uzh w12 (w.heap.size+1+1+1+1) 3 (.slice pL leases.length cL)) (by omega)
  have OJ:=OwnJ.gw OJ G12 (by omega)
  have OJ:=OwnJ.gw OJ (uzh w12 (w.heap.size+1+1+1+1) 3 (.slice pL leases.length cL)) (by omega)
  have HS12:=zrj S12
  have hl4:=zrc S12.1 hl3
  clear S12 R12 G12 D11 D12
  go_wp2_with fail
  generalize w12.setCell ⟨w.heap.size+1+1+1+1,3,none⟩ (.slice pL leases.length cL)=w13 at *
  simp only[ma,mb,mc] at D13
  clear ec fc e6
  have HST:=zrj (Step.state HS0.out HS8.out HS10.out HS12.out)
  refine(uk8 (w.heap.size+1+1) y4 l4 w13 D13.rd).mono ?_
  rintro e w14 ⟨G14,rfl⟩
  have br:=D13.br.gr G14 (by omega)
  have bs:=D13.bs.gr G14 (by omega)
  have hB14:Below w.heap.size w w14:=D13.bl.grown G14 (by have:=D13.br.lt;omega) (fun k hk=>by injection hk with hk;omega)
  have OJ:=OwnJ.gw OJ G14 (by omega)
  have ON:=OwnN.gw ON G14 (by omega)
  have OL:=OwnL.gw OL G14 (by omega)
  clear D13 G14 HS0 HS8 HS10 HS12
  by_cases he:endE y4 l4=0
  ·obtain⟨hok,hd⟩:=wzm HV.out HST.out he
   have hez:((endE y4 l4:Int) != 0)=false:=by rw[he];rfl
   have hsz:=wwc hok
   obtain⟨qJ,dJ,eqJ,_,EJ⟩:=OwnJ.form OJ
   obtain⟨qN,dN,eqN,_,EN⟩:=OwnN.form ON
   obtain⟨qL,dL,eqL,_,EL⟩:=OwnL.form OL
   simp only[Value.slice.injEq,true_and] at eqJ eqN eqL
   obtain⟨rfl,rfl⟩:=eqJ
   obtain⟨rfl,rfl⟩:=eqN
   obtain⟨rfl,rfl⟩:=eqL
   have hm:StM w14 w14.heap.size pJ pN pL ((⟨0,jobs,nodes,leases⟩:St)):=⟨EJ,EN,EL⟩
   have hC:=uxw ((⟨0,jobs,nodes,leases⟩:St)) pJ pN pL cJ cN cL w14 hm hsz (HT.out.below hB14)
   have HC:=zrj hC
   have HM:=zrj hm
   have HD:=zrj hd
   generalize uqp ((⟨0,jobs,nodes,leases⟩:St))=ce at *
   generalize hee:endE y4 l4=ee at *
   clear hC hm hd hsz hok he OJ ON OL EJ EN EL hee HST
   go_wp2_with(first
    | (refine uqa rfl _ _ rfl (w.heap.size+1+1+1+1) rfl _ _ bs _ underlying26 rfl uqg ?_))
   refine HC.out.mono ?_
   rintro e w15 ⟨rfl,hb15⟩
   have hB15:=bthen hB14 hb15
   have br:=br.bl hb15
   have bs:=bs.bl hb15
   have HM5:=zrj (HM.out.below hb15)
   have hsz15:=hb15.size
   clear hb15 HM HC
   by_cases hce:ce=0
   ·subst hce
    have hcz:(((0:Nat):Int) != 0)=false:=rfl
    have hd:=HD.out
    rw[if_pos rfl] at hd
    have HD2:=zrj hd
    clear hd HD
    go_wp2_with(first
     | (refine uqa rfl _ _ rfl (w.heap.size+1+1+1+1) rfl _ _ bs _ underlying26 rfl uqg ?_)
     | (refine uqc rfl _ _ _ rfl (w.heap.size+1) rfl _ _ #[.int .i64 0,.slice pJ jobs.length cJ,.slice pN nodes.length cN,.slice pL leases.length cL] br rfl uqg rfl (vyt _ _ _ _ _ _ _ _ _ _) ?_))
    refine bodyPost_ret (uqi rfl _ rfl (br.setRow #[.int .i64 0,.slice pJ jobs.length cJ,.slice pN nodes.length cN,.slice pL leases.length cL]) underlying26 rfl uqg) rfl ?_
    have hb16:Below w15.heap.size w15 w15:=zri _ _
    have hlt:=br.lt
    refine⟨((⟨0,jobs,nodes,leases⟩:St)),0,pJ,pN,pL,cJ,cN,cL,rfl,?_,⟨fun a ha=>zrc hszJ (aJ a ha),fun a ha=>zrc hszN (aN a ha),fun a ha=>zrc hszL (aL a ha)⟩,uqh hB15 (by omega) _,HD2.out⟩
    have hm:=HM5.out
    have hle:w14.heap.size<=(w15.setRow (w.heap.size+1) #[.int .i64 0,.slice pJ jobs.length cJ,.slice pN nodes.length cN,.slice pL leases.length cL]).heap.size:=zrc hsz15 (by simp)
    have hG:=vv1 w15 (w.heap.size+1) #[.int .i64 0,.slice pJ jobs.length cJ,.slice pN nodes.length cN,.slice pL leases.length cL]
    exact⟨(hm.j.gra hG hsz15 aJ (by omega)).more hle,(hm.n.gra hG hsz15 aN (by omega)).more hle,(hm.l.gra hG hsz15 aL (by omega)).more hle⟩
   ·have hcz:((ce:Int) != 0)=true:=by rw[bne_iff_ne];omega
    have hd:=HD.out
    rw[if_neg hce] at hd
    have HD2:=zrj hd
    clear hd HD
    go_wp2_with(first
     | (refine uqc rfl _ _ _ rfl (w.heap.size+1) rfl _ _ zsv br rfl uqg rfl (vyt _ _ _ _ _ _ _ _ _ _) ?_))
    refine bodyPost_ret (uqi rfl _ rfl (br.setRow zsv) underlying26 rfl uqg) rfl ?_
    exact uwb (uqh hB15 (by omega) _) HD2.out
  ·have hd:=wyn HV.out HST.out he
   have hez:((endE y4 l4:Int) != 0)=true:=by rw[bne_iff_ne];omega
   have HD:=zrj hd
   generalize endE y4 l4=ee at *
   clear hd he OJ ON OL HST
   go_wp2_with(first
    | (refine uqc rfl _ _ _ rfl (w.heap.size+1) rfl _ _ zsv br rfl uqg rfl (vyt _ _ _ _ _ _ _ _ _ _) ?_))
   refine bodyPost_ret (uqi rfl _ rfl (br.setRow zsv) underlying26 rfl uqg) rfl ?_
   exact uwb (uqh hB14 (by omega) _) HD.out
theorem wzn (b:Zba) (v:Int) (w:World) (hb:b.size<=4611686018427387904) (hT:Tabs w) :
  Calls prog 50 #[.string b,.int .i64 v] w fun e w'=>wqd w v b.data.toList e w':=by
 by_cases hv:1<=v/\v<=3
 ·exact xkj b v w hb hT hv
 ·exact decode_v b v w (by omega)
end Go.Proofs.YtknmnhleicakhaaGreatDoor
