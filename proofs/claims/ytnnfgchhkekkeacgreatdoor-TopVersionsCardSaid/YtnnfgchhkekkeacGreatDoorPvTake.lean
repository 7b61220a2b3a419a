/- Lemmas.
-/
import Derived.Test.YtnnfgchhkekkeacGreatDoorPvRead
set_option linter.all false
set_option maxHeartbeats 16000000
set_option maxRecDepth 100000
namespace Go.Proofs.YtnnfgchhkekkeacGreatDoor
open Go.Proofs.Tryz
open Go.RowKit
theorem xqr:(prog.info? 40).map (fun i=>(i.zero,i.size,i.bytes))=some (some (.agg zwJ),5,56):=by kernel_rfl
def OwnJ (w:World) (base:Nat) (v:Value) (l:List JobD):Prop:=w.ownsRow base 40 5 v l.length (l.flatMap rowJ)
theorem OwnJ.gw {a b:World} {base g:Nat} {v:Value} {l:List JobD} (h:OwnJ a base v l) (hg:a.grownBy b (some g)) (hlt:g<base):OwnJ b base v l :=
 World.ownsRow.kept (row:=some g) h ⟨hg.os,hg.tape,hg.output,hg.size,hg.block⟩ (.inr (fun h0=>by have:=(World.ownsRow.lt h g h0).1;omega))
section
variable {w:World} {ops:Array Oper} {rest:List Oper} {o:Oper} {a:Act} {Q:Exit->Act->World->Prop}
theorem vj3 (hgd:o.guard=none) (s x:Operand)
  (ho:o.op=.call { callee:=.builtin .append,args:=#[s,x],argTypes:=#[22,22] })
  (base:Nat) (v:Value) (acc:List JobD) (hs:a.eval s=v) (hown:OwnJ w base v acc) (g:Nat) (j:JobD) (hx:a.eval x=.slice (some ⟨g,0,none⟩) 1 1)
  (hb:Blk w g 40 (rowJ j).toArray) (hlen:acc.length+1<=1099511627776) (hbase:base<=w.heap.size)
  (h:∀v' w',OwnJ w' base v' (acc++[j])->Below base w w'->wpList prog ops Q rest (a.put o.dst v') w'):wpList prog ops Q (o::rest) a w:=by
 obtain⟨i0,hi,hz0,hz1,hz2⟩:=info_parts xqr
 refine wpList_append_own w hgd s x 22 ho base 40 i0 _ 5 56 underlying22 hi hz0 hz1 hz2 rfl (by decide) v acc.length (acc.flatMap rowJ) hs hown ⟨g,0,none⟩ 1 1 (rowJ j) hx rfl ?_ ?_ ?_ ?_ hbase ?_
 ·exact World.news_of_block hb
 ·simp[rowJ,Value.oneCell']
 ·simp only[maxLen];omega
 ·omega
 ·intro v' w' hown' hg _
  refine h v' w' ?_ ?_
  ·unfold OwnJ
   rw[List.flatMap_append,zrb]
   simpa using hown'
  ·exact(zri base w).grown hg hbase (fun k hk=>(World.ownsRow.lt hown k hk).1)
end
theorem cloJ_any (t6 t3:TypeId) (g6 g3 g x:Nat) (l:Zlu) (v:Int) (w:World) (h6:Blk w g6 t6 #[zse g]) (h3:Blk w g3 t3 #[.int .i64 v]) (hR:Rd w g l x) (hl:l.length<=4611686018427387904) (hT:Tabs w) :
  Calls prog 31 #[zse g6,zse g3] w fun e w'=>RdP (fun j:JobD=>.agg (rowJ j).toArray) (pJob v) w g l x e w':=by
 have hglt:=hR.lt
 go_enter func31,ntmps31
 have bC:=Blk.new w 40 #[.string (ByteArray.mk #[]),.int .i64 0,.int .i64 0,.int .i64 0,.string (ByteArray.mk #[])]
 have R0:Rd (w.alloc (.cells #[.string (ByteArray.mk #[]),.int .i64 0,.int .i64 0,.int .i64 0,.string (ByteArray.mk #[])] 40)) g l x:=Blk.alloc hR _
 have T0:Tabs (w.alloc (.cells #[.string (ByteArray.mk #[]),.int .i64 0,.int .i64 0,.int .i64 0,.string (ByteArray.mk #[])] 40)):=hT.below ((zri _ _).alloc (zra _) _)
 have G0:w.grownBy (w.alloc (.cells #[.string (ByteArray.mk #[]),.int .i64 0,.int .i64 0,.int .i64 0,.string (ByteArray.mk #[])] 40)) (some g):=uza (ujr _ _) _
 have c6:(w.alloc (.cells #[.string (ByteArray.mk #[]),.int .i64 0,.int .i64 0,.int .i64 0,.string (ByteArray.mk #[])] 40)).cell? ⟨g6,0,none⟩=some (zse g):=(h6.alloc _).cell 0
 have c3:(w.alloc (.cells #[.string (ByteArray.mk #[]),.int .i64 0,.int .i64 0,.int .i64 0,.string (ByteArray.mk #[])] 40)).cell? ⟨g3,0,none⟩=some (.int .i64 v):=(h3.alloc _).cell 0
 clear hR hT
 go_wp2_with fail
 generalize w.alloc (.cells #[.string (ByteArray.mk #[]),.int .i64 0,.int .i64 0,.int .i64 0,.string (ByteArray.mk #[])] 40)=W0 at *
 refine(wkg g x l v W0 R0 hl T0).mono ?_
 rintro e w1 ⟨g1,a1,l1,y1,rfl,R1,S1⟩
 have b1:=bC.gw g1 (by omega)
 have G1:=uxc G0 g1
 clear bC R0 T0 G0 g1 c6 c3
 go_wp2_with(refine uqd rfl _ _ _ rfl w.heap.size rfl _ _ (rowJ a1).toArray b1 rfl uqo rfl (uvg _) ?_)
 (try simp only[Exit.inBlock,Exit.then])
 refine bodyPost_ret (uqw rfl _ rfl (b1.setRow _) underlying40 rfl uqo) rfl ?_
 exact⟨uvf G1 _ _ (zra _),a1,l1,y1,rfl,Blk.setRow_far R1 (by omega) _,S1⟩
def wwz (p:Zlu->Res JobD) (w:World) (g:Nat) (l:Zlu) (x many:Nat) (e:Ending) (w':World):Prop :=
 w.grownBy w' (some g)/\∃val xs l' y,e=.returned val/\OwnJ w' w.heap.size val xs/\Rd w' g l' y/\Step (pRows many p) l x xs l' y
theorem vvc (t6 t3:TypeId) (g6 g3 g x:Nat) (l:Zlu) (v:Int) (many:Nat) (w:World) (h6:Blk w g6 t6 #[zse g]) (h3:Blk w g3 t3 #[.int .i64 v]) (h6g:g6≠g) (h3g:g3≠g) (hR:Rd w g l x) (hl:l.length<=4611686018427387904) (hT:Tabs w) (hmany:many<=1000) :
  Calls prog 30 #[zse g,.int .i64 (many:Int),.func (.func 31) #[] #[zse g6,zse g3]] w fun e w'=>wwz (pJob v) w g l x many e w':=by
 have hglt:=hR.lt
 go_enter func30,ntmps30
 go_wp2_with fail
 refine(uxd g x l w hR).mono ?_
 rintro e w1 ⟨G1,n,l1,y1,rfl,R1,_,S1,hy1,hn⟩
 have T1:=hT.gw hR G1
 have hl1:=zrc S1.1 hl
 have HS1:=zrj S1
 have HT:=zrj (fun(w':World) (h:w.grownBy w' (some g))=>hT.gw hR h)
 clear hT hR S1
 by_cases hm:many<n
 ·have hmi:(many:Int)<(n:Int):=by omega
  have hy0:y1=0:=by
   rcases Nat.eq_zero_or_pos y1 with h | h
   ·exact h
   ·exact absurd (hy1 (by omega)) (by omega)
  have h0n:(0:Int)<(n:Int):=by omega
  have HN:Hid (many<n):=zrj hm
  clear hy1 hn hm
  go_wp2_with fail
  refine(uv3 g y1 2 l1 w1 R1).mono ?_
  rintro e w2 ⟨rfl,g2,R2⟩
  rw[if_pos hy0] at R2
  have c1:=R2.c1
  clear R1 T1
  go_wp2_with fail
  refine wp_loop_rounds 1 ?_
  rw[rounds_succ]
  go_wp2_with fail
  go_ret
  exact⟨uxc G1 g2,_,[],l1,2,rfl,World.ownsRow_nil _ _ _ _,R2,Step.many HS1.out (fun h=>absurd hy0 h) HN.out (uvk v).err⟩
 ·have hmi:¬(many:Int)<(n:Int):=by omega
  have HN:Hid (n<=many):=zrj (by omega)
  have HY:=zrj hy1
  clear hy1
  have hnm:n<=1000:=by omega
  have hmd:decide (many<n)=false:=decide_eq_false hm
  go_wp2_with fail
  go_loopw [8,17] (fun out i wr=>∃(k:Nat) (xs:List JobD) (l2:Zlu) (y:Nat),k<=n/\xs.length<=k/\i=.int .i64 k/\w.grownBy wr (some g)/\OwnJ wr w.heap.size out xs/\Rd wr g l2 y/\Tabs wr/\Hid (Step (pRep (pJob v) k) l1 y1 xs l2 y)) (fun _ i _=>n-(intOf i).toNat)
  case atStart=>exact⟨0,[],l1,y1,Nat.zero_le _,zra _,rfl,G1,World.ownsRow_nil _ _ _ _,R1,T1,Step.unit [] l1 y1⟩
  case round =>
   obtain⟨k,xs,l2,y,hk,hxs,rfl,G2,O2,R2,T2,H2⟩:=hrel
   have c1:=R2.c1
   by_cases hlt:k<n
   ·have hki:(k:Int)<(n:Int):=by omega
    by_cases hy:y=0
    ·have hyb:((y:Int) != 0)=false:=by rw[hy];rfl
     have hl2:l2.length<=4611686018427387904:=zrc H2.out.1 hl1
     have HC:=zrj (show Calls prog 31 #[zse g6,zse g3] wr (fun e w'=>RdP (fun j:JobD=>.agg (rwJ j)) (pJob v) wr g l2 y e w') from(cloJ_any t6 t3 g6 g3 g y l2 v wr (h6.gw G2 h6g) (h3.gw G2 h3g) R2 hl2 T2))
     go_wp2_with fail
     refine HC.out.mono ?_
     rintro e w3 ⟨g3',a3,l3,y3,rfl,R3,S3⟩
     have G3:=uza (uxc G2 g3') (.cells (rwJ a3) 40)
     have O4:OwnJ (w3.alloc (.cells (rwJ a3) 40)) w.heap.size _ xs:=World.ownsRow.alloc (O2.gw g3' hglt) _
     have bE:=Blk.new w3 40 (rwJ a3)
     have R4:Rd (w3.alloc (.cells (rwJ a3) 40)) g l3 y3:=Blk.alloc R3 _
     have HS3:=zrj S3
     have hsz3:w.heap.size<=(w3.alloc (.cells (rwJ a3) 40)).heap.size:=G3.size
     clear R3 g3' O2 G2 R2 T2 S3 c1 HC
     go_wp2_with(first
      | (at_builtin;go_loud (refine vj3 rfl _ _ rfl w.heap.size _ xs rfl O4 w3.heap.size a3 rfl bE (by omega) hsz3 ?_)))
     intro v4 w4 O5 hb4
     have G5:=vzx G3 hb4
     have R5:Rd w4 g l3 y3:=Blk.below R4 hb4 hglt
     have T5:=HT.out w4 G5
     clear O4 bE R4 G3 hb4
     go_wp2_with fail
     go_roundw
     case rel=>exact⟨k+1,xs++[a3],l3,y3,by omega,by simp;omega,by go_num,G5,O5,R5,T5,Step.snoc H2.out HS3.out (PP.rep (uvk v) k).err⟩
     case measure=>simp[intOf];omega
    ·have hyb:((y:Int) != 0)=true:=by rw[bne_iff_ne];omega
     go_wp2_with fail
     go_ret
     exact⟨G2,_,[],l2,y,rfl,World.ownsRow_nil _ _ _ _,R2,Step.rows HS1.out HY.out HN.out (Step.early (Nat.le_of_lt hlt) H2.out hy (uvk v))⟩
   ·obtain rfl:k=n:=by omega
    have hki:¬(k:Int)<(k:Int):=by omega
    go_wp2_with fail
    go_ret
    exact⟨G2,_,xs,l2,y,rfl,O2,R2,Step.rows HS1.out HY.out HN.out H2.out⟩
theorem wvv:(prog.info? 42).map (fun i=>(i.zero,i.size,i.bytes))=some (some (.agg zwN),3,40):=by kernel_rfl
def OwnN (w:World) (base:Nat) (v:Value) (l:List NodeD):Prop:=w.ownsRow base 42 3 v l.length (l.flatMap rowN)
theorem OwnN.gw {a b:World} {base g:Nat} {v:Value} {l:List NodeD} (h:OwnN a base v l) (hg:a.grownBy b (some g)) (hlt:g<base):OwnN b base v l :=
 World.ownsRow.kept (row:=some g) h ⟨hg.os,hg.tape,hg.output,hg.size,hg.block⟩ (.inr (fun h0=>by have:=(World.ownsRow.lt h g h0).1;omega))
section
variable {w:World} {ops:Array Oper} {rest:List Oper} {o:Oper} {a:Act} {Q:Exit->Act->World->Prop}
theorem vj5 (hgd:o.guard=none) (s x:Operand)
  (ho:o.op=.call { callee:=.builtin .append,args:=#[s,x],argTypes:=#[23,23] })
  (base:Nat) (v:Value) (acc:List NodeD) (hs:a.eval s=v) (hown:OwnN w base v acc) (g:Nat) (j:NodeD) (hx:a.eval x=.slice (some ⟨g,0,none⟩) 1 1)
  (hb:Blk w g 42 (rowN j).toArray) (hlen:acc.length+1<=1099511627776) (hbase:base<=w.heap.size)
  (h:∀v' w',OwnN w' base v' (acc++[j])->Below base w w'->wpList prog ops Q rest (a.put o.dst v') w'):wpList prog ops Q (o::rest) a w:=by
 obtain⟨i0,hi,hz0,hz1,hz2⟩:=info_parts wvv
 refine wpList_append_own w hgd s x 23 ho base 42 i0 _ 3 40 underlying23 hi hz0 hz1 hz2 rfl (by decide) v acc.length (acc.flatMap rowN) hs hown ⟨g,0,none⟩ 1 1 (rowN j) hx rfl ?_ ?_ ?_ ?_ hbase ?_
 ·exact World.news_of_block hb
 ·simp[rowN,Value.oneCell']
 ·simp only[maxLen];omega
 ·omega
 ·intro v' w' hown' hg _
  refine h v' w' ?_ ?_
  ·unfold OwnN
   rw[List.flatMap_append,zrb]
   simpa using hown'
  ·exact(zri base w).grown hg hbase (fun k hk=>(World.ownsRow.lt hown k hk).1)
end
theorem cloN_any (t6 t3:TypeId) (g6 g3 g x:Nat) (l:Zlu) (v:Int) (w:World) (h6:Blk w g6 t6 #[zse g]) (h3:Blk w g3 t3 #[.int .i64 v]) (hR:Rd w g l x) (hl:l.length<=4611686018427387904) (hT:Tabs w) :
  Calls prog 34 #[zse g6,zse g3] w fun e w'=>RdP (fun j:NodeD=>.agg (rowN j).toArray) (pNode v) w g l x e w':=by
 have hglt:=hR.lt
 go_enter func34,ntmps34
 have bC:=Blk.new w 42 #[.string (ByteArray.mk #[]),.int .i64 0,.string (ByteArray.mk #[])]
 have R0:Rd (w.alloc (.cells #[.string (ByteArray.mk #[]),.int .i64 0,.string (ByteArray.mk #[])] 42)) g l x:=Blk.alloc hR _
 have T0:Tabs (w.alloc (.cells #[.string (ByteArray.mk #[]),.int .i64 0,.string (ByteArray.mk #[])] 42)):=hT.below ((zri _ _).alloc (zra _) _)
 have G0:w.grownBy (w.alloc (.cells #[.string (ByteArray.mk #[]),.int .i64 0,.string (ByteArray.mk #[])] 42)) (some g):=uza (ujr _ _) _
 have c6:(w.alloc (.cells #[.string (ByteArray.mk #[]),.int .i64 0,.string (ByteArray.mk #[])] 42)).cell? ⟨g6,0,none⟩=some (zse g):=(h6.alloc _).cell 0
 have c3:(w.alloc (.cells #[.string (ByteArray.mk #[]),.int .i64 0,.string (ByteArray.mk #[])] 42)).cell? ⟨g3,0,none⟩=some (.int .i64 v):=(h3.alloc _).cell 0
 clear hR hT
 go_wp2_with fail
 generalize w.alloc (.cells #[.string (ByteArray.mk #[]),.int .i64 0,.string (ByteArray.mk #[])] 42)=W0 at *
 refine(wqe g x l v W0 R0 hl T0).mono ?_
 rintro e w1 ⟨g1,a1,l1,y1,rfl,R1,S1⟩
 have b1:=bC.gw g1 (by omega)
 have G1:=uxc G0 g1
 clear bC R0 T0 G0 g1 c6 c3
 go_wp2_with(refine uqd rfl _ _ _ rfl w.heap.size rfl _ _ (rowN a1).toArray b1 rfl uqm rfl (uyh _) ?_)
 (try simp only[Exit.inBlock,Exit.then])
 refine bodyPost_ret (uqw rfl _ rfl (b1.setRow _) underlying42 rfl uqm) rfl ?_
 exact⟨uvf G1 _ _ (zra _),a1,l1,y1,rfl,Blk.setRow_far R1 (by omega) _,S1⟩
def ww1 (p:Zlu->Res NodeD) (w:World) (g:Nat) (l:Zlu) (x many:Nat) (e:Ending) (w':World):Prop :=
 w.grownBy w' (some g)/\∃val xs l' y,e=.returned val/\OwnN w' w.heap.size val xs/\Rd w' g l' y/\Step (pRows many p) l x xs l' y
theorem vve (t6 t3:TypeId) (g6 g3 g x:Nat) (l:Zlu) (v:Int) (many:Nat) (w:World) (h6:Blk w g6 t6 #[zse g]) (h3:Blk w g3 t3 #[.int .i64 v]) (h6g:g6≠g) (h3g:g3≠g) (hR:Rd w g l x) (hl:l.length<=4611686018427387904) (hT:Tabs w) (hmany:many<=1000) :
  Calls prog 33 #[zse g,.int .i64 (many:Int),.func (.func 34) #[] #[zse g6,zse g3]] w fun e w'=>ww1 (pNode v) w g l x many e w':=by
 have hglt:=hR.lt
 go_enter func33,ntmps33
 go_wp2_with fail
 refine(uxd g x l w hR).mono ?_
 rintro e w1 ⟨G1,n,l1,y1,rfl,R1,_,S1,hy1,hn⟩
 have T1:=hT.gw hR G1
 have hl1:=zrc S1.1 hl
 have HS1:=zrj S1
 have HT:=zrj (fun(w':World) (h:w.grownBy w' (some g))=>hT.gw hR h)
 clear hT hR S1
 by_cases hm:many<n
 ·have hmi:(many:Int)<(n:Int):=by omega
  have hy0:y1=0:=by
   rcases Nat.eq_zero_or_pos y1 with h | h
   ·exact h
   ·exact absurd (hy1 (by omega)) (by omega)
  have h0n:(0:Int)<(n:Int):=by omega
  have HN:Hid (many<n):=zrj hm
  clear hy1 hn hm
  go_wp2_with fail
  refine(uv3 g y1 2 l1 w1 R1).mono ?_
  rintro e w2 ⟨rfl,g2,R2⟩
  rw[if_pos hy0] at R2
  have c1:=R2.c1
  clear R1 T1
  go_wp2_with fail
  refine wp_loop_rounds 1 ?_
  rw[rounds_succ]
  go_wp2_with fail
  go_ret
  exact⟨uxc G1 g2,_,[],l1,2,rfl,World.ownsRow_nil _ _ _ _,R2,Step.many HS1.out (fun h=>absurd hy0 h) HN.out (ukd v).err⟩
 ·have hmi:¬(many:Int)<(n:Int):=by omega
  have HN:Hid (n<=many):=zrj (by omega)
  have HY:=zrj hy1
  clear hy1
  have hnm:n<=1000:=by omega
  have hmd:decide (many<n)=false:=decide_eq_false hm
  go_wp2_with fail
  go_loopw [8,17] (fun out i wr=>∃(k:Nat) (xs:List NodeD) (l2:Zlu) (y:Nat),k<=n/\xs.length<=k/\i=.int .i64 k/\w.grownBy wr (some g)/\OwnN wr w.heap.size out xs/\Rd wr g l2 y/\Tabs wr/\Hid (Step (pRep (pNode v) k) l1 y1 xs l2 y)) (fun _ i _=>n-(intOf i).toNat)
  case atStart=>exact⟨0,[],l1,y1,Nat.zero_le _,zra _,rfl,G1,World.ownsRow_nil _ _ _ _,R1,T1,Step.unit [] l1 y1⟩
  case round =>
   obtain⟨k,xs,l2,y,hk,hxs,rfl,G2,O2,R2,T2,H2⟩:=hrel
   have c1:=R2.c1
   by_cases hlt:k<n
   ·have hki:(k:Int)<(n:Int):=by omega
    by_cases hy:y=0
    ·have hyb:((y:Int) != 0)=false:=by rw[hy];rfl
     have hl2:l2.length<=4611686018427387904:=zrc H2.out.1 hl1
     have HC:=zrj (show Calls prog 34 #[zse g6,zse g3] wr (fun e w'=>RdP (fun j:NodeD=>.agg (rwN j)) (pNode v) wr g l2 y e w') from(cloN_any t6 t3 g6 g3 g y l2 v wr (h6.gw G2 h6g) (h3.gw G2 h3g) R2 hl2 T2))
     go_wp2_with fail
     refine HC.out.mono ?_
     rintro e w3 ⟨g3',a3,l3,y3,rfl,R3,S3⟩
     have G3:=uza (uxc G2 g3') (.cells (rwN a3) 42)
     have O4:OwnN (w3.alloc (.cells (rwN a3) 42)) w.heap.size _ xs:=World.ownsRow.alloc (O2.gw g3' hglt) _
     have bE:=Blk.new w3 42 (rwN a3)
     have R4:Rd (w3.alloc (.cells (rwN a3) 42)) g l3 y3:=Blk.alloc R3 _
     have HS3:=zrj S3
     have hsz3:w.heap.size<=(w3.alloc (.cells (rwN a3) 42)).heap.size:=G3.size
     clear R3 g3' O2 G2 R2 T2 S3 c1 HC
     go_wp2_with(first
      | (at_builtin;go_loud (refine vj5 rfl _ _ rfl w.heap.size _ xs rfl O4 w3.heap.size a3 rfl bE (by omega) hsz3 ?_)))
     intro v4 w4 O5 hb4
     have G5:=vzx G3 hb4
     have R5:Rd w4 g l3 y3:=Blk.below R4 hb4 hglt
     have T5:=HT.out w4 G5
     clear O4 bE R4 G3 hb4
     go_wp2_with fail
     go_roundw
     case rel=>exact⟨k+1,xs++[a3],l3,y3,by omega,by simp;omega,by go_num,G5,O5,R5,T5,Step.snoc H2.out HS3.out (PP.rep (ukd v) k).err⟩
     case measure=>simp[intOf];omega
    ·have hyb:((y:Int) != 0)=true:=by rw[bne_iff_ne];omega
     go_wp2_with fail
     go_ret
     exact⟨G2,_,[],l2,y,rfl,World.ownsRow_nil _ _ _ _,R2,Step.rows HS1.out HY.out HN.out (Step.early (Nat.le_of_lt hlt) H2.out hy (ukd v))⟩
   ·obtain rfl:k=n:=by omega
    have hki:¬(k:Int)<(k:Int):=by omega
    go_wp2_with fail
    go_ret
    exact⟨G2,_,xs,l2,y,rfl,O2,R2,Step.rows HS1.out HY.out HN.out H2.out⟩
theorem wx8:(prog.info? 44).map (fun i=>(i.zero,i.size,i.bytes))=some (some (.agg zwL),3,40):=by kernel_rfl
def OwnL (w:World) (base:Nat) (v:Value) (l:List uqc):Prop:=w.ownsRow base 44 3 v l.length (l.flatMap rowL)
theorem OwnL.gw {a b:World} {base g:Nat} {v:Value} {l:List uqc} (h:OwnL a base v l) (hg:a.grownBy b (some g)) (hlt:g<base):OwnL b base v l :=
 World.ownsRow.kept (row:=some g) h ⟨hg.os,hg.tape,hg.output,hg.size,hg.block⟩ (.inr (fun h0=>by have:=(World.ownsRow.lt h g h0).1;omega))
section
variable {w:World} {ops:Array Oper} {rest:List Oper} {o:Oper} {a:Act} {Q:Exit->Act->World->Prop}
theorem vj4 (hgd:o.guard=none) (s x:Operand)
  (ho:o.op=.call { callee:=.builtin .append,args:=#[s,x],argTypes:=#[24,24] })
  (base:Nat) (v:Value) (acc:List uqc) (hs:a.eval s=v) (hown:OwnL w base v acc) (g:Nat) (j:uqc) (hx:a.eval x=.slice (some ⟨g,0,none⟩) 1 1)
  (hb:Blk w g 44 (rowL j).toArray) (hlen:acc.length+1<=1099511627776) (hbase:base<=w.heap.size)
  (h:∀v' w',OwnL w' base v' (acc++[j])->Below base w w'->wpList prog ops Q rest (a.put o.dst v') w'):wpList prog ops Q (o::rest) a w:=by
 obtain⟨i0,hi,hz0,hz1,hz2⟩:=info_parts wx8
 refine wpList_append_own w hgd s x 24 ho base 44 i0 _ 3 40 underlying24 hi hz0 hz1 hz2 rfl (by decide) v acc.length (acc.flatMap rowL) hs hown ⟨g,0,none⟩ 1 1 (rowL j) hx rfl ?_ ?_ ?_ ?_ hbase ?_
 ·exact World.news_of_block hb
 ·simp[rowL,Value.oneCell']
 ·simp only[maxLen];omega
 ·omega
 ·intro v' w' hown' hg _
  refine h v' w' ?_ ?_
  ·unfold OwnL
   rw[List.flatMap_append,zrb]
   simpa using hown'
  ·exact(zri base w).grown hg hbase (fun k hk=>(World.ownsRow.lt hown k hk).1)
end
def ww0 (p:Zlu->Res uqc) (w:World) (g:Nat) (l:Zlu) (x many:Nat) (e:Ending) (w':World):Prop :=
 w.grownBy w' (some g)/\∃val xs l' y,e=.returned val/\OwnL w' w.heap.size val xs/\Rd w' g l' y/\Step (pRows many p) l x xs l' y
theorem vvd (g x:Nat) (l:Zlu) (many:Nat) (w:World) (hR:Rd w g l x) (hl:l.length<=4611686018427387904) (hT:Tabs w) (hmany:many<=1000) :
  Calls prog 36 #[zse g,.int .i64 (many:Int),.func (.func 37) #[zse g] #[]] w fun e w'=>ww0 uk3 w g l x many e w':=by
 have hglt:=hR.lt
 go_enter func36,ntmps36
 go_wp2_with fail
 refine(uxd g x l w hR).mono ?_
 rintro e w1 ⟨G1,n,l1,y1,rfl,R1,_,S1,hy1,hn⟩
 have T1:=hT.gw hR G1
 have hl1:=zrc S1.1 hl
 have HS1:=zrj S1
 have HT:=zrj (fun(w':World) (h:w.grownBy w' (some g))=>hT.gw hR h)
 clear hT hR S1
 by_cases hm:many<n
 ·have hmi:(many:Int)<(n:Int):=by omega
  have hy0:y1=0:=by
   rcases Nat.eq_zero_or_pos y1 with h | h
   ·exact h
   ·exact absurd (hy1 (by omega)) (by omega)
  have h0n:(0:Int)<(n:Int):=by omega
  have HN:Hid (many<n):=zrj hm
  clear hy1 hn hm
  go_wp2_with fail
  refine(uv3 g y1 2 l1 w1 R1).mono ?_
  rintro e w2 ⟨rfl,g2,R2⟩
  rw[if_pos hy0] at R2
  have c1:=R2.c1
  clear R1 T1
  go_wp2_with fail
  refine wp_loop_rounds 1 ?_
  rw[rounds_succ]
  go_wp2_with fail
  go_ret
  exact⟨uxc G1 g2,_,[],l1,2,rfl,World.ownsRow_nil _ _ _ _,R2,Step.many HS1.out (fun h=>absurd hy0 h) HN.out ujt.err⟩
 ·have hmi:¬(many:Int)<(n:Int):=by omega
  have HN:Hid (n<=many):=zrj (by omega)
  have HY:=zrj hy1
  clear hy1
  have hnm:n<=1000:=by omega
  have hmd:decide (many<n)=false:=decide_eq_false hm
  go_wp2_with fail
  go_loopw [8,17] (fun out i wr=>∃(k:Nat) (xs:List uqc) (l2:Zlu) (y:Nat),k<=n/\xs.length<=k/\i=.int .i64 k/\w.grownBy wr (some g)/\OwnL wr w.heap.size out xs/\Rd wr g l2 y/\Tabs wr/\Hid (Step (pRep uk3 k) l1 y1 xs l2 y)) (fun _ i _=>n-(intOf i).toNat)
  case atStart=>exact⟨0,[],l1,y1,Nat.zero_le _,zra _,rfl,G1,World.ownsRow_nil _ _ _ _,R1,T1,Step.unit [] l1 y1⟩
  case round =>
   obtain⟨k,xs,l2,y,hk,hxs,rfl,G2,O2,R2,T2,H2⟩:=hrel
   have c1:=R2.c1
   by_cases hlt:k<n
   ·have hki:(k:Int)<(n:Int):=by omega
    by_cases hy:y=0
    ·have hyb:((y:Int) != 0)=false:=by rw[hy];rfl
     have hl2:l2.length<=4611686018427387904:=zrc H2.out.1 hl1
     have HC:=zrj (show Calls prog 37 #[zse g] wr (fun e w'=>RdP (fun j:uqc=>.agg (rwL j)) uk3 wr g l2 y e w') from(vkw g y l2 wr R2 hl2 T2))
     go_wp2_with fail
     refine HC.out.mono ?_
     rintro e w3 ⟨g3',a3,l3,y3,rfl,R3,S3⟩
     have G3:=uza (uxc G2 g3') (.cells (rwL a3) 44)
     have O4:OwnL (w3.alloc (.cells (rwL a3) 44)) w.heap.size _ xs:=World.ownsRow.alloc (O2.gw g3' hglt) _
     have bE:=Blk.new w3 44 (rwL a3)
     have R4:Rd (w3.alloc (.cells (rwL a3) 44)) g l3 y3:=Blk.alloc R3 _
     have HS3:=zrj S3
     have hsz3:w.heap.size<=(w3.alloc (.cells (rwL a3) 44)).heap.size:=G3.size
     clear R3 g3' O2 G2 R2 T2 S3 c1 HC
     go_wp2_with(first
      | (at_builtin;go_loud (refine vj4 rfl _ _ rfl w.heap.size _ xs rfl O4 w3.heap.size a3 rfl bE (by omega) hsz3 ?_)))
     intro v4 w4 O5 hb4
     have G5:=vzx G3 hb4
     have R5:Rd w4 g l3 y3:=Blk.below R4 hb4 hglt
     have T5:=HT.out w4 G5
     clear O4 bE R4 G3 hb4
     go_wp2_with fail
     go_roundw
     case rel=>exact⟨k+1,xs++[a3],l3,y3,by omega,by simp;omega,by go_num,G5,O5,R5,T5,Step.snoc H2.out HS3.out (PP.rep ujt k).err⟩
     case measure=>simp[intOf];omega
    ·have hyb:((y:Int) != 0)=true:=by rw[bne_iff_ne];omega
     go_wp2_with fail
     go_ret
     exact⟨G2,_,[],l2,y,rfl,World.ownsRow_nil _ _ _ _,R2,Step.rows HS1.out HY.out HN.out (Step.early (Nat.le_of_lt hlt) H2.out hy ujt)⟩
   ·obtain rfl:k=n:=by omega
    have hki:¬(k:Int)<(k:Int):=by omega
    go_wp2_with fail
    go_ret
    exact⟨G2,_,xs,l2,y,rfl,O2,R2,Step.rows HS1.out HY.out HN.out H2.out⟩
end Go.Proofs.YtnnfgchhkekkeacGreatDoor
