/- Lemmas.
-/
import Derived.Test.YtnnfgchhkekkeacGreatDoorPvRead
set_option linter.all false
set_option maxHeartbeats 16000000
set_option maxRecDepth 100000
namespace Go.Proofs.YtnnfgchhkekkeacGreatDoor
open Go.Proofs.Tryz
open Go.RowKit
def uzu (c v:Int):Bool:=decide (0<=c)&&decide (c<=10)&&(decide (0<=v)&&decide (v<=1099511627776))
theorem vqb {c v:Int}:uzu c v=true↔(0<=c/\c<=10)/\0<=v/\v<=1099511627776:=by
 unfold uzu;simp only[Bool.and_eq_true,decide_eq_true_eq]
def encP (c v:Int):Zlu:=putN c.toNat++putN v.toNat
def uyx (l:Zlu):Res (Int×Int):=pSeq pInt (fun _=>pInt) l
def encPR (c v:Int):Zlu×Nat:=if uzu c v=true then(encP c v,0) else([],1)
def decPR (l:Zlu):Int×Int×Nat:=match uyx l with
 | .bad e=>(0,0,e)
 | .ok x r=>if r≠[] then(0,0,4) else if uzu x.1 x.2=true then(x.1,x.2,0) else(0,0,1)
theorem vkz {c v:Int} (h:uzu c v=true):okNb c/\okNb v:=by
 obtain⟨⟨h1,h2⟩,h3,h4⟩:=vqb.1 h
 exact⟨⟨h1,by omega⟩,h3,by omega⟩
theorem wvl (x:Int) (w:World) :
  Calls prog 153 #[.int .i64 x] w fun e w'=>e=.returned (.bool (decide (0<=x)&&decide (x<=1099511627776)))/\w=w':=by
 by_cases h1:0<=x
 ·go_enter func153,ntmps153
  go_wp2_with fail
  go_ret
  exact⟨congrArg (fun b=>Ending.returned (.bool b)) (by simp[h1]),rfl⟩
 ·have h1':x<0:=by omega
  go_enter func153,ntmps153
  go_wp2_with fail
  all_goals go_ret
  all_goals exact⟨congrArg (fun b=>Ending.returned (.bool b)) (by simp;omega),rfl⟩
theorem vz1 (c v:Int) (w:World) :
  Calls prog 129 #[.agg #[.int .i64 c,.int .i64 v]] w fun e w'=>e=.returned (.bool (uzu c v))/\Below w.heap.size w w':=by
 have hb0:=zsa w (.cells #[.int .i64 c,.int .i64 v] 146)
 have HI:=zrj (fun(W:World)=>wvl v W)
 have HV:=zrj (show uzu c v=(decide (0<=c)&&decide (c<=10)&&(decide (0<=v)&&decide (v<=1099511627776))) from rfl)
 generalize(decide (0<=v)&&decide (v<=1099511627776))=bt at *
 by_cases h1:0<=c
 ·have d1:decide (0<=c)=true:=decide_eq_true h1
  by_cases h2:c<=10
  ·have d2:decide (c<=10)=true:=decide_eq_true h2
   have HR:=zrj (show uzu c v=bt from by rw[HV.out,d1,d2];rfl)
   go_enter func129,ntmps129
   go_wp2_with fail
   refine(HI.out _).mono ?_
   rintro e w' ⟨rfl,rfl⟩
   go_wp2_with fail
   go_ret
   exact⟨by rw[HR.out];rfl,hb0⟩
  ·have d2:decide (c<=10)=false:=decide_eq_false h2
   have HR:=zrj (show uzu c v=false from by rw[HV.out,d1,d2];rfl)
   go_enter func129,ntmps129
   go_wp2_with fail
   go_ret
   exact⟨by rw[HR.out];rfl,hb0⟩
 ·have d1:decide (0<=c)=false:=decide_eq_false h1
  have HR:=zrj (show uzu c v=false from by rw[HV.out,d1];rfl)
  go_enter func129,ntmps129
  go_wp2_with fail
  go_ret
  exact⟨by rw[HR.out];rfl,hb0⟩
theorem xxw (c v:Int) (w:World) :
  Calls prog 104 #[.agg #[.int .i64 c,.int .i64 v]] w fun e w'=>e=.returned (.tuple #[.string (bstr (encPR c v).1),.int .i64 ((encPR c v).2:Int)])/\Below w.heap.size w w':=by
 have hb0:=zsa w (.cells #[.int .i64 c,.int .i64 v] 146)
 have bx:=Blk.new w 146 #[.int .i64 c,.int .i64 v]
 have hi:=vz1 c v (w.alloc (.cells #[.int .i64 c,.int .i64 v] 146))
 have HE:=zrj (show encPR c v=if uzu c v=true then(encP c v,0) else([],1) from rfl)
 cases hr:uzu c v
 ·rw[hr] at hi HE
  rw[if_neg (by simp)] at HE
  have HI:=zrj hi
  clear hi hr
  go_enter func104,ntmps104
  go_wp2_with fail
  refine HI.out.mono ?_
  rintro e w1 ⟨rfl,hb1⟩
  have hB1:=bthen hb0 hb1
  go_wp2_with fail
  go_ret2
  exact⟨by rw[HE.out];rfl,hB1⟩
 ·rw[hr] at hi HE
  rw[if_pos rfl] at HE
  obtain⟨hn1,hn2⟩:=vkz hr
  have l1:=uqn c.toNat (by have:=hn1.2;omega)
  have l2:=uqn v.toNat (by have:=hn2.2;omega)
  have HN1:=zrj hn1
  have HN2:=zrj hn2
  have HI:=zrj hi
  clear hi hr hn1 hn2
  go_enter func104,ntmps104
  go_wp2_with fail
  refine HI.out.mono ?_
  rintro e w2 ⟨rfl,hb2⟩
  have hB2:=bthen hb0 hb2
  have bx2:=bx.bl hb2
  clear hb2 hb0 bx HI
  have bw:=Blk.new w2 66 #[.slice none 0 0]
  have hB3:=hB2.alloc hB2.size (.cells #[.slice none 0 0] 66)
  have bx3:=bx2.alloc (.cells #[.slice none 0 0] 66)
  have hW3:Wr (w2.alloc (.cells #[.slice none 0 0] 66)) w2.heap.size []:=⟨_,bw,Buf.nil _ _ _⟩
  have n1:w.heap.size≠w2.heap.size:=by have:=bx2.lt;omega
  have hsz2:=hB2.size
  have x0:(w2.alloc (.cells #[.slice none 0 0] 66)).cell? ⟨w.heap.size,0,none⟩=some (.int .i64 c):=bx3.cell 0
  clear bw bx2 hB2
  go_wp2_with fail
  generalize w2.alloc _=w3 at *
  refine(uqy w2.heap.size [] c w3 hW3 HN1.out (by simp)).mono ?_
  rintro e w4 ⟨rfl,h4,B4,K4⟩
  rw[List.nil_append] at h4
  have bx4:=K4 _ _ _ (by decide) n1 bx3
  have hB4:=hB3.trans (B4.mono hsz2)
  have x1:=bx4.c1
  clear hB3 bx3 B4 K4 hW3 x0
  go_wp2_with fail
  refine(uqy w2.heap.size _ v w4 h4 HN2.out (by omega)).mono ?_
  rintro e w5 ⟨rfl,h5,B5,K5⟩
  have hB5:=hB4.trans (B5.mono hsz2)
  have HO:=zrj (show putN c.toNat++putN v.toNat=encP c v from rfl)
  rw[HO.out] at h5
  clear hB4 bx4 B5 K5 h4 x1 HO
  obtain⟨vv,bw7,hv7⟩:=h5
  obtain⟨pa,ca,rfl⟩:=hv7.form
  have ew:=bw7.c0
  have hcv:=uze (P:=prog) (U:=5) (src:=64) (dst:=9) underlying64 underlying5 underlying9 hv7
  generalize encP c v=out at *
  have HB:=zrj hB5
  clear hB5 bw7 hv7
  go_wp2_with fail
  go_ret2
  exact⟨by rw[HE.out];rfl,HB.out⟩
theorem Blk.gr_ {w w':World} {g b:Nat} {t:TypeId} {cs:Array Value} (h:Blk w g t cs) (hg:w.grownBy w' (some b)) (hne:g≠b):Blk w' g t cs:=(hg.block g h.lt (by intro h0;injection h0 with h0;exact hne h0)).trans h
theorem uzo:(prog.info? 146).map (·.size)=some 2:=by kernel_rfl
def RepPost (w:World) (r:Int×Int×Nat) (e:Ending) (w':World):Prop:=e=.returned (.tuple #[.agg #[.int .i64 r.1,.int .i64 r.2.1],.int .i64 (r.2.2:Int)])/\Below w.heap.size w w'
end Go.Proofs.YtnnfgchhkekkeacGreatDoor
