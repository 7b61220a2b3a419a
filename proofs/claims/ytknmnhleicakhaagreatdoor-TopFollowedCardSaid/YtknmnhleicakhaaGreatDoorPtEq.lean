/- Lemmas.
-/
import Derived.Test.YtknmnhleicakhaaGreatDoorPtStateB
import Derived.Laws.StructEq
set_option linter.all false
set_option maxHeartbeats 16000000
set_option maxRecDepth 100000
namespace Go.Proofs.YtknmnhleicakhaaGreatDoor
open Go.Proofs.Tryz
open Go.RowKit
section
variable {P:Program} {ops:Array Oper} {C:World->Prop} {Q:Act->Prop} {o:Oper} {rest:List Oper} {a:Act}
theorem uzm (hw:Region.wanted o (yielded ops a.tmps)=true) (t rt:TypeId) (x y:Operand) (ho:o.op=.binOp .neq t x y rt) (xs ys:Array Value) (b:Bool) (hx:a.eval x=.agg xs) (hy:a.eval y=.agg ys)
  (hm:P.eqGuardType P.depth t=false) (heq:∀w,(Op.equalIn 10000 t (.agg xs) (.agg ys)).run P w=.ok b w) (h:wpQuiet P ops C Q rest (a.put o.dst (.bool (!b)))):wpQuiet P ops C Q (o::rest) a:=by
 refine uxs (v:=.bool (!b)) hw (fun w _=>?_) h
 unfold Oper.quietAt execOp
 simp only[ho,hx,hy,Sem.run_bind,run_eqGuard_agg w .neq t x y xs ys hm,Result.andThen_ok,run_neq_struct,heq,Sem.run_pure]
 exact⟨rfl,rfl⟩
end
theorem tl_eq {a b:Zba}:a.toList=b.toList↔a=b:=⟨toList_inj,fun h=>by rw[h]⟩
theorem vy5 (a b:Zba):(a.toList == b.toList)=decide (a=b):=by
 by_cases h:a=b
 ·subst h;simp
 ·rw[decide_eq_false h,zrf];exact fun e=>h (toList_inj e)
theorem eqInJ (x y:JobD) (w:World):(Op.equalIn 10000 38 (.agg (rowJ x).toArray) (.agg (rowJ y).toArray)).run prog w=.ok (decide (x=y)) w:=by
 have hS:prog.underlying 38 = some (.struct (prog.fieldsOf 38)):=by kernel_rfl
 have hp:prog.stoodInHeld 38 = false:=by kernel_rfl
 have us:=underlying9
 have ui:=underlying3
 have zs:=Tryz.sizeOf9
 have zi:=Tryz.sizeOf3
 have gs:=Tryz.isAgg9
 have gi:=Tryz.isAgg3
 rw[show(10000:Nat)=9999+1 from rfl,run_equalIn_agg w 9999 38 _ _ hS hp]
 obtain⟨x0,x1,x2,x3,x4⟩:=x
 obtain⟨y0,y1,y2,y3,y4⟩:=y
 simp only[Program.fieldsOf,underlying38,rowJ]
 go_simp
 try simp only[JobD.mk.injEq]
 by_cases h0:x0=y0 <;> by_cases h1:x1=y1 <;> by_cases h2:x2=y2 <;> by_cases h3:x3=y3 <;> by_cases h4:x4=y4 <;> simp[tl_eq,h0,h1,h2,h3,h4]
theorem vxb:prog.eqGuardType prog.depth 38 = false:=by kernel_rfl
theorem eqInN (x y:NodeD) (w:World):(Op.equalIn 10000 40 (.agg (rowN x).toArray) (.agg (rowN y).toArray)).run prog w=.ok (decide (x=y)) w:=by
 have hS:prog.underlying 40 = some (.struct (prog.fieldsOf 40)):=by kernel_rfl
 have hp:prog.stoodInHeld 40 = false:=by kernel_rfl
 have us:=underlying9
 have ui:=underlying3
 have zs:=Tryz.sizeOf9
 have zi:=Tryz.sizeOf3
 have gs:=Tryz.isAgg9
 have gi:=Tryz.isAgg3
 rw[show(10000:Nat)=9999+1 from rfl,run_equalIn_agg w 9999 40 _ _ hS hp]
 obtain⟨x0,x1,x2⟩:=x
 obtain⟨y0,y1,y2⟩:=y
 simp only[Program.fieldsOf,underlying40,rowN]
 go_simp
 try simp only[NodeD.mk.injEq]
 by_cases h0:x0=y0 <;> by_cases h1:x1=y1 <;> by_cases h2:x2=y2 <;> simp[tl_eq,h0,h1,h2]
theorem vxd:prog.eqGuardType prog.depth 40 = false:=by kernel_rfl
theorem eqInL (x y:uqb) (w:World):(Op.equalIn 10000 42 (.agg (rowL x).toArray) (.agg (rowL y).toArray)).run prog w=.ok (decide (x=y)) w:=by
 have hS:prog.underlying 42 = some (.struct (prog.fieldsOf 42)):=by kernel_rfl
 have hp:prog.stoodInHeld 42 = false:=by kernel_rfl
 have us:=underlying9
 have ui:=underlying3
 have zs:=Tryz.sizeOf9
 have zi:=Tryz.sizeOf3
 have gs:=Tryz.isAgg9
 have gi:=Tryz.isAgg3
 rw[show(10000:Nat)=9999+1 from rfl,run_equalIn_agg w 9999 42 _ _ hS hp]
 obtain⟨x0,x1,x2⟩:=x
 obtain⟨y0,y1,y2⟩:=y
 simp only[Program.fieldsOf,underlying42,rowL]
 go_simp
 try simp only[uqb.mk.injEq]
 by_cases h0:x0=y0 <;> by_cases h1:x1=y1 <;> by_cases h2:x2=y2 <;> simp[tl_eq,h0,h1,h2]
theorem vxc:prog.eqGuardType prog.depth 42 = false:=by kernel_rfl
theorem ujo {α:Type} {l m:List α} {k:Nat} {x:α} (h:l.take k=m.take k) (hx:l[k]?=some x) (hy:m[k]?=some x):l.take (k+1)=m.take (k+1):=by
 rw[List.take_add_one,List.take_add_one,h,hx,hy]
theorem ukz {α:Type} {l m:List α} {k:Nat} {x y:α} (hne:x≠y) (hx:l[k]?=some x) (hy:m[k]?=some y):l≠m:=by
 rintro rfl
 rw[hx] at hy
 injection hy with hy
 exact hne hy
theorem oEqJ1 {p:Prop} (h:p:=by first | omega | (simp only[Z5,Z7] at *;omega)):p:=h
theorem sEqJ1 {p:Prop} (h:p:=by
 by_cases hlen:l.length=m.length
 ·have hb:((l.length:Int) != (m.length:Int))=false:=by rw[hlen];simp
  have h1:l.length<=m.length:=by exact oEqJ1
  have h2:m.length<=l.length:=by exact oEqJ1
  have HLEN:=zrj hlen
  clear hlen
  go_enter Z1,Z2
  go_wp2_with fail
  go_loopw [14] (fun i wr=>∃k:Nat,k<=l.length/\i=.int .i64 k/\Below w.heap.size w wr/\Hid (l.take k=m.take k)) (fun i _=>l.length-(intOf i).toNat)
  case atStart=>exact⟨0,Nat.zero_le _,rfl,zri _ _,(show _=_ from rfl)⟩
  case round =>
   obtain⟨k,hk,rfl,hbr,HT⟩:=hrel
   by_cases hlt:k<l.length
   ·have hkm:k<m.length:=by exact oEqJ1
    have hx:l[k]?=some l[k]:=zrd hlt
    have hy:m[k]?=some m[k]:=zrd hkm
    generalize l[k]=x at *
    generalize m[k]=y at *
    obtain⟨a,rfl,hab,_,hat⟩:=(hp.below hbr).at_ (k:=k) (r:=Z3 x) (by rw[zrg,hx];rfl)
    obtain⟨b,rfl,hbb,_,hbt⟩:=(hq.below hbr).at_ (k:=k) (r:=Z3 y) (by rw[zrg,hy];rfl)
    have hB5:=hbr.alloc hbr.size (.cells (Z4 x) Z5)
    have hbt5:=hbt.below ((zri wr.heap.size wr).alloc (zra _) (.cells (Z4 x) Z5)) (by rw[uql];have:=hbr.size;exact oEqJ1)
    have HX:=zrj hx
    have HY:=zrj hy
    clear hx hy hbt
    by_cases hxy:x=y
    ·have HQ:=zrj (fun W=>(Z6 x y W).trans (by rw[decide_eq_true hxy]))
     have HN:=zrj (ujo HT.out HX.out (hxy ▸ HY.out))
     clear hxy HX HY HT
     go_wp2_with(refine uqe rfl _ _ rfl (a.add (k*Z7)) rfl (Z8 x) _ hat Z9 rfl Z10 ?_)
     refine wp_region_quiet_lit (by kernel_rfl) (by kernel_rfl) ?_
     repeat(first
      | (refine uzm rfl _ _ _ _ rfl (Z4 x) (Z4 y) true rfl rfl Z11 HQ.out ?_;simp only[Act.put,ma,mb,mc,Bool.not_true])
      | go_big_quiet_step (fail)
      | (refine uqq rfl _ _ rfl (b.add (k*Z7)) rfl (Z8 y) _ ?_ Z9 rfl Z10 ?_;(focus (rintro w5 ⟨n5,rfl⟩;exact hbt5.drewN n5));simp only[Act.put,ma,mb,mc]))
     refine wpQuiet_nil ?_
     intro _ hw'
     obtain⟨nq,hw''⟩:=hw'
     subst hw''
     go_wp2_with fail
     go_roundw
     case rel=>exact⟨k+1,by exact oEqJ1,by go_num,uqn hB5 nq,HN.out⟩
     case measure=>simp[intOf];exact oEqJ1
    ·have HQ:=zrj (fun W=>(Z6 x y W).trans (by rw[decide_eq_false hxy]))
     have HN:=zrj (ukz hxy HX.out HY.out)
     clear hxy HX HY HT
     go_wp2_with(refine uqe rfl _ _ rfl (a.add (k*Z7)) rfl (Z8 x) _ hat Z9 rfl Z10 ?_)
     refine wp_region_quiet_lit (by kernel_rfl) (by kernel_rfl) ?_
     repeat(first
      | (refine uzm rfl _ _ _ _ rfl (Z4 x) (Z4 y) false rfl rfl Z11 HQ.out ?_;simp only[Act.put,ma,mb,mc,Bool.not_false])
      | go_big_quiet_step (fail)
      | (refine uqq rfl _ _ rfl (b.add (k*Z7)) rfl (Z8 y) _ ?_ Z9 rfl Z10 ?_;(focus (rintro w5 ⟨n5,rfl⟩;exact hbt5.drewN n5));simp only[Act.put,ma,mb,mc]))
     refine wpQuiet_nil ?_
     intro _ hw'
     obtain⟨nq,hw''⟩:=hw'
     subst hw''
     go_wp2_with fail
     go_ret
     exact⟨by rw[decide_eq_false HN.out];rfl,uqn hB5 nq⟩
   ·obtain rfl:k=l.length:=by exact oEqJ1
    have HE:=zrj (show l=m from by have:=HT.out;rwa [List.take_length,HLEN.out,List.take_length] at this)
    clear HT
    go_wp2_with fail
    go_ret
    exact⟨by rw[decide_eq_true HE.out];rfl,hbr⟩
 ·have hb:((l.length:Int) != (m.length:Int))=true:=by rw[bne_iff_ne];exact oEqJ1
  have HN:=zrj (show l≠m from fun e=>hlen (by rw[e]))
  clear hlen
  go_enter Z1,Z2
  go_wp2_with fail
  go_ret
  exact⟨by rw[decide_eq_false HN.out];rfl,zri _ _⟩):p:=h
@[simp] abbrev cEqJ0J:Nat:=38
@[simp] abbrev cEqJ0N:Nat:=40
@[simp] abbrev cEqJ0L:Nat:=42
@[simp] abbrev cEqJ1J:Nat:=5
@[simp] abbrev cEqJ1N:Nat:=3
@[simp] abbrev cEqJ1L:Nat:=3
section
open Go.RowKit
open YtknmnhleicakhaaGreatDoor renaming rowJ -> Z3, rwJ -> Z4, cEqJ0J -> Z5, eqInJ -> Z6, cEqJ1J -> Z7, rlJ -> Z8, uqo -> Z10, vxb -> Z11
open Go.Proofs.Tryz renaming func32 -> Z1, ntmps32 -> Z2, underlying38 -> Z9
theorem eqJ_any (p q:Zoa) (c c':Nat) (l m:List JobD) (w:World) (hp:Elts w w.heap.size 5 p (l.map rowJ)) (hq:Elts w w.heap.size 5 q (m.map rowJ)) (hl:l.length<=4611686018427387904) (hm:m.length<=4611686018427387904) :
  Calls prog 32 #[.slice p l.length c,.slice q m.length c'] w fun e w'=>e=.returned (.bool (decide (l=m)))/\Below w.heap.size w w':=sEqJ1
end
section
open Go.RowKit
open YtknmnhleicakhaaGreatDoor renaming rowN -> Z3, rwN -> Z4, cEqJ0N -> Z5, eqInN -> Z6, cEqJ1N -> Z7, rlN -> Z8, uqk -> Z10, vxd -> Z11
open Go.Proofs.Tryz renaming func33 -> Z1, ntmps33 -> Z2, underlying40 -> Z9
theorem eqN_any (p q:Zoa) (c c':Nat) (l m:List NodeD) (w:World) (hp:Elts w w.heap.size 3 p (l.map rowN)) (hq:Elts w w.heap.size 3 q (m.map rowN)) (hl:l.length<=4611686018427387904) (hm:m.length<=4611686018427387904) :
  Calls prog 33 #[.slice p l.length c,.slice q m.length c'] w fun e w'=>e=.returned (.bool (decide (l=m)))/\Below w.heap.size w w':=sEqJ1
end
section
open Go.RowKit
open YtknmnhleicakhaaGreatDoor renaming rowL -> Z3, rwL -> Z4, cEqJ0L -> Z5, eqInL -> Z6, cEqJ1L -> Z7, rlL -> Z8, uqj -> Z10, vxc -> Z11
open Go.Proofs.Tryz renaming func34 -> Z1, ntmps34 -> Z2, underlying42 -> Z9
theorem eqL_any (p q:Zoa) (c c':Nat) (l m:List uqb) (w:World) (hp:Elts w w.heap.size 3 p (l.map rowL)) (hq:Elts w w.heap.size 3 q (m.map rowL)) (hl:l.length<=4611686018427387904) (hm:m.length<=4611686018427387904) :
  Calls prog 34 #[.slice p l.length c,.slice q m.length c'] w fun e w'=>e=.returned (.bool (decide (l=m)))/\Below w.heap.size w w':=sEqJ1
end
end Go.Proofs.YtknmnhleicakhaaGreatDoor
