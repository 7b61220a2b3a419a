/- Lemmas.
-/
import Derived.Test.YtknmnhleicakhaaGreatDoorPtDelB
import Derived.Lib.MinMax
set_option linter.all false
set_option maxHeartbeats 16000000
set_option maxRecDepth 100000
namespace Go.Proofs.YtknmnhleicakhaaGreatDoor
open Go.Proofs.Tryz
open Go.RowKit
theorem vzl (x a b:Int) (w:World) :
  Calls prog 130 #[.int .i64 x,.int .i64 a,.int .i64 b] w fun e w'=>e=.returned (.bool (uxg x a b))/\w=w':=by
 unfold uxg
 by_cases h1:a<=x
 ·go_enter func130,ntmps130
  go_wp2_with fail
  go_ret
  exact⟨congrArg (fun b=>Ending.returned (.bool b)) (by simp[h1]),rfl⟩
 ·have h1':x<a:=by omega
  go_enter func130,ntmps130
  go_wp2_with fail
  all_goals go_ret
  all_goals exact⟨congrArg (fun b=>Ending.returned (.bool b)) (by simp;omega),rfl⟩
theorem vvf (l:uqb) (w:World) (h0:l.job.size<=9223372036854775807) (h1:l.node.size<=9223372036854775807) (hT:Tabs w) :
  Calls prog 131 #[.agg (rwL l)] w fun e w'=>e=.returned (.int .i64 (uzi l:Int))/\Below w.heap.size w w':=by
 have hb0:=zsa w (.cells (rwL l) 42)
 have hT0:=hT.below hb0
 have bx0:=Blk.new w 42 (rwL l)
 have c0:=fun w hT=>uje l.job w h0 hT
 have c1:=fun w hT=>uje l.node w h1 hT
 have c2:=fun w=>vzl l.till 0 1099511627776 w
 cases q0:uxh l.job
 ·rw[q0] at c0
  have hE:uzi l=4:=by simp[uzi,q0]
  rw[hE]
  have H0:=zrj c0
  have H1:=zrj c1
  have H2:=zrj c2
  clear hE c0 c1 c2 q0
  go_enter func131,ntmps131
  go_wp2_with fail
  refine(H0.out _ hT0).mono ?_
  rintro e w1 ⟨rfl,hb1⟩
  have hT1:=hT0.below hb1
  have hB1:=bthen hb0 hb1
  have bx1:=bx0.bl hb1
  have c1_0:=bx1.c0
  have c1_1:=bx1.c1
  have c1_2:=bx1.c2
  go_wp2_with fail
  go_ret
  exact⟨rfl,hB1⟩
 ·rw[q0] at c0
  cases q1:uxh l.node
  ·rw[q1] at c1
   have hE:uzi l=4:=by simp[uzi,q0,q1]
   rw[hE]
   have H0:=zrj c0
   have H1:=zrj c1
   have H2:=zrj c2
   clear hE c0 c1 c2 q0 q1
   go_enter func131,ntmps131
   go_wp2_with fail
   refine(H0.out _ hT0).mono ?_
   rintro e w1 ⟨rfl,hb1⟩
   have hT1:=hT0.below hb1
   have hB1:=bthen hb0 hb1
   have bx1:=bx0.bl hb1
   have c1_0:=bx1.c0
   have c1_1:=bx1.c1
   have c1_2:=bx1.c2
   go_wp2_with fail
   refine(H1.out _ hT1).mono ?_
   rintro e w2 ⟨rfl,hb2⟩
   have hT2:=hT1.below hb2
   have hB2:=bthen hB1 hb2
   have bx2:=bx1.bl hb2
   have c2_0:=bx2.c0
   have c2_1:=bx2.c1
   have c2_2:=bx2.c2
   go_wp2_with fail
   go_ret
   exact⟨rfl,hB2⟩
  ·rw[q1] at c1
   cases q2:uxg l.till 0 1099511627776
   ·rw[q2] at c2
    have hE:uzi l=1:=by simp[uzi,q0,q1,q2]
    rw[hE]
    have H0:=zrj c0
    have H1:=zrj c1
    have H2:=zrj c2
    clear hE c0 c1 c2 q0 q1 q2
    go_enter func131,ntmps131
    go_wp2_with fail
    refine(H0.out _ hT0).mono ?_
    rintro e w1 ⟨rfl,hb1⟩
    have hT1:=hT0.below hb1
    have hB1:=bthen hb0 hb1
    have bx1:=bx0.bl hb1
    have c1_0:=bx1.c0
    have c1_1:=bx1.c1
    have c1_2:=bx1.c2
    go_wp2_with fail
    refine(H1.out _ hT1).mono ?_
    rintro e w2 ⟨rfl,hb2⟩
    have hT2:=hT1.below hb2
    have hB2:=bthen hB1 hb2
    have bx2:=bx1.bl hb2
    have c2_0:=bx2.c0
    have c2_1:=bx2.c1
    have c2_2:=bx2.c2
    go_wp2_with fail
    refine(H2.out _).mono ?_
    rintro e w9 ⟨rfl,rfl⟩
    go_wp2_with fail
    go_ret
    exact⟨rfl,hB2⟩
   ·rw[q2] at c2
    have hE:uzi l=0:=by simp[uzi,q0,q1,q2]
    rw[hE]
    have H0:=zrj c0
    have H1:=zrj c1
    have H2:=zrj c2
    clear hE c0 c1 c2 q0 q1 q2
    go_enter func131,ntmps131
    go_wp2_with fail
    refine(H0.out _ hT0).mono ?_
    rintro e w1 ⟨rfl,hb1⟩
    have hT1:=hT0.below hb1
    have hB1:=bthen hb0 hb1
    have bx1:=bx0.bl hb1
    have c1_0:=bx1.c0
    have c1_1:=bx1.c1
    have c1_2:=bx1.c2
    go_wp2_with fail
    refine(H1.out _ hT1).mono ?_
    rintro e w2 ⟨rfl,hb2⟩
    have hT2:=hT1.below hb2
    have hB2:=bthen hB1 hb2
    have bx2:=bx1.bl hb2
    have c2_0:=bx2.c0
    have c2_1:=bx2.c1
    have c2_2:=bx2.c2
    go_wp2_with fail
    refine(H2.out _).mono ?_
    rintro e w9 ⟨rfl,rfl⟩
    go_wp2_with fail
    go_ret
    exact⟨rfl,hB2⟩
theorem xwx (p:Zoa) (c:Nat) (l:List uqb) (w:World) (hel:Elts w w.heap.size 3 p (l.map rowL)) (hok:∀x∈l,x.job.size<=9223372036854775807/\x.node.size<=9223372036854775807) (hl:l.length<=4611686018427387904) (hT:Tabs w) :
  Calls prog 103 #[.slice p l.length c,.func (.func 95) #[] #[],.func (.func 131) #[] #[]] w fun e w'=>e=.returned (.int .i64 (rowsE uqb.job uzi none l:Int))/\Below w.heap.size w w':=by
 have HOK:=zrj hok
 clear hok
 go_enter func103,ntmps103
 go_wp2_with fail
 go_loopw [12] (fun i wr=>∃k:Nat,k<=l.length/\i=.int .i64 k/\Below w.heap.size w wr/\Hid (rowsE uqb.job uzi none l=rowsE uqb.job uzi (ujd l k) (l.drop k))) (fun i _=>l.length-(intOf i).toNat)
 case atStart=>exact⟨0,Nat.zero_le _,rfl,zri _ _,(show _=_ from rfl)⟩
 case round =>
  obtain⟨k,hk,rfl,hbr,HR⟩:=hrel
  by_cases hlt:k<l.length
  ·have hx:l[k]?=some l[k]:=zrd hlt
   have hg:=HOK.out l[k] (List.getElem_mem hlt)
   have hdr:=wqy l k _ hx
   have hpv:=vz1 l k _ hx
   generalize l[k]=x at *
   obtain⟨a,rfl,hab,_,hat⟩:=(hel.below hbr).at_ (k:=k) (r:=rowL x) (by rw[zrg,hx];rfl)
   have hb5:=hbr.alloc hbr.size (.cells (rwL x) 42)
   have bx:=Blk.new wr 42 (rwL x)
   have hc:=vvf x (wr.alloc (.cells (rwL x) 42)) hg.1 hg.2 (hT.below hb5)
   have hwr:=hbr.size
   have hbr':Below wr.heap.size wr (wr.alloc (.cells (rwL x) 42)):=(zri _ _).alloc (zra _) _
   have HR0:=HR.out
   rw[hdr] at HR0
   by_cases hE:uzi x=0
   ·rw[hE] at hc
    have HC:=zrj hc
    cases hbo:uzp uqb.job (ujd l k) x
    all_goals
     first
      | rw[uvx _ _ _ _ _ hE hbo,<- hpv] at HR0
      | rw[uva _ _ _ _ _ hE hbo] at HR0
     have HF:=zrj HR0
    all_goals
     obtain rfl | ⟨j,rfl⟩:k=0\/∃j,k=j+1:=by
      rcases k with _ | j
      ·exact .inl rfl
      ·exact .inr ⟨j,rfl⟩
    ·clear hc HR0 hE hbo hdr hpv hx HR
     go_wp2_with(refine uqe rfl _ _ rfl (a.add (0*3)) rfl (rlL x) _ hat underlying42 rfl uqj ?_)
     refine HC.out.mono ?_
     rintro e w4 ⟨rfl,hb4⟩
     have bx4:=bx.bl hb4
     have hb6:=bthen hb5 hb4
     clear hat
     go_wp2_with fail
     go_quiet (fail)
     go_wp2_with fail
     go_roundw
     case rel=>exact⟨1,by omega,rfl,uqn hb6 _,HF.out⟩
     case measure=>simp[intOf];omega
    ·
     have hy:l[j]?=some l[j]:=zrd (by omega)
     have hle:leS (uqb.job x) (uqb.job l[j])=false:=by
      have:uzp uqb.job (some l[j]) x=false:=by rw[<- hbo];congr 1;exact hy.symm
      exact this
     generalize l[j]=y at *
     obtain⟨a',ha',_,_,hay⟩:=(hel.below hbr).at_ (k:=j) (r:=rowL y) (by rw[zrg,hy];rfl)
     obtain rfl:a=a':=by injection ha'
     unfold leS at hle
     have HL:=zrj hle
     clear hc HR0 hE hbo hdr hpv hx hy ha' HR hle
     go_wp2_with(refine uqe rfl _ _ rfl (a.add ((j+1)*3)) rfl (rlL x) _ hat underlying42 rfl uqj ?_)
     refine HC.out.mono ?_
     rintro e w4 ⟨rfl,hb4⟩
     have bx4:=bx.bl hb4
     have hb6:=bthen hb5 hb4
     have hay4:=(hay.below hbr' (by rw[uql];exact Nat.lt_of_lt_of_le hab hwr)).below hb4 (by rw[uql];have:=hbr'.size;omega)
     clear hat hay
     go_wp2_with fail
     have hwj:IntKind.i64.wrap (j:Int)=(j:Int):=IntWalk.i64_in _ (by omega)
     have hj0:(0:Int)<=(j:Int):=by omega
     have hj1:(j:Int)<(l.length:Int):=by omega
     refine uxq (by kernel_rfl) (by kernel_rfl) ?_
     repeat(first
      | (refine uqt (by first | rfl | kernel_rfl) _ _ rfl ⟨wr.heap.size,0,none⟩ rfl (rlL x) _ (fun w5 hw5=>At.blk (bx4.bl hw5)) underlying42 rfl uqj ?_;simp only[Act.put,ma,mb,mc])
      | (refine uqt (by first | rfl | kernel_rfl) _ _ rfl (a.add (j*3)) rfl (rlL y) _ (fun w5 hw5=>hay4.below hw5 (by rw[uql];have:=hbr'.size;have:=hb4.size;omega)) underlying42 rfl uqj ?_;simp only[Act.put,ma,mb,mc])
      | (apply uxs;(focus (first | rfl | kernel_rfl));(focus (intro w5 hw5;unfold Oper.quietAt;go_simp;first | rfl | exact⟨rfl,rfl⟩ | (with_reducible refine(uza x w5).mono ?_;rintro e w8 ⟨rfl,hb8⟩;exact⟨rfl,Abv.step hw5 hb8⟩) | (with_reducible refine(uza y w5).mono ?_;rintro e w8 ⟨rfl,hb8⟩;exact⟨rfl,Abv.step hw5 hb8⟩)));simp only[Act.put,ma,mb,mc]))
     refine wpQuiet_nil ?_
     intro w7 hw7
     have hb7:Below w4.heap.size w4 w7:=hw7
     have hl7:=HL.out
     clear hwj hj0 hj1
     generalize(Op.bytesLess (uqb.job x).toList (uqb.job y).toList||(uqb.job x).toList == (uqb.job y).toList)=bo at hl7 ⊢
     subst hl7
     go_wp2_with fail
     refine⟨⟨j+1+1,by omega,by go_num,bthen hb6 hb7,HF.out⟩,by simp[intOf];omega⟩
    ·exact absurd hbo (by simp[ujd,uzp])
    ·
     have hy:l[j]?=some l[j]:=zrd (by omega)
     have hle:leS (uqb.job x) (uqb.job l[j])=true:=by
      have:uzp uqb.job (some l[j]) x=true:=by rw[<- hbo];congr 1;exact hy.symm
      exact this
     generalize l[j]=y at *
     obtain⟨a',ha',_,_,hay⟩:=(hel.below hbr).at_ (k:=j) (r:=rowL y) (by rw[zrg,hy];rfl)
     obtain rfl:a=a':=by injection ha'
     unfold leS at hle
     have HL:=zrj hle
     clear hc HR0 hE hbo hdr hpv hx hy ha' HR hle
     go_wp2_with(refine uqe rfl _ _ rfl (a.add ((j+1)*3)) rfl (rlL x) _ hat underlying42 rfl uqj ?_)
     refine HC.out.mono ?_
     rintro e w4 ⟨rfl,hb4⟩
     have bx4:=bx.bl hb4
     have hb6:=bthen hb5 hb4
     have hay4:=(hay.below hbr' (by rw[uql];exact Nat.lt_of_lt_of_le hab hwr)).below hb4 (by rw[uql];have:=hbr'.size;omega)
     clear hat hay
     go_wp2_with fail
     have hwj:IntKind.i64.wrap (j:Int)=(j:Int):=IntWalk.i64_in _ (by omega)
     have hj0:(0:Int)<=(j:Int):=by omega
     have hj1:(j:Int)<(l.length:Int):=by omega
     refine uxq (by kernel_rfl) (by kernel_rfl) ?_
     repeat(first
      | (refine uqt (by first | rfl | kernel_rfl) _ _ rfl ⟨wr.heap.size,0,none⟩ rfl (rlL x) _ (fun w5 hw5=>At.blk (bx4.bl hw5)) underlying42 rfl uqj ?_;simp only[Act.put,ma,mb,mc])
      | (refine uqt (by first | rfl | kernel_rfl) _ _ rfl (a.add (j*3)) rfl (rlL y) _ (fun w5 hw5=>hay4.below hw5 (by rw[uql];have:=hbr'.size;have:=hb4.size;omega)) underlying42 rfl uqj ?_;simp only[Act.put,ma,mb,mc])
      | (apply uxs;(focus (first | rfl | kernel_rfl));(focus (intro w5 hw5;unfold Oper.quietAt;go_simp;first | rfl | exact⟨rfl,rfl⟩ | (with_reducible refine(uza x w5).mono ?_;rintro e w8 ⟨rfl,hb8⟩;exact⟨rfl,Abv.step hw5 hb8⟩) | (with_reducible refine(uza y w5).mono ?_;rintro e w8 ⟨rfl,hb8⟩;exact⟨rfl,Abv.step hw5 hb8⟩)));simp only[Act.put,ma,mb,mc]))
     refine wpQuiet_nil ?_
     intro w7 hw7
     have hb7:Below w4.heap.size w4 w7:=hw7
     have hl7:=HL.out
     clear hwj hj0 hj1
     generalize(Op.bytesLess (uqb.job x).toList (uqb.job y).toList||(uqb.job x).toList == (uqb.job y).toList)=bo at hl7 ⊢
     subst hl7
     go_wp2_with fail
     go_ret
     exact⟨by rw[HF.out];rfl,bthen hb6 hb7⟩
   ·rw[uk9 _ _ _ _ _ hE] at HR0
    have hne:((uzi x:Int) != 0)=true:=by rw[bne_iff_ne];omega
    have HF:=zrj HR0
    have HC:=zrj hc
    clear hc HR0 hE hdr hpv hx HR
    go_wp2_with(refine uqe rfl _ _ rfl (a.add (k*3)) rfl (rlL x) _ hat underlying42 rfl uqj ?_)
    refine HC.out.mono ?_
    rintro e w4 ⟨rfl,hb4⟩
    go_wp2_with fail
    go_ret
    exact⟨by rw[HF.out];rfl,bthen hb5 hb4⟩
  ·obtain rfl:k=l.length:=by omega
   have HR0:=HR.out
   rw[List.drop_length] at HR0
   have HF:=zrj HR0
   clear HR0 HR
   go_wp2_with fail
   go_ret
   exact⟨by rw[HF.out];rfl,hbr⟩
theorem sGoneJ1 {p:Prop} (h:p:=by
 have hb0:=zsa w (.cells (Z1 y) Z2)
 have by0:=Blk.new w Z2 (Z1 y)
 have bk0:=bk.alloc (.cells (Z1 y) Z2)
 have bs0:=bs.alloc (.cells (Z1 y) Z2)
 have HT:=zrj (vy5 (Z3 y) s)
 go_enter Z4,Z5
 go_wp2_with fail
 generalize w.alloc _=w0 at *
 refine uxq (by kernel_rfl) (by kernel_rfl) ?_
 repeat(first
  | (refine uqt (by first | rfl | kernel_rfl) _ _ rfl ⟨w.heap.size,0,none⟩ rfl (Z6 y) _ (fun w5 hw5=>At.blk (by0.bl hw5)) Z7 rfl Z8 ?_;simp only[Act.put,ma,mb,mc])
  | (apply uxs;(focus (first | rfl | kernel_rfl));(focus (intro w5 hw5;have hk5:=(bk0.bl hw5).c0;have hs5:=(bs0.bl hw5).c0;unfold Oper.quietAt;go_simp;first | rfl | exact⟨rfl,rfl⟩ | (with_reducible refine(Z9 y w5).mono ?_;rintro e w8 ⟨rfl,hb8⟩;exact⟨rfl,Abv.step hw5 hb8⟩)));simp only[Act.put,ma,mb,mc]))
 refine wpQuiet_nil ?_
 intro w7 hw7
 have hb7:=hb0.trans ((show Below w0.heap.size w0 w7 from hw7).mono hb0.size)
 go_wp2_with fail
 go_ret
 exact⟨by rw[<- HT.out];rfl,hb7⟩):p:=h
theorem oGoneJ2 {p:Prop} (h:p:=by first | omega | (simp only[Z10,Z11,Z15] at *;omega)):p:=h
theorem sGoneJ2 {p:Prop} (h:p:=by
 have hb0:=zsa w (.cells #[Value.func (.func Z10) #[] #[]] Z11)
 have bk:=Blk.new w Z11 #[Value.func (.func Z10) #[] #[]]
 have HOK:=zrj hok
 clear hok
 go_enter Z12,Z13
 go_wp2_with fail
 go_loopw [11] (fun i wr=>∃k:Nat,k<=l.length/\i=.int .i64 k/\Below w.heap.size w wr/\Blk wr w.heap.size Z11 #[Value.func (.func Z10) #[] #[]]/\Hid (goneE (Z14 rows) none l=goneE (Z14 rows) (ujd l k) (l.drop k))) (fun i _=>l.length-(intOf i).toNat)
 case atStart=>exact⟨0,Nat.zero_le _,rfl,hb0,bk,(show _=_ from rfl)⟩
 case round =>
  obtain⟨k,hk,rfl,hbr,bkr,HR⟩:=hrel
  clear bk hb0
  by_cases hlt:k<l.length
  ·have hx:l[k]?=some l[k]:=zrd hlt
   have hsz:=HOK.out l[k] (List.getElem_mem hlt)
   have hdr:=vx1 l k _ hx
   have hpv:ujd l (k+1)=some l[k]:=hx
   generalize l[k]=s at *
   obtain⟨a,rfl,hab,_,hat⟩:=(hl.below hbr).at_ (k:=k) (r:=rowS s) (by rw[zrg,hx];rfl)
   have e0:wr.cell? (a.add k)=some (.string s):=uy9 hat
   have hb5:=hbr.alloc hbr.size (.cells #[.string s] 9)
   have bk5:=bkr.alloc (.cells #[.string s] 9)
   have bs5:=Blk.new wr 9 #[.string s]
   have hc:=uje s (wr.alloc (.cells #[.string s] 9)) hsz (hT.below hb5)
   have HR0:=HR.out
   rw[hdr,vjp] at HR0
   have hk0:(0:Int)<=(k:Int):=by exact oGoneJ2
   have hk1:(k:Int)<(l.length:Int):=by exact oGoneJ2
   cases hnm:uxh s
   ·rw[hnm] at hc HR0
    rw[if_pos rfl] at HR0
    have HC:=zrj hc
    have HR1:=zrj HR0
    clear hc HR0 HR hdr hx hpv hnm hat
    go_wp2_with fail
    refine HC.out.mono ?_
    rintro e w1 ⟨rfl,hb1⟩
    have hB1:=bthen hb5 hb1
    go_wp2_with fail
    go_ret
    exact⟨by rw[HR1.out];rfl,hB1⟩
   ·rw[hnm] at hc HR0
    rw[if_neg (by simp)] at HR0
    have HC:=zrj hc
    clear hc
    obtain⟨bo,hbo⟩:∃bo,uzp (fun s:Zba=>s) (ujd l k) s=bo:=⟨_,rfl⟩
    rw[hbo] at HR0
    have HB:=zrj hbo
    have hFn:∀W,Below (wr.alloc (.cells #[.string s] 9)).heap.size (wr.alloc (.cells #[.string s] 9)) W->FnOk prog W Z15 #[zse w.heap.size,zse wr.heap.size] Z16 (fun y=>decide (Z3 y=s)) rows :=
     fun W hW=>⟨fun args W'=>by kernel_rfl,fun y _ W' hW'=>Z17 w.heap.size wr.heap.size s y W' ((bk5.bl hW).below hW' (bk5.bl hW).lt) ((bs5.bl hW).below hW' (bs5.bl hW).lt)⟩
    have HCF:=zrj (fun(W:World) (hW:Below (wr.alloc (.cells #[.string s] 9)).heap.size (wr.alloc (.cells #[.string s] 9)) W)=>Z18 _ _ _ q d rows W ((hr.below (bthen hb5 hW)).more (zrc hb5.size hW.size)) (by exact oGoneJ2) (hFn W hW))
    clear hFn
    rcases Nat.eq_zero_or_pos k with hk00 | hkp
    ·
     have hbf:bo=false:=by rw[<- HB.out,hk00];rfl
     have hkd:decide (0<k)=false:=decide_eq_false (by exact oGoneJ2)
     clear hk00
     subst hbf
     rw[if_neg (by simp)] at HR0
     cases hh:Z14 rows s
     ·rw[hh,if_neg (by simp),<- hpv] at HR0
      have HR1:=zrj HR0
      have HC2:=zrj (fun W hW=>by have:=HCF.out W hW;rwa [show(rows.any fun y=>decide (Z3 y=s))=false from hh] at this)
      clear HR0 HR hdr hx hpv hnm hat hh HCF hbo
      go_wp2_with fail
      refine HC.out.mono ?_
      rintro e w1 ⟨rfl,hb1⟩
      have hB1:=bthen hb5 hb1
      have bs1:=bs5.bl hb1
      have bk1:=bk5.bl hb1
      have y0:=bs1.c0
      go_wp2_with fail
      go_big_quiet (fail)
      go_wp2_with fail
      refine(HC2.out _ (uqn hb1 _)).mono ?_
      rintro e w2 ⟨rfl,hb2⟩
      have hB2:=(uqn hB1 nq).trans (hb2.mono hB1.size)
      have bk2:=(show Blk (w1.drewN nq) w.heap.size Z11 #[Value.func (.func Z10) #[] #[]] from bk1).below hb2 bk1.lt
      go_wp2_with fail
      go_roundw
      case rel=>exact⟨k+1,by exact oGoneJ2,by go_num,hB2,bk2,HR1.out⟩
      case measure=>simp[intOf];exact oGoneJ2
     ·rw[hh,if_pos rfl] at HR0
      have HR1:=zrj HR0
      have HC2:=zrj (fun W hW=>by have:=HCF.out W hW;rwa [show(rows.any fun y=>decide (Z3 y=s))=true from hh] at this)
      clear HR0 HR hdr hx hpv hnm hat hh HCF hbo
      go_wp2_with fail
      refine HC.out.mono ?_
      rintro e w1 ⟨rfl,hb1⟩
      have hB1:=bthen hb5 hb1
      have bs1:=bs5.bl hb1
      have y0:=bs1.c0
      go_wp2_with fail
      go_big_quiet (fail)
      go_wp2_with fail
      refine(HC2.out _ (uqn hb1 _)).mono ?_
      rintro e w2 ⟨rfl,hb2⟩
      have hB2:=(uqn hB1 nq).trans (hb2.mono hB1.size)
      go_wp2_with fail
      go_ret
      exact⟨by rw[HR1.out];rfl,hB2⟩
    ·obtain⟨j,hj⟩:∃j,k=j+1:=⟨k-1,by exact oGoneJ2⟩
     have hy:l[j]?=some l[j]:=zrd (by exact oGoneJ2)
     have hpk:ujd l k=l[j]?:=by rw[hj];rfl
     have hle:leS s l[j]=bo:=by
      have:uzp (fun s:Zba=>s) (some l[j]) s=bo:=by rw[<- hy,<- hpk];exact HB.out
      exact this
     clear hpk
     generalize l[j]=y at *
     obtain⟨a',ha',hab',_,hay⟩:=(hl.below hbr).at_ (k:=j) (r:=rowS y) (by rw[zrg,hy];rfl)
     obtain rfl:a=a':=by injection ha'
     have ey:wr.cell? (a.add j)=some (.string y):=uy9 hay
     have hablt:(a.add j).block<wr.heap.size:=by rw[uql];have:=hbr.size;exact oGoneJ2
     unfold leS at hle
     have hwj:IntKind.i64.wrap ((k:Int)-1)=(j:Int):=by rw[show(k:Int)-1=(j:Int) by exact oGoneJ2];exact IntWalk.i64_in _ (by exact oGoneJ2)
     have hj0:(0:Int)<=(j:Int):=by exact oGoneJ2
     have hj1:(j:Int)<(l.length:Int):=by exact oGoneJ2
     have hj3:decide (0<k)=true:=decide_eq_true hkp
     clear hj hkp
     have hy5:∀W,Below (wr.alloc (.cells #[.string s] 9)).heap.size (wr.alloc (.cells #[.string s] 9)) W->W.cell? (a.add j)=some (.string y):=fun W hW=>by
      have h1:Below wr.heap.size wr W:=((zri _ _).alloc (zra _) _).trans (hW.mono (by simp))
      rw[h1.cell (p:=a.add j) hablt];exact ey
     have HY:=zrj hy5
     have HL:=zrj hle
     cases bo
     ·rw[if_neg (by simp)] at HR0
      cases hh:Z14 rows s
      ·rw[hh,if_neg (by simp),<- hpv] at HR0
       have HR1:=zrj HR0
       have HC2:=zrj (fun W hW=>by have:=HCF.out W hW;rwa [show(rows.any fun y=>decide (Z3 y=s))=false from hh] at this)
       clear HR0 HR hdr hx hpv hnm hat hh HCF hbo hay ey hle hy hy5
       go_wp2_with fail
       refine HC.out.mono ?_
       rintro e w1 ⟨rfl,hb1⟩
       have hB1:=bthen hb5 hb1
       have bs1:=bs5.bl hb1
       have bk1:=bk5.bl hb1
       have y0:=bs1.c0
       have y1:=HY.out w1 hb1
       have hle:=HL.out
       go_wp2_with fail
       go_big_quiet (fail)
       go_wp2_with fail
       refine(HC2.out _ (uqn hb1 _)).mono ?_
       rintro e w2 ⟨rfl,hb2⟩
       have hB2:=(uqn hB1 nq).trans (hb2.mono hB1.size)
       have bk2:=(show Blk (w1.drewN nq) w.heap.size Z11 #[Value.func (.func Z10) #[] #[]] from bk1).below hb2 bk1.lt
       clear hle
       go_wp2_with fail
       go_roundw
       case rel=>exact⟨k+1,by exact oGoneJ2,by go_num,hB2,bk2,HR1.out⟩
       case measure=>simp[intOf];exact oGoneJ2
      ·rw[hh,if_pos rfl] at HR0
       have HR1:=zrj HR0
       have HC2:=zrj (fun W hW=>by have:=HCF.out W hW;rwa [show(rows.any fun y=>decide (Z3 y=s))=true from hh] at this)
       clear HR0 HR hdr hx hpv hnm hat hh HCF hbo hay ey hle hy hy5
       go_wp2_with fail
       refine HC.out.mono ?_
       rintro e w1 ⟨rfl,hb1⟩
       have hB1:=bthen hb5 hb1
       have bs1:=bs5.bl hb1
       have y0:=bs1.c0
       have y1:=HY.out w1 hb1
       have hle:=HL.out
       go_wp2_with fail
       go_big_quiet (fail)
       go_wp2_with fail
       refine(HC2.out _ (uqn hb1 _)).mono ?_
       rintro e w2 ⟨rfl,hb2⟩
       have hB2:=(uqn hB1 nq).trans (hb2.mono hB1.size)
       clear hle
       go_wp2_with fail
       go_ret
       exact⟨by rw[HR1.out];rfl,hB2⟩
     ·rw[if_pos rfl] at HR0
      have HR1:=zrj HR0
      clear HR0 HR hdr hx hpv hnm hat HCF hbo hay ey hle hy hy5
      go_wp2_with fail
      refine HC.out.mono ?_
      rintro e w1 ⟨rfl,hb1⟩
      have hB1:=bthen hb5 hb1
      have bs1:=bs5.bl hb1
      have y0:=bs1.c0
      have y1:=HY.out w1 hb1
      have hle:=HL.out
      go_wp2_with fail
      go_big_quiet (fail)
      go_wp2_with fail
      go_ret
      exact⟨by rw[HR1.out];rfl,uqn hB1 _⟩
  ·obtain rfl:k=l.length:=by exact oGoneJ2
   have HR0:=HR.out
   rw[List.drop_length] at HR0
   have HR1:=zrj HR0
   clear HR0 HR
   go_wp2_with fail
   go_ret
   exact⟨by rw[HR1.out];rfl,hbr⟩):p:=h
@[simp] abbrev cGoneJ0J:Nat:=38
@[simp] abbrev cGoneJ0N:Nat:=40
@[simp] abbrev cGoneJ0L:Nat:=42
@[simp] abbrev cGoneJ1J:Nat:=91
@[simp] abbrev cGoneJ1N:Nat:=93
@[simp] abbrev cGoneJ1L:Nat:=95
@[simp] abbrev cGoneJ2J:Nat:=191
@[simp] abbrev cGoneJ2N:Nat:=194
@[simp] abbrev cGoneJ2L:Nat:=197
@[simp] abbrev cGoneJ3J:Nat:=171
@[simp] abbrev cGoneJ3N:Nat:=172
@[simp] abbrev cGoneJ3L:Nat:=173
section
open Go.RowKit
open YtknmnhleicakhaaGreatDoor renaming rwJ -> Z1, cGoneJ0J -> Z2, JobD.name -> Z3, rlJ -> Z6, uqo -> Z8, uj6 -> Z9
open Go.Proofs.Tryz renaming func171 -> Z4, ntmps171 -> Z5, underlying38 -> Z7
theorem xxy (gk gs:Nat) (s:Zba) (y:JobD) (w:World) (bk:Blk w gk 191 #[Value.func (.func 91) #[] #[]]) (bs:Blk w gs 9 #[.string s]) :
  Calls prog 171 #[.agg (rwJ y),zse gk,zse gs] w fun e w'=>e=.returned (.bool (decide (JobD.name y=s)))/\Below w.heap.size w w':=sGoneJ1
open YtknmnhleicakhaaGreatDoor renaming cGoneJ1J -> Z10, cGoneJ2J -> Z11, hasJn -> Z14, cGoneJ3J -> Z15, rowJ -> Z16, xxy -> Z17, vxy -> Z18
open Go.Proofs.Tryz renaming func132 -> Z12, ntmps132 -> Z13
theorem xk9 (p q:Zoa) (c d:Nat) (l:List Zba) (rows:List JobD) (w:World) (hl:Elts w w.heap.size 1 p (l.map rowS)) (hr:Elts w w.heap.size 5 q (rows.map rowJ)) (hn:l.length<=1000) (hm:rows.length<=1000) (hok:∀s∈l,s.size<=9223372036854775807) (hT:Tabs w) :
  Calls prog 132 #[.slice p l.length c,.slice q rows.length d,.func (.func 91) #[] #[]] w fun e w'=>e=.returned (.int .i64 (goneE (hasJn rows) none l:Int))/\Below w.heap.size w w':=sGoneJ2
end
section
open Go.RowKit
open YtknmnhleicakhaaGreatDoor renaming rwN -> Z1, cGoneJ0N -> Z2, NodeD.name -> Z3, rlN -> Z6, uqk -> Z8, ujn -> Z9
open Go.Proofs.Tryz renaming func172 -> Z4, ntmps172 -> Z5, underlying40 -> Z7
theorem xx0 (gk gs:Nat) (s:Zba) (y:NodeD) (w:World) (bk:Blk w gk 194 #[Value.func (.func 93) #[] #[]]) (bs:Blk w gs 9 #[.string s]) :
  Calls prog 172 #[.agg (rwN y),zse gk,zse gs] w fun e w'=>e=.returned (.bool (decide (NodeD.name y=s)))/\Below w.heap.size w w':=sGoneJ1
open YtknmnhleicakhaaGreatDoor renaming cGoneJ1N -> Z10, cGoneJ2N -> Z11, hasNn -> Z14, cGoneJ3N -> Z15, rowN -> Z16, xx0 -> Z17, vx0 -> Z18
open Go.Proofs.Tryz renaming func133 -> Z12, ntmps133 -> Z13
theorem xvb (p q:Zoa) (c d:Nat) (l:List Zba) (rows:List NodeD) (w:World) (hl:Elts w w.heap.size 1 p (l.map rowS)) (hr:Elts w w.heap.size 3 q (rows.map rowN)) (hn:l.length<=1000) (hm:rows.length<=1000) (hok:∀s∈l,s.size<=9223372036854775807) (hT:Tabs w) :
  Calls prog 133 #[.slice p l.length c,.slice q rows.length d,.func (.func 93) #[] #[]] w fun e w'=>e=.returned (.int .i64 (goneE (hasNn rows) none l:Int))/\Below w.heap.size w w':=sGoneJ2
end
section
open Go.RowKit
open YtknmnhleicakhaaGreatDoor renaming rwL -> Z1, cGoneJ0L -> Z2, uqb.job -> Z3, rlL -> Z6, uqj -> Z8, uza -> Z9
open Go.Proofs.Tryz renaming func173 -> Z4, ntmps173 -> Z5, underlying42 -> Z7
theorem xxz (gk gs:Nat) (s:Zba) (y:uqb) (w:World) (bk:Blk w gk 197 #[Value.func (.func 95) #[] #[]]) (bs:Blk w gs 9 #[.string s]) :
  Calls prog 173 #[.agg (rwL y),zse gk,zse gs] w fun e w'=>e=.returned (.bool (decide (uqb.job y=s)))/\Below w.heap.size w w':=sGoneJ1
open YtknmnhleicakhaaGreatDoor renaming cGoneJ1L -> Z10, cGoneJ2L -> Z11, hasLn -> Z14, cGoneJ3L -> Z15, rowL -> Z16, xxz -> Z17, vxz -> Z18
open Go.Proofs.Tryz renaming func134 -> Z12, ntmps134 -> Z13
theorem xva (p q:Zoa) (c d:Nat) (l:List Zba) (rows:List uqb) (w:World) (hl:Elts w w.heap.size 1 p (l.map rowS)) (hr:Elts w w.heap.size 3 q (rows.map rowL)) (hn:l.length<=1000) (hm:rows.length<=1000) (hok:∀s∈l,s.size<=9223372036854775807) (hT:Tabs w) :
  Calls prog 134 #[.slice p l.length c,.slice q rows.length d,.func (.func 95) #[] #[]] w fun e w'=>e=.returned (.int .i64 (goneE (hasLn rows) none l:Int))/\Below w.heap.size w w':=sGoneJ2
end
theorem run_max4 {P:Program} (w:World) (ts:Array TypeId) (t:TypeId) (k k1 k2 k3:IntKind) (x y z u:Int):(Builtin.max_ ts t #[.int k x,.int k1 y,.int k2 z,.int k3 u]).run P w=.ok (.int k (max (max (max x y) z) u)) w:=by
 have e:∀a b:Int,(if b > a then b else a)=max a b:=fun a b=>by split <;> omega
 simp[Builtin.max_,Builtin.max2,e]
structure DelOk (d:uq0):Prop where
 sz:DelSz d
 j:∀x∈d.jobs,x.name.size<=9223372036854775807/\x.tag.size<=9223372036854775807
 n:∀x∈d.nodes,x.name.size<=9223372036854775807/\x.zone.size<=9223372036854775807
 l:∀x∈d.leases,x.job.size<=9223372036854775807/\x.node.size<=9223372036854775807
 gj:∀s∈d.gj,s.size<=9223372036854775807
 gn:∀s∈d.gn,s.size<=9223372036854775807
 gl:∀s∈d.gl,s.size<=9223372036854775807
theorem uv3 (d:uq0) (p1 p2 p3 p4 p5 p6:Zoa) (c1 c2 c3 c4 c5 c6:Nat) (w:World) (hm:DelM w w.heap.size p1 p2 p3 p4 p5 p6 d) (hk:DelOk d) (hT:Tabs w) :
  Calls prog 89 #[.agg (dv d p1 p2 p3 p4 p5 p6 c1 c2 c3 c4 c5 c6)] w fun e w'=>e=.returned (.int .i64 (uxn d:Int))/\Below w.heap.size w w':=by
 have hb0:=zsa w (.cells (dv d p1 p2 p3 p4 p5 p6 c1 c2 c3 c4 c5 c6) 118)
 have bx:=Blk.new w 118 (dv d p1 p2 p3 p4 p5 p6 c1 c2 c3 c4 c5 c6)
 have hx4:=@run_max4 prog
 have HDE:=zrj (show uxn d=if ¬revOk d then 1 else if ¬lenOk d then 2 else vx2 (uz3 d) from rfl)
 have hl1:=hk.sz.j;have hl2:=hk.sz.n;have hl3:=hk.sz.l;have hl4:=hk.sz.gj;have hl5:=hk.sz.gn;have hl6:=hk.sz.gl
 have W1:=zrj (fun(W:World)=>vzl d.frm 0 1099511627776 W)
 have W2:=zrj (fun(W:World)=>vzl d.upto (d.frm+1) 1099511627776 W)
 by_cases hf:uxg d.frm 0 1099511627776=true
 ·have hff:=uq2.1 hf
  rw[hf] at W1
  have hw1:IntKind.i64.wrap (d.frm+1)=d.frm+1:=IntWalk.i64_in _ (by omega)
  by_cases hu:uxg d.upto (d.frm+1) 1099511627776=true
  ·have huu:=uq2.1 hu
   rw[hu] at W2
   have hrev:revOk d:=⟨hff,huu.1,huu.2⟩
   rw[if_neg (by simpa using hrev)] at HDE
   clear hf hu hrev
   by_cases hlen:lenOk d
   ·rw[if_neg (by simpa using hlen)] at HDE
    obtain⟨⟨a1,a2,a3,a4⟩,a5,a6⟩:=hlen
    have m1:¬(40:Int)<max (max (max (d.jobs.length:Int) d.leases.length) d.gj.length) d.gl.length:=by omega
    have m2:¬(20:Int)<max (d.nodes.length:Int) d.gn.length:=by omega
    have hcells:∀X:World,Abv (w.alloc (.cells (dv d p1 p2 p3 p4 p5 p6 c1 c2 c3 c4 c5 c6) 118)) X->X.cell? ⟨w.heap.size,2,none⟩=some (.slice p1 d.jobs.length c1)/\X.cell? ⟨w.heap.size,3,none⟩=some (.slice p2 d.nodes.length c2)/\X.cell? ⟨w.heap.size,4,none⟩=some (.slice p3 d.leases.length c3)/\X.cell? ⟨w.heap.size,5,none⟩=some (.slice p4 d.gj.length c4)/\X.cell? ⟨w.heap.size,6,none⟩=some (.slice p5 d.gn.length c5)/\X.cell? ⟨w.heap.size,7,none⟩=some (.slice p6 d.gl.length c6):=fun X hX=>⟨(bx.bl hX).cell 2,(bx.bl hX).cell 3,(bx.bl hX).cell 4,(bx.bl hX).cell 5,(bx.bl hX).cell 6,(bx.bl hX).cell 7⟩
    have HQ:=zrj hcells
    have R1:=zrj (fun(X:World) (hX:Abv (w.alloc (.cells (dv d p1 p2 p3 p4 p5 p6 c1 c2 c3 c4 c5 c6) 118)) X)=>vwn p1 c1 d.jobs X ((hm.j.below (hb0.trans (Below.mono hX hb0.size))).more (zrc hb0.size (Below.size hX))) hk.j (by omega) (hT.below (hb0.trans (Below.mono hX hb0.size))))
    have R2:=zrj (fun(X:World) (hX:Abv (w.alloc (.cells (dv d p1 p2 p3 p4 p5 p6 c1 c2 c3 c4 c5 c6) 118)) X)=>vwo p2 c2 d.nodes X ((hm.n.below (hb0.trans (Below.mono hX hb0.size))).more (zrc hb0.size (Below.size hX))) hk.n (by omega) (hT.below (hb0.trans (Below.mono hX hb0.size))))
    have R3:=zrj (fun(X:World) (hX:Abv (w.alloc (.cells (dv d p1 p2 p3 p4 p5 p6 c1 c2 c3 c4 c5 c6) 118)) X)=>xwx p3 c3 d.leases X ((hm.l.below (hb0.trans (Below.mono hX hb0.size))).more (zrc hb0.size (Below.size hX))) hk.l (by omega) (hT.below (hb0.trans (Below.mono hX hb0.size))))
    have R4:=zrj (fun(X:World) (hX:Abv (w.alloc (.cells (dv d p1 p2 p3 p4 p5 p6 c1 c2 c3 c4 c5 c6) 118)) X)=>xk9 p4 p1 c4 c1 d.gj d.jobs X ((hm.gj.below (hb0.trans (Below.mono hX hb0.size))).more (zrc hb0.size (Below.size hX))) ((hm.j.below (hb0.trans (Below.mono hX hb0.size))).more (zrc hb0.size (Below.size hX))) (by omega) (by omega) hk.gj (hT.below (hb0.trans (Below.mono hX hb0.size))))
    have R5:=zrj (fun(X:World) (hX:Abv (w.alloc (.cells (dv d p1 p2 p3 p4 p5 p6 c1 c2 c3 c4 c5 c6) 118)) X)=>xvb p5 p2 c5 c2 d.gn d.nodes X ((hm.gn.below (hb0.trans (Below.mono hX hb0.size))).more (zrc hb0.size (Below.size hX))) ((hm.n.below (hb0.trans (Below.mono hX hb0.size))).more (zrc hb0.size (Below.size hX))) (by omega) (by omega) hk.gn (hT.below (hb0.trans (Below.mono hX hb0.size))))
    have R6:=zrj (fun(X:World) (hX:Abv (w.alloc (.cells (dv d p1 p2 p3 p4 p5 p6 c1 c2 c3 c4 c5 c6) 118)) X)=>xva p6 p3 c6 c3 d.gl d.leases X ((hm.gl.below (hb0.trans (Below.mono hX hb0.size))).more (zrc hb0.size (Below.size hX))) ((hm.l.below (hb0.trans (Below.mono hX hb0.size))).more (zrc hb0.size (Below.size hX))) (by omega) (by omega) hk.gl (hT.below (hb0.trans (Below.mono hX hb0.size))))
    have HES:=zrj (show uz3 d=[rowsE JobD.name jobE none d.jobs,rowsE NodeD.name nodeE none d.nodes,rowsE uqb.job uzi none d.leases,goneE (hasJn d.jobs) none d.gj,goneE (hasNn d.nodes) none d.gn,goneE (hasLn d.leases) none d.gl] from rfl)
    generalize rowsE JobD.name jobE none d.jobs=n1 at *
    generalize rowsE NodeD.name nodeE none d.nodes=n2 at *
    generalize rowsE uqb.job uzi none d.leases=n3 at *
    generalize goneE (hasJn d.jobs) none d.gj=n4 at *
    generalize goneE (hasNn d.nodes) none d.gn=n5 at *
    generalize goneE (hasLn d.leases) none d.gl=n6 at *
    clear hm hk hT hcells a1 a2 a3 a4 a5 a6 hff huu
    go_enter func89,ntmps89
    go_wp2_with fail
    generalize w.alloc (.cells (dv d p1 p2 p3 p4 p5 p6 c1 c2 c3 c4 c5 c6) 118)=Wb at *
    refine(W1.out _).mono ?_
    rintro e w' ⟨rfl,rfl⟩
    have x0:=bx.c0
    have x1:=bx.c1
    go_wp2_with fail
    refine(W2.out _).mono ?_
    rintro e w' ⟨rfl,rfl⟩
    have x2:=bx.c2
    have x3:=bx.c3
    have x4:=bx.c4
    have x5:=bx.c5
    have x6:=bx.c6
    have x7:=bx.c7
    go_upto_region 5 with(fail)
    clear x0 x1 x2 x3 x4 x5 x6 x7 W1 W2 hw1 m1 m2
    have A0:Abv Wb Wb.drew:=(zri _ _).drew
    refine wp_region_held_drew (S:=Abv Wb) (by kernel_rfl) A0 (fun hHeld=>?_)
    refine tq 0 ?_ (hv:=by intro w5 hw5;obtain⟨k2,k3,k4,k5,k6,k7⟩:=HQ.out w5 hw5;go_simp;(try with_reducible rfl))
    refine tq 1 ?_ (hv:=by intro w5 hw5;obtain⟨k2,k3,k4,k5,k6,k7⟩:=HQ.out w5 hw5;go_simp;(try with_reducible rfl))
    refine tq 3 ?_ (hv:=by intro w5 hw5;obtain⟨k2,k3,k4,k5,k6,k7⟩:=HQ.out w5 hw5;go_simp;(try with_reducible rfl))
    refine tq 4 ?_ (hv:=by intro w5 hw5;obtain⟨k2,k3,k4,k5,k6,k7⟩:=HQ.out w5 hw5;go_simp;(try with_reducible rfl))
    refine tq 6 ?_ (hv:=by intro w5 hw5;obtain⟨k2,k3,k4,k5,k6,k7⟩:=HQ.out w5 hw5;go_simp;(try with_reducible rfl))
    refine tq 7 ?_ (hv:=by intro w5 hw5;obtain⟨k2,k3,k4,k5,k6,k7⟩:=HQ.out w5 hw5;go_simp;(try with_reducible rfl))
    refine tq 9 ?_ (hv:=by intro w5 hw5;obtain⟨k2,k3,k4,k5,k6,k7⟩:=HQ.out w5 hw5;go_simp;(try with_reducible rfl))
    refine tq 10 ?_ (hv:=by intro w5 hw5;obtain⟨k2,k3,k4,k5,k6,k7⟩:=HQ.out w5 hw5;go_simp;(try with_reducible rfl))
    refine tq 11 ?_ (hv:=by intro w5 hw5;obtain⟨k2,k3,k4,k5,k6,k7⟩:=HQ.out w5 hw5;go_simp;(try with_reducible rfl))
    refine tq 12 ?_ (hv:=by intro w5 hw5;obtain⟨k2,k3,k4,k5,k6,k7⟩:=HQ.out w5 hw5;go_simp;(try with_reducible rfl))
    refine tq 14 ?_ (hv:=by intro w5 hw5;obtain⟨k2,k3,k4,k5,k6,k7⟩:=HQ.out w5 hw5;go_simp;(try with_reducible rfl))
    refine tq 15 ?_ (hv:=by intro w5 hw5;obtain⟨k2,k3,k4,k5,k6,k7⟩:=HQ.out w5 hw5;go_simp;(try with_reducible rfl))
    refine tq 16 ?_ (hv:=by intro w5 hw5;obtain⟨k2,k3,k4,k5,k6,k7⟩:=HQ.out w5 hw5;go_simp;(try with_reducible rfl))
    refine tq 17 ?_ (hv:=by intro w5 hw5;obtain⟨k2,k3,k4,k5,k6,k7⟩:=HQ.out w5 hw5;go_simp;(try with_reducible rfl))
    refine tq 19 ?_ (hv:=by intro w5 hw5;obtain⟨k2,k3,k4,k5,k6,k7⟩:=HQ.out w5 hw5;go_simp;(try with_reducible rfl))
    refine tq 20 ?_ (hv:=by intro w5 hw5;obtain⟨k2,k3,k4,k5,k6,k7⟩:=HQ.out w5 hw5;go_simp;(try with_reducible rfl))
    refine tq 21 ?_ (hv:=by intro w5 hw5;obtain⟨k2,k3,k4,k5,k6,k7⟩:=HQ.out w5 hw5;go_simp;(try with_reducible rfl))
    refine tq 22 ?_ (hv:=by intro w5 hw5;obtain⟨k2,k3,k4,k5,k6,k7⟩:=HQ.out w5 hw5;go_simp;(try with_reducible rfl))
    refine tq 26 ?_ (hv:=by intro w5 hw5;obtain⟨k2,k3,k4,k5,k6,k7⟩:=HQ.out w5 hw5;go_simp;(try with_reducible rfl))
    refine tr 2 rfl (fun K hK=>?_)
    go_simp
    refine(R1.out _ A0).mono ?_
    rintro e u1 ⟨rfl,hb1⟩
    have A1:=Abv.step A0 hb1
    clear hb1
    refine hK.out _ _ A1 (fun hHeld=>?_)
    clear hK K
    (try simp only[Act.put,ma,mb,mc,md,me,mf])
    refine tr 5 rfl (fun K hK=>?_)
    go_simp
    refine(R2.out _ A1).mono ?_
    rintro e u2 ⟨rfl,hb2⟩
    have A2:=Abv.step A1 hb2
    clear hb2
    refine hK.out _ _ A2 (fun hHeld=>?_)
    clear hK K
    (try simp only[Act.put,ma,mb,mc,md,me,mf])
    refine tr 8 rfl (fun K hK=>?_)
    go_simp
    refine(R3.out _ A2).mono ?_
    rintro e u3 ⟨rfl,hb3⟩
    have A3:=Abv.step A2 hb3
    clear hb3
    refine hK.out _ _ A3 (fun hHeld=>?_)
    clear hK K
    (try simp only[Act.put,ma,mb,mc,md,me,mf])
    refine tr 13 rfl (fun K hK=>?_)
    go_simp
    refine(R4.out _ A3).mono ?_
    rintro e u4 ⟨rfl,hb4⟩
    have A4:=Abv.step A3 hb4
    clear hb4
    refine hK.out _ _ A4 (fun hHeld=>?_)
    clear hK K
    (try simp only[Act.put,ma,mb,mc,md,me,mf])
    refine tr 18 rfl (fun K hK=>?_)
    go_simp
    refine(R5.out _ A4).mono ?_
    rintro e u5 ⟨rfl,hb5⟩
    have A5:=Abv.step A4 hb5
    clear hb5
    refine hK.out _ _ A5 (fun hHeld=>?_)
    clear hK K
    (try simp only[Act.put,ma,mb,mc,md,me,mf])
    refine tr 23 rfl (fun K hK=>?_)
    go_simp
    refine(R6.out _ A5).mono ?_
    rintro e u6 ⟨rfl,hb6⟩
    have A6:=Abv.step A5 hb6
    clear hb6
    refine hK.out _ _ A6 (fun hHeld=>?_)
    clear hK K
    (try simp only[Act.put,ma,mb,mc,md,me,mf])
    refine tr 24 rfl (fun K hK=>?_)
    go_simp
    have bE:=Blk.new u6 30 #[.int .i64 (n1:Int),.int .i64 (n2:Int),.int .i64 (n3:Int),.int .i64 (n4:Int),.int .i64 (n5:Int),.int .i64 (n6:Int)]
    have A7:Abv Wb (u6.alloc (.cells #[.int .i64 (n1:Int),.int .i64 (n2:Int),.int .i64 (n3:Int),.int .i64 (n4:Int),.int .i64 (n5:Int),.int .i64 (n6:Int)] 30)):=Below.alloc A6 A6.size _
    refine hK.out _ _ A7 (fun hHeld=>?_)
    clear hK K
    (try simp only[Act.put,ma,mb,mc,md,me,mf])
    refine tq 25 ?_
    refine wpAnyH_done (by kernel_rfl) ?_ _
    generalize u6.alloc _=W7 at *
    generalize u6.heap.size=ge at *
    have hB7:=hb0.trans (Below.mono A7 hb0.size)
    clear A0 A1 A2 A3 A4 A5 A6 A7 R1 R2 R3 R4 R5 R6 HQ
    have bE:Blk W7 ge 30 ((uz3 d).map fun n:Nat=>Value.int .i64 (n:Int)).toArray:=by rw[HES.out];exact bE
    have hlen:(uz3 d).length=6:=by rw[HES.out];rfl
    have HE:=zrj (HDE.out)
    generalize uz3 d=es at *
    clear HES HDE
    go_wp2_with fail
    go_loopw [70] (fun i wr=>∃k:Nat,k<=6/\i=.int .i64 k/\wr=W7/\Hid (uxn d=vx2 (es.drop k))) (fun i _=>6-(intOf i).toNat)
    case atStart=>exact⟨0,by omega,rfl,rfl,HE⟩
    case round =>
     obtain⟨k,hk,rfl,rfl,HR⟩:=hrel
     by_cases hlt:k<6
     ·have hx:es[k]?=some es[k]:=zrd (by omega)
      have hdr:=vx1 es k _ hx
      generalize es[k]=n at *
      have e0:wr.cell? ⟨ge,k,none⟩=some (.int .i64 (n:Int)):=by rw[bE.cell];simp[hx]
      have HR0:=HR.out
      rw[hdr] at HR0
      have hf:vx2 (n::es.drop (k+1))=if n≠0 then n else vx2 (es.drop (k+1)):=rfl
      rw[hf] at HR0
      have hk0:(0:Int)<=(k:Int):=by omega
      have hk1:(k:Int)<6:=by omega
      by_cases hn:n=0
      ·rw[if_neg (by simpa using hn)] at HR0
       have HR1:=zrj HR0
       have hz:((n:Int) != 0)=false:=by rw[hn];rfl
       clear HR0 HR hdr hx hf hn
       go_wp2_with fail
       go_roundw
       case rel=>exact⟨k+1,by omega,by go_num,by first | rfl | trivial,HR1⟩
       case measure=>simp[intOf];omega
      ·rw[if_pos hn] at HR0
       have HR1:=zrj HR0
       have hz:((n:Int) != 0)=true:=by rw[bne_iff_ne];omega
       clear HR0 HR hdr hx hf hn
       go_wp2_with fail
       go_ret
       exact⟨by rw[HR1.out];rfl,hB7⟩
     ·obtain rfl:k=6:=by omega
      have HR0:=HR.out
      rw[List.drop_eq_nil_of_le (by omega)] at HR0
      have HR1:=zrj HR0
      clear HR0 HR
      go_wp2_with fail
      go_ret
      exact⟨by rw[HR1.out];rfl,hB7⟩
   ·rw[if_pos hlen] at HDE
    have HR1:=zrj HDE.out
    clear hm hk hT HDE hff huu
    by_cases g1:(40:Int)<max (max (max (d.jobs.length:Int) d.leases.length) d.gj.length) d.gl.length
    ·skip
     clear hlen
     go_enter func89,ntmps89
     go_wp2_with fail
     generalize w.alloc (.cells (dv d p1 p2 p3 p4 p5 p6 c1 c2 c3 c4 c5 c6) 118)=Wb at *
     refine(W1.out _).mono ?_
     rintro e w' ⟨rfl,rfl⟩
     have x0:=bx.c0
     have x1:=bx.c1
     go_wp2_with fail
     refine(W2.out _).mono ?_
     rintro e w' ⟨rfl,rfl⟩
     have x2:=bx.c2
     have x3:=bx.c3
     have x4:=bx.c4
     have x5:=bx.c5
     have x6:=bx.c6
     have x7:=bx.c7
     go_wp2_with fail
     go_ret
     exact⟨by rw[HR1.out];rfl,hb0⟩
    ·have g2:(20:Int)<max (d.nodes.length:Int) d.gn.length:=by
      rcases Int.lt_or_le (20:Int) (max (d.nodes.length:Int) d.gn.length) with h | h
      ·exact h
      ·exact absurd ⟨⟨by omega,by omega,by omega,by omega⟩,by omega,by omega⟩ hlen
     clear hlen
     go_enter func89,ntmps89
     go_wp2_with fail
     generalize w.alloc (.cells (dv d p1 p2 p3 p4 p5 p6 c1 c2 c3 c4 c5 c6) 118)=Wb at *
     refine(W1.out _).mono ?_
     rintro e w' ⟨rfl,rfl⟩
     have x0:=bx.c0
     have x1:=bx.c1
     go_wp2_with fail
     refine(W2.out _).mono ?_
     rintro e w' ⟨rfl,rfl⟩
     have x2:=bx.c2
     have x3:=bx.c3
     have x4:=bx.c4
     have x5:=bx.c5
     have x6:=bx.c6
     have x7:=bx.c7
     go_wp2_with fail
     go_ret
     exact⟨by rw[HR1.out];rfl,hb0⟩
  ·have hu2:uxg d.upto (d.frm+1) 1099511627776=false:=by simpa using hu
   rw[hu2] at W2
   have hrev:¬revOk d:=fun h=>hu (uq2.2 ⟨h.2.1,h.2.2⟩)
   rw[if_pos hrev] at HDE
   have HR1:=zrj HDE.out
   clear hm hk hT HDE hff hf hu hu2 hrev
   go_enter func89,ntmps89
   go_wp2_with fail
   generalize w.alloc (.cells (dv d p1 p2 p3 p4 p5 p6 c1 c2 c3 c4 c5 c6) 118)=Wb at *
   refine(W1.out _).mono ?_
   rintro e w' ⟨rfl,rfl⟩
   have x0:=bx.c0
   have x1:=bx.c1
   go_wp2_with fail
   refine(W2.out _).mono ?_
   rintro e w' ⟨rfl,rfl⟩
   go_wp2_with fail
   go_ret
   exact⟨by rw[HR1.out];rfl,hb0⟩
 ·have hf2:uxg d.frm 0 1099511627776=false:=by simpa using hf
  rw[hf2] at W1
  have hrev:¬revOk d:=fun h=>hf (uq2.2 h.1)
  rw[if_pos hrev] at HDE
  have HR1:=zrj HDE.out
  clear hm hk hT HDE hf hf2 hrev
  go_enter func89,ntmps89
  go_wp2_with fail
  generalize w.alloc (.cells (dv d p1 p2 p3 p4 p5 p6 c1 c2 c3 c4 c5 c6) 118)=Wb at *
  refine(W1.out _).mono ?_
  rintro e w' ⟨rfl,rfl⟩
  go_wp2_with fail
  go_ret
  exact⟨by rw[HR1.out];rfl,hb0⟩
end Go.Proofs.YtknmnhleicakhaaGreatDoor
