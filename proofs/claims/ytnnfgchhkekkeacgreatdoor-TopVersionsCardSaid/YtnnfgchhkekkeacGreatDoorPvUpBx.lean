/- Lemmas.
-/
import Derived.Test.YtnnfgchhkekkeacGreatDoorPvUpA
import Derived.Test.YtnnfgchhkekkeacGreatDoorPvDec
set_option linter.all false
set_option maxHeartbeats 16000000
set_option maxRecDepth 100000
namespace Go.Proofs.YtnnfgchhkekkeacGreatDoor
open Go.Proofs.Tryz
open Go.RowKit
def upBR (b:Zlu) (a c:Int):Zlu×Nat :=
 if decide (1<=a/\a<=c/\c<=3)=false then([],1) else if(decT a b).2≠0 then([],(decT a b).2) else encR c (upTo (decT a b).1 a.toNat (c-a).toNat)
theorem upBytes_any (b:Zba) (a c:Int) (w:World) (hb:b.size<=4611686018427387904) (hT:Tabs w) :
  Calls prog 7 #[.string b,.int .i64 a,.int .i64 c] w fun e w'=>e=.returned (.tuple #[.string (bstr (upBR b.data.toList a c).1),.int .i64 ((upBR b.data.toList a c).2:Int)])/\Below w.heap.size w w':=by
 have hzs:=uq4
 have HW:=zrj (fun W:World=>vyy a c W)
 have HT:=zrj hT
 have HBS:=zrj hb
 clear hT hb
 cases hd:decide (1<=a/\a<=c/\c<=3)
 ·have hR:upBR b.data.toList a c=([],1):=by unfold upBR;rw[hd,if_pos rfl]
  have hw:=HW.out
  rw[hd] at hw
  have HW2:=zrj hw
  have HR:=zrj hR
  generalize upBR b.data.toList a c=r at *
  clear hw hR hd HW
  go_enter func7,ntmps7
  go_wp2_with fail
  refine(HW2.out _).mono ?_
  rintro e w' ⟨rfl,rfl⟩
  go_wp2_with fail
  go_ret2
  exact⟨by rw[HR.out];rfl,zri _ _⟩
 ·obtain⟨h1,h2,h3⟩:=of_decide_eq_true hd
  obtain⟨m,rfl⟩:=Int.eq_ofNat_of_zero_le (show 0<=a by omega)
  obtain⟨n,rfl⟩:=Int.eq_ofNat_of_zero_le (show 0<=c by omega)
  have hw:=HW.out
  rw[hd] at hw
  have HW2:=zrj hw
  have hR:upBR b.data.toList m n=if(decT m b.data.toList).2≠0 then([],(decT m b.data.toList).2) else encR n (upTo (decT m b.data.toList).1 m (n-m)):=by
   unfold upBR
   rw[hd,if_neg (by simp),show((m:Int)).toNat=m by omega,show((n:Int)-(m:Int)).toNat=n-m by omega]
  have HR:=zrj hR
  generalize upBR b.data.toList m n=r at *
  clear hw hR hd HW
  go_enter func7,ntmps7
  go_wp2_with fail
  refine(HW2.out _).mono ?_
  rintro e w' ⟨rfl,rfl⟩
  go_wp2_with fail
  refine(vw2 b m w HBS.out HT.out).mono ?_
  rintro e w1 ⟨t,er,q1,q2,q3,d1,d2,d3,rfl,hmt,_,hb1,hdt⟩
  have hr:=HR.out
  have hck:(decT m b.data.toList).2=0->uqr (decT m b.data.toList).1=0:=fun h=>(wxd h).2.1
  rw[hdt] at hr hck
  have hB2:=hb1.alloc hb1.size (.cells #[.int .i64 t.rev,.slice q1 t.jobs.length d1,.slice q2 t.nodes.length d2,.slice q3 t.leases.length d3] 26)
  have hb2:=zsa w1 (.cells #[.int .i64 t.rev,.slice q1 t.jobs.length d1,.slice q2 t.nodes.length d2,.slice q3 t.leases.length d3] 26)
  by_cases he:er=0
  ·subst he
   rw[if_neg (by simp)] at hr
   have hF:=(uxk t).1 (hck rfl)
   have z0:(((0:Nat):Int) != 0)=false:=rfl
   have bt:=Blk.new w1 26 #[.int .i64 t.rev,.slice q1 t.jobs.length d1,.slice q2 t.nodes.length d2,.slice q3 t.leases.length d3]
   have hS:=vjy t m n (by omega) (by omega) (by omega) q1 q2 q3 d1 d2 d3 _ ((hmt.below hb2).more hb2.size) (by have:=hF.nj;omega) (by have:=hF.nn;omega) (by have:=hF.nl;omega)
   have hFu:=hF.upTo m (n-m)
   have HSZ:=zrj hFu.sz
   have HS:=zrj hS
   have HR2:=zrj hr
   generalize upTo t m (n-m)=u at *
   clear hmt hb1 hb2 hS hr hck hdt HR hF hFu
   go_upto_region 4 with(refine uqh rfl _ _ _ rfl rfl 26 _ #[.int .i64 t.rev,.slice q1 t.jobs.length d1,.slice q2 t.nodes.length d2,.slice q3 t.leases.length d3] rfl uqg rfl (uzj _ _ _ _ _ _ _ _ _ _) ?_)
   generalize hg:w1.heap.size=g at *
   generalize w1.alloc _=w2 at *
   go_wp2_with(refine uqa rfl _ _ rfl g rfl _ _ bt _ underlying26 rfl uqg ?_)
   refine HS.out.mono ?_
   rintro e w3 ⟨r1,r2,r3,g1,g2,g3,rfl,hO3,hb3⟩
   have hB3:=bthen hB2 hb3
   have hE:=vxv u n r1 r2 r3 g1 g2 g3 w3 hO3.m HSZ.out (HT.out.below hB3)
   have HE:=zrj hE
   clear hE hO3 hb3 HS
   go_wp2_with fail
   refine HE.out.mono ?_
   rintro e w4 ⟨rfl,hb4⟩
   go_wp2_with fail
   go_ret2
   exact⟨by rw[HR2.out];rfl,bthen hB3 hb4⟩
  ·have z0:((er:Int) != 0)=true:=by rw[bne_iff_ne];omega
   rw[if_pos he] at hr
   have HR2:=zrj hr
   clear hmt hb1 hb2 hr hck hdt HR
   go_wp2_with(refine uqh rfl _ _ _ rfl rfl 26 _ #[.int .i64 t.rev,.slice q1 t.jobs.length d1,.slice q2 t.nodes.length d2,.slice q3 t.leases.length d3] rfl uqg rfl (uzj _ _ _ _ _ _ _ _ _ _) ?_)
   go_ret2
   exact⟨by rw[HR2.out];rfl,hB2⟩
end Go.Proofs.YtnnfgchhkekkeacGreatDoor
