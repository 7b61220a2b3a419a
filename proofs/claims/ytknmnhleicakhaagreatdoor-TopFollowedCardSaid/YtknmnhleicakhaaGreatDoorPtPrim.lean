/- Lemmas.
-/
import Derived.Test.YtknmnhleicakhaaGreatDoorPtBase
import Derived.Laws.BitsAllLaws
import Derived.Laws.Bits64b
set_option linter.all false
set_option maxHeartbeats 16000000
set_option maxRecDepth 100000
namespace Go.Proofs.YtknmnhleicakhaaGreatDoor
open Go.Proofs.Tryz
open Go.RowKit
def rdN:Nat->Nat->Nat->Zlu->Nat×Nat×Nat
 | 0,_,_,_=>(0,0,4)
 | _+1,_,_,[]=>(0,0,3)
 | f+1,i,n,c::r =>
  if(i=9/\1<c.toNat)\/(0<i/\c.toNat=0) then(0,0,4)
  else if c.toNat<128 then(n+c.toNat % 128*2 ^ (7*i),i+1,0) else rdN f (i+1) (n+c.toNat % 128*2 ^ (7*i)) r
def rd (l:Zlu):Nat×Nat×Nat:=rdN 10 0 0 l
theorem wwn (m c k:Nat) (hk:k<=9) (hm:m<2 ^ (7*k)) (hc:c<256) (h9:k=9->c<=1) :
  bits .or .u64 (m:Int) (IntKind.u64.wrap (IntKind.u64.wrap (bits .and .u8 (c:Int) 127)*2 ^ (7*k)))=((m+c % 128*2 ^ (7*k):Nat):Int):=by
 have h1:bits .and .u8 (c:Int) 127=((c % 128:Nat):Int):=by
  have:=u8_and_nat c 127 hc (by omega)
  rw[show((127:Nat):Int)=127 from rfl] at this
  rw[this]
  have:c &&& 127=c % 128:=Nat.and_two_pow_sub_one_eq_mod c 7
  rw[this]
 have hp:2 ^ (7*k)<=2 ^ 63:=Nat.pow_le_pow_right (by omega) (by omega)
 have hb:c % 128*2 ^ (7*k)<18446744073709551616:=by
  by_cases h:k=9
  ·subst h
   have:c<=1:=h9 rfl
   have h2:c % 128<=1:=by omega
   have h3:c % 128*2 ^ (7*9)<=1*2 ^ (7*9):=Nat.mul_le_mul_right _ h2
   omega
  ·have hp:2 ^ (7*k)<=2 ^ 56:=Nat.pow_le_pow_right (by omega) (by omega)
   have h2:c % 128<=127:=by omega
   have h3:c % 128*2 ^ (7*k)<=127*2 ^ 56:=Nat.mul_le_mul h2 hp
   omega
 rw[h1]
 have e1:IntKind.u64.wrap ((c % 128:Nat):Int)=((c % 128:Nat):Int):=by rw[IntKind.wrap_u64];omega
 have e2:((c % 128:Nat):Int)*2 ^ (7*k)=((c % 128*2 ^ (7*k):Nat):Int):=by
  rw[Int.natCast_mul,Int.natCast_pow];rfl
 rw[e1,e2,IntKind.wrap_u64]
 have e3:((c % 128*2 ^ (7*k):Nat):Int) % 18446744073709551616=((c % 128*2 ^ (7*k):Nat):Int):=by omega
 rw[e3,bits_or_u64_nat _ _ (by omega) hb]
 have:=Nat.two_pow_add_eq_or_of_lt hm (c % 128)
 rw[Nat.or_comm,Nat.mul_comm,<- this,Nat.add_comm]
theorem vyx (m c k:Nat) (hm:m<2 ^ (7*k)):m+c % 128*2 ^ (7*k)<2 ^ (7*(k+1)):=by
 have e:2 ^ (7*(k+1))=128*2 ^ (7*k):=by rw[Nat.mul_add,Nat.pow_add];omega
 have h2:c % 128<=127:=by omega
 have h3:c % 128*2 ^ (7*k)<=127*2 ^ (7*k):=Nat.mul_le_mul_right _ h2
 omega
theorem rd_bad (k c:Nat) (h:(k=9/\1<c)\/(0<k/\c=0)) :
  (((k:Int) == 9)=true/\1<c)\/(((k:Int) == 9)=true/\c<=1/\0<k/\((c:Int) == 0)=true) \/
  (((k:Int) == 9)=false/\0<k/\((c:Int) == 0)=true):=by
 simp only[beq_iff_eq,zrf];omega
theorem rd_good (k c:Nat) (h:¬((k=9/\1<c)\/(0<k/\c=0))) :
  (((k:Int) == 9)=true/\c<=1/\0<k/\((c:Int) == 0)=false) \/
  (((k:Int) == 9)=false/\0<k/\((c:Int) == 0)=false)\/(((k:Int) == 9)=false/\k<=0):=by
 simp only[beq_iff_eq,zrf];omega
def hiB (n:Nat):UInt8:=UInt8.ofNat (n % 128+128)
theorem uwe (n:Nat):(hiB n).toNat=n % 128+128:=by unfold hiB;simp only[UInt8.toNat_ofNat'];omega
def putN (n:Nat):Zlu:=if h:n<128 then[UInt8.ofNat n] else hiB n::putN (n / 128)
termination_by n
theorem vkn (n:Nat):bits .or .u8 ((n:Int) % 256) 128=((hiB n).toNat:Int):=by
 have e1:(n:Int) % 256=((n % 256:Nat):Int):=by omega
 have:=u8_or_nat (n % 256) 128 (by omega) (by omega)
 rw[show((128:Nat):Int)=128 from rfl] at this
 rw[e1,this]
 congr 1
 have h3:n % 256 ||| 128=n % 128+128:=by
  have h4:n % 256=128*(n / 128 % 2)+n % 128:=by omega
  rcases Nat.mod_two_eq_zero_or_one (n / 128) with h5 | h5
  ·rw[h4,h5]
   have:=Nat.two_pow_add_eq_or_of_lt (i:=7) (show n % 128<2 ^ 7 by omega) 1
   rw[Nat.or_comm];simp at this ⊢;omega
  ·rw[h4,h5]
   have:=Nat.two_pow_add_eq_or_of_lt (i:=7) (show n % 128<2 ^ 7 by omega) 1
   simp only[Nat.mul_one] at this ⊢
   rw[show(2:Nat) ^ 7=128 from rfl] at this
   rw[this,Nat.or_comm 128,Nat.or_assoc,Nat.or_self,Nat.or_comm,<- this];omega
 rw[h3,uwe]
theorem vkm (n:Nat) (h:n<128):(n:Int)=((UInt8.ofNat n).toNat:Int):=by
 simp only[UInt8.toNat_ofNat'];omega
theorem ukx (n:Nat) (h:n<128):putN n=[UInt8.ofNat n]:=by rw[putN,dif_pos h]
theorem uvo (n:Nat) (h:¬n<128):putN n=hiB n::putN (n / 128):=by rw[putN,dif_neg h]
theorem ukm (n k:Nat) (h:n<128 ^ (k+1)):(putN n).length<=k+1:=by
 induction k generalizing n with
 | zero=>rw[ukx n (by omega)];simp
 | succ k ih =>
  by_cases h1:n<128
  ·rw[ukx n h1];simp
  ·rw[uvo n h1]
   have:=ih (n / 128) (by rw[Nat.pow_succ] at h;exact Nat.div_lt_of_lt_mul (by rw[Nat.mul_comm];exact h))
   simp only[List.length_cons];omega
theorem uqm (n:Nat) (h:n<18446744073709551616):(putN n).length<=10:=ukm n 9 (by omega)
theorem vk4 (n:Nat):0<(putN n).length:=by
 by_cases h:n<128
 ·rw[ukx n h];simp
 ·rw[uvo n h];simp
def zigI (n:Int):Int:=if n<0 then -2*n-1 else 2*n
def zagI (n:Nat):Int:=if n % 2=0 then((n / 2:Nat):Int) else-(((n+1) / 2:Nat):Int)
theorem wkq (n:Int) (h1 : -9223372036854775808<=n) (h:n<0) :
  bits .xor .u64 (IntKind.u64.wrap (IntKind.u64.wrap n*2)) (IntKind.u64.wrap (n / 9223372036854775808))=zigI n:=by
 have e1:n / 9223372036854775808 = -1:=by omega
 have e2:IntKind.u64.wrap (-1)=((18446744073709551615:Nat):Int):=by rw[IntKind.wrap_u64];omega
 have e3:IntKind.u64.wrap (IntKind.u64.wrap n*2)=(((2*n+18446744073709551616).toNat:Nat):Int):=by
  simp only[IntKind.wrap_u64];omega
 rw[e1,e2,e3,bits_xor_u64_nat _ _ (by omega) (by omega)]
 have hx:(2*n+18446744073709551616).toNat ^^^ 18446744073709551615=18446744073709551615-(2*n+18446744073709551616).toNat:=by
  have h:=congrArg BitVec.toNat (BitVec.xor_allOnes (x:=BitVec.ofNat 64 (2*n+18446744073709551616).toNat))
  rw[BitVec.toNat_xor,BitVec.toNat_not,BitVec.toNat_ofNat,BitVec.toNat_allOnes,Nat.mod_eq_of_lt (by omega)] at h
  simpa using h
 rw[hx];unfold zigI;rw[if_pos h];omega
theorem wkr (n:Int) (h2:n<=9223372036854775807) (h:0<=n):bits .xor .u64 (n*2) (n / 9223372036854775808)=zigI n:=by
 have e1:n / 9223372036854775808=((0:Nat):Int):=by omega
 have e3:n*2=(((2*n).toNat:Nat):Int):=by omega
 rw[e1,e3,bits_xor_u64_nat _ _ (by omega) (by omega),Nat.xor_zero]
 unfold zigI;rw[if_neg (by omega)];omega
theorem zagI_val (n:Nat) (h:n<=18446744073709551615):bits .xor .i64 ((n:Int) / 2) (wrap64 (-wrap64 (bits .and .u64 (n:Int) 1)))=zagI n:=by
 have e0:bits .and .u64 (n:Int) 1=((n % 2:Nat):Int):=by
  have:=bits_and_u64_nat n 1 (by omega) (by omega)
  rw[show((1:Nat):Int)=1 from rfl] at this
  rw[this,Nat.and_one_is_mod]
 rw[e0]
 have hn:(n:Int) / 2=((n / 2:Nat):Int):=by omega
 have hB:(BitVec.ofInt 64 ((n / 2:Nat):Int)).toNat=n / 2:=by rw[BitVec.ofInt_natCast,BitVec.toNat_ofNat];omega
 unfold zagI
 rcases Nat.mod_two_eq_zero_or_one n with h2 | h2
 ·rw[h2,if_pos rfl,hn]
  have e1:wrap64 (-wrap64 ((0:Nat):Int))=0:=by simp[wrap64]
  rw[e1]
  show IntKind.i64.wrap ((BitVec.ofInt 64 ((n / 2:Nat):Int) ^^^ BitVec.ofInt 64 0).toNat:Int)=_
  rw[BitVec.toNat_xor,hB]
  have:(BitVec.ofInt 64 0).toNat=0:=by decide
  rw[this,Nat.xor_zero,IntKind.wrap_i64];omega
 ·rw[h2,if_neg (by omega),hn]
  have e1:wrap64 (-wrap64 ((1:Nat):Int)) = -1:=by simp[wrap64]
  rw[e1]
  show IntKind.i64.wrap ((BitVec.ofInt 64 ((n / 2:Nat):Int) ^^^ BitVec.ofInt 64 (-1)).toNat:Int)=_
  have e4:BitVec.ofInt 64 (-1)=BitVec.allOnes 64:=by decide
  rw[e4,BitVec.xor_allOnes,BitVec.toNat_not,hB,IntKind.wrap_i64];omega
theorem zag_zig (n:Int):zagI (zigI n).toNat=n:=by unfold zagI zigI;split <;> split <;> omega
theorem xy3 (n:Nat):zigI (zagI n)=n:=by unfold zagI zigI;split <;> split <;> omega
theorem vzo (n:Int):0<=zigI n:=by unfold zigI;split <;> omega
theorem xy1 (n:Int) (h1 : -9223372036854775808<=n) (h2:n<=9223372036854775807):zigI n<=18446744073709551615:=by unfold zigI;split <;> omega
theorem uww (s:Zba) (w:World) :
  Calls prog 68 #[.string s] w fun e w'=>e=.returned (.tuple #[.int .u64 (rd s.data.toList).1,.int .i64 (rd s.data.toList).2.1,.int .i64 (rd s.data.toList).2.2])/\w=w':=by
 go_enter func68,ntmps68
 go_wp2
 go_loop [5,8] (fun n i=>∃k m:Nat,k<=s.size/\k<=10/\m<2 ^ (7*k)/\Hid (rd s.data.toList=rdN (10-k) k m (s.data.toList.drop k))/\i=.int .i64 k/\n=.int .u64 m) (fun _ i=>10-(intOf i).toNat)
 case atStart=>exact⟨0,0,Nat.zero_le _,Nat.zero_le _,by simp,by simp[Hid,rd],rfl,rfl⟩
 case round =>
  obtain⟨k,m,hk,hk2,hm,H,rfl,rfl⟩:=hrel
  by_cases hlt:k<10
  ·have hf:10-k=(10-(k+1))+1:=by omega
   by_cases hk:k<s.size
   ·have H1:=H.out
    rw[vvn s k hk,hf,rdN] at H1
    have hc:=(s[k]).toNat_lt
    have hv:(k=9->(s[k]).toNat<=1)->_:=fun h9=>wwn m (s[k]).toNat k (by omega) hm hc h9
    have hl:=vyx m (s[k]).toNat k hm
    by_cases hbad:(k=9/\1<(s[k]).toNat)\/(0<k/\(s[k]).toNat=0)
    ·rw[if_pos hbad] at H1
     have HH:=zrj H1
     have hb:=rd_bad _ _ hbad
     clear H H1 hbad hv hl hf hm
     rcases hb with⟨t1,t2⟩ | ⟨t1,t2,t3,t4⟩ | ⟨t1,t2,t3⟩
     all_goals
      go_wp2
      refine bodyPost_ret (results_tmp3 rfl _ _ _) rfl ?_
      exact⟨by rw[HH.out];rfl,rfl⟩
    ·rw[if_neg hbad] at H1
     have HV:=zrj (hv (by omega))
     have HL:=zrj hl
     have hg:=rd_good _ _ hbad
     by_cases h128:(s[k]).toNat<128
     ·rw[if_pos h128] at H1
      have HH:=zrj H1
      clear H H1 hbad hv hl hf hm
      rcases hg with⟨t1,t2,t3,t4⟩ | ⟨t1,t2,t3⟩ | ⟨t1,t2⟩
      all_goals
       go_wp2
       refine bodyPost_ret (results_tmp3 rfl _ _ _) rfl ?_
       exact⟨by rw[HH.out];exact congrArg Ending.returned (congrArg (fun x=>Value.tuple #[.int .u64 x,.int .i64 ((k:Int)+1),.int .i64 0]) HV.out),rfl⟩
     ·rw[if_neg h128] at H1
      have HH:=zrj H1
      clear H H1 hbad hv hl hf hm
      rcases hg with⟨t1,t2,t3,t4⟩ | ⟨t1,t2,t3⟩ | ⟨t1,t2⟩
      ·exfalso;omega
      all_goals
       go_wp2
       go_round
       case rel=>exact⟨k+1,_,by omega,by omega,HL.out,HH,by go_num,congrArg (Value.int .u64) HV.out⟩
       case measure=>simp[intOf];omega
   ·have H1:=H.out
    rw[List.drop_of_length_le (by simpa using hk),hf,rdN] at H1
    have HH:=zrj H1
    have h2:((k:Int) == (s.size:Int))=true:=by simp;omega
    clear H H1 hf hm
    go_wp2
    refine bodyPost_ret (results_tmp3 rfl _ _ _) rfl ?_
    exact⟨by rw[HH.out];rfl,rfl⟩
  ·obtain rfl:k=10:=by omega
   have HH:Hid (rd s.data.toList=(0,0,4)):=H
   clear H
   go_wp2
   refine bodyPost_ret (results_tmp3 rfl _ _ _) rfl ?_
   exact⟨by rw[HH.out];rfl,rfl⟩
theorem vq1:(prog.info? 5).map (fun i=>(i.zero,i.size,i.bytes))=some (some (.int .u8 0),1,1):=by kernel_rfl
theorem wwk (base:Nat) (v:Value) (l:Zlu) (n:Nat) (w:World) (hn:n<18446744073709551616) (hl:l.length<=70368744177664) (hbuf:Buf 5 w base v l) (hbase:base<=w.heap.size) :
  Calls prog 64 #[v,.int .u64 n] w fun e w'=>∃v',e=.returned v'/\Buf 5 w' base v' (l++putN n)/\Below base w w':=by
 have hn':=uqm n hn
 go_enter func64,ntmps64
 go_wp2
 go_loopw [0,1] (fun b i wr=>∃(v':Value) (l':Zlu) (m:Nat),b=v'/\i=.int .u64 m/\m<18446744073709551616/\Buf 5 wr base v' l'/\Hid (l'++putN m=l++putN n)/\Below base w wr/\l'.length<=l.length+10) (fun _ i _=>(intOf i).toNat)
 case atStart=>exact⟨v,l,n,rfl,rfl,hn,hbuf,rfl,zri _ _,by omega⟩
 case round =>
  obtain⟨v',l',m,rfl,rfl,hm,hb,H,hbel,hlen⟩:=hrel
  have H1:=H.out
  by_cases h128:m<128
  ·have hv:=zrj (vkm m h128)
   rw[ukx m h128] at H1
   have HH:=zrj H1
   clear H1 H
   go_wp2_with(at_builtin;refine uyo _ rfl _ _ 62 rfl 5 underlying62 vq1 base _ l' rfl (hb.alloc _) ⟨wr.heap.size,0,none⟩ 1 1 [UInt8.ofNat m] rfl rfl (vqh _ _ _ _ (congrArg (fun x=>[Value.int .u8 x]) hv.out)) (by simp;omega) (by simp;have:=hbel.size;omega) ?_)
   intro v2 w2 hb2 hbel2
   go_wp2
   go_ret
   exact⟨v2,rfl,HH.out ▸ hb2,(hbel.alloc (by have:=hbel.size;omega) _).trans hbel2⟩
  ·have hv:=zrj (vkn m)
   rw[uvo m h128] at H1
   have HH:=zrj H1
   clear H1 H
   go_wp2_with(at_builtin;refine uyo _ rfl _ _ 62 rfl 5 underlying62 vq1 base _ l' rfl (hb.alloc _) ⟨wr.heap.size,0,none⟩ 1 1 [hiB m] rfl rfl (vqh _ _ _ _ (congrArg (fun x=>[Value.int .u8 x]) hv.out)) (by simp;omega) (by simp;have:=hbel.size;omega) ?_)
   intro v2 w2 hb2 hbel2
   go_wp2
   go_roundw
   case rel=>exact⟨v2,l'++[hiB m],m / 128,rfl,by go_num,by omega,hb2,by show _=_;rw[zrh];exact HH.out,(hbel.alloc (by have:=hbel.size;omega) _).trans hbel2,by have:=congrArg List.length HH.out;have h3:=vk4 (m / 128);simp only[zrb,List.length_cons,List.length_nil] at this ⊢;omega⟩
   case measure=>simp[intOf];omega
theorem vjw (n:Nat) (w:World) (hn:n<18446744073709551616) :
  Calls prog 42 #[.int .u64 n] w fun e w'=>e=.returned (.string ⟨(putN n).toArray⟩)/\Below w.heap.size w w':=by
 go_enter func42,ntmps42
 go_wp2_with(go_at_call 64;refine(wwk w.heap.size _ [] n _ hn (by simp) (Buf.nil _ _ _) (zra _)).mono ?_;rintro e w1 ⟨v1,rfl,hb,hbel⟩;have hcv:=uzu (P:=prog) (U:=5) (src:=62) (dst:=9) underlying62 underlying5 underlying9 hb)
 go_ret
 exact⟨by simp,hbel⟩
theorem pow7 (i:Nat):2 ^ (7*(i+1))=128*2 ^ (7*i):=by rw[Nat.mul_add,Nat.pow_add];omega
theorem split7 (m p:Nat):m % 128*p+m / 128*(128*p)=m*p:=by
 have h:(128*(m / 128)+m % 128)*p=m*p:=by rw[Nat.div_add_mod]
 rw[Nat.add_mul] at h
 have:m / 128*(128*p)=128*(m / 128)*p:=by rw[<- Nat.mul_assoc,Nat.mul_comm (m / 128) 128]
 omega
theorem vkp (i m:Nat) (h9:9<=i) (h:m*2 ^ (7*i)<18446744073709551616):m<=1:=by
 have hp:2 ^ 63<=2 ^ (7*i):=Nat.pow_le_pow_right (by omega) (by omega)
 rcases Nat.lt_or_ge m 2 with h2 | h2
 ·omega
 ·have:=Nat.mul_le_mul h2 hp
  omega
theorem xwn:∀(f i acc m:Nat) (more:Zlu),i+f=10->acc+m*2 ^ (7*i)<18446744073709551616->(0<i->m≠0) ->
  rdN f i acc (putN m++more)=(acc+m*2 ^ (7*i),i+(putN m).length,0)
 | 0,i,acc,m,more,hf,hlt,hm=>by
  exfalso
  have h1:m≠0:=hm (by omega)
  have hp:2 ^ 70<=2 ^ (7*i):=Nat.pow_le_pow_right (by omega) (by omega)
  have:=Nat.mul_le_mul (Nat.pos_of_ne_zero h1) hp
  omega
 | f+1,i,acc,m,more,hf,hlt,hm=>by
  by_cases h:m<128
  ·rw[ukx m h]
   simp only[List.cons_append,List.nil_append,rdN,List.length_cons,List.length_nil]
   have hc:(UInt8.ofNat m).toNat=m:=by simp only[UInt8.toNat_ofNat'];omega
   rw[hc,if_neg,if_pos h,Nat.mod_eq_of_lt h]
   rintro(⟨h9,h1⟩ | ⟨h0,h1⟩)
   ·have:=vkp i m (by omega) (by omega);omega
   ·exact hm h0 h1
  ·rw[uvo m h]
   simp only[List.cons_append,rdN,List.length_cons]
   have hi:i<9:=by
    rcases Nat.lt_or_ge i 9 with h1 | h1
    ·exact h1
    ·have:=vkp i m h1 (by omega);omega
   rw[uwe,if_neg (by omega),if_neg (by omega)]
   have e1:(m % 128+128) % 128=m % 128:=by omega
   rw[e1]
   have hs:=split7 m (2 ^ (7*i))
   rw[xwn f (i+1) _ (m / 128) more (by omega) (by rw[pow7];omega) (fun _=>by omega),pow7]
   have:acc+m % 128*2 ^ (7*i)+m / 128*(128*2 ^ (7*i))=acc+m*2 ^ (7*i):=by omega
   rw[this]
   simp only[Prod.mk.injEq,true_and,and_true];omega
theorem vz3 (n:Nat) (more:Zlu) (h:n<18446744073709551616):rd (putN n++more)=(n,(putN n).length,0):=by
 have:=xwn 10 0 0 n more rfl (by simpa using h) (by omega)
 simpa[rd] using this
theorem xwm:∀(f i acc:Nat) (l:Zlu),(rdN f i acc l).2.2≠0->(rdN f i acc l)=(0,0,3)\/rdN f i acc l=(0,0,4)
 | 0,i,acc,l,h=>.inr rfl
 | f+1,i,acc,[],h=>.inl rfl
 | f+1,i,acc,c::r,h=>by
  simp only[rdN] at h ⊢
  split
  ·exact .inr rfl
  ·rename_i h1
   rw[if_neg h1] at h
   split
   ·rename_i h2;rw[if_pos h2] at h;exact absurd rfl h
   ·rename_i h2;rw[if_neg h2] at h;exact xwm _ _ _ _ h
theorem rd_err (l:Zlu) (h:(rd l).2.2≠0):rd l=(0,0,3)\/rd l=(0,0,4):=xwm _ _ _ _ h
theorem rdN_ok:∀(f i acc:Nat) (l:Zlu),i+f=10->acc<2 ^ (7*i)->(rdN f i acc l).2.2=0 ->
  ∃m j:Nat,rdN f i acc l=(acc+m*2 ^ (7*i),i+j,0)/\putN m=l.take j/\1<=j/\j<=f/\j<=l.length/\(0<i->m≠0)/\acc+m*2 ^ (7*i)<18446744073709551616 /\
   ∀a,a<j->rdN f i acc (l.take a)=(0,0,3)
 | 0,i,acc,l,hf,ha,h=>by simp[rdN] at h
 | f+1,i,acc,[],hf,ha,h=>by simp[rdN] at h
 | f+1,i,acc,c::r,hf,ha,h=>by
  have hc:=c.toNat_lt
  by_cases hbad:(i=9/\1<c.toNat)\/(0<i/\c.toNat=0)
  ·simp[rdN,hbad] at h
  ·by_cases h128:c.toNat<128
   ·refine⟨c.toNat,1,?_,?_,by omega,by omega,by simp,by omega,?_,?_⟩
    ·simp only[rdN];rw[if_neg hbad,if_pos h128,Nat.mod_eq_of_lt h128]
    ·rw[ukx _ h128];simp
    ·have hi:i<=9:=by omega
     have hp:2 ^ (7*i)<=2 ^ 63:=Nat.pow_le_pow_right (by omega) (by omega)
     by_cases h9:i=9
     ·subst h9
      have h1:c.toNat<=1:=by omega
      have:=Nat.mul_le_mul_right (2 ^ (7*9)) h1
      omega
     ·have hp:2 ^ (7*i)<=2 ^ 56:=Nat.pow_le_pow_right (by omega) (by omega)
      have:=Nat.mul_le_mul (show c.toNat<=127 by omega) hp
      omega
    ·intro a h1
     obtain rfl:a=0:=by omega
     rfl
   ·have e0:rdN (f+1) i acc (c::r)=rdN f (i+1) (acc+c.toNat % 128*2 ^ (7*i)) r:=by
     simp only[rdN];rw[if_neg hbad,if_neg h128]
    rw[e0] at h
    obtain⟨m,j,h1,h2,h3,h4,h5,h6,h7,h8⟩:=rdN_ok f (i+1) _ r (by omega) (vyx acc c.toNat i ha) h
    have hm:m≠0:=h6 (by omega)
    have hs:=split7 (c.toNat % 128+128*m) (2 ^ (7*i))
    have e2:(c.toNat % 128+128*m) % 128=c.toNat % 128:=by omega
    have e3:(c.toNat % 128+128*m) / 128=m:=by omega
    rw[e2,e3] at hs
    have e4:acc+c.toNat % 128*2 ^ (7*i)+m*2 ^ (7*(i+1))=acc+(c.toNat % 128+128*m)*2 ^ (7*i):=by rw[pow7];omega
    refine⟨c.toNat % 128+128*m,j+1,?_,?_,by omega,by omega,by simpa using h5,by omega,by omega,?_⟩
    ·rw[e0,h1,e4];simp only[Prod.mk.injEq,true_and,and_true];omega
    ·rw[uvo _ (by omega),e3,h2,List.take_succ_cons]
     congr 1
     apply UInt8.toNat_inj.1
     rw[uwe];omega
    ·intro a h1
     cases a with
     | zero=>rfl
     | succ a =>
      rw[List.take_succ_cons]
      simp only[rdN];rw[if_neg hbad,if_neg h128]
      exact h8 a (by omega)
theorem rd_ok (l:Zlu) (h:(rd l).2.2=0):∃n k:Nat,rd l=(n,k,0)/\putN n=l.take k/\1<=k/\k<=10/\k<=l.length/\n<18446744073709551616/\∀a,a<k->rd (l.take a)=(0,0,3):=by
 obtain⟨m,j,h1,h2,h3,h4,h5,_,h7,h8⟩:=rdN_ok 10 0 0 l rfl (by simp) h
 exact⟨m,j,by simpa[rd] using h1,h2,h3,h4,h5,by simpa using h7,h8⟩
theorem xy2 (n:Int) (w:World) (h1 : -9223372036854775808<=n) (h2:n<=9223372036854775807) :
  Calls prog 146 #[.int .i64 n] w fun e w'=>e=.returned (.int .u64 (zigI n))/\w=w':=by
 by_cases h:n<0
 ·go_enter func146,ntmps146
  go_wp2
  go_ret
  exact⟨congrArg (fun x=>Ending.returned (.int .u64 x)) (wkq n h1 h),rfl⟩
 ·have h':0<=n:=by omega
  go_enter func146,ntmps146
  go_wp2
  go_ret
  exact⟨congrArg (fun x=>Ending.returned (.int .u64 x)) (wkr n h2 h'),rfl⟩
theorem zag_any (z:Int) (w:World) (h1:0<=z) (h2:z<=18446744073709551615) :
  Calls prog 169 #[.int .u64 z] w fun e w'=>e=.returned (.int .i64 (zagI z.toNat))/\w=w':=by
 obtain⟨n,rfl⟩:=Int.eq_ofNat_of_zero_le h1
 go_enter func169,ntmps169
 go_wp2
 go_ret
 exact⟨congrArg (fun x=>Ending.returned (.int .i64 x)) (zagI_val n (by omega)),rfl⟩
def textE (s:Zba):Nat:=if 16<s.size then 2 else if vT s=true then 0 else 4
def textB (l:Zlu):Zlu:=putN l.length++l
theorem ww1 {s:Zba}:textE s=0↔s.size<=16/\vT s=true:=by
  unfold textE
  by_cases h:16<s.size
  · rw[if_pos h];simp;omega
  · rw[if_neg h]
    by_cases h2:vT s=true
    · rw[if_pos h2];simp[h2];omega
    · rw[if_neg h2];simp[h2]
theorem xyo (s:Zba) (w:World) (hT:Tabs w) (he:textE s=0) :
    Calls prog 145 #[.string s] w fun e w'=>e=.returned (.tuple #[.string (bstr (textB s.data.toList)),.int .i64 0])/\Below w.heap.size w w':=by
  obtain⟨h16,hv⟩:=ww1.1 he
  have h1:=vja s w (by omega) hT
  rw[hv] at h1
  have H1:=zrj h1
  have hr:(⟨(putN s.size).toArray⟩:Zba)++s=bstr (textB s.data.toList):=by
    rw[show(⟨(putN s.size).toArray⟩:Zba)=bstr (putN s.size) from rfl,<- ux3 s,vza,ux3,textB,uwa]
  have h10:=uqm s.size (by omega)
  have hadd:∀W,(Op.stringOp .add (⟨(putN s.size).toArray⟩:Zba) s).run prog W=.ok (.string (bstr (textB s.data.toList))) W:=fun W=>by
    rw[<- hr]
    exact run_string_add_sum W _ _ (by have:(⟨(putN s.size).toArray⟩:Zba).size=(putN s.size).length:=rfl
                                       omega)
  have hw:IntKind.u64.wrap (s.size:Int)=(s.size:Int):=by rw[IntKind.wrap_u64];omega
  clear h1 he hv hr
  go_enter func145,ntmps145
  go_wp2_with fail
  refine H1.out.mono ?_
  rintro e w1 ⟨rfl,hb1⟩
  go_wp2_with fail
  refine(vjw s.size w1 (by omega)).mono ?_
  rintro e w2 ⟨rfl,hb2⟩
  go_wp2_with fail
  go_ret2
  exact⟨rfl,bthen hb1 hb2⟩
def rdT (l:Zlu):Zlu×Nat×Nat :=
  if(rd l).2.2≠0 then([],0,(rd l).2.2) else if 16<(rd l).1 then([],0,2) else if l.length<(rd l).2.1+(rd l).1 then([],0,3) else
  if Lib.validD ((l.drop (rd l).2.1).take (rd l).1)=true then((l.drop (rd l).2.1).take (rd l).1,(rd l).2.1+(rd l).1,0) else([],0,4)
theorem wj4 (s:Zba) (w:World) (hs:s.size<=4611686018427387904) (hT:Tabs w) :
    Calls prog 129 #[.string s] w fun e w'=>e=.returned (.tuple #[.string (bstr (rdT s.data.toList).1),.int .i64 ((rdT s.data.toList).2.1:Int),.int .i64 ((rdT s.data.toList).2.2:Int)])/\Below w.heap.size w w':=by
  have hN:=uww s w
  by_cases h0:(rd s.data.toList).2.2=0
  · obtain⟨n,k,hr,_,hk1,hk10,hkl,hn,_⟩:=rd_ok _ h0
    have hR:rdT s.data.toList=if 16<n then([],0,2) else if s.data.toList.length<k+n then([],0,3) else
        if Lib.validD ((s.data.toList.drop k).take n)=true then((s.data.toList.drop k).take n,k+n,0) else([],0,4):=by
      unfold rdT
      rw[hr]
      rw[if_neg (by simp)]
    rw[hr] at hN
    simp only[] at hN
    rw[uwa] at hkl hR
    rw[hR]
    have HN:=zrj hN
    clear hN hR h0 hr
    have hw:wrap64 (n:Int)=(n:Int)\/16<n:=by
      rcases Nat.lt_or_ge 16 n with h | h
      · exact .inr h
      · exact .inl (by unfold wrap64;omega)
    by_cases h16:16<n
    · rw[if_pos h16]
      have hi:(16:Int)<(n:Int):=by omega
      clear hw
      go_enter func129,ntmps129
      go_wp2_with fail
      refine HN.out.mono ?_
      rintro e w1 ⟨rfl,rfl⟩
      go_wp2_with fail
      go_ret3
      exact⟨rfl,zri _ _⟩
    · rw[if_neg h16]
      by_cases h3:s.size<k+n
      · rw[if_pos h3]
        clear hw
        go_enter func129,ntmps129
        go_wp2_with fail
        refine HN.out.mono ?_
        rintro e w1 ⟨rfl,rfl⟩
        go_wp2_with fail
        go_ret3
        exact⟨rfl,zri _ _⟩
      · rw[if_neg h3]
        have hx:(s.extract k (k+n)).data.toList=(s.data.toList.drop k).take n:=by rw[vki];congr 1;omega
        have hv:=vja (s.extract k (k+n)) w (by rw[ByteArray.size_extract];omega) hT
        unfold vT at hv
        rw[hx] at hv
        have hb:bstr ((s.data.toList.drop k).take n)=s.extract k (k+n):=by rw[<- hx,ux3]
        have i1:(k:Int)<=(k:Int)+(n:Int):=by omega
        have i2:(k:Int)+(n:Int)<=(s.size:Int):=by omega
        cases hV:Lib.validD ((s.data.toList.drop k).take n)
        · rw[if_neg (by simp)]
          rw[hV] at hv
          have HV:=zrj hv
          clear hv hx hb hV hw
          go_enter func129,ntmps129
          go_wp2_with fail
          refine HN.out.mono ?_
          rintro e w1 ⟨rfl,rfl⟩
          go_wp2_with fail
          refine HV.out.mono ?_
          rintro e w1 ⟨rfl,hb1⟩
          go_wp2_with fail
          go_ret3
          exact⟨rfl,hb1⟩
        · rw[if_pos rfl]
          rw[hV] at hv
          simp only[]
          rw[hb]
          have HV:=zrj hv
          clear hv hx hb hV hw
          go_enter func129,ntmps129
          go_wp2_with fail
          refine HN.out.mono ?_
          rintro e w1 ⟨rfl,rfl⟩
          go_wp2_with fail
          refine HV.out.mono ?_
          rintro e w1 ⟨rfl,hb1⟩
          go_wp2_with fail
          go_ret3
          exact⟨by simp,hb1⟩
  · have hR:rdT s.data.toList=([],0,(rd s.data.toList).2.2):=by unfold rdT;rw[if_pos h0]
    rw[hR]
    generalize rd s.data.toList=r at *
    obtain⟨a,b,c⟩:=r
    simp only[] at hN h0 ⊢
    have h0b:((c:Int) != 0)=true:=by rw[bne_iff_ne];omega
    have HN:=zrj hN
    clear hN hR h0
    go_enter func129,ntmps129
    go_wp2_with fail
    refine HN.out.mono ?_
    rintro e w1 ⟨rfl,rfl⟩
    go_wp2_with fail
    go_ret3
    exact⟨rfl,zri _ _⟩
theorem rdT_text (l more:Zlu) (h16:l.length<=16) (hv:Lib.validD l=true):rdT (textB l++more)=(l,(textB l).length,0):=by
 have hr:rd (textB l++more)=(l.length,(putN l.length).length,0):=by
  unfold textB;rw[zrh];exact vz3 _ _ (by omega)
 have hd:((textB l++more).drop (putN l.length).length).take l.length=l:=by
  unfold textB;rw[zrh,List.drop_left,List.take_left]
 unfold rdT
 rw[hr]
 simp only[]
 rw[if_neg (by simp),if_neg (by omega),if_neg (by unfold textB;simp only[zrb];omega),hd,if_pos hv]
 unfold textB
 rw[zrb]
theorem xwo (l:Zlu) (h:(rdT l).2.2=0):(rdT l).1.length<=16/\Lib.validD (rdT l).1=true/\textB (rdT l).1=l.take (rdT l).2.1/\(rdT l).2.1<=l.length/\1<=(rdT l).2.1:=by
 by_cases h0:(rd l).2.2=0
 ·obtain⟨n,k,hr,hp,hk1,hk10,hkl,hn,_⟩:=rd_ok _ h0
  have hR:rdT l=if 16<n then([],0,2) else if l.length<k+n then([],0,3) else
    if Lib.validD ((l.drop k).take n)=true then((l.drop k).take n,k+n,0) else([],0,4):=by
   unfold rdT
   rw[hr]
   rw[if_neg (by simp)]
  by_cases h16:16<n
  ·rw[hR,if_pos h16] at h;exact absurd h (by decide)
  ·by_cases h3:l.length<k+n
   ·rw[hR,if_neg h16,if_pos h3] at h;exact absurd h (by decide)
   ·by_cases hV:Lib.validD ((l.drop k).take n)=true
    ·rw[if_neg h16,if_neg h3,if_pos hV] at hR
     rw[hR]
     have hl:((l.drop k).take n).length=n:=by rw[List.length_take,List.length_drop];omega
     refine⟨by rw[hl];omega,hV,?_,by show k+n<=_;omega,by show 1<=k+n;omega⟩
     unfold textB
     rw[hl,hp,<- List.take_add]
    ·rw[hR,if_neg h16,if_neg h3,if_neg hV] at h;exact absurd h (by decide)
 ·unfold rdT at h;rw[if_pos h0] at h;exact absurd h h0
theorem xyn {l:Zlu}:textE (bstr l)=0↔l.length<=16/\Lib.validD l=true:=by rw[ww1,uqz];unfold vT;rw[uqu]
end Go.Proofs.YtknmnhleicakhaaGreatDoor
