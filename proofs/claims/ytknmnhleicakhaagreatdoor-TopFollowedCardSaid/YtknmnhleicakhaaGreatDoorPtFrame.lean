/- Lemmas.
-/
import Derived.Test.YtknmnhleicakhaaGreatDoorPtWireB
set_option linter.all false
set_option maxHeartbeats 16000000
set_option maxRecDepth 100000
namespace Go.Proofs.YtknmnhleicakhaaGreatDoor
open Go.Proofs.Tryz
def st1 (x:Nat):Nat:=(x / 2) ^^^ (x % 2*3988292384)
def stk:Nat->Nat->Nat
 | 0,x=>x
 | k+1,x=>stk k (st1 x)
def st8 (x:Nat):Nat:=stk 8 x
def upd (x:Nat) (c:UInt8):Nat:=st8 (x ^^^ c.toNat)
def reg (x:Nat) (l:Zlu):Nat:=l.foldl upd x
def crc (l:Zlu):Nat:=4294967295-reg 4294967295 l
theorem xyb (x:Nat) (h:x<4294967296):st1 x<4294967296:=by
 unfold st1
 refine Nat.xor_lt_two_pow (n:=32) (by omega) ?_
 rcases Nat.mod_two_eq_zero_or_one x with h | h <;> rw[h] <;> decide
theorem stk_lt (k x:Nat) (h:x<4294967296):stk k x<4294967296:=by
 induction k generalizing x with
 | zero=>exact h
 | succ k ih=>exact ih _ (xyb x h)
theorem st8_lt (x:Nat) (h:x<4294967296):st8 x<4294967296:=stk_lt 8 x h
theorem stk_succ (k x:Nat):stk (k+1) x=st1 (stk k x):=by
 induction k generalizing x with
 | zero=>rfl
 | succ k ih=>rw[stk,ih];rfl
theorem uv2 {a b:Nat} (ha:a<4294967296) (hb:b<4294967296):a ^^^ b<4294967296:=Nat.xor_lt_two_pow (n:=32) ha hb
theorem uvc (c:UInt8):c.toNat<4294967296:=by have:=c.toNat_lt;omega
theorem vy6 (x:Nat) (c:UInt8) (h:x<4294967296):upd x c<4294967296:=st8_lt _ (uv2 h (uvc c))
theorem xqp (x:Nat) (c:UInt8) (r:Zlu):reg x (c::r)=reg (upd x c) r:=rfl
theorem crc_lt (l:Zlu):crc l<4294967296:=by unfold crc;omega
theorem half_xor (a b:Nat):(a ^^^ b) / 2=a / 2 ^^^ b / 2:=by
 have:=Nat.shiftRight_xor_distrib (a:=a) (b:=b) (i:=1)
 simpa[Nat.shiftRight_eq_div_pow] using this
theorem xor_mod2 (a b:Nat):(a ^^^ b) % 2=(a+b) % 2:=by
 have h:=Nat.xor_mod_two_eq_one (a:=a) (b:=b)
 rcases Nat.mod_two_eq_zero_or_one (a ^^^ b) with h0 | h0 <;> rw[h0] at h ⊢ <;> simp at h <;> omega
theorem xor_zero {a b:Nat} (h:a ^^^ b=0):a=b:=by
 have:=congrArg (· ^^^ b) h
 simpa[Nat.xor_assoc] using this
theorem xyc (a b:Nat):st1 (a ^^^ b)=st1 a ^^^ st1 b:=by
 unfold st1
 rw[half_xor,xor_mod2]
 have key:(a+b) % 2*3988292384=a % 2*3988292384 ^^^ b % 2*3988292384:=by
  rcases Nat.mod_two_eq_zero_or_one a with h1 | h1 <;> rcases Nat.mod_two_eq_zero_or_one b with h2 | h2 <;> rw[Nat.add_mod,h1,h2] <;> decide
 rw[key]
 ac_rfl
theorem stk_xor (k a b:Nat):stk k (a ^^^ b)=stk k a ^^^ stk k b:=by
 induction k generalizing a b with
 | zero=>rfl
 | succ k ih=>rw[stk,xyc,ih];rfl
theorem vj8 (a b:Nat):st8 (a ^^^ b)=st8 a ^^^ st8 b:=stk_xor 8 a b
theorem xz7 (q:Nat):st1 (2*q)=q:=by
 unfold st1
 have h1:2*q / 2=q:=by omega
 have h2:2*q % 2=0:=by omega
 rw[h1,h2];simp
theorem stk_pow (k q:Nat):stk k (2 ^ k*q)=q:=by
 induction k with
 | zero=>simp[stk]
 | succ k ih =>
  have e:2 ^ (k+1)*q=2*(2 ^ k*q):=by rw[Nat.pow_succ,<- Nat.mul_assoc,Nat.mul_comm (2 ^ k) 2]
  rw[stk,e,xz7,ih]
theorem split8 (x:Nat):x=2 ^ 8*(x / 256) ^^^ x % 256:=by
 have:=Nat.two_pow_add_eq_or_of_lt (i:=8) (show x % 256<2 ^ 8 by omega) (x / 256)
 have h2:2 ^ 8*(x / 256) ^^^ x % 256=2 ^ 8*(x / 256) ||| x % 256:=by
  apply Nat.eq_of_testBit_eq
  intro i
  rw[Nat.testBit_xor,Nat.testBit_or]
  by_cases h:i<8
  ·have:(2 ^ 8*(x / 256)).testBit i=false:=by rw[Nat.testBit_two_pow_mul];simp;omega
   rw[this];simp
  ·have:(x % 256).testBit i=false:=Nat.testBit_lt_two_pow (Nat.lt_of_lt_of_le (show x % 256<2 ^ 8 by omega) (Nat.pow_le_pow_right (by omega) (by omega)))
   rw[this];simp
 rw[h2,<- this];omega
theorem xyv (x:Nat) (c:UInt8):x / 256 ^^^ st8 (x % 256 ^^^ c.toNat)=upd x c:=by
 have h:x ^^^ c.toNat=2 ^ 8*(x / 256) ^^^ (x % 256 ^^^ c.toNat):=by
  rw[<- Nat.xor_assoc,<- split8]
 unfold upd
 rw[h,vj8 (2 ^ 8*(x / 256))]
 have:st8 (2 ^ 8*(x / 256))=x / 256:=stk_pow 8 _
 rw[this]
def mix:Zlu->Zlu->Zlu->Zlu
 | x::a,y::b,z::c=>(x ^^^ y ^^^ z)::mix a b c
 | _,_,_=>[]
theorem vvh (x:Nat) (h:x<4294967296):4294967295-x=4294967295 ^^^ x:=by
 have h:=congrArg BitVec.toNat (BitVec.xor_allOnes (x:=BitVec.ofNat 32 x))
 rw[BitVec.toNat_xor,BitVec.toNat_not,BitVec.toNat_ofNat,BitVec.toNat_allOnes,Nat.mod_eq_of_lt (by omega)] at h
 rw[Nat.xor_comm];simp at h;omega
open Go.RowKit
def u32z:Value:=.int .u32 0
def zeros:Array Value:=Array.replicate 256 u32z
def tabV (k:Nat):Array Value:=Array.ofFn fun i:Fin 256=>if i.val<k then Value.int .u32 (st8 i.val:Int) else u32z
theorem vwt (k:Nat):(tabV k).size=256:=by simp[tabV]
theorem xyj:zeros=tabV 0:=by
 apply Array.ext
 ·simp[zeros,tabV]
 ·intro i h1 h2;simp[zeros,tabV]
theorem tabV_set (k:Nat) (hk:k<256):(tabV k).setIfInBounds k (.int .u32 (st8 k:Int))=tabV (k+1):=by
 apply Array.ext
 ·simp[tabV]
 ·intro i h1 h2
  have hi:i<256:=by simpa[tabV] using h2
  rw[Array.getElem_setIfInBounds (by simpa[tabV] using hi)]
  by_cases h:k=i
  ·subst h;simp[tabV]
  ·simp only[h,if_false,tabV,Array.getElem_ofFn]
   by_cases h3:i<k
   ·rw[if_pos h3,if_pos (by omega)]
   ·rw[if_neg h3,if_neg (by omega)]
theorem xqw (k i:Nat) (hi:i<256):(tabV k)[i]?=some (if i<k then Value.int .u32 (st8 i:Int) else u32z):=by
 rw[Array.getElem?_eq_getElem (by simpa[tabV] using hi)];simp[tabV]
theorem xqx (k:Nat):(tabV k).all (·.oneCell')=true:=by
 rw[Array.all_eq_true]
 intro i h
 have hi:i<256:=by simpa[tabV] using h
 simp only[tabV,Array.getElem_ofFn]
 split <;> rfl
theorem vy4:(prog.info? 213).map (fun i=>(i.zero,i.size))=some (some (.agg zeros),256):=by kernel_rfl
theorem vxt (k:Nat):(prog.info? 213).map (·.size)=some (tabV k).size:=by rw[vwt];exact(zero_of_info vy4).2
theorem wqc (W:World):(zeroValue 213).run prog W=.ok (.agg (tabV 0)) W:=by rw[(zero_of_info vy4).1,xyj]
theorem and1_val (x:Nat) (hx:x<4294967296):bits .and .u32 (x:Int) 1=((x % 2:Nat):Int):=by
 have:=u32_and_nat x 1 hx (by omega)
 rw[show((1:Nat):Int)=1 from rfl] at this
 rw[this,Nat.and_one_is_mod]
theorem st1_val (x:Nat) (hx:x<4294967296):bits .xor .u32 ((x:Int) / 2) (((x % 2:Nat):Int)*3988292384)=((st1 x:Nat):Int):=by
 have h2:(x:Int) / 2=((x / 2:Nat):Int):=by omega
 have h3:((x % 2:Nat):Int)*3988292384=((x % 2*3988292384:Nat):Int):=by omega
 rw[h2,h3,u32_xor_nat _ _ (by omega) (by omega)]
 rfl
theorem made_any (w:World) :
  Calls prog 105 #[] w fun e w'=>e=.returned (.agg (tabV 256))/\Below w.heap.size w w':=by
 have hz:=wqc
 go_enter func105,ntmps105
 go_wp2
 go_loopw [4] (fun i wr=>∃k:Nat,k<=256/\i=.int .i64 k/\Blk wr w.heap.size 213 (tabV k)/\Below w.heap.size w wr) (fun i _=>256-(intOf i).toNat)
 case atStart=>exact⟨0,by omega,rfl,Blk.new w _ _,(zri _ _).alloc (zra _) _⟩
 case round =>
  obtain⟨k,hk,rfl,hb,hbel⟩:=hrel
  clear hz
  by_cases hlt:k<256
  ·go_wp2
   go_loop [2,9] (fun x j=>∃(i:Nat),i<=8/\j=.int .i64 i/\x=.int .u32 (stk i k)) (fun _ j=>8-(intOf j).toNat)
   case atStart=>exact⟨0,by omega,rfl,rfl⟩
   case round =>
    obtain⟨i,hi,rfl,rfl⟩:=hrel
    have hx:=stk_lt i k (by omega)
    by_cases h8:i<8
    ·have hand:=and1_val _ hx
     have hmod:stk i k % 2<2:=Nat.mod_lt _ (by omega)
     have HV:=zrj (st1_val _ hx)
     have HS:=zrj (stk_succ i k)
     go_wp2
     go_round
     case rel=>exact⟨i+1,by omega,by go_num,congrArg (Value.int .u32) (by rw[HS.out];exact HV.out)⟩
     case measure=>simp[intOf];omega
    ·obtain rfl:i=8:=by omega
     have hcell:wr.cell? ⟨w.heap.size,k,none⟩=some u32z:=by rw[hb.cell,xqw k k hlt,if_neg (by omega)]
     have hfr:=hb.frozen k
     go_wp2
     go_roundw
     case rel =>
      refine⟨k+1,by omega,by go_num,?_,hbel.setCell (zra _) _⟩
      have:=hb.set_ k (.int .u32 (stk 8 k:Int))
      rw[show stk 8 k=st8 k from rfl,tabV_set k hlt] at this
      exact this
     case measure=>simp[intOf];omega
  ·obtain rfl:k=256:=by omega
   go_wp2_with(first
    | (refine uqa rfl _ _ rfl w.heap.size rfl _ _ hb _ underlying213 rfl (vxt 256) ?_)
    | (refine uqc rfl _ _ _ rfl w.heap.size rfl _ _ _ hb rfl (vxt 256) rfl (xqx 256) ?_))
   refine bodyPost_ret (uq8 rfl _ rfl (hb.setRow _) underlying213 rfl (vxt 256)) rfl ?_
   exact⟨rfl,uqh hbel (zra _) _⟩
theorem xvg (x:Nat) (c:UInt8):bits .xor .u8 ((x:Int) % 256) (c.toNat:Int)=((x % 256 ^^^ c.toNat:Nat):Int):=by
 rw[show(x:Int) % 256=((x % 256:Nat):Int) by omega,u8_xor_nat _ _ (by omega) c.toNat_lt]
theorem upd_val (x:Nat) (hx:x<4294967296) (c:UInt8):bits .xor .u32 ((x:Int) / 256) ((st8 (x % 256 ^^^ c.toNat):Nat):Int)=((upd x c:Nat):Int):=by
 have hb:x % 256 ^^^ c.toNat<4294967296:=uv2 (by omega) (uvc c)
 rw[show(x:Int) / 256=((x / 256:Nat):Int) by omega,u32_xor_nat _ _ (by omega) (st8_lt _ hb),xyv]
theorem not_val (r:Nat) (hr:r<4294967296):bits .xor .u32 IntKind.u32.max (r:Int)=((4294967295-r:Nat):Int):=by
 have e:IntKind.u32.max=((4294967295:Nat):Int):=by decide
 rw[e,u32_xor_nat _ _ (by omega) hr,vvh r hr]
theorem xye (s:Zba) (w:World) (hs:s.size<=4611686018427387904) :
  Calls prog 66 #[.string s] w fun e w'=>e=.returned (.int .u32 (crc s.data.toList))/\Below w.heap.size w w':=by
 have hz:=wqc
 go_enter func66,ntmps66
 go_wp2_with(first
  | (go_at_call 105;refine(made_any _).mono ?_;rintro e w1 ⟨rfl,hb1⟩)
  | (refine uqc rfl _ _ _ rfl w1.heap.size rfl _ _ _ (Blk.new w1 _ _) rfl (vxt 256) (by rw[vwt,vwt]) (xqx 256) ?_))
 have hblk:Blk ((w1.alloc (.cells (tabV 0) 213)).setRow w1.heap.size (tabV 256)) w1.heap.size 213 (tabV 256):=(Blk.new w1 _ _).setRow _
 have hbel:Below w.heap.size w ((w1.alloc (.cells (tabV 0) 213)).setRow w1.heap.size (tabV 256)):=uqh (hb1.alloc hb1.size _) hb1.size _
 generalize(w1.alloc (.cells (tabV 0) 213)).setRow w1.heap.size (tabV 256)=W at *
 generalize w1.heap.size=g at *
 clear hz hb1
 go_loop [4,9] (fun x i=>∃k r:Nat,k<=s.size/\r<4294967296/\Hid (reg 4294967295 s.data.toList=reg r (s.data.toList.drop k))/\x=.int .u32 r/\i=.int .i64 k) (fun _ i=>s.size-(intOf i).toNat)
 case atStart=>exact⟨0,4294967295,by omega,by omega,rfl,rfl,rfl⟩
 case round =>
  obtain⟨k,r,hk,hr,H,rfl,rfl⟩:=hrel
  by_cases hlt:k<s.size
  ·have H1:=H.out
   rw[vvn s k hlt,xqp] at H1
   have hc:=(s[k]).toNat_lt
   have e1:=xvg r s[k]
   have HV:=upd_val r hr s[k]
   have hj:r % 256 ^^^ (s[k]).toNat<256:=Nat.xor_lt_two_pow (n:=8) (by omega) hc
   have hul:=zrj (vy6 r s[k] hr)
   have HH:=zrj H1
   clear H H1
   generalize r % 256 ^^^ (s[k]).toNat=j at *
   have hcell:W.cell? ⟨g,j,none⟩=some (.int .u32 (st8 j:Int)):=by rw[hblk.cell,xqw 256 j hj,if_pos hj]
   have HV2:=zrj HV
   clear HV
   go_wp2
   go_round
   case rel=>exact⟨k+1,upd r s[k],by omega,hul.out,HH,congrArg (Value.int .u32) HV2.out,by go_num⟩
   case measure=>simp[intOf];omega
  ·obtain rfl:k=s.size:=by omega
   have H1:=H.out
   rw[List.drop_of_length_le (by simp)] at H1
   have HH:Hid (crc s.data.toList=4294967295-r):=by show _=_;unfold crc;rw[H1];rfl
   clear H H1
   go_wp2
   go_ret
   exact⟨congrArg (fun x=>Ending.returned (.int .u32 x)) (by rw[HH.out];exact not_val r hr),hbel⟩
def sum4 (x:Nat):Zlu:=[UInt8.ofNat (x / 16777216),UInt8.ofNat (x / 65536),UInt8.ofNat (x / 256),UInt8.ofNat x]
def bodyF (v k:Nat) (pl:Zlu):Zlu:=[66,75,UInt8.ofNat v,UInt8.ofNat k]++putN pl.length++pl
def wireF (v k:Nat) (pl:Zlu):Zlu:=bodyF v k pl++sum4 (crc (bodyF v k pl))
def goodF (v k:Int):Prop:=1<=v/\v<=3/\1<=k/\k<=4
instance (v k:Int):Decidable (goodF v k):=by unfold goodF;infer_instance
def encF (v k:Int) (pl:Zlu):Zlu×Nat :=
 if goodF v k then(if 6000<pl.length then([],2) else(wireF v.toNat k.toNat pl,0)) else([],1)
def badAt (i:Nat) (c:UInt8):Nat :=
 if i=0 then(if c=66 then 0 else 4) else if i=1 then(if c=75 then 0 else 4)
 else if i=2 then(if 1<=c.toNat/\c.toNat<=3 then 0 else 1) else(if 1<=c.toNat/\c.toNat<=4 then 0 else 1)
def hdE:Nat->Nat->Zlu->Nat
 | 0,_,_=>0
 | _+1,_,[]=>0
 | f+1,i,c::r=>if badAt i c=0 then hdE f (i+1) r else badAt i c
structure DecR where
 e:Nat
 ver:Nat
 kind:Nat
 pl:Zlu
 n:Nat
def DecR.err (e:Nat):DecR:=⟨e,0,0,[],0⟩
def decF (l:Zlu):DecR :=
 if hdE 4 0 l≠0 then .err (hdE 4 0 l) else if l.length<4 then .err 3 else
 if(rd (l.drop 4)).2.2≠0 then .err (rd (l.drop 4)).2.2 else if 6000<(rd (l.drop 4)).1 then .err 2 else
 if l.length<4+(rd (l.drop 4)).2.1+(rd (l.drop 4)).1+4 then .err 3 else
 if sum4 (crc (l.take (4+(rd (l.drop 4)).2.1+(rd (l.drop 4)).1)))≠(l.drop (4+(rd (l.drop 4)).2.1+(rd (l.drop 4)).1)).take 4 then .err 5 else
 ⟨0,(l.getD 2 0).toNat,(l.getD 3 0).toNat,(l.drop (4+(rd (l.drop 4)).2.1)).take (rd (l.drop 4)).1,4+(rd (l.drop 4)).2.1+(rd (l.drop 4)).1+4⟩
def catF (v k:Nat) (pl:Zba):Zba:=(⟨#[66,75]⟩:Zba)++⟨#[UInt8.ofNat v,UInt8.ofNat k]⟩++⟨(putN pl.size).toArray⟩++pl
theorem xj0 (v k:Nat) (pl:Zba):(catF v k pl).data.toList=bodyF v k pl.data.toList:=by
 simp[catF,bodyF,ByteArray.data_append]
theorem xj1 (v k:Nat) (pl:Zba):(catF v k pl).size=4+(putN pl.size).length+pl.size:=by
 simp only[catF,ByteArray.size_append]
 rfl
def zfr:Array Value:=#[.int .i64 0,.int .i64 0,.string .empty]
def frA (v k:Int) (pl:Zba):Array Value:=#[.int .i64 v,.int .i64 k,.string pl]
theorem uv6:(prog.info? 75).map (fun i=>(i.zero,i.size,i.bytes))=some (some (.agg zfr),3,32):=by kernel_rfl
theorem uwq:zfr.all (·.oneCell')=true:=by simp[zfr,Value.oneCell']
theorem uqx:(prog.info? 75).map (·.size)=some 3:=by kernel_rfl
theorem xz9 (x:Nat) (h:x<4294967296) :
  (#[.int .u8 ((x:Int) / 16777216),.int .u8 ((x:Int) / 65536 % 256),.int .u8 ((x:Int) / 256 % 256),.int .u8 ((x:Int) % 256)]:Array Value).toList=uzk (sum4 x):=by
 simp only[uzk,sum4,List.map_cons,List.map_nil,UInt8.toNat_ofNat']
 simp;omega
theorem wq4 (s:Zba) (w:World) (hs:s.size<=4611686018427387904) :
  Calls prog 43 #[.string s] w fun e w'=>e=.returned (.string (bstr (sum4 (crc s.data.toList))))/\Below w.heap.size w w':=by
 have hc:=crc_lt s.data.toList
 have hcv:=fun W=>wyl (P:=prog) (src:=62) (dst:=9) underlying62 underlying5 underlying9 _ _ (xz9 _ hc) 4 4 rfl W 5
 go_enter func43,ntmps43
 go_wp2_with fail
 refine(xye s _ hs).mono ?_
 rintro e w1 ⟨rfl,hb1⟩
 go_wp2_with fail
 go_ret
 exact⟨rfl,hb1.alloc hb1.size _⟩
theorem vy9 (x a b:Int) (w:World) (h1:a<=x) (h2:x<=b) :
  Calls prog 65 #[.int .i64 x,.int .i64 a,.int .i64 b] w fun e w'=>e=.returned (.bool true)/\w=w':=by
 go_enter func65,ntmps65
 go_wp2_with fail
 go_ret
 exact⟨congrArg (fun b=>Ending.returned (.bool b)) (by first | rfl | (simp;omega)),rfl⟩
theorem wkm (x a b:Int) (w:World) (h:x<a\/b<x) :
  Calls prog 65 #[.int .i64 x,.int .i64 a,.int .i64 b] w fun e w'=>e=.returned (.bool false)/\w=w':=by
 by_cases h1:x<a
 ·clear h
  go_enter func65,ntmps65
  go_wp2_with fail
  all_goals go_ret
  all_goals exact⟨congrArg (fun b=>Ending.returned (.bool b)) (by first | rfl | (simp;omega)),rfl⟩
 ·have h2:b<x:=by omega
  clear h
  go_enter func65,ntmps65
  go_wp2_with fail
  all_goals go_ret
  all_goals exact⟨congrArg (fun b=>Ending.returned (.bool b)) (by first | rfl | (simp;omega)),rfl⟩
theorem uvs (x:Int) (w:World) (h1:1<=x) (h2:x<=3) :
  Calls prog 40 #[.int .i64 x] w fun e w'=>e=.returned (.bool true)/\w=w':=by
 go_enter func40,ntmps40
 go_wp2_with fail
 refine(vy9 _ _ _ _ h1 h2).mono ?_
 rintro e w' ⟨rfl,rfl⟩
 go_wp2_with fail
 go_ret
 exact⟨rfl,rfl⟩
theorem vkk (x:Int) (w:World) (h:x<1\/3<x) :
  Calls prog 40 #[.int .i64 x] w fun e w'=>e=.returned (.bool false)/\w=w':=by
 go_enter func40,ntmps40
 go_wp2_with fail
 refine(wkm _ _ _ _ h).mono ?_
 rintro e w' ⟨rfl,rfl⟩
 go_wp2_with fail
 go_ret
 exact⟨rfl,rfl⟩
theorem vju (x:Int) (w:World) (h1:1<=x) (h2:x<=4) :
  Calls prog 41 #[.int .i64 x] w fun e w'=>e=.returned (.bool true)/\w=w':=by
 go_enter func41,ntmps41
 go_wp2_with fail
 refine(vy9 _ _ _ _ h1 h2).mono ?_
 rintro e w' ⟨rfl,rfl⟩
 go_wp2_with fail
 go_ret
 exact⟨rfl,rfl⟩
theorem wjq (x:Int) (w:World) (h:x<1\/4<x) :
  Calls prog 41 #[.int .i64 x] w fun e w'=>e=.returned (.bool false)/\w=w':=by
 go_enter func41,ntmps41
 go_wp2_with fail
 refine(wkm _ _ _ _ h).mono ?_
 rintro e w' ⟨rfl,rfl⟩
 go_wp2_with fail
 go_ret
 exact⟨rfl,rfl⟩
theorem uk6 (x:Int) (w:World) :
  Calls prog 67 #[.int .i64 x] w fun e w'=>e=.returned (.tuple #[.agg zfr,.int .i64 0,.int .i64 x])/\Below w.heap.size w w':=by
 have hz:∀W,(zeroValue 75).run prog W=.ok (.agg zfr) W:=by
  obtain⟨i0,hi,hz0,hz1,hz2⟩:=info_parts uv6
  intro W;simp[zeroValue,typeInfo,hi,hz0]
 go_enter func67,ntmps67
 go_wp2_with(refine uqc rfl _ _ _ rfl w.heap.size rfl _ _ _ (Blk.new w _ _) rfl uqx rfl uwq ?_)
 (try simp only[Exit.inBlock,Exit.then])
 refine bodyPost_ret (uxe rfl _ rfl ((Blk.new w _ _).setRow zfr) underlying75 rfl uqx) rfl ?_
 exact⟨rfl,uqh ((zri _ _).alloc (zra _) _) (zra _) _⟩
theorem uw3 (v k:Int) (pl:Zba) (w:World) (hs:pl.size<=4611686018427387904) (v1 : -9223372036854775808<=v) (v2:v<=9223372036854775807) (k1 : -9223372036854775808<=k) (k2:k<=9223372036854775807) :
  Calls prog 20 #[.agg #[.int .i64 v,.int .i64 k,.string pl]] w fun e w'=>e=.returned (.tuple #[.string (bstr (encF v k pl.data.toList).1),.int .i64 (encF v k pl.data.toList).2])/\Below w.heap.size w w':=by
 have hl:pl.data.toList.length=pl.size:=by simp
 by_cases hv:1<=v/\v<=3
 ·by_cases hk:1<=k/\k<=4
  ·have hg:goodF v k:=⟨hv.1,hv.2,hk.1,hk.2⟩
   by_cases hp:6000<pl.size
   ·have hE:encF v k pl.data.toList=([],2):=by unfold encF;rw[if_pos hg,if_pos (by omega)]
    have HE:=zrj hE
    clear hE hl
    go_enter func20,ntmps20
    go_wp2_with fail
    refine(uvs _ _ hv.1 hv.2).mono ?_
    rintro e w1 ⟨rfl,rfl⟩
    go_wp2_with fail
    refine(vju _ _ hk.1 hk.2).mono ?_
    rintro e w1 ⟨rfl,rfl⟩
    go_wp2_with fail
    go_ret2
    exact⟨by rw[HE.out];rfl,(zri _ _).alloc (zra _) _⟩
   ·have hp6:pl.size<=6000:=by omega
    have hE:encF v k pl.data.toList=(wireF v.toNat k.toNat pl.data.toList,0):=by unfold encF;rw[if_pos hg,if_neg (by omega)]
    obtain⟨vn,rfl⟩:=Int.eq_ofNat_of_zero_le (show 0<=v by omega)
    obtain⟨kn,rfl⟩:=Int.eq_ofNat_of_zero_le (show 0<=k by omega)
    have hv3:vn<=3:=by omega
    have hk4:kn<=4:=by omega
    have HE:=zrj hE
    have hv8:(UInt8.ofNat vn).toNat=vn:=by simp only[UInt8.toNat_ofNat'];omega
    have hk8:(UInt8.ofNat kn).toNat=kn:=by simp only[UInt8.toNat_ofNat'];omega
    have hcells:(#[.int .u8 (vn:Int),.int .u8 (kn:Int)]:Array Value).toList=uzk [UInt8.ofNat vn,UInt8.ofNat kn]:=by simp only[uzk,List.map_cons,List.map_nil,hv8,hk8]
    have HC:=zrj hcells
    have h10:=uqm pl.size (by omega)
    have hz2:((⟨#[66,75]⟩:Zba)++⟨#[UInt8.ofNat vn,UInt8.ofNat kn]⟩).size=4:=by rw[ByteArray.size_append];rfl
    have hzp:(⟨(putN pl.size).toArray⟩:Zba).size=(putN pl.size).length:=rfl
    have hadd2:∀W,(Op.stringOp .add ((⟨#[66,75]⟩:Zba)++⟨#[UInt8.ofNat vn,UInt8.ofNat kn]⟩) ⟨(putN pl.size).toArray⟩).run prog W=.ok (.string ((⟨#[66,75]⟩:Zba)++⟨#[UInt8.ofNat vn,UInt8.ofNat kn]⟩++⟨(putN pl.size).toArray⟩)) W :=
     fun W=>run_string_add_sum W _ _ (by rw[hz2,hzp];omega)
    have hadd3:∀W,(Op.stringOp .add ((⟨#[66,75]⟩:Zba)++⟨#[UInt8.ofNat vn,UInt8.ofNat kn]⟩++⟨(putN pl.size).toArray⟩) pl).run prog W=.ok (.string ((⟨#[66,75]⟩:Zba)++⟨#[UInt8.ofNat vn,UInt8.ofNat kn]⟩++⟨(putN pl.size).toArray⟩++pl)) W :=
     fun W=>run_string_add_sum W _ _ (by rw[ByteArray.size_append,hz2,hzp];omega)
    have HL:=zrj (xj0 vn kn pl)
    have HZ:=zrj (xj1 vn kn pl)
    clear hz2 hzp hE hl hg hv8 hk8 hcells v1 v2 k1 k2
    go_enter func20,ntmps20
    go_wp2_with fail
    refine(uvs _ _ hv.1 hv.2).mono ?_
    rintro e w1 ⟨rfl,rfl⟩
    go_wp2_with fail
    refine(vju _ _ hk.1 hk.2).mono ?_
    rintro e w1 ⟨rfl,rfl⟩
    go_wp2_with fail
    have b0:=Blk.new w 75 #[.int .i64 (vn:Int),.int .i64 (kn:Int),.string pl]
    have s0:=zsb w (.cells #[.int .i64 (vn:Int),.int .i64 (kn:Int),.string pl] 75)
    have hb0:=zsa w (.cells #[.int .i64 (vn:Int),.int .i64 (kn:Int),.string pl] 75)
    generalize w.alloc (.cells #[.int .i64 (vn:Int),.int .i64 (kn:Int),.string pl] 75)=W at *
    have hwv:IntKind.u8.wrap (vn:Int)=(vn:Int):=by rw[IntKind.wrap_u8'];omega
    have hwk:IntKind.u8.wrap (kn:Int)=(kn:Int):=by rw[IntKind.wrap_u8'];omega
    have hwp:IntKind.u64.wrap (pl.size:Int)=(pl.size:Int):=by rw[IntKind.wrap_u64];omega
    refine wp_region_held_drew (S:=fun w'=>w'.cell? ⟨w.heap.size,0,none⟩=some (.int .i64 (vn:Int))/\w'.cell? ⟨w.heap.size,1,none⟩=some (.int .i64 (kn:Int))/\w'.cell? ⟨w.heap.size,2,none⟩=some (.string pl)) (by kernel_rfl) ⟨b0.cell 0,b0.cell 1,b0.cell 2⟩ (fun hHeld=>?_)
    repeat(first | refine tz 0 ?_ | refine tz 1 ?_ | refine tz 2 ?_ | refine tz 3 ?_ | refine tz 4 ?_ | refine tz 5 ?_ | refine tz 6 ?_ | refine tz 7 ?_ | refine tz 8 ?_ | refine tz 9 ?_ | refine tz 10 ?_ | refine tz 11 ?_ | refine tz 12 ?_ | refine tz 13 ?_ | refine tz 14 ?_ | refine tz 15 ?_ | refine tz 16 ?_ | refine tz 17 ?_ | refine tz 18 ?_)
    refine wpAnyH_ready (rs:=[6,13]) (by kernel_rfl) (by simp) ?_
    refine AllReadyH.cons rfl (fun K hK=>?_) (AllReadyH.cons rfl (fun K hK=>?_) AllReadyH.nil)
    ·go_simp
     have b1:Blk (W.alloc (.cells #[.int .u8 (vn:Int),.int .u8 (kn:Int)] 5)).drew (w.heap.size+1) 5 #[.int .u8 (vn:Int),.int .u8 (kn:Int)]:=s0 ▸ Blk.new W _ _
     have b2:Blk (W.alloc (.cells #[.int .u8 (vn:Int),.int .u8 (kn:Int)] 5)).drew w.heap.size 75 _:=b0.alloc _
     have hb1:Below w.heap.size w (W.alloc (.cells #[.int .u8 (vn:Int),.int .u8 (kn:Int)] 5)).drew:=(hb0.alloc hb0.size _).drew
     generalize(W.alloc (.cells #[.int .u8 (vn:Int),.int .u8 (kn:Int)] 5)).drew=W1 at *
     refine hK.out _ _ ⟨b2.cell 0,b2.cell 1,b2.cell 2⟩ (fun hH1=>?_)
     clear hK K hHeld hH1
     (try simp only [Act.put, List.setIfInBounds_toArray, List.set_cons_zero, List.set_cons_succ, List.getElem_toArray, List.getElem_cons_zero, List.getElem_cons_succ])
     refine vzn (S':=fun w'=>(w'.cell? ⟨w.heap.size,0,none⟩=some (.int .i64 (vn:Int))/\w'.cell? ⟨w.heap.size,1,none⟩=some (.int .i64 (kn:Int))/\w'.cell? ⟨w.heap.size,2,none⟩=some (.string pl))/\(convert 62 9 (.slice (some ⟨w.heap.size+1,0,none⟩) 2 2)).run prog w'=.ok (.string ⟨#[UInt8.ofNat vn,UInt8.ofNat kn]⟩) w') (fun _ h=>h.1) _ _ _ _ ?_
     have hS1:(fun w':World=>(w'.cell? ⟨w.heap.size,0,none⟩=some (.int .i64 (vn:Int))/\w'.cell? ⟨w.heap.size,1,none⟩=some (.int .i64 (kn:Int))/\w'.cell? ⟨w.heap.size,2,none⟩=some (.string pl))/\(convert 62 9 (.slice (some ⟨w.heap.size+1,0,none⟩) 2 2)).run prog w'=.ok (.string ⟨#[UInt8.ofNat vn,UInt8.ofNat kn]⟩) w') W1:=⟨⟨b2.cell 0,b2.cell 1,b2.cell 2⟩,wqs underlying62 underlying5 underlying9 b1 _ HC.out 2 2 rfl⟩
     repeat(first | refine tz 0 ?_ | refine tz 1 ?_ | refine tz 2 ?_ | refine tz 3 ?_ | refine tz 4 ?_ | refine tz 5 ?_ | refine tz 6 ?_ | refine tz 7 ?_ | refine tz 8 ?_ | refine tz 9 ?_ | refine tz 10 ?_ | refine tz 11 ?_ | refine tz 12 ?_ | refine tz 13 ?_ | refine tz 14 ?_ | refine tz 15 ?_ | refine tz 16 ?_ | refine tz 17 ?_ | refine tz 18 ?_)
     refine tr 13 rfl (fun K hK=>?_)
     go_simp
     refine(vjw pl.size _ (by omega)).mono ?_
     rintro e w2 ⟨rfl,hb2⟩
     have b3:=b1.bl hb2
     have b4:=b2.bl hb2
     refine hK.out _ _ ⟨⟨b4.cell 0,b4.cell 1,b4.cell 2⟩,wqs underlying62 underlying5 underlying9 b3 _ HC.out 2 2 rfl⟩ (fun hH2=>?_)
     clear hK K hS1
     (try simp only [Act.put, List.setIfInBounds_toArray, List.set_cons_zero, List.set_cons_succ, List.getElem_toArray, List.getElem_cons_zero, List.getElem_cons_succ])
     repeat(first | refine tz 0 ?_ | refine tz 1 ?_ | refine tz 2 ?_ | refine tz 3 ?_ | refine tz 4 ?_ | refine tz 5 ?_ | refine tz 6 ?_ | refine tz 7 ?_ | refine tz 8 ?_ | refine tz 9 ?_ | refine tz 10 ?_ | refine tz 11 ?_ | refine tz 12 ?_ | refine tz 13 ?_ | refine tz 14 ?_ | refine tz 15 ?_ | refine tz 16 ?_ | refine tz 17 ?_ | refine tz 18 ?_)
     refine wpAnyH_done (by kernel_rfl) ?_ _
     go_wp2_with fail
     generalize hT:(({ data:=#[66,75] }:Zba)++{ data:=#[UInt8.ofNat vn,UInt8.ofNat kn] }++{ data:=(putN pl.size).toArray }++pl)=T at *
     have hT1:catF vn kn pl=T:=hT
     have hTl:=HL.out
     have hTz:=HZ.out
     rw[hT1] at hTl hTz
     have HTL:=zrj hTl
     have hTs:T.size<=6020:=by omega
     clear hT hT1 hTl hTz hadd2 hadd3
     have hadd4:∀W,(Op.stringOp .add T (bstr (sum4 (crc T.data.toList)))).run prog W=.ok (.string (T++bstr (sum4 (crc T.data.toList)))) W :=
      fun W=>run_string_add_sum W _ _ (by have h2:(bstr (sum4 (crc T.data.toList))).size=4:=rfl;omega)
     refine(wq4 T _ (by omega)).mono ?_
     rintro e w4 ⟨rfl,hb4⟩
     go_wp2_with fail
     go_ret2
     refine⟨?_,(hb1.trans (hb2.mono (by have:=hb1.size;exact this))).trans (hb4.mono (zrc hb1.size hb2.size))⟩
     rw[HE.out]
     refine congrArg (fun x=>Ending.returned (.tuple #[.string x,.int .i64 0])) ?_
     apply ByteArray.ext
     apply Array.ext'
     simp only[bstr,wireF,Int.toNat_natCast,<- HTL.out,ByteArray.data_append,Array.toList_append]
    ·go_simp
     refine(vjw pl.size _ (by omega)).mono ?_
     rintro e w2 ⟨rfl,hb2⟩
     have b4:=(b0.drew).below hb2 b0.lt
     refine hK.out _ _ ⟨b4.cell 0,b4.cell 1,b4.cell 2⟩ (fun hH2=>?_)
     clear hK K hHeld
     (try simp only [Act.put, List.setIfInBounds_toArray, List.set_cons_zero, List.set_cons_succ, List.getElem_toArray, List.getElem_cons_zero, List.getElem_cons_succ])
     repeat(first | refine tz 0 ?_ | refine tz 1 ?_ | refine tz 2 ?_ | refine tz 3 ?_ | refine tz 4 ?_ | refine tz 5 ?_ | refine tz 6 ?_ | refine tz 7 ?_ | refine tz 8 ?_ | refine tz 9 ?_ | refine tz 10 ?_ | refine tz 11 ?_ | refine tz 12 ?_ | refine tz 13 ?_ | refine tz 14 ?_ | refine tz 15 ?_ | refine tz 16 ?_ | refine tz 17 ?_ | refine tz 18 ?_)
     refine tr 6 rfl (fun K hK=>?_)
     go_simp
     have b5:Blk (w2.alloc (.cells #[.int .u8 (vn:Int),.int .u8 (kn:Int)] 5)) w2.heap.size 5 #[.int .u8 (vn:Int),.int .u8 (kn:Int)]:=Blk.new w2 _ _
     have b6:Blk (w2.alloc (.cells #[.int .u8 (vn:Int),.int .u8 (kn:Int)] 5)) w.heap.size 75 _:=b4.alloc _
     have hb3:Below w.heap.size w (w2.alloc (.cells #[.int .u8 (vn:Int),.int .u8 (kn:Int)] 5)):=(hb0.drew.trans (hb2.mono (by have:=hb0.size;exact this))).alloc (by have h1:=hb0.size;have h2:=hb2.size;simp at h2;omega) _
     generalize hg2:w2.heap.size=g2 at *
     generalize w2.alloc (.cells #[.int .u8 (vn:Int),.int .u8 (kn:Int)] 5)=W3 at *
     refine hK.out _ _ ⟨b6.cell 0,b6.cell 1,b6.cell 2⟩ (fun hH3=>?_)
     clear hK K hH2 hH3
     (try simp only [Act.put, List.setIfInBounds_toArray, List.set_cons_zero, List.set_cons_succ, List.getElem_toArray, List.getElem_cons_zero, List.getElem_cons_succ])
     refine vzn (S':=fun w'=>(w'.cell? ⟨w.heap.size,0,none⟩=some (.int .i64 (vn:Int))/\w'.cell? ⟨w.heap.size,1,none⟩=some (.int .i64 (kn:Int))/\w'.cell? ⟨w.heap.size,2,none⟩=some (.string pl))/\(convert 62 9 (.slice (some ⟨g2,0,none⟩) 2 2)).run prog w'=.ok (.string ⟨#[UInt8.ofNat vn,UInt8.ofNat kn]⟩) w') (fun _ h=>h.1) _ _ _ _ ?_
     have hS2:(fun w':World=>(w'.cell? ⟨w.heap.size,0,none⟩=some (.int .i64 (vn:Int))/\w'.cell? ⟨w.heap.size,1,none⟩=some (.int .i64 (kn:Int))/\w'.cell? ⟨w.heap.size,2,none⟩=some (.string pl))/\(convert 62 9 (.slice (some ⟨g2,0,none⟩) 2 2)).run prog w'=.ok (.string ⟨#[UInt8.ofNat vn,UInt8.ofNat kn]⟩) w') W3:=⟨⟨b6.cell 0,b6.cell 1,b6.cell 2⟩,wqs underlying62 underlying5 underlying9 b5 _ HC.out 2 2 rfl⟩
     repeat(first | refine tz 0 ?_ | refine tz 1 ?_ | refine tz 2 ?_ | refine tz 3 ?_ | refine tz 4 ?_ | refine tz 5 ?_ | refine tz 6 ?_ | refine tz 7 ?_ | refine tz 8 ?_ | refine tz 9 ?_ | refine tz 10 ?_ | refine tz 11 ?_ | refine tz 12 ?_ | refine tz 13 ?_ | refine tz 14 ?_ | refine tz 15 ?_ | refine tz 16 ?_ | refine tz 17 ?_ | refine tz 18 ?_)
     refine wpAnyH_done (by kernel_rfl) ?_ _
     go_wp2_with fail
     generalize hT:(({ data:=#[66,75] }:Zba)++{ data:=#[UInt8.ofNat vn,UInt8.ofNat kn] }++{ data:=(putN pl.size).toArray }++pl)=T at *
     have hT1:catF vn kn pl=T:=hT
     have hTl:=HL.out
     have hTz:=HZ.out
     rw[hT1] at hTl hTz
     have HTL:=zrj hTl
     have hTs:T.size<=6020:=by omega
     clear hT hT1 hTl hTz hadd2 hadd3
     have hadd4:∀W,(Op.stringOp .add T (bstr (sum4 (crc T.data.toList)))).run prog W=.ok (.string (T++bstr (sum4 (crc T.data.toList)))) W :=
      fun W=>run_string_add_sum W _ _ (by have h2:(bstr (sum4 (crc T.data.toList))).size=4:=rfl;omega)
     refine(wq4 T _ (by omega)).mono ?_
     rintro e w4 ⟨rfl,hb4⟩
     go_wp2_with fail
     go_ret2
     refine⟨?_,bthen hb3 hb4⟩
     rw[HE.out]
     refine congrArg (fun x=>Ending.returned (.tuple #[.string x,.int .i64 0])) ?_
     apply ByteArray.ext
     apply Array.ext'
     simp only[bstr,wireF,Int.toNat_natCast,<- HTL.out,ByteArray.data_append,Array.toList_append]
  ·have hE:encF v k pl.data.toList=([],1):=by unfold encF;rw[if_neg (fun h=>hk ⟨h.2.2.1,h.2.2.2⟩)]
   have HE:=zrj hE
   clear hE hl
   go_enter func20,ntmps20
   go_wp2_with fail
   refine(uvs _ _ hv.1 hv.2).mono ?_
   rintro e w1 ⟨rfl,rfl⟩
   go_wp2_with fail
   refine(wjq _ _ (by omega)).mono ?_
   rintro e w1 ⟨rfl,rfl⟩
   go_wp2_with fail
   go_ret2
   exact⟨by rw[HE.out];rfl,(zri _ _).alloc (zra _) _⟩
 ·have hE:encF v k pl.data.toList=([],1):=by unfold encF;rw[if_neg (fun h=>hv ⟨h.1,h.2.1⟩)]
  have HE:=zrj hE
  clear hE hl
  go_enter func20,ntmps20
  go_wp2_with fail
  refine(vkk _ _ (by omega)).mono ?_
  rintro e w1 ⟨rfl,rfl⟩
  go_wp2_with fail
  go_ret2
  exact⟨by rw[HE.out];rfl,(zri _ _).alloc (zra _) _⟩
theorem uyq (i:Nat) (c:UInt8) (h:i<4):badAt i c=0\/(i<2/\badAt i c=4)\/(2<=i/\badAt i c=1):=by
 unfold badAt
 split
 ·split <;> omega
 ·split
  ·split <;> omega
  ·split
   ·split <;> omega
   ·split <;> omega
theorem decF_def {l:Zlu} (h0:hdE 4 0 l=0) (h4:4<=l.length):decF l =
 (if(rd (l.drop 4)).2.2≠0 then .err (rd (l.drop 4)).2.2 else if 6000<(rd (l.drop 4)).1 then .err 2 else
 if l.length<4+(rd (l.drop 4)).2.1+(rd (l.drop 4)).1+4 then .err 3 else
 if sum4 (crc (l.take (4+(rd (l.drop 4)).2.1+(rd (l.drop 4)).1)))≠(l.drop (4+(rd (l.drop 4)).2.1+(rd (l.drop 4)).1)).take 4 then .err 5 else
 ⟨0,(l.getD 2 0).toNat,(l.getD 3 0).toNat,(l.drop (4+(rd (l.drop 4)).2.1)).take (rd (l.drop 4)).1,4+(rd (l.drop 4)).2.1+(rd (l.drop 4)).1+4⟩):=by
 rw[decF,if_neg (by rw[h0];simp),if_neg (by omega)]
def decV (r:DecR):Value:=.tuple #[.agg #[.int .i64 r.ver,.int .i64 r.kind,.string (bstr r.pl)],.int .i64 r.n,.int .i64 r.e]
theorem uk2 (e:Nat):decV (.err e)=.tuple #[.agg zfr,.int .i64 0,.int .i64 e]:=rfl
theorem vji (s:Zba) (w:World) (hs:s.size<=4611686018427387904) :
  Calls prog 44 #[.string s] w fun e w'=>e=.returned (decV (decF s.data.toList))/\Below w.heap.size w w':=by
 have hl:s.data.toList.length=s.size:=by simp
 have hz:∀W,(zeroValue 75).run prog W=.ok (.agg zfr) W:=by
  obtain⟨i0,hi,hz0,hz1,hz2⟩:=info_parts uv6
  intro W;simp[zeroValue,typeInfo,hi,hz0]
 obtain⟨m,hm⟩:∃m,m=min s.size 4:=⟨_,rfl⟩
 have hmin:∀W,(Builtin.min_ #[3,3] 3 #[.int .i64 (s.size:Int),.int .i64 4]).run prog W=.ok (.int .i64 (m:Int)) W:=by
  intro W;rw[run_min_int2];congr 2;split <;> omega
 have hm4:m<=4:=by omega
 have hms:m<=s.size:=by omega
 have hm':(s.size<4/\m=s.size)\/(4<=s.size/\m=4):=by omega
 have HM:=zrj hm'
 have hm0:(({ data:=#[66,75] }:Zba)[0]'(by decide)).toNat=66:=rfl
 have hm1:(({ data:=#[66,75] }:Zba)[1]'(by decide)).toNat=75:=rfl
 clear hm hm'
 go_enter func44,ntmps44
 go_wp2_with fail
 have hblk:=Blk.new w 75 zfr
 have hbel:=zsa w (.cells zfr 75)
 generalize w.alloc (.cells zfr 75)=W at *
 clear hz hmin
 go_loop [16] (fun i=>∃k:Nat,k<=m/\i=.int .i64 k/\Hid (hdE 4 0 s.data.toList=hdE (4-k) k (s.data.toList.drop k))) (fun i=>m-(intOf i).toNat)
 case atStart=>exact⟨0,by omega,rfl,rfl⟩
 case round =>
  obtain⟨k,hk,rfl,H⟩:=hrel
  by_cases hlt:k<m
  ·have hks:k<s.size:=by omega
   have H1:=H.out
   have hf:4-k=(4-(k+1))+1:=by omega
   rw[vvn s k hks,hf,hdE] at H1
   have hcb:=(s[k]).toNat_lt
   by_cases hbad:badAt k s[k]=0
   ·rw[if_pos hbad] at H1
    have HH:=zrj H1
    clear H H1 hf
    have h4:k=0\/k=1\/k=2\/k=3:=by omega
    rcases h4 with rfl | rfl | rfl | rfl
    ·have hc:s[0]=66:=by
      unfold badAt at hbad;simp at hbad;exact hbad
     have hc2:((s[0].toNat:Int) == 66)=true:=by rw[hc];rfl
     have hc3:((s[0].toNat:Int) != 66)=false:=by rw[hc];rfl
     clear hc hbad
     go_wp2_with fail
     go_round
     case rel=>exact⟨1,by omega,by go_num,HH⟩
     case measure=>simp[intOf];omega
    ·have hc:s[1]=75:=by
      unfold badAt at hbad;simp at hbad;exact hbad
     have hc2:((s[1].toNat:Int) == 75)=true:=by rw[hc];rfl
     have hc3:((s[1].toNat:Int) != 75)=false:=by rw[hc];rfl
     clear hc hbad
     go_wp2_with fail
     go_round
     case rel=>exact⟨2,by omega,by go_num,HH⟩
     case measure=>simp[intOf];omega
    ·have hc:1<=s[2].toNat/\s[2].toNat<=3:=by
      unfold badAt at hbad;simp at hbad;exact hbad
     have hc1:=hc.1
     have hc2:=hc.2
     clear hc hbad
     go_wp2_with(first | (go_at_call 40;refine(uvs _ _ (by omega) (by omega)).mono ?_;rintro e w1 ⟨rfl,rfl⟩))
     go_round
     case rel=>exact⟨3,by omega,by go_num,HH⟩
     case measure=>simp[intOf];omega
    ·have hc:1<=s[3].toNat/\s[3].toNat<=4:=by
      unfold badAt at hbad;simp at hbad;exact hbad
     have hc1:=hc.1
     have hc2:=hc.2
     clear hc hbad
     go_wp2_with(first | (go_at_call 41;refine(vju _ _ (by omega) (by omega)).mono ?_;rintro e w1 ⟨rfl,rfl⟩))
     go_round
     case rel=>exact⟨4,by omega,by go_num,HH⟩
     case measure=>simp[intOf];omega
   ·rw[if_neg hbad] at H1
    have h4:k=0\/k=1\/k=2\/k=3:=by omega
    have hE:decF s.data.toList=.err (badAt k s[k]):=by unfold decF;rw[if_pos (by rw[H1];exact hbad),H1]
    clear H H1 hf
    rcases h4 with rfl | rfl | rfl | rfl
    ·have hc:¬s[0]=66:=by
      intro h;apply hbad;unfold badAt;simp[h]
     have hn:¬s[0].toNat=66:=fun h=>hc (UInt8.toNat_inj.1 (by rw[h];rfl))
     have hc2:((s[0].toNat:Int) == 66)=false:=by rw[zrf];omega
     have hc3:((s[0].toNat:Int) != 66)=true:=by rw[bne_iff_ne];omega
     have hE2:decF s.data.toList=.err 4:=by
      rw[hE];rcases uyq 0 s[0] (by omega) with h | ⟨_,h⟩ | ⟨h,_⟩
      ·exact absurd h hbad
      ·rw[h]
      ·omega
     have HE:=zrj hE2
     clear hc hn hbad hE hE2
     go_wp2_with(first | (go_at_call 67;refine(uk6 _ _).mono ?_;rintro e w1 ⟨rfl,hb1⟩) | (refine uqc rfl _ _ _ rfl w.heap.size rfl _ _ _ (hblk.bl hb1) rfl uqx rfl uwq ?_))
     (try simp only[Exit.inBlock,Exit.then])
     refine bodyPost_ret (uxe rfl _ rfl ((hblk.bl hb1).setRow zfr) underlying75 rfl uqx) rfl ?_
     exact⟨by rw[HE.out,uk2];rfl,uqh (bthen hbel hb1) (zra _) _⟩
    ·have hc:¬s[1]=75:=by
      intro h;apply hbad;unfold badAt;simp[h]
     have hn:¬s[1].toNat=75:=fun h=>hc (UInt8.toNat_inj.1 (by rw[h];rfl))
     have hc2:((s[1].toNat:Int) == 75)=false:=by rw[zrf];omega
     have hc3:((s[1].toNat:Int) != 75)=true:=by rw[bne_iff_ne];omega
     have hE2:decF s.data.toList=.err 4:=by
      rw[hE];rcases uyq 1 s[1] (by omega) with h | ⟨_,h⟩ | ⟨h,_⟩
      ·exact absurd h hbad
      ·rw[h]
      ·omega
     have HE:=zrj hE2
     clear hc hn hbad hE hE2
     go_wp2_with(first | (go_at_call 67;refine(uk6 _ _).mono ?_;rintro e w1 ⟨rfl,hb1⟩) | (refine uqc rfl _ _ _ rfl w.heap.size rfl _ _ _ (hblk.bl hb1) rfl uqx rfl uwq ?_))
     (try simp only[Exit.inBlock,Exit.then])
     refine bodyPost_ret (uxe rfl _ rfl ((hblk.bl hb1).setRow zfr) underlying75 rfl uqx) rfl ?_
     exact⟨by rw[HE.out,uk2];rfl,uqh (bthen hbel hb1) (zra _) _⟩
    ·have hc:¬(1<=s[2].toNat/\s[2].toNat<=3):=by
      intro h;apply hbad;unfold badAt;simp[h]
     have hE2:decF s.data.toList=.err 1:=by
      rw[hE];rcases uyq 2 s[2] (by omega) with h | ⟨h,_⟩ | ⟨_,h⟩
      ·exact absurd h hbad
      ·omega
      ·rw[h]
     have HE:=zrj hE2
     clear hbad hE hE2
     go_wp2_with(first | (go_at_call 40;refine(vkk _ _ (by omega)).mono ?_;rintro e w1 ⟨rfl,rfl⟩) | (go_at_call 67;refine(uk6 _ _).mono ?_;rintro e w1 ⟨rfl,hb1⟩) | (refine uqc rfl _ _ _ rfl w.heap.size rfl _ _ _ (hblk.bl hb1) rfl uqx rfl uwq ?_))
     (try simp only[Exit.inBlock,Exit.then])
     refine bodyPost_ret (uxe rfl _ rfl ((hblk.bl hb1).setRow zfr) underlying75 rfl uqx) rfl ?_
     exact⟨by rw[HE.out,uk2];rfl,uqh (bthen hbel hb1) (zra _) _⟩
    ·have hc:¬(1<=s[3].toNat/\s[3].toNat<=4):=by
      intro h;apply hbad;unfold badAt;simp[h]
     have hE2:decF s.data.toList=.err 1:=by
      rw[hE];rcases uyq 3 s[3] (by omega) with h | ⟨h,_⟩ | ⟨_,h⟩
      ·exact absurd h hbad
      ·omega
      ·rw[h]
     have HE:=zrj hE2
     clear hbad hE hE2
     go_wp2_with(first | (go_at_call 41;refine(wjq _ _ (by omega)).mono ?_;rintro e w1 ⟨rfl,rfl⟩) | (go_at_call 67;refine(uk6 _ _).mono ?_;rintro e w1 ⟨rfl,hb1⟩) | (refine uqc rfl _ _ _ rfl w.heap.size rfl _ _ _ (hblk.bl hb1) rfl uqx rfl uwq ?_))
     (try simp only[Exit.inBlock,Exit.then])
     refine bodyPost_ret (uxe rfl _ rfl ((hblk.bl hb1).setRow zfr) underlying75 rfl uqx) rfl ?_
     exact⟨by rw[HE.out,uk2];rfl,uqh (bthen hbel hb1) (zra _) _⟩
  ·obtain rfl:k=m:=by omega
   have H1:=H.out
   clear H
   rcases HM.out with⟨h4,hk4⟩ | ⟨h4,hk4⟩
   ·have hE:decF s.data.toList=.err 3:=by
     have h0:hdE 4 0 s.data.toList=0:=by
      rw[H1,List.drop_of_length_le (by omega)]
      rw[show 4-k=(3-k)+1 by omega];rfl
     unfold decF;rw[if_neg (by rw[h0];simp),if_pos (by omega)]
    have HE:=zrj hE
    clear hE H1 hl hk4
    go_wp2_with(first | (go_at_call 67;refine(uk6 _ _).mono ?_;rintro e w1 ⟨rfl,hb1⟩) | (refine uqc rfl _ _ _ rfl w.heap.size rfl _ _ _ (hblk.bl hb1) rfl uqx rfl uwq ?_))
    (try simp only[Exit.inBlock,Exit.then])
    refine bodyPost_ret (uxe rfl _ rfl ((hblk.bl hb1).setRow zfr) underlying75 rfl uqx) rfl ?_
    exact⟨by rw[HE.out,uk2];rfl,uqh (bthen hbel hb1) (zra _) _⟩
   ·obtain rfl:k=4:=hk4
    have h0:hdE 4 0 s.data.toList=0:=by rw[H1];rfl
    have hR:∀w,_:=fun w=>uww (s.extract 4 s.size) w
    have hx:(s.extract 4 s.size).data.toList=s.data.toList.drop 4:=by
     simp only[ByteArray.data_extract,Array.toList_extract,List.extract_eq_take_drop]
     exact List.take_of_length_le (by simp)
    rw[hx] at hR
    have hD:=decF_def h0 (by omega)
    have h4i:(4:Int)<=s.size:=by omega
    by_cases he:(rd (s.data.toList.drop 4)).2.2=0
    ·obtain⟨n,k,hr,hp,hk1,hk10,hkl,hn,hall⟩:=rd_ok _ he
     rw[hr] at hR hD
     have HR:=zrj hR
     have hkz:4+k<=s.size:=by simp at hkl;omega
     obtain⟨F,hF⟩:∃F,F=4+k:=⟨_,rfl⟩
     have hF1:(4:Int)+(k:Int)=(F:Int):=by omega
     clear hR hr he hp hall hkl h0 H1 hx
     by_cases h6:6000<n
     ·have hE:decF s.data.toList=.err 2:=by rw[hD];simp only[];rw[if_neg (by simp),if_pos h6]
      have HE:=zrj hE
      clear hE hD hl hF
      go_wp2_with(first | (go_at_call 68;refine(HR.out _).mono ?_;rintro e w1 ⟨rfl,rfl⟩) | (go_at_call 67;refine(uk6 _ _).mono ?_;rintro e w1 ⟨rfl,hb1⟩) | (refine uqc rfl _ _ _ rfl w.heap.size rfl _ _ _ (hblk.bl hb1) rfl uqx rfl uwq ?_))
      (try simp only[Exit.inBlock,Exit.then])
      refine bodyPost_ret (uxe rfl _ rfl ((hblk.bl hb1).setRow zfr) underlying75 rfl uqx) rfl ?_
      exact⟨by rw[HE.out,uk2];rfl,uqh (bthen hbel hb1) (zra _) _⟩
     ·have hn6:n<=6000:=by omega
      obtain⟨E,hEE⟩:∃E,E=F+n:=⟨_,rfl⟩
      have hE1:(F:Int)+(n:Int)=(E:Int):=by omega
      have hFw:IntKind.i64.wrap ((F:Int)+(n:Int))=(E:Int):=by rw[hE1];exact IntWalk.i64_in _ (by omega)
      obtain⟨G,hG⟩:∃G,G=E+4:=⟨_,rfl⟩
      have hG1:(E:Int)+4=(G:Int):=by omega
      have HG:=zrj hG
      have hGw:IntKind.i64.wrap ((E:Int)+4)=(G:Int):=by rw[hG1];exact IntWalk.i64_in _ (by omega)
      have hGw2:IntKind.i64.wrap (G:Int)=(G:Int):=IntWalk.i64_in _ (by omega)
      by_cases h3:s.size<G
      ·have hE:decF s.data.toList=.err 3:=by rw[hD];simp only[];rw[if_neg (by simp),if_neg (by omega),if_pos (by omega)]
       have HE:=zrj hE
       clear hE hD hl hF hEE hG
       go_wp2_with(first | (go_at_call 68;refine(HR.out _).mono ?_;rintro e w1 ⟨rfl,rfl⟩) | (go_at_call 67;refine(uk6 _ _).mono ?_;rintro e w1 ⟨rfl,hb1⟩) | (refine uqc rfl _ _ _ rfl w.heap.size rfl _ _ _ (hblk.bl hb1) rfl uqx rfl uwq ?_))
       (try simp only[Exit.inBlock,Exit.then])
       refine bodyPost_ret (uxe rfl _ rfl ((hblk.bl hb1).setRow zfr) underlying75 rfl uqx) rfl ?_
       exact⟨by rw[HE.out,uk2];rfl,uqh (bthen hbel hb1) (zra _) _⟩
      ·have hGs:(G:Int)<=s.size:=by omega
       have hEG:(E:Int)<=G:=by omega
       have hFE:(F:Int)<=E:=by omega
       have hEs:(E:Int)<=s.size:=by omega
       have hsz:(s.extract 0 E).size<=4611686018427387904:=by rw[ByteArray.size_extract];omega
       have hHS:=fun w=>wq4 (s.extract 0 E) w hsz
       have hx1:(s.extract 0 E).data.toList=s.data.toList.take E:=by simp[ByteArray.data_extract]
       have hx2:(s.extract E G).toList=(s.data.toList.drop E).take 4:=by
        rw[ByteArray.toList_eq];simp only[ByteArray.data_extract,Array.toList_extract,List.extract_eq_take_drop];rw[hG,Nat.add_sub_cancel_left]
       rw[hx1] at hHS
       have hD2:=hD
       simp only[] at hD2
       rw[if_neg (by simp),if_neg (by omega),if_neg (by omega),<- hF,<- hEE] at hD2
       clear hD
       generalize hC:crc (s.data.toList.take E)=C at *
       have HS:=zrj hHS
       clear hHS hC hsz
       by_cases hsm:sum4 C=(s.data.toList.drop E).take 4
       ·rw[if_neg (by simpa using hsm)] at hD2
        have b1:((bstr (sum4 C)).toList == (s.extract E G).toList)=true:=by rw[hx2,<- hsm,bstr,ByteArray.toList_mk];simp
        have b2:((bstr (sum4 C)).toList != (s.extract E G).toList)=false:=by rw[bne,b1];rfl
        have h2s:2<s.size:=by omega
        have h3s:3<s.size:=by omega
        have i2s:(2:Int)<s.size:=by omega
        have i3s:(3:Int)<s.size:=by omega
        have hx3:s.extract F E=bstr ((s.data.toList.drop F).take n):=by
         apply ByteArray.ext;apply Array.ext'
         simp only[bstr,ByteArray.data_extract,Array.toList_extract,List.extract_eq_take_drop];rw[hEE,Nat.add_sub_cancel_left]
        have hg2:s.data.toList.getD 2 0=s[2]:=by simp[List.getD,h2s];rfl
        have hg3:s.data.toList.getD 3 0=s[3]:=by simp[List.getD,h3s];rfl
        rw[hg2,hg3] at hD2
        have HE:=zrj hD2
        have HX:=zrj hx3
        clear hD2 hsm hx1 hx2 hx3 hg2 hg3 hl hF hEE hG
        go_wp2_with(go_at_call 68;refine(HR.out _).mono ?_;rintro e w1 ⟨rfl,rfl⟩)
        go_region_held3 (fun _=>True) (trivial) ((go_at_call 43;refine(HS.out _).mono ?_;rintro e w2 ⟨rfl,hb2⟩))
        have hblk2:Blk w2 w.heap.size 75 zfr:=(hblk.drew).below hb2 hblk.lt
        have hbel2:Below w.heap.size w w2:=hbel.drew.trans (hb2.mono hbel.size)
        have c0:w2.cell? ⟨w.heap.size,0,none⟩=some (.int .i64 0):=by rw[hblk2.cell];rfl
        have c1:w2.cell? ⟨w.heap.size,1,none⟩=some (.int .i64 0):=by rw[hblk2.cell];rfl
        have c2:w2.cell? ⟨w.heap.size,2,none⟩=some (.string .empty):=by rw[hblk2.cell];rfl
        have f0:=hblk2.frozen 0
        have f1:=hblk2.frozen 1
        have f2:=hblk2.frozen 2
        have c0':w2.drew.cell? ⟨w.heap.size,0,none⟩=some (.int .i64 0):=c0
        have c1':w2.drew.cell? ⟨w.heap.size,1,none⟩=some (.int .i64 0):=c1
        have c2':w2.drew.cell? ⟨w.heap.size,2,none⟩=some (.string .empty):=c2
        have f0':w2.drew.frozen? ⟨w.heap.size,0,none⟩=false:=f0
        have f1':w2.drew.frozen? ⟨w.heap.size,1,none⟩=false:=f1
        have f2':w2.drew.frozen? ⟨w.heap.size,2,none⟩=false:=f2
        go_wp2_with fail
        go_big_region
        go_wp2_with fail
        (try simp only[Exit.inBlock,Exit.then])
        have e2:wrap64 (s[2].toNat:Int)=(s[2].toNat:Int):=by have:=s[2].toNat_lt;unfold wrap64;omega
        have e3:wrap64 (s[3].toNat:Int)=(s[3].toNat:Int):=by have:=s[3].toNat_lt;unfold wrap64;omega
        rw[e2,e3,HX.out]
        have hB:Blk (((w2.setCell ⟨w.heap.size,0,none⟩ (.int .i64 (s[2].toNat:Int))).setCell ⟨w.heap.size,1,none⟩ (.int .i64 (s[3].toNat:Int))).setCell ⟨w.heap.size,2,none⟩ (.string (bstr ((s.data.toList.drop F).take n)))).drew w.heap.size 75 #[.int .i64 (s[2].toNat:Int),.int .i64 (s[3].toNat:Int),.string (bstr ((s.data.toList.drop F).take n))] :=
         ((hblk2.set_ 0 _).set_ 1 _).set_ 2 _
        refine bodyPost_ret (uxe rfl _ rfl hB underlying75 rfl uqx) rfl ?_
        refine⟨?_,(((hbel2.setCell (zra _) _).setCell (zra _) _).setCell (zra _) _).drew⟩
        rw[HE.out,<- HG.out]
        rfl
       ·have hE:decF s.data.toList=.err 5:=by rw[hD2,if_pos hsm]
        have b1:((bstr (sum4 C)).toList == (s.extract E G).toList)=false:=by
         rw[zrf,hx2,bstr,ByteArray.toList_mk];exact hsm
        have b2:((bstr (sum4 C)).toList != (s.extract E G).toList)=true:=by rw[bne,b1];rfl
        have HE:=zrj hE
        clear hE hD2 hsm hx1 hx2 hl hF hEE hG
        go_wp2_with(go_at_call 68;refine(HR.out _).mono ?_;rintro e w1 ⟨rfl,rfl⟩)
        go_region_held3 (fun _=>True) (trivial) ((go_at_call 43;refine(HS.out _).mono ?_;rintro e w2 ⟨rfl,hb2⟩))
        have hblk2:Blk w2 w.heap.size 75 zfr:=(hblk.drew).below hb2 hblk.lt
        have hbel2:Below w.heap.size w w2:=hbel.drew.trans (hb2.mono hbel.size)
        clear hblk hbel
        go_wp2_with(first | (go_at_call 67;refine(uk6 _ _).mono ?_;rintro e w1 ⟨rfl,hb1⟩) | (refine uqc rfl _ _ _ rfl w.heap.size rfl _ _ _ (hblk2.bl hb1) rfl uqx rfl uwq ?_))
        (try simp only[Exit.inBlock,Exit.then])
        refine bodyPost_ret (uxe rfl _ rfl ((hblk2.bl hb1).setRow zfr) underlying75 rfl uqx) rfl ?_
        exact⟨by rw[HE.out,uk2];rfl,uqh (bthen hbel2 hb1) (zra _) _⟩
    ·rcases rd_err _ he with hr | hr
     all_goals
      rw[hr] at hR hD
      have HR:=zrj hR
     ·have hE:decF s.data.toList=.err 3:=by rw[hD];rfl
      have HE:=zrj hE
      clear hR hD hr he hE h0 H1 hl hx
      go_wp2_with(first | (go_at_call 68;refine(HR.out _).mono ?_;rintro e w1 ⟨rfl,rfl⟩) | (go_at_call 67;refine(uk6 _ _).mono ?_;rintro e w1 ⟨rfl,hb1⟩) | (refine uqc rfl _ _ _ rfl w.heap.size rfl _ _ _ (hblk.bl hb1) rfl uqx rfl uwq ?_))
      (try simp only[Exit.inBlock,Exit.then])
      refine bodyPost_ret (uxe rfl _ rfl ((hblk.bl hb1).setRow zfr) underlying75 rfl uqx) rfl ?_
      exact⟨by rw[HE.out,uk2];rfl,uqh (bthen hbel hb1) (zra _) _⟩
     ·have hE:decF s.data.toList=.err 4:=by rw[hD];rfl
      have HE:=zrj hE
      clear hR hD hr he hE h0 H1 hl hx
      go_wp2_with(first | (go_at_call 68;refine(HR.out _).mono ?_;rintro e w1 ⟨rfl,rfl⟩) | (go_at_call 67;refine(uk6 _ _).mono ?_;rintro e w1 ⟨rfl,hb1⟩) | (refine uqc rfl _ _ _ rfl w.heap.size rfl _ _ _ (hblk.bl hb1) rfl uqx rfl uwq ?_))
      (try simp only[Exit.inBlock,Exit.then])
      refine bodyPost_ret (uxe rfl _ rfl ((hblk.bl hb1).setRow zfr) underlying75 rfl uqx) rfl ?_
      exact⟨by rw[HE.out,uk2];rfl,uqh (bthen hbel hb1) (zra _) _⟩
theorem vxn (n:Nat) (h:n<256):(UInt8.ofNat n).toNat=n:=by simp only[UInt8.toNat_ofNat'];omega
theorem vqg (v k:Nat) (pl:Zlu):(bodyF v k pl).length=4+(putN pl.length).length+pl.length:=by
 simp[bodyF];omega
theorem uze (v k:Nat) (pl:Zlu):(wireF v k pl).length=8+(putN pl.length).length+pl.length:=by
 simp[wireF,vqg,sum4];omega
theorem vw0 (v k:Nat) (pl:Zlu):wireF v k pl=66::75::UInt8.ofNat v::UInt8.ofNat k::(putN pl.length++(pl++sum4 (crc (bodyF v k pl)))):=by
 simp[wireF,bodyF]
theorem wy0 (v k:Nat) (hv:1<=v/\v<=3) (hk:1<=k/\k<=4) (r:Zlu) (j:Nat):hdE 4 0 ((66::75::UInt8.ofNat v::UInt8.ofNat k::r).take j)=0:=by
 have h1:=vxn v (by omega)
 have h2:=vxn k (by omega)
 have b0:badAt 0 66=0:=rfl
 have b1:badAt 1 75=0:=rfl
 have b2:badAt 2 (UInt8.ofNat v)=0:=by unfold badAt;rw[h1];simp[hv]
 have b3:badAt 3 (UInt8.ofNat k)=0:=by unfold badAt;rw[h2];simp[hk]
 match j with
 | 0=>rfl
 | 1=>simp[hdE,b0]
 | 2=>simp[hdE,b0,b1]
 | 3=>simp[hdE,b0,b1,b2]
 | j+4=>simp[hdE,b0,b1,b2,b3]
theorem vqj (v k:Nat) (pl more:Zlu) (hv:1<=v/\v<=3) (hk:1<=k/\k<=4) (hp:pl.length<=6000) :
  decF (wireF v k pl++more)=⟨0,v,k,pl,(wireF v k pl).length⟩:=by
 have hl:=uze v k pl
 have hs:wireF v k pl++more=66::75::UInt8.ofNat v::UInt8.ofNat k::(putN pl.length++(pl++(sum4 (crc (bodyF v k pl))++more))):=by
  rw[vw0];simp
 have h0:hdE 4 0 (wireF v k pl++more)=0:=by
  have:=wy0 v k hv hk (putN pl.length++(pl++(sum4 (crc (bodyF v k pl))++more))) (wireF v k pl++more).length
  rw[<- hs,List.take_length] at this;exact this
 have hr:rd ((wireF v k pl++more).drop 4)=(pl.length,(putN pl.length).length,0):=by
  rw[hs];simp only[List.drop_succ_cons,List.drop_zero]
  exact vz3 _ _ (by omega)
 have hb:(wireF v k pl++more).take (4+(putN pl.length).length+pl.length)=bodyF v k pl:=by
  rw[<- vqg v k pl]
  simp[wireF]
 have ht:((wireF v k pl++more).drop (4+(putN pl.length).length+pl.length)).take 4=sum4 (crc (bodyF v k pl)):=by
  rw[<- vqg v k pl]
  simp[wireF,zrh,sum4]
 have hq:((wireF v k pl++more).drop (4+(putN pl.length).length)).take pl.length=pl:=by
  rw[hs]
  rw[show 4+(putN pl.length).length=(putN pl.length).length+4 by omega]
  simp only[List.drop_succ_cons]
  simp
 have hlen:(wireF v k pl++more).length=8+(putN pl.length).length+pl.length+more.length:=by rw[zrb,hl]
 rw[decF,if_neg (by rw[h0];simp),if_neg (by omega),hr]
 simp only[]
 rw[if_neg (by simp),if_neg (by omega),if_neg (by omega),hb,ht,if_neg (by simp),hq]
 have g2:(wireF v k pl++more).getD 2 0=UInt8.ofNat v:=by rw[hs];rfl
 have g3:(wireF v k pl++more).getD 3 0=UInt8.ofNat k:=by rw[hs];rfl
 rw[g2,g3,vxn v (by omega),vxn k (by omega),hl]
 congr 1
 omega
theorem decF_err (l:Zlu) (h:(decF l).e≠0):decF l=.err (decF l).e:=by
 unfold decF at h ⊢
 (repeat' split) <;> first | rfl | (exfalso;simp_all)
theorem uws (l:Zlu) (h:(decF l).e=0) :
  (1<=(decF l).ver/\(decF l).ver<=3)/\(1<=(decF l).kind/\(decF l).kind<=4)/\(decF l).pl.length<=6000/\wireF (decF l).ver (decF l).kind (decF l).pl=l.take (decF l).n/\(decF l).n<=l.length:=by
 by_cases h0:hdE 4 0 l=0
 ·by_cases h4:l.length<4
  ·rw[decF,if_neg (by rw[h0];simp),if_pos h4] at h;exact absurd h (by decide)
  ·have hD:=decF
   by_cases hr0:(rd (l.drop 4)).2.2=0
   ·obtain⟨n,k,hr,hp,hk1,hk10,hkl,hn,_⟩:=rd_ok _ hr0
    rw[decF,if_neg (by rw[h0];simp),if_neg h4,hr] at h ⊢
    simp only[] at h ⊢
    rw[if_neg (by simp)] at h ⊢
    by_cases h6:6000<n
    ·rw[if_pos h6] at h;exact absurd h (by decide)
    ·rw[if_neg h6] at h ⊢
     by_cases h3:l.length<4+k+n+4
     ·rw[if_pos h3] at h;exact absurd h (by decide)
     ·rw[if_neg h3] at h ⊢
      by_cases hs:sum4 (crc (l.take (4+k+n)))≠(l.drop (4+k+n)).take 4
      ·rw[if_pos hs] at h;exact absurd h (by decide)
      ·rw[if_neg hs]
       simp only[]
       match l,h4 with
       | a::b::c::d::r,_ =>
        simp only[hdE] at h0
        by_cases b0:badAt 0 a=0
        ·rw[if_pos b0] at h0
         by_cases b1:badAt 1 b=0
         ·rw[if_pos b1] at h0
          by_cases b2:badAt 2 c=0
          ·rw[if_pos b2] at h0
           by_cases b3:badAt 3 d=0
           ·have ea:a=66:=by simp[badAt] at b0;exact b0
            have eb:b=75:=by simp[badAt] at b1;exact b1
            have ec:1<=c.toNat/\c.toNat<=3:=by simp[badAt] at b2;exact b2
            have ed:1<=d.toNat/\d.toNat<=4:=by simp[badAt] at b3;exact b3
            subst ea;subst eb
            have g2:(66::75::c::d::r).getD 2 0=c:=rfl
            have g3:(66::75::c::d::r).getD 3 0=d:=rfl
            rw[g2,g3]
            simp only[List.drop_succ_cons,List.drop_zero,List.length_cons] at hp hkl h3
            have hpl:((66::75::c::d::r).drop (4+k)).take n=(r.drop k).take n:=by
             rw[show 4+k=k+4 by omega];simp
            rw[hpl]
            have hpn:((r.drop k).take n).length=n:=by rw[List.length_take,List.length_drop];omega
            refine⟨ec,ed,by omega,?_,by simp only[List.length_cons];omega⟩
            have hbody:bodyF c.toNat d.toNat ((r.drop k).take n)=(66::75::c::d::r).take (4+k+n):=by
             unfold bodyF
             rw[hpn,hp]
             rw[show 4+k+n=(k+n)+4 by omega]
             simp only[List.take_succ_cons,UInt8.ofNat_toNat,List.cons_append,List.nil_append,zrh]
             rw[List.take_add]
            unfold wireF
            rw[hbody,Classical.not_not.1 hs,<- List.take_add]
           ·rw[if_neg b3] at h0;exact absurd h0 b3
          ·rw[if_neg b2] at h0;exact absurd h0 b2
         ·rw[if_neg b1] at h0;exact absurd h0 b1
        ·rw[if_neg b0] at h0;exact absurd h0 b0
   ·rw[decF,if_neg (by rw[h0];simp),if_neg h4,if_pos hr0] at h
    exact absurd h hr0
 ·rw[decF,if_pos h0] at h;exact absurd h h0
def frV (v k:Int) (pl:Zba):Value:=.agg #[.int .i64 v,.int .i64 k,.string pl]
theorem xjh (W:World):(zeroValue 75).run prog W=.ok (.agg zfr) W:=by
 obtain⟨i0,hi,hz0,hz1,hz2⟩:=info_parts uv6
 simp[zeroValue,typeInfo,hi,hz0]
theorem vql (v k:Int) (pl:Zba):(#[.int .i64 v,.int .i64 k,.string pl]:Array Value).all (·.oneCell')=true:=by simp[Value.oneCell']
theorem vvo (v k:Nat) (pl:Zlu) (hv:1<=v/\v<=3) (hk:1<=k/\k<=4) (hp:pl.length<=6000) (w:World) :
  Calls prog 20 #[.agg #[.int .i64 (v:Int),.int .i64 (k:Int),.string (bstr pl)]] w fun e w'=>e=.returned (.tuple #[.string (bstr (wireF v k pl)),.int .i64 0])/\Below w.heap.size w w':=by
 have h:=uw3 v k (bstr pl) w (by rw[uqz];omega) (by omega) (by omega) (by omega) (by omega)
 rw[uqu] at h
 have e:encF v k pl=(wireF v k pl,0):=by
  unfold encF;rw[if_pos (by unfold goodF;omega),if_neg (by omega)];simp
 rw[e] at h
 exact h
theorem vyg (s:Zba) (hz:s.size<=4611686018427387904) (he:(decF s.data.toList).e≠0) (w:World) :
  Calls prog 44 #[.string s] w fun e w'=>e=.returned (.tuple #[.agg #[.int .i64 0,.int .i64 0,.string .empty],.int .i64 0,.int .i64 ((decF s.data.toList).e:Int)])/\Below w.heap.size w w':=by
 have h:=vji s w hz
 rw[decF_err _ he] at h
 exact h
theorem vvi (s:Zba) (hz:s.size<=4611686018427387904) (he:(decF s.data.toList).e=0) (w:World) :
  Calls prog 44 #[.string s] w fun e w'=>e=.returned (.tuple #[.agg #[.int .i64 ((decF s.data.toList).ver:Int),.int .i64 ((decF s.data.toList).kind:Int),.string (bstr (decF s.data.toList).pl)],.int .i64 ((decF s.data.toList).n:Int),.int .i64 0])/\Below w.heap.size w w':=by
 have h:=vji s w hz
 unfold decV at h
 rw[he] at h
 exact h
theorem ujx (W:World):(zeroValue 75).run prog W=.ok (.agg #[.int .i64 0,.int .i64 0,.string .empty]) W:=xjh W
def sfrR (v:Int) (s:St):Zlu×Nat:=if(encR v s).2≠0 then([],(encR v s).2) else encF v 1 (encR v s).1
theorem vy8 (s:St) (v:Int) (p1 p2 p3:Zoa) (c1 c2 c3:Nat) (w:World) (hm:StM w w.heap.size p1 p2 p3 s) (hz:StSz s) (hT:Tabs w) (hl:(encR v s).1.length<=4611686018427387904) (v1 : -9223372036854775808<=v) (v2:v<=9223372036854775807) :
  Calls prog 13 #[.agg (stv s p1 p2 p3 c1 c2 c3),.int .i64 v] w fun e w'=>e=.returned (.tuple #[.string (bstr (sfrR v s).1),.int .i64 ((sfrR v s).2:Int)])/\Below w.heap.size w w':=by
 have hb0:=zsa w (.cells (stv s p1 p2 p3 c1 c2 c3) 26)
 have hzf:=ujx
 have hE:=wz1 s v p1 p2 p3 c1 c2 c3 _ ((hm.below hb0).more hb0.size) hz (hT.below hb0)
 have HE:=zrj hE
 clear hE hm hz hT
 by_cases h0:(encR v s).2=0
 ·have hR:sfrR v s=encF v 1 (encR v s).1:=by unfold sfrR;rw[if_neg (by rw[h0];simp)]
  have hF:=fun(W:World)=>uw3 v 1 (bstr (encR v s).1) W (by rw[uqz];exact hl) v1 v2 (by decide) (by decide)
  have z0:(((encR v s).2:Int) != 0)=false:=by rw[h0];rfl
  rw[uqu] at hF
  have HR:=zrj hR
  have HF:=zrj hF
  clear hR hF h0 hl
  generalize encR v s=ee at *
  generalize encF v 1 ee.1=ff at *
  go_enter func13,ntmps13
  go_wp2_with fail
  generalize w.alloc _=W0 at *
  refine HE.out.mono ?_
  rintro e w1 ⟨rfl,hb1⟩
  have hB1:=bthen hb0 hb1
  go_wp2_with fail
  refine(HF.out w1).mono ?_
  rintro e w2 ⟨rfl,hb2⟩
  go_wp2_with fail
  go_ret2
  exact⟨by rw[HR.out];rfl,bthen hB1 hb2⟩
 ·have hR:sfrR v s=([],(encR v s).2):=by unfold sfrR;rw[if_pos h0]
  have z0:(((encR v s).2:Int) != 0)=true:=by rw[bne_iff_ne];omega
  have HR:=zrj hR
  clear hR h0 hl
  generalize encR v s=ee at *
  go_enter func13,ntmps13
  go_wp2_with fail
  generalize w.alloc _=W0 at *
  refine HE.out.mono ?_
  rintro e w1 ⟨rfl,hb1⟩
  have hB1:=bthen hb0 hb1
  go_wp2_with fail
  go_ret2
  exact⟨by rw[HR.out];rfl,hB1⟩
end Go.Proofs.YtknmnhleicakhaaGreatDoor
