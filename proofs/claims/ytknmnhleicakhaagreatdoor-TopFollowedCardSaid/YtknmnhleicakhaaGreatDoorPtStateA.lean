/- Lemmas.
-/
import Derived.Test.YtknmnhleicakhaaGreatDoorPtBase
import Derived.Lib.ValidAsc
import Derived.Laws.Cover1
import Derived.IntWalk
set_option linter.all false
set_option maxHeartbeats 16000000
set_option maxRecDepth 100000
namespace Go.Proofs.YtknmnhleicakhaaGreatDoor
open Go.Proofs.Tryz
structure JobD where
 name:Zba
 prio:Int
 need:Int
 tries:Int
 tag:Zba
 deriving DecidableEq
structure NodeD where
 name:Zba
 room:Int
 zone:Zba
 deriving DecidableEq
structure uqb where
 job:Zba
 node:Zba
 till:Int
 deriving DecidableEq
structure St where
 rev:Int
 jobs:List JobD
 nodes:List NodeD
 leases:List uqb
 deriving DecidableEq
abbrev rwJ (x:JobD):Array Value:=#[.string x.name,.int .i64 x.prio,.int .i64 x.need,.int .i64 x.tries,.string x.tag]
abbrev rlJ (x:JobD):List Value:=[.string x.name,.int .i64 x.prio,.int .i64 x.need,.int .i64 x.tries,.string x.tag]
abbrev zwJ:Array Value:=#[.string ByteArray.empty,.int .i64 0,.int .i64 0,.int .i64 0,.string ByteArray.empty]
abbrev zlJ:List Value:=[.string ByteArray.empty,.int .i64 0,.int .i64 0,.int .i64 0,.string ByteArray.empty]
abbrev rwN (x:NodeD):Array Value:=#[.string x.name,.int .i64 x.room,.string x.zone]
abbrev rlN (x:NodeD):List Value:=[.string x.name,.int .i64 x.room,.string x.zone]
abbrev zwN:Array Value:=#[.string ByteArray.empty,.int .i64 0,.string ByteArray.empty]
abbrev zlN:List Value:=[.string ByteArray.empty,.int .i64 0,.string ByteArray.empty]
abbrev rwL (x:uqb):Array Value:=#[.string x.job,.string x.node,.int .i64 x.till]
abbrev rlL (x:uqb):List Value:=[.string x.job,.string x.node,.int .i64 x.till]
abbrev zwL:Array Value:=#[.string ByteArray.empty,.string ByteArray.empty,.int .i64 0]
abbrev zlL:List Value:=[.string ByteArray.empty,.string ByteArray.empty,.int .i64 0]
abbrev stv (s:St) (p q r:Zoa) (c d e:Nat):Array Value:=#[.int .i64 s.rev,.slice p s.jobs.length c,.slice q s.nodes.length d,.slice r s.leases.length e]
def rowJ (j:JobD):List Value:=(rlJ j)
def rowN (n:NodeD):List Value:=(rlN n)
def rowL (l:uqb):List Value:=(rlL l)
def uxg (n a b:Int):Bool:=decide (a<=n)&&decide (n<=b)
theorem uq2 {n a b:Int}:uxg n a b=true↔a<=n/\n<=b:=by simp[uxg]
def uvi (s:Zba):Bool:=decide (s.size<=16)&&Lib.validD s.data.toList
def uxh (s:Zba):Bool:=decide (0<s.size)&&uvi s
def jobE (j:JobD):Nat:=if uxh j.name&&uvi j.tag then(if uxg j.prio (-1000) 1000&&uxg j.need 0 1000000&&uxg j.tries 0 100 then 0 else 1) else 4
def nodeE (n:NodeD):Nat:=if uxh n.name&&uvi n.zone then(if uxg n.room 0 1000000 then 0 else 1) else 4
def leS (a b:Zba):Bool:=Op.bytesLess a.toList b.toList||a.toList == b.toList
section
variable {α:Type} (key:α->Zba) (chk:α->Nat)
def uzp:Option α->α->Bool
 | none,_=>false
 | some y,x=>leS (key x) (key y)
def rowsE:Option α->List α->Nat
 | _,[]=>0
 | p,x::r=>if chk x≠0 then chk x else if uzp key p x=true then 8 else rowsE (some x) r
end
def ujd {α:Type} (l:List α):Nat->Option α
 | 0=>none
 | k+1=>l[k]?
def jobAt (l:List JobD) (name:Zba):Option JobD:=l.find? fun j=>decide (j.name=name)
def uzb (l:List NodeD) (name:Zba):Option NodeD:=l.find? fun n=>decide (n.name=name)
def uzw (jobs:List JobD) (nodes:List NodeD) (l:uqb):Nat :=
 if(jobAt jobs l.job).isSome&&(uzb nodes l.node).isSome then(if uxg l.till 0 1099511627776 then 0 else 1) else 6
def ux0 (jobs:List JobD) (name:Zba):Int:=((jobAt jobs name).map (·.need)).getD 0
def ux5 (jobs:List JobD) (node:Zba):List uqb->Int
 | []=>0
 | l::r=>(if l.node=node then ux0 jobs l.job else 0)+ux5 jobs node r
def vz4 (s:St):Bool:=s.nodes.all fun n=>decide (ux5 s.jobs n.name s.leases<=n.room)
def uqp (s:St):Nat :=
 if uxg s.rev 0 1099511627776=false then 1 else
 if 40<s.jobs.length\/40<s.leases.length\/20<s.nodes.length then 2 else
 if rowsE JobD.name jobE none s.jobs≠0 then rowsE JobD.name jobE none s.jobs else
 if rowsE NodeD.name nodeE none s.nodes≠0 then rowsE NodeD.name nodeE none s.nodes else
 if rowsE uqb.job (uzw s.jobs s.nodes) none s.leases≠0 then rowsE uqb.job (uzw s.jobs s.nodes) none s.leases else
 if vz4 s then 0 else 9
theorem wx3:∀a:Zlu,Op.bytesLess a a=false
 | []=>rfl
 | x::r=>by
  simp only[Op.bytesLess,wx3 r,Bool.and_false,Bool.or_false,decide_eq_false_iff_not]
  exact UInt8.lt_irrefl x
theorem wyh:∀a b c:Zlu,Op.bytesLess a b=true->Op.bytesLess b c=true->Op.bytesLess a c=true
 | _,[],_,h,_=>by simp[Op.bytesLess] at h
 | _,_::_,[],_,h=>by simp[Op.bytesLess] at h
 | [],_::_,_::_,_,_=>rfl
 | x::a,y::b,z::c,h1,h2=>by
  simp only[Op.bytesLess,Bool.or_eq_true,decide_eq_true_eq,Bool.and_eq_true,beq_iff_eq] at h1 h2 ⊢
  rcases h1 with h1 | ⟨rfl,h1⟩
  ·rcases h2 with h2 | ⟨rfl,h2⟩
   ·exact .inl (UInt8.lt_trans h1 h2)
   ·exact .inl h1
  ·rcases h2 with h2 | ⟨rfl,h2⟩
   ·exact .inl h2
   ·exact .inr ⟨rfl,wyh a b c h1 h2⟩
theorem wqh:∀a b:Zlu,Op.bytesLess a b=true\/a=b\/Op.bytesLess b a=true
 | [],[]=>.inr (.inl rfl)
 | [],_::_=>.inl rfl
 | _::_,[]=>.inr (.inr rfl)
 | x::a,y::b=>by
  simp only[Op.bytesLess,Bool.or_eq_true,decide_eq_true_eq,Bool.and_eq_true,beq_iff_eq,List.cons.injEq]
  rcases Nat.lt_trichotomy x.toNat y.toNat with h | h | h
  ·exact .inl (.inl (UInt8.lt_iff_toNat_lt.2 h))
  ·have h:=UInt8.toNat_inj.1 h
   subst h
   rcases wqh a b with h | h | h
   ·exact .inl (.inr ⟨rfl,h⟩)
   ·exact .inr (.inl ⟨rfl,h⟩)
   ·exact .inr (.inr (.inr ⟨rfl,h⟩))
  ·exact .inr (.inr (.inl (UInt8.lt_iff_toNat_lt.2 h)))
def ltS (a b:Zba):Bool:=Op.bytesLess a.toList b.toList
theorem uxr (a:Zba):ltS a a=false:=wx3 _
theorem uzx {a b c:Zba} (h1:ltS a b=true) (h2:ltS b c=true):ltS a c=true:=wyh _ _ _ h1 h2
theorem toList_inj {a b:Zba} (h:a.toList=b.toList):a=b:=by
 rw[ByteArray.toList_eq,ByteArray.toList_eq] at h
 exact ByteArray.ext (Array.toList_inj.1 h)
theorem ujc (a b:Zba):ltS a b=true\/a=b\/ltS b a=true:=by
 rcases wqh a.toList b.toList with h | h | h
 ·exact .inl h
 ·exact .inr (.inl (toList_inj h))
 ·exact .inr (.inr h)
theorem leS_iff {a b:Zba}:leS a b=false↔ltS b a=true:=by
 unfold leS
 rw[Bool.or_eq_false_iff]
 constructor
 ·intro⟨h1,h2⟩
  rcases ujc a b with h | h | h
  ·unfold ltS at h;rw[h1] at h;cases h
  ·rw[h] at h2;simp at h2
  ·exact h
 ·intro h
  refine⟨?_,?_⟩
  ·cases h1:Op.bytesLess a.toList b.toList
   ·rfl
   ·have:=uzx (a:=a) (b:=b) (c:=a) h1 h
    rw[uxr] at this;cases this
  ·rw[zrf]
   intro h1
   have:=toList_inj h1
   subst this
   rw[uxr] at h;cases h
theorem vx3 {a b:Zba} (h:ltS a b=true):a≠b:=by rintro rfl;rw[uxr] at h;cases h
def uqy {α:Type} (key:α->Zba) (l:List α):Prop:=l.Pairwise fun x y=>ltS (key x) (key y)=true
theorem vy2 {α:Type} (key:α->Zba) (chk:α->Nat):∀(l:List α) (p:Option α),rowsE key chk p l=0↔((∀x∈l,chk x=0)/\uqy key l/\∀y,p=some y->∀x∈l,ltS (key y) (key x)=true)
 | [],p=>by simp[rowsE,uqy]
 | x::r,p=>by
  have ih:=vy2 key chk r (some x)
  have hb:uzp key p x=false↔∀y,p=some y->ltS (key y) (key x)=true:=by
   cases p with
   | none=>simp[uzp]
   | some y=>simp only[uzp,leS_iff,Option.some.injEq,forall_eq']
  unfold rowsE
  by_cases hc:chk x=0
  ·rw[if_neg (by simp[hc])]
   cases ho:uzp key p x
   ·rw[if_neg (by simp),ih]
    have hb':=hb.1 ho
    constructor
    ·intro⟨h1,h2,h3⟩
     refine⟨?_,?_,?_⟩
     ·intro z hz
      rcases List.mem_cons.1 hz with rfl | hz
      ·exact hc
      ·exact h1 z hz
     ·exact List.pairwise_cons.2 ⟨fun z hz=>h3 x rfl z hz,h2⟩
     ·intro y hy z hz
      rcases List.mem_cons.1 hz with rfl | hz
      ·exact hb' y hy
      ·exact uzx (hb' y hy) (h3 x rfl z hz)
    ·intro⟨h1,h2,h3⟩
     obtain⟨h4,h5⟩:=List.pairwise_cons.1 h2
     exact⟨fun z hz=>h1 z (List.mem_cons_of_mem _ hz),h5,fun y hy z hz=>by injection hy with hy;subst hy;exact h4 z hz⟩
   ·rw[if_pos rfl]
    constructor
    ·intro h;cases h
    ·intro⟨_,_,h3⟩
     have:=hb.2 (fun y hy=>h3 y hy x List.mem_cons_self)
     rw[ho] at this;cases this
  ·rw[if_pos hc]
   constructor
   ·intro h;exact absurd h hc
   ·intro⟨h1,_⟩;exact absurd (h1 x List.mem_cons_self) hc
theorem uzs {α:Type} {key:α->Zba} {chk:α->Nat} {l:List α}:rowsE key chk none l=0↔(∀x∈l,chk x=0)/\uqy key l:=by
 rw[vy2]
 simp
theorem xx9 {l:List JobD} {nm:Zba} (h:∀x∈l,x.name≠nm):jobAt l nm=none:=by
 unfold jobAt
 rw[List.find?_eq_none]
 intro x hx
 simpa using h x hx
theorem wv7 {l:List NodeD} {nm:Zba} (h:∀x∈l,x.name≠nm):uzb l nm=none:=by
 unfold uzb
 rw[List.find?_eq_none]
 intro x hx
 simpa using h x hx
theorem ukq {α:Type} {key:α->Zba} {l:List α} (h:uqy key l) {k:Nat} {x:α} (hx:l[k]?=some x):∀y∈l.take k,key y≠key x:=by
 intro y hy
 obtain⟨i,hi,rfl⟩:=List.mem_iff_getElem.1 hy
 rw[List.length_take] at hi
 obtain⟨hk,rfl⟩:=List.getElem?_eq_some_iff.1 hx
 rw[List.getElem_take]
 exact vx3 (List.pairwise_iff_getElem.1 h i k (by omega) hk (by omega))
theorem xvj {j:JobD} (h:jobE j=0):0<=j.need/\j.need<=1000000:=by
 unfold jobE at h
 split at h
 ·split at h
  ·rename_i h2
   simp only[Bool.and_eq_true,uq2] at h2
   exact h2.1.2
  ·cases h
 ·cases h
theorem wju {jobs:List JobD} (h:∀j∈jobs,jobE j=0) (nm:Zba):0<=ux0 jobs nm/\ux0 jobs nm<=1000000:=by
 unfold ux0
 cases hj:jobAt jobs nm with
 | none=>simp
 | some j=>exact xvj (h j (List.mem_of_find?_eq_some hj))
open Go.RowKit
theorem ukc (x a b:Int) (w:World) :
  Calls prog 96 #[.int .i64 x,.int .i64 a,.int .i64 b] w fun e w'=>e=.returned (.bool (uxg x a b))/\w=w':=by
 unfold uxg
 by_cases h1:a<=x
 ·go_enter func96,ntmps96
  go_wp2_with fail
  go_ret
  exact⟨congrArg (fun b=>Ending.returned (.bool b)) (by simp[h1]),rfl⟩
 ·have h1':x<a:=by omega
  go_enter func96,ntmps96
  go_wp2_with fail
  all_goals go_ret
  all_goals exact⟨congrArg (fun b=>Ending.returned (.bool b)) (by simp;omega),rfl⟩
theorem vjv (s:Zba) (w:World) (hs:s.size<=9223372036854775807) (hT:Tabs w) :
  Calls prog 148 #[.string s] w fun e w'=>e=.returned (.bool (uvi s))/\Below w.heap.size w w':=by
 have h1:=vja s w hs hT
 unfold uvi
 change Calls _ _ _ _ (fun e w'=>e=.returned (.bool (decide (s.size<=16)&&vT s))/\_)
 have H1:=zrj h1
 clear h1
 by_cases h:s.size<=16
 ·have e1:(decide (s.size<=16)&&vT s)=vT s:=by simp[h]
  rw[e1]
  clear e1
  go_enter func148,ntmps148
  go_wp2_with fail
  refine H1.out.mono ?_
  rintro e w1 ⟨rfl,hb1⟩
  go_wp2_with fail
  go_ret
  exact⟨rfl,hb1⟩
 ·have e1:(decide (s.size<=16)&&vT s)=false:=by simp[h]
  rw[e1]
  clear e1
  go_enter func148,ntmps148
  go_wp2_with fail
  go_ret
  exact⟨rfl,zri _ _⟩
theorem uje (s:Zba) (w:World) (hs:s.size<=9223372036854775807) (hT:Tabs w) :
  Calls prog 147 #[.string s] w fun e w'=>e=.returned (.bool (uxh s))/\Below w.heap.size w w':=by
 have h1:=vjv s w hs hT
 unfold uxh
 have H1:=zrj h1
 clear h1
 by_cases h:0<s.size
 ·have e1:(decide (0<s.size)&&uvi s)=uvi s:=by simp[h]
  rw[e1]
  have hne:s.toList≠[]:=by
   rw[ByteArray.toList_eq];intro h0
   have:=uwa s
   rw[h0,List.length_nil] at this;omega
  have b1:(!s.toList.isEmpty)=true:=by cases hh:s.toList with | nil=>exact absurd hh hne | cons a b=>rfl
  clear e1 hne
  go_enter func147,ntmps147
  go_wp2_with fail
  refine H1.out.mono ?_
  rintro e w1 ⟨rfl,hb1⟩
  go_wp2_with fail
  go_ret
  exact⟨rfl,hb1⟩
 ·have e1:(decide (0<s.size)&&uvi s)=false:=by simp[h]
  rw[e1]
  obtain rfl:s=ByteArray.empty:=ByteArray.size_eq_zero_iff.1 (by omega)
  clear e1
  go_enter func147,ntmps147
  go_wp2_with fail
  go_ret
  exact⟨rfl,zri _ _⟩
theorem vkg (j:JobD) (w:World) (h0:j.name.size<=9223372036854775807) (h1:j.tag.size<=9223372036854775807) (hT:Tabs w) :
  Calls prog 100 #[.agg (rwJ j)] w fun e w'=>e=.returned (.int .i64 (jobE j:Int))/\Below w.heap.size w w':=by
 have hb0:=zsa w (.cells (rwJ j) 38)
 have hT0:=hT.below hb0
 have bx0:=Blk.new w 38 (rwJ j)
 have c0:=fun w hT=>uje j.name w h0 hT
 have c1:=fun w hT=>vjv j.tag w h1 hT
 have c2:=fun w=>ukc j.prio (-1000) 1000 w
 have c3:=fun w=>ukc j.need 0 1000000 w
 have c4:=fun w=>ukc j.tries 0 100 w
 cases q0:uxh j.name
 ·rw[q0] at c0
  have hE:jobE j=4:=by simp[jobE,q0]
  rw[hE]
  have H0:=zrj c0
  have H1:=zrj c1
  have H2:=zrj c2
  have H3:=zrj c3
  have H4:=zrj c4
  clear hE c0 c1 c2 c3 c4 q0
  go_enter func100,ntmps100
  go_wp2_with fail
  refine(H0.out _ hT0).mono ?_
  rintro e w1 ⟨rfl,hb1⟩
  have hT1:=hT0.below hb1
  have hB1:=bthen hb0 hb1
  have bx1:=bx0.bl hb1
  have c1_0:=bx1.c0
  have c1_1:=bx1.c1
  have c1_2:=bx1.c2
  have c1_3:=bx1.c3
  have c1_4:=bx1.c4
  go_wp2_with fail
  go_ret
  exact⟨rfl,hB1⟩
 ·rw[q0] at c0
  cases q1:uvi j.tag
  ·rw[q1] at c1
   have hE:jobE j=4:=by simp[jobE,q0,q1]
   rw[hE]
   have H0:=zrj c0
   have H1:=zrj c1
   have H2:=zrj c2
   have H3:=zrj c3
   have H4:=zrj c4
   clear hE c0 c1 c2 c3 c4 q0 q1
   go_enter func100,ntmps100
   go_wp2_with fail
   refine(H0.out _ hT0).mono ?_
   rintro e w1 ⟨rfl,hb1⟩
   have hT1:=hT0.below hb1
   have hB1:=bthen hb0 hb1
   have bx1:=bx0.bl hb1
   have c1_0:=bx1.c0
   have c1_1:=bx1.c1
   have c1_2:=bx1.c2
   have c1_3:=bx1.c3
   have c1_4:=bx1.c4
   go_wp2_with fail
   refine(H1.out _ hT1).mono ?_
   rintro e w2 ⟨rfl,hb2⟩
   have hT2:=hT1.below hb2
   have hB2:=bthen hB1 hb2
   have bx2:=bx1.bl hb2
   have c2_0:=bx2.c0
   have c2_1:=bx2.c1
   have c2_2:=bx2.c2
   have c2_3:=bx2.c3
   have c2_4:=bx2.c4
   go_wp2_with fail
   go_ret
   exact⟨rfl,hB2⟩
  ·rw[q1] at c1
   cases q2:uxg j.prio (-1000) 1000
   ·rw[q2] at c2
    have hE:jobE j=1:=by simp[jobE,q0,q1,q2]
    rw[hE]
    have H0:=zrj c0
    have H1:=zrj c1
    have H2:=zrj c2
    have H3:=zrj c3
    have H4:=zrj c4
    clear hE c0 c1 c2 c3 c4 q0 q1 q2
    go_enter func100,ntmps100
    go_wp2_with fail
    refine(H0.out _ hT0).mono ?_
    rintro e w1 ⟨rfl,hb1⟩
    have hT1:=hT0.below hb1
    have hB1:=bthen hb0 hb1
    have bx1:=bx0.bl hb1
    have c1_0:=bx1.c0
    have c1_1:=bx1.c1
    have c1_2:=bx1.c2
    have c1_3:=bx1.c3
    have c1_4:=bx1.c4
    go_wp2_with fail
    refine(H1.out _ hT1).mono ?_
    rintro e w2 ⟨rfl,hb2⟩
    have hT2:=hT1.below hb2
    have hB2:=bthen hB1 hb2
    have bx2:=bx1.bl hb2
    have c2_0:=bx2.c0
    have c2_1:=bx2.c1
    have c2_2:=bx2.c2
    have c2_3:=bx2.c3
    have c2_4:=bx2.c4
    go_wp2_with fail
    refine(H2.out _).mono ?_
    rintro e w9 ⟨rfl,rfl⟩
    go_wp2_with fail
    go_ret
    exact⟨rfl,hB2⟩
   ·rw[q2] at c2
    cases q3:uxg j.need 0 1000000
    ·rw[q3] at c3
     have hE:jobE j=1:=by simp[jobE,q0,q1,q2,q3]
     rw[hE]
     have H0:=zrj c0
     have H1:=zrj c1
     have H2:=zrj c2
     have H3:=zrj c3
     have H4:=zrj c4
     clear hE c0 c1 c2 c3 c4 q0 q1 q2 q3
     go_enter func100,ntmps100
     go_wp2_with fail
     refine(H0.out _ hT0).mono ?_
     rintro e w1 ⟨rfl,hb1⟩
     have hT1:=hT0.below hb1
     have hB1:=bthen hb0 hb1
     have bx1:=bx0.bl hb1
     have c1_0:=bx1.c0
     have c1_1:=bx1.c1
     have c1_2:=bx1.c2
     have c1_3:=bx1.c3
     have c1_4:=bx1.c4
     go_wp2_with fail
     refine(H1.out _ hT1).mono ?_
     rintro e w2 ⟨rfl,hb2⟩
     have hT2:=hT1.below hb2
     have hB2:=bthen hB1 hb2
     have bx2:=bx1.bl hb2
     have c2_0:=bx2.c0
     have c2_1:=bx2.c1
     have c2_2:=bx2.c2
     have c2_3:=bx2.c3
     have c2_4:=bx2.c4
     go_wp2_with fail
     refine(H2.out _).mono ?_
     rintro e w9 ⟨rfl,rfl⟩
     go_wp2_with fail
     refine(H3.out _).mono ?_
     rintro e w9 ⟨rfl,rfl⟩
     go_wp2_with fail
     go_ret
     exact⟨rfl,hB2⟩
    ·rw[q3] at c3
     cases q4:uxg j.tries 0 100
     ·rw[q4] at c4
      have hE:jobE j=1:=by simp[jobE,q0,q1,q2,q3,q4]
      rw[hE]
      have H0:=zrj c0
      have H1:=zrj c1
      have H2:=zrj c2
      have H3:=zrj c3
      have H4:=zrj c4
      clear hE c0 c1 c2 c3 c4 q0 q1 q2 q3 q4
      go_enter func100,ntmps100
      go_wp2_with fail
      refine(H0.out _ hT0).mono ?_
      rintro e w1 ⟨rfl,hb1⟩
      have hT1:=hT0.below hb1
      have hB1:=bthen hb0 hb1
      have bx1:=bx0.bl hb1
      have c1_0:=bx1.c0
      have c1_1:=bx1.c1
      have c1_2:=bx1.c2
      have c1_3:=bx1.c3
      have c1_4:=bx1.c4
      go_wp2_with fail
      refine(H1.out _ hT1).mono ?_
      rintro e w2 ⟨rfl,hb2⟩
      have hT2:=hT1.below hb2
      have hB2:=bthen hB1 hb2
      have bx2:=bx1.bl hb2
      have c2_0:=bx2.c0
      have c2_1:=bx2.c1
      have c2_2:=bx2.c2
      have c2_3:=bx2.c3
      have c2_4:=bx2.c4
      go_wp2_with fail
      refine(H2.out _).mono ?_
      rintro e w9 ⟨rfl,rfl⟩
      go_wp2_with fail
      refine(H3.out _).mono ?_
      rintro e w9 ⟨rfl,rfl⟩
      go_wp2_with fail
      refine(H4.out _).mono ?_
      rintro e w9 ⟨rfl,rfl⟩
      go_wp2_with fail
      go_ret
      exact⟨rfl,hB2⟩
     ·rw[q4] at c4
      have hE:jobE j=0:=by simp[jobE,q0,q1,q2,q3,q4]
      rw[hE]
      have H0:=zrj c0
      have H1:=zrj c1
      have H2:=zrj c2
      have H3:=zrj c3
      have H4:=zrj c4
      clear hE c0 c1 c2 c3 c4 q0 q1 q2 q3 q4
      go_enter func100,ntmps100
      go_wp2_with fail
      refine(H0.out _ hT0).mono ?_
      rintro e w1 ⟨rfl,hb1⟩
      have hT1:=hT0.below hb1
      have hB1:=bthen hb0 hb1
      have bx1:=bx0.bl hb1
      have c1_0:=bx1.c0
      have c1_1:=bx1.c1
      have c1_2:=bx1.c2
      have c1_3:=bx1.c3
      have c1_4:=bx1.c4
      go_wp2_with fail
      refine(H1.out _ hT1).mono ?_
      rintro e w2 ⟨rfl,hb2⟩
      have hT2:=hT1.below hb2
      have hB2:=bthen hB1 hb2
      have bx2:=bx1.bl hb2
      have c2_0:=bx2.c0
      have c2_1:=bx2.c1
      have c2_2:=bx2.c2
      have c2_3:=bx2.c3
      have c2_4:=bx2.c4
      go_wp2_with fail
      refine(H2.out _).mono ?_
      rintro e w9 ⟨rfl,rfl⟩
      go_wp2_with fail
      refine(H3.out _).mono ?_
      rintro e w9 ⟨rfl,rfl⟩
      go_wp2_with fail
      refine(H4.out _).mono ?_
      rintro e w9 ⟨rfl,rfl⟩
      go_wp2_with fail
      go_ret
      exact⟨rfl,hB2⟩
theorem vzq (n:NodeD) (w:World) (h0:n.name.size<=9223372036854775807) (h1:n.zone.size<=9223372036854775807) (hT:Tabs w) :
  Calls prog 102 #[.agg (rwN n)] w fun e w'=>e=.returned (.int .i64 (nodeE n:Int))/\Below w.heap.size w w':=by
 have hb0:=zsa w (.cells (rwN n) 40)
 have hT0:=hT.below hb0
 have bx0:=Blk.new w 40 (rwN n)
 have c0:=fun w hT=>uje n.name w h0 hT
 have c1:=fun w hT=>vjv n.zone w h1 hT
 have c2:=fun w=>ukc n.room 0 1000000 w
 cases q0:uxh n.name
 ·rw[q0] at c0
  have hE:nodeE n=4:=by simp[nodeE,q0]
  rw[hE]
  have H0:=zrj c0
  have H1:=zrj c1
  have H2:=zrj c2
  clear hE c0 c1 c2 q0
  go_enter func102,ntmps102
  go_wp2_with fail
  refine(H0.out _ hT0).mono ?_
  rintro e w1 ⟨rfl,hb1⟩
  have hT1:=hT0.below hb1
  have hB1:=bthen hb0 hb1
  have bx1:=bx0.bl hb1
  have c1_0:=bx1.c0
  have c1_1:=bx1.c1
  have c1_2:=bx1.c2
  go_wp2_with fail
  go_ret
  exact⟨rfl,hB1⟩
 ·rw[q0] at c0
  cases q1:uvi n.zone
  ·rw[q1] at c1
   have hE:nodeE n=4:=by simp[nodeE,q0,q1]
   rw[hE]
   have H0:=zrj c0
   have H1:=zrj c1
   have H2:=zrj c2
   clear hE c0 c1 c2 q0 q1
   go_enter func102,ntmps102
   go_wp2_with fail
   refine(H0.out _ hT0).mono ?_
   rintro e w1 ⟨rfl,hb1⟩
   have hT1:=hT0.below hb1
   have hB1:=bthen hb0 hb1
   have bx1:=bx0.bl hb1
   have c1_0:=bx1.c0
   have c1_1:=bx1.c1
   have c1_2:=bx1.c2
   go_wp2_with fail
   refine(H1.out _ hT1).mono ?_
   rintro e w2 ⟨rfl,hb2⟩
   have hT2:=hT1.below hb2
   have hB2:=bthen hB1 hb2
   have bx2:=bx1.bl hb2
   have c2_0:=bx2.c0
   have c2_1:=bx2.c1
   have c2_2:=bx2.c2
   go_wp2_with fail
   go_ret
   exact⟨rfl,hB2⟩
  ·rw[q1] at c1
   cases q2:uxg n.room 0 1000000
   ·rw[q2] at c2
    have hE:nodeE n=1:=by simp[nodeE,q0,q1,q2]
    rw[hE]
    have H0:=zrj c0
    have H1:=zrj c1
    have H2:=zrj c2
    clear hE c0 c1 c2 q0 q1 q2
    go_enter func102,ntmps102
    go_wp2_with fail
    refine(H0.out _ hT0).mono ?_
    rintro e w1 ⟨rfl,hb1⟩
    have hT1:=hT0.below hb1
    have hB1:=bthen hb0 hb1
    have bx1:=bx0.bl hb1
    have c1_0:=bx1.c0
    have c1_1:=bx1.c1
    have c1_2:=bx1.c2
    go_wp2_with fail
    refine(H1.out _ hT1).mono ?_
    rintro e w2 ⟨rfl,hb2⟩
    have hT2:=hT1.below hb2
    have hB2:=bthen hB1 hb2
    have bx2:=bx1.bl hb2
    have c2_0:=bx2.c0
    have c2_1:=bx2.c1
    have c2_2:=bx2.c2
    go_wp2_with fail
    refine(H2.out _).mono ?_
    rintro e w9 ⟨rfl,rfl⟩
    go_wp2_with fail
    go_ret
    exact⟨rfl,hB2⟩
   ·rw[q2] at c2
    have hE:nodeE n=0:=by simp[nodeE,q0,q1,q2]
    rw[hE]
    have H0:=zrj c0
    have H1:=zrj c1
    have H2:=zrj c2
    clear hE c0 c1 c2 q0 q1 q2
    go_enter func102,ntmps102
    go_wp2_with fail
    refine(H0.out _ hT0).mono ?_
    rintro e w1 ⟨rfl,hb1⟩
    have hT1:=hT0.below hb1
    have hB1:=bthen hb0 hb1
    have bx1:=bx0.bl hb1
    have c1_0:=bx1.c0
    have c1_1:=bx1.c1
    have c1_2:=bx1.c2
    go_wp2_with fail
    refine(H1.out _ hT1).mono ?_
    rintro e w2 ⟨rfl,hb2⟩
    have hT2:=hT1.below hb2
    have hB2:=bthen hB1 hb2
    have bx2:=bx1.bl hb2
    have c2_0:=bx2.c0
    have c2_1:=bx2.c1
    have c2_2:=bx2.c2
    go_wp2_with fail
    refine(H2.out _).mono ?_
    rintro e w9 ⟨rfl,rfl⟩
    go_wp2_with fail
    go_ret
    exact⟨rfl,hB2⟩
theorem uj6 (j:JobD) (w:World) :
  Calls prog 91 #[.agg (rwJ j)] w fun e w'=>e=.returned (.string j.name)/\Below w.heap.size w w':=by
 go_enter func91,ntmps91
 go_wp2_with fail
 go_ret
 exact⟨rfl,(zri _ _).alloc (zra _) _⟩
theorem ujn (n:NodeD) (w:World) :
  Calls prog 93 #[.agg (rwN n)] w fun e w'=>e=.returned (.string n.name)/\Below w.heap.size w w':=by
 go_enter func93,ntmps93
 go_wp2_with fail
 go_ret
 exact⟨rfl,(zri _ _).alloc (zra _) _⟩
theorem uza (l:uqb) (w:World) :
  Calls prog 95 #[.agg (rwL l)] w fun e w'=>e=.returned (.string l.job)/\Below w.heap.size w w':=by
 go_enter func95,ntmps95
 go_wp2_with fail
 go_ret
 exact⟨rfl,(zri _ _).alloc (zra _) _⟩
theorem uk9 {α:Type} (key:α->Zba) (chk:α->Nat) (p:Option α) (x:α) (r:List α) (h:chk x≠0):rowsE key chk p (x::r)=chk x:=by simp[rowsE,h]
theorem uva {α:Type} (key:α->Zba) (chk:α->Nat) (p:Option α) (x:α) (r:List α) (h:chk x=0) (hb:uzp key p x=true):rowsE key chk p (x::r)=8:=by simp[rowsE,h,hb]
theorem uvx {α:Type} (key:α->Zba) (chk:α->Nat) (p:Option α) (x:α) (r:List α) (h:chk x=0) (hb:uzp key p x=false):rowsE key chk p (x::r)=rowsE key chk (some x) r:=by simp[rowsE,h,hb]
theorem wqy {α:Type} (l:List α) (k:Nat) (x:α) (h:l[k]?=some x):l.drop k=x::l.drop (k+1):=by
 obtain⟨hk,rfl⟩:=List.getElem?_eq_some_iff.1 h
 exact List.drop_eq_getElem_cons hk
theorem vz1 {α:Type} (l:List α) (k:Nat) (x:α) (h:l[k]?=some x):ujd l (k+1)=some x:=h
theorem uqo:(prog.info? 38).map (·.size)=some 5:=by kernel_rfl
theorem uqk:(prog.info? 40).map (·.size)=some 3:=by kernel_rfl
theorem uqj:(prog.info? 42).map (·.size)=some 3:=by kernel_rfl
structure Fine (s:St):Prop where
 rev:0<=s.rev/\s.rev<=1099511627776
 nj:s.jobs.length<=40
 nl:s.leases.length<=40
 nn:s.nodes.length<=20
 j:∀x∈s.jobs,jobE x=0
 sj:uqy JobD.name s.jobs
 n:∀x∈s.nodes,nodeE x=0
 sn:uqy NodeD.name s.nodes
 l:∀x∈s.leases,uzw s.jobs s.nodes x=0
 sl:uqy uqb.job s.leases
 room:∀n∈s.nodes,ux5 s.jobs n.name s.leases<=n.room
theorem uxp (s:St):uqp s=0↔Fine s:=by
 unfold uqp
 constructor
 ·intro h
  split at h
  ·cases h
  rename_i h1
  split at h
  ·cases h
  rename_i h2
  split at h
  ·rename_i h3;exact absurd h h3
  rename_i h3
  split at h
  ·rename_i h4;exact absurd h h4
  rename_i h4
  split at h
  ·rename_i h5;exact absurd h h5
  rename_i h5
  split at h
  ·rename_i h6
   obtain⟨a1,a2⟩:=uzs.1 (Classical.not_not.1 h3)
   obtain⟨b1,b2⟩:=uzs.1 (Classical.not_not.1 h4)
   obtain⟨c1,c2⟩:=uzs.1 (Classical.not_not.1 h5)
   refine⟨?_,by omega,by omega,by omega,a1,a2,b1,b2,c1,c2,fun n hn=>?_⟩
   ·cases hw:uxg s.rev 0 1099511627776
    ·exact absurd hw h1
    ·exact uq2.1 hw
   ·unfold vz4 at h6
    exact of_decide_eq_true (List.all_eq_true.1 h6 n hn)
  ·cases h
 ·intro h
  have e1:=uq2.2 h.rev
  rw[if_neg (by rw[e1];simp),if_neg (by have:=h.nj;have:=h.nl;have:=h.nn;omega),if_neg (by rw[uzs.2 ⟨h.j,h.sj⟩];simp),if_neg (by rw[uzs.2 ⟨h.n,h.sn⟩];simp),if_neg (by rw[uzs.2 ⟨h.l,h.sl⟩];simp),if_pos]
  unfold vz4
  rw[List.all_eq_true]
  exact fun n hn=>decide_eq_true (h.room n hn)
theorem uy0 {jobs:List JobD} {nodes:List NodeD} {l:uqb} (h:uzw jobs nodes l=0):(∃j,jobAt jobs l.job=some j)/\(∃n,uzb nodes l.node=some n)/\0<=l.till/\l.till<=1099511627776:=by
 unfold uzw at h
 split at h
 ·rename_i h1
  rw[Bool.and_eq_true] at h1
  split at h
  ·rename_i h2
   exact⟨Option.isSome_iff_exists.1 h1.1,Option.isSome_iff_exists.1 h1.2,uq2.1 h2⟩
  ·cases h
 ·cases h
theorem wjr {l:List JobD} {nm:Zba} {j:JobD} (h:jobAt l nm=some j):j∈l/\j.name=nm:=by
 refine⟨List.mem_of_find?_eq_some h,?_⟩
 have:=List.find?_some h
 simpa using this
theorem vys {l:List NodeD} {nm:Zba} {j:NodeD} (h:uzb l nm=some j):j∈l/\j.name=nm:=by
 refine⟨List.mem_of_find?_eq_some h,?_⟩
 have:=List.find?_some h
 simpa using this
def usedR (s:St) (nm:Zba):Int×Nat:=if uqp s≠0 then(0,uqp s) else if(uzb s.nodes nm).isSome then(ux5 s.jobs nm s.leases,0) else(0,6)
def ixBy {α:Type} (key:α->Zba):List α->Zba->Nat->Int
 | [],_,_ => -1
 | x::r,nm,i=>if key x=nm then(i:Int) else ixBy key r nm (i+1)
theorem vx1 {α:Type} (l:List α) (k:Nat) (x:α) (h:l[k]?=some x):l.drop k=x::l.drop (k+1):=by
 obtain⟨hk,rfl⟩:=List.getElem?_eq_some_iff.1 h
 exact List.drop_eq_getElem_cons hk
def valJ (j:JobD):Value:=.agg (rwJ j)
def valN (n:NodeD):Value:=.agg (rwN n)
def zJ:JobD:=⟨ByteArray.empty,0,0,0,ByteArray.empty⟩
def zN:NodeD:=⟨ByteArray.empty,0,ByteArray.empty⟩
theorem zero_job (W:World):(zeroValue 38).run prog W=.ok (valJ zJ) W:=by kernel_rfl
theorem xy0 (W:World):(zeroValue 40).run prog W=.ok (valN zN) W:=by kernel_rfl
theorem zero_int (W:World):(zeroValue 3).run prog W=.ok (.int .i64 0) W:=by kernel_rfl
theorem vq5 (W:World):(zeroValue 38).run prog W=.ok (.agg zwJ) W:=by kernel_rfl
theorem vjf (W:World):(zeroValue 40).run prog W=.ok (.agg zwN) W:=by kernel_rfl
structure TabIs (w:World) (gt bj bn bu:Nat) (jobs:List JobD) (nodes:List NodeD) (u:Zba->Int) where
 blk:Blk w gt 207 #[.map (some bj),.map (some bn),.map (some bu)]
 mj:∃m,MapIs w bj m/\∀nm,getM m nm=(jobAt jobs nm).map valJ
 mn:∃m,MapIs w bn m/\∀nm,getM m nm=(uzb nodes nm).map valN
 mu:∃m,MapIs w bu m/\∀nm,(getM m nm).getD (.int .i64 0)=.int .i64 (u nm)
theorem MapIs.below {w w':World} {b:Nat} {m:List (Zba×Value)} (h:MapIs w b m) (hb:Below w.heap.size w w'):MapIs w' b m:=by
 obtain⟨es,c,h1,h2⟩:=h
 have hlt:b<w.heap.size:=(Array.getElem?_eq_some_iff.1 h1).1
 exact⟨es,c,(hb.block b hlt).trans h1,h2⟩
theorem MapIs.lt {w:World} {b:Nat} {m:List (Zba×Value)} (h:MapIs w b m):b<w.heap.size:=by
 obtain⟨es,c,h1,h2⟩:=h
 exact(Array.getElem?_eq_some_iff.1 h1).1
theorem MapIs.grown {w w':World} {b:Nat} {m:List (Zba×Value)} {row:Option Nat} (h:MapIs w b m) (hg:w.grownBy w' row) (hne:some b≠row):MapIs w' b m:=by
 have hlt:=h.lt
 obtain⟨es,c,h1,h2⟩:=h
 exact⟨es,c,(hg.block b hlt hne).trans h1,h2⟩
theorem TabIs.below {w w':World} {gt bj bn bu:Nat} {jobs:List JobD} {nodes:List NodeD} {u:Zba->Int} (h:TabIs w gt bj bn bu jobs nodes u) (hb:Below w.heap.size w w'):TabIs w' gt bj bn bu jobs nodes u where
 blk:=h.blk.below hb h.blk.lt
 mj:=by obtain⟨m,h1,h2⟩:=h.mj;exact⟨m,h1.below hb,h2⟩
 mn:=by obtain⟨m,h1,h2⟩:=h.mn;exact⟨m,h1.below hb,h2⟩
 mu:=by obtain⟨m,h1,h2⟩:=h.mu;exact⟨m,h1.below hb,h2⟩
def fitB (jobs:List JobD) (nodes:List NodeD) (l:uqb):Bool:=(jobAt jobs l.job).isSome&&(uzb nodes l.node).isSome
section
variable {w:World} {gt bj bn bu:Nat} {jobs:List JobD} {nodes:List NodeD} {u:Zba->Int}
theorem TabIs.lookJ (h:TabIs w gt bj bn bu jobs nodes u) (s:Zba):(Instr.lookup 203 (.map (some bj)) (.string s) true).run prog w=.ok (.tuple #[valJ ((jobAt jobs s).getD zJ),.bool (jobAt jobs s).isSome]) w:=by
 obtain⟨m,hm,hg⟩:=h.mj
 have:=uwy (P:=prog) hm underlying203 underlying9 s _ (zero_job _) true
 rw[hg] at this
 rw[this]
 cases jobAt jobs s <;> rfl
theorem TabIs.lookN (h:TabIs w gt bj bn bu jobs nodes u) (s:Zba):(Instr.lookup 204 (.map (some bn)) (.string s) true).run prog w=.ok (.tuple #[valN ((uzb nodes s).getD zN),.bool (uzb nodes s).isSome]) w:=by
 obtain⟨m,hm,hg⟩:=h.mn
 have:=uwy (P:=prog) hm underlying204 underlying9 s _ (xy0 _) true
 rw[hg] at this
 rw[this]
 cases uzb nodes s <;> rfl
theorem TabIs.lookU (h:TabIs w gt bj bn bu jobs nodes u) (s:Zba):(Instr.lookup 205 (.map (some bu)) (.string s) false).run prog w=.ok (.int .i64 (u s)) w:=by
 obtain⟨m,hm,hg⟩:=h.mu
 have:=uwy (P:=prog) hm underlying205 underlying9 s _ (zero_int _) false
 rw[hg] at this
 rw[this];rfl
def addAt (u:Zba->Int) (s:Zba) (n:Int):Zba->Int:=fun x=>if s=x then u s+n else u x
theorem TabIs.putU (h:TabIs w gt bj bn bu jobs nodes u) (hne:gt≠bu/\bj≠bu/\bn≠bu) (s:Zba) (n:Int):∃w',(Instr.mapUpdate 205 (.map (some bu)) (.string s) (.int .i64 (u s+n))).run prog w=.ok () w'/\TabIs w' gt bj bn bu jobs nodes (addAt u s n)/\w.grownBy w' (some bu):=by
 obtain⟨m,hm,hg⟩:=h.mu
 obtain⟨w',h1,h2,h3,h4⟩:=uwz (P:=prog) hm underlying205 underlying9 s (.int .i64 (u s+n))
 refine⟨w',h1,⟨?_,?_,?_,⟨_,h2,fun nm=>?_⟩⟩,h3⟩
 ·exact(h3.block gt h.blk.lt (by intro h0;injection h0 with h0;exact hne.1 h0)).trans h.blk
 ·obtain⟨m,a1,a2⟩:=h.mj
  exact⟨m,a1.grown h3 (by intro h0;injection h0 with h0;exact hne.2.1 h0),a2⟩
 ·obtain⟨m,a1,a2⟩:=h.mn
  exact⟨m,a1.grown h3 (by intro h0;injection h0 with h0;exact hne.2.2 h0),a2⟩
 ·rw[wq5]
  unfold addAt
  by_cases h5:s=nm
  ·rw[if_pos h5,if_pos h5];rfl
  ·rw[if_neg h5,if_neg h5];exact hg nm
end
def wxy (w:World) (gt bj bn bu:Nat) (jobs:List JobD) (nodes:List NodeD) (u:Zba->Int) (l:uqb) (e:Ending) (w':World):Prop :=
 e=.returned (.int .i64 (uzw jobs nodes l:Int))/\w.grownBy w' (some bu)/\(fitB jobs nodes l=true->TabIs w' gt bj bn bu jobs nodes (addAt u l.node (ux0 jobs l.job)))
theorem uj0 {a b:World} (h:Below a.heap.size a b) (r:Option Nat):a.grownBy b r:=⟨h.os,h.tape,h.output,h.size,fun k hk _=>h.block k hk⟩
theorem ujk {a b c:World} {r:Option Nat} (h1:a.grownBy b r) (h2:b.grownBy c r):a.grownBy c r :=
 ⟨h2.os.trans h1.os,h2.tape.trans h1.tape,h2.output.trans h1.output,zrc h1.size h2.size,fun k hk hne=>(h2.block k (Nat.lt_of_lt_of_le hk h1.size) hne).trans (h1.block k hk hne)⟩
theorem xvq (l:uqb) (gt bj bn bu:Nat) (jobs:List JobD) (nodes:List NodeD) (u:Zba->Int) (w:World) (h:TabIs w gt bj bn bu jobs nodes u) (hne:gt≠bu/\bj≠bu/\bn≠bu)
  (hu : -1000000000000<=u l.node/\u l.node<=1000000000000) (hn : -1000000000000<=ux0 jobs l.job/\ux0 jobs l.job<=1000000000000) :
  Calls prog 104 #[zse gt,.agg (rwL l)] w fun e w'=>wxy w gt bj bn bu jobs nodes u l e w':=by
 have hlt:=h.blk.lt
 have hlj:=fun(W:World) (hW:Below w.heap.size w W)=>(h.below hW).lookJ l.job
 have hln:=fun(W:World) (hW:Below w.heap.size w W)=>(h.below hW).lookN l.node
 have hnd:((jobAt jobs l.job).getD zJ).need=ux0 jobs l.job:=by unfold ux0;cases jobAt jobs l.job <;> rfl
 have hle:uzw jobs nodes l=if(jobAt jobs l.job).isSome&&(uzb nodes l.node).isSome then(if uxg l.till 0 1099511627776 then 0 else 1) else 6:=rfl
 have hfb:fitB jobs nodes l=((jobAt jobs l.job).isSome&&(uzb nodes l.node).isSome):=rfl
 generalize(jobAt jobs l.job).getD zJ=j at *
 generalize(uzb nodes l.node).getD zN=n at *
 unfold valJ at hlj
 unfold valN at hln
 cases hj:(jobAt jobs l.job).isSome
 all_goals cases hn2:(uzb nodes l.node).isSome
 all_goals
  rw[hj] at hlj hle hfb
  rw[hn2] at hln hle hfb
  have HLJ:=zrj hlj
  have HLN:=zrj hln
  have HLE:=zrj hle
  have HFB:=zrj hfb
  have HH:=zrj h
  have HND:=zrj hnd
  have hB0:=zsa w (.cells (rwL l) 42)
  have e1:=HLJ.out _ hB0
  have e1d:=HLJ.out _ hB0.drew
  have e2:=fun o=>HLJ.out _ (hB0.alloc hB0.size o)
  have e2d:=fun o=>HLJ.out _ (hB0.alloc hB0.size o).drew
  have c0a:∀o1,(w.alloc o1).cell? ⟨gt,0,none⟩=some (.map (some bj)):=fun o1=>(h.blk.alloc o1).cell 0
  have c0b:∀o1 o2,((w.alloc o1).alloc o2).cell? ⟨gt,0,none⟩=some (.map (some bj)):=fun o1 o2=>((h.blk.alloc o1).alloc o2).cell 0
  have hzj:=vq5
  have hzn:=vjf
  clear hlj hln hle hfb hj hn2 h hnd
  go_enter func104,ntmps104
  go_wp2_with fail
  go_big_region
  have hB1:Below w.heap.size w ((w.alloc (.cells (rwL l) 42)).alloc (.cells (rwJ j) 38)).drew:=(hB0.alloc hB0.size _).drew
  have bl:Blk ((w.alloc (.cells (rwL l) 42)).alloc (.cells (rwJ j) 38)).drew w.heap.size 42 (rwL l):=(Blk.new w _ _).alloc _
  have bJ:Blk ((w.alloc (.cells (rwL l) 42)).alloc (.cells (rwJ j) 38)).drew (w.heap.size+1) 38 (rwJ j):=by
   have:=Blk.new (w.alloc (.cells (rwL l) 42)) 38 (rwJ j)
   rwa [show(w.alloc (.cells (rwL l) 42)).heap.size=w.heap.size+1 by simp] at this
  clear e1 e1d e2 e2d c0a c0b hzj hB0
  generalize((w.alloc (.cells (rwL l) 42)).alloc (.cells (rwJ j) 38)).drew=W at *
  have e1:=HLN.out _ hB1
  have e1d:=HLN.out _ hB1.drew
  have e2:=fun o=>HLN.out _ (hB1.alloc hB1.size o)
  have e2d:=fun o=>HLN.out _ (hB1.alloc hB1.size o).drew
  have bT:=HH.out.blk.below hB1 hlt
  have c1:=bT.c1
  have c1a:∀o1,(W.alloc o1).cell? ⟨gt,1,none⟩=some (.map (some bn)):=fun o1=>(bT.alloc o1).cell 1
  have d1:=bl.c1
  have d1a:∀o1,(W.alloc o1).cell? ⟨w.heap.size,1,none⟩=some (.string l.node):=fun o1=>(bl.alloc o1).cell 1
  go_wp2_with fail
  go_big_region
  have hB2:Below w.heap.size w (W.alloc (.cells (rwN n) 40)).drew:=(hB1.alloc hB1.size _).drew
  have bl2:Blk (W.alloc (.cells (rwN n) 40)).drew w.heap.size 42 (rwL l):=bl.alloc _
  have bJ2:Blk (W.alloc (.cells (rwN n) 40)).drew (w.heap.size+1) 38 (rwJ j):=bJ.alloc _
  clear e1 e1d e2 e2d c1 c1a d1 d1a bT hB1 bl bJ hzn
  generalize(W.alloc (.cells (rwN n) 40)).drew=W2 at *
 ·go_wp2_with fail
  go_ret
  exact⟨by rw[HLE.out];rfl,uj0 hB2 _,fun h0=>by rw[HFB.out] at h0;cases h0⟩
 ·go_wp2_with fail
  go_ret
  exact⟨by rw[HLE.out];rfl,uj0 hB2 _,fun h0=>by rw[HFB.out] at h0;cases h0⟩
 ·go_wp2_with fail
  go_ret
  exact⟨by rw[HLE.out];rfl,uj0 hB2 _,fun h0=>by rw[HFB.out] at h0;cases h0⟩
 ·have hT2:=HH.out.below hB2
  have hlu:=fun(W:World) (hW:Below W2.heap.size W2 W)=>(hT2.below hW).lookU l.node
  have hud:=hlu _ (zri _ _).drew
  have hT2d:=hT2.below (zri _ _).drew
  obtain⟨w5,hup,hT5,hg5⟩:=hT2d.putU hne l.node (ux0 jobs l.job)
  have c2:=hT2.blk.c2
  have d1:=bl2.c1
  have d2:=bJ2.c2
  rw[HND.out] at d2
  have hs2:=hB2.size
  have bl5:Blk w5 w.heap.size 42 (rwL l):=by
   obtain⟨m,hm,_⟩:=HH.out.mu
   have:=hm.lt
   exact(hg5.block w.heap.size bl2.lt (by intro h0;injection h0 with h0;omega)).trans bl2
  have c5:=bl5.c2
  have hw:IntKind.i64.wrap (u l.node+ux0 jobs l.job)=u l.node+ux0 jobs l.job:=IntWalk.i64_in _ (by omega)
  have HT5:=zrj hT5
  clear hT5 hT2d hT2 hlu
  go_wp2_with fail
  go_still_tail 10,(by kernel_rfl)
  change wpList _ _ _ _ _ W2.drew
  have hg6:w.grownBy w5 (some bu):=ujk (uj0 hB2.drew _) hg5
  clear hud
  generalize W2.drew=W3 at *
  go_wp2_with fail
  refine(ukc _ _ _ _).mono ?_
  rintro e w6 ⟨rfl,rfl⟩
  cases hwb:uxg l.till 0 1099511627776
  ·rw[hwb] at HLE
   go_wp2_with fail
   go_ret
   exact⟨by rw[HLE.out];rfl,hg6,fun _=>HT5.out⟩
  ·rw[hwb] at HLE
   go_wp2_with fail
   go_ret
   exact⟨by rw[HLE.out];rfl,hg6,fun _=>HT5.out⟩
theorem oRowsJ1 {p:Prop} (h:p:=by first | omega | (simp only[Z7,Z9] at *;omega)):p:=h
theorem sRowsJ1 {p:Prop} (h:p:=by
 have HOK:=zrj hok
 clear hok
 go_enter Z1,Z2
 go_wp2_with fail
 go_loopw [12] (fun i wr=>∃k:Nat,k<=l.length/\i=.int .i64 k/\Below w.heap.size w wr/\Hid (rowsE Z3 Z4 none l=rowsE Z3 Z4 (ujd l k) (l.drop k))) (fun i _=>l.length-(intOf i).toNat)
 case atStart=>exact⟨0,Nat.zero_le _,rfl,zri _ _,(show _=_ from rfl)⟩
 case round =>
  obtain⟨k,hk,rfl,hbr,HR⟩:=hrel
  by_cases hlt:k<l.length
  ·have hx:l[k]?=some l[k]:=zrd hlt
   have hg:=HOK.out l[k] (List.getElem_mem hlt)
   have hdr:=wqy l k _ hx
   have hpv:=vz1 l k _ hx
   generalize l[k]=x at *
   obtain⟨a,rfl,hab,_,hat⟩:=(hel.below hbr).at_ (k:=k) (r:=Z5 x) (by rw[zrg,hx];rfl)
   have hb5:=hbr.alloc hbr.size (.cells (Z6 x) Z7)
   have bx:=Blk.new wr Z7 (Z6 x)
   have hc:=Z8 x (wr.alloc (.cells (Z6 x) Z7)) hg.1 hg.2 (hT.below hb5)
   have hwr:=hbr.size
   have hbr':Below wr.heap.size wr (wr.alloc (.cells (Z6 x) Z7)):=(zri _ _).alloc (zra _) _
   have HR0:=HR.out
   rw[hdr] at HR0
   by_cases hE:Z4 x=0
   ·rw[hE] at hc
    have HC:=zrj hc
    cases hbo:uzp Z3 (ujd l k) x
    all_goals
     first
      | rw[uvx _ _ _ _ _ hE hbo,<- hpv] at HR0
      | rw[uva _ _ _ _ _ hE hbo] at HR0
     have HF:=zrj HR0
    all_goals
     obtain rfl | ⟨j,rfl⟩:k=0\/∃j,k=j+1:=by
      rcases k with _ | j
      ·exact .inl rfl
      ·exact .inr ⟨j,rfl⟩
    ·clear hc HR0 hE hbo hdr hpv hx HR
     go_wp2_with(refine uqe rfl _ _ rfl (a.add (0*Z9)) rfl (Z10 x) _ hat Z11 rfl Z12 ?_)
     refine HC.out.mono ?_
     rintro e w4 ⟨rfl,hb4⟩
     have bx4:=bx.bl hb4
     have hb6:=bthen hb5 hb4
     clear hat
     go_wp2_with fail
     go_quiet (fail)
     go_wp2_with fail
     go_roundw
     case rel=>exact⟨1,by exact oRowsJ1,rfl,uqn hb6 _,HF.out⟩
     case measure=>simp[intOf];exact oRowsJ1
    ·
     have hy:l[j]?=some l[j]:=zrd (by exact oRowsJ1)
     have hle:leS (Z3 x) (Z3 l[j])=false:=by
      have:uzp Z3 (some l[j]) x=false:=by rw[<- hbo];congr 1;exact hy.symm
      exact this
     generalize l[j]=y at *
     obtain⟨a',ha',_,_,hay⟩:=(hel.below hbr).at_ (k:=j) (r:=Z5 y) (by rw[zrg,hy];rfl)
     obtain rfl:a=a':=by injection ha'
     unfold leS at hle
     have HL:=zrj hle
     clear hc HR0 hE hbo hdr hpv hx hy ha' HR hle
     go_wp2_with(refine uqe rfl _ _ rfl (a.add ((j+1)*Z9)) rfl (Z10 x) _ hat Z11 rfl Z12 ?_)
     refine HC.out.mono ?_
     rintro e w4 ⟨rfl,hb4⟩
     have bx4:=bx.bl hb4
     have hb6:=bthen hb5 hb4
     have hay4:=(hay.below hbr' (by rw[uql];exact Nat.lt_of_lt_of_le hab hwr)).below hb4 (by rw[uql];have:=hbr'.size;exact oRowsJ1)
     clear hat hay
     go_wp2_with fail
     have hwj:IntKind.i64.wrap (j:Int)=(j:Int):=IntWalk.i64_in _ (by exact oRowsJ1)
     have hj0:(0:Int)<=(j:Int):=by exact oRowsJ1
     have hj1:(j:Int)<(l.length:Int):=by exact oRowsJ1
     refine uxq (by kernel_rfl) (by kernel_rfl) ?_
     repeat(first
      | (refine uqt (by first | rfl | kernel_rfl) _ _ rfl ⟨wr.heap.size,0,none⟩ rfl (Z10 x) _ (fun w5 hw5=>At.blk (bx4.bl hw5)) Z11 rfl Z12 ?_;simp only[Act.put,ma,mb,mc])
      | (refine uqt (by first | rfl | kernel_rfl) _ _ rfl (a.add (j*Z9)) rfl (Z10 y) _ (fun w5 hw5=>hay4.below hw5 (by rw[uql];have:=hbr'.size;have:=hb4.size;exact oRowsJ1)) Z11 rfl Z12 ?_;simp only[Act.put,ma,mb,mc])
      | (apply uxs;(focus (first | rfl | kernel_rfl));(focus (intro w5 hw5;unfold Oper.quietAt;go_simp;first | rfl | exact⟨rfl,rfl⟩ | (with_reducible refine(Z13 x w5).mono ?_;rintro e w8 ⟨rfl,hb8⟩;exact⟨rfl,Abv.step hw5 hb8⟩) | (with_reducible refine(Z13 y w5).mono ?_;rintro e w8 ⟨rfl,hb8⟩;exact⟨rfl,Abv.step hw5 hb8⟩)));simp only[Act.put,ma,mb,mc]))
     refine wpQuiet_nil ?_
     intro w7 hw7
     have hb7:Below w4.heap.size w4 w7:=hw7
     have hl7:=HL.out
     clear hwj hj0 hj1
     generalize(Op.bytesLess (Z3 x).toList (Z3 y).toList||(Z3 x).toList == (Z3 y).toList)=bo at hl7 ⊢
     subst hl7
     go_wp2_with fail
     refine⟨⟨j+1+1,by exact oRowsJ1,by go_num,bthen hb6 hb7,HF.out⟩,by simp[intOf];exact oRowsJ1⟩
    ·exact absurd hbo (by simp[ujd,uzp])
    ·
     have hy:l[j]?=some l[j]:=zrd (by exact oRowsJ1)
     have hle:leS (Z3 x) (Z3 l[j])=true:=by
      have:uzp Z3 (some l[j]) x=true:=by rw[<- hbo];congr 1;exact hy.symm
      exact this
     generalize l[j]=y at *
     obtain⟨a',ha',_,_,hay⟩:=(hel.below hbr).at_ (k:=j) (r:=Z5 y) (by rw[zrg,hy];rfl)
     obtain rfl:a=a':=by injection ha'
     unfold leS at hle
     have HL:=zrj hle
     clear hc HR0 hE hbo hdr hpv hx hy ha' HR hle
     go_wp2_with(refine uqe rfl _ _ rfl (a.add ((j+1)*Z9)) rfl (Z10 x) _ hat Z11 rfl Z12 ?_)
     refine HC.out.mono ?_
     rintro e w4 ⟨rfl,hb4⟩
     have bx4:=bx.bl hb4
     have hb6:=bthen hb5 hb4
     have hay4:=(hay.below hbr' (by rw[uql];exact Nat.lt_of_lt_of_le hab hwr)).below hb4 (by rw[uql];have:=hbr'.size;exact oRowsJ1)
     clear hat hay
     go_wp2_with fail
     have hwj:IntKind.i64.wrap (j:Int)=(j:Int):=IntWalk.i64_in _ (by exact oRowsJ1)
     have hj0:(0:Int)<=(j:Int):=by exact oRowsJ1
     have hj1:(j:Int)<(l.length:Int):=by exact oRowsJ1
     refine uxq (by kernel_rfl) (by kernel_rfl) ?_
     repeat(first
      | (refine uqt (by first | rfl | kernel_rfl) _ _ rfl ⟨wr.heap.size,0,none⟩ rfl (Z10 x) _ (fun w5 hw5=>At.blk (bx4.bl hw5)) Z11 rfl Z12 ?_;simp only[Act.put,ma,mb,mc])
      | (refine uqt (by first | rfl | kernel_rfl) _ _ rfl (a.add (j*Z9)) rfl (Z10 y) _ (fun w5 hw5=>hay4.below hw5 (by rw[uql];have:=hbr'.size;have:=hb4.size;exact oRowsJ1)) Z11 rfl Z12 ?_;simp only[Act.put,ma,mb,mc])
      | (apply uxs;(focus (first | rfl | kernel_rfl));(focus (intro w5 hw5;unfold Oper.quietAt;go_simp;first | rfl | exact⟨rfl,rfl⟩ | (with_reducible refine(Z13 x w5).mono ?_;rintro e w8 ⟨rfl,hb8⟩;exact⟨rfl,Abv.step hw5 hb8⟩) | (with_reducible refine(Z13 y w5).mono ?_;rintro e w8 ⟨rfl,hb8⟩;exact⟨rfl,Abv.step hw5 hb8⟩)));simp only[Act.put,ma,mb,mc]))
     refine wpQuiet_nil ?_
     intro w7 hw7
     have hb7:Below w4.heap.size w4 w7:=hw7
     have hl7:=HL.out
     clear hwj hj0 hj1
     generalize(Op.bytesLess (Z3 x).toList (Z3 y).toList||(Z3 x).toList == (Z3 y).toList)=bo at hl7 ⊢
     subst hl7
     go_wp2_with fail
     go_ret
     exact⟨by rw[HF.out];rfl,bthen hb6 hb7⟩
   ·rw[uk9 _ _ _ _ _ hE] at HR0
    have hne:((Z4 x:Int) != 0)=true:=by rw[bne_iff_ne];exact oRowsJ1
    have HF:=zrj HR0
    have HC:=zrj hc
    clear hc HR0 hE hdr hpv hx HR
    go_wp2_with(refine uqe rfl _ _ rfl (a.add (k*Z9)) rfl (Z10 x) _ hat Z11 rfl Z12 ?_)
    refine HC.out.mono ?_
    rintro e w4 ⟨rfl,hb4⟩
    go_wp2_with fail
    go_ret
    exact⟨by rw[HF.out];rfl,bthen hb5 hb4⟩
  ·obtain rfl:k=l.length:=by exact oRowsJ1
   have HR0:=HR.out
   rw[List.drop_length] at HR0
   have HF:=zrj HR0
   clear HR0 HR
   go_wp2_with fail
   go_ret
   exact⟨by rw[HF.out];rfl,hbr⟩):p:=h
@[simp] abbrev cRowsJ0J:Nat:=38
@[simp] abbrev cRowsJ0N:Nat:=40
@[simp] abbrev cRowsJ1J:Nat:=5
@[simp] abbrev cRowsJ1N:Nat:=3
section
open Go.RowKit
open YtknmnhleicakhaaGreatDoor renaming JobD.name -> Z3, jobE -> Z4, rowJ -> Z5, rwJ -> Z6, cRowsJ0J -> Z7, vkg -> Z8, cRowsJ1J -> Z9, rlJ -> Z10, uqo -> Z12, uj6 -> Z13
open Go.Proofs.Tryz renaming func99 -> Z1, ntmps99 -> Z2, underlying38 -> Z11
theorem vwn (p:Zoa) (c:Nat) (l:List JobD) (w:World) (hel:Elts w w.heap.size 5 p (l.map rowJ)) (hok:∀x∈l,x.name.size<=9223372036854775807/\x.tag.size<=9223372036854775807) (hl:l.length<=4611686018427387904) (hT:Tabs w) :
  Calls prog 99 #[.slice p l.length c,.func (.func 91) #[] #[],.func (.func 100) #[] #[]] w fun e w'=>e=.returned (.int .i64 (rowsE JobD.name jobE none l:Int))/\Below w.heap.size w w':=sRowsJ1
end
section
open Go.RowKit
open YtknmnhleicakhaaGreatDoor renaming NodeD.name -> Z3, nodeE -> Z4, rowN -> Z5, rwN -> Z6, cRowsJ0N -> Z7, vzq -> Z8, cRowsJ1N -> Z9, rlN -> Z10, uqk -> Z12, ujn -> Z13
open Go.Proofs.Tryz renaming func101 -> Z1, ntmps101 -> Z2, underlying40 -> Z11
theorem vwo (p:Zoa) (c:Nat) (l:List NodeD) (w:World) (hel:Elts w w.heap.size 3 p (l.map rowN)) (hok:∀x∈l,x.name.size<=9223372036854775807/\x.zone.size<=9223372036854775807) (hl:l.length<=4611686018427387904) (hT:Tabs w) :
  Calls prog 101 #[.slice p l.length c,.func (.func 93) #[] #[],.func (.func 102) #[] #[]] w fun e w'=>e=.returned (.int .i64 (rowsE NodeD.name nodeE none l:Int))/\Below w.heap.size w w':=sRowsJ1
end
theorem At.gr {w w':World} {b:Nat} {a:Addr} {cs:List Value} (h:At w a cs) (hg:w.grownBy w' (some b)) (ha:a.block<w.heap.size) (hb:a.block≠b):At w' a cs :=
 fun j v hv=>(World.cell?_of_block (by rw[uql];exact hg.block a.block ha (by intro h0;injection h0 with h0;exact hb h0))).trans (h j v hv)
theorem Elts.gr {w w':World} {B b size:Nat} {p:Zoa} {rows:List (List Value)} (h:Elts w B size p rows) (hg:w.grownBy w' (some b)) (hB:B<=w.heap.size) (hb:B<=b):Elts w' B size p rows :=
 ⟨h.1,fun hn=>by
  obtain⟨a,e,hab,hc⟩:=h.2 hn
  exact⟨a,e,hab,fun k r hr=>(hc k r hr).gr hg (by rw[uql];omega) (by rw[uql];omega)⟩⟩
theorem Blk.gr {w w':World} {g b:Nat} {t:TypeId} {cs:Array Value} (h:Blk w g t cs) (hg:w.grownBy w' (some b)) (hne:g≠b):Blk w' g t cs:=(hg.block g h.lt (by intro h0;injection h0 with h0;exact hne h0)).trans h
theorem wxq (jobs:List JobD) (nm:Zba) (a b:List uqb):ux5 jobs nm (a++b)=ux5 jobs nm a+ux5 jobs nm b:=by
 induction a with
 | nil=>simp[ux5]
 | cons x r ih=>simp only[List.cons_append,ux5,ih];omega
theorem ww6 (jobs:List JobD) (l:List uqb) (k:Nat) (x:uqb) (h:l[k]?=some x):addAt (fun nm=>ux5 jobs nm (l.take k)) x.node (ux0 jobs x.job)=fun nm=>ux5 jobs nm (l.take (k+1)):=by
 funext nm
 rw[List.take_add_one,h,Option.toList_some,wxq]
 unfold addAt
 simp only[ux5]
 by_cases h1:x.node=nm
 ·rw[if_pos h1,if_pos h1,h1];omega
 ·rw[if_neg h1,if_neg h1];omega
theorem xyw (jobs:List JobD) (hneed:∀nm,0<=ux0 jobs nm/\ux0 jobs nm<=1000000) (nm:Zba) (l:List uqb):0<=ux5 jobs nm l/\ux5 jobs nm l<=1000000*(l.length:Int):=by
 induction l with
 | nil=>simp[ux5]
 | cons x r ih =>
  have:=hneed x.job
  simp only[ux5,List.length_cons]
  split <;> omega
theorem xzd {jobs:List JobD} {nodes:List NodeD} {l:uqb} (h:uzw jobs nodes l=0):fitB jobs nodes l=true:=by
 unfold uzw at h
 unfold fitB
 split at h
 ·assumption
 ·cases h
def wx0 (w:World) (gt bj bn bu:Nat) (jobs:List JobD) (nodes:List NodeD) (l:List uqb) (e:Ending) (w':World):Prop :=
 e=.returned (.int .i64 (rowsE uqb.job (uzw jobs nodes) none l:Int))/\w.grownBy w' (some bu)/\(rowsE uqb.job (uzw jobs nodes) none l=0->TabIs w' gt bj bn bu jobs nodes (fun nm=>ux5 jobs nm l))
theorem xwz (p:Zoa) (c:Nat) (l:List uqb) (gt bj bn bu B:Nat) (jobs:List JobD) (nodes:List NodeD) (w:World) (hT:TabIs w gt bj bn bu jobs nodes (fun _=>0)) (hne:gt≠bu/\bj≠bu/\bn≠bu)
  (hneed:∀nm,0<=ux0 jobs nm/\ux0 jobs nm<=1000000) (hl:l.length<=40) (hel:Elts w B 3 p (l.map rowL)) (hB:B<=w.heap.size) (hBu:B<=bu) :
  Calls prog 103 #[.slice p l.length c,.func (.func 95) #[] #[],.func (.func 104) #[zse gt] #[]] w fun e w'=>wx0 w gt bj bn bu jobs nodes l e w':=by
 have hbu:bu<w.heap.size:=by obtain⟨m,hm,_⟩:=hT.mu;exact hm.lt
 have HT0:=zrj hT
 have HN:=zrj hneed
 clear hT hneed
 go_enter func103,ntmps103
 go_wp2_with fail
 go_loopw [12] (fun i wr=>∃k:Nat,k<=l.length/\i=.int .i64 k/\w.grownBy wr (some bu)/\Hid (TabIs wr gt bj bn bu jobs nodes (fun nm=>ux5 jobs nm (l.take k)))/\Hid (rowsE uqb.job (uzw jobs nodes) none l=rowsE uqb.job (uzw jobs nodes) (ujd l k) (l.drop k))) (fun i _=>l.length-(intOf i).toNat)
 case atStart=>exact⟨0,Nat.zero_le _,rfl,World.grownBy.refl w _,(show TabIs w gt bj bn bu jobs nodes _ from HT0.out),(show _=_ from rfl)⟩
 case round =>
  obtain⟨k,hk,rfl,hgr,HT,HR⟩:=hrel
  by_cases hlt:k<l.length
  ·have hx:l[k]?=some l[k]:=zrd hlt
   have hdr:=wqy l k _ hx
   have hpv:=vz1 l k _ hx
   have hut:=ww6 jobs l k _ hx
   generalize l[k]=x at *
   have helr:=hel.gr hgr hB hBu
   obtain⟨a,rfl,hab,_,hat⟩:=helr.at_ (k:=k) (r:=rowL x) (by rw[zrg,hx];rfl)
   have hwr:=hgr.size
   have hbr':Below wr.heap.size wr (wr.alloc (.cells (rwL x) 42)):=(zri _ _).alloc (zra _) _
   have hg5:w.grownBy (wr.alloc (.cells (rwL x) 42)) (some bu):=ujk hgr (uj0 hbr' _)
   have bx:=Blk.new wr 42 (rwL x)
   have hub:=xyw jobs HN.out x.node (l.take k)
   have hnb:=HN.out x.job
   rw[List.length_take,Nat.min_eq_left (by omega)] at hub
   have hc:=xvq x gt bj bn bu jobs nodes _ _ (HT.out.below hbr') hne (by show _<=ux5 jobs x.node (l.take k)/\ux5 jobs x.node (l.take k)<=_;omega) (by omega)
   have HR0:=HR.out
   rw[hdr] at HR0
   have hbw:bu<wr.heap.size:=by omega
   unfold wxy at hc
   rw[hut] at hc
   clear hub hnb
   by_cases hE:uzw jobs nodes x=0
   ·have hfit:=xzd hE
    rw[hE,hfit] at hc
    have HC:=zrj hc
    cases hbo:uzp uqb.job (ujd l k) x
    all_goals
     first
      | rw[uvx _ _ _ _ _ hE hbo,<- hpv] at HR0
      | rw[uva _ _ _ _ _ hE hbo] at HR0
     have HF:=zrj HR0
    all_goals
     obtain rfl | ⟨j,rfl⟩:k=0\/∃j,k=j+1:=by
      rcases k with _ | j
      ·exact .inl rfl
      ·exact .inr ⟨j,rfl⟩
    ·clear hc HR0 hE hbo hdr hpv hx HR hut hfit
     go_wp2_with(refine uqe rfl _ _ rfl (a.add (0*3)) rfl (rlL x) _ hat underlying42 rfl uqj ?_)
     refine HC.out.mono ?_
     rintro e w4 ⟨rfl,hg4,ht4⟩
     have HT4:=zrj (ht4 trivial)
     have bx4:=bx.gr hg4 (by omega)
     have hg6:=ujk hg5 hg4
     clear hat ht4
     go_wp2_with fail
     go_quiet (fail)
     go_wp2_with fail
     go_roundw
     case rel=>exact⟨1,by omega,rfl,⟨hg6.os,hg6.tape,hg6.output,hg6.size,hg6.block⟩,(show TabIs _ gt bj bn bu jobs nodes _ from HT4.out.below ((uqn (zri _ _) _))),HF.out⟩
     case measure=>simp[intOf];omega
    ·
     have hy:l[j]?=some l[j]:=zrd (by omega)
     have hle:leS (uqb.job x) (uqb.job l[j])=false:=by
      have:uzp uqb.job (some l[j]) x=false:=by rw[<- hbo];congr 1;exact hy.symm
      exact this
     generalize l[j]=y at *
     obtain⟨a',ha',_,_,hay⟩:=helr.at_ (k:=j) (r:=rowL y) (by rw[zrg,hy];rfl)
     obtain rfl:a=a':=by injection ha'
     unfold leS at hle
     have HL:=zrj hle
     clear hc HR0 hE hbo hdr hpv hx hy ha' HR hle hut hfit
     go_wp2_with(refine uqe rfl _ _ rfl (a.add ((j+1)*3)) rfl (rlL x) _ hat underlying42 rfl uqj ?_)
     refine HC.out.mono ?_
     rintro e w4 ⟨rfl,hg4,ht4⟩
     have HT4:=zrj (ht4 trivial)
     have bx4:=bx.gr hg4 (by omega)
     have hg6:=ujk hg5 hg4
     have hay4:At w4 (a.add (j*3)) (rowL y):=(hay.below hbr' (by rw[uql];omega)).gr hg4 (by rw[uql];have:=hbr'.size;omega) (by rw[uql];omega)
     clear hat hay ht4
     go_wp2_with fail
     have hwj:IntKind.i64.wrap (j:Int)=(j:Int):=IntWalk.i64_in _ (by omega)
     have hj0:(0:Int)<=(j:Int):=by omega
     have hj1:(j:Int)<(l.length:Int):=by omega
     refine uxq (by kernel_rfl) (by kernel_rfl) ?_
     repeat(first
      | (refine uqt (by first | rfl | kernel_rfl) _ _ rfl ⟨wr.heap.size,0,none⟩ rfl (rlL x) _ (fun w5 hw5=>At.blk (bx4.bl hw5)) underlying42 rfl uqj ?_;simp only[Act.put,ma,mb,mc])
      | (refine uqt (by first | rfl | kernel_rfl) _ _ rfl (a.add (j*3)) rfl (rlL y) _ (fun w5 hw5=>hay4.below hw5 (by rw[uql];have:=hbr'.size;have:=hg4.size;omega)) underlying42 rfl uqj ?_;simp only[Act.put,ma,mb,mc])
      | (apply uxs;(focus (first | rfl | kernel_rfl));(focus (intro w5 hw5;unfold Oper.quietAt;go_simp;first | rfl | exact⟨rfl,rfl⟩ | (with_reducible refine(uza x w5).mono ?_;rintro e w8 ⟨rfl,hb8⟩;exact⟨rfl,Abv.step hw5 hb8⟩) | (with_reducible refine(uza y w5).mono ?_;rintro e w8 ⟨rfl,hb8⟩;exact⟨rfl,Abv.step hw5 hb8⟩)));simp only[Act.put,ma,mb,mc]))
     refine wpQuiet_nil ?_
     intro w7 hw7
     have hb7:Below w4.heap.size w4 w7:=hw7
     have hl7:=HL.out
     clear hwj hj0 hj1
     generalize(Op.bytesLess (uqb.job x).toList (uqb.job y).toList||(uqb.job x).toList == (uqb.job y).toList)=bo at hl7 ⊢
     subst hl7
     go_wp2_with fail
     refine⟨⟨j+1+1,by omega,by go_num,ujk hg6 (uj0 hb7 _),(show TabIs _ gt bj bn bu jobs nodes _ from HT4.out.below hb7),HF.out⟩,by simp[intOf];omega⟩
    ·exact absurd hbo (by simp[ujd,uzp])
    ·
     have hy:l[j]?=some l[j]:=zrd (by omega)
     have hle:leS (uqb.job x) (uqb.job l[j])=true:=by
      have:uzp uqb.job (some l[j]) x=true:=by rw[<- hbo];congr 1;exact hy.symm
      exact this
     generalize l[j]=y at *
     obtain⟨a',ha',_,_,hay⟩:=helr.at_ (k:=j) (r:=rowL y) (by rw[zrg,hy];rfl)
     obtain rfl:a=a':=by injection ha'
     unfold leS at hle
     have HL:=zrj hle
     clear hc HR0 hE hbo hdr hpv hx hy ha' HR hle hut hfit
     go_wp2_with(refine uqe rfl _ _ rfl (a.add ((j+1)*3)) rfl (rlL x) _ hat underlying42 rfl uqj ?_)
     refine HC.out.mono ?_
     rintro e w4 ⟨rfl,hg4,ht4⟩
     have HT4:=zrj (ht4 trivial)
     have bx4:=bx.gr hg4 (by omega)
     have hg6:=ujk hg5 hg4
     have hay4:At w4 (a.add (j*3)) (rowL y):=(hay.below hbr' (by rw[uql];omega)).gr hg4 (by rw[uql];have:=hbr'.size;omega) (by rw[uql];omega)
     clear hat hay ht4
     go_wp2_with fail
     have hwj:IntKind.i64.wrap (j:Int)=(j:Int):=IntWalk.i64_in _ (by omega)
     have hj0:(0:Int)<=(j:Int):=by omega
     have hj1:(j:Int)<(l.length:Int):=by omega
     refine uxq (by kernel_rfl) (by kernel_rfl) ?_
     repeat(first
      | (refine uqt (by first | rfl | kernel_rfl) _ _ rfl ⟨wr.heap.size,0,none⟩ rfl (rlL x) _ (fun w5 hw5=>At.blk (bx4.bl hw5)) underlying42 rfl uqj ?_;simp only[Act.put,ma,mb,mc])
      | (refine uqt (by first | rfl | kernel_rfl) _ _ rfl (a.add (j*3)) rfl (rlL y) _ (fun w5 hw5=>hay4.below hw5 (by rw[uql];have:=hbr'.size;have:=hg4.size;omega)) underlying42 rfl uqj ?_;simp only[Act.put,ma,mb,mc])
      | (apply uxs;(focus (first | rfl | kernel_rfl));(focus (intro w5 hw5;unfold Oper.quietAt;go_simp;first | rfl | exact⟨rfl,rfl⟩ | (with_reducible refine(uza x w5).mono ?_;rintro e w8 ⟨rfl,hb8⟩;exact⟨rfl,Abv.step hw5 hb8⟩) | (with_reducible refine(uza y w5).mono ?_;rintro e w8 ⟨rfl,hb8⟩;exact⟨rfl,Abv.step hw5 hb8⟩)));simp only[Act.put,ma,mb,mc]))
     refine wpQuiet_nil ?_
     intro w7 hw7
     have hb7:Below w4.heap.size w4 w7:=hw7
     have hl7:=HL.out
     clear hwj hj0 hj1
     generalize(Op.bytesLess (uqb.job x).toList (uqb.job y).toList||(uqb.job x).toList == (uqb.job y).toList)=bo at hl7 ⊢
     subst hl7
     go_wp2_with fail
     go_ret
     exact⟨by rw[HF.out];rfl,ujk hg6 (uj0 hb7 _),fun h0=>by rw[HF.out] at h0;cases h0⟩
   ·rw[uk9 _ _ _ _ _ hE] at HR0
    have hne2:((uzw jobs nodes x:Int) != 0)=true:=by rw[bne_iff_ne];omega
    have HF:=zrj HR0
    have HE:=zrj hE
    have HC:=zrj hc
    clear hc HR0 hE hdr hpv hx HR hut
    go_wp2_with(refine uqe rfl _ _ rfl (a.add (k*3)) rfl (rlL x) _ hat underlying42 rfl uqj ?_)
    refine HC.out.mono ?_
    rintro e w4 ⟨rfl,hg4,_⟩
    go_wp2_with fail
    go_ret
    exact⟨by rw[HF.out];rfl,ujk hg5 hg4,fun h0=>absurd (HF.out.symm.trans h0) HE.out⟩
  ·obtain rfl:k=l.length:=by omega
   have HR0:=HR.out
   rw[List.drop_length] at HR0
   have hT1:=HT.out
   rw[List.take_length] at hT1
   have HT1:=zrj hT1
   have HF:=zrj HR0
   clear HR0 HR hT1
   go_wp2_with fail
   go_ret
   exact⟨by rw[HF.out];rfl,hgr,fun _=>HT1.out⟩
end Go.Proofs.YtknmnhleicakhaaGreatDoor
