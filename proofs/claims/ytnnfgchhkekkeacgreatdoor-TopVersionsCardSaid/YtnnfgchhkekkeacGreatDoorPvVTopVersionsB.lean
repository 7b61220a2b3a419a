/- Lemmas.
-/
import Derived.Test.YtnnfgchhkekkeacGreatDoorPvVTopVersions
set_option linter.all false
set_option maxHeartbeats 16000000
set_option maxRecDepth 100000
namespace Go.Proofs.YtnnfgchhkekkeacGreatDoor.topVersions
open Go.ChangeShapes Go.WideShapes Go.ChangeAt Go.RowKit Go.Joins
open Go.ChangeMaps (open_string)
theorem own:ownKnob Tryz.prog.godebug=none:=by kernel_rfl
theorem laid:laidOutB Tryz.prog=true:=by kernel_rfl
theorem contract (H:Type) (enc:TypeId×Value→H) (W:World) (base:Nat) (args:Array Value) (ds gs:List (DataW H)) (before:List MemPlace)
  (hval0:∀(j:Nat) t v,Tryz.f3.params[j]?=some t→args[j]?=some v→Value.okWide Tryz.prog W .any base t v)
  (hW:DataW.Whole enc Tryz.prog Tryz.f3.params.toList Rows.topVersionsSpec.vars false W args.toList ds gs before)
  (hsz0:(DataW.weightsEach Tryz.prog (Tryz.f3.params.toList++Rows.topVersionsSpec.plain.varTypes Tryz.prog) (ds++gs)).all (· ≤ reachBytes)=true)
  (hT:Tabs W) :
  Calls Tryz.prog 3 args W fun e W'=>∃v,e=.returned v/\Rows.topVersionsSpec.post enc Tryz.prog Tryz.f3 false true false false W args v W':=by
 have hval:∀(j:Nat) t v,Tryz.f3.params[j]?=some t→args[j]?=some v→Value.okWide Tryz.prog W .any base t v:=hval0
 have hsz:(DataW.weightsEach Tryz.prog (Tryz.f3.params.toList++Rows.topVersionsSpec.plain.varTypes Tryz.prog) (ds++gs)).all (· ≤ reachBytes)=true:=hsz0
 have hlt:∀x∈before,x.block<W.heap.size:=fun x hx=>hW.lt x hx
 have hW':=hW
 obtain⟨p,q,hA0,hV,rfl,hfz,hnd⟩:=hW
 have hA:DataW.TrodAll enc Tryz.prog W 0 (fun _=>true) true Tryz.f3.params.toList args.toList ds p:=hA0
 rw[Tryz.params3] at hA hval hsz
 obtain⟨v0,vs0,d0,ds0,p0,q0,hargs,rfl,rfl,h0,r0⟩:=trodAll_cons hA
 obtain⟨v1,vs1,d1,ds1,p1,q1,rfl,rfl,rfl,h1,r1⟩:=trodAll_cons r0
 obtain⟨v2,vs2,d2,ds2,p2,q2,rfl,rfl,rfl,h2,r2⟩:=trodAll_cons r1
 obtain⟨rfl,rfl,rfl⟩:=trodAll_nil r2
 obtain rfl:args=#[v0,v1,v2]:=by cases args;simp_all
 obtain⟨rfl,rfl⟩:=trodVars_none hV
 obtain⟨s0,pj0,pn0,pl0,cj0,cn0,cl0,rfl,hm0,hk0⟩:=open_state (hval 0 26 v0 rfl rfl) h0 hsz (j:=0) rfl rfl
 obtain⟨a1,rfl,rfl,rfl,w1⟩:=open_int Tryz.underlying3 (hval 1 3 v1 rfl rfl) h1
 have b1:=bounds_i64 w1
 obtain⟨pq2,cq2,l2,rfl,hel2,hok2,hl2⟩:=open_reqs (hval 2 27 v2 rfl rfl) h2
 refine(walk s0 pj0 pn0 pl0 cj0 cn0 cl0 W hm0 hk0 a1 b1.1 b1.2 pq2 cq2 l2 hel2 hok2 hl2 hT).mono fun e W' ⟨he,hb⟩=>?_
 subst he
 exact⟨_,rfl,law_post laid (by kernel_rfl) Tryz.underlying4 rfl rfl hW' rfl rfl rfl rfl hb⟩
theorem reads (os:Os) {H:Type} (enc:TypeId×Value→H):∃places,DataW.whole enc Tryz.prog ((laidWorld os).forCall (fun _ _=>0) ⟨#[],#[.agg zsv,.int .i64 0,.slice none 0 0],[]⟩).memory Tryz.f3.params.toList Rows.topVersionsSpec.vars false (#[.agg zsv,.int .i64 0,.slice none 0 0]:Array Value).toList 8=some ([.agg [.lit (.int .i64 0),.nil,.nil,.nil],.lit (.int .i64 0),.nil],[],places) :=
 ⟨[],by kernel_rfl⟩
theorem lifted (os:Os) (started:os.Started) (H:Type) (enc:TypeId×Value→H) (F:Stop.Interp) :
  ReturnsInHanded {} Tryz.checked os 3 .any ((OpenSpec.ofChange Rows.topVersionsSpec).preRow enc Tryz.prog Tryz.f3 Rows.topVersionsRow.domain false Rows.topVersionsRow.laid) (((OpenSpec.ofChange Rows.topVersionsSpec).at F).post enc Tryz.prog Tryz.f3 false true false false):=by
 obtain⟨places,hx⟩:=reads os enc
 refine returnsInHanded_of_row (C:=Tryz.checked) (s:=(OpenSpec.ofChange Rows.topVersionsSpec)) own started (by kernel_rfl) Tryz.func3
  (witness_row_atRef (enc:=enc) (C:=Tryz.checked) false (laidWorld os) #[.agg zsv,.int .i64 0,.slice none 0 0] rfl (by kernel_rfl) (by kernel_rfl) (by kernel_rfl)
   (OpenSpec.preRow_of_cond 8 hx (by kernel_rfl) (fun k hk=>by cases hk) (by kernel_rfl) (laid_met os _))) ?_
 intro W base args ds gs before hval0 hW _ hcond hsz0 hL _ _
 exact contract H enc W base args ds gs before hval0 hW hsz0 (tabs_of_laid hL)
end Go.Proofs.YtnnfgchhkekkeacGreatDoor.topVersions
