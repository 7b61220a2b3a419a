/- Lemmas.
-/
import Derived.Test.YtknmnhleicakhaaGreatDoorPtSvA
set_option linter.all false
set_option maxHeartbeats 16000000
set_option maxRecDepth 100000
namespace Go.Proofs.YtknmnhleicakhaaGreatDoor
open Go.Proofs.Tryz
open Go.RowKit
theorem eqInQ (q r:ReqD) (w:World):(Op.equalIn 10000 44 (.agg (qv q)) (.agg (qv r))).run prog w=.ok (decide (q=r)) w:=by
 have hS:prog.underlying 44 = some (.struct (prog.fieldsOf 44)):=by kernel_rfl
 have hp:prog.stoodInHeld 44 = false:=by kernel_rfl
 have u0:=underlying9
 have z0:=Tryz.sizeOf9
 have g0:=Tryz.isAgg9
 have u1:=underlying3
 have z1:=Tryz.sizeOf3
 have g1:=Tryz.isAgg3
 have u2:=underlying38
 have z2:=Tryz.sizeOf38
 have g2:=Tryz.isAgg38
 have u3:=underlying40
 have z3:=Tryz.sizeOf40
 have g3:=Tryz.isAgg40
 have u4:=underlying42
 have z4:=Tryz.sizeOf42
 have g4:=Tryz.isAgg42
 have s0:prog.underlying 38 = some (.struct (prog.fieldsOf 38)):=by kernel_rfl
 have p0:prog.stoodInHeld 38 = false:=by kernel_rfl
 have s1:prog.underlying 40 = some (.struct (prog.fieldsOf 40)):=by kernel_rfl
 have p1:prog.stoodInHeld 40 = false:=by kernel_rfl
 have s2:prog.underlying 42 = some (.struct (prog.fieldsOf 42)):=by kernel_rfl
 have p2:prog.stoodInHeld 42 = false:=by kernel_rfl
 rw[show(10000:Nat)=9999+1 from rfl,run_equalIn_agg w 9999 44 _ _ hS hp]
 simp only[Program.fieldsOf,underlying44]
 go_simp
 clear hS hp u0 z0 g0 u1 z1 g1 u2 z2 g2 u3 z3 g3 u4 z4 g4 s0 p0 s1 p1 s2 p2
 by_cases h:q=r
 ·subst h;simp
 ·rw[decide_eq_false h]
  by_cases h1:q.kind=r.kind
  rotate_left
  ·rw[if_neg h1]
  rw[if_pos h1]
  by_cases h2:q.job.name.toList=r.job.name.toList
  rotate_left
  ·rw[if_neg h2]
  rw[if_pos h2]
  by_cases h3:q.job.prio=r.job.prio
  rotate_left
  ·rw[if_neg h3]
  rw[if_pos h3]
  by_cases h4:q.job.need=r.job.need
  rotate_left
  ·rw[if_neg h4]
  rw[if_pos h4]
  by_cases h5:q.job.tries=r.job.tries
  rotate_left
  ·rw[if_neg h5]
  rw[if_pos h5]
  by_cases h6:q.job.tag.toList=r.job.tag.toList
  rotate_left
  ·rw[if_neg h6]
  rw[if_pos h6]
  by_cases h7:q.node.name.toList=r.node.name.toList
  rotate_left
  ·rw[if_neg h7]
  rw[if_pos h7]
  by_cases h8:q.node.room=r.node.room
  rotate_left
  ·rw[if_neg h8]
  rw[if_pos h8]
  by_cases h9:q.node.zone.toList=r.node.zone.toList
  rotate_left
  ·rw[if_neg h9]
  rw[if_pos h9]
  by_cases h10:q.lease.job.toList=r.lease.job.toList
  rotate_left
  ·rw[if_neg h10]
  rw[if_pos h10]
  by_cases h11:q.lease.node.toList=r.lease.node.toList
  rotate_left
  ·rw[if_neg h11]
  rw[if_pos h11]
  by_cases h12:q.lease.till=r.lease.till
  rotate_left
  ·rw[if_neg h12]
  rw[if_pos h12]
  by_cases h13:q.name.toList=r.name.toList
  rotate_left
  ·rw[if_neg h13]
  rw[if_pos h13]
  by_cases h14:q.n=r.n
  rotate_left
  ·rw[if_neg h14]
  rw[if_pos h14]
  exfalso
  apply h
  obtain⟨k,⟨a1,a2,a3,a4,a5⟩,⟨b1,b2,b3⟩,⟨c1,c2,c3⟩,nm,n⟩:=q
  obtain⟨k',⟨a1',a2',a3',a4',a5'⟩,⟨b1',b2',b3'⟩,⟨c1',c2',c3'⟩,nm',n'⟩:=r
  simp only at h1 h2 h3 h4 h5 h6 h7 h8 h9 h10 h11 h12 h13 h14
  rw[h1,toList_inj h2,h3,h4,h5,toList_inj h6,toList_inj h7,h8,toList_inj h9,toList_inj h10,toList_inj h11,h12,toList_inj h13,h14]
theorem vxe:prog.eqGuardType prog.depth 44 = false:=by kernel_rfl
theorem uq7 (W:World):(zeroValue 44).run prog W=.ok (.agg (kqv 0)) W:=by kernel_rfl
theorem wwg (q:ReqD) (hkind:q.kind=1) (w:World) :
  Calls prog 39 #[.agg (qv q)] w fun e w'=>∃g,e=.returned (.iface 145 (zse g))/\w.heap.size<=g/\Blk w' g 147 (rwJ q.job)/\Below w.heap.size w w':=by
 have hb0:=zsa w (.cells (qv q) 44)
 have bq:=Blk.new w 44 (qv q)
 have kk1:=zsd hkind 1
 have kk2:=zsc hkind 2
 have kk5:=zsc hkind 5
 have kk3:=zsc hkind 3
 have kk4:=zsc hkind 4
 have kk6:=zsc hkind 6
 have kk7:=zsc hkind 7
 have kk8:=zsc hkind 8
 have kk9:=zsc hkind 9
 clear hkind
 go_enter func39,ntmps39
 go_upto_region 1 with fail
 generalize hw0:w.alloc _=w0 at *
 have hs0:w.heap.size+1=w0.heap.size:=by rw[<- hw0];simp
 have hB1:Below w.heap.size w (w0.alloc (.cells (rwJ q.job) 147)):=hb0.alloc (by omega) _
 have bn:=Blk.new w0 147 (rwJ q.job)
 have c0:=bq.c0
 have c1:=bq.c1
 have c2:=bq.c2
 have c3:=bq.c3
 have c4:=bq.c4
 have c5:=bq.c5
 have c6:=bq.c6
 have c7:=bq.c7
 have c8:=bq.c8
 have c9:=bq.c9
 have c10:=bq.c10
 have c11:=bq.c11
 have c12:=bq.c12
 have c13:=bq.c13
 clear hw0 hb0 bq
 have hat:At w0 ⟨w.heap.size,1,none⟩ (rlJ q.job):=fun j v hv=>by
  rcases j with _ | _ | _ | _ | _ | j
  ·injection hv with hv;subst hv;exact c1
  ·injection hv with hv;subst hv;exact c2
  ·injection hv with hv;subst hv;exact c3
  ·injection hv with hv;subst hv;exact c4
  ·injection hv with hv;subst hv;exact c5
  ·cases hv
 go_wp2_with(first | (refine uqe rfl _ _ rfl ⟨w.heap.size,1,none⟩ rfl (rlJ q.job) _ hat underlying38 rfl uqo ?_))
 go_ret
 exact⟨w0.heap.size,rfl,by omega,bn,hB1⟩
theorem intoJ (k:Int) (x:JobD) (g h:Nat) (w:World) (bg:Blk w g 147 (rwJ x)) (bq:Blk w h 44 (kqv k)) :
  Calls prog 275 #[zse g,zse h] w fun e w'=>e=.returned (.tuple #[])/\Blk w' h 44 #[.int .i64 k,.string x.name,.int .i64 x.prio,.int .i64 x.need,.int .i64 x.tries,.string x.tag,.string .empty,.int .i64 0,.string .empty,.string .empty,.string .empty,.int .i64 0,.string .empty,.int .i64 0]/\w.grownBy w' (some h):=by
 have c0:=bg.c0
 have c1:=bg.c1
 have c2:=bg.c2
 have c3:=bg.c3
 have c4:=bg.c4
 have hq:w.heap[h]?=some (.cells ([Value.int .i64 k]++zlJ++[Value.string .empty,Value.int .i64 0,Value.string .empty,Value.string .empty,Value.string .empty,Value.int .i64 0,Value.string .empty,Value.int .i64 0]).toArray 44 (0,0)):=bq
 have hone:∀v∈((rlJ x):List Value),v.oneCell'=true:=by intro v hv;simp at hv;rcases hv with rfl | rfl | rfl | rfl | rfl <;> rfl
 go_enter func275,ntmps275
 go_wp2_with(first | (refine uqe rfl _ _ rfl ⟨g,0,none⟩ rfl (rlJ x) _ (At.blk bg) underlying38 rfl uqo ?_) | (refine uzf (g:=h) (t:=44) (A:=[Value.int .i64 k]) (B:=zlJ) (R:=[Value.string .empty,Value.int .i64 0,Value.string .empty,Value.string .empty,Value.string .empty,Value.int .i64 0,Value.string .empty,Value.int .i64 0]) (vs:=(rlJ x)) rfl _ _ _ rfl 1 rfl rfl hq rfl rfl uqo hone #[.int .i64 k,.string x.name,.int .i64 x.prio,.int .i64 x.need,.int .i64 x.tries,.string x.tag,.string .empty,.int .i64 0,.string .empty,.string .empty,.string .empty,.int .i64 0,.string .empty,.int .i64 0] rfl ?_))
 go_end0
 exact⟨rfl,bq.setRow _,growR w h _⟩
theorem wwi (q:ReqD) (hkind:q.kind=2) (w:World) :
  Calls prog 39 #[.agg (qv q)] w fun e w'=>∃g,e=.returned (.iface 148 (zse g))/\w.heap.size<=g/\Blk w' g 150 (rwN q.node)/\Below w.heap.size w w':=by
 have hb0:=zsa w (.cells (qv q) 44)
 have bq:=Blk.new w 44 (qv q)
 have kk1:=zsc hkind 1
 have kk2:=zsd hkind 2
 have kk5:=zsc hkind 5
 have kk3:=zsc hkind 3
 have kk4:=zsc hkind 4
 have kk6:=zsc hkind 6
 have kk7:=zsc hkind 7
 have kk8:=zsc hkind 8
 have kk9:=zsc hkind 9
 clear hkind
 go_enter func39,ntmps39
 go_upto_region 1 with fail
 generalize hw0:w.alloc _=w0 at *
 have hs0:w.heap.size+1=w0.heap.size:=by rw[<- hw0];simp
 have hB1:Below w.heap.size w (w0.alloc (.cells (rwN q.node) 150)):=hb0.alloc (by omega) _
 have bn:=Blk.new w0 150 (rwN q.node)
 have c0:=bq.c0
 have c1:=bq.c1
 have c2:=bq.c2
 have c3:=bq.c3
 have c4:=bq.c4
 have c5:=bq.c5
 have c6:=bq.c6
 have c7:=bq.c7
 have c8:=bq.c8
 have c9:=bq.c9
 have c10:=bq.c10
 have c11:=bq.c11
 have c12:=bq.c12
 have c13:=bq.c13
 clear hw0 hb0 bq
 have hat:At w0 ⟨w.heap.size,6,none⟩ (rlN q.node):=fun j v hv=>by
  rcases j with _ | _ | _ | j
  ·injection hv with hv;subst hv;exact c6
  ·injection hv with hv;subst hv;exact c7
  ·injection hv with hv;subst hv;exact c8
  ·cases hv
 go_wp2_with(first | (refine uqe rfl _ _ rfl ⟨w.heap.size,6,none⟩ rfl (rlN q.node) _ hat underlying40 rfl uqk ?_))
 go_ret
 exact⟨w0.heap.size,rfl,by omega,bn,hB1⟩
theorem intoN (k:Int) (x:NodeD) (g h:Nat) (w:World) (bg:Blk w g 150 (rwN x)) (bq:Blk w h 44 (kqv k)) :
  Calls prog 279 #[zse g,zse h] w fun e w'=>e=.returned (.tuple #[])/\Blk w' h 44 #[.int .i64 k,.string .empty,.int .i64 0,.int .i64 0,.int .i64 0,.string .empty,.string x.name,.int .i64 x.room,.string x.zone,.string .empty,.string .empty,.int .i64 0,.string .empty,.int .i64 0]/\w.grownBy w' (some h):=by
 have c0:=bg.c0
 have c1:=bg.c1
 have c2:=bg.c2
 have hq:w.heap[h]?=some (.cells ([Value.int .i64 k,Value.string .empty,Value.int .i64 0,Value.int .i64 0,Value.int .i64 0,Value.string .empty]++zlN++[Value.string .empty,Value.string .empty,Value.int .i64 0,Value.string .empty,Value.int .i64 0]).toArray 44 (0,0)):=bq
 have hone:∀v∈((rlN x):List Value),v.oneCell'=true:=by intro v hv;simp at hv;rcases hv with rfl | rfl | rfl | rfl | rfl <;> rfl
 go_enter func279,ntmps279
 go_wp2_with(first | (refine uqe rfl _ _ rfl ⟨g,0,none⟩ rfl (rlN x) _ (At.blk bg) underlying40 rfl uqk ?_) | (refine uzf (g:=h) (t:=44) (A:=[Value.int .i64 k,Value.string .empty,Value.int .i64 0,Value.int .i64 0,Value.int .i64 0,Value.string .empty]) (B:=zlN) (R:=[Value.string .empty,Value.string .empty,Value.int .i64 0,Value.string .empty,Value.int .i64 0]) (vs:=(rlN x)) rfl _ _ _ rfl 6 rfl rfl hq rfl rfl uqk hone #[.int .i64 k,.string .empty,.int .i64 0,.int .i64 0,.int .i64 0,.string .empty,.string x.name,.int .i64 x.room,.string x.zone,.string .empty,.string .empty,.int .i64 0,.string .empty,.int .i64 0] rfl ?_))
 go_end0
 exact⟨rfl,bq.setRow _,growR w h _⟩
theorem wwh (q:ReqD) (hkind:q.kind=5) (w:World) :
  Calls prog 39 #[.agg (qv q)] w fun e w'=>∃g,e=.returned (.iface 151 (zse g))/\w.heap.size<=g/\Blk w' g 153 (rwL q.lease)/\Below w.heap.size w w':=by
 have hb0:=zsa w (.cells (qv q) 44)
 have bq:=Blk.new w 44 (qv q)
 have kk1:=zsc hkind 1
 have kk2:=zsc hkind 2
 have kk5:=zsd hkind 5
 have kk3:=zsc hkind 3
 have kk4:=zsc hkind 4
 have kk6:=zsc hkind 6
 have kk7:=zsc hkind 7
 have kk8:=zsc hkind 8
 have kk9:=zsc hkind 9
 clear hkind
 go_enter func39,ntmps39
 go_upto_region 1 with fail
 generalize hw0:w.alloc _=w0 at *
 have hs0:w.heap.size+1=w0.heap.size:=by rw[<- hw0];simp
 have hB1:Below w.heap.size w (w0.alloc (.cells (rwL q.lease) 153)):=hb0.alloc (by omega) _
 have bn:=Blk.new w0 153 (rwL q.lease)
 have c0:=bq.c0
 have c1:=bq.c1
 have c2:=bq.c2
 have c3:=bq.c3
 have c4:=bq.c4
 have c5:=bq.c5
 have c6:=bq.c6
 have c7:=bq.c7
 have c8:=bq.c8
 have c9:=bq.c9
 have c10:=bq.c10
 have c11:=bq.c11
 have c12:=bq.c12
 have c13:=bq.c13
 clear hw0 hb0 bq
 have hat:At w0 ⟨w.heap.size,9,none⟩ (rlL q.lease):=fun j v hv=>by
  rcases j with _ | _ | _ | j
  ·injection hv with hv;subst hv;exact c9
  ·injection hv with hv;subst hv;exact c10
  ·injection hv with hv;subst hv;exact c11
  ·cases hv
 go_wp2_with(first | (refine uqe rfl _ _ rfl ⟨w.heap.size,9,none⟩ rfl (rlL q.lease) _ hat underlying42 rfl uqj ?_))
 go_ret
 exact⟨w0.heap.size,rfl,by omega,bn,hB1⟩
theorem intoL (k:Int) (x:uqb) (g h:Nat) (w:World) (bg:Blk w g 153 (rwL x)) (bq:Blk w h 44 (kqv k)) :
  Calls prog 283 #[zse g,zse h] w fun e w'=>e=.returned (.tuple #[])/\Blk w' h 44 #[.int .i64 k,.string .empty,.int .i64 0,.int .i64 0,.int .i64 0,.string .empty,.string .empty,.int .i64 0,.string .empty,.string x.job,.string x.node,.int .i64 x.till,.string .empty,.int .i64 0]/\w.grownBy w' (some h):=by
 have c0:=bg.c0
 have c1:=bg.c1
 have c2:=bg.c2
 have hq:w.heap[h]?=some (.cells ([Value.int .i64 k,Value.string .empty,Value.int .i64 0,Value.int .i64 0,Value.int .i64 0,Value.string .empty,Value.string .empty,Value.int .i64 0,Value.string .empty]++zlL++[Value.string .empty,Value.int .i64 0]).toArray 44 (0,0)):=bq
 have hone:∀v∈((rlL x):List Value),v.oneCell'=true:=by intro v hv;simp at hv;rcases hv with rfl | rfl | rfl | rfl | rfl <;> rfl
 go_enter func283,ntmps283
 go_wp2_with(first | (refine uqe rfl _ _ rfl ⟨g,0,none⟩ rfl (rlL x) _ (At.blk bg) underlying42 rfl uqj ?_) | (refine uzf (g:=h) (t:=44) (A:=[Value.int .i64 k,Value.string .empty,Value.int .i64 0,Value.int .i64 0,Value.int .i64 0,Value.string .empty,Value.string .empty,Value.int .i64 0,Value.string .empty]) (B:=zlL) (R:=[Value.string .empty,Value.int .i64 0]) (vs:=(rlL x)) rfl _ _ _ rfl 9 rfl rfl hq rfl rfl uqj hone #[.int .i64 k,.string .empty,.int .i64 0,.int .i64 0,.int .i64 0,.string .empty,.string .empty,.int .i64 0,.string .empty,.string x.job,.string x.node,.int .i64 x.till,.string .empty,.int .i64 0] rfl ?_))
 go_end0
 exact⟨rfl,bq.setRow _,growR w h _⟩
theorem xqd (q:ReqD) (hkind:q.kind=3) (w:World) :
  Calls prog 39 #[.agg (qv q)] w fun e w'=>∃g,e=.returned (.iface 155 (zse g))/\w.heap.size<=g/\Blk w' g 154 #[.string q.name]/\Below w.heap.size w w':=by
 have hb0:=zsa w (.cells (qv q) 44)
 have bq:=Blk.new w 44 (qv q)
 have kk1:=zsc hkind 1
 have kk2:=zsc hkind 2
 have kk5:=zsc hkind 5
 have kk3:=zsd hkind 3
 have kk4:=zsc hkind 4
 have kk6:=zsc hkind 6
 have kk7:=zsc hkind 7
 have kk8:=zsc hkind 8
 have kk9:=zsc hkind 9
 clear hkind
 go_enter func39,ntmps39
 go_upto_region 1 with fail
 generalize hw0:w.alloc _=w0 at *
 have hs0:w.heap.size+1=w0.heap.size:=by rw[<- hw0];simp
 have hB1:Below w.heap.size w (w0.alloc (.cells #[.string q.name] 154)):=hb0.alloc (by omega) _
 have bn:=Blk.new w0 154 #[.string q.name]
 have c0:=bq.c0
 have c1:=bq.c1
 have c2:=bq.c2
 have c3:=bq.c3
 have c4:=bq.c4
 have c5:=bq.c5
 have c6:=bq.c6
 have c7:=bq.c7
 have c8:=bq.c8
 have c9:=bq.c9
 have c10:=bq.c10
 have c11:=bq.c11
 have c12:=bq.c12
 have c13:=bq.c13
 clear hw0 hb0 bq
 go_wp2_with fail
 go_ret
 exact⟨w0.heap.size,rfl,by omega,bn,hB1⟩
theorem xqe (q:ReqD) (hkind:q.kind=4) (w:World) :
  Calls prog 39 #[.agg (qv q)] w fun e w'=>∃g,e=.returned (.iface 155 (zse g))/\w.heap.size<=g/\Blk w' g 154 #[.string q.name]/\Below w.heap.size w w':=by
 have hb0:=zsa w (.cells (qv q) 44)
 have bq:=Blk.new w 44 (qv q)
 have kk1:=zsc hkind 1
 have kk2:=zsc hkind 2
 have kk5:=zsc hkind 5
 have kk3:=zsc hkind 3
 have kk4:=zsd hkind 4
 have kk6:=zsc hkind 6
 have kk7:=zsc hkind 7
 have kk8:=zsc hkind 8
 have kk9:=zsc hkind 9
 clear hkind
 go_enter func39,ntmps39
 go_upto_region 1 with fail
 generalize hw0:w.alloc _=w0 at *
 have hs0:w.heap.size+1=w0.heap.size:=by rw[<- hw0];simp
 have hB1:Below w.heap.size w (w0.alloc (.cells #[.string q.name] 154)):=hb0.alloc (by omega) _
 have bn:=Blk.new w0 154 #[.string q.name]
 have c0:=bq.c0
 have c1:=bq.c1
 have c2:=bq.c2
 have c3:=bq.c3
 have c4:=bq.c4
 have c5:=bq.c5
 have c6:=bq.c6
 have c7:=bq.c7
 have c8:=bq.c8
 have c9:=bq.c9
 have c10:=bq.c10
 have c11:=bq.c11
 have c12:=bq.c12
 have c13:=bq.c13
 clear hw0 hb0 bq
 go_wp2_with fail
 go_ret
 exact⟨w0.heap.size,rfl,by omega,bn,hB1⟩
theorem xqf (q:ReqD) (hkind:q.kind=6) (w:World) :
  Calls prog 39 #[.agg (qv q)] w fun e w'=>∃g,e=.returned (.iface 155 (zse g))/\w.heap.size<=g/\Blk w' g 154 #[.string q.name]/\Below w.heap.size w w':=by
 have hb0:=zsa w (.cells (qv q) 44)
 have bq:=Blk.new w 44 (qv q)
 have kk1:=zsc hkind 1
 have kk2:=zsc hkind 2
 have kk5:=zsc hkind 5
 have kk3:=zsc hkind 3
 have kk4:=zsc hkind 4
 have kk6:=zsd hkind 6
 have kk7:=zsc hkind 7
 have kk8:=zsc hkind 8
 have kk9:=zsc hkind 9
 clear hkind
 go_enter func39,ntmps39
 go_upto_region 1 with fail
 generalize hw0:w.alloc _=w0 at *
 have hs0:w.heap.size+1=w0.heap.size:=by rw[<- hw0];simp
 have hB1:Below w.heap.size w (w0.alloc (.cells #[.string q.name] 154)):=hb0.alloc (by omega) _
 have bn:=Blk.new w0 154 #[.string q.name]
 have c0:=bq.c0
 have c1:=bq.c1
 have c2:=bq.c2
 have c3:=bq.c3
 have c4:=bq.c4
 have c5:=bq.c5
 have c6:=bq.c6
 have c7:=bq.c7
 have c8:=bq.c8
 have c9:=bq.c9
 have c10:=bq.c10
 have c11:=bq.c11
 have c12:=bq.c12
 have c13:=bq.c13
 clear hw0 hb0 bq
 go_wp2_with fail
 go_ret
 exact⟨w0.heap.size,rfl,by omega,bn,hB1⟩
theorem intoS (k:Int) (x:Zba) (g h:Nat) (w:World) (bg:Blk w g 154 #[.string x]) (bq:Blk w h 44 (kqv k)) :
  Calls prog 287 #[zse g,zse h] w fun e w'=>e=.returned (.tuple #[])/\Blk w' h 44 #[.int .i64 k,.string .empty,.int .i64 0,.int .i64 0,.int .i64 0,.string .empty,.string .empty,.int .i64 0,.string .empty,.string .empty,.string .empty,.int .i64 0,.string x,.int .i64 0]/\w.grownBy w' (some h):=by
 have c0:=bg.c0
 have c9:=bq.c12
 have f9:w.frozen? ⟨h,12,none⟩=false:=bq.frozen 12
 go_enter func287,ntmps287
 go_wp2_with fail
 go_end0
 exact⟨rfl,bq.set_ 12 _,ux4 w h 12 _⟩
theorem wwf (q:ReqD) (hkind:q.kind=7) (w:World) :
  Calls prog 39 #[.agg (qv q)] w fun e w'=>∃g,e=.returned (.iface 157 (zse g))/\w.heap.size<=g/\Blk w' g 156 #[.int .i64 q.n]/\Below w.heap.size w w':=by
 have hb0:=zsa w (.cells (qv q) 44)
 have bq:=Blk.new w 44 (qv q)
 have kk1:=zsc hkind 1
 have kk2:=zsc hkind 2
 have kk5:=zsc hkind 5
 have kk3:=zsc hkind 3
 have kk4:=zsc hkind 4
 have kk6:=zsc hkind 6
 have kk7:=zsd hkind 7
 have kk8:=zsc hkind 8
 have kk9:=zsc hkind 9
 clear hkind
 go_enter func39,ntmps39
 go_upto_region 1 with fail
 generalize hw0:w.alloc _=w0 at *
 have hs0:w.heap.size+1=w0.heap.size:=by rw[<- hw0];simp
 have hB1:Below w.heap.size w (w0.alloc (.cells #[.int .i64 q.n] 156)):=hb0.alloc (by omega) _
 have bn:=Blk.new w0 156 #[.int .i64 q.n]
 have c0:=bq.c0
 have c1:=bq.c1
 have c2:=bq.c2
 have c3:=bq.c3
 have c4:=bq.c4
 have c5:=bq.c5
 have c6:=bq.c6
 have c7:=bq.c7
 have c8:=bq.c8
 have c9:=bq.c9
 have c10:=bq.c10
 have c11:=bq.c11
 have c12:=bq.c12
 have c13:=bq.c13
 clear hw0 hb0 bq
 go_wp2_with fail
 go_ret
 exact⟨w0.heap.size,rfl,by omega,bn,hB1⟩
theorem intoC (k:Int) (x:Int) (g h:Nat) (w:World) (bg:Blk w g 156 #[.int .i64 x]) (bq:Blk w h 44 (kqv k)) :
  Calls prog 291 #[zse g,zse h] w fun e w'=>e=.returned (.tuple #[])/\Blk w' h 44 #[.int .i64 k,.string .empty,.int .i64 0,.int .i64 0,.int .i64 0,.string .empty,.string .empty,.int .i64 0,.string .empty,.string .empty,.string .empty,.int .i64 0,.string .empty,.int .i64 x]/\w.grownBy w' (some h):=by
 have c0:=bg.c0
 have c9:=bq.c13
 have f9:w.frozen? ⟨h,13,none⟩=false:=bq.frozen 13
 go_enter func291,ntmps291
 go_wp2_with fail
 go_end0
 exact⟨rfl,bq.set_ 13 _,ux4 w h 13 _⟩
theorem ukt {B g:Nat} {a b c:World} (h:Below B a b) (hg:b.grownBy c (some g)) (hB:B<=g) (hs:B<=b.heap.size):Below B a c :=
 h.trans ⟨hg.os,hg.tape,hg.output,hg.size,fun k hk=>hg.block k (by omega) (by intro e;injection e with e;omega)⟩
theorem vv5 (x:Int) (w:World) :
  Calls prog 168 #[.int .i64 x] w fun e w'=>e=.returned (.bool (decide (0<=x)&&decide (x<=1099511627776)))/\w=w':=by
 by_cases h1:0<=x
 ·go_enter func168,ntmps168
  go_wp2_with fail
  go_ret
  exact⟨congrArg (fun b=>Ending.returned (.bool b)) (by simp[h1]),rfl⟩
 ·have h1':x<0:=by omega
  go_enter func168,ntmps168
  go_wp2_with fail
  all_goals go_ret
  all_goals exact⟨congrArg (fun b=>Ending.returned (.bool b)) (by simp;omega),rfl⟩
theorem intoZ (v:Value) (w:World):Calls prog 295 #[.agg #[],v] w fun e w'=>e=.returned (.tuple #[])/\Below w.heap.size w w':=by
 go_enter func295,ntmps295
 go_wp2_with fail
 go_end0
 exact⟨rfl,(zri _ _).alloc (zra _) _⟩
theorem checkZ (w:World):Calls prog 294 #[.agg #[]] w fun e w'=>e=.returned (.int .i64 0)/\Below w.heap.size w w':=by
 go_enter func294,ntmps294
 go_wp2_with fail
 go_ret
 exact⟨rfl,(zri _ _).alloc (zra _) _⟩
theorem wholeJ (k:Int) (x:JobD) (g:Nat) (w:World) (bg:Blk w g 147 (rwJ x)) :
  Calls prog 63 #[.int .i64 k,.iface 145 (zse g)] w fun e w'=>e=.returned (.agg #[.int .i64 k,.string x.name,.int .i64 x.prio,.int .i64 x.need,.int .i64 x.tries,.string x.tag,.string .empty,.int .i64 0,.string .empty,.string .empty,.string .empty,.int .i64 0,.string .empty,.int .i64 0])/\Below w.heap.size w w':=by
 have hzd:=uq7
 have hb1:=(zri w.heap.size w).alloc (zra _) (.cells (kqv 0) 44)
 have hs1:=zsb w (.cells (kqv 0) 44)
 have hb2:=hb1.alloc (by omega) (.cells (kqv k) 44)
 have bg2:=bg.bl hb2
 have br2:=(Blk.new w 44 (kqv 0)).alloc (.cells (kqv k) 44)
 have bq2:=Blk.new (w.alloc (.cells (kqv 0) 44)) 44 (kqv k)
 rw[hs1] at bq2
 go_enter func63,ntmps63
 go_wp2_with(first | (refine uqf rfl _ _ _ rfl rfl _ _ (kqv k) rfl uqd rfl (by simp[Value.oneCell']) ?_))
 generalize(w.alloc _).alloc _=w2 at *
 refine(intoJ k x g (w.heap.size+1) w2 bg2 bq2).mono ?_
 rintro e w3 ⟨rfl,bq3,hg3⟩
 have br3:=GrB.blk hg3 br2 (Nat.ne_of_lt (Nat.lt_succ_self _))
 have hb3:=ukt hb2 hg3 (Nat.le_succ _) hb2.size
 clear hb2 br2 bq2 bg2 bg hb1 hs1 hg3
 go_wp2_with(first
  | (refine uqa rfl _ _ rfl (w.heap.size+1) rfl _ _ bq3 _ underlying44 rfl uqd ?_)
  | (refine uqc rfl _ _ _ rfl w.heap.size rfl _ _ #[.int .i64 k,.string x.name,.int .i64 x.prio,.int .i64 x.need,.int .i64 x.tries,.string x.tag,.string .empty,.int .i64 0,.string .empty,.string .empty,.string .empty,.int .i64 0,.string .empty,.int .i64 0] br3 rfl uqd rfl (by simp[Value.oneCell']) ?_))
 refine bodyPost_ret (uq8 rfl _ rfl (br3.setRow #[.int .i64 k,.string x.name,.int .i64 x.prio,.int .i64 x.need,.int .i64 x.tries,.string x.tag,.string .empty,.int .i64 0,.string .empty,.string .empty,.string .empty,.int .i64 0,.string .empty,.int .i64 0]) underlying44 rfl uqd) rfl ?_
 exact⟨rfl,uqh hb3 (zra _) _⟩
theorem wholeN (k:Int) (x:NodeD) (g:Nat) (w:World) (bg:Blk w g 150 (rwN x)) :
  Calls prog 63 #[.int .i64 k,.iface 148 (zse g)] w fun e w'=>e=.returned (.agg #[.int .i64 k,.string .empty,.int .i64 0,.int .i64 0,.int .i64 0,.string .empty,.string x.name,.int .i64 x.room,.string x.zone,.string .empty,.string .empty,.int .i64 0,.string .empty,.int .i64 0])/\Below w.heap.size w w':=by
 have hzd:=uq7
 have hb1:=(zri w.heap.size w).alloc (zra _) (.cells (kqv 0) 44)
 have hs1:=zsb w (.cells (kqv 0) 44)
 have hb2:=hb1.alloc (by omega) (.cells (kqv k) 44)
 have bg2:=bg.bl hb2
 have br2:=(Blk.new w 44 (kqv 0)).alloc (.cells (kqv k) 44)
 have bq2:=Blk.new (w.alloc (.cells (kqv 0) 44)) 44 (kqv k)
 rw[hs1] at bq2
 go_enter func63,ntmps63
 go_wp2_with(first | (refine uqf rfl _ _ _ rfl rfl _ _ (kqv k) rfl uqd rfl (by simp[Value.oneCell']) ?_))
 generalize(w.alloc _).alloc _=w2 at *
 refine(intoN k x g (w.heap.size+1) w2 bg2 bq2).mono ?_
 rintro e w3 ⟨rfl,bq3,hg3⟩
 have br3:=GrB.blk hg3 br2 (Nat.ne_of_lt (Nat.lt_succ_self _))
 have hb3:=ukt hb2 hg3 (Nat.le_succ _) hb2.size
 clear hb2 br2 bq2 bg2 bg hb1 hs1 hg3
 go_wp2_with(first
  | (refine uqa rfl _ _ rfl (w.heap.size+1) rfl _ _ bq3 _ underlying44 rfl uqd ?_)
  | (refine uqc rfl _ _ _ rfl w.heap.size rfl _ _ #[.int .i64 k,.string .empty,.int .i64 0,.int .i64 0,.int .i64 0,.string .empty,.string x.name,.int .i64 x.room,.string x.zone,.string .empty,.string .empty,.int .i64 0,.string .empty,.int .i64 0] br3 rfl uqd rfl (by simp[Value.oneCell']) ?_))
 refine bodyPost_ret (uq8 rfl _ rfl (br3.setRow #[.int .i64 k,.string .empty,.int .i64 0,.int .i64 0,.int .i64 0,.string .empty,.string x.name,.int .i64 x.room,.string x.zone,.string .empty,.string .empty,.int .i64 0,.string .empty,.int .i64 0]) underlying44 rfl uqd) rfl ?_
 exact⟨rfl,uqh hb3 (zra _) _⟩
theorem wholeL (k:Int) (x:uqb) (g:Nat) (w:World) (bg:Blk w g 153 (rwL x)) :
  Calls prog 63 #[.int .i64 k,.iface 151 (zse g)] w fun e w'=>e=.returned (.agg #[.int .i64 k,.string .empty,.int .i64 0,.int .i64 0,.int .i64 0,.string .empty,.string .empty,.int .i64 0,.string .empty,.string x.job,.string x.node,.int .i64 x.till,.string .empty,.int .i64 0])/\Below w.heap.size w w':=by
 have hzd:=uq7
 have hb1:=(zri w.heap.size w).alloc (zra _) (.cells (kqv 0) 44)
 have hs1:=zsb w (.cells (kqv 0) 44)
 have hb2:=hb1.alloc (by omega) (.cells (kqv k) 44)
 have bg2:=bg.bl hb2
 have br2:=(Blk.new w 44 (kqv 0)).alloc (.cells (kqv k) 44)
 have bq2:=Blk.new (w.alloc (.cells (kqv 0) 44)) 44 (kqv k)
 rw[hs1] at bq2
 go_enter func63,ntmps63
 go_wp2_with(first | (refine uqf rfl _ _ _ rfl rfl _ _ (kqv k) rfl uqd rfl (by simp[Value.oneCell']) ?_))
 generalize(w.alloc _).alloc _=w2 at *
 refine(intoL k x g (w.heap.size+1) w2 bg2 bq2).mono ?_
 rintro e w3 ⟨rfl,bq3,hg3⟩
 have br3:=GrB.blk hg3 br2 (Nat.ne_of_lt (Nat.lt_succ_self _))
 have hb3:=ukt hb2 hg3 (Nat.le_succ _) hb2.size
 clear hb2 br2 bq2 bg2 bg hb1 hs1 hg3
 go_wp2_with(first
  | (refine uqa rfl _ _ rfl (w.heap.size+1) rfl _ _ bq3 _ underlying44 rfl uqd ?_)
  | (refine uqc rfl _ _ _ rfl w.heap.size rfl _ _ #[.int .i64 k,.string .empty,.int .i64 0,.int .i64 0,.int .i64 0,.string .empty,.string .empty,.int .i64 0,.string .empty,.string x.job,.string x.node,.int .i64 x.till,.string .empty,.int .i64 0] br3 rfl uqd rfl (by simp[Value.oneCell']) ?_))
 refine bodyPost_ret (uq8 rfl _ rfl (br3.setRow #[.int .i64 k,.string .empty,.int .i64 0,.int .i64 0,.int .i64 0,.string .empty,.string .empty,.int .i64 0,.string .empty,.string x.job,.string x.node,.int .i64 x.till,.string .empty,.int .i64 0]) underlying44 rfl uqd) rfl ?_
 exact⟨rfl,uqh hb3 (zra _) _⟩
theorem wholeS (k:Int) (x:Zba) (g:Nat) (w:World) (bg:Blk w g 154 #[.string x]) :
  Calls prog 63 #[.int .i64 k,.iface 155 (zse g)] w fun e w'=>e=.returned (.agg #[.int .i64 k,.string .empty,.int .i64 0,.int .i64 0,.int .i64 0,.string .empty,.string .empty,.int .i64 0,.string .empty,.string .empty,.string .empty,.int .i64 0,.string x,.int .i64 0])/\Below w.heap.size w w':=by
 have hzd:=uq7
 have hb1:=(zri w.heap.size w).alloc (zra _) (.cells (kqv 0) 44)
 have hs1:=zsb w (.cells (kqv 0) 44)
 have hb2:=hb1.alloc (by omega) (.cells (kqv k) 44)
 have bg2:=bg.bl hb2
 have br2:=(Blk.new w 44 (kqv 0)).alloc (.cells (kqv k) 44)
 have bq2:=Blk.new (w.alloc (.cells (kqv 0) 44)) 44 (kqv k)
 rw[hs1] at bq2
 go_enter func63,ntmps63
 go_wp2_with(first | (refine uqf rfl _ _ _ rfl rfl _ _ (kqv k) rfl uqd rfl (by simp[Value.oneCell']) ?_))
 generalize(w.alloc _).alloc _=w2 at *
 refine(intoS k x g (w.heap.size+1) w2 bg2 bq2).mono ?_
 rintro e w3 ⟨rfl,bq3,hg3⟩
 have br3:=GrB.blk hg3 br2 (Nat.ne_of_lt (Nat.lt_succ_self _))
 have hb3:=ukt hb2 hg3 (Nat.le_succ _) hb2.size
 clear hb2 br2 bq2 bg2 bg hb1 hs1 hg3
 go_wp2_with(first
  | (refine uqa rfl _ _ rfl (w.heap.size+1) rfl _ _ bq3 _ underlying44 rfl uqd ?_)
  | (refine uqc rfl _ _ _ rfl w.heap.size rfl _ _ #[.int .i64 k,.string .empty,.int .i64 0,.int .i64 0,.int .i64 0,.string .empty,.string .empty,.int .i64 0,.string .empty,.string .empty,.string .empty,.int .i64 0,.string x,.int .i64 0] br3 rfl uqd rfl (by simp[Value.oneCell']) ?_))
 refine bodyPost_ret (uq8 rfl _ rfl (br3.setRow #[.int .i64 k,.string .empty,.int .i64 0,.int .i64 0,.int .i64 0,.string .empty,.string .empty,.int .i64 0,.string .empty,.string .empty,.string .empty,.int .i64 0,.string x,.int .i64 0]) underlying44 rfl uqd) rfl ?_
 exact⟨rfl,uqh hb3 (zra _) _⟩
theorem wholeC (k:Int) (x:Int) (g:Nat) (w:World) (bg:Blk w g 156 #[.int .i64 x]) :
  Calls prog 63 #[.int .i64 k,.iface 157 (zse g)] w fun e w'=>e=.returned (.agg #[.int .i64 k,.string .empty,.int .i64 0,.int .i64 0,.int .i64 0,.string .empty,.string .empty,.int .i64 0,.string .empty,.string .empty,.string .empty,.int .i64 0,.string .empty,.int .i64 x])/\Below w.heap.size w w':=by
 have hzd:=uq7
 have hb1:=(zri w.heap.size w).alloc (zra _) (.cells (kqv 0) 44)
 have hs1:=zsb w (.cells (kqv 0) 44)
 have hb2:=hb1.alloc (by omega) (.cells (kqv k) 44)
 have bg2:=bg.bl hb2
 have br2:=(Blk.new w 44 (kqv 0)).alloc (.cells (kqv k) 44)
 have bq2:=Blk.new (w.alloc (.cells (kqv 0) 44)) 44 (kqv k)
 rw[hs1] at bq2
 go_enter func63,ntmps63
 go_wp2_with(first | (refine uqf rfl _ _ _ rfl rfl _ _ (kqv k) rfl uqd rfl (by simp[Value.oneCell']) ?_))
 generalize(w.alloc _).alloc _=w2 at *
 refine(intoC k x g (w.heap.size+1) w2 bg2 bq2).mono ?_
 rintro e w3 ⟨rfl,bq3,hg3⟩
 have br3:=GrB.blk hg3 br2 (Nat.ne_of_lt (Nat.lt_succ_self _))
 have hb3:=ukt hb2 hg3 (Nat.le_succ _) hb2.size
 clear hb2 br2 bq2 bg2 bg hb1 hs1 hg3
 go_wp2_with(first
  | (refine uqa rfl _ _ rfl (w.heap.size+1) rfl _ _ bq3 _ underlying44 rfl uqd ?_)
  | (refine uqc rfl _ _ _ rfl w.heap.size rfl _ _ #[.int .i64 k,.string .empty,.int .i64 0,.int .i64 0,.int .i64 0,.string .empty,.string .empty,.int .i64 0,.string .empty,.string .empty,.string .empty,.int .i64 0,.string .empty,.int .i64 x] br3 rfl uqd rfl (by simp[Value.oneCell']) ?_))
 refine bodyPost_ret (uq8 rfl _ rfl (br3.setRow #[.int .i64 k,.string .empty,.int .i64 0,.int .i64 0,.int .i64 0,.string .empty,.string .empty,.int .i64 0,.string .empty,.string .empty,.string .empty,.int .i64 0,.string .empty,.int .i64 x]) underlying44 rfl uqd) rfl ?_
 exact⟨rfl,uqh hb3 (zra _) _⟩
theorem wholeZ (k:Int) (w:World) :
  Calls prog 63 #[.int .i64 k,.iface 159 (.agg #[])] w fun e w'=>e=.returned (.agg (kqv k))/\Below w.heap.size w w':=by
 have hzd:=uq7
 have hb1:=(zri w.heap.size w).alloc (zra _) (.cells (kqv 0) 44)
 have hs1:=zsb w (.cells (kqv 0) 44)
 have hb2:=hb1.alloc (by omega) (.cells (kqv k) 44)
 have br2:=(Blk.new w 44 (kqv 0)).alloc (.cells (kqv k) 44)
 have bq2:=Blk.new (w.alloc (.cells (kqv 0) 44)) 44 (kqv k)
 rw[hs1] at bq2
 go_enter func63,ntmps63
 go_wp2_with(first | (refine uqf rfl _ _ _ rfl rfl _ _ (kqv k) rfl uqd rfl (by simp[Value.oneCell']) ?_))
 generalize(w.alloc _).alloc _=w2 at *
 refine(intoZ (zse (w.heap.size+1)) w2).mono ?_
 rintro e w3 ⟨rfl,hb⟩
 have br3:=br2.bl hb
 have bq3:=bq2.bl hb
 have hb3:=bthen hb2 hb
 clear hb2 br2 bq2 hb1 hs1 hb
 go_wp2_with(first
  | (refine uqa rfl _ _ rfl (w.heap.size+1) rfl _ _ bq3 _ underlying44 rfl uqd ?_)
  | (refine uqc rfl _ _ _ rfl w.heap.size rfl _ _ (kqv k) br3 rfl uqd rfl (by simp[Value.oneCell']) ?_))
 refine bodyPost_ret (uq8 rfl _ rfl (br3.setRow (kqv k)) underlying44 rfl uqd) rfl ?_
 exact⟨rfl,uqh hb3 (zra _) _⟩
def nameC (s:Zba):Nat:=if uxh s=true then 0 else 4
def wzj (n:Int):Nat:=if uxg n 0 1099511627776=true then 0 else 1
theorem checkJ (x:JobD) (g:Nat) (w:World) (bg:Blk w g 147 (rwJ x)) (h0:x.name.size<=9223372036854775807) (h1:x.tag.size<=9223372036854775807) (hT:Tabs w) :
  Calls prog 274 #[zse g] w fun e w'=>e=.returned (.int .i64 (jobE x:Nat))/\Below w.heap.size w w':=by
 have c0:=bg.c0
 have c1:=bg.c1
 have c2:=bg.c2
 have c3:=bg.c3
 have c4:=bg.c4
 have HC:=zrj (vkg x w h0 h1 hT)
 go_enter func274,ntmps274
 go_wp2_with(first | (refine uqe rfl _ _ rfl ⟨g,0,none⟩ rfl (rlJ x) _ (At.blk bg) underlying38 rfl uqo ?_))
 refine HC.out.mono ?_
 rintro e w1 ⟨rfl,hb1⟩
 go_wp2_with fail
 go_ret
 exact⟨rfl,hb1⟩
theorem checkN (x:NodeD) (g:Nat) (w:World) (bg:Blk w g 150 (rwN x)) (h0:x.name.size<=9223372036854775807) (h1:x.zone.size<=9223372036854775807) (hT:Tabs w) :
  Calls prog 278 #[zse g] w fun e w'=>e=.returned (.int .i64 (nodeE x:Nat))/\Below w.heap.size w w':=by
 have c0:=bg.c0
 have c1:=bg.c1
 have c2:=bg.c2
 have HC:=zrj (vzq x w h0 h1 hT)
 go_enter func278,ntmps278
 go_wp2_with(first | (refine uqe rfl _ _ rfl ⟨g,0,none⟩ rfl (rlN x) _ (At.blk bg) underlying40 rfl uqk ?_))
 refine HC.out.mono ?_
 rintro e w1 ⟨rfl,hb1⟩
 go_wp2_with fail
 go_ret
 exact⟨rfl,hb1⟩
theorem checkL (x:uqb) (g:Nat) (w:World) (bg:Blk w g 153 (rwL x)) (h0:x.job.size<=9223372036854775807) (h1:x.node.size<=9223372036854775807) (hT:Tabs w) :
  Calls prog 282 #[zse g] w fun e w'=>e=.returned (.int .i64 (uzi x:Nat))/\Below w.heap.size w w':=by
 have c0:=bg.c0
 have c1:=bg.c1
 have c2:=bg.c2
 have HC:=zrj (uje x.job w h0 hT)
 have HD:=zrj (fun W (hW:Below w.heap.size w W)=>uje x.node W h1 (hT.below hW))
 have HI:=zrj (fun W=>vv5 x.till W)
 unfold uzi
 have HW:=zrj (show uxg x.till 0 1099511627776=(decide (0<=x.till)&&decide (x.till<=1099511627776)) from rfl)
 rw[HW.out]
 generalize(decide (0<=x.till)&&decide (x.till<=1099511627776))=b3 at *
 generalize uxh x.job=b1 at *
 generalize uxh x.node=b2 at *
 clear hT HW
 go_enter func282,ntmps282
 go_wp2_with fail
 refine HC.out.mono ?_
 rintro e w1 ⟨rfl,hb1⟩
 have bg1:=bg.bl hb1
 have d0:=bg1.c0
 have d1:=bg1.c1
 have d2:=bg1.c2
 cases b1
 ·go_wp2_with fail
  go_ret
  exact⟨rfl,hb1⟩
 go_wp2_with fail
 refine(HD.out w1 hb1).mono ?_
 rintro e w2 ⟨rfl,hb2⟩
 have hB2:=bthen hb1 hb2
 have bg2:=bg1.bl hb2
 have e0:=bg2.c0
 have e1:=bg2.c1
 have e2:=bg2.c2
 cases b2
 ·go_wp2_with fail
  go_ret
  exact⟨rfl,hB2⟩
 go_wp2_with fail
 refine(HI.out w2).mono ?_
 rintro e w3 ⟨rfl,rfl⟩
 cases b3
 ·go_wp2_with fail
  go_ret
  exact⟨rfl,hB2⟩
 ·go_wp2_with fail
  go_ret
  exact⟨rfl,hB2⟩
theorem checkS (x:Zba) (g:Nat) (w:World) (bg:Blk w g 154 #[.string x]) (h0:x.size<=9223372036854775807) (hT:Tabs w) :
  Calls prog 286 #[zse g] w fun e w'=>e=.returned (.int .i64 (nameC x:Nat))/\Below w.heap.size w w':=by
 have c0:=bg.c0
 have HC:=zrj (uje x w h0 hT)
 unfold nameC
 generalize uxh x=b at *
 go_enter func286,ntmps286
 go_wp2_with fail
 refine HC.out.mono ?_
 rintro e w1 ⟨rfl,hb1⟩
 cases b
 ·go_wp2_with fail
  go_ret
  exact⟨rfl,hb1⟩
 ·go_wp2_with fail
  go_ret
  exact⟨rfl,hb1⟩
theorem checkC (x:Int) (g:Nat) (w:World) (bg:Blk w g 156 #[.int .i64 x])  :
  Calls prog 290 #[zse g] w fun e w'=>e=.returned (.int .i64 (wzj x:Nat))/\Below w.heap.size w w':=by
 have c0:=bg.c0
 have HC:=zrj (vv5 x w)
 unfold wzj
 have HW:=zrj (show uxg x 0 1099511627776=(decide (0<=x)&&decide (x<=1099511627776)) from rfl)
 generalize(decide (0<=x)&&decide (x<=1099511627776))=b at *
 rw[HW.out]
 clear HW
 go_enter func290,ntmps290
 go_wp2_with fail
 refine HC.out.mono ?_
 rintro e w1 ⟨rfl,rfl⟩
 cases b
 ·go_wp2_with fail
  go_ret
  exact⟨rfl,zri _ _⟩
 ·go_wp2_with fail
  go_ret
  exact⟨rfl,zri _ _⟩
end Go.Proofs.YtknmnhleicakhaaGreatDoor
