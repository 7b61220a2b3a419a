/-
  Several texts in one: SvDoL, SvPairl.
-/
import Derived.Test.YtibiankbmhdljabGreatDoorPgSvDoHl
set_option linter.all false
set_option maxHeartbeats 16000000
set_option maxRecDepth 100000
namespace Go.Proofs.YtibiankbmhdljabGreatDoor
open Go.Proofs.Tryz
open Go.RowKit
theorem xjj (q : ReqD) (v : Srv) (g : Nat) (w : World) (hM : SvI w g v) (hv : SrvOk v) (HS : ReqSz q) (hT : Tabs w) (hq : reqE q = 0) (h89 : q.kind = 8 ∨ q.kind = 9) (s' : St) (now' : Int) (hd : doW v q = (⟨s', now'⟩, 0)) (hs : sameT v.st s' = true) :
  Calls prog 99 #[.pointer (some ⟨g, 0, none⟩), .agg (qv q)] w fun e w' => wkk w g (⟨0, none, ⟨v.st, now'⟩⟩) e w' := by
 have F' : Fine s' := (doN_s hv hq hd).1
 have HREV := zrj (show s'.rev = v.st.rev from (doN_s hv hq hd).2)
 obtain ⟨q1, q2, q3, d1, d2, d3, hM⟩ := hM
 have F := hv.1
 have hnow := hv.2
 have hzr := vzz
 have hzd := uz0
 have hzs := uxa
 have hzw := vy5
 have hb0 : Below w.heap.size w (((w.alloc (.cells (qv q) 68)).alloc (.cells #[.int .i64 0, .int .i64 0] 174)).alloc (.cells zdv 49)) := (((zri _ _).alloc (zra _) _).alloc (by simp) _).alloc (by simp; omega) _
 have bq0 := ((Blk.new w 68 (qv q)).alloc (.cells #[.int .i64 0, .int .i64 0] 174)).alloc (.cells zdv 49)
 have br0 : Blk (((w.alloc (.cells (qv q) 68)).alloc (.cells #[.int .i64 0, .int .i64 0] 174)).alloc (.cells zdv 49)) (w.heap.size + 1) 174 #[.int .i64 0, .int .i64 0] := by
  have := (Blk.new (w.alloc (.cells (qv q) 68)) 174 #[.int .i64 0, .int .i64 0]).alloc (.cells zdv 49)
  rwa [show (w.alloc (.cells (qv q) 68)).heap.size = w.heap.size + 1 by simp] at this
 have bd0 : Blk (((w.alloc (.cells (qv q) 68)).alloc (.cells #[.int .i64 0, .int .i64 0] 174)).alloc (.cells zdv 49)) (w.heap.size + 2) 49 zdv := by
  have := Blk.new ((w.alloc (.cells (qv q) 68)).alloc (.cells #[.int .i64 0, .int .i64 0] 174)) 49 zdv
  rwa [show ((w.alloc (.cells (qv q) 68)).alloc (.cells #[.int .i64 0, .int .i64 0] 174)).heap.size = w.heap.size + 2 by simp] at this
 have HCk := zrj (fun (W : World) (hW : Below w.heap.size w W) => vks q W HS (hT.below hW) h89)
 have HO := zrj (fun (W : World) (hW : Below w.heap.size w W) => vk0 v.st q1 q2 q3 d1 d2 d3 W (hM.below hW).m (by have := F.nj; omega) (by have := F.nn; omega) (by have := F.nl; omega))
 have HM := zrj (fun (W : World) (hW : Below w.heap.size w W) => hM.below hW)
 have HT := zrj (fun (W : World) (hW : Below w.heap.size w W) => hT.below hW)
 rw [hq] at HCk
 have z1 : (((0 : Nat) : Int) == 0) = true := rfl
 have hlg := hM.b.lt
 clear hT HS hM hv
 go_enter func99, ntmps99
 go_wp2_with (first | (refine uqn (by rfl) _ _ rfl (w.heap.size) rfl _ _ bq0 _ underlying68 rfl uqe ?_))
 generalize ((w.alloc _).alloc _).alloc _ = w0 at *
 refine (HCk.out w0 hb0).mono ?_
 rintro e w1 ⟨rfl, hb1⟩
 have hB1 := hb0.trans (hb1.mono hb0.size)
 have bq1 := bq0.below hb1 bq0.lt
 have br1 := br0.below hb1 br0.lt
 have bd1 := bd0.below hb1 bd0.lt
 have hM1 := HM.out w1 hB1
 have hat1 := hM1.at
 clear hb0 hb1 bq0 br0 bd0 HCk
 go_wp2_with (first | (refine uqb rfl _ _ rfl ⟨g, 0, none⟩ rfl [Value.int .i64 v.st.rev, Value.slice q1 v.st.jobs.length d1, Value.slice q2 v.st.nodes.length d2, Value.slice q3 v.st.leases.length d3] _ hat1 underlying35 rfl uqg ?_))
 refine (HO.out w1 hB1).mono ?_
 rintro e w2 ⟨r1, r2, r3, e1, e2, e3, rfl, hO, hb2⟩
 have hB2 := hB1.trans (hb2.mono hB1.size)
 have hO := hO.less hB1.size
 have bq2 := bq1.below hb2 bq1.lt
 have br2 := br1.below hb2 br1.lt
 have bd2 := bd1.below hb2 bd1.lt
 have hb3 : Below w2.heap.size w2 (w2.alloc (.cells (stv v.st r1 r2 r3 e1 e2 e3) 35)) := (zri _ _).alloc (zra _) _
 have hs3 : (w2.alloc (.cells (stv v.st r1 r2 r3 e1 e2 e3) 35)).heap.size = w2.heap.size + 1 := by simp
 have hb4 : Below w2.heap.size w2 ((w2.alloc (.cells (stv v.st r1 r2 r3 e1 e2 e3) 35)).alloc (.cells #[.pointer (some ⟨w2.heap.size, 0, none⟩), .int .i64 v.now] 248)) := hb3.alloc (by simp) _
 have hw4 : WorkM ((w2.alloc (.cells (stv v.st r1 r2 r3 e1 e2 e3) 35)).alloc (.cells #[.pointer (some ⟨w2.heap.size, 0, none⟩), .int .i64 v.now] 248)) w.heap.size w2.heap.size (w2.heap.size + 1) r1 r2 r3 e1 e2 e3 v.st v.now := ⟨by have := Blk.new (w2.alloc (.cells (stv v.st r1 r2 r3 e1 e2 e3) 35)) 248 #[.pointer (some ⟨w2.heap.size, 0, none⟩), .int .i64 v.now]; rwa [hs3] at this, (Blk.new w2 35 (stv v.st r1 r2 r3 e1 e2 e3)).alloc _, hO.below hb4, hB2.size, Nat.le_succ_of_le hB2.size⟩
 have hB4 := hB2.trans (hb4.mono hB2.size)
 have bq4 := bq2.below hb4 bq2.lt
 have br4 := br2.below hb4 br2.lt
 have bd4 := bd2.below hb4 bd2.lt
 have c4 : (w2.alloc (.cells (stv v.st r1 r2 r3 e1 e2 e3) 35)).cell? ⟨g, 4, none⟩ = some (.int .i64 v.now) := (HM.out _ (hB2.trans (hb3.mono hB2.size))).b.cell 4
 clear hO hB1 hb2 hB2 hb4 hb3 bq1 br1 bd1 bq2 br2 bd2 hM1 hat1 HO
 go_upto_region 4 with (first | (refine uqd rfl _ _ _ rfl rfl 35 _ (stv v.st r1 r2 r3 e1 e2 e3) rfl uqg rfl (uxq _ _ _ _ _ _ _ _ _ _) ?_))
 clear hs3 c4
 generalize w2.heap.size = gn at *
 generalize (w2.alloc _).alloc _ = w4 at *
 have HDo := zrj (do_asks q w.heap.size gn (gn + 1) r1 r2 r3 e1 e2 e3 v.st v.now w4 hw4 hB4.size F (fun W hW => HT.out W (hB4.trans hW)) hq h89)
 rw [hd] at HDo
 have z1 : (((0 : Nat) : Int) == 0) = true := rfl
 clear hw4
 go_wp2_with (first | (refine uqn (by rfl) _ _ rfl (w.heap.size) rfl _ _ bq4 _ underlying68 rfl uqe ?_))
 refine HDo.out.mono ?_
 rintro e w5 ⟨s1, s2, s3, f1, f2, f3, rfl, hw5, hBd, hK, hS⟩
 have hB5 := hB4.trans hBd
 have br5 := hK _ _ _ br4 (by decide) (by decide) (by decide) (by decide) (by decide)
 have bd5 := hK _ _ _ bd4 (by decide) (by decide) (by decide) (by decide) (by decide)
 have hM5 := HM.out _ hB5
 clear HDo hBd hK hS hB4 bq4 br4 bd4 hq
 go_upto_region 6 with fail
 have HSm := zrj (fun (W : World) (hW : Below w5.heap.size w5 W) => wyx v.st s' q1 q2 q3 s1 s2 s3 d1 d2 d3 f1 f2 f3 W ((hM5.below hW).m) ((hw5.own.below hW).m) F.sz F'.sz)
 rw [hs] at HSm
 have G0 : Blk w5.drew g 165 #[.int .i64 v.st.rev, .slice q1 v.st.jobs.length d1, .slice q2 v.st.nodes.length d2, .slice q3 v.st.leases.length d3, .int .i64 v.now] ∧ Blk w5.drew gn 35 (stv s' s1 s2 s3 f1 f2 f3) := ⟨hM5.b.drew, hw5.bn.drew⟩
 refine wp_region_held_drew (S := fun W => Blk W g 165 #[.int .i64 v.st.rev, .slice q1 v.st.jobs.length d1, .slice q2 v.st.nodes.length d2, .slice q3 v.st.leases.length d3, .int .i64 v.now] ∧ Blk W gn 35 (stv s' s1 s2 s3 f1 f2 f3)) (by kernel_rfl) G0 (fun hHeld => ?_)
 refine tq 0 ?_
 refine tq 1 ?_
 refine tq 2 ?_
 refine tq 3 ?_
 refine tq 4 ?_
 refine tq 5 ?_
 refine tq 6 ?_
 refine tq 7 ?_
 refine tr 8 rfl (fun K hK => ?_)
 go_simp
 refine (HSm.out w5.drew (zri _ w5).drew).mono ?_
 rintro e w6 ⟨rfl, hb6⟩
 have hb56 : Below w5.heap.size w5 w6 := (zri _ w5).drew.trans hb6
 have G1 : Blk w6 g 165 #[.int .i64 v.st.rev, .slice q1 v.st.jobs.length d1, .slice q2 v.st.nodes.length d2, .slice q3 v.st.leases.length d3, .int .i64 v.now] ∧ Blk w6 gn 35 (stv s' s1 s2 s3 f1 f2 f3) := ⟨G0.1.below hb6 G0.1.lt, G0.2.below hb6 G0.2.lt⟩
 clear hb6
 refine hK.out _ _ G1 (fun hHeld => ?_)
 clear hK K
 (try simp only [Act.put, ma, mb, mc, md, me, mf])
 refine tq 9 ?_
 refine tq 10 ?_
 refine tq 11 ?_
 refine wpAnyH_done (by kernel_rfl) ?_ _
 have hB6 := hB5.trans (hb56.mono hB5.size)
 have br6 := br5.below hb56 br5.lt
 have bd6 := bd5.below hb56 bd5.lt
 have hw6 := hw5.below hb56
 have hM6 := hM5.below hb56
 clear G0 hHeld G1 HSm hb56 br5 bd5 hw5 hM5 hB5
 go_upto_region 16 with fail
 have hB7 := hB6.alloc hB6.size (.cells zdv 49)
 have br7 := br6.alloc (.cells zdv 49)
 have bd7 := bd6.alloc (.cells zdv 49)
 have bx7 := Blk.new w6 49 zdv
 have hkd := bd6.lt
 have M7 := HM.out _ hB7
 have bw7 := hw6.bw.alloc (.cells zdv 49)
 generalize hkx : w6.heap.size = kx at *
 generalize w6.alloc _ = w7 at *
 have x1 : w7.cell? ⟨gn + 1, 1, none⟩ = some (.int .i64 now') := bw7.cell 1
 have x2 : w7.cell? ⟨g, 4, none⟩ = some (.int .i64 v.now) := M7.b.cell 4
 have x3 : w7.frozen? ⟨g, 4, none⟩ = false := M7.b.frozen 4
 go_upto_region 17 with fail
 clear x1 x2 x3
 have gc := uza w7 g 4 (.int .i64 now')
 have M8 := M7.setNow now'
 have g8 : w.grownBy (w7.setCell ⟨g, 4, none⟩ (.int .i64 now')) (some g) := GrB.then2 (vyh (some g) hB7) gc
 have br8 := GrB.blk gc br7 (br7.ne_ M7.b (by decide))
 have bd8 := GrB.blk gc bd7 (bd7.ne_ M7.b (by decide))
 have bx8 := GrB.blk gc bx7 (bx7.ne_ M7.b (by decide))
 clear gc bw7 hw6 hM6 M7 br7 bd7 bx7 br6 bd6 hB6
 generalize w7.setCell _ _ = w8 at *
 have G0 : Blk w8.drew g 165 #[.int .i64 v.st.rev, .slice q1 v.st.jobs.length d1, .slice q2 v.st.nodes.length d2, .slice q3 v.st.leases.length d3, .int .i64 now'] ∧ Blk w8.drew kx 49 zdv := ⟨M8.b.drew, bx8.drew⟩
 have hr1 := br8.drew
 have hd1 := bd8.drew
 refine wp_region_held_drew (S := fun W => Blk W g 165 #[.int .i64 v.st.rev, .slice q1 v.st.jobs.length d1, .slice q2 v.st.nodes.length d2, .slice q3 v.st.leases.length d3, .int .i64 now'] ∧ Blk W kx 49 zdv) (by kernel_rfl) G0 (fun hHeld => ?_)
 refine tq 0 ?_
 refine tq 1 ?_
 refine tq 2 ?_
 refine tq 3 ?_
 refine tq 4 ?_
 refine tq 5 ?_
 refine tq 6 ?_
 refine tq 7 ?_
 refine tq 8 ?_
 have G1 : Blk (w8.drew.setRow (w.heap.size + 1) #[.int .i64 ((0 : Nat) : Int), .int .i64 v.st.rev]) g 165 #[.int .i64 v.st.rev, .slice q1 v.st.jobs.length d1, .slice q2 v.st.nodes.length d2, .slice q3 v.st.leases.length d3, .int .i64 now'] ∧ Blk (w8.drew.setRow (w.heap.size + 1) #[.int .i64 ((0 : Nat) : Int), .int .i64 v.st.rev]) kx 49 zdv := (⟨G0.1.far_row (G0.1.ne_ hr1 (by decide)) #[.int .i64 ((0 : Nat) : Int), .int .i64 v.st.rev], G0.2.far_row (G0.2.ne_ hr1 (by decide)) #[.int .i64 ((0 : Nat) : Int), .int .i64 v.st.rev]⟩)
 have hd2 := hd1.far_row (hd1.ne_ hr1 (by decide)) #[.int .i64 ((0 : Nat) : Int), .int .i64 v.st.rev]
 refine tr 9 rfl (fun K hK => ?_)
 refine uzz rfl _ _ _ rfl (w.heap.size + 1) rfl _ _ #[.int .i64 ((0 : Nat) : Int), .int .i64 v.st.rev] hr1 rfl vjg rfl (xzc _ _) ?_
 refine hK.out _ _ G1 (fun hHeld => ?_)
 clear hK K
 (try simp only [Act.put, ma, mb, mc, md, me, mf])
 have G2 : Blk ((w8.drew.setRow (w.heap.size + 1) #[.int .i64 ((0 : Nat) : Int), .int .i64 v.st.rev]).setRow (w.heap.size + 2) zdv) g 165 #[.int .i64 v.st.rev, .slice q1 v.st.jobs.length d1, .slice q2 v.st.nodes.length d2, .slice q3 v.st.leases.length d3, .int .i64 now'] ∧ Blk ((w8.drew.setRow (w.heap.size + 1) #[.int .i64 ((0 : Nat) : Int), .int .i64 v.st.rev]).setRow (w.heap.size + 2) zdv) kx 49 zdv := ⟨G1.1.far_row (G1.1.ne_ hd2 (by decide)) zdv, G1.2.far_row (by omega) zdv⟩
 refine tr 10 rfl (fun K hK => ?_)
 refine uzz rfl _ _ _ rfl (w.heap.size + 2) rfl _ _ zdv hd2 rfl uqy rfl (uk1 _ _ _ _ _ _ _ _ _ _ _ _ _ _ _ _ _ _ _ _) ?_
 refine hK.out _ _ G2 (fun hHeld => ?_)
 clear hK K
 (try simp only [Act.put, ma, mb, mc, md, me, mf])
 refine tq 11 ?_
 refine wpAnyH_done (by kernel_rfl) ?_ _
 have hr3 := (hr1.setRow #[.int .i64 ((0 : Nat) : Int), .int .i64 v.st.rev]).far_row ((hr1.setRow #[.int .i64 ((0 : Nat) : Int), .int .i64 v.st.rev]).ne_ hd2 (by decide)) zdv
 have hd3 := hd2.setRow zdv
 go_wp2_with fail
 refine bodyPost_ret (wxx rfl _ rfl hr3 underlying174 rfl vjg rfl hd3 underlying49 rfl uqy) rfl ?_
 obtain ⟨m1, m2⟩ := svDo_fin (c1 := #[.int .i64 ((0 : Nat) : Int), .int .i64 v.st.rev]) (c2 := zdv) ⟨q1, q2, q3, d1, d2, d3, M8⟩ g8 (by omega) (by omega) br8 bd8 (by decide) (by decide) (by omega)
 refine ⟨none, none, none, none, none, none, 0, 0, 0, 0, 0, 0, ?_, m1, m2, DelOwn.nil0 _ _⟩
 rfl
theorem ReqSz.of {q : ReqD} (h : okQ q) : ReqSz q := ⟨h.2.1.1.1, h.2.1.1.2, h.2.2.1.1.1, h.2.2.1.1.2, h.2.2.2.1.1.1, h.2.2.2.1.1.2, h.2.2.2.2.1⟩
theorem sz0 : ByteArray.empty.size <= 9223372036854775807 := by decide
theorem ujr : uqq uq3 = 0 := by decide +kernel
end Go.Proofs.YtibiankbmhdljabGreatDoor
