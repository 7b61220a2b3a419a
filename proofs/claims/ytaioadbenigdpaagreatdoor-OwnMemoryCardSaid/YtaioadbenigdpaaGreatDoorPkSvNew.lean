/-
  Several texts in one: SvM, SvNew.
-/
import Derived.Test.YtaioadbenigdpaaGreatDoorPkSvA
import Derived.Test.YtaioadbenigdpaaGreatDoorPkSrvP
import Derived.Test.YtaioadbenigdpaaGreatDoorPkStateB
set_option linter.unusedVariables false
set_option linter.unusedSimpArgs false
set_option maxHeartbeats 16000000
set_option maxRecDepth 100000
namespace Go.Proofs.YtaioadbenigdpaaGreatDoor
open Go.RowKit
structure SvM (w : World) (g : Nat) (q1 q2 q3 : Option Addr) (d1 d2 d3 : Nat) (v : Srv) : Prop where
 b : Blk w g 65 #[.int .i64 v.st.rev, .slice q1 v.st.jobs.length d1, .slice q2 v.st.nodes.length d2, .slice q3 v.st.leases.length d3, .int .i64 v.now]
 own : StOwn w 0 q1 q2 q3 d1 d2 d3 v.st
def SvI (w : World) (g : Nat) (v : Srv) : Prop := ∃ q1 q2 q3 d1 d2 d3, SvM w g q1 q2 q3 d1 d2 d3 v
section
variable {w w' : World} {g : Nat} {q1 q2 q3 : Option Addr} {d1 d2 d3 : Nat} {v : Srv}
theorem SvM.below (h : SvM w g q1 q2 q3 d1 d2 d3 v) (hb : Below w.heap.size w w') : SvM w' g q1 q2 q3 d1 d2 d3 v := ⟨h.b.below hb h.b.lt, h.own.below hb⟩
theorem SvI.below (h : SvI w g v) (hb : Below w.heap.size w w') : SvI w' g v := by
 obtain ⟨q1, q2, q3, d1, d2, d3, h⟩ := h
 exact ⟨q1, q2, q3, d1, d2, d3, h.below hb⟩
theorem SvI.lt (h : SvI w g v) : g < w.heap.size := by
 obtain ⟨q1, q2, q3, d1, d2, d3, h⟩ := h
 exact h.b.lt
theorem SvM.at (h : SvM w g q1 q2 q3 d1 d2 d3 v) : At w ⟨g, 0, none⟩ [Value.int .i64 v.st.rev, Value.slice q1 v.st.jobs.length d1, Value.slice q2 v.st.nodes.length d2, Value.slice q3 v.st.leases.length d3] := fun j u hu => by
 rcases j with _ | _ | _ | _ | j
 ·injection hu with hu; subst hu; exact h.b.cell 0
 ·injection hu with hu; subst hu; exact h.b.cell 1
 ·injection hu with hu; subst hu; exact h.b.cell 2
 ·injection hu with hu; subst hu; exact h.b.cell 3
 ·cases hu
theorem SvM.m (h : SvM w g q1 q2 q3 d1 d2 d3 v) : StM w w.heap.size q1 q2 q3 v.st := h.own.m
theorem SvI.other (h : SvI w g v) {k : Nat} (hg : w.grownBy w' (some k)) {cs : Array Value} (hk : Blk w k 65 cs) (hne : g ≠ k) : SvI w' g v := by
 obtain ⟨q1, q2, q3, d1, d2, d3, h⟩ := h
 exact ⟨q1, q2, q3, d1, d2, d3, GrB.blk hg h.b hne, h.own.other hg hk (by decide) (by decide) (by decide)⟩
theorem SvI.blk (h : SvI w g v) : ∃ cs, Blk w g 65 cs := by
 obtain ⟨q1, q2, q3, d1, d2, d3, h⟩ := h
 exact ⟨_, h.b⟩
theorem blk_srv {k : Nat} {t : TypeId} {cs : Array Value} (h : SvI w g v) (hg : w.grownBy w' (some g)) (hb : Blk w k t cs) (hne : t ≠ 65) : Blk w' k t cs := by
 obtain ⟨c2, h2⟩ := h.blk
 exact GrB.blk hg hb (hb.ne_ h2 hne)
end
theorem zero_server_lit (W : World) : (zeroValue 65).run Tryz.prog W = .ok (.agg #[.int .i64 0, .slice none 0 0, .slice none 0 0, .slice none 0 0, .int .i64 0]) W := by kernel_rfl
open Go.RowKit
theorem svNew_bad (s : St) (p1 p2 p3 : Option Addr) (c1 c2 c3 : Nat) (w : World) (hm : StM w w.heap.size p1 p2 p3 s) (hz : StSz s) (hT : Tabs w) (h : checkE s ≠ 0) :
  Calls Tryz.prog 9 #[.agg #[.int .i64 s.rev, .slice p1 s.jobs.length c1, .slice p2 s.nodes.length c2, .slice p3 s.leases.length c3]] w fun e w' => e = .returned (.tuple #[.pointer none, .int .i64 ((checkE s : Nat) : Int)]) ∧ Below w.heap.size w w' := by
 have hb0 : Below w.heap.size w (w.alloc (.cells #[.int .i64 s.rev, .slice p1 s.jobs.length c1, .slice p2 s.nodes.length c2, .slice p3 s.leases.length c3] 26)) := (Below.refl _ _).alloc (Nat.le_refl _) _
 have bx0 := Blk.new w 26 #[.int .i64 s.rev, .slice p1 s.jobs.length c1, .slice p2 s.nodes.length c2, .slice p3 s.leases.length c3]
 have HC := Lib.hid (fun (W : World) (hW : Below w.heap.size w W) => stCheck_any s p1 p2 p3 c1 c2 c3 W ((hm.below hW).more hW.size) hz (hT.below hW))
 have hne : (((checkE s : Nat) : Int) != 0) = true := by rw [bne_iff_ne]; omega
 generalize checkE s = n at *
 clear h hm hz hT
 go_enter Tryz.func9, Tryz.ntmps9
 go_wp2_with (first | (refine wpList_load_blk rfl _ _ rfl w.heap.size rfl _ _ bx0 _ Tryz.underlying26 rfl state_size ?_))
 generalize w.alloc _ = w0 at *
 refine (HC.out w0 hb0).mono ?_
 rintro e w1 ⟨rfl, hb1⟩
 have hB1 := hb0.trans (hb1.mono hb0.size)
 go_wp2_with fail
 go_ret2
 exact ⟨rfl, hB1⟩
theorem svNew_ok (s : St) (p1 p2 p3 : Option Addr) (c1 c2 c3 : Nat) (w : World) (hm : StM w w.heap.size p1 p2 p3 s) (hz : StSz s) (hT : Tabs w) (h : checkE s = 0) :
  Calls Tryz.prog 9 #[.agg #[.int .i64 s.rev, .slice p1 s.jobs.length c1, .slice p2 s.nodes.length c2, .slice p3 s.leases.length c3]] w fun e w' => ∃ g, e = .returned (.tuple #[.pointer (some ⟨g, 0, none⟩), .int .i64 0]) ∧ w.heap.size ≤ g ∧ SvI w' g ⟨s, 0⟩ ∧ Below w.heap.size w w' := by
 have hb0 : Below w.heap.size w (w.alloc (.cells #[.int .i64 s.rev, .slice p1 s.jobs.length c1, .slice p2 s.nodes.length c2, .slice p3 s.leases.length c3] 26)) := (Below.refl _ _).alloc (Nat.le_refl _) _
 have bx0 := Blk.new w 26 #[.int .i64 s.rev, .slice p1 s.jobs.length c1, .slice p2 s.nodes.length c2, .slice p3 s.leases.length c3]
 have HC := Lib.hid (fun (W : World) (hW : Below w.heap.size w W) => stCheck_any s p1 p2 p3 c1 c2 c3 W ((hm.below hW).more hW.size) hz (hT.below hW))
 have F := (fine_iff s).1 h
 have HO := Lib.hid (fun (W : World) (hW : Below w.heap.size w W) => svOwn_any s p1 p2 p3 c1 c2 c3 W ((hm.below hW).more hW.size) (by have := F.nj; omega) (by have := F.nn; omega) (by have := F.nl; omega))
 rw [h] at HC
 have hzs := zero_server_lit
 have z0 : (((0 : Nat) : Int) != 0) = false := rfl
 clear h hm hz hT F
 go_enter Tryz.func9, Tryz.ntmps9
 go_wp2_with (first | (refine wpList_load_blk rfl _ _ rfl w.heap.size rfl _ _ bx0 _ Tryz.underlying26 rfl state_size ?_))
 generalize w.alloc _ = w0 at *
 refine (HC.out w0 hb0).mono ?_
 rintro e w1 ⟨rfl, hb1⟩
 have hB1 := hb0.trans (hb1.mono hb0.size)
 have bx1 := bx0.below hb1 bx0.lt
 clear bx0 hb0 hb1
 go_wp2_with (first | (refine wpList_load_blk rfl _ _ rfl w.heap.size rfl _ _ bx1 _ Tryz.underlying26 rfl state_size ?_))
 refine (HO.out w1 hB1).mono ?_
 rintro e w2 ⟨q1, q2, q3, d1, d2, d3, rfl, hO, hb2⟩
 have hB2 := hB1.trans (hb2.mono hB1.size)
 have hb3 : Below w2.heap.size w2 (w2.alloc (.cells #[.int .i64 s.rev, .slice q1 s.jobs.length d1, .slice q2 s.nodes.length d2, .slice q3 s.leases.length d3, .int .i64 0] 65)) := (Below.refl _ _).alloc (Nat.le_refl _) _
 have HM := Lib.hid (show SvM (w2.alloc (.cells #[.int .i64 s.rev, .slice q1 s.jobs.length d1, .slice q2 s.nodes.length d2, .slice q3 s.leases.length d3, .int .i64 0] 65)) w2.heap.size q1 q2 q3 d1 d2 d3 ⟨s, 0⟩ from ⟨Blk.new w2 65 #[.int .i64 s.rev, .slice q1 s.jobs.length d1, .slice q2 s.nodes.length d2, .slice q3 s.leases.length d3, .int .i64 0], (hO.less (Nat.zero_le _)).below hb3⟩)
 have HB := Lib.hid (hB2.trans (hb3.mono hB2.size))
 have HL := Lib.hid hB2.size
 clear hO hB1 hb2 hB2 hb3 bx1
 go_wp2_with fail
 go_ret2
 exact ⟨w2.heap.size, rfl, HL.out, ⟨q1, q2, q3, d1, d2, d3, HM.out⟩, HB.out⟩
theorem svState_any (g : Nat) (v : Srv) (w : World) (hM : SvI w g v) (F : Fine v.st) :
  Calls Tryz.prog 11 #[.pointer (some ⟨g, 0, none⟩)] w fun e w' => SvPost w v.st e w' := by
 obtain ⟨q1, q2, q3, d1, d2, d3, hM⟩ := hM
 have hzs := zero_state_lit
 have hb0 : Below w.heap.size w (w.alloc (.cells #[.int .i64 0, .slice none 0 0, .slice none 0 0, .slice none 0 0] 26)) := (Below.refl _ _).alloc (Nat.le_refl _) _
 have bz0 := Blk.new w 26 #[.int .i64 0, .slice none 0 0, .slice none 0 0, .slice none 0 0]
 have hM0 := hM.below hb0
 have hat := hM0.at
 have HO := Lib.hid (svOwn_any v.st q1 q2 q3 d1 d2 d3 _ hM0.m (by have := F.nj; omega) (by have := F.nn; omega) (by have := F.nl; omega))
 clear hM hM0 F
 go_enter Tryz.func11, Tryz.ntmps11
 go_wp2_with (first | (refine wpList_load_at rfl _ _ rfl ⟨g, 0, none⟩ rfl [Value.int .i64 v.st.rev, Value.slice q1 v.st.jobs.length d1, Value.slice q2 v.st.nodes.length d2, Value.slice q3 v.st.leases.length d3] _ hat Tryz.underlying26 rfl state_size ?_))
 generalize w.alloc _ = w0 at *
 refine HO.out.mono ?_
 rintro e w1 ⟨r1, r2, r3, e1, e2, e3, rfl, hO, hb1⟩
 have hB1 := hb0.trans (hb1.mono hb0.size)
 have bz1 := bz0.below hb1 bz0.lt
 have hS := Lib.hid ((hO.other (growR w1 w.heap.size #[.int .i64 v.st.rev, .slice r1 v.st.jobs.length e1, .slice r2 v.st.nodes.length e2, .slice r3 v.st.leases.length e3]) bz1 (by decide) (by decide) (by decide)).less hb0.size)
 have hB2 := Lib.hid (below_setRow hB1 (Nat.le_refl _) #[.int .i64 v.st.rev, .slice r1 v.st.jobs.length e1, .slice r2 v.st.nodes.length e2, .slice r3 v.st.leases.length e3])
 clear hO hB1 hb1 bz0 hb0 hat HO
 go_wp2_with (first | (refine wpList_store_blk rfl _ _ _ rfl w.heap.size rfl _ _ #[.int .i64 v.st.rev, .slice r1 v.st.jobs.length e1, .slice r2 v.st.nodes.length e2, .slice r3 v.st.leases.length e3] bz1 rfl state_size rfl (one_st4 _ _ _ _ _ _ _ _ _ _) ?_))
 refine bodyPost_ret (results_cell1 rfl _ rfl (bz1.setRow #[.int .i64 v.st.rev, .slice r1 v.st.jobs.length e1, .slice r2 v.st.nodes.length e2, .slice r3 v.st.leases.length e3]) Tryz.underlying26 rfl state_size) rfl ?_
 exact ⟨r1, r2, r3, e1, e2, e3, rfl, hS.out, hB2.out⟩
theorem svNow_any (g : Nat) (v : Srv) (w : World) (hM : SvI w g v) :
  Calls Tryz.prog 21 #[.pointer (some ⟨g, 0, none⟩)] w fun e w' => e = .returned (.int .i64 v.now) ∧ w = w' := by
 obtain ⟨q1, q2, q3, d1, d2, d3, hM⟩ := hM
 have c4 : w.cell? ⟨g, 4, none⟩ = some (.int .i64 v.now) := hM.b.cell 4
 clear hM
 go_enter Tryz.func21, Tryz.ntmps21
 go_wp2_with fail
 go_ret
 exact ⟨rfl, rfl⟩
end Go.Proofs.YtaioadbenigdpaaGreatDoor
