/-
  Several texts in one: SvM, SvNew.
-/
import Derived.Test.YtibiankbmhdljabGreatDoorPgSvA
set_option linter.all false
set_option maxHeartbeats 16000000
set_option maxRecDepth 100000
namespace Go.Proofs.YtibiankbmhdljabGreatDoor
open Go.Proofs.Tryz
open Go.RowKit
structure SvM (w : World) (g : Nat) (q1 q2 q3 : Option Addr) (d1 d2 d3 : Nat) (v : Srv) : Prop where
 b : Blk w g 165 #[.int .i64 v.st.rev, .slice q1 v.st.jobs.length d1, .slice q2 v.st.nodes.length d2, .slice q3 v.st.leases.length d3, .int .i64 v.now]
 own : StOwn w 0 q1 q2 q3 d1 d2 d3 v.st
def SvI (w : World) (g : Nat) (v : Srv) : Prop := ∃ q1 q2 q3 d1 d2 d3, SvM w g q1 q2 q3 d1 d2 d3 v
section
variable {w w' : World} {g : Nat} {q1 q2 q3 : Option Addr} {d1 d2 d3 : Nat} {v : Srv}
theorem SvM.below (h : SvM w g q1 q2 q3 d1 d2 d3 v) (hb : Below w.heap.size w w') : SvM w' g q1 q2 q3 d1 d2 d3 v := ⟨h.b.below hb h.b.lt, h.own.below hb⟩
theorem SvI.below (h : SvI w g v) (hb : Below w.heap.size w w') : SvI w' g v := by
 obtain ⟨q1, q2, q3, d1, d2, d3, h⟩ := h
 exact ⟨q1, q2, q3, d1, d2, d3, h.below hb⟩
theorem SvI.lt (h : SvI w g v) : g < w.heap.size := by
 obtain ⟨q1, q2, q3, d1, d2, d3, h⟩ := h
 exact h.b.lt
theorem SvM.at (h : SvM w g q1 q2 q3 d1 d2 d3 v) : At w ⟨g, 0, none⟩ [Value.int .i64 v.st.rev, Value.slice q1 v.st.jobs.length d1, Value.slice q2 v.st.nodes.length d2, Value.slice q3 v.st.leases.length d3] := fun j u hu => by
 rcases j with _ | _ | _ | _ | j
 ·injection hu with hu; subst hu; exact h.b.cell 0
 ·injection hu with hu; subst hu; exact h.b.cell 1
 ·injection hu with hu; subst hu; exact h.b.cell 2
 ·injection hu with hu; subst hu; exact h.b.cell 3
 ·cases hu
theorem SvM.m (h : SvM w g q1 q2 q3 d1 d2 d3 v) : StM w w.heap.size q1 q2 q3 v.st := h.own.m
theorem SvI.other (h : SvI w g v) {k : Nat} (hg : w.grownBy w' (some k)) {cs : Array Value} (hk : Blk w k 165 cs) (hne : g ≠ k) : SvI w' g v := by
 obtain ⟨q1, q2, q3, d1, d2, d3, h⟩ := h
 exact ⟨q1, q2, q3, d1, d2, d3, GrB.blk hg h.b hne, h.own.other hg hk (by decide) (by decide) (by decide)⟩
theorem SvI.blk (h : SvI w g v) : ∃ cs, Blk w g 165 cs := by
 obtain ⟨q1, q2, q3, d1, d2, d3, h⟩ := h
 exact ⟨_, h.b⟩
theorem vqn {k : Nat} {t : TypeId} {cs : Array Value} (h : SvI w g v) (hg : w.grownBy w' (some g)) (hb : Blk w k t cs) (hne : t ≠ 165) : Blk w' k t cs := by
 obtain ⟨c2, h2⟩ := h.blk
 exact GrB.blk hg hb (hb.ne_ h2 hne)
end
theorem vvf (W : World) : (zeroValue 165).run prog W = .ok (.agg #[.int .i64 0, .slice none 0 0, .slice none 0 0, .slice none 0 0, .int .i64 0]) W := by kernel_rfl
theorem svNew_ok (s : St) (p1 p2 p3 : Option Addr) (c1 c2 c3 : Nat) (w : World) (hm : StM w w.heap.size p1 p2 p3 s) (hz : StSz s) (hT : Tabs w) (h : uqq s = 0) :
  Calls prog 53 #[.agg (stv s p1 p2 p3 c1 c2 c3)] w fun e w' => ∃ g, e = .returned (.tuple #[.pointer (some ⟨g, 0, none⟩), .int .i64 0]) ∧ w.heap.size <= g ∧ SvI w' g ⟨s, 0⟩ ∧ Below w.heap.size w w' := by
 have hb0 : Below w.heap.size w (w.alloc (.cells (stv s p1 p2 p3 c1 c2 c3) 35)) := (zri _ _).alloc (zra _) _
 have bx0 := Blk.new w 35 (stv s p1 p2 p3 c1 c2 c3)
 have HC := zrj (fun (W : World) (hW : Below w.heap.size w W) => ux2 s p1 p2 p3 c1 c2 c3 W ((hm.below hW).more hW.size) hz (hT.below hW))
 have F := (uxm s).1 h
 have HO := zrj (fun (W : World) (hW : Below w.heap.size w W) => vk0 s p1 p2 p3 c1 c2 c3 W ((hm.below hW).more hW.size) (by have := F.nj; omega) (by have := F.nn; omega) (by have := F.nl; omega))
 rw [h] at HC
 have hzs := vvf
 have z0 : (((0 : Nat) : Int) != 0) = false := rfl
 clear h hm hz hT F
 go_enter func53, ntmps53
 go_wp2_with (first | (refine uqa rfl _ _ rfl w.heap.size rfl _ _ bx0 _ underlying35 rfl uqg ?_))
 generalize w.alloc _ = w0 at *
 refine (HC.out w0 hb0).mono ?_
 rintro e w1 ⟨rfl, hb1⟩
 have hB1 := hb0.trans (hb1.mono hb0.size)
 have bx1 := bx0.below hb1 bx0.lt
 clear bx0 hb0 hb1
 go_wp2_with (first | (refine uqa rfl _ _ rfl w.heap.size rfl _ _ bx1 _ underlying35 rfl uqg ?_))
 refine (HO.out w1 hB1).mono ?_
 rintro e w2 ⟨q1, q2, q3, d1, d2, d3, rfl, hO, hb2⟩
 have hB2 := hB1.trans (hb2.mono hB1.size)
 have hb3 : Below w2.heap.size w2 (w2.alloc (.cells #[.int .i64 s.rev, .slice q1 s.jobs.length d1, .slice q2 s.nodes.length d2, .slice q3 s.leases.length d3, .int .i64 0] 165)) := (zri _ _).alloc (zra _) _
 have HM := zrj (show SvM (w2.alloc (.cells #[.int .i64 s.rev, .slice q1 s.jobs.length d1, .slice q2 s.nodes.length d2, .slice q3 s.leases.length d3, .int .i64 0] 165)) w2.heap.size q1 q2 q3 d1 d2 d3 ⟨s, 0⟩ from ⟨Blk.new w2 165 #[.int .i64 s.rev, .slice q1 s.jobs.length d1, .slice q2 s.nodes.length d2, .slice q3 s.leases.length d3, .int .i64 0], (hO.less (Nat.zero_le _)).below hb3⟩)
 have HB := zrj (hB2.trans (hb3.mono hB2.size))
 have HL := zrj hB2.size
 clear hO hB1 hb2 hB2 hb3 bx1
 go_wp2_with fail
 go_ret2
 exact ⟨w2.heap.size, rfl, HL.out, ⟨q1, q2, q3, d1, d2, d3, HM.out⟩, HB.out⟩
theorem vqw (g : Nat) (v : Srv) (w : World) (hM : SvI w g v) (F : Fine v.st) :
  Calls prog 103 #[.pointer (some ⟨g, 0, none⟩)] w fun e w' => xqb w v.st e w' := by
 obtain ⟨q1, q2, q3, d1, d2, d3, hM⟩ := hM
 have hzs := uxa
 have hb0 : Below w.heap.size w (w.alloc (.cells zsv 35)) := (zri _ _).alloc (zra _) _
 have bz0 := Blk.new w 35 zsv
 have hM0 := hM.below hb0
 have hat := hM0.at
 have HO := zrj (vk0 v.st q1 q2 q3 d1 d2 d3 _ hM0.m (by have := F.nj; omega) (by have := F.nn; omega) (by have := F.nl; omega))
 clear hM hM0 F
 go_enter func103, ntmps103
 go_wp2_with (first | (refine uqb rfl _ _ rfl ⟨g, 0, none⟩ rfl [Value.int .i64 v.st.rev, Value.slice q1 v.st.jobs.length d1, Value.slice q2 v.st.nodes.length d2, Value.slice q3 v.st.leases.length d3] _ hat underlying35 rfl uqg ?_))
 generalize w.alloc _ = w0 at *
 refine HO.out.mono ?_
 rintro e w1 ⟨r1, r2, r3, e1, e2, e3, rfl, hO, hb1⟩
 have hB1 := hb0.trans (hb1.mono hb0.size)
 have bz1 := bz0.below hb1 bz0.lt
 have hS := zrj ((hO.other (growR w1 w.heap.size (stv v.st r1 r2 r3 e1 e2 e3)) bz1 (by decide) (by decide) (by decide)).less hb0.size)
 have hB2 := zrj (uqh hB1 (zra _) (stv v.st r1 r2 r3 e1 e2 e3))
 clear hO hB1 hb1 bz0 hb0 hat HO
 go_wp2_with (first | (refine uqc rfl _ _ _ rfl w.heap.size rfl _ _ (stv v.st r1 r2 r3 e1 e2 e3) bz1 rfl uqg rfl (uxq _ _ _ _ _ _ _ _ _ _) ?_))
 refine bodyPost_ret (uq4 rfl _ rfl (bz1.setRow (stv v.st r1 r2 r3 e1 e2 e3)) underlying35 rfl uqg) rfl ?_
 exact ⟨r1, r2, r3, e1, e2, e3, rfl, hS.out, hB2.out⟩
end Go.Proofs.YtibiankbmhdljabGreatDoor
