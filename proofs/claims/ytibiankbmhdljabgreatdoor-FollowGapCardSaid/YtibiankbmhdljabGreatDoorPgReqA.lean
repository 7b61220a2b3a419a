/-
  Several texts in one: EqQ, PartW, WhoW.
-/
import Derived.Test.YtibiankbmhdljabGreatDoorPgSvA
set_option linter.all false
set_option maxHeartbeats 16000000
set_option maxRecDepth 100000
namespace Go.Proofs.YtibiankbmhdljabGreatDoor
open Go.Proofs.Tryz
open Go.RowKit
theorem eqInQ (q r : ReqD) (w : World) : (Op.equalIn 10000 68 (.agg (qv q)) (.agg (qv r))).run prog w = .ok (decide (q = r)) w := by
 have hS : prog.underlying 68 = some (.struct (prog.fieldsOf 68)) := by kernel_rfl
 have hp : prog.stoodInHeld 68 = false := by kernel_rfl
 have u0 := underlying9
 have z0 := Tryz.sizeOf9
 have g0 := Tryz.isAgg9
 have u1 := underlying3
 have z1 := Tryz.sizeOf3
 have g1 := Tryz.isAgg3
 have u2 := underlying62
 have z2 := Tryz.sizeOf62
 have g2 := Tryz.isAgg62
 have u3 := underlying64
 have z3 := Tryz.sizeOf64
 have g3 := Tryz.isAgg64
 have u4 := underlying66
 have z4 := Tryz.sizeOf66
 have g4 := Tryz.isAgg66
 have s0 : prog.underlying 62 = some (.struct (prog.fieldsOf 62)) := by kernel_rfl
 have p0 : prog.stoodInHeld 62 = false := by kernel_rfl
 have s1 : prog.underlying 64 = some (.struct (prog.fieldsOf 64)) := by kernel_rfl
 have p1 : prog.stoodInHeld 64 = false := by kernel_rfl
 have s2 : prog.underlying 66 = some (.struct (prog.fieldsOf 66)) := by kernel_rfl
 have p2 : prog.stoodInHeld 66 = false := by kernel_rfl
 rw [show (10000 : Nat) = 9999 + 1 from rfl, run_equalIn_agg w 9999 68 _ _ hS hp]
 simp only [Program.fieldsOf, underlying68]
 go_simp
 clear hS hp u0 z0 g0 u1 z1 g1 u2 z2 g2 u3 z3 g3 u4 z4 g4 s0 p0 s1 p1 s2 p2
 by_cases h : q = r
 ·subst h; simp
 ·rw [decide_eq_false h]
  by_cases h1 : q.kind = r.kind
  rotate_left
  ·rw [if_neg h1]
  rw [if_pos h1]
  by_cases h2 : q.job.name.toList = r.job.name.toList
  rotate_left
  ·rw [if_neg h2]
  rw [if_pos h2]
  by_cases h3 : q.job.prio = r.job.prio
  rotate_left
  ·rw [if_neg h3]
  rw [if_pos h3]
  by_cases h4 : q.job.need = r.job.need
  rotate_left
  ·rw [if_neg h4]
  rw [if_pos h4]
  by_cases h5 : q.job.tries = r.job.tries
  rotate_left
  ·rw [if_neg h5]
  rw [if_pos h5]
  by_cases h6 : q.job.tag.toList = r.job.tag.toList
  rotate_left
  ·rw [if_neg h6]
  rw [if_pos h6]
  by_cases h7 : q.node.name.toList = r.node.name.toList
  rotate_left
  ·rw [if_neg h7]
  rw [if_pos h7]
  by_cases h8 : q.node.room = r.node.room
  rotate_left
  ·rw [if_neg h8]
  rw [if_pos h8]
  by_cases h9 : q.node.zone.toList = r.node.zone.toList
  rotate_left
  ·rw [if_neg h9]
  rw [if_pos h9]
  by_cases h10 : q.lease.job.toList = r.lease.job.toList
  rotate_left
  ·rw [if_neg h10]
  rw [if_pos h10]
  by_cases h11 : q.lease.node.toList = r.lease.node.toList
  rotate_left
  ·rw [if_neg h11]
  rw [if_pos h11]
  by_cases h12 : q.lease.till = r.lease.till
  rotate_left
  ·rw [if_neg h12]
  rw [if_pos h12]
  by_cases h13 : q.name.toList = r.name.toList
  rotate_left
  ·rw [if_neg h13]
  rw [if_pos h13]
  by_cases h14 : q.n = r.n
  rotate_left
  ·rw [if_neg h14]
  rw [if_pos h14]
  exfalso
  apply h
  obtain ⟨k, ⟨a1, a2, a3, a4, a5⟩, ⟨b1, b2, b3⟩, ⟨c1, c2, c3⟩, nm, n⟩ := q
  obtain ⟨k', ⟨a1', a2', a3', a4', a5'⟩, ⟨b1', b2', b3'⟩, ⟨c1', c2', c3'⟩, nm', n'⟩ := r
  simp only at h1 h2 h3 h4 h5 h6 h7 h8 h9 h10 h11 h12 h13 h14
  rw [h1, toList_inj h2, h3, h4, h5, toList_inj h6, toList_inj h7, h8, toList_inj h9, toList_inj h10, toList_inj h11, h12, toList_inj h13, h14]
theorem uyy : prog.eqGuardType prog.depth 68 = false := by kernel_rfl
theorem uq6 (W : World) : (zeroValue 68).run prog W = .ok (.agg (kqv 0)) W := by kernel_rfl
theorem wjs (q : ReqD) (hkind : q.kind = 1) (w : World) :
  Calls prog 97 #[.agg (qv q)] w fun e w' => ∃ g, e = .returned (.iface 230 (.pointer (some ⟨g, 0, none⟩))) ∧ w.heap.size <= g ∧ Blk w' g 232 (rwJ q.job) ∧ Below w.heap.size w w' := by
 have hb0 : Below w.heap.size w (w.alloc (.cells (qv q) 68)) := (zri _ _).alloc (zra _) _
 have bq := Blk.new w 68 (qv q)
 have kk1 : (q.kind == (1 : Int)) = true := by rw [hkind]; rfl
 have kk2 : (q.kind == (2 : Int)) = false := by rw [hkind]; rfl
 have kk5 : (q.kind == (5 : Int)) = false := by rw [hkind]; rfl
 have kk3 : (q.kind == (3 : Int)) = false := by rw [hkind]; rfl
 have kk4 : (q.kind == (4 : Int)) = false := by rw [hkind]; rfl
 have kk6 : (q.kind == (6 : Int)) = false := by rw [hkind]; rfl
 have kk7 : (q.kind == (7 : Int)) = false := by rw [hkind]; rfl
 have kk8 : (q.kind == (8 : Int)) = false := by rw [hkind]; rfl
 have kk9 : (q.kind == (9 : Int)) = false := by rw [hkind]; rfl
 clear hkind
 go_enter func97, ntmps97
 go_upto_region 1 with fail
 generalize hw0 : w.alloc _ = w0 at *
 have hs0 : w.heap.size + 1 = w0.heap.size := by rw [<- hw0]; simp
 have hB1 : Below w.heap.size w (w0.alloc (.cells (rwJ q.job) 232)) := hb0.alloc (by omega) _
 have bn := Blk.new w0 232 (rwJ q.job)
 have c0 : w0.cell? ⟨w.heap.size, 0, none⟩ = some (Value.int .i64 q.kind) := bq.cell 0
 have c1 : w0.cell? ⟨w.heap.size, 1, none⟩ = some (Value.string q.job.name) := bq.cell 1
 have c2 : w0.cell? ⟨w.heap.size, 2, none⟩ = some (Value.int .i64 q.job.prio) := bq.cell 2
 have c3 : w0.cell? ⟨w.heap.size, 3, none⟩ = some (Value.int .i64 q.job.need) := bq.cell 3
 have c4 : w0.cell? ⟨w.heap.size, 4, none⟩ = some (Value.int .i64 q.job.tries) := bq.cell 4
 have c5 : w0.cell? ⟨w.heap.size, 5, none⟩ = some (Value.string q.job.tag) := bq.cell 5
 have c6 : w0.cell? ⟨w.heap.size, 6, none⟩ = some (Value.string q.node.name) := bq.cell 6
 have c7 : w0.cell? ⟨w.heap.size, 7, none⟩ = some (Value.int .i64 q.node.room) := bq.cell 7
 have c8 : w0.cell? ⟨w.heap.size, 8, none⟩ = some (Value.string q.node.zone) := bq.cell 8
 have c9 : w0.cell? ⟨w.heap.size, 9, none⟩ = some (Value.string q.lease.job) := bq.cell 9
 have c10 : w0.cell? ⟨w.heap.size, 10, none⟩ = some (Value.string q.lease.node) := bq.cell 10
 have c11 : w0.cell? ⟨w.heap.size, 11, none⟩ = some (Value.int .i64 q.lease.till) := bq.cell 11
 have c12 : w0.cell? ⟨w.heap.size, 12, none⟩ = some (Value.string q.name) := bq.cell 12
 have c13 : w0.cell? ⟨w.heap.size, 13, none⟩ = some (Value.int .i64 q.n) := bq.cell 13
 clear hw0 hb0 bq
 have hat : At w0 ⟨w.heap.size, 1, none⟩ (rlJ q.job) := fun j v hv => by
  rcases j with _ | _ | _ | _ | _ | j
  ·injection hv with hv; subst hv; exact c1
  ·injection hv with hv; subst hv; exact c2
  ·injection hv with hv; subst hv; exact c3
  ·injection hv with hv; subst hv; exact c4
  ·injection hv with hv; subst hv; exact c5
  ·cases hv
 go_wp2_with (first | (refine uqb rfl _ _ rfl ⟨w.heap.size, 1, none⟩ rfl (rlJ q.job) _ hat underlying62 rfl uqp ?_))
 go_ret
 exact ⟨w0.heap.size, rfl, by omega, bn, hB1⟩
theorem intoJ (k : Int) (x : JobD) (g h : Nat) (w : World) (bg : Blk w g 232 (rwJ x)) (bq : Blk w h 68 (kqv k)) :
  Calls prog 308 #[.pointer (some ⟨g, 0, none⟩), .pointer (some ⟨h, 0, none⟩)] w fun e w' => e = .returned (.tuple #[]) ∧ Blk w' h 68 #[.int .i64 k, .string x.name, .int .i64 x.prio, .int .i64 x.need, .int .i64 x.tries, .string x.tag, .string .empty, .int .i64 0, .string .empty, .string .empty, .string .empty, .int .i64 0, .string .empty, .int .i64 0] ∧ w.grownBy w' (some h) := by
 have c0 : w.cell? ⟨g, 0, none⟩ = some (Value.string x.name) := bg.cell 0
 have c1 : w.cell? ⟨g, 1, none⟩ = some (Value.int .i64 x.prio) := bg.cell 1
 have c2 : w.cell? ⟨g, 2, none⟩ = some (Value.int .i64 x.need) := bg.cell 2
 have c3 : w.cell? ⟨g, 3, none⟩ = some (Value.int .i64 x.tries) := bg.cell 3
 have c4 : w.cell? ⟨g, 4, none⟩ = some (Value.string x.tag) := bg.cell 4
 have hq : w.heap[h]? = some (.cells ([Value.int .i64 k] ++ zlJ ++ [Value.string .empty, Value.int .i64 0, Value.string .empty, Value.string .empty, Value.string .empty, Value.int .i64 0, Value.string .empty, Value.int .i64 0]).toArray 68 (0, 0)) := bq
 have hone : ∀ v ∈ ((rlJ x) : List Value), v.oneCell' = true := by intro v hv; simp at hv; rcases hv with rfl | rfl | rfl | rfl | rfl <;> rfl
 go_enter func308, ntmps308
 go_wp2_with (first | (refine uqb rfl _ _ rfl ⟨g, 0, none⟩ rfl (rlJ x) _ (At.blk bg) underlying62 rfl uqp ?_) | (refine uk0 (g := h) (t := 68) (A := [Value.int .i64 k]) (B := zlJ) (R := [Value.string .empty, Value.int .i64 0, Value.string .empty, Value.string .empty, Value.string .empty, Value.int .i64 0, Value.string .empty, Value.int .i64 0]) (vs := (rlJ x)) rfl _ _ _ rfl 1 rfl rfl hq rfl rfl uqp hone #[.int .i64 k, .string x.name, .int .i64 x.prio, .int .i64 x.need, .int .i64 x.tries, .string x.tag, .string .empty, .int .i64 0, .string .empty, .string .empty, .string .empty, .int .i64 0, .string .empty, .int .i64 0] rfl ?_))
 go_end0
 exact ⟨rfl, bq.setRow _, growR w h _⟩
theorem wju (q : ReqD) (hkind : q.kind = 2) (w : World) :
  Calls prog 97 #[.agg (qv q)] w fun e w' => ∃ g, e = .returned (.iface 233 (.pointer (some ⟨g, 0, none⟩))) ∧ w.heap.size <= g ∧ Blk w' g 235 (rwN q.node) ∧ Below w.heap.size w w' := by
 have hb0 : Below w.heap.size w (w.alloc (.cells (qv q) 68)) := (zri _ _).alloc (zra _) _
 have bq := Blk.new w 68 (qv q)
 have kk1 : (q.kind == (1 : Int)) = false := by rw [hkind]; rfl
 have kk2 : (q.kind == (2 : Int)) = true := by rw [hkind]; rfl
 have kk5 : (q.kind == (5 : Int)) = false := by rw [hkind]; rfl
 have kk3 : (q.kind == (3 : Int)) = false := by rw [hkind]; rfl
 have kk4 : (q.kind == (4 : Int)) = false := by rw [hkind]; rfl
 have kk6 : (q.kind == (6 : Int)) = false := by rw [hkind]; rfl
 have kk7 : (q.kind == (7 : Int)) = false := by rw [hkind]; rfl
 have kk8 : (q.kind == (8 : Int)) = false := by rw [hkind]; rfl
 have kk9 : (q.kind == (9 : Int)) = false := by rw [hkind]; rfl
 clear hkind
 go_enter func97, ntmps97
 go_upto_region 1 with fail
 generalize hw0 : w.alloc _ = w0 at *
 have hs0 : w.heap.size + 1 = w0.heap.size := by rw [<- hw0]; simp
 have hB1 : Below w.heap.size w (w0.alloc (.cells (rwN q.node) 235)) := hb0.alloc (by omega) _
 have bn := Blk.new w0 235 (rwN q.node)
 have c0 : w0.cell? ⟨w.heap.size, 0, none⟩ = some (Value.int .i64 q.kind) := bq.cell 0
 have c1 : w0.cell? ⟨w.heap.size, 1, none⟩ = some (Value.string q.job.name) := bq.cell 1
 have c2 : w0.cell? ⟨w.heap.size, 2, none⟩ = some (Value.int .i64 q.job.prio) := bq.cell 2
 have c3 : w0.cell? ⟨w.heap.size, 3, none⟩ = some (Value.int .i64 q.job.need) := bq.cell 3
 have c4 : w0.cell? ⟨w.heap.size, 4, none⟩ = some (Value.int .i64 q.job.tries) := bq.cell 4
 have c5 : w0.cell? ⟨w.heap.size, 5, none⟩ = some (Value.string q.job.tag) := bq.cell 5
 have c6 : w0.cell? ⟨w.heap.size, 6, none⟩ = some (Value.string q.node.name) := bq.cell 6
 have c7 : w0.cell? ⟨w.heap.size, 7, none⟩ = some (Value.int .i64 q.node.room) := bq.cell 7
 have c8 : w0.cell? ⟨w.heap.size, 8, none⟩ = some (Value.string q.node.zone) := bq.cell 8
 have c9 : w0.cell? ⟨w.heap.size, 9, none⟩ = some (Value.string q.lease.job) := bq.cell 9
 have c10 : w0.cell? ⟨w.heap.size, 10, none⟩ = some (Value.string q.lease.node) := bq.cell 10
 have c11 : w0.cell? ⟨w.heap.size, 11, none⟩ = some (Value.int .i64 q.lease.till) := bq.cell 11
 have c12 : w0.cell? ⟨w.heap.size, 12, none⟩ = some (Value.string q.name) := bq.cell 12
 have c13 : w0.cell? ⟨w.heap.size, 13, none⟩ = some (Value.int .i64 q.n) := bq.cell 13
 clear hw0 hb0 bq
 have hat : At w0 ⟨w.heap.size, 6, none⟩ (rlN q.node) := fun j v hv => by
  rcases j with _ | _ | _ | j
  ·injection hv with hv; subst hv; exact c6
  ·injection hv with hv; subst hv; exact c7
  ·injection hv with hv; subst hv; exact c8
  ·cases hv
 go_wp2_with (first | (refine uqb rfl _ _ rfl ⟨w.heap.size, 6, none⟩ rfl (rlN q.node) _ hat underlying64 rfl uqm ?_))
 go_ret
 exact ⟨w0.heap.size, rfl, by omega, bn, hB1⟩
theorem intoN (k : Int) (x : NodeD) (g h : Nat) (w : World) (bg : Blk w g 235 (rwN x)) (bq : Blk w h 68 (kqv k)) :
  Calls prog 312 #[.pointer (some ⟨g, 0, none⟩), .pointer (some ⟨h, 0, none⟩)] w fun e w' => e = .returned (.tuple #[]) ∧ Blk w' h 68 #[.int .i64 k, .string .empty, .int .i64 0, .int .i64 0, .int .i64 0, .string .empty, .string x.name, .int .i64 x.room, .string x.zone, .string .empty, .string .empty, .int .i64 0, .string .empty, .int .i64 0] ∧ w.grownBy w' (some h) := by
 have c0 : w.cell? ⟨g, 0, none⟩ = some (Value.string x.name) := bg.cell 0
 have c1 : w.cell? ⟨g, 1, none⟩ = some (Value.int .i64 x.room) := bg.cell 1
 have c2 : w.cell? ⟨g, 2, none⟩ = some (Value.string x.zone) := bg.cell 2
 have hq : w.heap[h]? = some (.cells ([Value.int .i64 k, Value.string .empty, Value.int .i64 0, Value.int .i64 0, Value.int .i64 0, Value.string .empty] ++ zlN ++ [Value.string .empty, Value.string .empty, Value.int .i64 0, Value.string .empty, Value.int .i64 0]).toArray 68 (0, 0)) := bq
 have hone : ∀ v ∈ ((rlN x) : List Value), v.oneCell' = true := by intro v hv; simp at hv; rcases hv with rfl | rfl | rfl | rfl | rfl <;> rfl
 go_enter func312, ntmps312
 go_wp2_with (first | (refine uqb rfl _ _ rfl ⟨g, 0, none⟩ rfl (rlN x) _ (At.blk bg) underlying64 rfl uqm ?_) | (refine uk0 (g := h) (t := 68) (A := [Value.int .i64 k, Value.string .empty, Value.int .i64 0, Value.int .i64 0, Value.int .i64 0, Value.string .empty]) (B := zlN) (R := [Value.string .empty, Value.string .empty, Value.int .i64 0, Value.string .empty, Value.int .i64 0]) (vs := (rlN x)) rfl _ _ _ rfl 6 rfl rfl hq rfl rfl uqm hone #[.int .i64 k, .string .empty, .int .i64 0, .int .i64 0, .int .i64 0, .string .empty, .string x.name, .int .i64 x.room, .string x.zone, .string .empty, .string .empty, .int .i64 0, .string .empty, .int .i64 0] rfl ?_))
 go_end0
 exact ⟨rfl, bq.setRow _, growR w h _⟩
theorem wjt (q : ReqD) (hkind : q.kind = 5) (w : World) :
  Calls prog 97 #[.agg (qv q)] w fun e w' => ∃ g, e = .returned (.iface 236 (.pointer (some ⟨g, 0, none⟩))) ∧ w.heap.size <= g ∧ Blk w' g 238 (rwL q.lease) ∧ Below w.heap.size w w' := by
 have hb0 : Below w.heap.size w (w.alloc (.cells (qv q) 68)) := (zri _ _).alloc (zra _) _
 have bq := Blk.new w 68 (qv q)
 have kk1 : (q.kind == (1 : Int)) = false := by rw [hkind]; rfl
 have kk2 : (q.kind == (2 : Int)) = false := by rw [hkind]; rfl
 have kk5 : (q.kind == (5 : Int)) = true := by rw [hkind]; rfl
 have kk3 : (q.kind == (3 : Int)) = false := by rw [hkind]; rfl
 have kk4 : (q.kind == (4 : Int)) = false := by rw [hkind]; rfl
 have kk6 : (q.kind == (6 : Int)) = false := by rw [hkind]; rfl
 have kk7 : (q.kind == (7 : Int)) = false := by rw [hkind]; rfl
 have kk8 : (q.kind == (8 : Int)) = false := by rw [hkind]; rfl
 have kk9 : (q.kind == (9 : Int)) = false := by rw [hkind]; rfl
 clear hkind
 go_enter func97, ntmps97
 go_upto_region 1 with fail
 generalize hw0 : w.alloc _ = w0 at *
 have hs0 : w.heap.size + 1 = w0.heap.size := by rw [<- hw0]; simp
 have hB1 : Below w.heap.size w (w0.alloc (.cells (rwL q.lease) 238)) := hb0.alloc (by omega) _
 have bn := Blk.new w0 238 (rwL q.lease)
 have c0 : w0.cell? ⟨w.heap.size, 0, none⟩ = some (Value.int .i64 q.kind) := bq.cell 0
 have c1 : w0.cell? ⟨w.heap.size, 1, none⟩ = some (Value.string q.job.name) := bq.cell 1
 have c2 : w0.cell? ⟨w.heap.size, 2, none⟩ = some (Value.int .i64 q.job.prio) := bq.cell 2
 have c3 : w0.cell? ⟨w.heap.size, 3, none⟩ = some (Value.int .i64 q.job.need) := bq.cell 3
 have c4 : w0.cell? ⟨w.heap.size, 4, none⟩ = some (Value.int .i64 q.job.tries) := bq.cell 4
 have c5 : w0.cell? ⟨w.heap.size, 5, none⟩ = some (Value.string q.job.tag) := bq.cell 5
 have c6 : w0.cell? ⟨w.heap.size, 6, none⟩ = some (Value.string q.node.name) := bq.cell 6
 have c7 : w0.cell? ⟨w.heap.size, 7, none⟩ = some (Value.int .i64 q.node.room) := bq.cell 7
 have c8 : w0.cell? ⟨w.heap.size, 8, none⟩ = some (Value.string q.node.zone) := bq.cell 8
 have c9 : w0.cell? ⟨w.heap.size, 9, none⟩ = some (Value.string q.lease.job) := bq.cell 9
 have c10 : w0.cell? ⟨w.heap.size, 10, none⟩ = some (Value.string q.lease.node) := bq.cell 10
 have c11 : w0.cell? ⟨w.heap.size, 11, none⟩ = some (Value.int .i64 q.lease.till) := bq.cell 11
 have c12 : w0.cell? ⟨w.heap.size, 12, none⟩ = some (Value.string q.name) := bq.cell 12
 have c13 : w0.cell? ⟨w.heap.size, 13, none⟩ = some (Value.int .i64 q.n) := bq.cell 13
 clear hw0 hb0 bq
 have hat : At w0 ⟨w.heap.size, 9, none⟩ (rlL q.lease) := fun j v hv => by
  rcases j with _ | _ | _ | j
  ·injection hv with hv; subst hv; exact c9
  ·injection hv with hv; subst hv; exact c10
  ·injection hv with hv; subst hv; exact c11
  ·cases hv
 go_wp2_with (first | (refine uqb rfl _ _ rfl ⟨w.heap.size, 9, none⟩ rfl (rlL q.lease) _ hat underlying66 rfl uqo ?_))
 go_ret
 exact ⟨w0.heap.size, rfl, by omega, bn, hB1⟩
theorem intoL (k : Int) (x : uqf) (g h : Nat) (w : World) (bg : Blk w g 238 (rwL x)) (bq : Blk w h 68 (kqv k)) :
  Calls prog 316 #[.pointer (some ⟨g, 0, none⟩), .pointer (some ⟨h, 0, none⟩)] w fun e w' => e = .returned (.tuple #[]) ∧ Blk w' h 68 #[.int .i64 k, .string .empty, .int .i64 0, .int .i64 0, .int .i64 0, .string .empty, .string .empty, .int .i64 0, .string .empty, .string x.job, .string x.node, .int .i64 x.till, .string .empty, .int .i64 0] ∧ w.grownBy w' (some h) := by
 have c0 : w.cell? ⟨g, 0, none⟩ = some (Value.string x.job) := bg.cell 0
 have c1 : w.cell? ⟨g, 1, none⟩ = some (Value.string x.node) := bg.cell 1
 have c2 : w.cell? ⟨g, 2, none⟩ = some (Value.int .i64 x.till) := bg.cell 2
 have hq : w.heap[h]? = some (.cells ([Value.int .i64 k, Value.string .empty, Value.int .i64 0, Value.int .i64 0, Value.int .i64 0, Value.string .empty, Value.string .empty, Value.int .i64 0, Value.string .empty] ++ zlL ++ [Value.string .empty, Value.int .i64 0]).toArray 68 (0, 0)) := bq
 have hone : ∀ v ∈ ((rlL x) : List Value), v.oneCell' = true := by intro v hv; simp at hv; rcases hv with rfl | rfl | rfl | rfl | rfl <;> rfl
 go_enter func316, ntmps316
 go_wp2_with (first | (refine uqb rfl _ _ rfl ⟨g, 0, none⟩ rfl (rlL x) _ (At.blk bg) underlying66 rfl uqo ?_) | (refine uk0 (g := h) (t := 68) (A := [Value.int .i64 k, Value.string .empty, Value.int .i64 0, Value.int .i64 0, Value.int .i64 0, Value.string .empty, Value.string .empty, Value.int .i64 0, Value.string .empty]) (B := zlL) (R := [Value.string .empty, Value.int .i64 0]) (vs := (rlL x)) rfl _ _ _ rfl 9 rfl rfl hq rfl rfl uqo hone #[.int .i64 k, .string .empty, .int .i64 0, .int .i64 0, .int .i64 0, .string .empty, .string .empty, .int .i64 0, .string .empty, .string x.job, .string x.node, .int .i64 x.till, .string .empty, .int .i64 0] rfl ?_))
 go_end0
 exact ⟨rfl, bq.setRow _, growR w h _⟩
theorem wvh (q : ReqD) (hkind : q.kind = 3) (w : World) :
  Calls prog 97 #[.agg (qv q)] w fun e w' => ∃ g, e = .returned (.iface 240 (.pointer (some ⟨g, 0, none⟩))) ∧ w.heap.size <= g ∧ Blk w' g 239 #[.string q.name] ∧ Below w.heap.size w w' := by
 have hb0 : Below w.heap.size w (w.alloc (.cells (qv q) 68)) := (zri _ _).alloc (zra _) _
 have bq := Blk.new w 68 (qv q)
 have kk1 : (q.kind == (1 : Int)) = false := by rw [hkind]; rfl
 have kk2 : (q.kind == (2 : Int)) = false := by rw [hkind]; rfl
 have kk5 : (q.kind == (5 : Int)) = false := by rw [hkind]; rfl
 have kk3 : (q.kind == (3 : Int)) = true := by rw [hkind]; rfl
 have kk4 : (q.kind == (4 : Int)) = false := by rw [hkind]; rfl
 have kk6 : (q.kind == (6 : Int)) = false := by rw [hkind]; rfl
 have kk7 : (q.kind == (7 : Int)) = false := by rw [hkind]; rfl
 have kk8 : (q.kind == (8 : Int)) = false := by rw [hkind]; rfl
 have kk9 : (q.kind == (9 : Int)) = false := by rw [hkind]; rfl
 clear hkind
 go_enter func97, ntmps97
 go_upto_region 1 with fail
 generalize hw0 : w.alloc _ = w0 at *
 have hs0 : w.heap.size + 1 = w0.heap.size := by rw [<- hw0]; simp
 have hB1 : Below w.heap.size w (w0.alloc (.cells #[.string q.name] 239)) := hb0.alloc (by omega) _
 have bn := Blk.new w0 239 #[.string q.name]
 have c0 : w0.cell? ⟨w.heap.size, 0, none⟩ = some (Value.int .i64 q.kind) := bq.cell 0
 have c1 : w0.cell? ⟨w.heap.size, 1, none⟩ = some (Value.string q.job.name) := bq.cell 1
 have c2 : w0.cell? ⟨w.heap.size, 2, none⟩ = some (Value.int .i64 q.job.prio) := bq.cell 2
 have c3 : w0.cell? ⟨w.heap.size, 3, none⟩ = some (Value.int .i64 q.job.need) := bq.cell 3
 have c4 : w0.cell? ⟨w.heap.size, 4, none⟩ = some (Value.int .i64 q.job.tries) := bq.cell 4
 have c5 : w0.cell? ⟨w.heap.size, 5, none⟩ = some (Value.string q.job.tag) := bq.cell 5
 have c6 : w0.cell? ⟨w.heap.size, 6, none⟩ = some (Value.string q.node.name) := bq.cell 6
 have c7 : w0.cell? ⟨w.heap.size, 7, none⟩ = some (Value.int .i64 q.node.room) := bq.cell 7
 have c8 : w0.cell? ⟨w.heap.size, 8, none⟩ = some (Value.string q.node.zone) := bq.cell 8
 have c9 : w0.cell? ⟨w.heap.size, 9, none⟩ = some (Value.string q.lease.job) := bq.cell 9
 have c10 : w0.cell? ⟨w.heap.size, 10, none⟩ = some (Value.string q.lease.node) := bq.cell 10
 have c11 : w0.cell? ⟨w.heap.size, 11, none⟩ = some (Value.int .i64 q.lease.till) := bq.cell 11
 have c12 : w0.cell? ⟨w.heap.size, 12, none⟩ = some (Value.string q.name) := bq.cell 12
 have c13 : w0.cell? ⟨w.heap.size, 13, none⟩ = some (Value.int .i64 q.n) := bq.cell 13
 clear hw0 hb0 bq
 go_wp2_with fail
 go_ret
 exact ⟨w0.heap.size, rfl, by omega, bn, hB1⟩
theorem wvi (q : ReqD) (hkind : q.kind = 4) (w : World) :
  Calls prog 97 #[.agg (qv q)] w fun e w' => ∃ g, e = .returned (.iface 240 (.pointer (some ⟨g, 0, none⟩))) ∧ w.heap.size <= g ∧ Blk w' g 239 #[.string q.name] ∧ Below w.heap.size w w' := by
 have hb0 : Below w.heap.size w (w.alloc (.cells (qv q) 68)) := (zri _ _).alloc (zra _) _
 have bq := Blk.new w 68 (qv q)
 have kk1 : (q.kind == (1 : Int)) = false := by rw [hkind]; rfl
 have kk2 : (q.kind == (2 : Int)) = false := by rw [hkind]; rfl
 have kk5 : (q.kind == (5 : Int)) = false := by rw [hkind]; rfl
 have kk3 : (q.kind == (3 : Int)) = false := by rw [hkind]; rfl
 have kk4 : (q.kind == (4 : Int)) = true := by rw [hkind]; rfl
 have kk6 : (q.kind == (6 : Int)) = false := by rw [hkind]; rfl
 have kk7 : (q.kind == (7 : Int)) = false := by rw [hkind]; rfl
 have kk8 : (q.kind == (8 : Int)) = false := by rw [hkind]; rfl
 have kk9 : (q.kind == (9 : Int)) = false := by rw [hkind]; rfl
 clear hkind
 go_enter func97, ntmps97
 go_upto_region 1 with fail
 generalize hw0 : w.alloc _ = w0 at *
 have hs0 : w.heap.size + 1 = w0.heap.size := by rw [<- hw0]; simp
 have hB1 : Below w.heap.size w (w0.alloc (.cells #[.string q.name] 239)) := hb0.alloc (by omega) _
 have bn := Blk.new w0 239 #[.string q.name]
 have c0 : w0.cell? ⟨w.heap.size, 0, none⟩ = some (Value.int .i64 q.kind) := bq.cell 0
 have c1 : w0.cell? ⟨w.heap.size, 1, none⟩ = some (Value.string q.job.name) := bq.cell 1
 have c2 : w0.cell? ⟨w.heap.size, 2, none⟩ = some (Value.int .i64 q.job.prio) := bq.cell 2
 have c3 : w0.cell? ⟨w.heap.size, 3, none⟩ = some (Value.int .i64 q.job.need) := bq.cell 3
 have c4 : w0.cell? ⟨w.heap.size, 4, none⟩ = some (Value.int .i64 q.job.tries) := bq.cell 4
 have c5 : w0.cell? ⟨w.heap.size, 5, none⟩ = some (Value.string q.job.tag) := bq.cell 5
 have c6 : w0.cell? ⟨w.heap.size, 6, none⟩ = some (Value.string q.node.name) := bq.cell 6
 have c7 : w0.cell? ⟨w.heap.size, 7, none⟩ = some (Value.int .i64 q.node.room) := bq.cell 7
 have c8 : w0.cell? ⟨w.heap.size, 8, none⟩ = some (Value.string q.node.zone) := bq.cell 8
 have c9 : w0.cell? ⟨w.heap.size, 9, none⟩ = some (Value.string q.lease.job) := bq.cell 9
 have c10 : w0.cell? ⟨w.heap.size, 10, none⟩ = some (Value.string q.lease.node) := bq.cell 10
 have c11 : w0.cell? ⟨w.heap.size, 11, none⟩ = some (Value.int .i64 q.lease.till) := bq.cell 11
 have c12 : w0.cell? ⟨w.heap.size, 12, none⟩ = some (Value.string q.name) := bq.cell 12
 have c13 : w0.cell? ⟨w.heap.size, 13, none⟩ = some (Value.int .i64 q.n) := bq.cell 13
 clear hw0 hb0 bq
 go_wp2_with fail
 go_ret
 exact ⟨w0.heap.size, rfl, by omega, bn, hB1⟩
theorem wvj (q : ReqD) (hkind : q.kind = 6) (w : World) :
  Calls prog 97 #[.agg (qv q)] w fun e w' => ∃ g, e = .returned (.iface 240 (.pointer (some ⟨g, 0, none⟩))) ∧ w.heap.size <= g ∧ Blk w' g 239 #[.string q.name] ∧ Below w.heap.size w w' := by
 have hb0 : Below w.heap.size w (w.alloc (.cells (qv q) 68)) := (zri _ _).alloc (zra _) _
 have bq := Blk.new w 68 (qv q)
 have kk1 : (q.kind == (1 : Int)) = false := by rw [hkind]; rfl
 have kk2 : (q.kind == (2 : Int)) = false := by rw [hkind]; rfl
 have kk5 : (q.kind == (5 : Int)) = false := by rw [hkind]; rfl
 have kk3 : (q.kind == (3 : Int)) = false := by rw [hkind]; rfl
 have kk4 : (q.kind == (4 : Int)) = false := by rw [hkind]; rfl
 have kk6 : (q.kind == (6 : Int)) = true := by rw [hkind]; rfl
 have kk7 : (q.kind == (7 : Int)) = false := by rw [hkind]; rfl
 have kk8 : (q.kind == (8 : Int)) = false := by rw [hkind]; rfl
 have kk9 : (q.kind == (9 : Int)) = false := by rw [hkind]; rfl
 clear hkind
 go_enter func97, ntmps97
 go_upto_region 1 with fail
 generalize hw0 : w.alloc _ = w0 at *
 have hs0 : w.heap.size + 1 = w0.heap.size := by rw [<- hw0]; simp
 have hB1 : Below w.heap.size w (w0.alloc (.cells #[.string q.name] 239)) := hb0.alloc (by omega) _
 have bn := Blk.new w0 239 #[.string q.name]
 have c0 : w0.cell? ⟨w.heap.size, 0, none⟩ = some (Value.int .i64 q.kind) := bq.cell 0
 have c1 : w0.cell? ⟨w.heap.size, 1, none⟩ = some (Value.string q.job.name) := bq.cell 1
 have c2 : w0.cell? ⟨w.heap.size, 2, none⟩ = some (Value.int .i64 q.job.prio) := bq.cell 2
 have c3 : w0.cell? ⟨w.heap.size, 3, none⟩ = some (Value.int .i64 q.job.need) := bq.cell 3
 have c4 : w0.cell? ⟨w.heap.size, 4, none⟩ = some (Value.int .i64 q.job.tries) := bq.cell 4
 have c5 : w0.cell? ⟨w.heap.size, 5, none⟩ = some (Value.string q.job.tag) := bq.cell 5
 have c6 : w0.cell? ⟨w.heap.size, 6, none⟩ = some (Value.string q.node.name) := bq.cell 6
 have c7 : w0.cell? ⟨w.heap.size, 7, none⟩ = some (Value.int .i64 q.node.room) := bq.cell 7
 have c8 : w0.cell? ⟨w.heap.size, 8, none⟩ = some (Value.string q.node.zone) := bq.cell 8
 have c9 : w0.cell? ⟨w.heap.size, 9, none⟩ = some (Value.string q.lease.job) := bq.cell 9
 have c10 : w0.cell? ⟨w.heap.size, 10, none⟩ = some (Value.string q.lease.node) := bq.cell 10
 have c11 : w0.cell? ⟨w.heap.size, 11, none⟩ = some (Value.int .i64 q.lease.till) := bq.cell 11
 have c12 : w0.cell? ⟨w.heap.size, 12, none⟩ = some (Value.string q.name) := bq.cell 12
 have c13 : w0.cell? ⟨w.heap.size, 13, none⟩ = some (Value.int .i64 q.n) := bq.cell 13
 clear hw0 hb0 bq
 go_wp2_with fail
 go_ret
 exact ⟨w0.heap.size, rfl, by omega, bn, hB1⟩
theorem intoS (k : Int) (x : ByteArray) (g h : Nat) (w : World) (bg : Blk w g 239 #[.string x]) (bq : Blk w h 68 (kqv k)) :
  Calls prog 320 #[.pointer (some ⟨g, 0, none⟩), .pointer (some ⟨h, 0, none⟩)] w fun e w' => e = .returned (.tuple #[]) ∧ Blk w' h 68 #[.int .i64 k, .string .empty, .int .i64 0, .int .i64 0, .int .i64 0, .string .empty, .string .empty, .int .i64 0, .string .empty, .string .empty, .string .empty, .int .i64 0, .string x, .int .i64 0] ∧ w.grownBy w' (some h) := by
 have c0 : w.cell? ⟨g, 0, none⟩ = some (Value.string x) := bg.cell 0
 have c9 : w.cell? ⟨h, 12, none⟩ = some (Value.string .empty) := bq.cell 12
 have f9 : w.frozen? ⟨h, 12, none⟩ = false := bq.frozen 12
 go_enter func320, ntmps320
 go_wp2_with fail
 go_end0
 exact ⟨rfl, bq.set_ 12 _, uza w h 12 _⟩
theorem wjr (q : ReqD) (hkind : q.kind = 7) (w : World) :
  Calls prog 97 #[.agg (qv q)] w fun e w' => ∃ g, e = .returned (.iface 242 (.pointer (some ⟨g, 0, none⟩))) ∧ w.heap.size <= g ∧ Blk w' g 241 #[.int .i64 q.n] ∧ Below w.heap.size w w' := by
 have hb0 : Below w.heap.size w (w.alloc (.cells (qv q) 68)) := (zri _ _).alloc (zra _) _
 have bq := Blk.new w 68 (qv q)
 have kk1 : (q.kind == (1 : Int)) = false := by rw [hkind]; rfl
 have kk2 : (q.kind == (2 : Int)) = false := by rw [hkind]; rfl
 have kk5 : (q.kind == (5 : Int)) = false := by rw [hkind]; rfl
 have kk3 : (q.kind == (3 : Int)) = false := by rw [hkind]; rfl
 have kk4 : (q.kind == (4 : Int)) = false := by rw [hkind]; rfl
 have kk6 : (q.kind == (6 : Int)) = false := by rw [hkind]; rfl
 have kk7 : (q.kind == (7 : Int)) = true := by rw [hkind]; rfl
 have kk8 : (q.kind == (8 : Int)) = false := by rw [hkind]; rfl
 have kk9 : (q.kind == (9 : Int)) = false := by rw [hkind]; rfl
 clear hkind
 go_enter func97, ntmps97
 go_upto_region 1 with fail
 generalize hw0 : w.alloc _ = w0 at *
 have hs0 : w.heap.size + 1 = w0.heap.size := by rw [<- hw0]; simp
 have hB1 : Below w.heap.size w (w0.alloc (.cells #[.int .i64 q.n] 241)) := hb0.alloc (by omega) _
 have bn := Blk.new w0 241 #[.int .i64 q.n]
 have c0 : w0.cell? ⟨w.heap.size, 0, none⟩ = some (Value.int .i64 q.kind) := bq.cell 0
 have c1 : w0.cell? ⟨w.heap.size, 1, none⟩ = some (Value.string q.job.name) := bq.cell 1
 have c2 : w0.cell? ⟨w.heap.size, 2, none⟩ = some (Value.int .i64 q.job.prio) := bq.cell 2
 have c3 : w0.cell? ⟨w.heap.size, 3, none⟩ = some (Value.int .i64 q.job.need) := bq.cell 3
 have c4 : w0.cell? ⟨w.heap.size, 4, none⟩ = some (Value.int .i64 q.job.tries) := bq.cell 4
 have c5 : w0.cell? ⟨w.heap.size, 5, none⟩ = some (Value.string q.job.tag) := bq.cell 5
 have c6 : w0.cell? ⟨w.heap.size, 6, none⟩ = some (Value.string q.node.name) := bq.cell 6
 have c7 : w0.cell? ⟨w.heap.size, 7, none⟩ = some (Value.int .i64 q.node.room) := bq.cell 7
 have c8 : w0.cell? ⟨w.heap.size, 8, none⟩ = some (Value.string q.node.zone) := bq.cell 8
 have c9 : w0.cell? ⟨w.heap.size, 9, none⟩ = some (Value.string q.lease.job) := bq.cell 9
 have c10 : w0.cell? ⟨w.heap.size, 10, none⟩ = some (Value.string q.lease.node) := bq.cell 10
 have c11 : w0.cell? ⟨w.heap.size, 11, none⟩ = some (Value.int .i64 q.lease.till) := bq.cell 11
 have c12 : w0.cell? ⟨w.heap.size, 12, none⟩ = some (Value.string q.name) := bq.cell 12
 have c13 : w0.cell? ⟨w.heap.size, 13, none⟩ = some (Value.int .i64 q.n) := bq.cell 13
 clear hw0 hb0 bq
 go_wp2_with fail
 go_ret
 exact ⟨w0.heap.size, rfl, by omega, bn, hB1⟩
theorem intoC (k : Int) (x : Int) (g h : Nat) (w : World) (bg : Blk w g 241 #[.int .i64 x]) (bq : Blk w h 68 (kqv k)) :
  Calls prog 324 #[.pointer (some ⟨g, 0, none⟩), .pointer (some ⟨h, 0, none⟩)] w fun e w' => e = .returned (.tuple #[]) ∧ Blk w' h 68 #[.int .i64 k, .string .empty, .int .i64 0, .int .i64 0, .int .i64 0, .string .empty, .string .empty, .int .i64 0, .string .empty, .string .empty, .string .empty, .int .i64 0, .string .empty, .int .i64 x] ∧ w.grownBy w' (some h) := by
 have c0 : w.cell? ⟨g, 0, none⟩ = some (Value.int .i64 x) := bg.cell 0
 have c9 : w.cell? ⟨h, 13, none⟩ = some (Value.int .i64 0) := bq.cell 13
 have f9 : w.frozen? ⟨h, 13, none⟩ = false := bq.frozen 13
 go_enter func324, ntmps324
 go_wp2_with fail
 go_end0
 exact ⟨rfl, bq.set_ 13 _, uza w h 13 _⟩
theorem uvl {B g : Nat} {a b c : World} (h : Below B a b) (hg : b.grownBy c (some g)) (hB : B <= g) (hs : B <= b.heap.size) : Below B a c :=
 h.trans ⟨hg.os, hg.tape, hg.output, hg.size, fun k hk => hg.block k (by omega) (by intro e; injection e with e; omega)⟩
theorem vj8 (x : Int) (w : World) :
  Calls prog 220 #[.int .i64 x] w fun e w' => e = .returned (.bool (decide (0 <= x) && decide (x <= 1099511627776))) ∧ w = w' := by
 by_cases h1 : 0 <= x
 ·go_enter func220, ntmps220
  go_wp2_with fail
  go_ret
  exact ⟨congrArg (fun b => Ending.returned (.bool b)) (by simp [h1]), rfl⟩
 ·have h1' : x < 0 := by omega
  go_enter func220, ntmps220
  go_wp2_with fail
  all_goals go_ret
  all_goals exact ⟨congrArg (fun b => Ending.returned (.bool b)) (by simp; omega), rfl⟩
theorem intoZ (v : Value) (w : World) : Calls prog 328 #[.agg #[], v] w fun e w' => e = .returned (.tuple #[]) ∧ Below w.heap.size w w' := by
 go_enter func328, ntmps328
 go_wp2_with fail
 go_end0
 exact ⟨rfl, (zri _ _).alloc (zra _) _⟩
theorem checkZ (w : World) : Calls prog 327 #[.agg #[]] w fun e w' => e = .returned (.int .i64 0) ∧ Below w.heap.size w w' := by
 go_enter func327, ntmps327
 go_wp2_with fail
 go_ret
 exact ⟨rfl, (zri _ _).alloc (zra _) _⟩
theorem wholeJ (k : Int) (x : JobD) (g : Nat) (w : World) (bg : Blk w g 232 (rwJ x)) :
  Calls prog 150 #[.int .i64 k, .iface 230 (.pointer (some ⟨g, 0, none⟩))] w fun e w' => e = .returned (.agg #[.int .i64 k, .string x.name, .int .i64 x.prio, .int .i64 x.need, .int .i64 x.tries, .string x.tag, .string .empty, .int .i64 0, .string .empty, .string .empty, .string .empty, .int .i64 0, .string .empty, .int .i64 0]) ∧ Below w.heap.size w w' := by
 have hzd := uq6
 have hb1 := (zri w.heap.size w).alloc (zra _) (.cells (kqv 0) 68)
 have hs1 : (w.alloc (.cells (kqv 0) 68)).heap.size = w.heap.size + 1 := by simp
 have hb2 := hb1.alloc (by omega) (.cells (kqv k) 68)
 have bg2 := bg.below hb2 bg.lt
 have br2 := (Blk.new w 68 (kqv 0)).alloc (.cells (kqv k) 68)
 have bq2 := Blk.new (w.alloc (.cells (kqv 0) 68)) 68 (kqv k)
 rw [hs1] at bq2
 go_enter func150, ntmps150
 go_wp2_with (first | (refine uqd rfl _ _ _ rfl rfl _ _ (kqv k) rfl uqe rfl (by simp [Value.oneCell']) ?_))
 generalize (w.alloc _).alloc _ = w2 at *
 refine (intoJ k x g (w.heap.size + 1) w2 bg2 bq2).mono ?_
 rintro e w3 ⟨rfl, bq3, hg3⟩
 have br3 := GrB.blk hg3 br2 (Nat.ne_of_lt (Nat.lt_succ_self _))
 have hb3 := uvl hb2 hg3 (Nat.le_succ _) hb2.size
 clear hb2 br2 bq2 bg2 bg hb1 hs1 hg3
 go_wp2_with (first
  | (refine uqa rfl _ _ rfl (w.heap.size + 1) rfl _ _ bq3 _ underlying68 rfl uqe ?_)
  | (refine uqc rfl _ _ _ rfl w.heap.size rfl _ _ #[.int .i64 k, .string x.name, .int .i64 x.prio, .int .i64 x.need, .int .i64 x.tries, .string x.tag, .string .empty, .int .i64 0, .string .empty, .string .empty, .string .empty, .int .i64 0, .string .empty, .int .i64 0] br3 rfl uqe rfl (by simp [Value.oneCell']) ?_))
 refine bodyPost_ret (uq4 rfl _ rfl (br3.setRow #[.int .i64 k, .string x.name, .int .i64 x.prio, .int .i64 x.need, .int .i64 x.tries, .string x.tag, .string .empty, .int .i64 0, .string .empty, .string .empty, .string .empty, .int .i64 0, .string .empty, .int .i64 0]) underlying68 rfl uqe) rfl ?_
 exact ⟨rfl, uqh hb3 (zra _) _⟩
theorem wholeN (k : Int) (x : NodeD) (g : Nat) (w : World) (bg : Blk w g 235 (rwN x)) :
  Calls prog 150 #[.int .i64 k, .iface 233 (.pointer (some ⟨g, 0, none⟩))] w fun e w' => e = .returned (.agg #[.int .i64 k, .string .empty, .int .i64 0, .int .i64 0, .int .i64 0, .string .empty, .string x.name, .int .i64 x.room, .string x.zone, .string .empty, .string .empty, .int .i64 0, .string .empty, .int .i64 0]) ∧ Below w.heap.size w w' := by
 have hzd := uq6
 have hb1 := (zri w.heap.size w).alloc (zra _) (.cells (kqv 0) 68)
 have hs1 : (w.alloc (.cells (kqv 0) 68)).heap.size = w.heap.size + 1 := by simp
 have hb2 := hb1.alloc (by omega) (.cells (kqv k) 68)
 have bg2 := bg.below hb2 bg.lt
 have br2 := (Blk.new w 68 (kqv 0)).alloc (.cells (kqv k) 68)
 have bq2 := Blk.new (w.alloc (.cells (kqv 0) 68)) 68 (kqv k)
 rw [hs1] at bq2
 go_enter func150, ntmps150
 go_wp2_with (first | (refine uqd rfl _ _ _ rfl rfl _ _ (kqv k) rfl uqe rfl (by simp [Value.oneCell']) ?_))
 generalize (w.alloc _).alloc _ = w2 at *
 refine (intoN k x g (w.heap.size + 1) w2 bg2 bq2).mono ?_
 rintro e w3 ⟨rfl, bq3, hg3⟩
 have br3 := GrB.blk hg3 br2 (Nat.ne_of_lt (Nat.lt_succ_self _))
 have hb3 := uvl hb2 hg3 (Nat.le_succ _) hb2.size
 clear hb2 br2 bq2 bg2 bg hb1 hs1 hg3
 go_wp2_with (first
  | (refine uqa rfl _ _ rfl (w.heap.size + 1) rfl _ _ bq3 _ underlying68 rfl uqe ?_)
  | (refine uqc rfl _ _ _ rfl w.heap.size rfl _ _ #[.int .i64 k, .string .empty, .int .i64 0, .int .i64 0, .int .i64 0, .string .empty, .string x.name, .int .i64 x.room, .string x.zone, .string .empty, .string .empty, .int .i64 0, .string .empty, .int .i64 0] br3 rfl uqe rfl (by simp [Value.oneCell']) ?_))
 refine bodyPost_ret (uq4 rfl _ rfl (br3.setRow #[.int .i64 k, .string .empty, .int .i64 0, .int .i64 0, .int .i64 0, .string .empty, .string x.name, .int .i64 x.room, .string x.zone, .string .empty, .string .empty, .int .i64 0, .string .empty, .int .i64 0]) underlying68 rfl uqe) rfl ?_
 exact ⟨rfl, uqh hb3 (zra _) _⟩
theorem wholeL (k : Int) (x : uqf) (g : Nat) (w : World) (bg : Blk w g 238 (rwL x)) :
  Calls prog 150 #[.int .i64 k, .iface 236 (.pointer (some ⟨g, 0, none⟩))] w fun e w' => e = .returned (.agg #[.int .i64 k, .string .empty, .int .i64 0, .int .i64 0, .int .i64 0, .string .empty, .string .empty, .int .i64 0, .string .empty, .string x.job, .string x.node, .int .i64 x.till, .string .empty, .int .i64 0]) ∧ Below w.heap.size w w' := by
 have hzd := uq6
 have hb1 := (zri w.heap.size w).alloc (zra _) (.cells (kqv 0) 68)
 have hs1 : (w.alloc (.cells (kqv 0) 68)).heap.size = w.heap.size + 1 := by simp
 have hb2 := hb1.alloc (by omega) (.cells (kqv k) 68)
 have bg2 := bg.below hb2 bg.lt
 have br2 := (Blk.new w 68 (kqv 0)).alloc (.cells (kqv k) 68)
 have bq2 := Blk.new (w.alloc (.cells (kqv 0) 68)) 68 (kqv k)
 rw [hs1] at bq2
 go_enter func150, ntmps150
 go_wp2_with (first | (refine uqd rfl _ _ _ rfl rfl _ _ (kqv k) rfl uqe rfl (by simp [Value.oneCell']) ?_))
 generalize (w.alloc _).alloc _ = w2 at *
 refine (intoL k x g (w.heap.size + 1) w2 bg2 bq2).mono ?_
 rintro e w3 ⟨rfl, bq3, hg3⟩
 have br3 := GrB.blk hg3 br2 (Nat.ne_of_lt (Nat.lt_succ_self _))
 have hb3 := uvl hb2 hg3 (Nat.le_succ _) hb2.size
 clear hb2 br2 bq2 bg2 bg hb1 hs1 hg3
 go_wp2_with (first
  | (refine uqa rfl _ _ rfl (w.heap.size + 1) rfl _ _ bq3 _ underlying68 rfl uqe ?_)
  | (refine uqc rfl _ _ _ rfl w.heap.size rfl _ _ #[.int .i64 k, .string .empty, .int .i64 0, .int .i64 0, .int .i64 0, .string .empty, .string .empty, .int .i64 0, .string .empty, .string x.job, .string x.node, .int .i64 x.till, .string .empty, .int .i64 0] br3 rfl uqe rfl (by simp [Value.oneCell']) ?_))
 refine bodyPost_ret (uq4 rfl _ rfl (br3.setRow #[.int .i64 k, .string .empty, .int .i64 0, .int .i64 0, .int .i64 0, .string .empty, .string .empty, .int .i64 0, .string .empty, .string x.job, .string x.node, .int .i64 x.till, .string .empty, .int .i64 0]) underlying68 rfl uqe) rfl ?_
 exact ⟨rfl, uqh hb3 (zra _) _⟩
theorem wholeS (k : Int) (x : ByteArray) (g : Nat) (w : World) (bg : Blk w g 239 #[.string x]) :
  Calls prog 150 #[.int .i64 k, .iface 240 (.pointer (some ⟨g, 0, none⟩))] w fun e w' => e = .returned (.agg #[.int .i64 k, .string .empty, .int .i64 0, .int .i64 0, .int .i64 0, .string .empty, .string .empty, .int .i64 0, .string .empty, .string .empty, .string .empty, .int .i64 0, .string x, .int .i64 0]) ∧ Below w.heap.size w w' := by
 have hzd := uq6
 have hb1 := (zri w.heap.size w).alloc (zra _) (.cells (kqv 0) 68)
 have hs1 : (w.alloc (.cells (kqv 0) 68)).heap.size = w.heap.size + 1 := by simp
 have hb2 := hb1.alloc (by omega) (.cells (kqv k) 68)
 have bg2 := bg.below hb2 bg.lt
 have br2 := (Blk.new w 68 (kqv 0)).alloc (.cells (kqv k) 68)
 have bq2 := Blk.new (w.alloc (.cells (kqv 0) 68)) 68 (kqv k)
 rw [hs1] at bq2
 go_enter func150, ntmps150
 go_wp2_with (first | (refine uqd rfl _ _ _ rfl rfl _ _ (kqv k) rfl uqe rfl (by simp [Value.oneCell']) ?_))
 generalize (w.alloc _).alloc _ = w2 at *
 refine (intoS k x g (w.heap.size + 1) w2 bg2 bq2).mono ?_
 rintro e w3 ⟨rfl, bq3, hg3⟩
 have br3 := GrB.blk hg3 br2 (Nat.ne_of_lt (Nat.lt_succ_self _))
 have hb3 := uvl hb2 hg3 (Nat.le_succ _) hb2.size
 clear hb2 br2 bq2 bg2 bg hb1 hs1 hg3
 go_wp2_with (first
  | (refine uqa rfl _ _ rfl (w.heap.size + 1) rfl _ _ bq3 _ underlying68 rfl uqe ?_)
  | (refine uqc rfl _ _ _ rfl w.heap.size rfl _ _ #[.int .i64 k, .string .empty, .int .i64 0, .int .i64 0, .int .i64 0, .string .empty, .string .empty, .int .i64 0, .string .empty, .string .empty, .string .empty, .int .i64 0, .string x, .int .i64 0] br3 rfl uqe rfl (by simp [Value.oneCell']) ?_))
 refine bodyPost_ret (uq4 rfl _ rfl (br3.setRow #[.int .i64 k, .string .empty, .int .i64 0, .int .i64 0, .int .i64 0, .string .empty, .string .empty, .int .i64 0, .string .empty, .string .empty, .string .empty, .int .i64 0, .string x, .int .i64 0]) underlying68 rfl uqe) rfl ?_
 exact ⟨rfl, uqh hb3 (zra _) _⟩
theorem wholeC (k : Int) (x : Int) (g : Nat) (w : World) (bg : Blk w g 241 #[.int .i64 x]) :
  Calls prog 150 #[.int .i64 k, .iface 242 (.pointer (some ⟨g, 0, none⟩))] w fun e w' => e = .returned (.agg #[.int .i64 k, .string .empty, .int .i64 0, .int .i64 0, .int .i64 0, .string .empty, .string .empty, .int .i64 0, .string .empty, .string .empty, .string .empty, .int .i64 0, .string .empty, .int .i64 x]) ∧ Below w.heap.size w w' := by
 have hzd := uq6
 have hb1 := (zri w.heap.size w).alloc (zra _) (.cells (kqv 0) 68)
 have hs1 : (w.alloc (.cells (kqv 0) 68)).heap.size = w.heap.size + 1 := by simp
 have hb2 := hb1.alloc (by omega) (.cells (kqv k) 68)
 have bg2 := bg.below hb2 bg.lt
 have br2 := (Blk.new w 68 (kqv 0)).alloc (.cells (kqv k) 68)
 have bq2 := Blk.new (w.alloc (.cells (kqv 0) 68)) 68 (kqv k)
 rw [hs1] at bq2
 go_enter func150, ntmps150
 go_wp2_with (first | (refine uqd rfl _ _ _ rfl rfl _ _ (kqv k) rfl uqe rfl (by simp [Value.oneCell']) ?_))
 generalize (w.alloc _).alloc _ = w2 at *
 refine (intoC k x g (w.heap.size + 1) w2 bg2 bq2).mono ?_
 rintro e w3 ⟨rfl, bq3, hg3⟩
 have br3 := GrB.blk hg3 br2 (Nat.ne_of_lt (Nat.lt_succ_self _))
 have hb3 := uvl hb2 hg3 (Nat.le_succ _) hb2.size
 clear hb2 br2 bq2 bg2 bg hb1 hs1 hg3
 go_wp2_with (first
  | (refine uqa rfl _ _ rfl (w.heap.size + 1) rfl _ _ bq3 _ underlying68 rfl uqe ?_)
  | (refine uqc rfl _ _ _ rfl w.heap.size rfl _ _ #[.int .i64 k, .string .empty, .int .i64 0, .int .i64 0, .int .i64 0, .string .empty, .string .empty, .int .i64 0, .string .empty, .string .empty, .string .empty, .int .i64 0, .string .empty, .int .i64 x] br3 rfl uqe rfl (by simp [Value.oneCell']) ?_))
 refine bodyPost_ret (uq4 rfl _ rfl (br3.setRow #[.int .i64 k, .string .empty, .int .i64 0, .int .i64 0, .int .i64 0, .string .empty, .string .empty, .int .i64 0, .string .empty, .string .empty, .string .empty, .int .i64 0, .string .empty, .int .i64 x]) underlying68 rfl uqe) rfl ?_
 exact ⟨rfl, uqh hb3 (zra _) _⟩
theorem wholeZ (k : Int) (w : World) :
  Calls prog 150 #[.int .i64 k, .iface 244 (.agg #[])] w fun e w' => e = .returned (.agg (kqv k)) ∧ Below w.heap.size w w' := by
 have hzd := uq6
 have hb1 := (zri w.heap.size w).alloc (zra _) (.cells (kqv 0) 68)
 have hs1 : (w.alloc (.cells (kqv 0) 68)).heap.size = w.heap.size + 1 := by simp
 have hb2 := hb1.alloc (by omega) (.cells (kqv k) 68)
 have br2 := (Blk.new w 68 (kqv 0)).alloc (.cells (kqv k) 68)
 have bq2 := Blk.new (w.alloc (.cells (kqv 0) 68)) 68 (kqv k)
 rw [hs1] at bq2
 go_enter func150, ntmps150
 go_wp2_with (first | (refine uqd rfl _ _ _ rfl rfl _ _ (kqv k) rfl uqe rfl (by simp [Value.oneCell']) ?_))
 generalize (w.alloc _).alloc _ = w2 at *
 refine (intoZ (.pointer (some ⟨w.heap.size + 1, 0, none⟩)) w2).mono ?_
 rintro e w3 ⟨rfl, hb⟩
 have br3 := br2.below hb br2.lt
 have bq3 := bq2.below hb bq2.lt
 have hb3 := hb2.trans (hb.mono hb2.size)
 clear hb2 br2 bq2 hb1 hs1 hb
 go_wp2_with (first
  | (refine uqa rfl _ _ rfl (w.heap.size + 1) rfl _ _ bq3 _ underlying68 rfl uqe ?_)
  | (refine uqc rfl _ _ _ rfl w.heap.size rfl _ _ (kqv k) br3 rfl uqe rfl (by simp [Value.oneCell']) ?_))
 refine bodyPost_ret (uq4 rfl _ rfl (br3.setRow (kqv k)) underlying68 rfl uqe) rfl ?_
 exact ⟨rfl, uqh hb3 (zra _) _⟩
def nameC (s : ByteArray) : Nat := if uq9 s = true then 0 else 4
def wqm (n : Int) : Nat := if uq8 n 0 1099511627776 = true then 0 else 1
theorem checkJ (x : JobD) (g : Nat) (w : World) (bg : Blk w g 232 (rwJ x)) (h0 : x.name.size <= 9223372036854775807) (h1 : x.tag.size <= 9223372036854775807) (hT : Tabs w) :
  Calls prog 307 #[.pointer (some ⟨g, 0, none⟩)] w fun e w' => e = .returned (.int .i64 (jobE x : Nat)) ∧ Below w.heap.size w w' := by
 have c0 : w.cell? ⟨g, 0, none⟩ = some (Value.string x.name) := bg.cell 0
 have c1 : w.cell? ⟨g, 1, none⟩ = some (Value.int .i64 x.prio) := bg.cell 1
 have c2 : w.cell? ⟨g, 2, none⟩ = some (Value.int .i64 x.need) := bg.cell 2
 have c3 : w.cell? ⟨g, 3, none⟩ = some (Value.int .i64 x.tries) := bg.cell 3
 have c4 : w.cell? ⟨g, 4, none⟩ = some (Value.string x.tag) := bg.cell 4
 have HC := zrj (vzj x w h0 h1 hT)
 go_enter func307, ntmps307
 go_wp2_with (first | (refine uqb rfl _ _ rfl ⟨g, 0, none⟩ rfl (rlJ x) _ (At.blk bg) underlying62 rfl uqp ?_))
 refine HC.out.mono ?_
 rintro e w1 ⟨rfl, hb1⟩
 go_wp2_with fail
 go_ret
 exact ⟨rfl, hb1⟩
theorem checkN (x : NodeD) (g : Nat) (w : World) (bg : Blk w g 235 (rwN x)) (h0 : x.name.size <= 9223372036854775807) (h1 : x.zone.size <= 9223372036854775807) (hT : Tabs w) :
  Calls prog 311 #[.pointer (some ⟨g, 0, none⟩)] w fun e w' => e = .returned (.int .i64 (nodeE x : Nat)) ∧ Below w.heap.size w w' := by
 have c0 : w.cell? ⟨g, 0, none⟩ = some (Value.string x.name) := bg.cell 0
 have c1 : w.cell? ⟨g, 1, none⟩ = some (Value.int .i64 x.room) := bg.cell 1
 have c2 : w.cell? ⟨g, 2, none⟩ = some (Value.string x.zone) := bg.cell 2
 have HC := zrj (vq2 x w h0 h1 hT)
 go_enter func311, ntmps311
 go_wp2_with (first | (refine uqb rfl _ _ rfl ⟨g, 0, none⟩ rfl (rlN x) _ (At.blk bg) underlying64 rfl uqm ?_))
 refine HC.out.mono ?_
 rintro e w1 ⟨rfl, hb1⟩
 go_wp2_with fail
 go_ret
 exact ⟨rfl, hb1⟩
theorem checkL (x : uqf) (g : Nat) (w : World) (bg : Blk w g 238 (rwL x)) (h0 : x.job.size <= 9223372036854775807) (h1 : x.node.size <= 9223372036854775807) (hT : Tabs w) :
  Calls prog 315 #[.pointer (some ⟨g, 0, none⟩)] w fun e w' => e = .returned (.int .i64 (uxz x : Nat)) ∧ Below w.heap.size w w' := by
 have c0 : w.cell? ⟨g, 0, none⟩ = some (Value.string x.job) := bg.cell 0
 have c1 : w.cell? ⟨g, 1, none⟩ = some (Value.string x.node) := bg.cell 1
 have c2 : w.cell? ⟨g, 2, none⟩ = some (Value.int .i64 x.till) := bg.cell 2
 have HC := zrj (uzw x.job w h0 hT)
 have HD := zrj (fun W (hW : Below w.heap.size w W) => uzw x.node W h1 (hT.below hW))
 have HI := zrj (fun W => vj8 x.till W)
 unfold uxz
 have HW := zrj (show uq8 x.till 0 1099511627776 = (decide (0 <= x.till) && decide (x.till <= 1099511627776)) from rfl)
 rw [HW.out]
 generalize (decide (0 <= x.till) && decide (x.till <= 1099511627776)) = b3 at *
 generalize uq9 x.job = b1 at *
 generalize uq9 x.node = b2 at *
 clear hT HW
 go_enter func315, ntmps315
 go_wp2_with fail
 refine HC.out.mono ?_
 rintro e w1 ⟨rfl, hb1⟩
 have bg1 := bg.below hb1 bg.lt
 have d0 : w1.cell? ⟨g, 0, none⟩ = some (Value.string x.job) := bg1.cell 0
 have d1 : w1.cell? ⟨g, 1, none⟩ = some (Value.string x.node) := bg1.cell 1
 have d2 : w1.cell? ⟨g, 2, none⟩ = some (Value.int .i64 x.till) := bg1.cell 2
 cases b1
 ·go_wp2_with fail
  go_ret
  exact ⟨rfl, hb1⟩
 go_wp2_with fail
 refine (HD.out w1 hb1).mono ?_
 rintro e w2 ⟨rfl, hb2⟩
 have hB2 := hb1.trans (hb2.mono hb1.size)
 have bg2 := bg1.below hb2 bg1.lt
 have e0 : w2.cell? ⟨g, 0, none⟩ = some (Value.string x.job) := bg2.cell 0
 have e1 : w2.cell? ⟨g, 1, none⟩ = some (Value.string x.node) := bg2.cell 1
 have e2 : w2.cell? ⟨g, 2, none⟩ = some (Value.int .i64 x.till) := bg2.cell 2
 cases b2
 ·go_wp2_with fail
  go_ret
  exact ⟨rfl, hB2⟩
 go_wp2_with fail
 refine (HI.out w2).mono ?_
 rintro e w3 ⟨rfl, rfl⟩
 cases b3
 ·go_wp2_with fail
  go_ret
  exact ⟨rfl, hB2⟩
 ·go_wp2_with fail
  go_ret
  exact ⟨rfl, hB2⟩
theorem checkS (x : ByteArray) (g : Nat) (w : World) (bg : Blk w g 239 #[.string x]) (h0 : x.size <= 9223372036854775807) (hT : Tabs w) :
  Calls prog 319 #[.pointer (some ⟨g, 0, none⟩)] w fun e w' => e = .returned (.int .i64 (nameC x : Nat)) ∧ Below w.heap.size w w' := by
 have c0 : w.cell? ⟨g, 0, none⟩ = some (Value.string x) := bg.cell 0
 have HC := zrj (uzw x w h0 hT)
 unfold nameC
 generalize uq9 x = b at *
 go_enter func319, ntmps319
 go_wp2_with fail
 refine HC.out.mono ?_
 rintro e w1 ⟨rfl, hb1⟩
 cases b
 ·go_wp2_with fail
  go_ret
  exact ⟨rfl, hb1⟩
 ·go_wp2_with fail
  go_ret
  exact ⟨rfl, hb1⟩
theorem checkC (x : Int) (g : Nat) (w : World) (bg : Blk w g 241 #[.int .i64 x])  :
  Calls prog 323 #[.pointer (some ⟨g, 0, none⟩)] w fun e w' => e = .returned (.int .i64 (wqm x : Nat)) ∧ Below w.heap.size w w' := by
 have c0 : w.cell? ⟨g, 0, none⟩ = some (Value.int .i64 x) := bg.cell 0
 have HC := zrj (vj8 x w)
 unfold wqm
 have HW := zrj (show uq8 x 0 1099511627776 = (decide (0 <= x) && decide (x <= 1099511627776)) from rfl)
 generalize (decide (0 <= x) && decide (x <= 1099511627776)) = b at *
 rw [HW.out]
 clear HW
 go_enter func323, ntmps323
 go_wp2_with fail
 refine HC.out.mono ?_
 rintro e w1 ⟨rfl, rfl⟩
 cases b
 ·go_wp2_with fail
  go_ret
  exact ⟨rfl, zri _ _⟩
 ·go_wp2_with fail
  go_ret
  exact ⟨rfl, zri _ _⟩
end Go.Proofs.YtibiankbmhdljabGreatDoor
