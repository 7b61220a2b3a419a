/-
  Several texts in one: ReqO.
-/
import Derived.Test.YtaioadbenigdpaaGreatDoorPkStateB
import Derived.Test.YtaioadbenigdpaaGreatDoorPkSrvP
set_option linter.unusedVariables false
set_option linter.unusedSimpArgs false
set_option maxHeartbeats 16000000
set_option maxRecDepth 100000
namespace Go.Proofs.YtaioadbenigdpaaGreatDoor
open Go.RowKit Go.ChangeShapes Go.WideShapes Go.Deep Go.Joins
def rowQ (q : ReqD) : List Value := [.int .i64 q.kind, .string q.job.name, .int .i64 q.job.prio, .int .i64 q.job.need, .int .i64 q.job.tries, .string q.job.tag, .string q.node.name, .int .i64 q.node.room, .string q.node.zone, .string q.lease.job, .string q.lease.node, .int .i64 q.lease.till, .string q.name, .int .i64 q.n]
def datQ {H : Type} (q : ReqD) : DataW H := .agg [.lit (.int .i64 q.kind), datJ q.job, datN q.node, datL q.lease, .lit (.string q.name.data.toList), .lit (.int .i64 q.n)]
def okQ (q : ReqD) : Prop := i64B q.kind ∧ okJ q.job ∧ okN q.node ∧ okL q.lease ∧ q.name.size ≤ 9223372036854775807 ∧ i64B q.n
section
variable {H : Type} {enc : TypeId × Value → H} {w : World} {base : Nat} {spare : Nat → Bool} {held : Bool}
theorem elem_Q (n : Nat) (cs : List Value) (d : DataW H) (pl : List MemPlace) (hl : cs.length = 14)
  (h : DataW.trod enc Tryz.prog w base spare held n 43 cs = some (d, pl)) : ∃ x : ReqD, cs = rowQ x ∧ d = datQ x ∧ okQ x := by
 obtain ⟨ys, n', rfl, hy, hlen, hyl, hf⟩ := DataW.trod_struct Tryz.underlying43 h
 simp only [Prod.mk.injEq] at hy
 have ci : Tryz.prog.cellsOf 3 = 1 := by kernel_rfl
 have cs1 : Tryz.prog.cellsOf 9 = 1 := by kernel_rfl
 have cj : Tryz.prog.cellsOf 31 = 5 := by kernel_rfl
 have cn : Tryz.prog.cellsOf 34 = 3 := by kernel_rfl
 have cl : Tryz.prog.cellsOf 37 = 3 := by kernel_rfl
 have hy6 : ys.length = 6 := hyl
 have t0 : DataW.trod enc Tryz.prog w base spare held n' 3 ((cs.drop 0).take (Tryz.prog.cellsOf 3)) = ys[0]? := hf 0 _ rfl
 have t1 : DataW.trod enc Tryz.prog w base spare held n' 31 ((cs.drop 1).take (Tryz.prog.cellsOf 31)) = ys[1]? := hf 1 _ rfl
 have t2 : DataW.trod enc Tryz.prog w base spare held n' 34 ((cs.drop 6).take (Tryz.prog.cellsOf 34)) = ys[2]? := hf 2 _ rfl
 have t3 : DataW.trod enc Tryz.prog w base spare held n' 37 ((cs.drop 9).take (Tryz.prog.cellsOf 37)) = ys[3]? := hf 3 _ rfl
 have t4 : DataW.trod enc Tryz.prog w base spare held n' 9 ((cs.drop 12).take (Tryz.prog.cellsOf 9)) = ys[4]? := hf 4 _ rfl
 have t5 : DataW.trod enc Tryz.prog w base spare held n' 3 ((cs.drop 13).take (Tryz.prog.cellsOf 3)) = ys[5]? := hf 5 _ rfl
 rw [ci] at t0 t5
 rw [cs1] at t4
 rw [cj] at t1
 rw [cn] at t2
 rw [cl] at t3
 obtain ⟨c0, c1, c2, c3, c4, c5, c6, c7, c8, c9, c10, c11, c12, c13, rfl⟩ : ∃ c0 c1 c2 c3 c4 c5 c6 c7 c8 c9 c10 c11 c12 c13, cs = [c0, c1, c2, c3, c4, c5, c6, c7, c8, c9, c10, c11, c12, c13] := by
  match cs, hl with
  | [c0, c1, c2, c3, c4, c5, c6, c7, c8, c9, c10, c11, c12, c13], _ => exact ⟨c0, c1, c2, c3, c4, c5, c6, c7, c8, c9, c10, c11, c12, c13, rfl⟩
 obtain ⟨y0, y1, y2, y3, y4, y5, rfl⟩ : ∃ y0 y1 y2 y3 y4 y5, ys = [y0, y1, y2, y3, y4, y5] := by
  match ys, hy6 with
  | [y0, y1, y2, y3, y4, y5], _ => exact ⟨y0, y1, y2, y3, y4, y5, rfl⟩
 have t0 : DataW.trod enc Tryz.prog w base spare held n' 3 [c0] = some (y0.1, y0.2) := t0
 have t1 : DataW.trod enc Tryz.prog w base spare held n' 31 [c1, c2, c3, c4, c5] = some (y1.1, y1.2) := t1
 have t2 : DataW.trod enc Tryz.prog w base spare held n' 34 [c6, c7, c8] = some (y2.1, y2.2) := t2
 have t3 : DataW.trod enc Tryz.prog w base spare held n' 37 [c9, c10, c11] = some (y3.1, y3.2) := t3
 have t4 : DataW.trod enc Tryz.prog w base spare held n' 9 [c12] = some (y4.1, y4.2) := t4
 have t5 : DataW.trod enc Tryz.prog w base spare held n' 3 [c13] = some (y5.1, y5.2) := t5
 obtain ⟨k, e0, f0, w0⟩ := DataW.trod_int Tryz.underlying3 t0
 obtain ⟨j, e1, f1, w1⟩ := elem_J n' _ _ _ rfl t1
 obtain ⟨nd, e2, f2, w2⟩ := elem_N n' _ _ _ rfl t2
 obtain ⟨le, e3, f3, w3⟩ := elem_L n' _ _ _ rfl t3
 obtain ⟨nm, e4, f4, w4⟩ := DataW.trod_string Tryz.underlying9 t4
 obtain ⟨m, e5, f5, w5⟩ := DataW.trod_int Tryz.underlying3 t5
 have b0 := bounds_i64 w0
 have b5 := bounds_i64 w5
 unfold maxLen at w4
 simp only [Prod.mk.injEq] at f0 f4 f5
 refine ⟨⟨k, j, nd, le, nm, m⟩, ?_, ?_, ⟨b0.1, b0.2⟩, w1, w2, w3, w4, b5.1, b5.2⟩
 ·simp only [rowJ, rowN, rowL, List.cons.injEq, and_true] at e0 e1 e2 e3 e4 e5
  obtain ⟨rfl, rfl, rfl, rfl, rfl⟩ := e1
  obtain ⟨rfl, rfl, rfl⟩ := e2
  obtain ⟨rfl, rfl, rfl⟩ := e3
  subst e0 e4 e5
  rfl
 ·rw [hy.1]
  simp only [List.map_cons, List.map_nil, f0.1, f1, f2, f3, f4.1, f5.1]
  rfl
theorem open_reqs {v : Value} {d : DataW H} {ps : List MemPlace} {r : Reach} {b0 : Nat} (hv : Value.okWide Tryz.prog w r b0 27 v) (h : DataW.Trod enc Tryz.prog w base spare held 27 v d ps) :
  ∃ (p : Option Addr) (c : Nat) (l : List ReqD), v = .slice p l.length c ∧ Elts w w.heap.size 14 p (l.map rowQ) ∧ (∀ x ∈ l, okQ x) ∧ l.length ≤ 9223372036854775807 := by
 obtain ⟨p, c, l, rfl, hlc, hcm, hel, hok, hd⟩ := open_rows rowQ datQ okQ 14 Tryz.underlying27 (by kernel_rfl) (by decide) hv h (fun n cs d pl => elem_Q n cs d pl)
 refine ⟨p, c, l, rfl, hel, hok, ?_⟩
 unfold maxLen at hcm
 omega
end
end Go.Proofs.YtaioadbenigdpaaGreatDoor
