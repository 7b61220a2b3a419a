/-
  Several texts in one: SvPair.
-/
import Derived.Test.YtibiankbmhdljaaGreatDoorPkSvDoB
set_option linter.all false
set_option maxHeartbeats 16000000
set_option maxRecDepth 100000
namespace Go.Proofs.YtibiankbmhdljaaGreatDoor
open Go.Proofs.Tryz
open Go.RowKit
theorem ReqSz.of {q : ReqD} (h : okQ q) : ReqSz q := ⟨h.2.1.1.1, h.2.1.1.2, h.2.2.1.1.1, h.2.2.1.1.2, h.2.2.2.1.1.1, h.2.2.2.1.1.2, h.2.2.2.2.1⟩
theorem sz0 : ByteArray.empty.size <= 9223372036854775807 := by decide
theorem eqInP (a b c d : Int) (x : Bool) (hx : (decide (a = c) && decide (b = d)) = x) (w : World) : (Op.equalIn 10000 47 (.agg #[.int .i64 a, .int .i64 b]) (.agg #[.int .i64 c, .int .i64 d])).run prog w = .ok x w := by
 have hS : prog.underlying 47 = some (.struct (prog.fieldsOf 47)) := by kernel_rfl
 have hp : prog.stoodInHeld 47 = false := by kernel_rfl
 have ue := underlying30
 have ui := underlying3
 have ze := Tryz.sizeOf30
 have zi := Tryz.sizeOf3
 have ge := Tryz.isAgg30
 have gi := Tryz.isAgg3
 subst hx
 rw [show (10000 : Nat) = 9999 + 1 from rfl, run_equalIn_agg w 9999 47 _ _ hS hp]
 simp only [Program.fieldsOf, underlying47]
 go_simp
 by_cases h0 : a = c <;> by_cases h1 : b = d <;> simp [h0, h1]
theorem wvu {w : World} {rc dc : Array Value} : Below w.heap.size w ((((w.alloc (.cells #[.int .i64 0, .int .i64 0] 47)).alloc (.cells zdv 50)).setRow w.heap.size rc).setRow (w.heap.size + 1) dc) ∧
  Blk ((((w.alloc (.cells #[.int .i64 0, .int .i64 0] 47)).alloc (.cells zdv 50)).setRow w.heap.size rc).setRow (w.heap.size + 1) dc) w.heap.size 47 rc ∧ Blk ((((w.alloc (.cells #[.int .i64 0, .int .i64 0] 47)).alloc (.cells zdv 50)).setRow w.heap.size rc).setRow (w.heap.size + 1) dc) (w.heap.size + 1) 50 dc := by
 have b1 := (Blk.new w 47 #[.int .i64 0, .int .i64 0]).alloc (.cells zdv 50)
 have b2 := Blk.new (w.alloc (.cells #[.int .i64 0, .int .i64 0] 47)) 50 zdv
 rw [show (w.alloc (.cells #[.int .i64 0, .int .i64 0] 47)).heap.size = w.heap.size + 1 by simp] at b2
 have hb := ((zri w.heap.size w).alloc (zra _) (.cells #[.int .i64 0, .int .i64 0] 47)).alloc (by simp) (.cells zdv 50)
 exact ⟨uqi (uqi hb (zra _) _) (Nat.le_succ _) _, (b1.setRow rc).far_row (by omega) dc, (b2.far_row (by omega) rc).setRow dc⟩
theorem wxv {w : World} : Blk ((w.alloc (.cells #[.int .i64 0, .int .i64 0] 47)).alloc (.cells zdv 50)) w.heap.size 47 #[.int .i64 0, .int .i64 0] := (Blk.new w _ _).alloc _
theorem vwc {w : World} (rc : Array Value) : Blk (((w.alloc (.cells #[.int .i64 0, .int .i64 0] 47)).alloc (.cells zdv 50)).setRow w.heap.size rc) (w.heap.size + 1) 50 zdv := by
 have b2 := Blk.new (w.alloc (.cells #[.int .i64 0, .int .i64 0] 47)) 50 zdv
 rw [show (w.alloc (.cells #[.int .i64 0, .int .i64 0] 47)).heap.size = w.heap.size + 1 by simp] at b2
 exact b2.far_row (by omega) rc
theorem wv0 {w : World} {n : Nat} (h : w.heap.size = n) (t : TypeId) (cs : Array Value) : Blk (w.alloc (.cells cs t)) n t cs := h ▸ Blk.new w t cs
theorem vq2 : uqv uzk = 0 := by decide +kernel
end Go.Proofs.YtibiankbmhdljaaGreatDoor
