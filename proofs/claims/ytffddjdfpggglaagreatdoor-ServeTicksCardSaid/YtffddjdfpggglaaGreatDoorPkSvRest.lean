/-
  Several texts in one: SvRest.
-/
import Derived.Test.YtffddjdfpggglaaGreatDoorPkSvLaw
set_option linter.unusedVariables false
set_option linter.unusedSimpArgs false
set_option maxHeartbeats 16000000
set_option maxRecDepth 100000
namespace Go.Proofs.YtffddjdfpggglaaGreatDoor
open Go.RowKit
theorem szr {s : St} (h : StSz s) : StSz { s with rev := 0 } := ⟨h.j, h.n, h.nr, h.lj, h.ln, h.ll⟩
theorem svRest_any (s : St) (p1 p2 p3 : Option Addr) (c1 c2 c3 : Nat) (w : World) :
    Calls Tryz.prog 30 #[.agg #[Value.int .i64 s.rev, Value.slice p1 s.jobs.length c1, Value.slice p2 s.nodes.length c2, Value.slice p3 s.leases.length c3]] w fun e w' => e = .returned (.agg #[Value.int .i64 0, Value.slice p1 s.jobs.length c1, Value.slice p2 s.nodes.length c2, Value.slice p3 s.leases.length c3]) ∧ Below w.heap.size w w' := by
  have hzs := zero_state_lit
  have hb0 : Below w.heap.size w ((w.alloc (.cells #[Value.int .i64 s.rev, Value.slice p1 s.jobs.length c1, Value.slice p2 s.nodes.length c2, Value.slice p3 s.leases.length c3] 26)).alloc (.cells #[Value.int .i64 0, Value.slice none 0 0, Value.slice none 0 0, Value.slice none 0 0] 26)) := ((Below.refl _ _).alloc (Nat.le_refl _) _).alloc (by simp) _
  have bx0 := (Blk.new w 26 #[Value.int .i64 s.rev, Value.slice p1 s.jobs.length c1, Value.slice p2 s.nodes.length c2, Value.slice p3 s.leases.length c3]).alloc (.cells #[Value.int .i64 0, Value.slice none 0 0, Value.slice none 0 0, Value.slice none 0 0] 26)
  have hz1 : (w.alloc (.cells #[Value.int .i64 s.rev, Value.slice p1 s.jobs.length c1, Value.slice p2 s.nodes.length c2, Value.slice p3 s.leases.length c3] 26)).heap.size = w.heap.size + 1 := by simp
  have bz0 := blk_new_at hz1 26 #[Value.int .i64 0, Value.slice none 0 0, Value.slice none 0 0, Value.slice none 0 0]
  clear hz1
  go_enter Tryz.func30, Tryz.ntmps30
  go_upto_region 1 with fail
  generalize (w.alloc _).alloc _ = w0 at *
  have x1 : w0.cell? ⟨w.heap.size, 0, none⟩ = some (.int .i64 s.rev) := bx0.cell 0
  have x2 : w0.frozen? ⟨w.heap.size, 0, none⟩ = false := bx0.frozen 0
  go_upto_region 2 with fail
  have bx1 : Blk (w0.setCell ⟨w.heap.size, 0, none⟩ (.int .i64 0)) w.heap.size 26 #[Value.int .i64 0, Value.slice p1 s.jobs.length c1, Value.slice p2 s.nodes.length c2, Value.slice p3 s.leases.length c3] := bx0.set_ 0 _
  have bz1 := bz0.far (p := ⟨w.heap.size, 0, none⟩) (show w.heap.size + 1 ≠ w.heap.size by omega) (.int .i64 0)
  have hB1 := hb0.setCell (p := ⟨w.heap.size, 0, none⟩) (Nat.le_refl _) (.int .i64 0)
  clear x1 x2 bx0 bz0 hb0
  generalize w0.setCell _ _ = w1 at *
  have hB2 := below_setRow hB1 (Nat.le_succ _) #[Value.int .i64 0, Value.slice p1 s.jobs.length c1, Value.slice p2 s.nodes.length c2, Value.slice p3 s.leases.length c3]
  go_wp2_with (first
    | (refine wpList_load_blk rfl _ _ rfl w.heap.size rfl _ _ bx1 _ Tryz.underlying26 rfl state_size ?_)
    | (refine wpList_store_blk rfl _ _ _ rfl (w.heap.size + 1) rfl _ _ #[Value.int .i64 0, Value.slice p1 s.jobs.length c1, Value.slice p2 s.nodes.length c2, Value.slice p3 s.leases.length c3] bz1 rfl state_size rfl (one_st4 0 _ _ _ _ _ _ _ _ _) ?_))
  refine bodyPost_ret (results_cell1 rfl _ rfl (bz1.setRow #[Value.int .i64 0, Value.slice p1 s.jobs.length c1, Value.slice p2 s.nodes.length c2, Value.slice p3 s.leases.length c3]) Tryz.underlying26 rfl state_size) rfl ?_
  exact ⟨rfl, hB2⟩
end Go.Proofs.YtffddjdfpggglaaGreatDoor
