/-
  Several texts in one: SampleW.
-/
import Derived.Test.YtdicoepjkngikaaGreatDoorPkStateB
import Derived.Test.YtdicoepjkngikaaGreatDoorPkStateA
/-
  The laws' own state 'sample'.
-/
set_option linter.unusedVariables false
set_option linter.unusedSimpArgs false
namespace Go.Proofs.YtdicoepjkngikaaGreatDoor
open Go.RowKit
def sampleS : St := ⟨4, [⟨⟨#[97]⟩, 0, 3, 0, ByteArray.empty⟩, ⟨⟨#[98]⟩, 0, 2, 0, ⟨#[120]⟩⟩], [⟨⟨#[110]⟩, 4, ByteArray.empty⟩], [⟨⟨#[97]⟩, ⟨#[110]⟩, 9⟩]⟩
theorem zero_state_lit (W : World) : (zeroValue 26).run Tryz.prog W = .ok (.agg #[.int .i64 0, .slice none 0 0, .slice none 0 0, .slice none 0 0]) W := by kernel_rfl
theorem zero_lease_lit (W : World) : (zeroValue 59).run Tryz.prog W = .ok (.agg #[.string ByteArray.empty, .string ByteArray.empty, .int .i64 0]) W := by kernel_rfl
theorem state_size : (Tryz.prog.info? 26).map (·.size) = some 4 := by kernel_rfl
def SamplePost (w : World) (e : Ending) (w' : World) : Prop :=
  ∃ bj bn bl, e = .returned (.agg #[.int .i64 4, .slice (some ⟨bj, 0, none⟩) 2 2, .slice (some ⟨bn, 0, none⟩) 1 1, .slice (some ⟨bl, 0, none⟩) 1 1]) ∧
    Blk w' bj 49 #[.string ⟨#[97]⟩, .int .i64 0, .int .i64 3, .int .i64 0, .string ByteArray.empty, .string ⟨#[98]⟩, .int .i64 0, .int .i64 2, .int .i64 0, .string ⟨#[120]⟩] ∧
    Blk w' bn 54 #[.string ⟨#[110]⟩, .int .i64 4, .string ByteArray.empty] ∧ Blk w' bl 59 #[.string ⟨#[97]⟩, .string ⟨#[110]⟩, .int .i64 9] ∧ Below w.heap.size w w' ∧ w.heap.size ≤ bl
set_option maxHeartbeats 2000000 in
set_option maxRecDepth 100000 in
theorem sample_any (w : World) : Calls Tryz.prog 11 #[] w fun e w' => SamplePost w e w' := by
  have hzj := zero_job_lit
  have hzn := zero_node_lit
  have hzl := zero_lease_lit
  have hzs := zero_state_lit
  go_enter Tryz.func11, Tryz.ntmps11
  go_wp2_with fail
  have s1 : (w.alloc (.cells #[.int .i64 4, .slice (some ⟨w.heap.size + 1, 0, none⟩) 2 2, .slice (some ⟨w.heap.size + 1 + 1, 0, none⟩) 1 1, .slice (some ⟨w.heap.size + 1 + 1 + 1, 0, none⟩) 1 1] 26)).heap.size = w.heap.size + 1 := by simp
  have b0 := Blk.new w 26 #[.int .i64 4, .slice (some ⟨w.heap.size + 1, 0, none⟩) 2 2, .slice (some ⟨w.heap.size + 1 + 1, 0, none⟩) 1 1, .slice (some ⟨w.heap.size + 1 + 1 + 1, 0, none⟩) 1 1]
  have hB := (Below.refl w.heap.size w).alloc (Nat.le_refl _) (.cells #[.int .i64 4, .slice (some ⟨w.heap.size + 1, 0, none⟩) 2 2, .slice (some ⟨w.heap.size + 1 + 1, 0, none⟩) 1 1, .slice (some ⟨w.heap.size + 1 + 1 + 1, 0, none⟩) 1 1] 26)
  generalize w.alloc (.cells #[.int .i64 4, .slice (some ⟨w.heap.size + 1, 0, none⟩) 2 2, .slice (some ⟨w.heap.size + 1 + 1, 0, none⟩) 1 1, .slice (some ⟨w.heap.size + 1 + 1 + 1, 0, none⟩) 1 1] 26) = W1 at *
  have b1 := Blk.new W1 49 #[.string ⟨#[97]⟩, .int .i64 0, .int .i64 3, .int .i64 0, .string ByteArray.empty, .string ⟨#[98]⟩, .int .i64 0, .int .i64 2, .int .i64 0, .string ⟨#[120]⟩]
  have b2 := Blk.new (W1.alloc (.cells #[.string ⟨#[97]⟩, .int .i64 0, .int .i64 3, .int .i64 0, .string ByteArray.empty, .string ⟨#[98]⟩, .int .i64 0, .int .i64 2, .int .i64 0, .string ⟨#[120]⟩] 49)) 54 #[.string ⟨#[110]⟩, .int .i64 4, .string ByteArray.empty]
  have b3 := Blk.new ((W1.alloc (.cells #[.string ⟨#[97]⟩, .int .i64 0, .int .i64 3, .int .i64 0, .string ByteArray.empty, .string ⟨#[98]⟩, .int .i64 0, .int .i64 2, .int .i64 0, .string ⟨#[120]⟩] 49)).alloc (.cells #[.string ⟨#[110]⟩, .int .i64 4, .string ByteArray.empty] 54)) 59 #[.string ⟨#[97]⟩, .string ⟨#[110]⟩, .int .i64 9]
  rw [s1] at b1
  rw [show (W1.alloc (.cells #[.string ⟨#[97]⟩, .int .i64 0, .int .i64 3, .int .i64 0, .string ByteArray.empty, .string ⟨#[98]⟩, .int .i64 0, .int .i64 2, .int .i64 0, .string ⟨#[120]⟩] 49)).heap.size = w.heap.size + 1 + 1 by rw [← s1]; simp] at b2
  rw [show ((W1.alloc (.cells #[.string ⟨#[97]⟩, .int .i64 0, .int .i64 3, .int .i64 0, .string ByteArray.empty, .string ⟨#[98]⟩, .int .i64 0, .int .i64 2, .int .i64 0, .string ⟨#[120]⟩] 49)).alloc (.cells #[.string ⟨#[110]⟩, .int .i64 4, .string ByteArray.empty] 54)).heap.size = w.heap.size + 1 + 1 + 1 by rw [← s1]; simp] at b3
  refine bodyPost_ret (results_cell1 rfl _ rfl (((b0.alloc _).alloc _).alloc _) Tryz.underlying26 rfl state_size) rfl ?_
  exact ⟨_, _, _, rfl, (b1.alloc _).alloc _, b2.alloc _, b3, ((hB.alloc hB.size _).alloc (Nat.le_trans hB.size (by simp)) _).alloc (Nat.le_trans hB.size (by simp; omega)) _, by omega⟩
theorem Elts.of_blk {w : World} {g size : Nat} {t : TypeId} {cs : Array Value} {rows : List (List Value)} (hs : ∀ r ∈ rows, r.length = size) (h : Blk w g t cs) (hc : cs.toList = rows.flatten) : Elts w w.heap.size size (some ⟨g, 0, none⟩) rows :=
  Elts.of_reads hs ⟨flat_len hs, fun _ => ⟨⟨g, 0, none⟩, rfl, h.lt, by rw [← hc]; exact At.blk h⟩⟩ rfl
def sampleT : St := { sampleS with leases := sampleS.leases ++ [⟨⟨#[98]⟩, ⟨#[110]⟩, 0⟩] }
theorem sample_used : usedR sampleS ⟨#[110]⟩ = (3, 0) := by decide +kernel
theorem sample_check : checkE sampleT = 9 := by decide +kernel
theorem sampleS_sz : StSz sampleS := by
  refine ⟨?_, ?_, ?_, by decide, by decide, by decide⟩
  all_goals decide +kernel
theorem sampleT_sz : StSz sampleT := by
  refine ⟨?_, ?_, ?_, by decide, by decide, by decide⟩
  all_goals decide +kernel
theorem lease_info : (Tryz.prog.info? 59).map (fun i => (i.zero, i.size, i.bytes)) = some (some (.agg #[.string ByteArray.empty, .string ByteArray.empty, .int .i64 0]), 3, 40) := by kernel_rfl
end Go.Proofs.YtdicoepjkngikaaGreatDoor
