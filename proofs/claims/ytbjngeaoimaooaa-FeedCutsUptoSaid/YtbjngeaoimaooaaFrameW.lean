/-
  Contracts of package frame.
-/
import Derived.Test.YtbjngeaoimaooaaPrimW
import Derived.Test.YtbjngeaoimaooaaCrcW
import Derived.Test.YtbjngeaoimaooaaFrameP
set_option linter.unusedVariables false
set_option linter.unusedSimpArgs false
namespace Go.Proofs.Ytbjngeaoimaooaa
open Go.RowKit

def zfr : Array Value := #[.int .i64 0, .int .i64 0, .string ByteArray.empty]
def bstr (l : List UInt8) : ByteArray := ⟨l.toArray⟩
def frA (v k : Int) (pl : ByteArray) : Array Value := #[.int .i64 v, .int .i64 k, .string pl]
theorem frame_info : (Try.prog.info? 34).map (fun i => (i.zero, i.size, i.bytes)) = some (some (.agg zfr), 3, 32) := by kernel_rfl
theorem zfr_one : zfr.all (·.oneCell') = true := by simp [zfr, Value.oneCell']
theorem frame_size3 : (Try.prog.info? 34).map (·.size) = some 3 := by kernel_rfl

theorem sum4_cells (x : Nat) (h : x < 4294967296) :
    (#[Value.int .u8 ((x : Int) / 16777216), .int .u8 ((x : Int) / 65536 % 256), .int .u8 ((x : Int) / 256 % 256), .int .u8 ((x : Int) % 256)] : Array Value).toList = bytesV (sum4 x) := by
  simp only [bytesV, sum4, List.map_cons, List.map_nil, UInt8.toNat_ofNat']
  simp; omega
set_option maxHeartbeats 1000000 in
set_option maxRecDepth 100000 in
theorem fsum_any (s : ByteArray) (w : World) (hs : s.size ≤ 4611686018427387904) :
    Calls Try.prog 20 #[.string s] w fun e w' => e = .returned (.string (bstr (sum4 (crc s.data.toList)))) ∧ Below w.heap.size w w' := by
  have hc := crc_lt s.data.toList
  have hcv := fun W => conv_lit (P := Try.prog) (src := 48) (dst := 9) Try.underlying48 Try.underlying5 Try.underlying9 _ _ (sum4_cells _ hc) 4 4 rfl W 5
  go_enter Try.func20, Try.ntmps20
  go_wp2_with fail
  refine (sum_any s _ hs).mono ?_
  rintro e w1 ⟨rfl, hb1⟩
  go_wp2_with fail
  go_ret
  exact ⟨rfl, hb1.alloc hb1.size _⟩
set_option maxRecDepth 100000 in
theorem within_yes (x a b : Int) (w : World) (h1 : a ≤ x) (h2 : x ≤ b) :
    Calls Try.prog 23 #[.int .i64 x, .int .i64 a, .int .i64 b] w fun e w' => e = .returned (.bool true) ∧ w = w' := by
  go_enter Try.func23, Try.ntmps23
  go_wp2_with fail
  go_ret
  exact ⟨congrArg (fun b => Ending.returned (.bool b)) (by first | rfl | (simp; omega)), rfl⟩
set_option maxRecDepth 100000 in
theorem within_no (x a b : Int) (w : World) (h : x < a ∨ b < x) :
    Calls Try.prog 23 #[.int .i64 x, .int .i64 a, .int .i64 b] w fun e w' => e = .returned (.bool false) ∧ w = w' := by
  by_cases h1 : x < a
  · clear h
    go_enter Try.func23, Try.ntmps23
    go_wp2_with fail
    all_goals go_ret
    all_goals exact ⟨congrArg (fun b => Ending.returned (.bool b)) (by first | rfl | (simp; omega)), rfl⟩
  · have h2 : b < x := by omega
    clear h
    go_enter Try.func23, Try.ntmps23
    go_wp2_with fail
    all_goals go_ret
    all_goals exact ⟨congrArg (fun b => Ending.returned (.bool b)) (by first | rfl | (simp; omega)), rfl⟩
set_option maxRecDepth 100000 in
theorem isVersion_yes (x : Int) (w : World) (h1 : 1 ≤ x) (h2 : x ≤ 3) :
    Calls Try.prog 17 #[.int .i64 x] w fun e w' => e = .returned (.bool true) ∧ w = w' := by
  go_enter Try.func17, Try.ntmps17
  go_wp2_with fail
  refine (within_yes _ _ _ _ h1 h2).mono ?_
  rintro e w' ⟨rfl, rfl⟩
  go_wp2_with fail
  go_ret
  exact ⟨rfl, rfl⟩
set_option maxRecDepth 100000 in
theorem isVersion_no (x : Int) (w : World) (h : x < 1 ∨ 3 < x) :
    Calls Try.prog 17 #[.int .i64 x] w fun e w' => e = .returned (.bool false) ∧ w = w' := by
  go_enter Try.func17, Try.ntmps17
  go_wp2_with fail
  refine (within_no _ _ _ _ h).mono ?_
  rintro e w' ⟨rfl, rfl⟩
  go_wp2_with fail
  go_ret
  exact ⟨rfl, rfl⟩
set_option maxRecDepth 100000 in
theorem isKind_yes (x : Int) (w : World) (h1 : 1 ≤ x) (h2 : x ≤ 4) :
    Calls Try.prog 18 #[.int .i64 x] w fun e w' => e = .returned (.bool true) ∧ w = w' := by
  go_enter Try.func18, Try.ntmps18
  go_wp2_with fail
  refine (within_yes _ _ _ _ h1 h2).mono ?_
  rintro e w' ⟨rfl, rfl⟩
  go_wp2_with fail
  go_ret
  exact ⟨rfl, rfl⟩
set_option maxRecDepth 100000 in
theorem isKind_no (x : Int) (w : World) (h : x < 1 ∨ 4 < x) :
    Calls Try.prog 18 #[.int .i64 x] w fun e w' => e = .returned (.bool false) ∧ w = w' := by
  go_enter Try.func18, Try.ntmps18
  go_wp2_with fail
  refine (within_no _ _ _ _ h).mono ?_
  rintro e w' ⟨rfl, rfl⟩
  go_wp2_with fail
  go_ret
  exact ⟨rfl, rfl⟩
set_option maxHeartbeats 1000000 in
set_option maxRecDepth 100000 in
theorem none_any (x : Int) (w : World) :
    Calls Try.prog 21 #[.int .i64 x] w fun e w' => e = .returned (.tuple #[.agg zfr, .int .i64 0, .int .i64 x]) ∧ Below w.heap.size w w' := by
  have hz : ∀ W, (zeroValue 34).run Try.prog W = .ok (.agg zfr) W := by
    obtain ⟨i0, hi, hz0, hz1, hz2⟩ := info_parts frame_info
    intro W; simp [zeroValue, typeInfo, hi, hz0]
  go_enter Try.func21, Try.ntmps21
  go_wp2_with (refine wpList_store_blk rfl _ _ _ rfl w.heap.size rfl _ _ _ (Blk.new w _ _) rfl frame_size3 rfl zfr_one ?_)
  (try simp only [Exit.inBlock, Exit.then])
  refine bodyPost_ret (results_cell_tmp2 rfl _ rfl ((Blk.new w _ _).setRow zfr) Try.underlying34 rfl frame_size3) rfl ?_
  exact ⟨rfl, below_setRow ((Below.refl _ _).alloc (Nat.le_refl _) _) (Nat.le_refl _) _⟩
end Go.Proofs.Ytbjngeaoimaooaa
