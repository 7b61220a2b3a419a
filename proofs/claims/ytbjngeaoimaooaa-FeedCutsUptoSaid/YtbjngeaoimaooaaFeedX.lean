/-
  More contracts of package feed: New, At, Left, a push into a feed that is stuck.
-/
import Derived.Test.YtbjngeaoimaooaaFeedW
set_option linter.unusedVariables false
set_option linter.unusedSimpArgs false
namespace Go.Proofs.Ytbjngeaoimaooaa
open Go.RowKit
theorem zero_feed (W : World) : (zeroValue 43).run Try.prog W = .ok (.agg #[.string ByteArray.empty, .int .i64 0, .int .i64 0]) W := by kernel_rfl
set_option maxHeartbeats 1000000 in
set_option maxRecDepth 100000 in
theorem at_any (g a : Nat) (r : ByteArray) (st : Int) (w : World) (hb : Blk w g 43 #[.string r, .int .i64 (a : Int), .int .i64 st]) :
    Calls Try.prog 12 #[.pointer (some ⟨g, 0, none⟩)] w fun e w' => e = .returned (.int .i64 (a : Int)) ∧ w = w' := by
  have c1 : w.cell? ⟨g, 1, none⟩ = some (Value.int .i64 (a : Int)) := hb.cell 1
  go_enter Try.func12, Try.ntmps12
  go_wp2_with fail
  go_ret
  exact ⟨rfl, rfl⟩
set_option maxHeartbeats 1000000 in
set_option maxRecDepth 100000 in
theorem left_any (g a : Nat) (r : ByteArray) (st : Int) (w : World) (hb : Blk w g 43 #[.string r, .int .i64 (a : Int), .int .i64 st]) :
    Calls Try.prog 13 #[.pointer (some ⟨g, 0, none⟩)] w fun e w' => e = .returned (.int .i64 (r.size : Int)) ∧ w = w' := by
  have c1 : w.cell? ⟨g, 0, none⟩ = some (Value.string r) := hb.cell 0
  go_enter Try.func13, Try.ntmps13
  go_wp2_with fail
  go_ret
  exact ⟨rfl, rfl⟩
set_option maxHeartbeats 1000000 in
set_option maxRecDepth 100000 in
theorem push_stuck (g a : Nat) (r s : ByteArray) (st : Int) (hst : st ≠ 0) (w : World) (hb : Blk w g 43 #[.string r, .int .i64 (a : Int), .int .i64 st]) :
    Calls Try.prog 9 #[.pointer (some ⟨g, 0, none⟩), .string s] w fun e w' => e = .returned (.tuple #[.slice none 0 0, .int .i64 st]) ∧ Below w.heap.size w w' := by
  have c1 : w.cell? ⟨g, 2, none⟩ = some (Value.int .i64 st) := hb.cell 2
  have h1 : (st != 0) = true := by rw [bne_iff_ne]; exact hst
  have c2 : w.drew.cell? ⟨g, 2, none⟩ = some (Value.int .i64 st) := hb.cell 2
  go_enter Try.func9, Try.ntmps9
  go_wp2_with fail
  go_big_region
  go_wp2_with fail
  go_ret2
  exact ⟨rfl, (Below.refl _ _).drew⟩
set_option maxHeartbeats 1000000 in
set_option maxRecDepth 100000 in
theorem new_any (w : World) :
    Calls Try.prog 8 #[] w fun e w' => e = .returned (.pointer (some ⟨w.heap.size, 0, none⟩)) ∧ w' = w.alloc (.cells #[.string ByteArray.empty, .int .i64 0, .int .i64 0] 43) := by
  have hz := zero_feed
  go_enter Try.func8, Try.ntmps8
  go_wp2_with fail
  go_ret
  exact ⟨rfl, rfl⟩
theorem push_small (g at_ : Nat) (rest s : ByteArray) (w : World) (hb : Blk w g 43 #[.string rest, .int .i64 (at_ : Int), .int .i64 0]) (hL : at_ + rest.size + s.size ≤ 1099511627776) :
    Calls Try.prog 9 #[.pointer (some ⟨g, 0, none⟩), .string s] w fun e w' => PushPost w g at_ (rest ++ s).data.toList (feedF (rest ++ s).data.toList) e w' :=
  push_any g at_ rest s w hb (by omega) (Nat.le_trans (feedF_le _) (by have : (rest ++ s).data.toList.length = rest.size + s.size := by simp [ByteArray.data_append]
                                                                       omega))
end Go.Proofs.Ytbjngeaoimaooaa
