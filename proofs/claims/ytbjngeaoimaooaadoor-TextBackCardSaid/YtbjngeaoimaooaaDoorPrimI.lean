/-
  The laws' own fact 'told'.
-/
import Derived.Test.YtbjngeaoimaooaaDoorPrimG
set_option linter.unusedVariables false
set_option linter.unusedSimpArgs false
namespace Go.Proofs.YtbjngeaoimaooaaDoor
open Go.RowKit
theorem rd_told : rd [172, 2] = (300, 2, 0) := by decide
set_option maxHeartbeats 1000000 in
set_option maxRecDepth 100000 in
theorem told_any (w : World) :
    Calls Tryd.prog 11 #[] w fun e w' => e = .returned (.bool true) ∧ w = w' := by
  have h1 := readNumber_any ⟨#[172, 2]⟩ w
  rw [show (ByteArray.mk #[172, 2]).data.toList = [172, 2] from rfl, rd_told] at h1
  have H1 := Lib.hid h1
  clear h1
  have h2 := zig_any (-1) w (by omega) (by omega)
  rw [show zigI (-1) = 1 from rfl] at h2
  have H2 := Lib.hid h2
  clear h2
  go_enter Tryd.func11, Tryd.ntmps11
  go_wp2_with (first | (go_at_call 30; refine H1.out.mono ?_; rintro e w' ⟨rfl, rfl⟩) | (go_at_call 31; refine H2.out.mono ?_; rintro e w' ⟨rfl, rfl⟩))
  go_ret
  exact ⟨rfl, rfl⟩
end Go.Proofs.YtbjngeaoimaooaaDoor


