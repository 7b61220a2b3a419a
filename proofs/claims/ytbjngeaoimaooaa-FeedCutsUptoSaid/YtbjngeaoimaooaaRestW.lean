/-
  The remainder that is never below 0.
-/
import Derived.Test.YtbjngeaoimaooaaRows
import Derived.Test.YtbjngeaoimaooaaBase
set_option linter.unusedVariables false
set_option linter.unusedSimpArgs false
namespace Go.Proofs.Ytbjngeaoimaooaa
open Go.RowKit
theorem rest_val (a n : Int) (hn : 0 < n) : (a.tmod n < 0 ∧ a.tmod n + n = a % n) ∨ (0 ≤ a.tmod n ∧ a.tmod n = a % n) := by
  rw [Int.tmod_eq_emod]
  have h1 := Int.emod_nonneg a (show n ≠ 0 by omega)
  have h2 := Int.emod_lt_of_pos a hn
  split
  · right; omega
  · rename_i h
    left
    have h3 : a % n ≠ 0 := fun e => h (.inr (Int.dvd_of_emod_eq_zero e))
    have h4 : (n.natAbs : Int) = n := Int.natAbs_of_nonneg (by omega)
    omega
set_option maxHeartbeats 1000000 in
set_option maxRecDepth 100000 in
theorem rest_any (a n : Int) (w : World) (hn : 0 < n) (hn2 : n ≤ 9223372036854775807) :
    Calls Try.prog 16 #[.int .i64 a, .int .i64 n] w fun e w' => e = .returned (.int .i64 (a % n)) ∧ w = w' := by
  have h0 : (n == 0) = false := by simp; omega
  have h1 := Int.emod_nonneg a (show n ≠ 0 by omega)
  have h2 := Int.emod_lt_of_pos a hn
  have hr := rest_val a n hn
  go_enter Try.func16, Try.ntmps16
  generalize hm : a % n = m at *
  generalize hk : a.tmod n = k at *
  go_wp2
  all_goals
    go_ret
    exact ⟨congrArg (fun x => Ending.returned (.int .i64 x)) (by omega), rfl⟩
end Go.Proofs.Ytbjngeaoimaooaa
