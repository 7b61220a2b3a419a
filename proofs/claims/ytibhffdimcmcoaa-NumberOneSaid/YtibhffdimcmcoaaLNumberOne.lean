/-
  The law NumberOne of package brackenkeep: for every input it answers true.
-/
import Derived.Test.YtibhffdimcmcoaaRows
import Derived.Test.YtibhffdimcmcoaaBase
import Derived.Test.YtibhffdimcmcoaaPrimW
import Derived.Test.YtibhffdimcmcoaaPrimL
set_option linter.unusedVariables false
set_option linter.unusedSimpArgs false
namespace Go.Proofs.Ytibhffdimcmcoaa.numberOne
open Go.ChangeShapes Go.WideShapes Go.ChangeAt Go.RowKit Go.Joins
open Go.ChangeMaps (open_string)
set_option maxHeartbeats 1000000 in
set_option maxRecDepth 100000 in
theorem walk (s : ByteArray) (hs : s.size ≤ 140737488351232) (w : World) :
    Calls Try.prog 6 #[.string s] w fun e w' => e = .returned (.bool true) ∧ Below w.heap.size w w' := by
  have R := readNumber_any s w
  by_cases h0 : (rd s.data.toList).2.2 = 0
  · obtain ⟨n, k, hr, hp, hk1, hk10, hkl, hn, hall⟩ := rd_ok _ h0
    rw [hr] at R
    have R0 := Lib.hid R
    have hks : k ≤ s.size := by simpa using hkl
    have H1 : ∀ a : Nat, a < k → ∀ w, Calls Try.prog 19 #[.string (s.extract 0 a)] w fun e w' => e = .returned (.tuple #[.int .u64 0, .int .i64 0, .int .i64 3]) ∧ w = w' := by
      intro a ha w
      have := readNumber_any (s.extract 0 a) w
      rw [show (s.extract 0 a).data.toList = s.data.toList.take a from by simp [ByteArray.data_extract], hall a ha] at this
      exact this
    have H2 := Lib.hid H1
    have hpp : (putN n == (s.extract 0 k).toList) = true := by
      rw [hp, ByteArray.toList_eq]; simp [ByteArray.data_extract]
    have HP := Lib.hid hpp
    clear R hr hp hkl hall H1 hpp h0
    go_enter Try.func6, Try.ntmps6
    go_wp2_with fail
    refine (told_any _).mono ?_
    rintro e w' ⟨rfl, rfl⟩
    go_wp2_with fail
    refine (R0.out).mono ?_
    rintro e w' ⟨rfl, rfl⟩
    go_wp2_with fail
    go_loop [27] (fun i => ∃ j : Nat, j ≤ k ∧ i = .int .i64 j) (fun i => k - (intOf i).toNat)
    case atStart => exact ⟨0, by omega, rfl⟩
    case round =>
      obtain ⟨j, hj, rfl⟩ := hrel
      by_cases hlt : j < k
      · go_wp2_with (go_at_call 19; refine (H2.out j hlt _).mono ?_; rintro e w' ⟨rfl, rfl⟩)
        go_round
        case rel => exact ⟨j + 1, by omega, by go_num⟩
        case measure => simp [intOf]; omega
      · have d1 : decide ((1 : Int) ≤ (k : Int)) = true := by simp; omega
        have d2 : decide (0 < k) = true := by simp; omega
        have d3 : decide ((k : Int) ≤ (s.size : Int)) = true := by simp; omega
        have d4 : decide (k ≤ s.size) = true := by simp; omega
        go_wp2_with fail
        go_region_held3 (fun _ => True) (trivial) ((go_at_call 18; refine (number_any _ _ hn).mono ?_; rintro e w1 ⟨rfl, hb⟩))
        go_wp2
        go_ret
        exact ⟨congrArg (fun b => Ending.returned (.bool b)) (by simp [HP.out]), ((Below.refl _ w).drew).trans hb⟩
  · rcases rd_err _ h0 with hr | hr
    all_goals
      rw [hr] at R
      have R0 := Lib.hid R
      clear R hr h0
      go_enter Try.func6, Try.ntmps6
      go_wp2_with fail
      refine (told_any _).mono ?_
      rintro e w' ⟨rfl, rfl⟩
      go_wp2_with fail
      refine (R0.out).mono ?_
      rintro e w' ⟨rfl, rfl⟩
      go_wp2_with fail
      go_ret
      exact ⟨rfl, Below.refl _ _⟩

theorem own : ownKnob Try.prog.godebug = none := by kernel_rfl
theorem laid : laidOutB Try.prog = true := by kernel_rfl
set_option maxRecDepth 100000 in
theorem contract (H : Type) (enc : TypeId × Value → H) (W : World) (base : Nat) (args : Array Value) (ds gs : List (DataW H)) (before : List MemPlace)
    (hval0 : ∀ (j : Nat) t v, Try.f6.params[j]? = some t → args[j]? = some v → Value.okWide Try.prog W .any base t v)
    (hW : DataW.Whole enc Try.prog Try.f6.params.toList Rows.numberOneSpec.vars false W args.toList ds gs before)
    (hsz0 : (DataW.weightsEach Try.prog (Try.f6.params.toList ++ Rows.numberOneSpec.plain.varTypes Try.prog) (ds ++ gs)).all (· ≤ reachBytes) = true) :
    Calls Try.prog 6 args W fun e W' => ∃ v, e = .returned v ∧ Rows.numberOneSpec.post enc Try.prog Try.f6 false true false false W args v W' := by
  have hval : ∀ (j : Nat) t v, Try.f6.params[j]? = some t → args[j]? = some v → Value.okWide Try.prog W .any base t v := hval0
  have hsz : (DataW.weightsEach Try.prog (Try.f6.params.toList ++ Rows.numberOneSpec.plain.varTypes Try.prog) (ds ++ gs)).all (· ≤ reachBytes) = true := hsz0
  have hlt : ∀ x ∈ before, x.block < W.heap.size := fun x hx => hW.lt x hx
  have hW' := hW
  obtain ⟨p, q, hA0, hV, rfl, hfz, hnd⟩ := hW
  have hA : DataW.TrodAll enc Try.prog W 0 (fun _ => true) true Try.f6.params.toList args.toList ds p := hA0
  rw [Try.params6] at hA hval hsz
  obtain ⟨v0, vs0, d0, ds0, p0, q0, hargs, rfl, rfl, h0, r0⟩ := trodAll_cons hA
  obtain ⟨rfl, rfl, rfl⟩ := trodAll_nil r0
  obtain rfl : args = #[v0] := by cases args; simp_all
  obtain ⟨rfl, rfl⟩ := trodVars_none hV
  obtain ⟨a0, rfl, rfl, rfl, w0⟩ := open_string Try.underlying9 (hval 0 9 v0 rfl rfl) h0
  have b0 : a0.size ≤ 140737488351232 := by have := sized_string hsz (j := 0) (t := 9) rfl rfl; simpa [reachBytes] using this
  refine (walk a0 b0 W).mono fun e W' ⟨he, hb⟩ => ?_
  subst he
  exact ⟨_, rfl, law_post laid (by kernel_rfl) Try.underlying4 rfl rfl hW' rfl rfl rfl rfl hb⟩

set_option maxRecDepth 100000 in
theorem lifted (os : Os) (started : os.Started) (H : Type) (enc : TypeId × Value → H) :
    ReturnsInHanded {} Try.checked os 6 .any (Rows.numberOneSpec.pre6 enc Try.prog Try.f6 Rows.numberOneRow.domain false) (Rows.numberOneSpec.post enc Try.prog Try.f6 false true false false) := by
  refine returnsInHanded_of_change_sized (C := Try.checked) own started (by kernel_rfl) Try.func6
    (ChangeSpec.witness6 (enc := enc) (C := Try.checked) false ⟨#[], #[.string ByteArray.empty], []⟩ 8 (by kernel_rfl) (by kernel_rfl) (by kernel_rfl) (by kernel_rfl)) ?_
  intro W base args ds gs before hval0 hW _ hsz0 _
  exact contract H enc W base args ds gs before hval0 hW hsz0

theorem over : Rows.numberOneRow.holds Try.pinned (OpenSpec.ofChange Rows.numberOneSpec) :=
  OpenClaim.holds_of_wide 6 Try.f6 rfl rfl rfl rfl rfl rfl rfl ⟨rfl, rfl, rfl, rfl, rfl⟩ rfl rfl rfl rfl rfl (by kernel_rfl) Try.func6 (by kernel_rfl)
    (of_decide_eq_true (by kernel_rfl)) (by unfold Func.isWrapper; first | (rw [if_pos (by decide +kernel)]; kernel_rfl) | (rw [if_neg (by decide +kernel)]; exact ⟨rfl, rfl⟩))
    (fun os started H enc _ => lifted os started H enc)

/-- The statement. -/
theorem proved : Rows.NumberOneSaid := over
#print axioms proved
end Go.Proofs.Ytibhffdimcmcoaa.numberOne
