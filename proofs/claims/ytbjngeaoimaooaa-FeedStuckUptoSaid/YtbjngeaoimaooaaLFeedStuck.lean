/-
  The law FeedStuck of package brackenkeep: for every input it answers true.
-/
import Derived.Test.YtbjngeaoimaooaaRows
import Derived.Test.YtbjngeaoimaooaaBase
import Derived.Test.YtbjngeaoimaooaaFeedY
set_option linter.unusedVariables false
set_option linter.unusedSimpArgs false
namespace Go.Proofs.Ytbjngeaoimaooaa.feedStuck
open Go.ChangeShapes Go.WideShapes Go.ChangeAt Go.RowKit Go.Joins
open Go.ChangeMaps (open_string)
set_option maxHeartbeats 2000000 in
set_option maxRecDepth 100000 in
theorem walk (s : ByteArray) (hs : s.size ≤ 1048576) (m : ByteArray) (hm : m.size ≤ 1048576) (w : World) :
    Calls Try.prog 6 #[.string s, .string m] w fun e w' => e = .returned (.bool true) ∧ Below w.heap.size w w' := by
  have hP := push_first s (by omega)
  have hn := feedF_e s.data.toList
  generalize feedF s.data.toList = r at *
  by_cases he : r.e = 3
  · have HP := Lib.hid (fun w g hb => (hP w g hb).mono fun e w' h => h.ok he)
    clear he hP hn
    go_enter Try.func6, Try.ntmps6
    go_wp2_with fail
    refine (fed_any _).mono ?_
    rintro e w1 ⟨rfl, hb1⟩
    go_wp2_with fail
    refine (new_any _).mono ?_
    rintro e w2 ⟨rfl, rfl⟩
    have b0 := Blk.new w1 43 #[.string ByteArray.empty, .int .i64 0, .int .i64 0]
    have hB := hb1.alloc hb1.size (.cells #[.string ByteArray.empty, .int .i64 0, .int .i64 0] 43)
    have hs1 := hb1.size
    generalize w1.alloc (.cells #[.string ByteArray.empty, .int .i64 0, .int .i64 0] 43) = w2 at *
    go_wp2_with fail
    refine (HP.out w2 _ b0).mono ?_
    rintro e w3 ⟨p3, q3, rfl, ho3, b3, ha3⟩
    have hB3 := hB.trans (ha3.toBelow hs1 hB.size)
    clear ho3 ha3 b3
    go_wp2_with fail
    go_ret
    exact ⟨rfl, hB3⟩
  · have hb0 : ((r.e : Int) == 0) = false := beq_eq_false_iff_ne.2 (by omega)
    have hst : ((r.e : Int)) ≠ 0 := by omega
    have HP := Lib.hid (fun w g hb => (hP w g hb).mono fun e w' h => h.bad he)
    clear he hP hn
    go_enter Try.func6, Try.ntmps6
    go_wp2_with fail
    refine (fed_any _).mono ?_
    rintro e w1 ⟨rfl, hb1⟩
    go_wp2_with fail
    refine (new_any _).mono ?_
    rintro e w2 ⟨rfl, rfl⟩
    have b0 := Blk.new w1 43 #[.string ByteArray.empty, .int .i64 0, .int .i64 0]
    have hB := hb1.alloc hb1.size (.cells #[.string ByteArray.empty, .int .i64 0, .int .i64 0] 43)
    have hs1 := hb1.size
    generalize w1.alloc (.cells #[.string ByteArray.empty, .int .i64 0, .int .i64 0] 43) = w2 at *
    go_wp2_with fail
    refine (HP.out w2 _ b0).mono ?_
    rintro e w3 ⟨p3, q3, rfl, ho3, b3, ha3⟩
    have hB3 := hB.trans (ha3.toBelow hs1 hB.size)
    clear ho3 ha3
    go_wp2_with fail
    refine (at_any w1.heap.size _ _ _ _ b3).mono ?_
    rintro e w5 ⟨rfl, rfl⟩
    go_wp2_with fail
    refine (push_stuck w1.heap.size _ _ m _ hst _ b3).mono ?_
    rintro e w6 ⟨rfl, hb6⟩
    have b6 := b3.below hb6 b3.lt
    have hB6 := hB3.trans (hb6.mono hB3.size)
    go_wp2_with fail
    refine (at_any w1.heap.size _ _ _ _ b6).mono ?_
    rintro e w5 ⟨rfl, rfl⟩
    go_wp2_with fail
    refine (left_any w1.heap.size _ _ _ _ b6).mono ?_
    rintro e w5 ⟨rfl, rfl⟩
    go_wp2_with fail
    go_ret
    exact ⟨rfl, hB6⟩

theorem own : ownKnob Try.prog.godebug = none := by kernel_rfl
theorem laid : laidOutB Try.prog = true := by kernel_rfl
set_option maxRecDepth 100000 in
theorem contract (H : Type) (enc : TypeId × Value → H) (W : World) (base : Nat) (args : Array Value) (ds gs : List (DataW H)) (before : List MemPlace)
    (hval0 : ∀ (j : Nat) t v, Try.f6.params[j]? = some t → args[j]? = some v → Value.okWide Try.prog W .any base t v)
    (hW : DataW.Whole enc Try.prog Try.f6.params.toList Rows.feedStuckSpec.vars false W args.toList ds gs before)
    (hsz0 : (DataW.weightsEach Try.prog (Try.f6.params.toList ++ Rows.feedStuckSpec.plain.varTypes Try.prog) (ds ++ gs)).all (· ≤ reachBytes) = true)
    (hk : Rows.uptoSmall H (ds ++ gs) = true) :
    Calls Try.prog 6 args W fun e W' => ∃ v, e = .returned v ∧ Rows.feedStuckSpec.post enc Try.prog Try.f6 false true false false W args v W' := by
  have hval : ∀ (j : Nat) t v, Try.f6.params[j]? = some t → args[j]? = some v → Value.okWide Try.prog W .any base t v := hval0
  have hsz : (DataW.weightsEach Try.prog (Try.f6.params.toList ++ Rows.feedStuckSpec.plain.varTypes Try.prog) (ds ++ gs)).all (· ≤ reachBytes) = true := hsz0
  have hlt : ∀ x ∈ before, x.block < W.heap.size := fun x hx => hW.lt x hx
  have hW' := hW
  obtain ⟨p, q, hA0, hV, rfl, hfz, hnd⟩ := hW
  have hA : DataW.TrodAll enc Try.prog W 0 (fun _ => true) true Try.f6.params.toList args.toList ds p := hA0
  rw [Try.params6] at hA hval hsz
  obtain ⟨v0, vs0, d0, ds0, p0, q0, hargs, rfl, rfl, h0, r0⟩ := trodAll_cons hA
  obtain ⟨v1, vs1, d1, ds1, p1, q1, rfl, rfl, rfl, h1, r1⟩ := trodAll_cons r0
  obtain ⟨rfl, rfl, rfl⟩ := trodAll_nil r1
  obtain rfl : args = #[v0, v1] := by cases args; simp_all
  obtain ⟨rfl, rfl⟩ := trodVars_none hV
  obtain ⟨a0, rfl, rfl, rfl, w0⟩ := open_string Try.underlying9 (hval 0 9 v0 rfl rfl) h0
  have b0 : a0.size ≤ 140737488351232 := by have := sized_string hsz (j := 0) (t := 9) rfl rfl; simpa [reachBytes] using this
  obtain ⟨a1, rfl, rfl, rfl, w1⟩ := open_string Try.underlying9 (hval 1 9 v1 rfl rfl) h1
  have b1 : a1.size ≤ 140737488351232 := by have := sized_string hsz (j := 1) (t := 9) rfl rfl; simpa [reachBytes] using this
  have hB := of_decide_eq_true hk
  simp only [List.append_nil, List.cons_append, List.nil_append, Rows.uptoBulkAll, Rows.uptoBulk] at hB
  have u0 : a0.size ≤ 1048576 := by have hl : a0.data.toList.length = a0.size := (by simp); omega
  have u1 : a1.size ≤ 1048576 := by have hl : a1.data.toList.length = a1.size := (by simp); omega
  refine (walk a0 u0 a1 u1 W).mono fun e W' ⟨he, hb⟩ => ?_
  subst he
  exact ⟨_, rfl, law_post laid (by kernel_rfl) Try.underlying4 rfl rfl hW' rfl rfl rfl rfl hb⟩

set_option maxRecDepth 100000 in
theorem lifted (os : Os) (started : os.Started) (H : Type) (enc : TypeId × Value → H) (F : Stop.Interp) :
    ReturnsInHanded {} Try.checked os 6 .any ((Rows.OpenSpec.upto Rows.feedStuckSpec).pre6 enc Try.prog Try.f6 Rows.feedStuckUptoRow.domain false) (((Rows.OpenSpec.upto Rows.feedStuckSpec).at F).post enc Try.prog Try.f6 false true false false) := by
  refine returnsInHanded_of_cond_sized (C := Try.checked) (s := Rows.OpenSpec.upto Rows.feedStuckSpec) (k := Rows.uptoSmall) rfl own started (by kernel_rfl) Try.func6
    (OpenSpec.witness (enc := enc) (C := Try.checked) (s := Rows.OpenSpec.upto Rows.feedStuckSpec) (k := Rows.uptoSmall) rfl false ⟨#[], #[.string ByteArray.empty, .string ByteArray.empty], []⟩ 8 (by kernel_rfl) (by kernel_rfl) (by kernel_rfl)
      (x := ([.lit (.string []), .lit (.string [])], [], [])) (by kernel_rfl) rfl (by kernel_rfl)) ?_
  intro W base args ds gs before hval0 hW _ hk hsz0 _
  exact contract H enc W base args ds gs before hval0 hW hsz0 hk

theorem over : Rows.feedStuckUptoRow.holds Try.pinned (Rows.OpenSpec.upto Rows.feedStuckSpec) :=
  OpenClaim.holds_of_cond 6 Try.f6 rfl rfl rfl rfl rfl rfl rfl ⟨rfl, rfl, rfl, rfl, rfl⟩ rfl rfl rfl rfl rfl (by kernel_rfl) Try.func6 (by kernel_rfl)
    (of_decide_eq_true (by kernel_rfl)) (by unfold Func.isWrapper; first | (rw [if_pos (by decide +kernel)]; kernel_rfl) | (rw [if_neg (by decide +kernel)]; exact ⟨rfl, rfl⟩))
    (fun os started H enc _ F => lifted os started H enc F)

/-- The statement. -/
theorem proved : Rows.FeedStuckUptoSaid := over
#print axioms proved
end Go.Proofs.Ytbjngeaoimaooaa.feedStuck
