/-
  The law TextBack of package brackenkeep: for every input it answers true.
-/
import Derived.Test.YtbjngeaoimaooaaDoorRows
import Derived.Test.YtbjngeaoimaooaaDoorBase
import Derived.Test.YtbjngeaoimaooaaDoorLaid
import Derived.Test.YtbjngeaoimaooaaDoorPrimI
import Derived.Test.YtbjngeaoimaooaaDoorTextL
set_option linter.unusedVariables false
set_option linter.unusedSimpArgs false
namespace Go.Proofs.YtbjngeaoimaooaaDoor.textBack
open Go.ChangeShapes Go.WideShapes Go.ChangeAt Go.RowKit Go.Joins
open Go.ChangeMaps (open_string)
/-- What the second half of the law meets. -/
theorem half (m : ByteArray) (hm : m.size ≤ 140737488351232) :
    (∃ (u : ByteArray) (k : Nat), (∀ w, Tabs w → Calls Tryd.prog 13 #[.string m] w fun e w' => e = .returned (.tuple #[.string u, .int .i64 (k : Int), .int .i64 0]) ∧ Below w.heap.size w w') ∧
      (∀ w, Tabs w → Calls Tryd.prog 12 #[.string u] w fun e w' => e = .returned (.tuple #[.string (m.extract 0 k), .int .i64 0]) ∧ Below w.heap.size w w') ∧ k ≤ m.size) ∨
    (∃ x : Nat, x ≠ 0 ∧ ∀ w, Tabs w → Calls Tryd.prog 13 #[.string m] w fun e w' => e = .returned (.tuple #[.string ByteArray.empty, .int .i64 0, .int .i64 (x : Int)]) ∧ Below w.heap.size w w') := by
  have hR := fun w hT => readText_any m w (by omega) hT
  have herr := rdT_err m.data.toList
  have hinv := rdT_inv m.data.toList
  rw [bl_len] at hinv
  by_cases h0 : (rdT m.data.toList).2.2 = 0
  · obtain ⟨g1, g2, g3, g4, g5⟩ := hinv h0
    have hZ := fun w hT => text_ok (bstr (rdT m.data.toList).1) w hT (textE_l.2 ⟨g1, g2⟩)
    rw [bstr_list, g3] at hZ
    rw [h0] at hR
    have hx : bstr (m.data.toList.take (rdT m.data.toList).2.1) = m.extract 0 (rdT m.data.toList).2.1 := by apply bext; rw [bstr_list, extract_list]; simp
    rw [hx] at hZ
    exact .inl ⟨_, _, hR, hZ, g4⟩
  · rw [herr h0] at hR
    exact .inr ⟨_, h0, hR⟩
set_option maxHeartbeats 2000000 in
set_option maxRecDepth 100000 in
theorem walk (s : ByteArray) (hs : s.size ≤ 140737488351232) (m : ByteArray) (hm : m.size ≤ 140737488351232) (w : World) (hT : Tabs w) :
    Calls Tryd.prog 3 #[.string s, .string m] w fun e w' => e = .returned (.bool true) ∧ Below w.heap.size w w' := by
  have HS := Lib.hid (half m hm)
  by_cases hs0 : textE s = 0
  · obtain ⟨h16, hv⟩ := textE_0.1 hs0
    have hX := fun w hT => text_ok s w hT hs0
    have hb := rdT_text s.data.toList m.data.toList (by rw [bl_len]; exact h16) hv
    have hcat : (bstr (textB s.data.toList) ++ m).data.toList = textB s.data.toList ++ m.data.toList := by rw [ByteArray.data_append, Array.toList_append, bstr_list]
    have hBs : (bstr (textB s.data.toList)).size = (textB s.data.toList).length := bstr_size _
    have hBl : (textB s.data.toList).length ≤ 26 := by
      have := putN_len10 s.data.toList.length (by rw [bl_len]; omega)
      unfold textB; rw [List.length_append, bl_len]; rw [bl_len] at this; omega
    have hY := fun w hT => readText_any (bstr (textB s.data.toList) ++ m) w (by rw [ByteArray.size_append]; omega) hT
    rw [hcat, hb] at hY
    simp only [] at hY
    rw [bstr_self, ← hBs] at hY
    have hadd : ∀ W, (Op.stringOp .add (bstr (textB s.data.toList)) m).run Tryd.prog W = .ok (.string (bstr (textB s.data.toList) ++ m)) W := fun W => run_string_add_sum W _ _ (by omega)
    generalize bstr (textB s.data.toList) = T at *
    have HX := Lib.hid hX
    have HY := Lib.hid hY
    clear hX hY hb hcat hBs hv hs0 hBl
    go_enter Tryd.func3, Tryd.ntmps3
    go_wp2_with fail
    refine (told_any _).mono ?_
    rintro e w1 ⟨rfl, rfl⟩
    go_wp2_with fail
    refine (HX.out _ hT).mono ?_
    rintro e w1 ⟨rfl, hb1⟩
    go_wp2_with fail
    refine (HY.out _ (hT.below hb1)).mono ?_
    rintro e w2 ⟨rfl, hb2⟩
    have hb3 := bthen hb1 hb2
    clear hadd
    rcases HS.out with ⟨u, k, hR, hZ, hk⟩ | ⟨x, hx, hR⟩
    · have HR := Lib.hid hR
      have HZ := Lib.hid hZ
      have i2 : (k : Int) ≤ (m.size : Int) := by omega
      clear hR hZ
      go_wp2_with fail
      refine (HR.out _ (hT.below hb3)).mono ?_
      rintro e w3 ⟨rfl, hb4⟩
      have hb5 := bthen hb3 hb4
      go_wp2_with fail
      refine (HZ.out _ (hT.below hb5)).mono ?_
      rintro e w4 ⟨rfl, hb6⟩
      have hb7 := bthen hb5 hb6
      go_wp2_with fail
      go_ret
      exact ⟨rfl, hb7⟩
    · have HR := Lib.hid hR
      have hx1 : ((x : Int) != 0) = true := by rw [bne_iff_ne]; omega
      clear hR hx
      go_wp2_with fail
      refine (HR.out _ (hT.below hb3)).mono ?_
      rintro e w3 ⟨rfl, hb4⟩
      have hb5 := bthen hb3 hb4
      go_wp2_with fail
      go_ret
      exact ⟨rfl, hb5⟩
  · have hX := fun w hT => text_bad s w (by omega) hT hs0
    have hx1 : ((textE s : Int) == 0) = false := beq_eq_false_iff_ne.2 (by omega)
    have HX := Lib.hid hX
    clear hX hs0
    go_enter Tryd.func3, Tryd.ntmps3
    go_wp2_with fail
    refine (told_any _).mono ?_
    rintro e w1 ⟨rfl, rfl⟩
    go_wp2_with fail
    refine (HX.out _ hT).mono ?_
    rintro e w1 ⟨rfl, hb3⟩
    rcases HS.out with ⟨u, k, hR, hZ, hk⟩ | ⟨x, hx, hR⟩
    · have HR := Lib.hid hR
      have HZ := Lib.hid hZ
      have i2 : (k : Int) ≤ (m.size : Int) := by omega
      clear hR hZ
      go_wp2_with fail
      refine (HR.out _ (hT.below hb3)).mono ?_
      rintro e w3 ⟨rfl, hb4⟩
      have hb5 := bthen hb3 hb4
      go_wp2_with fail
      refine (HZ.out _ (hT.below hb5)).mono ?_
      rintro e w4 ⟨rfl, hb6⟩
      have hb7 := bthen hb5 hb6
      go_wp2_with fail
      go_ret
      exact ⟨rfl, hb7⟩
    · have HR := Lib.hid hR
      have hx1 : ((x : Int) != 0) = true := by rw [bne_iff_ne]; omega
      clear hR hx
      go_wp2_with fail
      refine (HR.out _ (hT.below hb3)).mono ?_
      rintro e w3 ⟨rfl, hb4⟩
      have hb5 := bthen hb3 hb4
      go_wp2_with fail
      go_ret
      exact ⟨rfl, hb5⟩

theorem own : ownKnob Tryd.prog.godebug = none := by kernel_rfl
theorem laid : laidOutB Tryd.prog = true := by kernel_rfl
set_option maxRecDepth 100000 in
theorem contract (H : Type) (enc : TypeId × Value → H) (W : World) (base : Nat) (args : Array Value) (ds gs : List (DataW H)) (before : List MemPlace)
    (hval0 : ∀ (j : Nat) t v, Tryd.f3.params[j]? = some t → args[j]? = some v → Value.okWide Tryd.prog W .any base t v)
    (hW : DataW.Whole enc Tryd.prog Tryd.f3.params.toList Rows.textBackSpec.vars false W args.toList ds gs before)
    (hsz0 : (DataW.weightsEach Tryd.prog (Tryd.f3.params.toList ++ Rows.textBackSpec.plain.varTypes Tryd.prog) (ds ++ gs)).all (· ≤ reachBytes) = true)
    (hT : Tabs W) :
    Calls Tryd.prog 3 args W fun e W' => ∃ v, e = .returned v ∧ Rows.textBackSpec.post enc Tryd.prog Tryd.f3 false true false false W args v W' := by
  have hval : ∀ (j : Nat) t v, Tryd.f3.params[j]? = some t → args[j]? = some v → Value.okWide Tryd.prog W .any base t v := hval0
  have hsz : (DataW.weightsEach Tryd.prog (Tryd.f3.params.toList ++ Rows.textBackSpec.plain.varTypes Tryd.prog) (ds ++ gs)).all (· ≤ reachBytes) = true := hsz0
  have hlt : ∀ x ∈ before, x.block < W.heap.size := fun x hx => hW.lt x hx
  have hW' := hW
  obtain ⟨p, q, hA0, hV, rfl, hfz, hnd⟩ := hW
  have hA : DataW.TrodAll enc Tryd.prog W 0 (fun _ => true) true Tryd.f3.params.toList args.toList ds p := hA0
  rw [Tryd.params3] at hA hval hsz
  obtain ⟨v0, vs0, d0, ds0, p0, q0, hargs, rfl, rfl, h0, r0⟩ := trodAll_cons hA
  obtain ⟨v1, vs1, d1, ds1, p1, q1, rfl, rfl, rfl, h1, r1⟩ := trodAll_cons r0
  obtain ⟨rfl, rfl, rfl⟩ := trodAll_nil r1
  obtain rfl : args = #[v0, v1] := by cases args; simp_all
  obtain ⟨rfl, rfl⟩ := trodVars_none hV
  obtain ⟨a0, rfl, rfl, rfl, w0⟩ := open_string Tryd.underlying9 (hval 0 9 v0 rfl rfl) h0
  have b0 : a0.size ≤ 140737488351232 := by have := sized_string hsz (j := 0) (t := 9) rfl rfl; simpa [reachBytes] using this
  obtain ⟨a1, rfl, rfl, rfl, w1⟩ := open_string Tryd.underlying9 (hval 1 9 v1 rfl rfl) h1
  have b1 : a1.size ≤ 140737488351232 := by have := sized_string hsz (j := 1) (t := 9) rfl rfl; simpa [reachBytes] using this
  refine (walk a0 b0 a1 b1 W hT).mono fun e W' ⟨he, hb⟩ => ?_
  subst he
  exact ⟨_, rfl, law_post laid (by kernel_rfl) Tryd.underlying4 rfl rfl hW' rfl rfl rfl rfl hb⟩

theorem reads (os : Os) {H : Type} (enc : TypeId × Value → H) : ∃ places, DataW.whole enc Tryd.prog ((laidWorld os).forCall (fun _ _ => 0) ⟨#[], #[.string ByteArray.empty, .string ByteArray.empty], []⟩).memory Tryd.f3.params.toList Rows.textBackSpec.vars false (#[.string ByteArray.empty, .string ByteArray.empty] : Array Value).toList 8 = some ([.lit (.string []), .lit (.string [])], [], places) :=
  ⟨[], by kernel_rfl⟩
set_option maxRecDepth 100000 in
theorem lifted (os : Os) (started : os.Started) (H : Type) (enc : TypeId × Value → H) (F : Stop.Interp) :
    ReturnsInHanded {} Tryd.checked os 3 .any ((OpenSpec.ofChange Rows.textBackSpec).preRow enc Tryd.prog Tryd.f3 Rows.textBackRow.domain false Rows.textBackRow.laid) (((OpenSpec.ofChange Rows.textBackSpec).at F).post enc Tryd.prog Tryd.f3 false true false false) := by
  obtain ⟨places, hx⟩ := reads os enc
  refine returnsInHanded_of_row (C := Tryd.checked) (s := (OpenSpec.ofChange Rows.textBackSpec)) own started (by kernel_rfl) Tryd.func3
    (witness_row_atRef (enc := enc) (C := Tryd.checked) false (laidWorld os) #[.string ByteArray.empty, .string ByteArray.empty] rfl (by kernel_rfl) (by kernel_rfl) (by kernel_rfl)
      (OpenSpec.preRow_of_cond 8 hx (by kernel_rfl) (fun k hk => by cases hk) (by kernel_rfl) (laid_met os _))) ?_
  intro W base args ds gs before hval0 hW _ hcond hsz0 hL _ _
  exact contract H enc W base args ds gs before hval0 hW hsz0 (tabs_of_laid hL)

theorem said : Rows.TextBackSaid :=
  OpenClaim.holds_of_cond 3 Tryd.f3 rfl rfl rfl rfl rfl rfl rfl ⟨rfl, rfl, rfl, rfl, rfl⟩ rfl rfl rfl rfl rfl (by kernel_rfl) Tryd.func3 (by kernel_rfl)
    (of_decide_eq_true (by kernel_rfl)) (by unfold Func.isWrapper; first | (rw [if_pos (by decide +kernel)]; kernel_rfl) | (rw [if_neg (by decide +kernel)]; exact ⟨rfl, rfl⟩))
    (fun os started H enc _ F => by rw [OpenClaim.pre_eq_preRow]; exact lifted os started H enc F)

/-- No parameter wants a stand-in; the program's own looks are off. -/
theorem plain (f : FuncId) (fn : Func) (hf : Tryd.pinned.checked.prog.funcNamed "bracken/brackenkeep.TextBack" = some f) (hfn : Tryd.pinned.checked.prog.funcs[f]? = some fn) :
    false = Tryd.pinned.checked.prog.looks [] ∧ ∀ (j : Nat) t, fn.params[j]? = some t → Tryd.pinned.checked.prog.wantsStandIn t = false := by
  obtain rfl : f = 3 := Option.some.inj ((show Tryd.prog.funcNamed "bracken/brackenkeep.TextBack" = some 3 by kernel_rfl).symm.trans hf) |>.symm
  obtain rfl : fn = Tryd.f3 := (Option.some.inj (Tryd.func3.symm.trans hfn)).symm
  refine ⟨by kernel_rfl, fun j t ht => ?_⟩
  rw [Tryd.params3] at ht
  have hm := Array.mem_of_getElem? ht
  have hall : (#[9, 9] : Array TypeId).all (fun t => !Tryd.prog.wantsStandIn t) = true := by kernel_rfl
  have := Array.all_eq_true_iff_forall_mem.1 hall t (by simpa using hm)
  show Tryd.prog.wantsStandIn t = false
  simpa using this

/-- The statement. -/
theorem proved : Rows.TextBackCardSaid :=
  Claim7.holds_tied_plain_at .later [] _ _ _ _ said (fun _ h => by cases h) (by kernel_rfl) (fun _ h => by cases h) textBack_row_tie rfl ⟨rfl, rfl⟩ (by kernel_rfl) rfl plain (by kernel_rfl)
#print axioms proved
end Go.Proofs.YtbjngeaoimaooaaDoor.textBack
