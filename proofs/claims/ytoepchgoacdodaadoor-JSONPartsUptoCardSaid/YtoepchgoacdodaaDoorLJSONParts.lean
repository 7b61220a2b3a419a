/-
  The law JSONParts of package brackenkeep: for every input it answers true.
-/
import Derived.Test.YtoepchgoacdodaaDoorRows
import Derived.Test.YtoepchgoacdodaaDoorBase
import Derived.Test.YtoepchgoacdodaaDoorLaidP
import Derived.BigQuiet
import Derived.Test.YtoepchgoacdodaaDoorJsonD
import Derived.Test.YtoepchgoacdodaaDoorJsonR
set_option linter.unusedVariables false
set_option linter.unusedSimpArgs false
namespace Go.Proofs.YtoepchgoacdodaaDoor.jSONParts
open Go.ChangeShapes Go.WideShapes Go.ChangeAt Go.RowKit Go.Joins
open Go.ChangeMaps (open_string)
set_option maxHeartbeats 8000000 in
set_option maxRecDepth 100000 in
theorem walk (a : ByteArray) (ha : a.size ≤ 1048576) (b : ByteArray) (hb : b.size ≤ 1048576) (w : World) (hT : LibP w.heap.size w) :
    Calls Tryd.prog 4 #[.string a, .string b] w fun e w' => e = .returned (.bool true) ∧ Below w.heap.size w w' := by
  have HX := Lib.hid (fun (W : World) => Quote_any a W (by omega))
  have HY := Lib.hid (fun (W : World) => Quote_any b W (by omega))
  have hab : (a ++ b).size = a.size + b.size := ByteArray.size_append
  have HZ := Lib.hid (fun (W : World) => Quote_any (a ++ b) W (by omega))
  have hadd : ∀ W, (Op.stringOp .add a b).run Tryd.prog W = .ok (.string (a ++ b)) W := fun W => run_string_add_sum W _ _ (by omega)
  have hl := quoteL_app a.data.toList b.data.toList
  have h1 := quoteL_len a.data.toList
  have h2 := quoteL_len b.data.toList
  rw [bl_len] at h1 h2
  have hcat : (a ++ b).data.toList = a.data.toList ++ b.data.toList := by rw [ByteArray.data_append, Array.toList_append]
  rw [hcat] at HZ
  have hx : (bstr (quoteL a.data.toList)).size = (quoteL a.data.toList).length := bstr_size _
  have hy : (bstr (quoteL b.data.toList)).size = (quoteL b.data.toList).length := bstr_size _
  have he : bstr (quoteL (a.data.toList ++ b.data.toList)) = (bstr (quoteL a.data.toList)).extract 0 ((quoteL a.data.toList).length - 1) ++ (bstr (quoteL b.data.toList)).extract 1 (quoteL b.data.toList).length := by
    apply bext
    rw [bstr_list, hl, ByteArray.data_append, Array.toList_append, extract_list, extract_list, bstr_list, bstr_list]
    simp
    rw [List.take_of_length_le (by simp)]
  rw [← hx, ← hy] at he
  rw [← hx] at h1
  rw [← hy] at h2
  generalize bstr (quoteL a.data.toList) = x at *
  generalize bstr (quoteL b.data.toList) = y at *
  generalize bstr (quoteL (a.data.toList ++ b.data.toList)) = z at *
  have HE := Lib.hid he
  have hadd2 : ∀ W, (Op.stringOp .add (x.extract 0 (x.size - 1)) (y.extract 1 y.size)).run Tryd.prog W = .ok (.string (x.extract 0 (x.size - 1) ++ y.extract 1 y.size)) W := fun W => run_string_add_sum W _ _ (by rw [ByteArray.size_extract, ByteArray.size_extract]; omega)
  rw [← he] at hadd2
  have g1 : decide ((x.size : Int) > 1) = true := by simp; omega
  have g2 : decide ((y.size : Int) > 1) = true := by simp; omega
  clear hl hcat hx hy he hab
  go_enter Tryd.func4, Tryd.ntmps4
  go_wp2_with fail
  refine (printedF_any w hT).mono ?_
  rintro e w1 ⟨rfl, hb1⟩
  go_wp2_with fail
  refine (HX.out w1).mono ?_
  rintro e w2 ⟨rfl, hb2⟩
  have hB2 := bthen hb1 hb2
  go_wp2_with fail
  refine (HY.out w2).mono ?_
  rintro e w3 ⟨rfl, hb3⟩
  have hB3 := bthen hB2 hb3
  go_wp2_with fail
  refine (HZ.out w3).mono ?_
  rintro e w4 ⟨rfl, hb4⟩
  have hB4 := bthen hB3 hb4
  clear hadd HX HY HZ hT
  go_wp2_with fail
  have i1 : (1 : Int) < (x.size : Int) := by omega
  have i2 : (1 : Int) < (y.size : Int) := by omega
  have i3 : (0 : Int) ≤ (x.size : Int) - 1 := by omega
  have i4 : (x.size : Int) - 1 ≤ (x.size : Int) := by omega
  have i5 : (1 : Int) ≤ (y.size : Int) := by omega
  have i6 : ((x.size : Int) - 1).toNat = x.size - 1 := by omega
  have hz : (z.toList == z.toList) = true := by simp
  go_big_quiet (fail)
  go_wp2_with fail
  go_ret
  exact ⟨rfl, below_drewN hB4 nq⟩

theorem own : ownKnob Tryd.prog.godebug = none := by kernel_rfl
theorem laid : laidOutB Tryd.prog = true := by kernel_rfl
set_option maxRecDepth 100000 in
theorem contract (H : Type) (enc : TypeId × Value → H) (W : World) (base : Nat) (args : Array Value) (ds gs : List (DataW H)) (before : List MemPlace)
    (hval0 : ∀ (j : Nat) t v, Tryd.f4.params[j]? = some t → args[j]? = some v → Value.okWide Tryd.prog W .any base t v)
    (hW : DataW.Whole enc Tryd.prog Tryd.f4.params.toList Rows.jSONPartsSpec.vars false W args.toList ds gs before)
    (hsz0 : (DataW.weightsEach Tryd.prog (Tryd.f4.params.toList ++ Rows.jSONPartsSpec.plain.varTypes Tryd.prog) (ds ++ gs)).all (· ≤ reachBytes) = true)
    (hk : Rows.uptoSmall H (ds ++ gs) = true)
    (hT : LibP W.heap.size W) :
    Calls Tryd.prog 4 args W fun e W' => ∃ v, e = .returned v ∧ Rows.jSONPartsSpec.post enc Tryd.prog Tryd.f4 false true false false W args v W' := by
  have hval : ∀ (j : Nat) t v, Tryd.f4.params[j]? = some t → args[j]? = some v → Value.okWide Tryd.prog W .any base t v := hval0
  have hsz : (DataW.weightsEach Tryd.prog (Tryd.f4.params.toList ++ Rows.jSONPartsSpec.plain.varTypes Tryd.prog) (ds ++ gs)).all (· ≤ reachBytes) = true := hsz0
  have hlt : ∀ x ∈ before, x.block < W.heap.size := fun x hx => hW.lt x hx
  have hW' := hW
  obtain ⟨p, q, hA0, hV, rfl, hfz, hnd⟩ := hW
  have hA : DataW.TrodAll enc Tryd.prog W 0 (fun _ => true) true Tryd.f4.params.toList args.toList ds p := hA0
  rw [Tryd.params4] at hA hval hsz
  obtain ⟨v0, vs0, d0, ds0, p0, q0, hargs, rfl, rfl, h0, r0⟩ := trodAll_cons hA
  obtain ⟨v1, vs1, d1, ds1, p1, q1, rfl, rfl, rfl, h1, r1⟩ := trodAll_cons r0
  obtain ⟨rfl, rfl, rfl⟩ := trodAll_nil r1
  obtain rfl : args = #[v0, v1] := by cases args; simp_all
  obtain ⟨rfl, rfl⟩ := trodVars_none hV
  obtain ⟨a0, rfl, rfl, rfl, w0⟩ := open_string Tryd.underlying9 (hval 0 9 v0 rfl rfl) h0
  have b0 : a0.size ≤ 140737488351232 := by have := sized_string hsz (j := 0) (t := 9) rfl rfl; simpa [reachBytes] using this
  obtain ⟨a1, rfl, rfl, rfl, w1⟩ := open_string Tryd.underlying9 (hval 1 9 v1 rfl rfl) h1
  have b1 : a1.size ≤ 140737488351232 := by have := sized_string hsz (j := 1) (t := 9) rfl rfl; simpa [reachBytes] using this
  have hB := of_decide_eq_true hk
  simp only [List.append_nil, List.cons_append, List.nil_append, Rows.uptoBulkAll, Rows.uptoBulk] at hB
  have u0 : a0.size ≤ 1048576 := by have hl : a0.data.toList.length = a0.size := (by simp); omega
  have u1 : a1.size ≤ 1048576 := by have hl : a1.data.toList.length = a1.size := (by simp); omega
  refine (walk a0 u0 a1 u1 W hT).mono fun e W' ⟨he, hb⟩ => ?_
  subst he
  exact ⟨_, rfl, law_post laid (by kernel_rfl) Tryd.underlying4 rfl rfl hW' rfl rfl rfl rfl hb⟩

theorem reads (os : Os) {H : Type} (enc : TypeId × Value → H) : ∃ places, DataW.whole enc Tryd.prog ((laidWorldP os).forCall (fun _ _ => 0) ⟨#[], #[.string ByteArray.empty, .string ByteArray.empty], []⟩).memory Tryd.f4.params.toList Rows.jSONPartsSpec.vars false (#[.string ByteArray.empty, .string ByteArray.empty] : Array Value).toList 8 = some ([.lit (.string []), .lit (.string [])], [], places) :=
  ⟨[], by kernel_rfl⟩
set_option maxRecDepth 100000 in
theorem lifted (os : Os) (started : os.Started) (H : Type) (enc : TypeId × Value → H) (F : Stop.Interp) :
    ReturnsInHanded {} Tryd.checked os 4 .any ((Rows.OpenSpec.upto Rows.jSONPartsSpec).preRow enc Tryd.prog Tryd.f4 Rows.jSONPartsUptoRow.domain false Rows.jSONPartsUptoRow.laid) (((Rows.OpenSpec.upto Rows.jSONPartsSpec).at F).post enc Tryd.prog Tryd.f4 false true false false) := by
  obtain ⟨places, hx⟩ := reads os enc
  refine returnsInHanded_of_row (C := Tryd.checked) (s := (Rows.OpenSpec.upto Rows.jSONPartsSpec)) own started (by kernel_rfl) Tryd.func4
    (witness_row_atRef (enc := enc) (C := Tryd.checked) false (laidWorldP os) #[.string ByteArray.empty, .string ByteArray.empty] rfl (by kernel_rfl) (by kernel_rfl) (by kernel_rfl)
      (OpenSpec.preRow_of_cond 8 hx (by kernel_rfl) (fun k hk => by cases hk; kernel_rfl) (by kernel_rfl) (laid_metP os _))) ?_
  intro W base args ds gs before hval0 hW _ hcond hsz0 hL _ _
  exact contract H enc W base args ds gs before hval0 hW hsz0 (hcond _ rfl) (libP_of_laid hL)

theorem said : Rows.JSONPartsUptoSaid :=
  OpenClaim.holds_of_cond 4 Tryd.f4 rfl rfl rfl rfl rfl rfl rfl ⟨rfl, rfl, rfl, rfl, rfl⟩ rfl rfl rfl rfl rfl (by kernel_rfl) Tryd.func4 (by kernel_rfl)
    (of_decide_eq_true (by kernel_rfl)) (by unfold Func.isWrapper; first | (rw [if_pos (by decide +kernel)]; kernel_rfl) | (rw [if_neg (by decide +kernel)]; exact ⟨rfl, rfl⟩))
    (fun os started H enc _ F => by rw [OpenClaim.pre_eq_preRow]; exact lifted os started H enc F)

/-- No parameter wants a stand-in; the program's own looks are off. -/
theorem plain (f : FuncId) (fn : Func) (hf : Tryd.pinned.checked.prog.funcNamed "bracken/brackenkeep.JSONParts" = some f) (hfn : Tryd.pinned.checked.prog.funcs[f]? = some fn) :
    false = Tryd.pinned.checked.prog.looks [] ∧ ∀ (j : Nat) t, fn.params[j]? = some t → Tryd.pinned.checked.prog.wantsStandIn t = false := by
  obtain rfl : f = 4 := Option.some.inj ((show Tryd.prog.funcNamed "bracken/brackenkeep.JSONParts" = some 4 by kernel_rfl).symm.trans hf) |>.symm
  obtain rfl : fn = Tryd.f4 := (Option.some.inj (Tryd.func4.symm.trans hfn)).symm
  refine ⟨by kernel_rfl, fun j t ht => ?_⟩
  rw [Tryd.params4] at ht
  have hm := Array.mem_of_getElem? ht
  have hall : (#[9, 9] : Array TypeId).all (fun t => !Tryd.prog.wantsStandIn t) = true := by kernel_rfl
  have := Array.all_eq_true_iff_forall_mem.1 hall t (by simpa using hm)
  show Tryd.prog.wantsStandIn t = false
  simpa using this

/-- The statement. -/
theorem proved : Rows.JSONPartsUptoCardSaid :=
  Claim7.holds_tied_plain_at .later [] _ _ _ _ said (fun _ h => by cases h) (by kernel_rfl) (fun _ h => by cases h) jSONPartsUpto_row_tie rfl ⟨rfl, rfl⟩ (by kernel_rfl) rfl plain (by kernel_rfl)
#print axioms proved
end Go.Proofs.YtoepchgoacdodaaDoor.jSONParts
