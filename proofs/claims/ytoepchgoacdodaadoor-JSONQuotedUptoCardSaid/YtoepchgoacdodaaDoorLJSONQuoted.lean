/-
  The law JSONQuoted of package brackenkeep: for every input it answers true.
-/
import Derived.Test.YtoepchgoacdodaaDoorRows
import Derived.Test.YtoepchgoacdodaaDoorBase
import Derived.Test.YtoepchgoacdodaaDoorLaidP
import Derived.BigQuiet
import Derived.Test.YtoepchgoacdodaaDoorJsonD
import Derived.Test.YtoepchgoacdodaaDoorJsonR
set_option linter.unusedVariables false
set_option linter.unusedSimpArgs false
namespace Go.Proofs.YtoepchgoacdodaaDoor.jSONQuoted
open Go.ChangeShapes Go.WideShapes Go.ChangeAt Go.RowKit Go.Joins
open Go.ChangeMaps (open_string)
theorem quo_at {l : List UInt8} (h : Quo l) : (l = [34]) ∨ (∃ c r, l = c :: r ∧ 32 ≤ c.toNat ∧ c ≠ 34 ∧ c ≠ 92 ∧ Quo r) ∨ (∃ c r, l = 92 :: c :: r ∧ Quo r) := by
  cases h with
  | last => exact .inl rfl
  | plain a b c d => exact .inr (.inl ⟨_, _, rfl, a, b, c, d⟩)
  | esc d => exact .inr (.inr ⟨_, _, rfl, d⟩)
theorem get_of_drop {q : ByteArray} {i : Nat} {c : UInt8} {r : List UInt8} (h : q.data.toList.drop i = c :: r) : ∃ hi : i < q.size, q[i] = c ∧ q.data.toList.drop (i + 1) = r := by
  have hi : i < q.size := by
    rcases Nat.lt_or_ge i q.size with h1 | h1
    · exact h1
    · rw [List.drop_of_length_le (by simpa using h1)] at h; cases h
  have := drop_cons q i hi
  rw [h] at this
  injection this with h1 h2
  exact ⟨hi, h1.symm, h2.symm⟩
set_option maxHeartbeats 8000000 in
set_option maxRecDepth 100000 in
theorem walk (a : ByteArray) (ha : a.size ≤ 1048576) (b : ByteArray) (hb : b.size ≤ 1048576) (w : World) (hT : LibP w.heap.size w) :
    Calls Tryd.prog 3 #[.string a, .string b] w fun e w' => e = .returned (.bool true) ∧ Below w.heap.size w w' := by
  have HX := Lib.hid (fun (W : World) => Quote_any a W (by omega))
  have HY := Lib.hid (fun (W : World) => Quote_any b W (by omega))
  have h1 := quoteL_len a.data.toList
  rw [bl_len] at h1
  have hx : (bstr (quoteL a.data.toList)).size = (quoteL a.data.toList).length := bstr_size _
  rw [← hx] at h1
  have hq0 : (bstr (quoteL a.data.toList)).data.toList.drop 1 = quoteI a.data.toList ++ [34] := by rw [bstr_list]; rfl
  have hQ : Quo ((bstr (quoteL a.data.toList)).data.toList.drop 1) := by rw [hq0]; exact quo_quote _
  have hd0 : (bstr (quoteL a.data.toList)).data.toList.drop 0 = 34 :: (quoteI a.data.toList ++ [34]) := by rw [bstr_list]; rfl
  obtain ⟨hi0, he0, _⟩ := get_of_drop hd0
  have hdl : (bstr (quoteL a.data.toList)).data.toList.drop ((bstr (quoteL a.data.toList)).size - 1) = 34 :: [] := by
    rw [bstr_size, bstr_list]
    unfold quoteL
    rw [← List.cons_append, List.drop_append_of_le_length (by simp)]
    simp
  obtain ⟨hil, hel, _⟩ := get_of_drop hdl
  have heq : ((bstr (quoteL a.data.toList)).toList == (bstr (quoteL b.data.toList)).toList) = (a.toList == b.toList) := by
    by_cases h : a = b
    · subst h; simp
    · have h1 : (a.toList == b.toList) = false := beq_eq_false_iff_ne.2 (fun e => h (toList_inj e))
      rw [h1]
      refine beq_eq_false_iff_ne.2 (fun e => h (bext (quoteL_inj.1 ?_)))
      have := congrArg (fun x : ByteArray => x.data.toList) (toList_inj e)
      simpa only [bstr_list] using this
  generalize bstr (quoteL a.data.toList) = q at *
  generalize bstr (quoteL b.data.toList) = y at *
  have HE := Lib.hid heq
  have HQ := Lib.hid hQ
  clear hq0 hQ hd0 hdl hx heq
  have j0 : ¬ (q.size : Int) < (a.size : Int) + 2 := by omega
  have j1 : (q.size : Int) - 1 < (q.size : Int) := by omega
  have j2 : (0 : Int) ≤ (q.size : Int) - 1 := by omega
  have j3 : ((q.size : Int) - 1).toNat = q.size - 1 := by omega
  have j4 : (0 : Int) < (q.size : Int) := by omega
  have k0 : (((q[0]).toNat : Int) != 34) = false := by rw [he0]; rfl
  have k1 : (((q[q.size - 1]).toNat : Int) != 34) = false := by rw [hel]; rfl
  clear he0 hel
  go_enter Tryd.func3, Tryd.ntmps3
  go_wp2_with fail
  refine (printedF_any w hT).mono ?_
  rintro e w1 ⟨rfl, hb1⟩
  go_wp2_with fail
  refine (HX.out w1).mono ?_
  rintro e w2 ⟨rfl, hb2⟩
  have hB2 := bthen hb1 hb2
  go_wp2_with fail
  go_loopg [6] (q.size + 1) (fun gk i wx => ∃ k : Nat, i = .int .i64 k ∧ 1 ≤ k ∧ k ≤ q.size ∧ Hid (Quo (q.data.toList.drop k)) ∧ wx = w2 ∧ q.size < gk + k)
  case atStart => exact ⟨1, rfl, by omega, by omega, HQ, rfl, by omega⟩
  case round =>
    obtain ⟨k, rfl, hk1, hk2, H, rfl, hgk⟩ := hrel
    obtain ⟨gk', rfl⟩ : ∃ k, gk = k + 1 := ⟨gk - 1, by omega⟩
    have hkl : (q.data.toList.drop k).length = q.size - k := by simp
    rcases quo_at H.out with hl | ⟨c, r, hl, c1, c2, c3, hr⟩ | ⟨c, r, hl, hr⟩
    · rw [hl] at hkl
      have hke : k = q.size - 1 := by simp at hkl; omega
      have jn : ¬ (k : Int) < (q.size : Int) - 1 := by omega
      clear hl hkl hke
      go_wp2_with fail
      refine (HY.out _).mono ?_
      rintro e w3 ⟨rfl, hb3⟩
      have hB3 := bthen hB2 hb3
      have hfin : (((q.toList == y.toList)) == (a.toList == b.toList)) = true := by rw [HE.out]; simp
      go_wp2_with fail
      go_ret
      exact ⟨rfl, hB3⟩
    · obtain ⟨hi, hc, hd⟩ := get_of_drop hl
      have hrl := hr.ne
      rw [hl] at hkl
      simp only [List.length_cons] at hkl
      have jn : (k : Int) < (q.size : Int) - 1 := by omega
      have i1 : ¬ ((q[k]).toNat : Int) < 32 := by rw [hc]; omega
      have i2 : (((q[k]).toNat : Int) == 34) = false := by rw [hc]; exact beq_eq_false_iff_ne.2 (fun h => c2 (UInt8.toNat_inj.1 (by simpa using Int.ofNat.inj h)))
      have i3 : (((q[k]).toNat : Int) == 92) = false := by rw [hc]; exact beq_eq_false_iff_ne.2 (fun h => c3 (UInt8.toNat_inj.1 (by simpa using Int.ofNat.inj h)))
      have HR := Lib.hid (hd ▸ hr)
      clear hl hc hd hkl
      go_wp2_with fail
      go_roundg gk'
      case rel => exact ⟨k + 1, by go_num, by omega, by omega, HR, rfl, by omega⟩
      case measure => omega
    · obtain ⟨hi, hc, hd⟩ := get_of_drop hl
      obtain ⟨hi2, hc2, hd2⟩ := get_of_drop hd
      have hrl := hr.ne
      rw [hl] at hkl
      simp only [List.length_cons] at hkl
      have jn : (k : Int) < (q.size : Int) - 1 := by omega
      have jm : ((k : Int) + 1 == (q.size : Int) - 1) = false := beq_eq_false_iff_ne.2 (by omega)
      have i1 : ¬ ((q[k]).toNat : Int) < 32 := by rw [hc]; decide
      have i2 : (((q[k]).toNat : Int) == 34) = false := by rw [hc]; rfl
      have i3 : (((q[k]).toNat : Int) == 92) = true := by rw [hc]; rfl
      have HR := Lib.hid (hd2 ▸ hr)
      clear hl hc hd hkl hc2 hd2
      go_wp2_with fail
      go_roundg gk'
      case rel => exact ⟨k + 2, by go_num, by omega, by omega, HR, rfl, by omega⟩
      case measure => omega

theorem own : ownKnob Tryd.prog.godebug = none := by kernel_rfl
theorem laid : laidOutB Tryd.prog = true := by kernel_rfl
set_option maxRecDepth 100000 in
theorem contract (H : Type) (enc : TypeId × Value → H) (W : World) (base : Nat) (args : Array Value) (ds gs : List (DataW H)) (before : List MemPlace)
    (hval0 : ∀ (j : Nat) t v, Tryd.f3.params[j]? = some t → args[j]? = some v → Value.okWide Tryd.prog W .any base t v)
    (hW : DataW.Whole enc Tryd.prog Tryd.f3.params.toList Rows.jSONQuotedSpec.vars false W args.toList ds gs before)
    (hsz0 : (DataW.weightsEach Tryd.prog (Tryd.f3.params.toList ++ Rows.jSONQuotedSpec.plain.varTypes Tryd.prog) (ds ++ gs)).all (· ≤ reachBytes) = true)
    (hk : Rows.uptoSmall H (ds ++ gs) = true)
    (hT : LibP W.heap.size W) :
    Calls Tryd.prog 3 args W fun e W' => ∃ v, e = .returned v ∧ Rows.jSONQuotedSpec.post enc Tryd.prog Tryd.f3 false true false false W args v W' := by
  have hval : ∀ (j : Nat) t v, Tryd.f3.params[j]? = some t → args[j]? = some v → Value.okWide Tryd.prog W .any base t v := hval0
  have hsz : (DataW.weightsEach Tryd.prog (Tryd.f3.params.toList ++ Rows.jSONQuotedSpec.plain.varTypes Tryd.prog) (ds ++ gs)).all (· ≤ reachBytes) = true := hsz0
  have hlt : ∀ x ∈ before, x.block < W.heap.size := fun x hx => hW.lt x hx
  have hW' := hW
  obtain ⟨p, q, hA0, hV, rfl, hfz, hnd⟩ := hW
  have hA : DataW.TrodAll enc Tryd.prog W 0 (fun _ => true) true Tryd.f3.params.toList args.toList ds p := hA0
  rw [Tryd.params3] at hA hval hsz
  obtain ⟨v0, vs0, d0, ds0, p0, q0, hargs, rfl, rfl, h0, r0⟩ := trodAll_cons hA
  obtain ⟨v1, vs1, d1, ds1, p1, q1, rfl, rfl, rfl, h1, r1⟩ := trodAll_cons r0
  obtain ⟨rfl, rfl, rfl⟩ := trodAll_nil r1
  obtain rfl : args = #[v0, v1] := by cases args; simp_all
  obtain ⟨rfl, rfl⟩ := trodVars_none hV
  obtain ⟨a0, rfl, rfl, rfl, w0⟩ := open_string Tryd.underlying9 (hval 0 9 v0 rfl rfl) h0
  have b0 : a0.size ≤ 140737488351232 := by have := sized_string hsz (j := 0) (t := 9) rfl rfl; simpa [reachBytes] using this
  obtain ⟨a1, rfl, rfl, rfl, w1⟩ := open_string Tryd.underlying9 (hval 1 9 v1 rfl rfl) h1
  have b1 : a1.size ≤ 140737488351232 := by have := sized_string hsz (j := 1) (t := 9) rfl rfl; simpa [reachBytes] using this
  have hB := of_decide_eq_true hk
  simp only [List.append_nil, List.cons_append, List.nil_append, Rows.uptoBulkAll, Rows.uptoBulk] at hB
  have u0 : a0.size ≤ 1048576 := by have hl : a0.data.toList.length = a0.size := (by simp); omega
  have u1 : a1.size ≤ 1048576 := by have hl : a1.data.toList.length = a1.size := (by simp); omega
  refine (walk a0 u0 a1 u1 W hT).mono fun e W' ⟨he, hb⟩ => ?_
  subst he
  exact ⟨_, rfl, law_post laid (by kernel_rfl) Tryd.underlying4 rfl rfl hW' rfl rfl rfl rfl hb⟩

theorem reads (os : Os) {H : Type} (enc : TypeId × Value → H) : ∃ places, DataW.whole enc Tryd.prog ((laidWorldP os).forCall (fun _ _ => 0) ⟨#[], #[.string ByteArray.empty, .string ByteArray.empty], []⟩).memory Tryd.f3.params.toList Rows.jSONQuotedSpec.vars false (#[.string ByteArray.empty, .string ByteArray.empty] : Array Value).toList 8 = some ([.lit (.string []), .lit (.string [])], [], places) :=
  ⟨[], by kernel_rfl⟩
set_option maxRecDepth 100000 in
theorem lifted (os : Os) (started : os.Started) (H : Type) (enc : TypeId × Value → H) (F : Stop.Interp) :
    ReturnsInHanded {} Tryd.checked os 3 .any ((Rows.OpenSpec.upto Rows.jSONQuotedSpec).preRow enc Tryd.prog Tryd.f3 Rows.jSONQuotedUptoRow.domain false Rows.jSONQuotedUptoRow.laid) (((Rows.OpenSpec.upto Rows.jSONQuotedSpec).at F).post enc Tryd.prog Tryd.f3 false true false false) := by
  obtain ⟨places, hx⟩ := reads os enc
  refine returnsInHanded_of_row (C := Tryd.checked) (s := (Rows.OpenSpec.upto Rows.jSONQuotedSpec)) own started (by kernel_rfl) Tryd.func3
    (witness_row_atRef (enc := enc) (C := Tryd.checked) false (laidWorldP os) #[.string ByteArray.empty, .string ByteArray.empty] rfl (by kernel_rfl) (by kernel_rfl) (by kernel_rfl)
      (OpenSpec.preRow_of_cond 8 hx (by kernel_rfl) (fun k hk => by cases hk; kernel_rfl) (by kernel_rfl) (laid_metP os _))) ?_
  intro W base args ds gs before hval0 hW _ hcond hsz0 hL _ _
  exact contract H enc W base args ds gs before hval0 hW hsz0 (hcond _ rfl) (libP_of_laid hL)

theorem said : Rows.JSONQuotedUptoSaid :=
  OpenClaim.holds_of_cond 3 Tryd.f3 rfl rfl rfl rfl rfl rfl rfl ⟨rfl, rfl, rfl, rfl, rfl⟩ rfl rfl rfl rfl rfl (by kernel_rfl) Tryd.func3 (by kernel_rfl)
    (of_decide_eq_true (by kernel_rfl)) (by unfold Func.isWrapper; first | (rw [if_pos (by decide +kernel)]; kernel_rfl) | (rw [if_neg (by decide +kernel)]; exact ⟨rfl, rfl⟩))
    (fun os started H enc _ F => by rw [OpenClaim.pre_eq_preRow]; exact lifted os started H enc F)

/-- No parameter wants a stand-in; the program's own looks are off. -/
theorem plain (f : FuncId) (fn : Func) (hf : Tryd.pinned.checked.prog.funcNamed "bracken/brackenkeep.JSONQuoted" = some f) (hfn : Tryd.pinned.checked.prog.funcs[f]? = some fn) :
    false = Tryd.pinned.checked.prog.looks [] ∧ ∀ (j : Nat) t, fn.params[j]? = some t → Tryd.pinned.checked.prog.wantsStandIn t = false := by
  obtain rfl : f = 3 := Option.some.inj ((show Tryd.prog.funcNamed "bracken/brackenkeep.JSONQuoted" = some 3 by kernel_rfl).symm.trans hf) |>.symm
  obtain rfl : fn = Tryd.f3 := (Option.some.inj (Tryd.func3.symm.trans hfn)).symm
  refine ⟨by kernel_rfl, fun j t ht => ?_⟩
  rw [Tryd.params3] at ht
  have hm := Array.mem_of_getElem? ht
  have hall : (#[9, 9] : Array TypeId).all (fun t => !Tryd.prog.wantsStandIn t) = true := by kernel_rfl
  have := Array.all_eq_true_iff_forall_mem.1 hall t (by simpa using hm)
  show Tryd.prog.wantsStandIn t = false
  simpa using this

/-- The statement. -/
theorem proved : Rows.JSONQuotedUptoCardSaid :=
  Claim7.holds_tied_plain_at .later [] _ _ _ _ said (fun _ h => by cases h) (by kernel_rfl) (fun _ h => by cases h) jSONQuotedUpto_row_tie rfl ⟨rfl, rfl⟩ (by kernel_rfl) rfl plain (by kernel_rfl)
#print axioms proved
end Go.Proofs.YtoepchgoacdodaaDoor.jSONQuoted
