/-
  The law WireSizes of package brackenkeep: for every input it answers true.
-/
import Derived.Test.YtejdhcipmkaboaaDoorRows
import Derived.Test.YtejdhcipmkaboaaDoorPkBase
import Derived.Test.YtejdhcipmkaboaaDoorPkEnc
import Derived.Test.YtejdhcipmkaboaaDoorPkWired
import Derived.Test.YtejdhcipmkaboaaDoorPkStateB
set_option linter.unusedVariables false
set_option linter.unusedSimpArgs false
namespace Go.Proofs.YtejdhcipmkaboaaDoor.wireSizes
open Go.ChangeShapes Go.WideShapes Go.ChangeAt Go.RowKit Go.Joins
open Go.ChangeMaps (open_string)
theorem encJ_mono (u v : Int) (h : u ≤ v) (j : JobD) : (encJ u j).length ≤ (encJ v j).length := by
  have h1 : (if decide (1 < u) = true then putN j.tries.toNat else []).length ≤ (if decide (1 < v) = true then putN j.tries.toNat else []).length := by
    by_cases hu : 1 < u
    · rw [if_pos (decide_eq_true hu), if_pos (decide_eq_true (by omega))]; exact Nat.le_refl _
    · rw [if_neg (by simp [hu])]; simp
  have h2 : (if decide (2 < u) = true then textB j.tag.data.toList else []).length ≤ (if decide (2 < v) = true then textB j.tag.data.toList else []).length := by
    by_cases hu : 2 < u
    · rw [if_pos (decide_eq_true hu), if_pos (decide_eq_true (by omega))]; exact Nat.le_refl _
    · rw [if_neg (by simp [hu])]; simp
  unfold encJ
  simp only [List.length_append]
  omega
theorem encN_mono (u v : Int) (h : u ≤ v) (j : NodeD) : (encN u j).length ≤ (encN v j).length := by
  have h2 : (if decide (1 < u) = true then textB j.zone.data.toList else []).length ≤ (if decide (1 < v) = true then textB j.zone.data.toList else []).length := by
    by_cases hu : 1 < u
    · rw [if_pos (decide_eq_true hu), if_pos (decide_eq_true (by omega))]; exact Nat.le_refl _
    · rw [if_neg (by simp [hu])]; simp
  unfold encN
  simp only [List.length_append]
  omega
theorem rowsB_mono {α : Type} {f g : α → List UInt8} (h : ∀ x, (f x).length ≤ (g x).length) (l : List α) : (rowsB f l).length ≤ (rowsB g l).length := by
  unfold rowsB
  rw [List.length_append, List.length_append]
  have : (l.flatMap f).length ≤ (l.flatMap g).length := by
    induction l with
    | nil => simp
    | cons a r ih => rw [List.flatMap_cons, List.flatMap_cons, List.length_append, List.length_append]; have := h a; omega
  omega
theorem encS_mono (u v : Int) (h : u ≤ v) (s : St) : (encS u s).length ≤ (encS v s).length := by
  have h0 : (if decide (2 < u) = true then putN s.rev.toNat else []).length ≤ (if decide (2 < v) = true then putN s.rev.toNat else []).length := by
    by_cases hu : 2 < u
    · rw [if_pos (decide_eq_true hu), if_pos (decide_eq_true (by omega))]; exact Nat.le_refl _
    · rw [if_neg (by simp [hu])]; simp
  have h1 := rowsB_mono (encJ_mono u v h) s.jobs
  have h2 := rowsB_mono (encN_mono u v h) s.nodes
  unfold encS
  simp only [List.length_append]
  omega
set_option maxHeartbeats 8000000 in
set_option maxRecDepth 100000 in
theorem walk (s : St) (p1 p2 p3 : Option Addr) (c1 c2 c3 : Nat) (w : World) (hm : StM w w.heap.size p1 p2 p3 s) (hk : StOk s) (hT : Tabs w) :
    Calls Tryd.prog 6 #[.agg #[.int .i64 s.rev, .slice p1 s.jobs.length c1, .slice p2 s.nodes.length c2, .slice p3 s.leases.length c3]] w fun e w' => e = .returned (.bool true) ∧ Below w.heap.size w w' := by
  have hb0 : Below w.heap.size w (w.alloc (.cells #[Value.int .i64 s.rev, Value.slice p1 s.jobs.length c1, Value.slice p2 s.nodes.length c2, Value.slice p3 s.leases.length c3] 26)) := (Below.refl _ _).alloc (Nat.le_refl _) _
  have bx0 := Blk.new w 26 #[Value.int .i64 s.rev, Value.slice p1 s.jobs.length c1, Value.slice p2 s.nodes.length c2, Value.slice p3 s.leases.length c3]
  have hz := hk.sz
  have HE := Lib.hid (fun (v : Int) (W : World) (hW : Below w.heap.size w W) => encode_state s v p1 p2 p3 c1 c2 c3 W ((hm.below hW).more hW.size) hz (hT.below hW))
  have HT := Lib.hid hT
  clear hT hm hz hk
  · go_enter Tryd.func6, Tryd.ntmps6
    go_wp2_with fail
    generalize w.alloc _ = W0 at *
    refine (wired_any W0 (HT.out.below hb0)).mono ?_
    rintro e w1 ⟨rfl, hb1⟩
    have hB1 := hb0.trans (hb1.mono hb0.size)
    have bx1 := bx0.below hb1 bx0.lt
    clear hb1 hb0 bx0
    go_wp2_with fail
    go_loopw [3, 4] (fun b v wr => ∃ (k n : Nat), 1 ≤ k ∧ k ≤ 4 ∧ v = .int .i64 k ∧ b = .int .i64 n ∧ n ≤ 20000 ∧ Hid (∀ u : Nat, k ≤ u → n ≤ (encS (u : Int) s).length) ∧ Below w1.heap.size w1 wr) (fun _ v _ => 4 - (intOf v).toNat)
    case atStart => exact ⟨1, 0, by omega, by omega, rfl, rfl, by omega, (fun _ _ => Nat.zero_le _ : ∀ u : Nat, 1 ≤ u → 0 ≤ (encS (u : Int) s).length), Below.refl _ _⟩
    case round =>
      obtain ⟨k, n, hk1, hk4, rfl, rfl, hn, HN, hbr⟩ := hrel
      have hB2 := hB1.trans (hbr.mono hB1.size)
      have bxr := bx1.below hbr bx1.lt
      have e0 : wr.cell? ⟨w.heap.size, 0, none⟩ = some (.int .i64 s.rev) := bxr.cell 0
      have e1 : wr.cell? ⟨w.heap.size, 1, none⟩ = some (.slice p1 s.jobs.length c1) := bxr.cell 1
      have e2 : wr.cell? ⟨w.heap.size, 2, none⟩ = some (.slice p2 s.nodes.length c2) := bxr.cell 2
      have e3 : wr.cell? ⟨w.heap.size, 3, none⟩ = some (.slice p3 s.leases.length c3) := bxr.cell 3
      by_cases hk3 : k ≤ 3
      · by_cases hE : (encR (k : Int) s).2 = 0
        · obtain ⟨h1, h2, h3, _⟩ := encR_ok hE
          have hl := encS_len h2
          have hl3 := encS_pos (k : Int) s
          have he := HE.out (k : Int) wr hB2
          rw [h1] at he
          have HE2 := Lib.hid he
          have hge := HN.out k (Nat.le_refl _)
          have HN2 := Lib.hid (show ∀ u : Nat, k + 1 ≤ u → (encS (k : Int) s).length ≤ (encS (u : Int) s).length from fun u hu => encS_mono _ _ (by omega) s)
          generalize encS (k : Int) s = out at *
          have hsz : (bstr out).size = out.length := bstr_size out
          have hnl : ¬ (out.length : Int) < (n : Int) := by omega
          have hnl3 : ¬ (out.length : Int) < 3 := by omega
          clear h1 h2 h3 hE he HN
          go_wp2_with fail
          refine HE2.out.mono ?_
          rintro e w4 ⟨rfl, hb4⟩
          go_wp2_with fail
          go_roundw
          case rel => exact ⟨k + 1, out.length, by omega, by omega, by go_num, by first | rfl | rw [hsz], by omega, HN2.out, hbr.trans (hb4.mono hbr.size)⟩
          case measure => simp [intOf]; omega
        · have hne : (((encR (k : Int) s).2 : Int) != 0) = true := by rw [bne_iff_ne]; omega
          have HE2 := Lib.hid (HE.out (k : Int) wr hB2)
          have HN2 := Lib.hid (show ∀ u : Nat, k + 1 ≤ u → n ≤ (encS (u : Int) s).length from fun u hu => HN.out u (by omega))
          generalize encR (k : Int) s = ee at *
          clear hE HN
          go_wp2_with fail
          refine HE2.out.mono ?_
          rintro e w4 ⟨rfl, hb4⟩
          go_wp2_with fail
          go_roundw
          case rel => exact ⟨k + 1, n, by omega, by omega, by go_num, rfl, hn, HN2.out, hbr.trans (hb4.mono hbr.size)⟩
          case measure => simp [intOf]; omega
      · obtain rfl : k = 4 := by omega
        go_wp2_with fail
        go_ret
        exact ⟨rfl, hB2⟩

theorem own : ownKnob Tryd.prog.godebug = none := by kernel_rfl
theorem laid : laidOutB Tryd.prog = true := by kernel_rfl
set_option maxRecDepth 100000 in
theorem contract (H : Type) (enc : TypeId × Value → H) (W : World) (base : Nat) (args : Array Value) (ds gs : List (DataW H)) (before : List MemPlace)
    (hval0 : ∀ (j : Nat) t v, Tryd.f6.params[j]? = some t → args[j]? = some v → Value.okWide Tryd.prog W .any base t v)
    (hW : DataW.Whole enc Tryd.prog Tryd.f6.params.toList Rows.wireSizesSpec.vars false W args.toList ds gs before)
    (hsz0 : (DataW.weightsEach Tryd.prog (Tryd.f6.params.toList ++ Rows.wireSizesSpec.plain.varTypes Tryd.prog) (ds ++ gs)).all (· ≤ reachBytes) = true)
    (hT : Tabs W) :
    Calls Tryd.prog 6 args W fun e W' => ∃ v, e = .returned v ∧ Rows.wireSizesSpec.post enc Tryd.prog Tryd.f6 false true false false W args v W' := by
  have hval : ∀ (j : Nat) t v, Tryd.f6.params[j]? = some t → args[j]? = some v → Value.okWide Tryd.prog W .any base t v := hval0
  have hsz : (DataW.weightsEach Tryd.prog (Tryd.f6.params.toList ++ Rows.wireSizesSpec.plain.varTypes Tryd.prog) (ds ++ gs)).all (· ≤ reachBytes) = true := hsz0
  have hlt : ∀ x ∈ before, x.block < W.heap.size := fun x hx => hW.lt x hx
  have hW' := hW
  obtain ⟨p, q, hA0, hV, rfl, hfz, hnd⟩ := hW
  have hA : DataW.TrodAll enc Tryd.prog W 0 (fun _ => true) true Tryd.f6.params.toList args.toList ds p := hA0
  rw [Tryd.params6] at hA hval hsz
  obtain ⟨v0, vs0, d0, ds0, p0, q0, hargs, rfl, rfl, h0, r0⟩ := trodAll_cons hA
  obtain ⟨rfl, rfl, rfl⟩ := trodAll_nil r0
  obtain rfl : args = #[v0] := by cases args; simp_all
  obtain ⟨rfl, rfl⟩ := trodVars_none hV
  obtain ⟨s0, pj0, pn0, pl0, cj0, cn0, cl0, rfl, hm0, hk0⟩ := open_state (hval 0 26 v0 rfl rfl) h0 hsz (j := 0) rfl rfl
  refine (walk s0 pj0 pn0 pl0 cj0 cn0 cl0 W hm0 hk0 hT).mono fun e W' ⟨he, hb⟩ => ?_
  subst he
  exact ⟨_, rfl, law_post laid (by kernel_rfl) Tryd.underlying4 rfl rfl hW' rfl rfl rfl rfl hb⟩

theorem reads (os : Os) {H : Type} (enc : TypeId × Value → H) : ∃ places, DataW.whole enc Tryd.prog ((laidWorld os).forCall (fun _ _ => 0) ⟨#[], #[.agg #[.int .i64 0, .slice none 0 0, .slice none 0 0, .slice none 0 0]], []⟩).memory Tryd.f6.params.toList Rows.wireSizesSpec.vars false (#[.agg #[.int .i64 0, .slice none 0 0, .slice none 0 0, .slice none 0 0]] : Array Value).toList 8 = some ([.agg [.lit (.int .i64 0), .nil, .nil, .nil]], [], places) :=
  ⟨[], by kernel_rfl⟩
set_option maxRecDepth 100000 in
theorem lifted (os : Os) (started : os.Started) (H : Type) (enc : TypeId × Value → H) (F : Stop.Interp) :
    ReturnsInHanded {} Tryd.checked os 6 .any ((OpenSpec.ofChange Rows.wireSizesSpec).preRow enc Tryd.prog Tryd.f6 Rows.wireSizesRow.domain false Rows.wireSizesRow.laid) (((OpenSpec.ofChange Rows.wireSizesSpec).at F).post enc Tryd.prog Tryd.f6 false true false false) := by
  obtain ⟨places, hx⟩ := reads os enc
  refine returnsInHanded_of_row (C := Tryd.checked) (s := (OpenSpec.ofChange Rows.wireSizesSpec)) own started (by kernel_rfl) Tryd.func6
    (witness_row_atRef (enc := enc) (C := Tryd.checked) false (laidWorld os) #[.agg #[.int .i64 0, .slice none 0 0, .slice none 0 0, .slice none 0 0]] rfl (by kernel_rfl) (by kernel_rfl) (by kernel_rfl)
      (OpenSpec.preRow_of_cond 8 hx (by kernel_rfl) (fun k hk => by cases hk) (by kernel_rfl) (laid_met os _))) ?_
  intro W base args ds gs before hval0 hW _ hcond hsz0 hL _ _
  exact contract H enc W base args ds gs before hval0 hW hsz0 (tabs_of_laid hL)

theorem said : Rows.WireSizesSaid :=
  OpenClaim.holds_of_cond 6 Tryd.f6 rfl rfl rfl rfl rfl rfl rfl ⟨rfl, rfl, rfl, rfl, rfl⟩ rfl rfl rfl rfl rfl (by kernel_rfl) Tryd.func6 (by kernel_rfl)
    (of_decide_eq_true (by kernel_rfl)) (by unfold Func.isWrapper; first | (rw [if_pos (by decide +kernel)]; kernel_rfl) | (rw [if_neg (by decide +kernel)]; exact ⟨rfl, rfl⟩))
    (fun os started H enc _ F => by rw [OpenClaim.pre_eq_preRow]; exact lifted os started H enc F)

/-- No parameter wants a stand-in; the program's own looks are off. -/
theorem plain (f : FuncId) (fn : Func) (hf : Tryd.pinned.checked.prog.funcNamed "bracken/brackenkeep.WireSizes" = some f) (hfn : Tryd.pinned.checked.prog.funcs[f]? = some fn) :
    false = Tryd.pinned.checked.prog.looks [] ∧ ∀ (j : Nat) t, fn.params[j]? = some t → Tryd.pinned.checked.prog.wantsStandIn t = false := by
  obtain rfl : f = 6 := Option.some.inj ((show Tryd.prog.funcNamed "bracken/brackenkeep.WireSizes" = some 6 by kernel_rfl).symm.trans hf) |>.symm
  obtain rfl : fn = Tryd.f6 := (Option.some.inj (Tryd.func6.symm.trans hfn)).symm
  refine ⟨by kernel_rfl, fun j t ht => ?_⟩
  rw [Tryd.params6] at ht
  have hm := Array.mem_of_getElem? ht
  have hall : (#[26] : Array TypeId).all (fun t => !Tryd.prog.wantsStandIn t) = true := by kernel_rfl
  have := Array.all_eq_true_iff_forall_mem.1 hall t (by simpa using hm)
  show Tryd.prog.wantsStandIn t = false
  simpa using this

/-- The statement. -/
theorem proved : Rows.WireSizesCardSaid :=
  Claim7.holds_tied_plain_at .later [] _ _ _ _ said (fun _ h => by cases h) (by kernel_rfl) (fun _ h => by cases h) wireSizes_row_tie rfl ⟨rfl, rfl⟩ (by kernel_rfl) rfl plain (by kernel_rfl)
#print axioms proved
end Go.Proofs.YtejdhcipmkaboaaDoor.wireSizes
